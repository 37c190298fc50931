/- Steps that change owned memory: a key renamed, an append. -/
import Derived.Test.YtclgjiffpijgmaaAa
set_option linter.unusedVariables false
set_option linter.unusedSimpArgs false
set_option maxHeartbeats 16000000
set_option maxRecDepth 100000
namespace Go.CT

/-- A block goes on under a fresh key; the old key is spent. -/
theorem sim_rekey {m : Nat} {I : Nat → Prop} {w : World} {s : Sg} {hp : Hp} (H : SimH I w s hp) (k kn : Nat) (cs : List C) (hk : hp k = some (some cs)) (hn : hp kn = none) (hm : m ≤ kn) :
    let s' := upd s kn (s k)
    let hp' := upd (upd hp k (some none)) kn (some (some cs))
    s.le s' ∧ SimH I w s' hp' ∧ Ext m I w s hp I w s' hp' := by
  intro s' hp'
  have hsk : s kn = none := H.top kn hn
  have hkne : k ≠ kn := fun e => by rw [e, hn] at hk; cases hk
  have hle : s.le s' := fun j x hj => by
    have : j ≠ kn := fun e => by rw [e, hsk] at hj; cases hj
    simp [s', upd_ne _ _ this, hj]
  have hlive : ∀ b, Live s' hp' b → Live s hp b := by
    rintro b ⟨j, cs', hj, hs⟩
    by_cases e : j = kn
    · subst e
      simp only [s', upd_same] at hs
      exact ⟨k, cs, hk, hs⟩
    · simp only [s', upd_ne _ _ e] at hs
      simp only [hp', upd_ne _ _ e] at hj
      by_cases e2 : j = k
      · subst e2; simp [upd_same] at hj
      · rw [upd_ne _ _ e2] at hj
        exact ⟨j, cs', hj, hs⟩
  have hext : Ext m I w s hp I w s' hp' :=
    ⟨rfl, rfl, rfl, Nat.le_refl _, fun _ _ _ => rfl, Shp.refl _, fun j hj => upd_ne _ _ (by omega), fun _ h => h, fun _ h => .inl h, fun b h => .inl (hlive b h)⟩
  have old : ∀ i csi, hp' i = some (some csi) → ∃ i', hp i' = some (some csi) ∧ s' i = s i' ∧ (i = kn ∧ i' = k ∨ i ≠ kn ∧ i ≠ k ∧ i' = i) := by
    intro i csi hi
    by_cases e : i = kn
    · subst e
      simp only [hp', upd_same, Option.some.injEq] at hi
      subst hi
      exact ⟨k, hk, by simp [s', upd_same], .inl ⟨rfl, rfl⟩⟩
    · simp only [hp', upd_ne _ _ e] at hi
      by_cases e2 : i = k
      · subst e2; simp [upd_same] at hi
      · rw [upd_ne _ _ e2] at hi
        exact ⟨i, hi, by simp [s', upd_ne _ _ e], .inr ⟨e, e2, rfl⟩⟩
  refine ⟨hle, ⟨fun j hj => ?_, fun j csj hj => ?_, fun j j' b cs1 cs2 h1 h2 h3 h4 => ?_, H.imm⟩, hext⟩
  · by_cases e : j = kn
    · subst e; simp [hp', upd_same] at hj
    · simp only [hp', upd_ne _ _ e] at hj
      simp only [s', upd_ne _ _ e]
      by_cases e2 : j = k
      · subst e2; simp [upd_same] at hj
      · rw [upd_ne _ _ e2] at hj; exact H.top j hj
  · obtain ⟨i', hi', hs', _⟩ := old j csj hj
    rw [hs']
    rcases H.blk i' csj hi' with h1 | ⟨b, arr, T, h1, h2, h3, h4, h5⟩
    · exact .inl h1
    · refine .inr ⟨b, arr, T, h1, h2, h3, h4, fun j' h' => ?_⟩
      obtain ⟨y, hy, hr⟩ := h5 j' h'
      exact ⟨y, hy, hext.rc H hle hr⟩
  · obtain ⟨i1, g1, g2, g3⟩ := old j cs1 h1
    obtain ⟨i2, f1, f2, f3⟩ := old j' cs2 h2
    rw [g2] at h3
    rw [f2] at h4
    have := H.inj i1 i2 b cs1 cs2 g1 f1 h3 h4
    omega

/-- Several blocks hold what they held when only one is written: what a list of values reads as survives. -/
theorem RCs.ext {m : Nat} {I I' : Nat → Prop} {w w' : World} {s s' : Sg} {hp hp' : Hp} (h : Ext m I w s hp I' w' s' hp') (H : SimH I w s hp) (hle : s.le s') {arr : Array Value} {cs : List C}
    (hr : RCs I w s arr cs) : RCs I' w' s' arr cs := ⟨hr.1, fun j h1 h2 => h.rc H hle (hr.2 j h1 h2)⟩

section
variable {P : Program}

/-- The cells that a slice (or nil) lends to an append. -/
def lends (hp : Hp) : D → Option (Nat × Nat × List C)
  | .c (.isl sz xs) => some (xs.length, sz, xs.flatten)
  | .c (.msl k sz off len) => (match hp k with | some (some cs) => some (len, sz, (cs.drop off).take (len * sz)) | _ => none)
  | .c (.v (.slice _ 0 _)) => some (0, 0, [])
  | .c .z => some (0, 0, [])
  | _ => none

theorem flatten_length (sz : Nat) : ∀ (xs : List (List C)), (∀ x ∈ xs, x.length = sz) → xs.flatten.length = xs.length * sz
  | [], _ => by simp
  | x :: r, h => by
    rw [List.flatten_cons, List.length_append, h x (by simp), flatten_length sz r (fun y hy => h y (by simp [hy])), List.length_cons, Nat.add_mul]; omega

theorem flatten_get (sz : Nat) : ∀ (xs : List (List C)), (∀ x ∈ xs, x.length = sz) → ∀ (j : Nat), j < xs.length * sz → ∃ (i t : Nat) (hi : i < xs.length) (ht : t < xs[i].length), j = i * sz + t ∧ t < sz ∧ xs.flatten[j]? = some (xs[i])[t]
  | [], _, j, hj => by simp at hj
  | x :: r, h, j, hj => by
    have hx : x.length = sz := h x (by simp)
    by_cases hlt : j < sz
    · refine ⟨0, j, by simp, by simpa [hx] using hlt, by omega, hlt, ?_⟩
      rw [List.flatten_cons, List.getElem?_append_left (by omega)]
      simp [hx, hlt]
    · rw [List.length_cons, Nat.add_mul] at hj
      obtain ⟨i, t, hi, ht, e, ht2, hg⟩ := flatten_get sz r (fun y hy => h y (by simp [hy])) (j - sz) (by omega)
      refine ⟨i + 1, t, by simpa using hi, by simpa using ht, by rw [Nat.add_mul]; omega, ht2, ?_⟩
      rw [List.flatten_cons, List.getElem?_append_right (by omega), hx, hg]
      simp

/-- What is lent lies there to be read. -/
theorem lends_sound {I : Nat → Prop} {w : World} {s : Sg} {hp : Hp} (H : SimH I w s hp) {x : Value} {d : D} (h : RD I w s x d) {n sz : Nat} {cs : List C} (hl : lends hp d = some (n, sz, cs)) :
    ∃ a cap, x = .slice a n cap ∧ n ≤ cap ∧ (n = 0 ∧ cs = [] ∨ ∃ (b off : Nat) (ys : List Value), a = some ⟨b, off, none⟩ ∧ (cs.length = n * sz → ys.length = n * sz ∧ (∀ j v, ys[j]? = some v → w.cell? ⟨b, off + j, none⟩ = some v) ∧ RCs I w s ys.toArray cs)) := by
  unfold lends at hl
  split at hl
  · rename_i sz' xs
    simp only [Option.some.injEq, Prod.mk.injEq] at hl
    obtain ⟨rfl, rfl, rfl⟩ := hl
    obtain ⟨a, cap, hx, hcap, hcase⟩ := rd_isl h
    refine ⟨a, cap, hx, hcap.1, ?_⟩
    rcases hcase with hnil | ⟨b, off, y, rfl, hI, hlen, hc, hr⟩
    · subst hnil; exact .inl ⟨rfl, rfl⟩
    · right
      have hall : ∀ x ∈ xs, x.length = sz' := fun x hx => by
        obtain ⟨i, hi, e⟩ := List.mem_iff_getElem.1 hx
        rw [← e]; exact hlen i hi
      have hfl := flatten_length sz' xs hall
      refine ⟨b, off, (List.range (xs.length * sz')).map (fun j => y (j / sz') (j % sz')), rfl, fun _ => ⟨by simp, fun j v hv => ?_, by simp [hfl], fun j h1 h2 => ?_⟩⟩
      · simp only [List.getElem?_map] at hv
        by_cases hj : j < xs.length * sz'
        · rw [List.getElem?_range hj] at hv
          simp only [Option.map_some, Option.some.injEq] at hv
          have hpos : 0 < sz' := by
            rcases Nat.eq_zero_or_pos sz' with h0 | h0
            · subst h0; omega
            · exact h0
          have h1 : j / sz' < xs.length := (Nat.div_lt_iff_lt_mul hpos).2 hj
          have h2 : j % sz' < sz' := Nat.mod_lt _ hpos
          have := hc (j / sz') (j % sz') h1 h2
          rw [hv] at this
          rw [← this]
          congr 2
          have := Nat.div_add_mod j sz'
          rw [Nat.mul_comm] at this
          omega
        · rw [List.getElem?_eq_none (by simp; omega)] at hv; cases hv
      · have hj : j < xs.length * sz' := by simpa using h1
        obtain ⟨i, t, hi, ht, e, ht2, hg⟩ := flatten_get sz' xs hall j hj
        have e2 : xs.flatten[j] = (xs[i])[t] := by
          have : xs.flatten[j]? = some xs.flatten[j] := by simp [h2]
          rw [this] at hg
          exact Option.some.inj hg
        rw [e2]
        have hdiv : j / sz' = i := by
          rw [e, Nat.mul_comm, Nat.mul_add_div (by omega), Nat.div_eq_of_lt ht2, Nat.add_zero]
        have hmod : j % sz' = t := by
          rw [e, Nat.mul_comm, Nat.mul_add_mod, Nat.mod_eq_of_lt ht2]
        simp only [List.getElem_toArray, List.getElem_map, List.getElem_range, hdiv, hmod]
        exact (hr i hi t ht).any s
  · rename_i k sz' off len
    split at hl
    · rename_i csk hk
      simp only [Option.some.injEq, Prod.mk.injEq] at hl
      obtain ⟨rfl, rfl, rfl⟩ := hl
      rcases rd_msl h with ⟨a, hx, hs, rfl, rfl⟩ | ⟨b, cap, arr, T, fr, hx, hs, hlc, hb, hcp⟩
      · exact ⟨a, 0, hx, Nat.le_refl _, .inl ⟨rfl, by simp⟩⟩
      · refine ⟨_, cap, hx, hlc.1, .inr ⟨b, off, ((arr.toList.drop off).take (len * sz')), rfl, fun hcl => ?_⟩⟩
        obtain ⟨arr', T', hb', hl', hr⟩ := live_cells H hk hs
        rw [hb] at hb'
        simp only [Option.some.injEq, Obj.cells.injEq] at hb'
        obtain ⟨rfl, rfl, rfl⟩ := hb'
        have hcl' : off + len * sz' ≤ csk.length ∨ len * sz' = 0 := by
          simp only [List.length_take, List.length_drop] at hcl
          omega
        have hsz : off + len * sz' ≤ arr.size := by
          have : len * sz' ≤ cap * sz' := Nat.mul_le_mul_right _ hlc.1
          omega
        refine ⟨by simp; omega, fun j v hv => ?_, by simp at hcl ⊢; omega, fun j h1 h2 => ?_⟩
        · have hj : j < len * sz' := by
            have := (List.getElem?_eq_some_iff.1 hv).1
            simp at this
            omega
          rw [List.getElem?_take_of_lt hj, List.getElem?_drop] at hv
          simpa [World.cell?, hb] using hv
        · have hj : j < len * sz' := by simp at h1; omega
          have hj2 : off + j < csk.length := by omega
          obtain ⟨y, hy, hry⟩ := hr (off + j) hj2
          have e1 : ((arr.toList.drop off).take (len * sz')).toArray[j] = y := by
            obtain ⟨_, e⟩ := Array.getElem?_eq_some_iff.1 hy
            simp [e]
          have e2 : ((csk.drop off).take (len * sz'))[j] = csk[off + j] := by simp
          rw [e1, e2]
          exact hry
    · cases hl
  · simp only [Option.some.injEq, Prod.mk.injEq] at hl
    obtain ⟨rfl, rfl, rfl⟩ := hl
    obtain ⟨h1, _⟩ := rd_scalar h
    exact ⟨_, _, h1, Nat.zero_le _, .inl ⟨rfl, rfl⟩⟩
  · simp only [Option.some.injEq, Prod.mk.injEq] at hl
    obtain ⟨rfl, rfl, rfl⟩ := hl
    obtain ⟨a, h1⟩ := rd_z h
    exact ⟨a, 0, h1, Nat.le_refl _, .inl ⟨rfl, rfl⟩⟩
  · cases hl

end
end Go.CT

namespace Go.CT

section
variable {P : Program}

theorem append_room {t ty el : TypeId} {i : TypeInfo} (ht : P.underlying t = some (.slice el)) (hi : P.info? el = some i) (w : World) (b len cap m c : Nat) (T : TypeId) (arr : Array Value) (a : Option Addr) (news : List Value)
    (hb : w.heap[b]? = some (.cells arr T (0, 0))) (hf : (Builtin.firstCells i.size m (.slice a m c)).run P w = .ok news.toArray w) (h1 : ∀ v ∈ news, one v = true) (hroom : len + m ≤ cap) (hfit : len * i.size + news.length ≤ arr.size) :
    (Builtin.append_ #[t, t] ty #[.slice (some ⟨b, 0, none⟩) len cap, .slice a m c]).run P w =
      .ok (.slice (some ⟨b, 0, none⟩) (len + m) cap) { w with heap := w.heap.setIfInBounds b (.cells (setCells arr (len * i.size) news) T (0, 0)) } := by
  have hst := run_storeCells (P := P) b T news arr w (len * i.size) 0 hb (by simpa using hfit) h1
  simp only [Nat.add_zero] at hst
  have hadd : (⟨b, 0, none⟩ : Addr).add (len * i.size) = ⟨b, len * i.size, none⟩ := by rw [add_plain]; simp
  simp [Builtin.append_, Go.run_underlying ht, sizeOf, typeInfo, hi, Builtin.lenOf, hroom, hf, hadd, hst]

theorem append_room_none {t ty el : TypeId} {i : TypeInfo} (ht : P.underlying t = some (.slice el)) (hi : P.info? el = some i) (w : World) (len cap m c : Nat) (a : Option Addr) (news : List Value)
    (hf : (Builtin.firstCells i.size m (.slice a m c)).run P w = .ok news.toArray w) (hroom : len + m ≤ cap) :
    (Builtin.append_ #[t, t] ty #[.slice none len cap, .slice a m c]).run P w = .ok (.slice none (len + m) cap) w := by
  simp [Builtin.append_, Go.run_underlying ht, sizeOf, typeInfo, hi, Builtin.lenOf, hroom, hf]

theorem firstCells_zero (size : Nat) (a : Option Addr) (c : Nat) (w : World) : (Builtin.firstCells size 0 (.slice a 0 c)).run P w = .ok #[] w := by
  cases a with
  | none => simp [Builtin.firstCells]
  | some a => simp only [Builtin.firstCells, Nat.zero_mul]; rfl

theorem append_grow {t ty el : TypeId} {i : TypeInfo} {z : Value} (ht : P.underlying t = some (.slice el)) (hi : P.info? el = some i) (hz : i.zero = some z) (w : World) (sa : Option Addr) (len cap : Nat) (olds : List Value)
    (ho : (Builtin.firstCells i.size len (.slice sa len cap)).run P { w with drawn := w.drawn + 1 } = .ok olds.toArray { w with drawn := w.drawn + 1 }) (a : Option Addr) (m c : Nat) (news : List Value)
    (hf : (Builtin.firstCells i.size m (.slice a m c)).run P { w with drawn := w.drawn + 1 } = .ok news.toArray { w with drawn := w.drawn + 1 })
    (hg : cap < len + m) (h63 : ((len + m : Nat) : Int) ≤ 9223372036854775807) (hfit : Builtin.nextslicecap (len + m) cap * i.bytes ≤ 281474976710656) :
    (Builtin.append_ #[t, t] ty #[.slice sa len cap, .slice a m c]).run P w =
      .ok (.slice (some ⟨w.heap.size, 0, none⟩) (len + m) (grownCap w (len + m) cap el))
        (w.drew.alloc (.cells (olds.toArray ++ news.toArray ++ Builtin.zeroCells z.cells (grownCap w (len + m) cap el - (len + m))) el)) := by
  have hn : ¬ (len + m ≤ cap) := by omega
  have h63' : ¬ (9223372036854775807 < ((len : Int) + (m : Int))) := by omega
  have h48' : ¬ (281474976710656 < Builtin.nextslicecap (len + m) cap * i.bytes) := by omega
  have e : ({ w with drawn := w.drawn + 1 } : World) = w.drew := rfl
  rw [e] at ho hf
  simp [Builtin.append_, Go.run_underlying ht, sizeOf, typeInfo, zeroValue, hi, hz, Builtin.lenOf, hn, h63', h48', Question.forced, ho, hf, newRow, grownCap]
  have e2 : ∀ (x y : List Value) (z : Array Value), x.toArray ++ (y.toArray ++ z) = (x ++ y).toArray ++ z := fun x y z => by
    apply Array.ext'; simp
  rw [e2]

theorem grownCap_ge' (w : World) (need old : Nat) (e : TypeId) : need ≤ grownCap w need old e := by
  unfold grownCap Question.cut
  simp

theorem firstCells_row (w : World) (size m c b off : Nat) (ys : List Value) (hl : ys.length = m * size) (hy : ∀ j v, ys[j]? = some v → w.cell? ⟨b, off + j, none⟩ = some v) :
    (Builtin.firstCells size m (.slice (some ⟨b, off, none⟩) m c)).run P w = .ok ys.toArray w := by
  simp only [Builtin.firstCells]
  have := run_loadCells (P := P) b off (fun j => ys.getD j undef) w (m * size) (fun j hj => by
    have hj' : j < ys.length := by omega
    refine hy j _ ?_
    simp [List.getD_eq_getElem?_getD, hj'])
  rw [this]
  congr 2
  apply List.ext_getElem?
  intro j
  by_cases hj : j < m * size
  · have hj' : j < ys.length := by omega
    simp [List.getElem?_range hj, List.getD_eq_getElem?_getD, hj']
  · rw [List.getElem?_eq_none (by simp; omega), List.getElem?_eq_none (by omega)]

end
end Go.CT

namespace Go.CT

/-- A slice without room comes under a key. -/
theorem sim_zero {m : Nat} {I : Nat → Prop} {w : World} {s : Sg} {hp : Hp} (H : SimH I w s hp) (kn : Nat) (hn : hp kn = none) (hm : m ≤ kn) :
    let s' := upd s kn (some none)
    let hp' := upd hp kn (some (some []))
    s.le s' ∧ SimH I w s' hp' ∧ Ext m I w s hp I w s' hp' := by
  intro s' hp'
  have hsk : s kn = none := H.top kn hn
  have hle : s.le s' := fun j x hj => by
    have : j ≠ kn := fun e => by rw [e, hsk] at hj; cases hj
    simp [s', upd_ne _ _ this, hj]
  have hlive : ∀ b, Live s' hp' b → Live s hp b := by
    rintro b ⟨j, cs', hj, hs⟩
    by_cases e : j = kn
    · subst e; simp [s', upd_same] at hs
    · simp only [s', upd_ne _ _ e] at hs
      simp only [hp', upd_ne _ _ e] at hj
      exact ⟨j, cs', hj, hs⟩
  have hext : Ext m I w s hp I w s' hp' :=
    ⟨rfl, rfl, rfl, Nat.le_refl _, fun _ _ _ => rfl, Shp.refl _, fun j hj => upd_ne _ _ (by omega), fun _ h => h, fun _ h => .inl h, fun b h => .inl (hlive b h)⟩
  have old : ∀ i csi b, hp' i = some (some csi) → s' i = some (some b) → hp i = some (some csi) ∧ s i = some (some b) := by
    intro i csi b hi hs
    by_cases e : i = kn
    · subst e; simp [s', upd_same] at hs
    · simp only [s', upd_ne _ _ e] at hs
      simp only [hp', upd_ne _ _ e] at hi
      exact ⟨hi, hs⟩
  refine ⟨hle, ⟨fun j hj => ?_, fun j csj hj => ?_, fun j j' b cs1 cs2 h1 h2 h3 h4 => ?_, H.imm⟩, hext⟩
  · by_cases e : j = kn
    · subst e; simp [hp', upd_same] at hj
    · simp only [hp', upd_ne _ _ e] at hj
      simp only [s', upd_ne _ _ e]
      exact H.top j hj
  · by_cases e : j = kn
    · subst e
      simp only [hp', upd_same, Option.some.injEq] at hj
      exact .inl ⟨by simp [s', upd_same], hj.symm⟩
    · simp only [hp', upd_ne _ _ e] at hj
      rcases H.blk j csj hj with ⟨h1, h2⟩ | ⟨b, arr, T, h1, h2, h3, h4, h5⟩
      · exact .inl ⟨by simp [s', upd_ne _ _ e, h1], h2⟩
      · refine .inr ⟨b, arr, T, by simp [s', upd_ne _ _ e, h1], h2, h3, h4, fun j' h' => ?_⟩
        obtain ⟨y, hy, hr⟩ := h5 j' h'
        exact ⟨y, hy, hext.rc H hle hr⟩
  · obtain ⟨g1, g2⟩ := old j cs1 b h1 h3
    obtain ⟨f1, f2⟩ := old j' cs2 b h2 h4
    exact H.inj j j' b cs1 cs2 g1 f1 g2 f2

def target (hp : Hp) : D → Option (Option Nat × Nat × List C)
  | .c (.msl k _ 0 len) => (match hp k with | some (some cs) => some (some k, len, cs) | _ => none)
  | .c (.v (.slice none 0 0)) => some (none, 0, [])
  | .c .z => some (none, 0, [])
  | _ => none

def spend (hp : Hp) : Option Nat → Hp
  | some k => upd hp k (some none)
  | none => hp

section
variable {P : Program}

theorem SimH.draw {m : Nat} {I : Nat → Prop} {w : World} {s : Sg} {hp : Hp} (H : SimH I w s hp) : SimH I w.drew s hp ∧ Ext m I w s hp I w.drew s hp := by
  have hk : Keeps I w w.drew := fun _ _ => rfl
  refine ⟨⟨H.top, fun k cs hk' => ?_, H.inj, H.imm⟩, ⟨rfl, rfl, rfl, Nat.le_refl _, fun _ _ _ => rfl, Shp.refl w, fun _ _ => rfl, fun _ h => h, fun _ h => .inl h, fun _ h => .inl h⟩⟩
  rcases H.blk k cs hk' with h1 | ⟨b, arr, T, h1, h2, h3, h4, h5⟩
  · exact .inl h1
  · refine .inr ⟨b, arr, T, h1, h2, h3, h4, fun j hj => ?_⟩
    obtain ⟨y, hy, hr⟩ := h5 j hj
    exact ⟨y, hy, hr.mono (fun _ h => h) hk (Shp.refl w) (Sg.le_refl _)⟩

theorem RCs.append {I : Nat → Prop} {w : World} {s : Sg} {xs ys : List Value} {cs ds : List C} (hx : RCs I w s xs.toArray cs) (hy : RCs I w s ys.toArray ds) : RCs I w s (xs ++ ys).toArray (cs ++ ds) := by
  have e1 : xs.length = cs.length := by simpa using hx.1
  have e2 : ys.length = ds.length := by simpa using hy.1
  refine ⟨by simp [e1, e2], fun j h h' => ?_⟩
  by_cases hj : j < xs.length
  · have := hx.2 j (by simpa using hj) (by omega)
    simpa [List.getElem_append, hj, show j < cs.length from by omega] using this
  · have := hy.2 (j - xs.length) (by simp at h ⊢; omega) (by simp at h'; omega)
    simp only [List.getElem_toArray] at this
    simp only [List.getElem_toArray, List.getElem_append, hj, dite_false, show ¬ j < cs.length from by omega]
    simpa [e1] using this

/-- A new block, made by an append that grows. -/
theorem grow_sound {m : Nat} {I : Nat → Prop} {w : World} {s : Sg} {hp : Hp} (H : SimH I w s hp) (ko : Option Nat) (hko : ∀ k, ko = some k → hp k ≠ none) (kn : Nat) (hn : hp kn = none) (hm : m ≤ kn) (el : TypeId)
    (vals : List Value) (cs : List C) (hr : RCs I w s vals.toArray cs) (rest : Array Value) (sz n cap : Nat) (hnc : n ≤ cap ∧ n ≤ mx) (hsz : cap * sz ≤ vals.length + rest.size) :
    let w' := w.drew.alloc (.cells (vals.toArray ++ rest) el)
    ∃ s', s.le s' ∧ SimH I w' s' (upd (spend hp ko) kn (some (some cs))) ∧ Ext m I w s hp I w' s' (upd (spend hp ko) kn (some (some cs))) ∧
      RD I w' s' (.slice (some ⟨w.heap.size, 0, none⟩) n cap) (.c (.msl kn sz 0 n)) := by
  intro w'
  obtain ⟨H1, E1⟩ := H.draw (m := m)
  have hsp : SimH I w.drew s (spend hp ko) ∧ Ext m I w.drew s hp I w.drew s (spend hp ko) := by
    cases ko with
    | none => exact ⟨H1, Ext.refl _ _ _ _ _⟩
    | some k => exact sim_spend H1 k (hko k rfl)
  have hn2 : spend hp ko kn = none := by
    cases ko with
    | none => exact hn
    | some k =>
      have : kn ≠ k := fun e => hko k rfl (e ▸ hn)
      simp [spend, upd_ne _ _ this, hn]
  have hle0 : s.le s := Sg.le_refl s
  have hr' : ∀ j (h : j < cs.length), ∃ y, (vals.toArray ++ rest)[j]? = some y ∧ RC I w.drew s y cs[j] := fun j hj => by
    have hl : vals.length = cs.length := by simpa using hr.1
    have hj' : j < vals.toArray.size := by simp; omega
    refine ⟨vals.toArray[j], ?_, (E1.rc H hle0) (hr.2 j hj' hj)⟩
    rw [Array.getElem?_append_left hj']
    simp [hj']
  have hlc : cs.length ≤ (vals.toArray ++ rest).size := by
    have : vals.length = cs.length := by simpa using hr.1
    simp; omega
  obtain ⟨hle, H3, E3⟩ := sim_alloc (m := m) hsp.1 kn hn2 hm (vals.toArray ++ rest) el cs hlc hr'
  refine ⟨_, hle, H3, E1.trans (hsp.2.trans E3), .c _ _ (.msl _ kn w.heap.size sz 0 n cap (vals.toArray ++ rest) el (0, 0) (by simp [upd_same]) hnc ?_ ?_)⟩
  · exact heap_push_eq w.drew _
  · simp; omega

theorem append_sound {m : Nat} {I : Nat → Prop} {w : World} {s : Sg} {hp : Hp} (H : SimH I w s hp) {x y : Value} {dx dy : D} (hx : RD I w s x dx) (hy : RD I w s y dy)
    {t ty el : TypeId} {sz : Nat} {zs : List Value} {bytes : Nat} (ht : tslice P t = some el) (hsz : tsz P el = some sz) (hz : tzero P el = some zs) (hzl : zs.length = sz) (hby : tbytes P el = some bytes)
    {ko : Option Nat} {len : Nat} {cs : List C} (htg : target hp dx = some (ko, len, cs)) (hcs : cs.length = len * sz) (hks : ∀ k, ko = some k → dx = .c (.msl k sz 0 len))
    {n sz' : Nat} {ys : List C} (hld : lends hp dy = some (n, sz', ys)) (hys : ys.length = n * sz) (hszn : n = 0 ∨ sz' = sz)
    (kn : Nat) (hn : hp kn = none) (hm : m ≤ kn) (hmx : len + n ≤ mx) (h47 : (len + n) * bytes ≤ 140737488355328) :
    ∃ v w' s', (Builtin.append_ #[t, t] ty #[x, y]).run P w = .ok v w' ∧ s.le s' ∧ SimH I w' s' (upd (spend hp ko) kn (some (some (cs ++ ys)))) ∧
      Ext m I w s hp I w' s' (upd (spend hp ko) kn (some (some (cs ++ ys)))) ∧ RD I w' s' v (.c (.msl kn sz 0 (len + n))) := by
  have h63 : len + n ≤ 9223372036854775807 := Nat.le_trans hmx (by decide)
  simp only [tsz, Option.map_eq_some_iff] at hsz
  obtain ⟨i, hi, hisz⟩ := hsz
  have hib : i.bytes = bytes := by
    simp only [tbytes, hi, Option.map_some, Option.some.injEq] at hby
    exact hby
  obtain ⟨z, hiz, hzc⟩ : ∃ z, i.zero = some z ∧ z.cells.toList = zs := by
    simp only [tzero, hi, Option.bind_some, Option.map_eq_some_iff] at hz
    exact hz
  have hzsz : z.cells.size = sz := by rw [← Array.length_toList, hzc, hzl]
  have hu := und_slice ht
  obtain ⟨ya, yc, rfl, hync, hyr⟩ := lends_sound H hy hld
  -- what is appended, as values
  obtain ⟨news, hnl, hnr, hnf⟩ : ∃ news : List Value, news.length = n * sz ∧ RCs I w s news.toArray ys ∧ ∀ w' : World, w'.heap = w.heap → (Builtin.firstCells i.size n (.slice ya n yc)).run P w' = .ok news.toArray w' := by
    rcases hyr with ⟨rfl, rfl⟩ | ⟨b, off, yv, rfl, h⟩
    · refine ⟨[], by simp, ⟨rfl, fun j h => by simp at h⟩, fun w' _ => firstCells_zero _ _ _ _⟩
    · rcases Nat.eq_zero_or_pos n with h0 | hpos
      · subst h0
        have : ys = [] := List.eq_nil_of_length_eq_zero (by simpa using hys)
        subst this
        exact ⟨[], by simp, ⟨rfl, fun j h => by simp at h⟩, fun w' _ => firstCells_zero _ _ _ _⟩
      · have hszz : sz' = sz := hszn.resolve_left (by omega)
        subst hszz
        obtain ⟨h1, h2, h3⟩ := h hys
        refine ⟨yv, h1, h3, fun w' hw' => ?_⟩
        have := firstCells_row (P := P) w' i.size n yc b off yv (by rw [hisz]; exact h1) (fun j v hv => by
          have := h2 j v hv
          simpa [World.cell?, hw'] using this)
        exact this
  have hnone : ∀ v ∈ news, one v = true := fun v hv => by
    obtain ⟨j, hj, e⟩ := List.mem_iff_getElem.1 hv
    have := hnr.2 j (by simpa using hj) (by have := hnr.1; simp at this; omega)
    rw [← e]
    exact this.one
  have hrest : ∀ cap, len + n ≤ cap → cap * sz ≤ len * sz + n * sz + (Builtin.zeroCells z.cells (cap - (len + n))).size := fun cap hc => by
    have : (Builtin.zeroCells z.cells (cap - (len + n))).size = (cap - (len + n)) * sz := by simp [Builtin.zeroCells, hzsz]
    rw [this, ← Nat.add_mul, ← Nat.add_mul]
    exact Nat.mul_le_mul_right _ (by omega)
  unfold target at htg
  split at htg
  · rename_i k szk len'
    split at htg
    · rename_i cs' hk
      simp only [Option.some.injEq, Prod.mk.injEq] at htg
      obtain ⟨rfl, rfl, rfl⟩ := htg
      have hszk : szk = sz := by
        have := hks k rfl
        simp only [D.c.injEq, C.msl.injEq] at this
        exact this.2.1
      subst hszk
      have hko : ∀ k', some k = some k' → hp k' ≠ none := fun k' e => by
        cases e
        rw [hk]; simp
      rcases rd_msl hx with ⟨a, rfl, hsk, _, rfl⟩ | ⟨b, cap, arr, T, fr, rfl, hsk, hlc, hb, hcp⟩
      · -- nothing there yet
        have hcs0 : cs' = [] := List.eq_nil_of_length_eq_zero (by simpa using hcs)
        subst hcs0
        rcases Nat.eq_zero_or_pos n with h0 | hpos
        · subst h0
          have hys0 : ys = [] := List.eq_nil_of_length_eq_zero (by simpa using hys)
          subst hys0
          obtain ⟨hle, H', E'⟩ := sim_rekey (m := m) H k kn [] hk hn hm
          refine ⟨.slice a 0 0, w, _, ?_, hle, by simpa [spend] using H', by simpa [spend] using E', .c _ _ (by simpa using RC.msl0 _ a kn szk (by simp [upd_same, hsk]))⟩
          have h0 := firstCells_zero (P := P) i.size ya yc w
          cases a with
          | none => simpa using append_room_none (P := P) (ty := ty) hu hi w 0 0 0 yc ya [] h0 (Nat.le_refl _)
          | some a => simp [Builtin.append_, Go.run_underlying hu, sizeOf, typeInfo, hi, Builtin.lenOf, h0, storeCells]
        · have hg := append_grow (P := P) (ty := ty) hu hi hiz w a 0 0 [] (firstCells_zero _ _ _ _) ya n yc news (hnf _ rfl) (by omega) (by omega)
            (growslice_fits (by omega) (by rw [hib]; simpa using h47))
          have e0 : ([] : List Value).toArray ++ news.toArray = news.toArray := by simp
          rw [e0] at hg
          have hge := grownCap_ge' w (0 + n) 0 el
          obtain ⟨s', hle, H', E', R'⟩ := grow_sound (m := m) H (some k) hko kn hn hm el news ys hnr (Builtin.zeroCells z.cells (grownCap w (0 + n) 0 el - (0 + n))) szk (0 + n) (grownCap w (0 + n) 0 el) ⟨hge, hmx⟩
            (by have := hrest _ hge; simp only [Nat.zero_mul, Nat.zero_add] at this; simp only [Nat.zero_add]; rw [hnl]; exact this)
          refine ⟨_, _, s', hg, hle, ?_, ?_, R'⟩
          · simpa using H'
          · simpa using E'
      · obtain ⟨arr', T', hb', hl', hr⟩ := live_cells H hk hsk
        rw [hb] at hb'
        simp only [Option.some.injEq, Obj.cells.injEq] at hb'
        obtain ⟨rfl, rfl, rfl⟩ := hb'
        simp only [Nat.zero_add] at hcp
        by_cases hroom : len' + n ≤ cap
        · -- within the capacity
          have hfit : len' * szk + n * szk ≤ arr.size := by
            rw [← Nat.add_mul]
            exact Nat.le_trans (Nat.mul_le_mul_right _ hroom) hcp
          have hrun := append_room (P := P) (ty := ty) hu hi w b len' cap n yc T arr ya news hb (hnf w rfl) hnone hroom (by rw [hisz, hnl]; exact hfit)
          rw [hisz] at hrun
          have hyl : ys.length = n * szk := hys
          obtain ⟨H1, E1⟩ := sim_store (m := m) H k cs' (cs' ++ ys) hk b arr (setCells arr (len' * szk) news) T hsk hb (size_setCells _ _ _) (by rw [size_setCells, List.length_append, hcs, hyl]; exact hfit)
            (fun j hj => by
              rw [get_setCells news arr (len' * szk) j (by rw [hnl]; exact hfit), hnl]
              by_cases hlt : j < cs'.length
              · rw [if_neg (by omega)]
                obtain ⟨y, hy1, hy2⟩ := hr j hlt
                exact ⟨y, hy1, by rw [List.getElem_append_left hlt]; exact hy2⟩
              · have hj2 : j < len' * szk + n * szk := by rw [List.length_append, hcs, hyl] at hj; exact hj
                rw [if_pos (by omega)]
                have hj3 : j - len' * szk < news.length := by omega
                refine ⟨news[j - len' * szk], by simp [hj3], ?_⟩
                rw [List.getElem_append_right (by omega)]
                have := hnr.2 (j - len' * szk) (by simpa using hj3) (by omega)
                simpa [hcs] using this) rfl
          have hk1 : upd hp k (some (some (cs' ++ ys))) k = some (some (cs' ++ ys)) := upd_same _ _ _
          have hkn : kn ≠ k := fun e => by rw [e, hk] at hn; cases hn
          obtain ⟨hle, H2, E2⟩ := sim_rekey (m := m) H1 k kn _ hk1 (by rw [upd_ne _ _ hkn]; exact hn) hm
          have hupd : upd (upd (upd hp k (some (some (cs' ++ ys)))) k (some none)) kn (some (some (cs' ++ ys))) = upd (spend hp (some k)) kn (some (some (cs' ++ ys))) := by
            funext j
            simp only [spend, upd]
            by_cases e1 : j = kn
            · simp [e1]
            · by_cases e2 : j = k
              · simp [e2]
              · simp [e1, e2]
          rw [hupd] at H2 E2
          refine ⟨_, _, _, hrun, hle, H2, E1.trans E2, .c _ _ (.msl _ kn b szk 0 (len' + n) cap (setCells arr (len' * szk) news) T (0, 0) (by rw [upd_same]; exact hsk) ⟨hroom, hmx⟩ ?_ ?_)⟩
          · simp [lt_of_heap hb]
          · rw [size_setCells]; simpa using hcp
        · -- a new block
          have holds : (Builtin.firstCells i.size len' (.slice (some ⟨b, 0, none⟩) len' cap)).run P { w with drawn := w.drawn + 1 } = .ok (arr.toList.take (len' * szk)).toArray { w with drawn := w.drawn + 1 } := by
            refine firstCells_row (P := P) _ i.size len' cap b 0 _ (by rw [hisz]; simp; omega) (fun j v hv => ?_)
            have hj : j < len' * szk := by
              have := (List.getElem?_eq_some_iff.1 hv).1
              simp at this
              omega
            rw [List.getElem?_take_of_lt hj] at hv
            simpa [World.cell?, hb] using hv
          have hg := append_grow (P := P) (ty := ty) hu hi hiz w (some ⟨b, 0, none⟩) len' cap _ holds ya n yc news (hnf _ rfl) (by omega) (by omega) (growslice_fits (by omega) (by rw [hib]; exact h47))
          have hge := grownCap_ge' w (len' + n) cap el
          have hold : RCs I w s (arr.toList.take (len' * szk)).toArray cs' := by
            refine ⟨by simp; omega, fun j h1 h2 => ?_⟩
            obtain ⟨y, hy1, hy2⟩ := hr j h2
            obtain ⟨hlt, e⟩ := Array.getElem?_eq_some_iff.1 hy1
            simpa [e] using hy2
          have hol : (arr.toList.take (len' * szk)).length = len' * szk := by simp; omega
          have e1 : ∀ (x y : List Value) (r : Array Value), x.toArray ++ y.toArray ++ r = (x ++ y).toArray ++ r := fun x y r => by simp
          rw [e1] at hg
          obtain ⟨s', hle, H', E', R'⟩ := grow_sound (m := m) H (some k) hko kn hn hm el (arr.toList.take (len' * szk) ++ news) (cs' ++ ys) (hold.append hnr)
            (Builtin.zeroCells z.cells (grownCap w (len' + n) cap el - (len' + n))) szk (len' + n) (grownCap w (len' + n) cap el) ⟨hge, hmx⟩ (by rw [List.length_append, hol, hnl]; exact hrest _ hge)
          exact ⟨_, _, s', hg, hle, H', E', R'⟩
    · cases htg
  · simp only [Option.some.injEq, Prod.mk.injEq] at htg
    obtain ⟨rfl, rfl, rfl⟩ := htg
    obtain ⟨rfl, _⟩ := rd_scalar hx
    rcases Nat.eq_zero_or_pos n with h0 | hpos
    · subst h0
      have hys0 : ys = [] := List.eq_nil_of_length_eq_zero (by simpa using hys)
      subst hys0
      obtain ⟨hle, H', E'⟩ := sim_zero (m := m) H kn hn hm
      refine ⟨.slice none 0 0, w, _, ?_, hle, by simpa [spend] using H', by simpa [spend] using E', .c _ _ (by simpa using RC.msl0 _ none kn sz (by simp [upd_same]))⟩
      simpa using append_room_none (P := P) (ty := ty) hu hi w 0 0 0 yc ya [] (firstCells_zero _ _ _ _) (Nat.le_refl _)
    · have hg := append_grow (P := P) (ty := ty) hu hi hiz w none 0 0 [] (firstCells_zero _ _ _ _) ya n yc news (hnf _ rfl) (by omega) (by omega)
        (growslice_fits (by omega) (by rw [hib]; simpa using h47))
      have e0 : ([] : List Value).toArray ++ news.toArray = news.toArray := by simp
      rw [e0] at hg
      have hge := grownCap_ge' w (0 + n) 0 el
      obtain ⟨s', hle, H', E', R'⟩ := grow_sound (m := m) H none (fun k e => by cases e) kn hn hm el news ys hnr (Builtin.zeroCells z.cells (grownCap w (0 + n) 0 el - (0 + n))) sz (0 + n) (grownCap w (0 + n) 0 el) ⟨hge, hmx⟩
        (by have := hrest _ hge; simp only [Nat.zero_mul, Nat.zero_add] at this; simp only [Nat.zero_add]; rw [hnl]; exact this)
      refine ⟨_, _, s', hg, hle, ?_, ?_, R'⟩
      · simpa using H'
      · simpa using E'
  · simp only [Option.some.injEq, Prod.mk.injEq] at htg
    obtain ⟨rfl, rfl, rfl⟩ := htg
    obtain ⟨a, rfl⟩ := rd_z hx
    rcases Nat.eq_zero_or_pos n with h0 | hpos
    · subst h0
      have hys0 : ys = [] := List.eq_nil_of_length_eq_zero (by simpa using hys)
      subst hys0
      obtain ⟨hle, H', E'⟩ := sim_zero (m := m) H kn hn hm
      refine ⟨.slice a 0 0, w, _, ?_, hle, by simpa [spend] using H', by simpa [spend] using E', .c _ _ (by simpa using RC.msl0 _ a kn sz (by simp [upd_same]))⟩
      have h0 := firstCells_zero (P := P) i.size ya yc w
      cases a with
      | none => simpa using append_room_none (P := P) (ty := ty) hu hi w 0 0 0 yc ya [] h0 (Nat.le_refl _)
      | some a => simp [Builtin.append_, Go.run_underlying hu, sizeOf, typeInfo, hi, Builtin.lenOf, h0, storeCells]
    · have hg := append_grow (P := P) (ty := ty) hu hi hiz w a 0 0 [] (firstCells_zero _ _ _ _) ya n yc news (hnf _ rfl) (by omega) (by omega)
        (growslice_fits (by omega) (by rw [hib]; simpa using h47))
      have e0 : ([] : List Value).toArray ++ news.toArray = news.toArray := by simp
      rw [e0] at hg
      have hge := grownCap_ge' w (0 + n) 0 el
      obtain ⟨s', hle, H', E', R'⟩ := grow_sound (m := m) H none (fun k e => by cases e) kn hn hm el news ys hnr (Builtin.zeroCells z.cells (grownCap w (0 + n) 0 el - (0 + n))) sz (0 + n) (grownCap w (0 + n) 0 el) ⟨hge, hmx⟩
        (by have := hrest _ hge; simp only [Nat.zero_mul, Nat.zero_add] at this; simp only [Nat.zero_add]; rw [hnl]; exact this)
      refine ⟨_, _, s', hg, hle, ?_, ?_, R'⟩
      · simpa using H'
      · simpa using E'
  · cases htg

end
end Go.CT

namespace Go.CT

/-- A constant, as data. -/
def cst : Value → Option D
  | .agg cs => if cs.toList.all one then some (.agg (cs.toList.map .v)) else none
  | .tuple _ => none
  | .int k n => some (.c (.v (.int k n)))
  | .bool b => some (.c (.v (.bool b)))
  | .string s => some (.c (.v (.string s)))
  | .slice a l c => some (.c (.v (.slice a l c)))
  | .nilIface => some (.c (.v .nilIface))
  | .nilFunc => some (.c (.v .nilFunc))
  | .pointer p => some (.c (.v (.pointer p)))
  | .map m => some (.c (.v (.map m)))
  | _ => none

abbrev Lg := Nat → Option (List Nat × List Nat)

/-- The state within a region: the slots, the owned blocks, and which keys each operation has read and written. -/
structure Rs where
  tm : Nat → Option D
  hp : Hp
  lg : Lg

def evT (tm : Nat → Option D) : Operand → Option D
  | .tmp t => tm t
  | .const v => cst v
  | .func f => some (.c (.clo f []))
  | .global _ => none

def peelB : D → Bool
  | .when b _ => b
  | _ => true
def peelD : D → D
  | .when _ d => d
  | d => d

def evP (tm : Nat → Option D) (x : Operand) : Option D := (evT tm x).map peelD

/-- What is looked at is there. -/
def okP (tm : Nat → Option D) : List Operand → Prop
  | [] => True
  | x :: r => (match evT tm x with | some d => peelB d = true | none => True) ∧ okP tm r

structure Out where
  vc : Prop
  d : Option D
  rd : List Nat
  up : List (Nat × Option (List C))

def rdKeys (e : Operand → Option D) : Op → List Nat
  | .load _ x => (match e x with | some (.c (.ptr k _)) => [k] | _ => [])
  | _ => []

/-- The cells of a new slice out of its parts, in order. -/
def partsS (P : Program) (sz : Nat) (e : Operand → Option D) : Nat → List (Nat × Operand) → Option (List C)
  | _, [] => some []
  | i, (j, x) :: r =>
    if i = j then (match e x with
      | some d => (match d.cells with
        | some ds => if ds.length = sz then (match partsS P sz e (i + 1) r with | some cs => some (ds ++ cs) | none => none) else none
        | none => none)
      | none => none)
    else none

def mslKey : D → List Nat
  | .c (.msl k _ _ _) => [k]
  | _ => []
def spendUp : Option Nat → List (Nat × Option (List C))
  | some k => [(k, none)]
  | none => []

/-- A step that is no call: 'key' is the fresh key that the operation may use. -/
def stp (P : Program) (m key : Nat) (tm : Nat → Option D) (hp : Hp) (o : Op) : Option Out :=
  match o with
  | .pick c a b => (match evP tm c, evT tm a, evT tm b with
    | some (.c (.v (.bool x))), some da, some db => (match peelD da, peelD db with
      | .c (.v (.bool p)), .c (.v (.bool q)) => some ⟨okP tm [c] ∧ (x = true → peelB da = true) ∧ (x = false → peelB db = true), some (DB (bif x then p else q)), [], []⟩
      | _, _ => none)
    | _, _, _ => none)
  | .alloc T => (match tzero P T with
    | some zs => if zs.all one then some ⟨hp key = none ∧ m ≤ key, some (.c (.ptr key 0)), [], [(key, some (zs.map .v))]⟩ else none
    | none => none)
  | .box T x => (match evP tm x with
    | some d => (match d.cells with
      | some cs => some ⟨okP tm [x] ∧ hp key = none ∧ m ≤ key, some (.c (.ptr key 0)), [], [(key, some cs)]⟩
      | none => none)
    | none => none)
  | .buildSlice t n ps => (match (tslice P t).bind (tsz P), (tslice P t).bind (tzero P) with
    | some sz, some zs => (match partsS P sz (evP tm) 0 ps.toList with
      | some cs => some ⟨okP tm (ps.toList.map (·.2)) ∧ (ps.size = n ∧ cs.length = n * sz ∧ n * sz ≤ 16777216 ∧ zs.length = sz ∧ n ≤ mx) ∧ hp key = none ∧ m ≤ key, some (.c (.msl key sz 0 n)), [], [(key, some cs)]⟩
      | none => none)
    | _, _ => none)
  | .store t a x => (match evP tm a, evP tm x, tsz P t with
    | some (.c (.ptr k off)), some d, some n => (match hp k, d.cells with
      | some (some cs), some ds => some ⟨okP tm [a, x] ∧ ds.length = n ∧ off + n ≤ cs.length, none, [k], [(k, some (putCells cs off ds))]⟩
      | _, _ => none)
    | _, _, _ => none)
  | .makeSlice t l c => (match evP tm l, evP tm c, (tslice P t).bind (tsz P), (tslice P t).bind (tzero P), (tslice P t).bind (tbytes P) with
    | some (.c (.v (.int _ n))), some (.c (.v (.int _ n'))), some sz, some zs, some by' =>
      if zs.all one then some ⟨okP tm [l, c] ∧ (0 ≤ n ∧ n' = n ∧ n ≤ (mx : Int) ∧ by' * n ≤ 281474976710656 ∧ zs.length = sz) ∧ hp key = none ∧ m ≤ key,
        some (.c (.msl key sz 0 n.toNat)), [], [(key, some (List.replicate n.toNat (zs.map C.v)).flatten)]⟩ else none
    | _, _, _, _, _ => none)
  | .call c => (match c.callee with
    | .builtin .append => (match c.args.toList, c.argTypes.toList with
      | [x, y], [t, t'] => (match evP tm x, evP tm y, (tslice P t).bind (tsz P), (tslice P t).bind (tzero P), (tslice P t).bind (tbytes P) with
        | some dx, some dy, some sz, some zs, some by' => (match target hp dx, lends hp dy with
          | some (ko, len, cs), some (n, sz', ys) => some ⟨okP tm [x, y] ∧ (t' = t ∧ zs.length = sz ∧ (∀ k, ko = some k → dx = .c (.msl k sz 0 len)) ∧ (n = 0 ∨ sz' = sz)) ∧ cs.length = len * sz ∧ ys.length = n * sz ∧
              (len + n ≤ mx ∧ (len + n) * by' ≤ 140737488355328) ∧ hp key = none ∧ m ≤ key,
              some (.c (.msl key sz 0 (len + n))), mslKey dx ++ mslKey dy,
              spendUp ko ++ [(key, some (cs ++ ys))]⟩
          | _, _ => none)
        | _, _, _, _, _ => none)
      | _, _ => none)
    | .builtin .clear => (match c.args.toList, c.argTypes.toList with
      | [x], [t] => (match evP tm x, (tslice P t).bind (tsz P), (tslice P t).bind (tzero P) with
        | some (.c (.msl k sz off len)), some sz', some zs => (match hp k with
          | some (some cs) => if zs.all one then some ⟨okP tm [x] ∧ (sz' = sz ∧ zs.length = sz) ∧ off + len * sz ≤ cs.length, some (.tup []), [k],
              [(k, some (putCells cs off (List.replicate len (zs.map C.v)).flatten))]⟩ else none
          | _ => none)
        | _, _, _ => none)
      | _, _ => none)
    | _ => (match pop P (evP tm) hp o with
      | some (vc, d) => some ⟨okP tm o.operands.toList ∧ vc, some d, [], []⟩
      | none => none))
  | _ => (match pop P (evP tm) hp o with
    | some (vc, d) => some ⟨okP tm o.operands.toList ∧ vc, some d, rdKeys (evP tm) o, []⟩
    | none => none)

def appUp (hp : Hp) : List (Nat × Option (List C)) → Hp
  | [] => hp
  | (k, x) :: r => appUp (upd hp k (some x)) r

def setT (tm : Nat → Option D) (dst : Option Tmp) (d : Option D) : Nat → Option D :=
  match dst with
  | some n => upd tm n d
  | none => tm

def fitsT (nt : Nat) (dst : Option Tmp) : Bool := match dst with | some n => decide (n < nt) | none => true

section
variable {P : Program}

theorem evT_sound {I : Nat → Prop} {w : World} {s : Sg} {a : Act} {tm : Nat → Option D} (hA : ∀ n d, tm n = some d → RD I w s (a.tmps.getD n undef) d) {x : Operand} {d : D} (h : evT tm x = some d) : RD I w s (a.eval x) d := by
  cases x with
  | tmp t => exact hA t d h
  | const v =>
    simp only [evT] at h
    cases v <;> simp only [cst, Option.some.injEq, reduceCtorEq] at h <;> first
      | (subst h; exact .c _ _ (.v _ _ rfl))
      | (split at h
         · rename_i cs hall
           simp only [Option.some.injEq] at h
           subst h
           refine .agg _ _ (by simp) fun j h1 h2 => ?_
           simp only [List.getElem_map, Array.getElem_toList]
           exact .v _ _ (List.all_eq_true.1 hall _ (by simp))
         · cases h)
  | func f =>
    simp only [evT, Option.some.injEq] at h
    subst h
    exact .c _ _ (.clo _ f [] #[] rfl fun j h1 h2 => by simp at h1)
  | global g => simp [evT] at h

theorem okP_mem {tm : Nat → Option D} : ∀ {l : List Operand} {x : Operand} {d : D}, okP tm l → x ∈ l → evT tm x = some d → peelB d = true
  | y :: r, x, d, h, hx, hd => by
    rcases List.mem_cons.1 hx with rfl | hx
    · have := h.1
      rw [hd] at this
      exact this
    · exact okP_mem h.2 hx hd

theorem peel_sound {I : Nat → Prop} {w : World} {s : Sg} {x : Value} {d : D} (h : RD I w s x d) (hb : peelB d = true) : RD I w s x (peelD d) := by
  cases h with
  | when _ b d h h0 => exact h hb
  | c _ _ h => exact .c _ _ h
  | agg _ _ hl hr => exact .agg _ _ hl hr
  | tup _ _ hl hr => exact .tup _ _ hl hr

theorem evP_sound {I : Nat → Prop} {w : World} {s : Sg} {a : Act} {tm : Nat → Option D} (hA : ∀ n d, tm n = some d → RD I w s (a.tmps.getD n undef) d) {x : Operand} {d : D} (h : evP tm x = some d) {l : List Operand} (ho : okP tm l) (hx : x ∈ l) :
    RD I w s (a.eval x) d := by
  simp only [evP, Option.map_eq_some_iff] at h
  obtain ⟨d', hd', rfl⟩ := h
  exact peel_sound (evT_sound hA hd') (okP_mem ho hx hd')

theorem bld_congr {e e' : Operand → Option D} {t : TypeId} : ∀ (ps : List (Nat × Operand)) (cs : List C), (∀ x ∈ ps.map (·.2), e x = e' x) → bld P t e ps cs = bld P t e' ps cs
  | [], _, _ => rfl
  | (f, x) :: r, cs, h => by
    have hx : e x = e' x := h x (by simp)
    have ih : ∀ cs, bld P t e r cs = bld P t e' r cs := fun cs => bld_congr r cs (fun y hy => h y (by simp only [List.map_cons, List.mem_cons]; exact .inr hy))
    unfold bld
    rw [hx]
    simp only [ih]

theorem cellsOf_congr {e e' : Operand → Option D} : ∀ (l : List Operand), (∀ x ∈ l, e x = e' x) → cellsOf e l = cellsOf e' l
  | [], _ => rfl
  | x :: r, h => by simp only [cellsOf]; rw [h x (by simp), cellsOf_congr r fun y hy => h y (by simp [hy])]

theorem bnd_congr {e e' : Operand → Option D} {x : Option Operand} {d : Int} (h : ∀ y, x = some y → e y = e' y) : bnd e x d = bnd e' x d := by
  cases x with
  | none => rfl
  | some y => simp only [bnd]; rw [h y rfl]

theorem pop_congr {e e' : Operand → Option D} {hp : Hp} {o : Op} (h : ∀ x ∈ o.operands.toList, e x = e' x) : pop P e hp o = pop P e' hp o := by
  cases o with
  | build t ps =>
    simp only [Op.operands] at h
    simp only [pop, bld_congr (P := P) (t := t) ps.toList _ h]
  | makeFunc fn first caps =>
    simp only [Op.operands, Array.toList_append, List.mem_append] at h
    cases fn <;> simp only [pop, cellsOf_congr caps.toList fun x hx => h x (.inr hx)]
    cases hf : first.toList with
    | nil => rfl
    | cons x r => cases r with
      | nil => simp only [h x (.inl (by rw [hf]; simp))]
      | cons y r => rfl
  | slice t x lo hi mx =>
    simp only [Op.operands, Array.toList_append, List.mem_append] at h
    have hx := h x (by simp)
    cases mx with
    | none =>
      have hl := fun d => bnd_congr (e := e) (e' := e') (x := lo) (d := d) fun y hy => h y (by subst hy; simp)
      have hh := fun d => bnd_congr (e := e) (e' := e') (x := hi) (d := d) fun y hy => h y (by subst hy; simp)
      simp only [pop, hx, hl, hh]
    | some mx =>
      cases lo with
      | some lo => simp only [pop]
      | none =>
        cases hi with
        | none => simp only [pop]
        | some hi => simp only [pop, hx, h hi (by simp), h mx (by simp)]
  | call c =>
    obtain ⟨callee, args, argTypes⟩ := c
    simp only [Op.operands, Call.operands, Array.toList_append, List.mem_append] at h
    simp only [pop]
    cases callee with
    | builtin b =>
      cases b <;> first
        | rfl
        | (cases ha : args.toList with
           | nil => rfl
           | cons x r => cases r with
             | nil =>
               have hx := h x (by rw [ha]; simp)
               cases argTypes.toList with
               | nil => rfl
               | cons t r => cases r with
                 | nil => simp only [hx]
                 | cons t' r => rfl
             | cons y r => rfl)
    | _ => rfl
  | _ => simp only [Op.operands] at h <;> simp only [pop] <;> first | rfl | simp [h]

/-- 'pop' with a reading that is only good on the operation's own operands. -/
theorem pop_sound' {I : Nat → Prop} {w : World} {s : Sg} {hp : Hp} (H : SimH I w s hp) {a : Act} {tm : Nat → Option D} (hA : ∀ n d, tm n = some d → RD I w s (a.tmps.getD n undef) d) {o : Oper}
    {vc : Prop} {d : D} (h : pop P (evP tm) hp o.op = some (vc, d)) (hok : okP tm o.op.operands.toList) (hvc : vc) : ∃ v, (execOp a.eval o).run P w = .ok (.value v) w ∧ RD I w s v d := by
  let e' : Operand → Option D := fun x => match evT tm x with | some d => if peelB d = true then some (peelD d) else none | none => none
  have hc : pop P (evP tm) hp o.op = pop P e' hp o.op := pop_congr fun x hx => by
    simp only [evP, e']
    cases hd : evT tm x with
    | none => rfl
    | some d => simp [okP_mem hok hx hd]
  rw [hc] at h
  refine pop_sound (P := P) H (e := e') (fun x d hd => ?_) h hvc
  simp only [e'] at hd
  split at hd
  · rename_i d' hd'
    split at hd
    · rename_i hb
      simp only [Option.some.injEq] at hd
      subst hd
      exact peel_sound (evT_sound hA hd') hb
    · cases hd
  · cases hd

theorem partsS_congr {sz : Nat} {e e' : Operand → Option D} : ∀ (ps : List (Nat × Operand)) (i : Nat), (∀ x ∈ ps.map (·.2), e x = e' x) → partsS P sz e i ps = partsS P sz e' i ps
  | [], _, _ => rfl
  | (f, x) :: r, i, h => by
    have hx : e x = e' x := h x (by simp)
    have ih : ∀ i, partsS P sz e i r = partsS P sz e' i r := fun i => partsS_congr r i (fun y hy => h y (by simp only [List.map_cons, List.mem_cons]; exact .inr hy))
    simp only [partsS, hx, ih]

theorem setCells_append (xs ys : List Value) : ∀ (arr : Array Value) (off : Nat), setCells arr off (xs ++ ys) = setCells (setCells arr off xs) (off + xs.length) ys := by
  induction xs with
  | nil => intro arr off; simp [setCells]
  | cons x r ih => intro arr off; simp only [List.cons_append, setCells, ih, List.length_cons]; congr 1; omega

/-- Filling a new row part by part, in order. -/
theorem partsS_sound {I : Nat → Prop} {w : World} {s : Sg} {sz : Nat} {e : Operand → Option D} {ρ : Operand → Value} :
    ∀ (ps : List (Nat × Operand)) (i : Nat) (cs : List C) (arr : Array Value), (∀ x ∈ ps.map (·.2), ∀ d, e x = some d → RD I w s (ρ x) d) → partsS P sz e i ps = some cs → i * sz + cs.length ≤ arr.size →
      ∃ vals : List Value, RCs I w s vals.toArray cs ∧ Instr.fill (fun i => some (i * sz, sz)) arr (ps.map fun p => (p.1, ρ p.2)) = some (setCells arr (i * sz) vals)
  | [], i, cs, arr, he, h, hl => by
    simp only [partsS, Option.some.injEq] at h
    subst h
    exact ⟨[], ⟨rfl, fun j h => by simp at h⟩, rfl⟩
  | (j, x) :: r, i, cs, arr, he, h, hl => by
    unfold partsS at h
    split at h
    · rename_i hij
      subst hij
      split at h
      · rename_i d hd
        split at h
        · rename_i ds hds
          split at h
          · rename_i hlen
            split at h
            · rename_i cs' hcs
              simp only [Option.some.injEq] at h
              subst h
              have hx := (he x (by simp) d hd).cells hds
              have hxr : RCs I w s (ρ x).cells ds := hx
              simp only [List.length_append] at hl
              have hsz : (setCells arr (i * sz) (ρ x).cells.toList).size = arr.size := size_setCells _ _ _
              obtain ⟨vals, hv, hf⟩ := partsS_sound r (i + 1) cs' (setCells arr (i * sz) (ρ x).cells.toList) (fun y hy => he y (by simp only [List.map_cons, List.mem_cons]; exact .inr hy)) hcs (by rw [hsz, Nat.add_mul]; omega)
              refine ⟨(ρ x).cells.toList ++ vals, RCs.append (by simpa using hxr) hv, ?_⟩
              simp only [List.map_cons]
              rw [fill_cons _ arr i (ρ x) _ (i * sz) sz rfl (by rw [hx.1, hlen]) (by rw [hx.1]; omega), hf, setCells_append]
              have : (ρ x).cells.toList.length = sz := by rw [Array.length_toList, hx.1, hlen]
              rw [this, Nat.add_mul, Nat.one_mul]
            · cases h
          · cases h
        · cases h
      · cases h
    · cases h

theorem setCells_all (vals : List Value) (arr : Array Value) (h : arr.size = vals.length) : setCells arr 0 vals = vals.toArray := by
  apply Array.ext_getElem?
  intro j
  rw [get_setCells vals arr 0 j (by omega)]
  by_cases hj : j < vals.length
  · rw [if_pos (by omega)]
    simp
  · rw [if_neg (by omega)]
    rw [Array.getElem?_eq_none (by omega), Array.getElem?_eq_none (by simpa using hj)]

end
end Go.CT

namespace Go.CT

section
variable {P : Program}

theorem run_u {s : Sem Unit} {w w' : World} (h : s.run P w = .ok () w') : (do s; pure Next.skip : Sem Next).run P w = .ok .skip w' := by
  rw [run_bind _ _ _ _ _ h]; rfl

theorem rcs_exists {I : Nat → Prop} {w : World} {s : Sg} {arr : Array Value} {cs : List C} (h : RCs I w s arr cs) : ∀ j (hj : j < cs.length), ∃ y, arr[j]? = some y ∧ RC I w s y cs[j] := fun j hj => by
  have hj' : j < arr.size := by rw [h.1]; exact hj
  exact ⟨arr[j], by simp [hj'], h.2 j hj' hj⟩

theorem rcs_consts {I : Nat → Prop} {w : World} {s : Sg} (zs : List Value) (h : zs.all one = true) : RCs I w s zs.toArray (zs.map C.v) :=
  ⟨by simp, fun j h1 h2 => by
    simp only [List.getElem_map, List.getElem_toArray]
    exact .v _ _ (List.all_eq_true.1 h _ (by simp))⟩

theorem RD.cellsR {I : Nat → Prop} {w : World} {s : Sg} {x : Value} {d : D} {cs : List C} (h : RD I w s x d) (hd : d.cells = some cs) : RCs I w s x.cells cs := h.cells hd

theorem flat_replicate (n : Nat) (zs : List C) (j : Nat) (hj : j < n * zs.length) : (List.replicate n zs).flatten[j]? = zs[j % zs.length]? := by
  have hall : ∀ x ∈ List.replicate n zs, x.length = zs.length := fun x hx => by rw [List.eq_of_mem_replicate hx]
  obtain ⟨i, t, hi, ht, e, ht2, hg⟩ := flatten_get zs.length (List.replicate n zs) hall j (by simpa using hj)
  rw [hg, e, Nat.mul_comm, Nat.mul_add_mod, Nat.mod_eq_of_lt ht2]
  simp [ht2]

theorem appUp_spend (hp : Hp) (ko : Option Nat) (key : Nat) (cs : List C) : appUp hp (spendUp ko ++ [(key, some cs)]) = upd (spend hp ko) key (some (some cs)) := by
  cases ko <;> rfl

/-- The cells of a row of zero values. -/
theorem zero_rcs {I : Nat → Prop} {w : World} {s : Sg} {z : Value} {zs : List Value} (hz : z.cells.toList = zs) (h1 : zs.all one = true) (n : Nat) :
    RCs I w s (Builtin.zeroCells z.cells n) (List.replicate n (zs.map C.v)).flatten := by
  have hzsz : z.cells.size = zs.length := by rw [← Array.length_toList, hz]
  have hfl : ((List.replicate n (zs.map C.v)).flatten).length = n * zs.length := by
    rw [flatten_length zs.length _ (fun x hx => by rw [List.eq_of_mem_replicate hx]; simp)]; simp
  refine ⟨by rw [hfl]; simp [Builtin.zeroCells, hzsz], fun j h1' h2' => ?_⟩
  rw [hfl] at h2'
  have hpos : 0 < zs.length := by
    rcases Nat.eq_zero_or_pos zs.length with h | h
    · rw [h] at h2'; omega
    · exact h
  have g := flat_replicate n (zs.map C.v) j (by simpa using h2')
  simp only [List.length_map] at g
  have hjm : j % zs.length < zs.length := Nat.mod_lt _ hpos
  rw [List.getElem?_eq_getElem (by rw [hfl]; exact h2'), List.getElem?_eq_getElem (by simpa using hjm)] at g
  rw [Option.some.inj g]
  have hm' : (Builtin.zeroCells z.cells n)[j] = zs[j % zs.length] := by
    have hjz : j % zs.length < z.cells.size := by rw [hzsz]; exact hjm
    simp only [Builtin.zeroCells, Array.getElem_map, Array.getElem_range, hzsz]
    rw [getElem!_pos z.cells (j % zs.length) hjz]
    simp [← hz]
  rw [hm', List.getElem_map]
  exact .v _ _ (List.all_eq_true.1 h1 _ (by simp))

/-- Cells of an owned block are written anew. -/
theorem put_sim {m : Nat} {I : Nat → Prop} {w : World} {s : Sg} {hp : Hp} (H : SimH I w s hp) {k off b : Nat} {cs ds : List C} (hcs : hp k = some (some cs)) (hs : s k = some (some b)) {arr : Array Value} {T : TypeId}
    (hb : w.heap[b]? = some (.cells arr T (0, 0))) (hl : cs.length ≤ arr.size) (hrr : ∀ j (h : j < cs.length), ∃ y, arr[j]? = some y ∧ RC I w s y cs[j]) {vs : List Value} (hr : RCs I w s vs.toArray ds) (hfit : off + ds.length ≤ cs.length) :
    SimH I { w with heap := w.heap.setIfInBounds b (.cells (setCells arr off vs) T (0, 0)) } s (upd hp k (some (some (putCells cs off ds)))) ∧
      Ext m I w s hp I { w with heap := w.heap.setIfInBounds b (.cells (setCells arr off vs) T (0, 0)) } s (upd hp k (some (some (putCells cs off ds)))) := by
  have hcl : vs.length = ds.length := by have := hr.1; simpa using this
  refine sim_store (m := m) H k cs (putCells cs off ds) hcs b arr (setCells arr off vs) T hs hb (size_setCells _ _ _) (by rw [size_setCells, putCells_length]; exact hl)
    (fun j hj => ?_) rfl
  rw [putCells_length] at hj
  have g1 := get_setCells vs arr off j (by rw [hcl]; omega)
  have g2 := putCells_get ds cs off j (by omega)
  have hpj : (putCells cs off ds)[j]? = some ((putCells cs off ds)[j]'(by rw [putCells_length]; exact hj)) := by simp [putCells_length, hj]
  rw [hpj] at g2
  rw [g1, hcl]
  by_cases hin : off ≤ j ∧ j < off + ds.length
  · rw [if_pos hin] at g2 ⊢
    have hj3 : j - off < ds.length := by omega
    have hj4 : j - off < vs.length := by rw [hcl]; exact hj3
    refine ⟨vs[j - off], by simp [hj4], ?_⟩
    have := hr.2 (j - off) (by simpa using hj4) hj3
    rw [List.getElem?_eq_getElem hj3] at g2
    rw [Option.some.inj g2]
    simpa using this
  · rw [if_neg hin] at g2 ⊢
    obtain ⟨u, hu, hru⟩ := hrr j hj
    refine ⟨u, hu, ?_⟩
    rw [List.getElem?_eq_getElem hj] at g2
    rw [Option.some.inj g2]
    exact hru

theorem clear_sound {m : Nat} {I : Nat → Prop} {w : World} {s : Sg} {hp : Hp} (H : SimH I w s hp) {x : Value} {k sz off len : Nat} (hx : RD I w s x (.c (.msl k sz off len))) {cs : List C} (hcs : hp k = some (some cs))
    {t ty el : TypeId} (htl : tslice P t = some el) {zs : List Value} (hz : tzero P el = some zs) (h1 : zs.all one = true) (hzl : zs.length = sz) (hfit : off + len * sz ≤ cs.length) :
    ∃ w', (Builtin.clear_ #[t] ty #[x]).run P w = .ok (.tuple #[]) w' ∧ SimH I w' s (upd hp k (some (some (putCells cs off (List.replicate len (zs.map C.v)).flatten)))) ∧
      Ext m I w s hp I w' s (upd hp k (some (some (putCells cs off (List.replicate len (zs.map C.v)).flatten)))) := by
  have hfl : ((List.replicate len (zs.map C.v)).flatten).length = len * sz := by
    rw [flatten_length sz _ (fun x hx => by rw [List.eq_of_mem_replicate hx]; simp [hzl])]; simp
  have hnone : len = 0 → ∀ a c, x = .slice a 0 c → ∃ w', (Builtin.clear_ #[t] ty #[x]).run P w = .ok (.tuple #[]) w' ∧ SimH I w' s (upd hp k (some (some (putCells cs off (List.replicate len (zs.map C.v)).flatten)))) ∧
      Ext m I w s hp I w' s (upd hp k (some (some (putCells cs off (List.replicate len (zs.map C.v)).flatten)))) := fun h0 a c hxx => by
    subst h0
    have e : upd hp k (some (some (putCells cs off (List.replicate 0 (zs.map C.v)).flatten))) = hp := by
      funext j
      by_cases hj : j = k
      · subst hj; simp [upd_same, putCells, hcs]
      · rw [upd_ne _ _ hj]
    rw [e]
    refine ⟨w, ?_, H, Ext.refl _ _ _ _ _⟩
    subst hxx
    simp only [Builtin.clear_]
    simp only [List.getElem?_toArray, List.getElem?_cons_zero]
    rw [run_bind _ _ _ _ _ (run_underlying (und_slice htl) w)]
    cases a <;> rfl
  rcases rd_msl hx with ⟨a, hxx, _, _, h0⟩ | ⟨b, cap, arr, T, fr, hxx, hs, hlc, hb, hcp⟩
  · exact hnone h0 a 0 hxx
  · rcases Nat.eq_zero_or_pos len with h0 | hpos
    · exact hnone h0 _ cap (by rw [hxx, h0])
    · obtain ⟨arr, T, hb, hl, hrr⟩ := live_cells H hcs hs
      obtain ⟨z, hzc, hzr⟩ := run_zeroValue hz w
      have hv := zero_rcs (I := I) (w := w) (s := s) hzc h1 len
      have hvs : RCs I w s (Builtin.zeroCells z.cells len).toList.toArray (List.replicate len (zs.map C.v)).flatten := by simpa using hv
      have hvl : (Builtin.zeroCells z.cells len).toList.length = len * sz := by
        have := hv.1
        rw [hfl] at this
        simpa using this
      obtain ⟨H', E'⟩ := put_sim (m := m) H hcs hs hb hl hrr hvs (by rw [hfl]; exact hfit)
      refine ⟨_, ?_, H', E'⟩
      have hst := run_storeCells (P := P) b T (Builtin.zeroCells z.cells len).toList arr w off 0 hb (by rw [hvl]; omega) (fun v hv' => by
        obtain ⟨j, hj, e⟩ := List.mem_iff_getElem.1 hv'
        have := hv.2 j (by simpa using hj) (by rw [hfl, ← hvl]; exact hj)
        rw [← e]
        simpa using this.one)
      subst hxx
      obtain ⟨n, rfl⟩ : ∃ n, len = n + 1 := ⟨len - 1, by omega⟩
      simp only [Builtin.clear_]
      simp only [List.getElem?_toArray, List.getElem?_cons_zero]
      rw [run_bind _ _ _ _ _ (run_underlying (und_slice htl) w)]
      simp only
      rw [run_bind _ _ _ _ _ hzr]
      have hst' : (storeCells ⟨b, off, none⟩ (Builtin.zeroCells z.cells (n + 1)).toList).run P w = .ok () { w with heap := w.heap.setIfInBounds b (.cells (setCells arr off (Builtin.zeroCells z.cells (n + 1)).toList) T (0, 0)) } := by simpa using hst
      rw [run_bind _ _ _ _ _ hst']
      rfl

theorem stp_sound {m : Nat} {I : Nat → Prop} {w : World} {s : Sg} {hp : Hp} (H : SimH I w s hp) {a : Act} {tm : Nat → Option D} (hA : ∀ n d, tm n = some d → RD I w s (a.tmps.getD n undef) d) {o : Oper} {key : Nat} {out : Out}
    (h : stp P m key tm hp o.op = some out) (hvc : out.vc) :
    ∃ v w' s', ((execOp a.eval o).run P w = .ok (.value v) w' ∨ (execOp a.eval o).run P w = .ok .skip w' ∧ v = undef) ∧ s.le s' ∧ SimH I w' s' (appUp hp out.up) ∧
      Ext m I w s hp I w' s' (appUp hp out.up) ∧ ∀ d, out.d = some d → RD I w' s' v d := by
  have hpop : ∀ vc d, pop P (evP tm) hp o.op = some (vc, d) → okP tm o.op.operands.toList → vc → ∃ v w' s', ((execOp a.eval o).run P w = .ok (.value v) w' ∨ (execOp a.eval o).run P w = .ok .skip w' ∧ v = undef) ∧ s.le s' ∧ SimH I w' s' (appUp hp []) ∧
      Ext m I w s hp I w' s' (appUp hp []) ∧ ∀ d', some d = some d' → RD I w' s' v d' := fun vc d h1 h2 h3 => by
    obtain ⟨v, hr, hd⟩ := pop_sound' (P := P) H hA h1 h2 h3
    exact ⟨v, w, s, .inl hr, Sg.le_refl _, H, Ext.refl _ _ _ _ _, fun d' e => by cases e; exact hd⟩
  obtain ⟨dst, op, type, pos, after, guard⟩ := o
  cases op with
  | pick c x y =>
    simp only [stp] at h
    split at h
    · rename_i b da db hc hx hy
      split at h
      · rename_i p q hp1 hq1
        simp only [Option.some.injEq] at h
        subst h
        obtain ⟨hok, h1, h2⟩ := hvc
        have hcv := (rd_scalar (evP_sound hA hc hok (by simp))).1
        refine ⟨.bool (bif b then p else q), w, s, .inl ?_, Sg.le_refl _, H, Ext.refl _ _ _ _ _, fun d' e => by cases e; exact rd_bool _⟩
        simp only [execOp, hcv]
        rw [run_bind (x := b) (w' := w) _ _ _ (by rfl)]
        cases b with
        | true =>
          have := peel_sound (evT_sound hA hx) (h1 rfl)
          rw [hp1] at this
          simp only [if_true, cond_true, (rd_scalar this).1]
          rfl
        | false =>
          have := peel_sound (evT_sound hA hy) (h2 rfl)
          rw [hq1] at this
          simp only [Bool.false_eq_true, if_false, cond_false, (rd_scalar this).1]
          rfl
      · cases h
    · cases h
  | alloc T =>
    simp only [stp] at h
    split at h
    · rename_i zs hz
      split at h
      · rename_i h1
        simp only [Option.some.injEq] at h
        subst h
        obtain ⟨hk, hm⟩ := hvc
        obtain ⟨hle, H', E'⟩ := sim_alloc (m := m) H key hk hm zs.toArray T (zs.map .v) (by simp) (rcs_exists (rcs_consts zs h1))
        refine ⟨.pointer (some ⟨w.heap.size, 0, none⟩), _, _, .inl ?_, hle, H', E', fun d e => ?_⟩
        · simp only [execOp]
          exact run_v (run_alloc hz _ w)
        · cases e
          exact .c _ _ (.ptr _ key _ 0 (by simp [upd_same]))
      · cases h
    · cases h
  | box T x =>
    simp only [stp] at h
    split at h
    · rename_i d hx
      split at h
      · rename_i cs hcs
        simp only [Option.some.injEq] at h
        subst h
        obtain ⟨hok, hk, hm⟩ := hvc
        have hr := RD.cellsR (evP_sound hA hx hok (by simp)) hcs
        obtain ⟨hle, H', E'⟩ := sim_alloc (m := m) H key hk hm (a.eval x).cells T cs (by rw [hr.1]; exact Nat.le_refl _) (rcs_exists hr)
        refine ⟨.pointer (some ⟨w.heap.size, 0, none⟩), _, _, .inl ?_, hle, H', E', fun d e => ?_⟩
        · simp only [execOp]
          exact run_v (run_box T _ w)
        · cases e
          exact .c _ _ (.ptr _ key _ 0 (by simp [upd_same]))
      · cases h
    · cases h
  | buildSlice t n ps =>
    simp only [stp] at h
    split at h
    · rename_i sz zs hsz hzs
      obtain ⟨el, htl, hn⟩ := Option.bind_eq_some_iff.1 hsz
      obtain ⟨el', htl', hz⟩ := Option.bind_eq_some_iff.1 hzs
      rw [htl] at htl'
      cases htl'
      split at h
      · rename_i cs hcs
        simp only [Option.some.injEq] at h
        subst h
        obtain ⟨hok, ⟨hpn, hcl, hbig, hzl, hmx⟩, hk, hm⟩ := hvc
        obtain ⟨z, hzc, hzr⟩ := run_zeroValue hz w
        have hzsz : z.cells.size = sz := by rw [← Array.length_toList, hzc, hzl]
        obtain ⟨vals, hv, hf⟩ := partsS_sound (P := P) (I := I) (w := w) (s := s) (sz := sz) (e := evP tm) (ρ := a.eval) ps.toList 0 cs (if n * sz = 0 then #[] else (Array.range (n * sz)).map (fun i => z.cells[i % z.cells.size]!))
          (fun x hx d hd => evP_sound hA hd hok hx) hcs (by
            rw [hcl]
            by_cases h0 : n * sz = 0
            · rw [if_pos h0]; simp [h0]
            · rw [if_neg h0]; simp)
        have hsetall : setCells (if n * sz = 0 then #[] else (Array.range (n * sz)).map (fun i => z.cells[i % z.cells.size]!)) (0 * sz) vals = vals.toArray := by
          have hvl : vals.length = n * sz := by
            have := hv.1
            simp at this
            omega
          rw [Nat.zero_mul]
          refine setCells_all vals _ ?_
          by_cases h0 : n * sz = 0
          · rw [if_pos h0, hvl, h0]; rfl
          · rw [if_neg h0, hvl]; simp
        rw [hsetall] at hf
        obtain ⟨hle, H', E'⟩ := sim_alloc (m := m) H key hk hm vals.toArray el cs (by rw [hv.1]; exact Nat.le_refl _) (rcs_exists hv)
        refine ⟨.slice (some ⟨w.heap.size, 0, none⟩) n n, _, _, .inl ?_, hle, H', E', fun d e => ?_⟩
        · simp only [execOp]
          refine run_v ?_
          simp only [Instr.buildSlice]
          rw [run_bind _ _ _ _ _ (run_underlying (und_slice htl) w)]
          simp only
          rw [run_bind _ _ _ _ _ (run_sizeOf hn w)]
          rw [if_neg (by omega)]
          have hpl : (ps.map fun (i, x) => (i, a.eval x)).toList = ps.toList.map fun p => (p.1, a.eval p.2) := by simp
          by_cases h0 : n * sz = 0
          · rw [if_pos h0] at hf ⊢
            rw [run_bind (x := (#[] : Array Value)) (w' := w) _ _ _ (by rfl)]
            have hr0 : Array.map (fun x => (#[] : Array Value)[x % (#[] : Array Value).size]!) (Array.range (n * sz)) = #[] := by rw [h0]; simp
            simp only [hr0, hpl, hf]
            rw [run_bind _ _ _ _ _ (run_newRow el vals.toArray w)]
            rfl
          · rw [if_neg h0] at hf ⊢
            rw [run_bind _ _ _ _ _ hzr, run_bind (x := z.cells) (w' := w) _ _ _ (by rfl)]
            simp only [hpl, hf]
            rw [run_bind _ _ _ _ _ (run_newRow el vals.toArray w)]
            rfl
        · cases e
          refine .c _ _ (.msl _ key w.heap.size sz 0 n n vals.toArray el (0, 0) (by simp [upd_same]) ⟨Nat.le_refl _, hmx⟩ (heap_push_eq w _) ?_)
          rw [hv.1, hcl]; simp
      · cases h
    · cases h
  | store t x y =>
    simp only [stp] at h
    split at h
    · rename_i k off d n hx hy hn
      split at h
      · rename_i cs ds hcs hds
        simp only [Option.some.injEq] at h
        subst h
        obtain ⟨hok, hdl, hfit⟩ := hvc
        obtain ⟨b, hs, hxv⟩ := rd_ptr (evP_sound hA hx hok (by simp))
        have hr := RD.cellsR (evP_sound hA hy hok (by simp)) hds
        obtain ⟨arr, T, hb, hl, hrr⟩ := live_cells H hcs hs
        have hvs : (a.eval y).cells.size = n := by rw [hr.1, hdl]
        have hrun := run_storeVar (P := P) hn b off T (a.eval y) arr w hb (by omega) hvs (fun u hu => by
          obtain ⟨j, hj, e⟩ := List.mem_iff_getElem.1 hu
          have hj2 : j < (a.eval y).cells.size := by simpa using hj
          have := hr.2 j hj2 (by rw [← hr.1]; exact hj2)
          rw [← e]
          simpa using this.one)
        have hcl : (a.eval y).cells.toList.length = ds.length := by rw [Array.length_toList, hr.1]
        obtain ⟨H', E'⟩ := sim_store (m := m) H k cs (putCells cs off ds) hcs b arr (setCells arr off (a.eval y).cells.toList) T hs hb (size_setCells _ _ _) (by rw [size_setCells, putCells_length]; exact hl)
          (fun j hj => by
            rw [putCells_length] at hj
            have g1 := get_setCells (a.eval y).cells.toList arr off j (by rw [hcl]; omega)
            have g2 := putCells_get ds cs off j (by omega)
            have hpj : (putCells cs off ds)[j]? = some ((putCells cs off ds)[j]'(by rw [putCells_length]; exact hj)) := by simp [putCells_length, hj]
            rw [hpj] at g2
            rw [g1, hcl]
            by_cases hin : off ≤ j ∧ j < off + ds.length
            · rw [if_pos hin] at g2 ⊢
              have hj3 : j - off < ds.length := by omega
              have hj4 : j - off < (a.eval y).cells.size := by rw [hr.1]; exact hj3
              refine ⟨(a.eval y).cells[j - off], by simp [hj4], ?_⟩
              have := hr.2 (j - off) hj4 hj3
              rw [List.getElem?_eq_getElem hj3] at g2
              rw [Option.some.inj g2]
              exact this
            · rw [if_neg hin] at g2 ⊢
              obtain ⟨u, hu, hru⟩ := hrr j hj
              refine ⟨u, hu, ?_⟩
              rw [List.getElem?_eq_getElem hj] at g2
              rw [Option.some.inj g2]
              exact hru) rfl
        refine ⟨undef, _, s, .inr ⟨?_, rfl⟩, Sg.le_refl _, H', E', fun d e => by cases e⟩
        simp only [execOp, hxv]
        exact run_u hrun
      · cases h
    · cases h
  | makeSlice t l c =>
    simp only [stp] at h
    split at h
    · rename_i kl n kc n' sz zs by' hl hc hsz hzs hby
      obtain ⟨el, htl, hn⟩ := Option.bind_eq_some_iff.1 hsz
      obtain ⟨el', htl', hz⟩ := Option.bind_eq_some_iff.1 hzs
      obtain ⟨el'', htl'', hbb⟩ := Option.bind_eq_some_iff.1 hby
      rw [htl] at htl' htl''
      cases htl'
      cases htl''
      split at h
      · rename_i h1
        simp only [Option.some.injEq] at h
        subst h
        obtain ⟨hok, ⟨h0, rfl, h63, h48, hzl⟩, hk, hm⟩ := hvc
        have hlv := (rd_scalar (evP_sound hA hl hok (by simp))).1
        have hcv := (rd_scalar (evP_sound hA hc hok (by simp))).1
        simp only [tsz, Option.map_eq_some_iff] at hn
        obtain ⟨i, hi, hisz⟩ := hn
        have hib : i.bytes = by' := by simpa [tbytes, hi] using hbb
        obtain ⟨z, hiz, hzc⟩ : ∃ z, i.zero = some z ∧ z.cells.toList = zs := by simpa [tzero, hi] using hz
        have hzsz : z.cells.size = sz := by rw [← Array.length_toList, hzc, hzl]
        have hrun := Go.run_make (P := P) w t el i z (und_slice htl) hi hiz kl kc n' n' h0 (Int.le_refl _) (by rw [hib]; exact h48) (Int.le_trans h63 (by decide))
        have hcells : RCs I w s (madeCells z.cells (n'.toNat * i.size)) (List.replicate n'.toNat (zs.map C.v)).flatten := by
          have hfl : ((List.replicate n'.toNat (zs.map C.v)).flatten).length = n'.toNat * sz := by
            rw [flatten_length sz _ (fun x hx => by rw [List.eq_of_mem_replicate hx]; simp [hzl])]; simp
          refine ⟨by rw [hfl, hisz]; simp [madeCells], fun j h1' h2' => ?_⟩
          rw [hfl] at h2'
          have hpos : 0 < sz := by
            rcases Nat.eq_zero_or_pos sz with h | h
            · rw [h] at h2'; omega
            · exact h
          have g := flat_replicate n'.toNat (zs.map C.v) j (by simpa [hzl] using h2')
          simp only [List.length_map, hzl] at g
          have hjm : j % sz < zs.length := by rw [hzl]; exact Nat.mod_lt _ hpos
          rw [List.getElem?_eq_getElem (by rw [hfl]; exact h2'), List.getElem?_eq_getElem (by simpa using hjm)] at g
          rw [Option.some.inj g]
          have hm' : (madeCells z.cells (n'.toNat * i.size))[j] = zs[j % sz] := by
            have hjz : j % sz < z.cells.size := by rw [hzsz]; exact Nat.mod_lt _ hpos
            simp only [madeCells, Array.getElem_map, Array.getElem_range, hzsz]
            rw [getElem!_pos z.cells (j % sz) hjz]
            simp [← hzc]
          rw [hm', List.getElem_map]
          exact .v _ _ (List.all_eq_true.1 h1 _ (by simp))
        obtain ⟨hle, H', E'⟩ := sim_alloc (m := m) H key hk hm _ el _ (by rw [hcells.1]; exact Nat.le_refl _) (rcs_exists hcells)
        refine ⟨.slice (some ⟨w.heap.size, 0, none⟩) n'.toNat n'.toNat, { w with heap := w.heap.push (.cells (madeCells z.cells (n'.toNat * i.size)) el (0, 0)) }, upd s key (some (some w.heap.size)), .inl ?_, hle, H', E', fun d e => ?_⟩
        · simp only [execOp, hlv, hcv]
          exact run_v hrun
        · cases e
          refine .c _ _ (.msl _ key w.heap.size sz 0 n'.toNat n'.toNat _ el (0, 0) (by simp [upd_same]) ⟨Nat.le_refl _, Int.toNat_le.2 h63⟩ (heap_push_eq w _) ?_)
          simp [madeCells, hisz]
      · cases h
    · cases h
  | call c =>
    obtain ⟨callee, args, argTypes⟩ := c
    simp only [stp] at h
    split at h
    · split at h
      · rename_i x y t t' hargs hats
        split at h
        · rename_i dx dy sz zs by' hx hy hsz hzs hby
          split at h
          · rename_i ko len cs n sz' ys htg hld
            simp only [Option.some.injEq] at h
            subst h
            obtain ⟨hok, ⟨rfl, hzl, hks, hszn⟩, hcs, hys, ⟨h63, h47⟩, hk, hm⟩ := hvc
            obtain ⟨el, htl, hn⟩ := Option.bind_eq_some_iff.1 hsz
            obtain ⟨el', htl', hz⟩ := Option.bind_eq_some_iff.1 hzs
            obtain ⟨el'', htl'', hbb⟩ := Option.bind_eq_some_iff.1 hby
            rw [htl] at htl' htl''
            cases htl'
            cases htl''
            have e1 : args = #[x, y] := by apply Array.ext'; simpa using hargs
            have e2 : argTypes = #[t', t'] := by apply Array.ext'; simpa using hats
            subst e1; subst e2
            obtain ⟨v, w', s', hrun, hle, H', E', R'⟩ := append_sound (P := P) (m := m) (ty := type) H (evP_sound hA hx hok (by simp)) (evP_sound hA hy hok (by simp)) htl hn hz hzl hbb htg hcs hks hld hys hszn key hk hm h63 h47
            have hup := appUp_spend hp ko key (cs ++ ys)
            refine ⟨v, w', s', .inl ?_, hle, by rw [hup]; exact H', by rw [hup]; exact E', fun d e => by cases e; exact R'⟩
            simp only [execOp, resolve]
            rw [run_bind (x := ({ target := .builtin .append #[t', t'] type (#[x, y].map fun | .const _ => true | _ => false), args := #[x, y].map a.eval } : Deferred)) (w' := w) _ _ _ (by rfl)]
            simp only [invoke, builtin]
            refine run_v ?_
            simpa using hrun
          · cases h
        · cases h
      · cases h
    · split at h
      · rename_i x t hargs hats
        split at h
        · rename_i k sz off len sz' zs hx hsz hzs
          split at h
          · rename_i cs hcs
            split at h
            · rename_i h1
              simp only [Option.some.injEq] at h
              subst h
              obtain ⟨hok, ⟨rfl, hzl⟩, hfit⟩ := hvc
              obtain ⟨el', htl', hz⟩ := Option.bind_eq_some_iff.1 hzs
              have e1 : args = #[x] := by apply Array.ext'; simpa using hargs
              have e2 : argTypes = #[t] := by apply Array.ext'; simpa using hats
              subst e1; subst e2
              obtain ⟨w', hrun, H', E'⟩ := clear_sound (P := P) (m := m) (ty := type) H (evP_sound hA hx hok (by simp)) hcs htl' hz h1 hzl hfit
              refine ⟨.tuple #[], w', s, .inl ?_, Sg.le_refl _, H', E', fun d e => by cases e; exact .tup _ _ rfl (fun j h => by simp at h)⟩
              simp only [execOp, resolve]
              rw [run_bind (x := ({ target := .builtin .clear #[t] type (#[x].map fun | .const _ => true | _ => false), args := #[x].map a.eval } : Deferred)) (w' := w) _ _ _ (by rfl)]
              simp only [invoke, builtin]
              refine run_v ?_
              simpa using hrun
            · cases h
          · cases h
        · cases h
      · cases h
    · split at h
      · rename_i vc d hpp
        simp only [Option.some.injEq] at h
        subst h
        exact hpop vc d hpp hvc.1 hvc.2
      · cases h
  | _ =>
    simp only [stp] at h
    split at h
    · rename_i vc d hpp
      simp only [Option.some.injEq] at h
      subst h
      exact hpop vc d hpp hvc.1 hvc.2
    · cases h

end
end Go.CT

namespace Go.CT

mutual
def renC (r : Nat → Nat) : C → C
  | .v x => .v x
  | .isl sz xs => .isl sz xs
  | .msl k sz off len => .msl (r k) sz off len
  | .ptr k off => .ptr (r k) off
  | .eptr cs => .eptr cs
  | .clo f caps => .clo f (renCs r caps)
  | .met f cs => .met f cs
  | .z => .z
  | .unk => .unk
def renCs (r : Nat → Nat) : List C → List C
  | [] => []
  | c :: cs => renC r c :: renCs r cs
end

mutual
def renD (r : Nat → Nat) : D → D
  | .c x => .c (renC r x)
  | .agg cs => .agg (renCs r cs)
  | .tup ds => .tup (renDs r ds)
  | .when b d => .when b (renD r d)
def renDs (r : Nat → Nat) : List D → List D
  | [] => []
  | d :: ds => renD r d :: renDs r ds
end

theorem renCs_eq (r : Nat → Nat) : ∀ cs : List C, renCs r cs = cs.map (renC r)
  | [] => rfl
  | c :: cs => by simp only [renCs, List.map_cons, renCs_eq r cs]
theorem renDs_eq (r : Nat → Nat) : ∀ ds : List D, renDs r ds = ds.map (renD r)
  | [] => rfl
  | d :: ds => by simp only [renDs, List.map_cons, renDs_eq r ds]

section
variable {I : Nat → Prop} {w : World}

/-- From the callee's keys to the caller's. -/
theorem RC.ren {r : Nat → Nat} {s : Sg} {x : Value} {c : C} (h : RC I w s x c) : ∀ {s' : Sg}, (∀ k y, s k = some y → s' (r k) = some y) → RC I w s' x (renC r c) := by
  induction h with
  | v s x h1 => exact fun _ => .v _ x h1
  | unk s x h1 => exact fun _ => .unk _ x h1
  | z s a => exact fun _ => .z _ a
  | isl0 s a cap sz => exact fun _ => .isl0 _ a cap sz
  | isl s b off cap sz xs y hIb hl hc hr hcap ih => exact fun _ => .isl _ b off cap sz xs y hIb hl hc hr hcap
  | msl0 s a k sz h => exact fun hle => .msl0 _ a (r k) sz (hle _ _ h)
  | msl s k b sz off len cap arr T fr h hlen hb hcap => exact fun hle => .msl _ (r k) b sz off len cap arr T fr (hle _ _ h) hlen hb hcap
  | ptr s k b off h => exact fun hle => .ptr _ (r k) b off (hle _ _ h)
  | eptr s b off cs y hIb hc hr ih => exact fun _ => .eptr _ b off cs y hIb hc hr
  | clo s f caps vs hl hr ih =>
    intro s' hle
    simp only [renC]
    refine .clo _ f _ vs (by rw [renCs_eq]; simpa using hl) fun j h h' => ?_
    have h2 : j < caps.length := by omega
    have := ih j h h2 hle
    simpa [renCs_eq] using this
  | met s f cs vs hl hr ih => exact fun _ => .met _ f cs vs hl hr

theorem RD.ren {r : Nat → Nat} {s s' : Sg} (hle : ∀ k y, s k = some y → s' (r k) = some y) {x : Value} {d : D} (h : RD I w s x d) : RD I w s' x (renD r d) := by
  induction h with
  | c x c h => exact .c _ _ (h.ren hle)
  | agg vs cs hl hr =>
    simp only [renD]
    refine .agg vs _ (by rw [renCs_eq]; simpa using hl) fun j h h' => ?_
    have := (hr j h (by omega)).ren hle
    simpa [renCs_eq] using this
  | tup vs ds hl hr ih =>
    simp only [renD]
    refine .tup vs _ (by rw [renDs_eq]; simpa using hl) fun j h h' => ?_
    have := ih j h (by omega)
    simpa [renDs_eq] using this
  | when x b d h h0 ih => exact .when x b _ (fun hb => ih hb) h0

theorem RC.isl_any {s : Sg} {x : Value} {sz : Nat} {xs : List (List C)} (h : RC I w s x (.isl sz xs)) (s' : Sg) : RC I w s' x (.isl sz xs) := by
  cases h with
  | isl0 _ a cap _ => exact .isl0 _ a cap sz
  | isl _ b off cap _ _ y hI hl hc hr hcap => exact .isl _ b off cap sz xs y hI hl hc hr hcap

mutual
/-- From the caller's keys to the callee's. -/
theorem RC.unren {r : Nat → Nat} {s s' : Sg} (hle : ∀ k y, s (r k) = some y → s' k = some y) : ∀ (c : C) {x : Value}, RC I w s x (renC r c) → RC I w s' x c
  | .v y, x, h => by
    simp only [renC] at h
    cases h with | v _ _ h1 => exact .v _ _ h1
  | .unk, x, h => by
    simp only [renC] at h
    cases h with | unk _ _ h1 => exact .unk _ _ h1
  | .z, x, h => by
    simp only [renC] at h
    cases h with | z _ a => exact .z _ a
  | .isl sz xs, x, h => by
    simp only [renC] at h
    exact h.isl_any s'
  | .msl k sz off len, x, h => by
    simp only [renC] at h
    cases h with
    | msl0 _ a _ _ h => exact .msl0 _ a k sz (hle _ _ h)
    | msl _ _ b _ _ _ cap arr T fr h hlen hb hcap => exact .msl _ k b sz off len cap arr T fr (hle _ _ h) hlen hb hcap
  | .ptr k off, x, h => by
    simp only [renC] at h
    cases h with | ptr _ _ b _ h => exact .ptr _ k b off (hle _ _ h)
  | .eptr cs, x, h => by
    simp only [renC] at h
    cases h with | eptr _ b off _ y hIb hc hr => exact .eptr _ b off cs y hIb hc hr
  | .met f cs, x, h => by
    simp only [renC] at h
    cases h with | met _ _ _ vs hl hr => exact .met _ f cs vs hl hr
  | .clo f caps, x, h => by
    simp only [renC] at h
    cases h with
    | clo _ _ _ vs hl hr =>
      have hl' : vs.size = caps.length := by rw [renCs_eq] at hl; simpa using hl
      exact .clo _ f caps vs hl' (RCs.unren hle caps vs.toList (by simpa using hl') (fun j h1 h2 => by
        have := hr j (by simpa using h1) (by rw [renCs_eq]; simpa using h2)
        simpa [renCs_eq] using this))
theorem RCs.unren {r : Nat → Nat} {s s' : Sg} (hle : ∀ k y, s (r k) = some y → s' k = some y) : ∀ (cs : List C) (vs : List Value), vs.length = cs.length → (∀ j (h : j < vs.length) (h' : j < cs.length), RC I w s vs[j] (renC r cs[j])) →
    ∀ j (h : j < vs.toArray.size) (h' : j < cs.length), RC I w s' vs.toArray[j] cs[j]
  | [], vs, hl, hr => fun j h h' => by simp at h'
  | c :: cs, [], hl, hr => by simp at hl
  | c :: cs, v :: vs, hl, hr => fun j h h' => by
    cases j with
    | zero => exact RC.unren hle c (hr 0 (by simp) (by simp))
    | succ j =>
      exact RCs.unren hle cs vs (by simpa using hl) (fun i h1 h2 => hr (i + 1) (by simpa using h1) (by simpa using h2)) j (by simpa using h) (by simpa using h')
end

def RDs (I : Nat → Prop) (w : World) (s : Sg) (vs : Array Value) (ds : List D) : Prop := vs.size = ds.length ∧ ∀ j (h : j < vs.size) (h' : j < ds.length), RD I w s vs[j] ds[j]

theorem RD.unrenC {r : Nat → Nat} {s s' : Sg} (hle : ∀ k y, s (r k) = some y → s' k = some y) {x : Value} {d : D} (h : RD I w s x (renD r d)) : ∀ (n : Nat), SizeOf.sizeOf d < n → RD I w s' x d := by
  intro n
  induction n generalizing x d with
  | zero => intro hn; omega
  | succ n ih =>
    intro hn
    cases d with
    | c c =>
      simp only [renD] at h
      cases h with | c _ _ h => exact .c _ _ (RC.unren hle c h)
    | agg cs =>
      simp only [renD] at h
      cases h with
      | agg vs _ hl hr =>
        have hl' : vs.size = cs.length := by rw [renCs_eq] at hl; simpa using hl
        refine .agg vs cs hl' fun j h1 h2 => ?_
        have := hr j h1 (by rw [renCs_eq]; simpa using h2)
        exact RC.unren hle _ (by simpa [renCs_eq] using this)
    | tup ds =>
      simp only [renD] at h
      cases h with
      | tup vs _ hl hr =>
        have hl' : vs.size = ds.length := by rw [renDs_eq] at hl; simpa using hl
        refine .tup vs ds hl' fun j h1 h2 => ?_
        have := hr j h1 (by rw [renDs_eq]; simpa using h2)
        have hs : SizeOf.sizeOf ds[j] < SizeOf.sizeOf ds := List.sizeOf_lt_of_mem (List.getElem_mem h2)
        simp only [D.tup.sizeOf_spec] at hn
        exact ih (by simpa [renDs_eq] using this) (by omega)
    | when b d =>
      simp only [renD] at h
      cases h with
      | when _ _ _ h h0 =>
        simp only [D.when.sizeOf_spec] at hn
        exact .when x b d (fun hb => ih (h hb) (by omega)) h0

theorem RDs.unren {r : Nat → Nat} {s s' : Sg} (hle : ∀ k y, s (r k) = some y → s' k = some y) {vs : Array Value} {ds : List D} (h : RDs I w s vs (ds.map (renD r))) : RDs I w s' vs ds := by
  have hl : vs.size = ds.length := by simpa using h.1
  refine ⟨hl, fun j h1 h2 => ?_⟩
  have := h.2 j h1 (by simpa using h2)
  exact RD.unrenC hle (by simpa using this) _ (Nat.lt_succ_self _)

end

/-- A list of blocks as a heap: the keys are the places. -/
def hpL (h : List (Option (List C))) : Hp := fun k => h[k]?

/-- THE CONTRACT of a function: called with arguments that read as 'args', where the blocks 'h' are its to use: it returns, and what it returns and the blocks then (those it had, then new ones) are related by R; all else that was there is as it was. -/
def DC (P : Program) (F : FuncId) (args : List D) (h : List (Option (List C))) (R : D → List (Option (List C)) → Prop) : Prop :=
  ∀ I w s vs, SimH I w s (hpL h) → RDs I w s vs args → Calls P F vs w fun e w' => ∃ v I' s' d h', e = .returned v ∧ R d h' ∧ RD I' w' s' v d ∧ SimH I' w' s' (hpL h') ∧
    Ext h.length I w s (hpL h) I' w' s' (hpL h') ∧ h.length ≤ h'.length

/-- What a function leaves, in the caller's keys: 'ks' are the caller's names of the blocks that it handed over, 'b' the first of the names for new ones. -/
def rkey (ks : List Nat) (b : Nat) (k : Nat) : Nat := if k < ks.length then ks.getD k 0 else b + (k - ks.length)

def upsFrom (r : Nat → Nat) : Nat → List (Option (List C)) → List (Nat × Option (List C))
  | _, [] => []
  | i, x :: l => (r i, x.map (renCs r)) :: upsFrom r (i + 1) l

/-- The heap behind the updates of a call, key by key. -/
theorem appUp_upsFrom (r : Nat → Nat) : ∀ (l : List (Option (List C))) (i : Nat) (hp : Hp), (∀ a b, i ≤ a → a < i + l.length → i ≤ b → b < i + l.length → r a = r b → a = b) →
    (∀ j, j < l.length → appUp hp (upsFrom r i l) (r (i + j)) = (l[j]?).map (·.map (renCs r))) ∧ (∀ k, (∀ j, j < l.length → k ≠ r (i + j)) → appUp hp (upsFrom r i l) k = hp k)
  | [], i, hp, _ => ⟨fun j h => by simp at h, fun k _ => rfl⟩
  | x :: l, i, hp, hinj => by
    obtain ⟨ih1, ih2⟩ := appUp_upsFrom r l (i + 1) (upd hp (r i) (some (x.map (renCs r)))) (fun a b h1 h2 h3 h4 => hinj a b (by omega) (by simp only [List.length_cons]; omega) (by omega) (by simp only [List.length_cons]; omega))
    refine ⟨fun j hj => ?_, fun k hk => ?_⟩
    · simp only [upsFrom, appUp]
      cases j with
      | zero =>
        rw [ih2 (r (i + 0)) (fun j' hj' => fun e => by
          have := hinj (i + 0) (i + 1 + j') (by omega) (by simp only [List.length_cons]; omega) (by omega) (by simp only [List.length_cons]; omega) e
          omega)]
        simp [upd]
      | succ j =>
        have := ih1 j (by simpa using hj)
        rw [show i + 1 + j = i + (j + 1) from by omega] at this
        rw [this]
        simp
    · simp only [upsFrom, appUp]
      rw [ih2 k (fun j hj => by have := hk (j + 1) (by simpa using hj); rwa [show i + 1 + j = i + (j + 1) from by omega])]
      exact upd_ne _ _ (by have := hk 0 (by simp); simpa using this)

end Go.CT

namespace Go.CT

/-- The names under which a caller hands its blocks over. -/
def rk0 (ks : List Nat) (b : Nat) (k : Nat) : Nat := if k < ks.length then ks.getD k 0 else b

theorem call_sound {P : Program} {m : Nat} {I : Nat → Prop} {w : World} {s : Sg} {hp : Hp} (H : SimH I w s hp) {F : FuncId} {args : List D} {h : List (Option (List C))} {R : D → List (Option (List C)) → Prop} (hD : DC P F args h R)
    (ks : List Nat) (b : Nat) (hks : ks.length = h.length) (hnd : ks.Nodup) (hhp : ∀ i x, h[i]? = some x → hp (ks.getD i 0) = some (x.map (renCs (rk0 ks b)))) (hm : m ≤ b) (hb : ∀ j, j < 64 → hp (b + j) = none)
    (hlen : ∀ d h', R d h' → h'.length ≤ h.length + 64) {vs : Array Value} (hvs : RDs I w s vs (args.map (renD (rk0 ks b)))) :
    Calls P F vs w fun e w' => ∃ v I' s' d h', e = .returned v ∧ R d h' ∧ h.length ≤ h'.length ∧ s.le s' ∧ SimH I' w' s' (appUp hp (upsFrom (rkey ks b) 0 h')) ∧
      Ext m I w s hp I' w' s' (appUp hp (upsFrom (rkey ks b) 0 h')) ∧ RD I' w' s' v (renD (rkey ks b) d) := by
  have hb0 : hp b = none := by simpa using hb 0 (by omega)
  have hsb : s b = none := H.top b hb0
  have hrk0 : ∀ k, k < h.length → rk0 ks b k = ks.getD k 0 := fun k hk => by simp only [rk0]; rw [if_pos (by omega)]
  have hrk0' : ∀ k, h.length ≤ k → rk0 ks b k = b := fun k hk => by simp only [rk0]; rw [if_neg (by omega)]
  let sc : Sg := fun k => if k < h.length then s (ks.getD k 0) else none
  have hsc : ∀ k, k < h.length → sc k = s (ks.getD k 0) := fun k hk => if_pos hk
  have hsc' : ∀ k, h.length ≤ k → sc k = none := fun k hk => if_neg (by omega)
  have hunren : ∀ k y, s (rk0 ks b k) = some y → sc k = some y := fun k y hy => by
    by_cases hk : k < h.length
    · rw [hsc k hk, ← hrk0 k hk]; exact hy
    · rw [hrk0' k (by omega), hsb] at hy; cases hy
  have hinjks : ∀ i j, i < h.length → j < h.length → ks.getD i 0 = ks.getD j 0 → i = j := fun i j hi hj e => by
    have hi' : i < ks.length := by omega
    have hj' : j < ks.length := by omega
    simp only [List.getD_eq_getElem?_getD, List.getElem?_eq_getElem hi', List.getElem?_eq_getElem hj', Option.getD_some] at e
    have hp := List.pairwise_iff_getElem.1 hnd
    rcases Nat.lt_trichotomy i j with h1 | h1 | h1
    · exact absurd e (hp i j hi' hj' h1)
    · exact h1
    · exact absurd e.symm (hp j i hj' hi' h1)
  have hhl : ∀ i, i < h.length → hp (ks.getD i 0) ≠ none := fun i hi => by
    rw [hhp i h[i] (by simp [hi])]; simp
  have Hc : SimH I w sc (hpL h) := by
    refine ⟨fun k hk => ?_, fun k cs hk => ?_, fun k k' b0 cs cs' h1 h2 h3 h4 => ?_, H.imm⟩
    · refine hsc' k ?_
      simp only [hpL] at hk
      exact List.getElem?_eq_none_iff.1 hk
    · simp only [hpL] at hk
      have hlt := (List.getElem?_eq_some_iff.1 hk).1
      have h1 := hhp k _ hk
      simp only [Option.map_some] at h1
      rw [hsc k hlt]
      rcases H.blk _ _ h1 with ⟨h2, h3⟩ | ⟨b0, arr, T, h2, h3, h4, h5, h6⟩
      · exact .inl ⟨h2, by rw [renCs_eq] at h3; simpa using h3⟩
      · refine .inr ⟨b0, arr, T, h2, h3, by rw [renCs_eq] at h4; simpa using h4, h5, fun j hj => ?_⟩
        obtain ⟨y, hy, hry⟩ := h6 j (by rw [renCs_eq]; simpa using hj)
        exact ⟨y, hy, RC.unren hunren _ (by simpa [renCs_eq] using hry)⟩
    · simp only [hpL] at h1 h2
      have hlt := (List.getElem?_eq_some_iff.1 h1).1
      have hlt' := (List.getElem?_eq_some_iff.1 h2).1
      rw [hsc k hlt] at h3
      rw [hsc k' hlt'] at h4
      exact hinjks k k' hlt hlt' (H.inj _ _ b0 _ _ (by simpa using hhp k _ h1) (by simpa using hhp k' _ h2) h3 h4)
  have hlivec : ∀ b0, Live sc (hpL h) b0 → ∃ i, i < h.length ∧ ∃ cs, hp (ks.getD i 0) = some (some cs) ∧ s (ks.getD i 0) = some (some b0) := by
    rintro b0 ⟨i, cs, hi, hs⟩
    simp only [hpL] at hi
    have hlt := (List.getElem?_eq_some_iff.1 hi).1
    rw [hsc i hlt] at hs
    exact ⟨i, hlt, _, by simpa using hhp i _ hi, hs⟩
  refine (hD I w sc vs Hc (hvs.unren hunren)).mono ?_
  rintro e w' ⟨v, I', s', d, h', rfl, hR, hrd, H', E', hlen'⟩
  have hl64 := hlen d h' hR
  have hkeyeq : ∀ k, k < h.length → s' k = s (ks.getD k 0) := fun k hk => (E'.key k hk).trans (hsc k hk)
  -- the names behind the call
  let r := rkey ks b
  have hr1 : ∀ k, k < h.length → r k = ks.getD k 0 := fun k hk => by simp only [r, rkey]; rw [if_pos (by omega)]
  have hr2 : ∀ k, h.length ≤ k → r k = b + (k - h.length) := fun k hk => by simp only [r, rkey]; rw [if_neg (by omega), hks]
  let sn : Sg := fun k => if b ≤ k ∧ k < b + 64 then s' (h.length + (k - b)) else s k
  have hsn1 : ∀ k, (b ≤ k ∧ k < b + 64) → sn k = s' (h.length + (k - b)) := fun k hk => if_pos hk
  have hsn2 : ∀ k, ¬ (b ≤ k ∧ k < b + 64) → sn k = s k := fun k hk => if_neg hk
  have hwin : ∀ k, hp k ≠ none → ¬ (b ≤ k ∧ k < b + 64) := fun k hk hw => hk (by
    have := hb (k - b) (by omega)
    rwa [show b + (k - b) = k from by omega] at this)
  have hle : s.le sn := fun k x hx => by
    by_cases hw : b ≤ k ∧ k < b + 64
    · have := H.top k (by have := hb (k - b) (by omega); rwa [show b + (k - b) = k from by omega] at this)
      rw [this] at hx; cases hx
    · rw [hsn2 k hw]; exact hx
  have hsnr : ∀ i, i < h'.length → sn (r i) = s' i := fun i hi => by
    by_cases hlt : i < h.length
    · rw [hr1 i hlt, hsn2 _ (hwin _ (hhl i hlt)), hkeyeq i hlt]
    · rw [hr2 i (by omega), hsn1 _ (by omega)]
      congr 1
      omega
  have hren : ∀ k y, s' k = some y → sn (r k) = some y := fun k y hy => by
    by_cases hk : k < h'.length
    · rw [hsnr k hk]; exact hy
    · have := H'.top k (by simp only [hpL]; exact List.getElem?_eq_none_iff.2 (by omega))
      rw [this] at hy; cases hy
  have hrinj : ∀ i j, i < h'.length → j < h'.length → r i = r j → i = j := fun i j hi hj e => by
    by_cases h1 : i < h.length <;> by_cases h2 : j < h.length
    · rw [hr1 i h1, hr1 j h2] at e; exact hinjks i j h1 h2 e
    · rw [hr1 i h1, hr2 j (by omega)] at e
      exact absurd ⟨by omega, by omega⟩ (hwin _ (hhl i h1))
    · rw [hr2 i (by omega), hr1 j h2] at e
      exact absurd ⟨by omega, by omega⟩ (hwin _ (hhl j h2))
    · rw [hr2 i (by omega), hr2 j (by omega)] at e; omega
  obtain ⟨hup1, hup2⟩ := appUp_upsFrom r h' 0 hp (fun a c _ h2 _ h4 e => hrinj a c (by omega) (by omega) e)
  simp only [Nat.zero_add] at hup1 hup2
  let hpn := appUp hp (upsFrom r 0 h')
  have hcase : ∀ k, (∃ i, i < h'.length ∧ k = r i ∧ hpn k = (h'[i]?).map (·.map (renCs r))) ∨ ((∀ i, i < h'.length → k ≠ r i) ∧ hpn k = hp k) := fun k => by
    by_cases hk : ∃ i, i < h'.length ∧ k = r i
    · obtain ⟨i, hi, rfl⟩ := hk
      exact .inl ⟨i, hi, rfl, hup1 i hi⟩
    · have hk' : ∀ i, i < h'.length → k ≠ r i := fun i hi e => hk ⟨i, hi, e⟩
      exact .inr ⟨hk', hup2 k hk'⟩
  have hkeepsc : Keeps I w w' := E'.keeps Hc
  have hother : ∀ k cs b0, hpn k = hp k → (∀ i, i < h'.length → k ≠ r i) → hp k = some (some cs) → s k = some (some b0) → ¬ Live sc (hpL h) b0 := fun k cs b0 _ hne hk hs hl => by
    obtain ⟨i, hi, cs', h1, h2⟩ := hlivec b0 hl
    have := H.inj k _ b0 cs cs' hk h1 hs h2
    exact hne i (by omega) (by rw [hr1 i hi]; exact this)
  have hlive : ∀ b0, Live sn hpn b0 → Live s hp b0 ∨ w.heap.size ≤ b0 := by
    rintro b0 ⟨k, cs, hk, hs⟩
    rcases hcase k with ⟨i, hi, rfl, he⟩ | ⟨hne, he⟩
    · rw [hsnr i hi] at hs
      have hi' : h'[i]? = some h'[i] := by simp [hi]
      rw [he, hi'] at hk
      simp only [Option.map_some, Option.some.injEq] at hk
      cases hx : h'[i] with
      | none => rw [hx] at hk; simp at hk
      | some c0 =>
        rcases E'.live b0 ⟨i, c0, by simp only [hpL]; rw [hi', hx], hs⟩ with h1 | h1
        · obtain ⟨i', _, cs', h2, h3⟩ := hlivec b0 h1
          exact .inl ⟨_, cs', h2, h3⟩
        · exact .inr h1
    · rw [he] at hk
      rw [hsn2 k (hwin k (by rw [hk]; simp))] at hs
      exact .inl ⟨k, cs, hk, hs⟩
  have hext : Ext m I w s hp I' w' sn hpn := by
    refine ⟨E'.os, E'.tape, E'.output, E'.size, fun b0 hb0' hl => E'.same b0 hb0' fun hc => ?_, E'.shp, fun k hk => hsn2 k (by omega), E'.imm, fun b0 hb0' => ?_, hlive⟩
    · obtain ⟨i', _, cs', h2, h3⟩ := hlivec b0 hc
      exact hl ⟨_, cs', h2, h3⟩
    · rcases E'.imm' b0 hb0' with h1 | h1 | h1
      · exact .inl h1
      · obtain ⟨i', _, cs', h2, h3⟩ := hlivec b0 h1
        exact .inr (.inl ⟨_, cs', h2, h3⟩)
      · exact .inr (.inr h1)
  refine ⟨v, I', sn, d, h', rfl, hR, hlen', hle, ⟨fun k hk => ?_, fun k cs hk => ?_, fun k k' b0 cs cs' h1 h2 h3 h4 => ?_, H'.imm⟩, hext, hrd.ren hren⟩
  · rcases hcase k with ⟨i, hi, rfl, he⟩ | ⟨hne, he⟩
    · have hk' : hpn (r i) = none := hk
      rw [he] at hk'
      simp [hi] at hk'
    · have hk' : hpn k = none := hk
      rw [he] at hk'
      by_cases hw : b ≤ k ∧ k < b + 64
      · rw [hsn1 k hw]
        refine H'.top _ ?_
        simp only [hpL]
        refine List.getElem?_eq_none_iff.2 ?_
        refine Nat.le_of_not_lt fun hlt => hne (h.length + (k - b)) hlt ?_
        rw [hr2 _ (by omega)]; omega
      · rw [hsn2 k hw]; exact H.top k hk'
  · have hk' : hpn k = some (some cs) := hk
    rcases hcase k with ⟨i, hi, rfl, he⟩ | ⟨hne, he⟩
    · have hi' : h'[i]? = some h'[i] := by simp [hi]
      rw [he, hi'] at hk'
      simp only [Option.map_some, Option.some.injEq] at hk'
      cases hx : h'[i] with
      | none => rw [hx] at hk'; simp at hk'
      | some c0 =>
        rw [hx] at hk'
        simp only [Option.map_some, Option.some.injEq] at hk'
        subst hk'
        rw [hsnr i hi]
        rcases H'.blk i c0 (by simp only [hpL]; rw [hi', hx]) with ⟨g1, g2⟩ | ⟨b0, arr, T, g1, g2, g3, g4, g5⟩
        · exact .inl ⟨g1, by rw [g2]; rfl⟩
        · refine .inr ⟨b0, arr, T, g1, g2, by rw [renCs_eq]; simpa using g3, g4, fun j hj => ?_⟩
          obtain ⟨y, hy, hry⟩ := g5 j (by rw [renCs_eq] at hj; simpa using hj)
          exact ⟨y, hy, by simpa [renCs_eq] using hry.ren hren⟩
    · rw [he] at hk'
      rw [hsn2 k (hwin k (by rw [hk']; simp))]
      rcases H.blk k cs hk' with h1 | ⟨b0, arr, T, g1, g2, g3, g4, g5⟩
      · exact .inl h1
      · have hnl := hother k cs b0 he hne hk' g1
        have hlt := lt_of_heap g2
        refine .inr ⟨b0, arr, T, g1, by rw [E'.same b0 hlt hnl]; exact g2, g3, fun hI => ?_, fun j hj => ?_⟩
        · rcases E'.imm' b0 hI with q | q | q
          · exact g4 q
          · exact hnl q
          · omega
        · obtain ⟨y, hy, hry⟩ := g5 j hj
          exact ⟨y, hy, hry.mono E'.imm hkeepsc E'.shp hle⟩
  · have h1' : hpn k = some (some cs) := h1
    have h2' : hpn k' = some (some cs') := h2
    have own : ∀ k cs, hpn k = some (some cs) → sn k = some (some b0) → (∃ i c0, i < h'.length ∧ k = r i ∧ h'[i]? = some (some c0) ∧ s' i = some (some b0)) ∨ ((∀ i, i < h'.length → k ≠ r i) ∧ hpn k = hp k ∧ hp k = some (some cs) ∧ s k = some (some b0)) := fun k cs hk hs => by
      rcases hcase k with ⟨i, hi, rfl, he⟩ | ⟨hne, he⟩
      · have hi' : h'[i]? = some h'[i] := by simp [hi]
        rw [he, hi'] at hk
        simp only [Option.map_some, Option.some.injEq] at hk
        cases hx : h'[i] with
        | none => rw [hx] at hk; simp at hk
        | some c0 => exact .inl ⟨i, c0, hi, rfl, by rw [hi', hx], by rw [← hsnr i hi]; exact hs⟩
      · have hk2 := hk
        rw [he] at hk2
        exact .inr ⟨hne, he, hk2, by rw [hsn2 k (hwin k (by rw [hk2]; simp))] at hs; exact hs⟩
    rcases own k cs h1' h3 with ⟨i, c0, hi, rfl, e1, e2⟩ | ⟨hne, he, e1, e2⟩ <;> rcases own k' cs' h2' h4 with ⟨i', c0', hi', rfl, f1, f2⟩ | ⟨hne', he', f1, f2⟩
    · rw [H'.inj i i' b0 c0 c0' e1 f1 e2 f2]
    · rcases E'.live b0 ⟨i, c0, e1, e2⟩ with q | q
      · exact absurd q (hother k' cs' b0 he' hne' f1 f2)
      · have := (H.live_lt ⟨k', cs', f1, f2⟩).1; omega
    · rcases E'.live b0 ⟨i', c0', f1, f2⟩ with q | q
      · exact absurd q (hother k cs b0 he hne e1 e2)
      · have := (H.live_lt ⟨k, cs, e1, e2⟩).1; omega
    · exact H.inj k k' b0 cs cs' e1 f1 e2 f2

end Go.CT

namespace Go.CT

def argsOf (tm : Nat → Option D) : List Operand → Option (List D)
  | [] => some []
  | x :: r => (match evP tm x, argsOf tm r with | some d, some ds => some (d :: ds) | _, _ => none)

def calleeOf (tm : Nat → Option D) (c : Call) : Option (FuncId × List D) :=
  match c.callee with
  | .value f => (match evP tm f, argsOf tm c.args.toList with | some (.c (.clo F caps)), some ds => some (F, ds ++ caps.map D.c) | some (.c (.met F cs)), some ds => some (F, .agg cs :: ds) | _, _ => none)
  | _ => none

def fnOK (P : Program) (F : FuncId) : Bool :=
  match P.funcs[F]? with
  | some fn => !(fn.name == "runtime.NumGoroutine") && fn.body.isSome
  | none => false

/-- Is a guarded operation carried out? -/
def guardB (all : Array Oper) (tm : Nat → Option D) (g : Nat) (b : Bool) : Option Bool :=
  match (all[g]?).bind (·.dst) with
  | some t => (match tm t with
    | some d => (match peelD d with
      | .c (.v (.bool y)) => some (peelB d && (y == b))
      | _ => none)
    | none => none)
  | none => none

abbrev wkey (nx i : Nat) : Nat := nx + 64 * i

/-- An operation that, where it is carried out, changes the owned blocks. -/
def mayUp : Op → Bool
  | .alloc _ | .box _ _ | .buildSlice _ _ _ | .store _ _ _ | .makeSlice _ _ _ => true
  | .call c => (match c.callee with | .builtin .append => true | .builtin .clear => true | _ => false)
  | _ => false
theorem mayUp_up {P : Program} {m key : Nat} {tm : Nat → Option D} {hp : Hp} {op : Op} {out : Out} (hm : mayUp op = true) (h : stp P m key tm hp op = some out) : out.up ≠ [] := by
  unfold stp at h
  split at h
  all_goals first
    | (exfalso; revert hm; simp [mayUp]; done)
    | (repeat' split at h) <;> first | (cases h; done) | (simp only [Option.some.injEq] at h; subst h; simp; done) | (simp only [Option.some.injEq] at h; subst h; simp [spendUp]; done) | (exfalso; revert hm; simp_all [mayUp]; done)
theorem renC_plain (r : Nat → Nat) : ∀ {c : C}, kf c = true → renC r c = c
  | .v _, _ | .isl _ _, _ | .z, _ | .unk, _ | .eptr _, _ | .met _ _, _ => rfl
  | .msl _ _ _ _, h | .ptr _ _, h | .clo _ _, h => by simp [kf] at h
theorem renCs_plain (r : Nat → Nat) : ∀ {cs : List C}, kfs cs = true → renCs r cs = cs
  | [], _ => rfl
  | c :: cs, h => by simp only [kfs, Bool.and_eq_true] at h; simp only [renCs, renC_plain r h.1, renCs_plain r h.2]
theorem appUp_same {r : Nat → Nat} : ∀ (l : List (Option (List C))) (j : Nat) (hp : Hp), (∀ i' x, l[i']? = some x → hp (r (j + i')) = some (x.map (renCs r))) → appUp hp (upsFrom r j l) = hp
  | [], _, _, _ => rfl
  | x :: l, j, hp, h => by
    have h0 := h 0 x rfl
    have e : upd hp (r j) (some (x.map (renCs r))) = hp := by
      funext k
      by_cases hk : k = r j
      · subst hk; rw [upd_same]; simpa using h0.symm
      · rw [upd_ne _ _ hk]
    simp only [upsFrom, appUp, e]
    exact appUp_same l (j + 1) hp fun i' y hy => by rw [show j + 1 + i' = j + (i' + 1) from by omega]; exact h (i' + 1) y (by simpa using hy)
theorem same_ups {hp : Hp} {ks : List Nat} {h : List (Option (List C))} {b : Nat} (hks : ks.length = h.length) (hhp : ∀ i' x, h[i']? = some x → hp (ks.getD i' 0) = some (x.map (renCs (rk0 ks b))))
    (hkf : ∀ cs, some cs ∈ h → kfs cs = true) : appUp hp (upsFrom (rkey ks b) 0 h) = hp :=
  appUp_same h 0 hp fun i' x hx => by
    have hlt : i' < ks.length := by rw [hks]; exact (List.getElem?_eq_some_iff.1 hx).1
    have e : rkey ks b (0 + i') = ks.getD i' 0 := by simp only [rkey, Nat.zero_add]; rw [if_pos hlt]
    rw [e, hhp i' x hx]
    cases x with
    | none => rfl
    | some cs =>
      have := hkf cs (List.mem_of_getElem? hx)
      simp only [Option.map_some, renCs_plain _ this]

inductive Stp (P : Program) (m nx : Nat) (all : Array Oper) (i : Nat) (o : Oper) (tm : Nat → Option D) (hp : Hp) : List Nat → List Nat → (Option D → List (Nat × Option (List C)) → Prop) → Prop
  | plain (out : Out) (hg : o.guard = none) (h : stp P m (wkey nx i) tm hp o.op = some out) (hvc : out.vc) : Stp P m nx all i o tm hp out.rd (out.up.map (·.1)) (fun d up => d = out.d ∧ up = out.up)
  | gplain (g : Nat) (b x : Bool) (out : Out) (hg : o.guard = some (g, b)) (hx : guardB all tm g b = some x) (h : stp P m (wkey nx i) tm hp o.op = some out) (hup : out.up = []) (hvc : x = true → out.vc) :
      Stp P m nx all i o tm hp out.rd [] (fun d up => d = out.d.map (.when x) ∧ up = [])
  | gnone (g : Nat) (b : Bool) (hg : o.guard = some (g, b)) (hx : guardB all tm g b = some false) (h : ∀ hp', stp P m (wkey nx i) tm hp' o.op = none) (hnc : ∀ c, o.op = .call c → ∀ f, c.callee ≠ .value f) : Stp P m nx all i o tm hp [] [] (fun d up => d = some (.when false (DB false)) ∧ up = [])
  | gon (g : Nat) (b : Bool) (out : Out) (hg : o.guard = some (g, b)) (hm : mayUp o.op = true) (hx : guardB all tm g b = some true) (h : stp P m (wkey nx i) tm hp o.op = some out) (hvc : out.vc) :
      Stp P m nx all i o tm hp out.rd (out.up.map (·.1)) (fun d up => d = out.d ∧ up = out.up)
  | goff (g : Nat) (b : Bool) (hg : o.guard = some (g, b)) (hm : mayUp o.op = true) (hx : guardB all tm g b = some false) : Stp P m nx all i o tm hp [] [] (fun d up => d = some (.when false (DB false)) ∧ up = [])
  | call (c : Call) (F : FuncId) (args : List D) (ks : List Nat) (h : List (Option (List C))) (R : D → List (Option (List C)) → Prop) (hg : o.guard = none ∨ ∃ g b, o.guard = some (g, b) ∧ guardB all tm g b = some true) (hop : o.op = .call c)
      (hc : calleeOf tm c = some (F, args.map (renD (rk0 ks (wkey nx i))))) (hok : okP tm c.operands.toList) (hfn : fnOK P F = true) (hD : DC P F args h R) (hks : ks.length = h.length) (hnd : ks.Nodup)
      (hhp : ∀ i' x, h[i']? = some x → hp (ks.getD i' 0) = some (x.map (renCs (rk0 ks (wkey nx i))))) (hm : m ≤ wkey nx i) (hb : ∀ j, j < 64 → hp (wkey nx i + j) = none) (hlen : ∀ d h', R d h' → h'.length ≤ h.length + 64) :
      Stp P m nx all i o tm hp ks ks (fun d up => ∃ d' h', R d' h' ∧ h.length ≤ h'.length ∧ d = some (renD (rkey ks (wkey nx i)) d') ∧ up = upsFrom (rkey ks (wkey nx i)) 0 h')
  | rcall (c : Call) (F : FuncId) (args : List D) (ks : List Nat) (h : List (Option (List C))) (R : D → List (Option (List C)) → Prop) (hg : o.guard = none ∨ ∃ g b, o.guard = some (g, b) ∧ guardB all tm g b = some true) (hop : o.op = .call c)
      (hc : calleeOf tm c = some (F, args.map (renD (rk0 ks (wkey nx i))))) (hok : okP tm c.operands.toList) (hfn : fnOK P F = true) (hD : DC P F args h R) (hks : ks.length = h.length) (hnd : ks.Nodup)
      (hhp : ∀ i' x, h[i']? = some x → hp (ks.getD i' 0) = some (x.map (renCs (rk0 ks (wkey nx i))))) (hm : m ≤ wkey nx i) (hb : ∀ j, j < 64 → hp (wkey nx i + j) = none) (hsame : ∀ d h', R d h' → h' = h) (hkf : ∀ cs, some cs ∈ h → kfs cs = true) :
      Stp P m nx all i o tm hp ks [] (fun d up => ∃ d', R d' h ∧ d = some (renD (rkey ks (wkey nx i)) d') ∧ up = [])
  | gcall (g : Nat) (b x : Bool) (c : Call) (d : D) (hg : o.guard = some (g, b)) (hx : guardB all tm g b = some x) (hop : o.op = .call c) (hcf : ∃ f, c.callee = .value f)
      (hc : x = true → ∃ F args, calleeOf tm c = some (F, args.map (renD (rk0 [] (wkey nx i)))) ∧ okP tm c.operands.toList ∧ fnOK P F = true ∧ DC P F args [] (fun r h' => r = d ∧ h' = []) ∧ renD (rkey [] (wkey nx i)) d = d)
      (hm : m ≤ wkey nx i) (hb : ∀ j, j < 64 → hp (wkey nx i + j) = none) :
      Stp P m nx all i o tm hp [] [] (fun d' up => d' = some (.when x d) ∧ up = [])

section
variable {P : Program}

theorem peel_false {I : Nat → Prop} {w : World} {s : Sg} {x : Value} {d : D} (h : RD I w s x d) (hb : peelB d = false) : x = undef := by
  cases h with
  | when _ b d h h0 => exact h0 hb
  | _ => simp [peelB] at hb

theorem guardB_sound {I : Nat → Prop} {w : World} {s : Sg} {a : Act} {tm : Nat → Option D} (hA : ∀ n d, tm n = some d → RD I w s (a.tmps.getD n undef) d) {all : Array Oper} {o : Oper} {g : Nat} {b x : Bool}
    (hg : o.guard = some (g, b)) (hx : guardB all tm g b = some x) : Region.wanted o (yielded all a.tmps) = x := by
  unfold guardB at hx
  split at hx
  · rename_i t ht
    split at hx
    · rename_i d hd
      split at hx
      · rename_i y hy
        simp only [Option.some.injEq] at hx
        have hr := hA t d hd
        have hv : yielded all a.tmps g = if peelB d = true then some y else none := by
          unfold yielded
          rw [ht]
          simp only [Option.bind_some]
          by_cases hlt : t < a.tmps.size
          · have e : a.tmps[t]? = some a.tmps[t] := by simp [hlt]
            have e2 : a.tmps.getD t undef = a.tmps[t] := by simp [hlt]
            rw [e2] at hr
            rw [e]
            by_cases hb : peelB d = true
            · have := peel_sound hr hb
              rw [hy] at this
              rw [(rd_scalar this).1, if_pos hb]
            · rw [if_neg hb, peel_false hr (by simpa using hb)]
              rfl
          · have e : a.tmps[t]? = none := Array.getElem?_eq_none (Nat.le_of_not_lt hlt)
            have e2 : a.tmps.getD t undef = undef := by simp [hlt]
            rw [e2] at hr
            rw [e]
            by_cases hb : peelB d = true
            · have := peel_sound hr hb
              rw [hy] at this
              have := (rd_scalar this).1
              simp [undef] at this
            · rw [if_neg hb]
        unfold Region.wanted
        rw [hg]
        simp only [hv, ← hx]
        cases hpb : peelB d <;> simp
      · cases hx
    · cases hx
  · cases hx

theorem argsOf_sound {I : Nat → Prop} {w : World} {s : Sg} {a : Act} {tm : Nat → Option D} (hA : ∀ n d, tm n = some d → RD I w s (a.tmps.getD n undef) d) {l0 : List Operand} (hok : okP tm l0) :
    ∀ (l : List Operand) (ds : List D), (∀ x ∈ l, x ∈ l0) → argsOf tm l = some ds → RDs I w s (l.map a.eval).toArray ds
  | [], ds, _, h => by
    simp only [argsOf, Option.some.injEq] at h
    subst h
    exact ⟨rfl, fun j h => by simp at h⟩
  | x :: r, ds, hm, h => by
    simp only [argsOf] at h
    split at h
    · rename_i d ds' hd hr
      simp only [Option.some.injEq] at h
      subst h
      have ih := argsOf_sound hA hok r ds' (fun y hy => hm y (by simp [hy])) hr
      have h0 := evP_sound hA hd hok (hm x (by simp))
      refine ⟨by have := ih.1; simp at this ⊢; exact this, fun j h1 h2 => ?_⟩
      cases j with
      | zero => simpa using h0
      | succ j =>
        have h3 := ih.2 j (by simpa using h1) (by simpa using h2)
        rw [List.getElem_toArray] at h3
        rw [List.getElem_toArray]
        exact h3
    · cases h

/-- The call's run: the callee is entered. -/
theorem call_run {I : Nat → Prop} {w : World} {s : Sg} {a : Act} {tm : Nat → Option D} (hA : ∀ n d, tm n = some d → RD I w s (a.tmps.getD n undef) d) {o : Oper} {c : Call} {F : FuncId} {ds : List D} (hop : o.op = .call c)
    (hc : calleeOf tm c = some (F, ds)) (hok : okP tm c.operands.toList) (hfn : fnOK P F = true) : ∃ vs, (execOp a.eval o).run P w = .ok (.enter F vs) w ∧ RDs I w s vs ds := by
  obtain ⟨callee, args, argTypes⟩ := c
  unfold calleeOf at hc
  split at hc
  · rename_i f hcal
    simp only at hcal
    subst hcal
    split at hc
    · rename_i F' caps ds' hf ha
      simp only [Option.some.injEq, Prod.mk.injEq] at hc
      obtain ⟨rfl, rfl⟩ := hc
      obtain ⟨vs, hv, hvr⟩ := rd_clo (evP_sound hA hf hok (by simp [Call.operands]))
      have har := argsOf_sound hA hok args.toList ds' (fun x hx => by simp only [Call.operands, Array.toList_append, List.mem_append]; exact .inr hx) ha
      have e1 : (args.toList.map a.eval).toArray = args.map a.eval := by apply Array.ext'; simp
      rw [e1] at har
      refine ⟨args.map a.eval ++ vs, ?_, ?_, fun j h1 h2 => ?_⟩
      · unfold fnOK at hfn
        split at hfn
        · rename_i fn hfn'
          simp only [Bool.and_eq_true, Bool.not_eq_true'] at hfn
          simp only [execOp, hop, resolve, hv]
          rw [run_bind (x := ({ target := .fn (.func F') vs, args := #[] ++ args.map a.eval } : Deferred)) (w' := w) _ _ _ (by rfl)]
          simp only [invoke, callFunc]
          rw [run_bind (x := P) (w' := w) _ _ _ (by rfl)]
          simp only [hfn', hfn.1, Bool.false_eq_true, if_false]
          have hb : fn.body.isNone = false := by
            have := hfn.2
            cases hbb : fn.body <;> simp_all
          simp only [hb, Bool.false_eq_true, if_false, Array.empty_append]
          rfl
        · cases hfn
      · have h1 := har.1
        have h2 := hvr.1
        simp only [Array.size_append, List.length_append, List.length_map, h1, h2]
      · have hl1 : (args.map a.eval).size = ds'.length := har.1
        by_cases hj : j < (args.map a.eval).size
        · have := har.2 j hj (by omega)
          simp only [Array.getElem_append, List.getElem_append, hj, show j < ds'.length from by omega, dite_true]
          exact this
        · have hj2 : j - (args.map a.eval).size < vs.size := by simp at h1; simp at hj ⊢; omega
          have := hvr.2 (j - (args.map a.eval).size) hj2 (by rw [← hvr.1]; exact hj2)
          simp only [Array.getElem_append, List.getElem_append, hj, show ¬ j < ds'.length from by omega, dite_false, List.getElem_map]
          refine .c _ _ ?_
          simp only [← hl1]
          exact this
    · rename_i F' cs ds' hf ha
      simp only [Option.some.injEq, Prod.mk.injEq] at hc
      obtain ⟨rfl, rfl⟩ := hc
      obtain ⟨vs, hv, hvr⟩ := rd_met (evP_sound hA hf hok (by simp [Call.operands]))
      have har := argsOf_sound hA hok args.toList ds' (fun x hx => by simp only [Call.operands, Array.toList_append, List.mem_append]; exact .inr hx) ha
      have e1 : (args.toList.map a.eval).toArray = args.map a.eval := by apply Array.ext'; simp
      rw [e1] at har
      refine ⟨#[.agg vs] ++ args.map a.eval, ?_, ?_, fun j h1 h2 => ?_⟩
      · unfold fnOK at hfn
        split at hfn
        · rename_i fn hfn'
          simp only [Bool.and_eq_true, Bool.not_eq_true'] at hfn
          simp only [execOp, hop, resolve, hv]
          rw [run_bind (x := ({ target := .fn (.func F') #[], args := #[.agg vs] ++ args.map a.eval } : Deferred)) (w' := w) _ _ _ (by rfl)]
          simp only [invoke, callFunc]
          rw [run_bind (x := P) (w' := w) _ _ _ (by rfl)]
          simp only [hfn', hfn.1, Bool.false_eq_true, if_false]
          have hb : fn.body.isNone = false := by
            have := hfn.2
            cases hbb : fn.body <;> simp_all
          simp only [hb, Bool.false_eq_true, if_false, Array.append_empty]
          rfl
        · cases hfn
      · have h1 := har.1
        simp only [Array.size_append, List.length_cons, h1]
        simp only [List.size_toArray, List.length_cons, List.length_nil]
        omega
      · cases j with
        | zero =>
          have : RD I w s (Value.agg vs) (D.agg cs) := .agg _ _ hvr.1 fun i g1 g2 => (hvr.2 i g1 g2).any s
          simpa using this
        | succ j =>
          have h3 : j < (args.map a.eval).size := by simp at h1 ⊢; omega
          have := har.2 j h3 (by simpa using h2)
          have e : (#[Value.agg vs] ++ args.map a.eval)[j + 1] = (args.map a.eval)[j] := by
            rw [Array.getElem_append_right (by simp)]; simp
          rw [e]
          exact this
    · cases hc
  · cases hc

/-- What a region's operation leaves. -/
structure Rc (I : Nat → Prop) (w : World) (s : Sg) (a : Act) (tm : Nat → Option D) (hp : Hp) (nt : Nat) : Prop where
  H : SimH I w s hp
  tm : ∀ n d, tm n = some d → RD I w s (a.tmps.getD n undef) d
  df : a.defers = []
  sz : a.tmps.size = nt

theorem slots_put {I : Nat → Prop} {w : World} {s : Sg} {a : Act} {tm : Nat → Option D} {nt : Nat} (hA : ∀ n d, tm n = some d → RD I w s (a.tmps.getD n undef) d) (hsz : a.tmps.size = nt) {dst : Option Tmp} {v : Value} {d : Option D}
    (hd : ∀ d', d = some d' → RD I w s v d') (hf : fitsT nt dst = true) : ∀ n d', setT tm dst d n = some d' → RD I w s ((a.put dst v).tmps.getD n undef) d' := by
  cases dst with
  | none => exact hA
  | some t =>
    have ht : t < nt := by simpa [fitsT] using hf
    intro n d' hn
    rw [getD_put]
    simp only [setT, upd] at hn
    by_cases h : n = t
    · rw [if_pos h] at hn
      rw [if_pos ⟨h, by rw [hsz]; exact ht⟩]
      exact hd d' hn
    · rw [if_neg h] at hn
      rw [if_neg (fun e => h e.1)]
      exact hA n d' hn

theorem Stp.run {m nx nt : Nat} {all : Array Oper} {i : Nat} {o : Oper} (ho : all[i]? = some o) {I : Nat → Prop} {w : World} {s : Sg} {a : Act} {tm : Nat → Option D} {hp : Hp} (hR : Rc I w s a tm hp nt)
    {rd wr : List Nat} {T : Option D → List (Nat × Option (List C)) → Prop} (h : Stp P m nx all i o tm hp rd wr T) (hf : fitsT nt o.dst = true) {Q : Exit → Act → World → Prop} {K : Act → World → Prop}
    (hK : ∀ a' w' I' s' d up, T d up → Rc I' w' s' a' (setT tm o.dst d) (appUp hp up) nt → Ext m I w s hp I' w' s' (appUp hp up) → K a' w') : wpOp P all Q i K a w := by
  have hput : ∀ (I' : Nat → Prop) (w' : World) (s' : Sg) (v : Value) (d : Option D) (up : List (Nat × Option (List C))), s.le s' → SimH I' w' s' (appUp hp up) → Ext m I w s hp I' w' s' (appUp hp up) → (∀ d', d = some d' → RD I' w' s' v d') →
      Rc I' w' s' (a.put o.dst v) (setT tm o.dst d) (appUp hp up) nt := fun I' w' s' v d up hle H' E' hd =>
    ⟨H', slots_put (fun n d' hn => E'.rd hR.H hle (hR.tm n d' hn)) hR.sz hd hf, by cases h : o.dst <;> simp [Act.put, h, hR.df], by cases h : o.dst <;> simp [Act.put, h, hR.sz]⟩
  unfold wpOp
  simp only [ho]
  cases h with
  | plain out hg h hvc =>
    obtain ⟨v, w', s', hrun, hle, H', E', hd⟩ := stp_sound (P := P) (m := m) hR.H hR.tm h hvc
    have hw : Region.wanted o (yielded all a.tmps) = true := by simp [Region.wanted, hg]
    rw [if_pos hw]
    refine .inl ?_
    unfold Oper.wp
    rcases hrun with hrun | ⟨hrun, rfl⟩
    · rw [hrun]
      exact hK _ _ I s' out.d out.up ⟨rfl, rfl⟩ (hput I w' s' v out.d out.up hle H' E' hd) E'
    · rw [hrun]
      exact hK _ _ I s' out.d out.up ⟨rfl, rfl⟩ (hput I w' s' undef out.d out.up hle H' E' hd) E'
  | gon g b out hg _ hx h hvc =>
    obtain ⟨v, w', s', hrun, hle, H', E', hd⟩ := stp_sound (P := P) (m := m) hR.H hR.tm h hvc
    rw [guardB_sound hR.tm hg hx]
    simp only [if_true]
    refine .inl ?_
    unfold Oper.wp
    rcases hrun with hrun | ⟨hrun, rfl⟩
    · rw [hrun]
      exact hK _ _ I s' out.d out.up ⟨rfl, rfl⟩ (hput I w' s' v out.d out.up hle H' E' hd) E'
    · rw [hrun]
      exact hK _ _ I s' out.d out.up ⟨rfl, rfl⟩ (hput I w' s' undef out.d out.up hle H' E' hd) E'
  | goff g b hg _ hx =>
    rw [guardB_sound hR.tm hg hx]
    simp only [Bool.false_eq_true, if_false]
    exact hK _ _ I s _ [] ⟨rfl, rfl⟩ (hput I w s undef _ [] (Sg.le_refl _) hR.H (Ext.refl _ _ _ _ _) (fun d' e => by cases e; exact .when _ false _ (fun h => by cases h) (fun _ => rfl))) (Ext.refl _ _ _ _ _)
  | gplain g b x out hg hx h hup hvc =>
    have hw := guardB_sound hR.tm hg hx
    rw [hw]
    cases x with
    | true =>
      obtain ⟨v, w', s', hrun, hle, H', E', hd⟩ := stp_sound (P := P) (m := m) hR.H hR.tm h (hvc rfl)
      simp only [if_true]
      refine .inl ?_
      unfold Oper.wp
      rw [hup] at H' E'
      have hd' : ∀ d', out.d.map (D.when true) = some d' → RD I w' s' v d' := fun d' e => by
        cases ho' : out.d with
        | none => rw [ho'] at e; cases e
        | some d0 =>
          rw [ho'] at e
          simp only [Option.map_some, Option.some.injEq] at e
          rw [← e]
          exact .when v true d0 (fun _ => hd d0 ho') (fun h => by cases h)
      rcases hrun with hrun | ⟨hrun, rfl⟩
      · rw [hrun]
        exact hK _ _ I s' _ [] ⟨rfl, rfl⟩ (hput I w' s' v _ [] hle H' E' hd') E'
      · rw [hrun]
        exact hK _ _ I s' _ [] ⟨rfl, rfl⟩ (hput I w' s' undef _ [] hle H' E' hd') E'
    | false =>
      simp only [Bool.false_eq_true, if_false]
      refine hK _ _ I s _ [] ⟨rfl, rfl⟩ (hput I w s undef _ [] (Sg.le_refl _) hR.H (Ext.refl _ _ _ _ _) (fun d' e => ?_)) (Ext.refl _ _ _ _ _)
      cases ho' : out.d with
      | none => rw [ho'] at e; cases e
      | some d0 =>
        rw [ho'] at e
        simp only [Option.map_some, Option.some.injEq] at e
        rw [← e]
        exact .when _ false d0 (fun h => by cases h) (fun _ => rfl)
  | gnone g b hg hx _ _ =>
    rw [guardB_sound hR.tm hg hx]
    simp only [Bool.false_eq_true, if_false]
    exact hK _ _ I s _ [] ⟨rfl, rfl⟩ (hput I w s undef _ [] (Sg.le_refl _) hR.H (Ext.refl _ _ _ _ _) (fun d' e => by cases e; exact .when _ false _ (fun h => by cases h) (fun _ => rfl))) (Ext.refl _ _ _ _ _)
  | call c F args _ h R hg hop hc hok hfn hD hks hnd hhp hm hb hlen =>
    have hw : Region.wanted o (yielded all a.tmps) = true := by
      rcases hg with hg | ⟨g, b, hg, hx⟩
      · simp [Region.wanted, hg]
      · exact guardB_sound hR.tm hg hx
    rw [if_pos hw]
    refine .inl ?_
    unfold Oper.wp
    obtain ⟨vs, hrun, hvs⟩ := call_run (P := P) hR.tm hop hc hok hfn
    rw [hrun]
    refine (call_sound (m := m) hR.H hD rd (wkey nx i) hks hnd hhp hm hb hlen hvs).mono ?_
    rintro e w' ⟨v, I', s', d, h', rfl, hRd, hlh, hle, H', E', hrd⟩
    exact hK _ _ I' s' _ _ ⟨d, h', hRd, hlh, rfl, rfl⟩ (hput I' w' s' v _ _ hle H' E' (fun d0 e => by cases e; exact hrd)) E'
  | rcall c F args _ h R hg hop hc hok hfn hD hks hnd hhp hm hb hsame hkf =>
    have hw : Region.wanted o (yielded all a.tmps) = true := by
      rcases hg with hg | ⟨g, b, hg, hx⟩
      · simp [Region.wanted, hg]
      · exact guardB_sound hR.tm hg hx
    rw [if_pos hw]
    refine .inl ?_
    unfold Oper.wp
    obtain ⟨vs, hrun, hvs⟩ := call_run (P := P) hR.tm hop hc hok hfn
    rw [hrun]
    have hlen : ∀ d h', R d h' → h'.length ≤ h.length + 64 := fun d h' e => by rw [hsame d h' e]; omega
    refine (call_sound (m := m) hR.H hD rd (wkey nx i) hks hnd hhp hm hb hlen hvs).mono ?_
    rintro e w' ⟨v, I', s', d, h', rfl, hRd, hlh, hle, H', E', hrd⟩
    obtain rfl := hsame d h' hRd
    rw [same_ups hks hhp hkf] at H' E'
    exact hK _ _ I' s' _ _ ⟨d, hRd, rfl, rfl⟩ (hput I' w' s' v _ _ hle H' E' (fun d0 e => by cases e; exact hrd)) E'
  | gcall g b x c d hg hx hop hcf hc hm hb =>
    rw [guardB_sound hR.tm hg hx]
    cases x with
    | true =>
      simp only [if_true]
      refine .inl ?_
      unfold Oper.wp
      obtain ⟨F, args, hcal, hok, hfn, hD, hren⟩ := hc rfl
      obtain ⟨vs, hrun, hvs⟩ := call_run (P := P) hR.tm hop hcal hok hfn
      rw [hrun]
      refine (call_sound (m := m) hR.H hD [] (wkey nx i) rfl List.nodup_nil (fun i' x h => by simp at h) hm hb (fun d' h' e => by rw [e.2]; simp) hvs).mono ?_
      rintro e w' ⟨v, I', s', d', h', rfl, ⟨rfl, rfl⟩, _, hle, H', E', hrd⟩
      rw [hren] at hrd
      exact hK _ _ I' s' _ [] ⟨rfl, rfl⟩ (hput I' w' s' v _ [] hle H' E' (fun d0 e => by
        cases e
        exact .when v true _ (fun _ => hrd) (fun h => by cases h))) E'
    | false =>
      simp only [Bool.false_eq_true, if_false]
      exact hK _ _ I s _ [] ⟨rfl, rfl⟩ (hput I w s undef _ [] (Sg.le_refl _) hR.H (Ext.refl _ _ _ _ _) (fun d' e => by
        cases e
        exact .when _ false _ (fun h => by cases h) (fun _ => rfl))) (Ext.refl _ _ _ _ _)

end
end Go.CT
