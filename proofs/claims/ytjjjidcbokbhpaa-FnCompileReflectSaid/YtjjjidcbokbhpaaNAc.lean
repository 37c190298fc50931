/- Steps that change owned memory: a key renamed, an append. -/
import Derived.Test.YtjjjidcbokbhpaaNAb
set_option linter.unusedVariables false
set_option linter.unusedSimpArgs false
set_option maxHeartbeats 16000000
set_option maxRecDepth 100000
namespace Go.CT

/-- A block goes on under a fresh key; the old key is spent. -/
theorem sim_rekey {m : Nat} {I : Nat → Prop} {w : World} {s : Sg} {hp : Hp} (H : SimH I w s hp) (k kn : Nat) (cs : List C) (hk : hp k = some (some cs)) (hn : hp kn = none) (hm : m ≤ kn) :
    let s' := upd s kn (s k)
    let hp' := upd (upd hp k (some none)) kn (some (some cs))
    s.le s' ∧ SimH I w s' hp' ∧ Ext m I w s hp I w s' hp' := by
  intro s' hp'
  have hsk : s kn = none := H.top kn hn
  have hkne : k ≠ kn := fun e => by rw [e, hn] at hk; cases hk
  have hle : s.le s' := fun j x hj => by
    have : j ≠ kn := fun e => by rw [e, hsk] at hj; cases hj
    simp [s', upd_ne _ _ this, hj]
  have hlive : ∀ b, Live s' hp' b → Live s hp b := by
    rintro b ⟨j, cs', hj, hs⟩
    by_cases e : j = kn
    · subst e
      simp only [s', upd_same] at hs
      exact ⟨k, cs, hk, hs⟩
    · simp only [s', upd_ne _ _ e] at hs
      simp only [hp', upd_ne _ _ e] at hj
      by_cases e2 : j = k
      · subst e2; simp [upd_same] at hj
      · rw [upd_ne _ _ e2] at hj
        exact ⟨j, cs', hj, hs⟩
  have hext : Ext m I w s hp I w s' hp' :=
    ⟨rfl, rfl, rfl, Nat.le_refl _, fun _ _ _ => rfl, Shp.refl _, fun j hj => upd_ne _ _ (by omega), fun _ h => h, fun _ h => .inl h, fun b h => .inl (hlive b h)⟩
  have old : ∀ i csi, hp' i = some (some csi) → ∃ i', hp i' = some (some csi) ∧ s' i = s i' ∧ (i = kn ∧ i' = k ∨ i ≠ kn ∧ i ≠ k ∧ i' = i) := by
    intro i csi hi
    by_cases e : i = kn
    · subst e
      simp only [hp', upd_same, Option.some.injEq] at hi
      subst hi
      exact ⟨k, hk, by simp [s', upd_same], .inl ⟨rfl, rfl⟩⟩
    · simp only [hp', upd_ne _ _ e] at hi
      by_cases e2 : i = k
      · subst e2; simp [upd_same] at hi
      · rw [upd_ne _ _ e2] at hi
        exact ⟨i, hi, by simp [s', upd_ne _ _ e], .inr ⟨e, e2, rfl⟩⟩
  refine ⟨hle, ⟨fun j hj => ?_, fun j csj hj => ?_, fun j j' b cs1 cs2 h1 h2 h3 h4 => ?_, H.imm⟩, hext⟩
  · by_cases e : j = kn
    · subst e; simp [hp', upd_same] at hj
    · simp only [hp', upd_ne _ _ e] at hj
      simp only [s', upd_ne _ _ e]
      by_cases e2 : j = k
      · subst e2; simp [upd_same] at hj
      · rw [upd_ne _ _ e2] at hj; exact H.top j hj
  · obtain ⟨i', hi', hs', _⟩ := old j csj hj
    rw [hs']
    rcases H.blk i' csj hi' with h1 | ⟨b, arr, T, h1, h2, h3, h4, h5⟩
    · exact .inl h1
    · refine .inr ⟨b, arr, T, h1, h2, h3, h4, fun j' h' => ?_⟩
      obtain ⟨y, hy, hr⟩ := h5 j' h'
      exact ⟨y, hy, hext.rc H hle hr⟩
  · obtain ⟨i1, g1, g2, g3⟩ := old j cs1 h1
    obtain ⟨i2, f1, f2, f3⟩ := old j' cs2 h2
    rw [g2] at h3
    rw [f2] at h4
    have := H.inj i1 i2 b cs1 cs2 g1 f1 h3 h4
    omega

/-- Several blocks hold what they held when only one is written: what a list of values reads as survives. -/
theorem RCs.ext {m : Nat} {I I' : Nat → Prop} {w w' : World} {s s' : Sg} {hp hp' : Hp} (h : Ext m I w s hp I' w' s' hp') (H : SimH I w s hp) (hle : s.le s') {arr : Array Value} {cs : List C}
    (hr : RCs I w s arr cs) : RCs I' w' s' arr cs := ⟨hr.1, fun j h1 h2 => h.rc H hle (hr.2 j h1 h2)⟩

section
variable {P : Program}

/-- The cells that a slice (or nil) lends to an append. -/
def lends (hp : Hp) : D → Option (Nat × Nat × List C)
  | .c (.isl sz xs) => some (xs.length, sz, xs.flatten)
  | .c (.msl k sz off len) => (match hp k with | some (some cs) => some (len, sz, (cs.drop off).take (len * sz)) | _ => none)
  | .c (.v (.slice _ 0 _)) => some (0, 0, [])
  | .c .z => some (0, 0, [])
  | _ => none

theorem flatten_length (sz : Nat) : ∀ (xs : List (List C)), (∀ x ∈ xs, x.length = sz) → xs.flatten.length = xs.length * sz
  | [], _ => by simp
  | x :: r, h => by
    rw [List.flatten_cons, List.length_append, h x (by simp), flatten_length sz r (fun y hy => h y (by simp [hy])), List.length_cons, Nat.add_mul]; omega

theorem flatten_get (sz : Nat) : ∀ (xs : List (List C)), (∀ x ∈ xs, x.length = sz) → ∀ (j : Nat), j < xs.length * sz → ∃ (i t : Nat) (hi : i < xs.length) (ht : t < xs[i].length), j = i * sz + t ∧ t < sz ∧ xs.flatten[j]? = some (xs[i])[t]
  | [], _, j, hj => by simp at hj
  | x :: r, h, j, hj => by
    have hx : x.length = sz := h x (by simp)
    by_cases hlt : j < sz
    · refine ⟨0, j, by simp, by simpa [hx] using hlt, by omega, hlt, ?_⟩
      rw [List.flatten_cons, List.getElem?_append_left (by omega)]
      simp [hx, hlt]
    · rw [List.length_cons, Nat.add_mul] at hj
      obtain ⟨i, t, hi, ht, e, ht2, hg⟩ := flatten_get sz r (fun y hy => h y (by simp [hy])) (j - sz) (by omega)
      refine ⟨i + 1, t, by simpa using hi, by simpa using ht, by rw [Nat.add_mul]; omega, ht2, ?_⟩
      rw [List.flatten_cons, List.getElem?_append_right (by omega), hx, hg]
      simp

/-- What is lent lies there to be read. -/
theorem lends_sound {I : Nat → Prop} {w : World} {s : Sg} {hp : Hp} (H : SimH I w s hp) {x : Value} {d : D} (h : RD I w s x d) {n sz : Nat} {cs : List C} (hl : lends hp d = some (n, sz, cs)) :
    ∃ a cap, x = .slice a n cap ∧ n ≤ cap ∧ (n = 0 ∧ cs = [] ∨ ∃ (b off : Nat) (ys : List Value), a = some ⟨b, off, none⟩ ∧ (cs.length = n * sz → ys.length = n * sz ∧ (∀ j v, ys[j]? = some v → w.cell? ⟨b, off + j, none⟩ = some v) ∧ RCs I w s ys.toArray cs)) := by
  unfold lends at hl
  split at hl
  · rename_i sz' xs
    simp only [Option.some.injEq, Prod.mk.injEq] at hl
    obtain ⟨rfl, rfl, rfl⟩ := hl
    obtain ⟨a, cap, hx, hcap, hcase⟩ := rd_isl h
    refine ⟨a, cap, hx, hcap.1, ?_⟩
    rcases hcase with hnil | ⟨b, off, y, rfl, hI, hlen, hc, hr⟩
    · subst hnil; exact .inl ⟨rfl, rfl⟩
    · right
      have hall : ∀ x ∈ xs, x.length = sz' := fun x hx => by
        obtain ⟨i, hi, e⟩ := List.mem_iff_getElem.1 hx
        rw [← e]; exact hlen i hi
      have hfl := flatten_length sz' xs hall
      refine ⟨b, off, (List.range (xs.length * sz')).map (fun j => y (j / sz') (j % sz')), rfl, fun _ => ⟨by simp, fun j v hv => ?_, by simp [hfl], fun j h1 h2 => ?_⟩⟩
      · simp only [List.getElem?_map] at hv
        by_cases hj : j < xs.length * sz'
        · rw [List.getElem?_range hj] at hv
          simp only [Option.map_some, Option.some.injEq] at hv
          have hpos : 0 < sz' := by
            rcases Nat.eq_zero_or_pos sz' with h0 | h0
            · subst h0; omega
            · exact h0
          have h1 : j / sz' < xs.length := (Nat.div_lt_iff_lt_mul hpos).2 hj
          have h2 : j % sz' < sz' := Nat.mod_lt _ hpos
          have := hc (j / sz') (j % sz') h1 h2
          rw [hv] at this
          rw [← this]
          congr 2
          have := Nat.div_add_mod j sz'
          rw [Nat.mul_comm] at this
          omega
        · rw [List.getElem?_eq_none (by simp; omega)] at hv; cases hv
      · have hj : j < xs.length * sz' := by simpa using h1
        obtain ⟨i, t, hi, ht, e, ht2, hg⟩ := flatten_get sz' xs hall j hj
        have e2 : xs.flatten[j] = (xs[i])[t] := by
          have : xs.flatten[j]? = some xs.flatten[j] := by simp [h2]
          rw [this] at hg
          exact Option.some.inj hg
        rw [e2]
        have hdiv : j / sz' = i := by
          rw [e, Nat.mul_comm, Nat.mul_add_div (by omega), Nat.div_eq_of_lt ht2, Nat.add_zero]
        have hmod : j % sz' = t := by
          rw [e, Nat.mul_comm, Nat.mul_add_mod, Nat.mod_eq_of_lt ht2]
        simp only [List.getElem_toArray, List.getElem_map, List.getElem_range, hdiv, hmod]
        exact (hr i hi t ht).any s
  · rename_i k sz' off len
    split at hl
    · rename_i csk hk
      simp only [Option.some.injEq, Prod.mk.injEq] at hl
      obtain ⟨rfl, rfl, rfl⟩ := hl
      rcases rd_msl h with ⟨a, hx, hs, rfl, rfl⟩ | ⟨b, cap, arr, T, fr, hx, hs, hlc, hb, hcp⟩
      · exact ⟨a, 0, hx, Nat.le_refl _, .inl ⟨rfl, by simp⟩⟩
      · refine ⟨_, cap, hx, hlc.1, .inr ⟨b, off, ((arr.toList.drop off).take (len * sz')), rfl, fun hcl => ?_⟩⟩
        obtain ⟨arr', T', hb', hl', hr⟩ := live_cells H hk hs
        rw [hb] at hb'
        simp only [Option.some.injEq, Obj.cells.injEq] at hb'
        obtain ⟨rfl, rfl, rfl⟩ := hb'
        have hcl' : off + len * sz' ≤ csk.length ∨ len * sz' = 0 := by
          simp only [List.length_take, List.length_drop] at hcl
          omega
        have hsz : off + len * sz' ≤ arr.size := by
          have : len * sz' ≤ cap * sz' := Nat.mul_le_mul_right _ hlc.1
          omega
        refine ⟨by simp; omega, fun j v hv => ?_, by simp at hcl ⊢; omega, fun j h1 h2 => ?_⟩
        · have hj : j < len * sz' := by
            have := (List.getElem?_eq_some_iff.1 hv).1
            simp at this
            omega
          rw [List.getElem?_take_of_lt hj, List.getElem?_drop] at hv
          simpa [World.cell?, hb] using hv
        · have hj : j < len * sz' := by simp at h1; omega
          have hj2 : off + j < csk.length := by omega
          obtain ⟨y, hy, hry⟩ := hr (off + j) hj2
          have e1 : ((arr.toList.drop off).take (len * sz')).toArray[j] = y := by
            obtain ⟨_, e⟩ := Array.getElem?_eq_some_iff.1 hy
            simp [e]
          have e2 : ((csk.drop off).take (len * sz'))[j] = csk[off + j] := by simp
          rw [e1, e2]
          exact hry
    · cases hl
  · simp only [Option.some.injEq, Prod.mk.injEq] at hl
    obtain ⟨rfl, rfl, rfl⟩ := hl
    obtain ⟨h1, _⟩ := rd_scalar h
    exact ⟨_, _, h1, Nat.zero_le _, .inl ⟨rfl, rfl⟩⟩
  · simp only [Option.some.injEq, Prod.mk.injEq] at hl
    obtain ⟨rfl, rfl, rfl⟩ := hl
    obtain ⟨a, h1⟩ := rd_z h
    exact ⟨a, 0, h1, Nat.le_refl _, .inl ⟨rfl, rfl⟩⟩
  · cases hl

end
end Go.CT

namespace Go.CT

section
variable {P : Program}

theorem append_room {t ty el : TypeId} {i : TypeInfo} (ht : P.underlying t = some (.slice el)) (hi : P.info? el = some i) (w : World) (b len cap m c : Nat) (T : TypeId) (arr : Array Value) (a : Option Addr) (news : List Value)
    (hb : w.heap[b]? = some (.cells arr T (0, 0))) (hf : (Builtin.firstCells i.size m (.slice a m c)).run P w = .ok news.toArray w) (h1 : ∀ v ∈ news, one v = true) (hroom : len + m ≤ cap) (hfit : len * i.size + news.length ≤ arr.size) :
    (Builtin.append_ #[t, t] ty #[.slice (some ⟨b, 0, none⟩) len cap, .slice a m c]).run P w =
      .ok (.slice (some ⟨b, 0, none⟩) (len + m) cap) { w with heap := w.heap.setIfInBounds b (.cells (setCells arr (len * i.size) news) T (0, 0)) } := by
  have hst := run_storeCells (P := P) b T news arr w (len * i.size) 0 hb (by simpa using hfit) h1
  simp only [Nat.add_zero] at hst
  have hadd : (⟨b, 0, none⟩ : Addr).add (len * i.size) = ⟨b, len * i.size, none⟩ := by rw [add_plain]; simp
  simp [Builtin.append_, Go.run_underlying ht, sizeOf, typeInfo, hi, Builtin.lenOf, hroom, hf, hadd, hst]

theorem append_room_none {t ty el : TypeId} {i : TypeInfo} (ht : P.underlying t = some (.slice el)) (hi : P.info? el = some i) (w : World) (len cap m c : Nat) (a : Option Addr) (news : List Value)
    (hf : (Builtin.firstCells i.size m (.slice a m c)).run P w = .ok news.toArray w) (hroom : len + m ≤ cap) :
    (Builtin.append_ #[t, t] ty #[.slice none len cap, .slice a m c]).run P w = .ok (.slice none (len + m) cap) w := by
  simp [Builtin.append_, Go.run_underlying ht, sizeOf, typeInfo, hi, Builtin.lenOf, hroom, hf]

theorem firstCells_zero (size : Nat) (a : Option Addr) (c : Nat) (w : World) : (Builtin.firstCells size 0 (.slice a 0 c)).run P w = .ok #[] w := by
  cases a with
  | none => simp [Builtin.firstCells]
  | some a => simp only [Builtin.firstCells, Nat.zero_mul]; rfl

theorem append_grow {t ty el : TypeId} {i : TypeInfo} {z : Value} (ht : P.underlying t = some (.slice el)) (hi : P.info? el = some i) (hz : i.zero = some z) (w : World) (sa : Option Addr) (len cap : Nat) (olds : List Value)
    (ho : (Builtin.firstCells i.size len (.slice sa len cap)).run P { w with drawn := w.drawn + 1 } = .ok olds.toArray { w with drawn := w.drawn + 1 }) (a : Option Addr) (m c : Nat) (news : List Value)
    (hf : (Builtin.firstCells i.size m (.slice a m c)).run P { w with drawn := w.drawn + 1 } = .ok news.toArray { w with drawn := w.drawn + 1 })
    (hg : cap < len + m) (h63 : ((len + m : Nat) : Int) ≤ 9223372036854775807) (hfit : Builtin.nextslicecap (len + m) cap * i.bytes ≤ 281474976710656) :
    (Builtin.append_ #[t, t] ty #[.slice sa len cap, .slice a m c]).run P w =
      .ok (.slice (some ⟨w.heap.size, 0, none⟩) (len + m) (grownCap w (len + m) cap el))
        (w.drew.alloc (.cells (olds.toArray ++ news.toArray ++ Builtin.zeroCells z.cells (grownCap w (len + m) cap el - (len + m))) el)) := by
  have hn : ¬ (len + m ≤ cap) := by omega
  have h63' : ¬ (9223372036854775807 < ((len : Int) + (m : Int))) := by omega
  have h48' : ¬ (281474976710656 < Builtin.nextslicecap (len + m) cap * i.bytes) := by omega
  have e : ({ w with drawn := w.drawn + 1 } : World) = w.drew := rfl
  rw [e] at ho hf
  simp [Builtin.append_, Go.run_underlying ht, sizeOf, typeInfo, zeroValue, hi, hz, Builtin.lenOf, hn, h63', h48', Question.forced, ho, hf, newRow, grownCap]
  have e2 : ∀ (x y : List Value) (z : Array Value), x.toArray ++ (y.toArray ++ z) = (x ++ y).toArray ++ z := fun x y z => by
    apply Array.ext'; simp
  rw [e2]

theorem grownCap_ge' (w : World) (need old : Nat) (e : TypeId) : need ≤ grownCap w need old e := by
  unfold grownCap Question.cut
  simp

theorem firstCells_row (w : World) (size m c b off : Nat) (ys : List Value) (hl : ys.length = m * size) (hy : ∀ j v, ys[j]? = some v → w.cell? ⟨b, off + j, none⟩ = some v) :
    (Builtin.firstCells size m (.slice (some ⟨b, off, none⟩) m c)).run P w = .ok ys.toArray w := by
  simp only [Builtin.firstCells]
  have := run_loadCells (P := P) b off (fun j => ys.getD j undef) w (m * size) (fun j hj => by
    have hj' : j < ys.length := by omega
    refine hy j _ ?_
    simp [List.getD_eq_getElem?_getD, hj'])
  rw [this]
  congr 2
  apply List.ext_getElem?
  intro j
  by_cases hj : j < m * size
  · have hj' : j < ys.length := by omega
    simp [List.getElem?_range hj, List.getD_eq_getElem?_getD, hj']
  · rw [List.getElem?_eq_none (by simp; omega), List.getElem?_eq_none (by omega)]

end
end Go.CT

namespace Go.CT

/-- A slice without room comes under a key. -/
theorem sim_zero {m : Nat} {I : Nat → Prop} {w : World} {s : Sg} {hp : Hp} (H : SimH I w s hp) (kn : Nat) (hn : hp kn = none) (hm : m ≤ kn) :
    let s' := upd s kn (some none)
    let hp' := upd hp kn (some (some []))
    s.le s' ∧ SimH I w s' hp' ∧ Ext m I w s hp I w s' hp' := by
  intro s' hp'
  have hsk : s kn = none := H.top kn hn
  have hle : s.le s' := fun j x hj => by
    have : j ≠ kn := fun e => by rw [e, hsk] at hj; cases hj
    simp [s', upd_ne _ _ this, hj]
  have hlive : ∀ b, Live s' hp' b → Live s hp b := by
    rintro b ⟨j, cs', hj, hs⟩
    by_cases e : j = kn
    · subst e; simp [s', upd_same] at hs
    · simp only [s', upd_ne _ _ e] at hs
      simp only [hp', upd_ne _ _ e] at hj
      exact ⟨j, cs', hj, hs⟩
  have hext : Ext m I w s hp I w s' hp' :=
    ⟨rfl, rfl, rfl, Nat.le_refl _, fun _ _ _ => rfl, Shp.refl _, fun j hj => upd_ne _ _ (by omega), fun _ h => h, fun _ h => .inl h, fun b h => .inl (hlive b h)⟩
  have old : ∀ i csi b, hp' i = some (some csi) → s' i = some (some b) → hp i = some (some csi) ∧ s i = some (some b) := by
    intro i csi b hi hs
    by_cases e : i = kn
    · subst e; simp [s', upd_same] at hs
    · simp only [s', upd_ne _ _ e] at hs
      simp only [hp', upd_ne _ _ e] at hi
      exact ⟨hi, hs⟩
  refine ⟨hle, ⟨fun j hj => ?_, fun j csj hj => ?_, fun j j' b cs1 cs2 h1 h2 h3 h4 => ?_, H.imm⟩, hext⟩
  · by_cases e : j = kn
    · subst e; simp [hp', upd_same] at hj
    · simp only [hp', upd_ne _ _ e] at hj
      simp only [s', upd_ne _ _ e]
      exact H.top j hj
  · by_cases e : j = kn
    · subst e
      simp only [hp', upd_same, Option.some.injEq] at hj
      exact .inl ⟨by simp [s', upd_same], hj.symm⟩
    · simp only [hp', upd_ne _ _ e] at hj
      rcases H.blk j csj hj with ⟨h1, h2⟩ | ⟨b, arr, T, h1, h2, h3, h4, h5⟩
      · exact .inl ⟨by simp [s', upd_ne _ _ e, h1], h2⟩
      · refine .inr ⟨b, arr, T, by simp [s', upd_ne _ _ e, h1], h2, h3, h4, fun j' h' => ?_⟩
        obtain ⟨y, hy, hr⟩ := h5 j' h'
        exact ⟨y, hy, hext.rc H hle hr⟩
  · obtain ⟨g1, g2⟩ := old j cs1 b h1 h3
    obtain ⟨f1, f2⟩ := old j' cs2 b h2 h4
    exact H.inj j j' b cs1 cs2 g1 f1 g2 f2

def target (hp : Hp) : D → Option (Option Nat × Nat × List C)
  | .c (.msl k _ 0 len) => (match hp k with | some (some cs) => some (some k, len, cs) | _ => none)
  | .c (.v (.slice none 0 0)) => some (none, 0, [])
  | .c .z => some (none, 0, [])
  | _ => none

def spend (hp : Hp) : Option Nat → Hp
  | some k => upd hp k (some none)
  | none => hp

section
variable {P : Program}

theorem SimH.draw {m : Nat} {I : Nat → Prop} {w : World} {s : Sg} {hp : Hp} (H : SimH I w s hp) : SimH I w.drew s hp ∧ Ext m I w s hp I w.drew s hp := by
  have hk : Keeps I w w.drew := fun _ _ => rfl
  refine ⟨⟨H.top, fun k cs hk' => ?_, H.inj, H.imm⟩, ⟨rfl, rfl, rfl, Nat.le_refl _, fun _ _ _ => rfl, Shp.refl w, fun _ _ => rfl, fun _ h => h, fun _ h => .inl h, fun _ h => .inl h⟩⟩
  rcases H.blk k cs hk' with h1 | ⟨b, arr, T, h1, h2, h3, h4, h5⟩
  · exact .inl h1
  · refine .inr ⟨b, arr, T, h1, h2, h3, h4, fun j hj => ?_⟩
    obtain ⟨y, hy, hr⟩ := h5 j hj
    exact ⟨y, hy, hr.mono (fun _ h => h) hk (Shp.refl w) (Sg.le_refl _)⟩

theorem RCs.append {I : Nat → Prop} {w : World} {s : Sg} {xs ys : List Value} {cs ds : List C} (hx : RCs I w s xs.toArray cs) (hy : RCs I w s ys.toArray ds) : RCs I w s (xs ++ ys).toArray (cs ++ ds) := by
  have e1 : xs.length = cs.length := by simpa using hx.1
  have e2 : ys.length = ds.length := by simpa using hy.1
  refine ⟨by simp [e1, e2], fun j h h' => ?_⟩
  by_cases hj : j < xs.length
  · have := hx.2 j (by simpa using hj) (by omega)
    simpa [List.getElem_append, hj, show j < cs.length from by omega] using this
  · have := hy.2 (j - xs.length) (by simp at h ⊢; omega) (by simp at h'; omega)
    simp only [List.getElem_toArray] at this
    simp only [List.getElem_toArray, List.getElem_append, hj, dite_false, show ¬ j < cs.length from by omega]
    simpa [e1] using this

/-- A new block, made by an append that grows. -/
theorem grow_sound {m : Nat} {I : Nat → Prop} {w : World} {s : Sg} {hp : Hp} (H : SimH I w s hp) (ko : Option Nat) (hko : ∀ k, ko = some k → hp k ≠ none) (kn : Nat) (hn : hp kn = none) (hm : m ≤ kn) (el : TypeId)
    (vals : List Value) (cs : List C) (hr : RCs I w s vals.toArray cs) (rest : Array Value) (sz n cap : Nat) (hnc : n ≤ cap ∧ n ≤ mx) (hsz : cap * sz ≤ vals.length + rest.size) :
    let w' := w.drew.alloc (.cells (vals.toArray ++ rest) el)
    ∃ s', s.le s' ∧ SimH I w' s' (upd (spend hp ko) kn (some (some cs))) ∧ Ext m I w s hp I w' s' (upd (spend hp ko) kn (some (some cs))) ∧
      RD I w' s' (.slice (some ⟨w.heap.size, 0, none⟩) n cap) (.c (.msl kn sz 0 n)) := by
  intro w'
  obtain ⟨H1, E1⟩ := H.draw (m := m)
  have hsp : SimH I w.drew s (spend hp ko) ∧ Ext m I w.drew s hp I w.drew s (spend hp ko) := by
    cases ko with
    | none => exact ⟨H1, Ext.refl _ _ _ _ _⟩
    | some k => exact sim_spend H1 k (hko k rfl)
  have hn2 : spend hp ko kn = none := by
    cases ko with
    | none => exact hn
    | some k =>
      have : kn ≠ k := fun e => hko k rfl (e ▸ hn)
      simp [spend, upd_ne _ _ this, hn]
  have hle0 : s.le s := Sg.le_refl s
  have hr' : ∀ j (h : j < cs.length), ∃ y, (vals.toArray ++ rest)[j]? = some y ∧ RC I w.drew s y cs[j] := fun j hj => by
    have hl : vals.length = cs.length := by simpa using hr.1
    have hj' : j < vals.toArray.size := by simp; omega
    refine ⟨vals.toArray[j], ?_, (E1.rc H hle0) (hr.2 j hj' hj)⟩
    rw [Array.getElem?_append_left hj']
    simp [hj']
  have hlc : cs.length ≤ (vals.toArray ++ rest).size := by
    have : vals.length = cs.length := by simpa using hr.1
    simp; omega
  obtain ⟨hle, H3, E3⟩ := sim_alloc (m := m) hsp.1 kn hn2 hm (vals.toArray ++ rest) el cs hlc hr'
  refine ⟨_, hle, H3, E1.trans (hsp.2.trans E3), .c _ _ (.msl _ kn w.heap.size sz 0 n cap (vals.toArray ++ rest) el (0, 0) (by simp [upd_same]) hnc ?_ ?_)⟩
  · exact heap_push_eq w.drew _
  · simp; omega

theorem append_sound {m : Nat} {I : Nat → Prop} {w : World} {s : Sg} {hp : Hp} (H : SimH I w s hp) {x y : Value} {dx dy : D} (hx : RD I w s x dx) (hy : RD I w s y dy)
    {t ty el : TypeId} {sz : Nat} {zs : List Value} {bytes : Nat} (ht : tslice P t = some el) (hsz : tsz P el = some sz) (hz : tzero P el = some zs) (hzl : zs.length = sz) (hby : tbytes P el = some bytes)
    {ko : Option Nat} {len : Nat} {cs : List C} (htg : target hp dx = some (ko, len, cs)) (hcs : cs.length = len * sz) (hks : ∀ k, ko = some k → dx = .c (.msl k sz 0 len))
    {n sz' : Nat} {ys : List C} (hld : lends hp dy = some (n, sz', ys)) (hys : ys.length = n * sz) (hszn : n = 0 ∨ sz' = sz)
    (kn : Nat) (hn : hp kn = none) (hm : m ≤ kn) (hmx : len + n ≤ mx) (h47 : (len + n) * bytes ≤ 140737488355328) :
    ∃ v w' s', (Builtin.append_ #[t, t] ty #[x, y]).run P w = .ok v w' ∧ s.le s' ∧ SimH I w' s' (upd (spend hp ko) kn (some (some (cs ++ ys)))) ∧
      Ext m I w s hp I w' s' (upd (spend hp ko) kn (some (some (cs ++ ys)))) ∧ RD I w' s' v (.c (.msl kn sz 0 (len + n))) := by
  have h63 : len + n ≤ 9223372036854775807 := Nat.le_trans hmx (by decide)
  simp only [tsz, Option.map_eq_some_iff] at hsz
  obtain ⟨i, hi, hisz⟩ := hsz
  have hib : i.bytes = bytes := by
    simp only [tbytes, hi, Option.map_some, Option.some.injEq] at hby
    exact hby
  obtain ⟨z, hiz, hzc⟩ : ∃ z, i.zero = some z ∧ z.cells.toList = zs := by
    simp only [tzero, hi, Option.bind_some, Option.map_eq_some_iff] at hz
    exact hz
  have hzsz : z.cells.size = sz := by rw [← Array.length_toList, hzc, hzl]
  have hu := und_slice ht
  obtain ⟨ya, yc, rfl, hync, hyr⟩ := lends_sound H hy hld
  -- what is appended, as values
  obtain ⟨news, hnl, hnr, hnf⟩ : ∃ news : List Value, news.length = n * sz ∧ RCs I w s news.toArray ys ∧ ∀ w' : World, w'.heap = w.heap → (Builtin.firstCells i.size n (.slice ya n yc)).run P w' = .ok news.toArray w' := by
    rcases hyr with ⟨rfl, rfl⟩ | ⟨b, off, yv, rfl, h⟩
    · refine ⟨[], by simp, ⟨rfl, fun j h => by simp at h⟩, fun w' _ => firstCells_zero _ _ _ _⟩
    · rcases Nat.eq_zero_or_pos n with h0 | hpos
      · subst h0
        have : ys = [] := List.eq_nil_of_length_eq_zero (by simpa using hys)
        subst this
        exact ⟨[], by simp, ⟨rfl, fun j h => by simp at h⟩, fun w' _ => firstCells_zero _ _ _ _⟩
      · have hszz : sz' = sz := hszn.resolve_left (by omega)
        subst hszz
        obtain ⟨h1, h2, h3⟩ := h hys
        refine ⟨yv, h1, h3, fun w' hw' => ?_⟩
        have := firstCells_row (P := P) w' i.size n yc b off yv (by rw [hisz]; exact h1) (fun j v hv => by
          have := h2 j v hv
          simpa [World.cell?, hw'] using this)
        exact this
  have hnone : ∀ v ∈ news, one v = true := fun v hv => by
    obtain ⟨j, hj, e⟩ := List.mem_iff_getElem.1 hv
    have := hnr.2 j (by simpa using hj) (by have := hnr.1; simp at this; omega)
    rw [← e]
    exact this.one
  have hrest : ∀ cap, len + n ≤ cap → cap * sz ≤ len * sz + n * sz + (Builtin.zeroCells z.cells (cap - (len + n))).size := fun cap hc => by
    have : (Builtin.zeroCells z.cells (cap - (len + n))).size = (cap - (len + n)) * sz := by simp [Builtin.zeroCells, hzsz]
    rw [this, ← Nat.add_mul, ← Nat.add_mul]
    exact Nat.mul_le_mul_right _ (by omega)
  unfold target at htg
  split at htg
  · rename_i k szk len'
    split at htg
    · rename_i cs' hk
      simp only [Option.some.injEq, Prod.mk.injEq] at htg
      obtain ⟨rfl, rfl, rfl⟩ := htg
      have hszk : szk = sz := by
        have := hks k rfl
        simp only [D.c.injEq, C.msl.injEq] at this
        exact this.2.1
      subst hszk
      have hko : ∀ k', some k = some k' → hp k' ≠ none := fun k' e => by
        cases e
        rw [hk]; simp
      rcases rd_msl hx with ⟨a, rfl, hsk, _, rfl⟩ | ⟨b, cap, arr, T, fr, rfl, hsk, hlc, hb, hcp⟩
      · -- nothing there yet
        have hcs0 : cs' = [] := List.eq_nil_of_length_eq_zero (by simpa using hcs)
        subst hcs0
        rcases Nat.eq_zero_or_pos n with h0 | hpos
        · subst h0
          have hys0 : ys = [] := List.eq_nil_of_length_eq_zero (by simpa using hys)
          subst hys0
          obtain ⟨hle, H', E'⟩ := sim_rekey (m := m) H k kn [] hk hn hm
          refine ⟨.slice a 0 0, w, _, ?_, hle, by simpa [spend] using H', by simpa [spend] using E', .c _ _ (by simpa using RC.msl0 _ a kn szk (by simp [upd_same, hsk]))⟩
          have h0 := firstCells_zero (P := P) i.size ya yc w
          cases a with
          | none => simpa using append_room_none (P := P) (ty := ty) hu hi w 0 0 0 yc ya [] h0 (Nat.le_refl _)
          | some a => simp [Builtin.append_, Go.run_underlying hu, sizeOf, typeInfo, hi, Builtin.lenOf, h0, storeCells]
        · have hg := append_grow (P := P) (ty := ty) hu hi hiz w a 0 0 [] (firstCells_zero _ _ _ _) ya n yc news (hnf _ rfl) (by omega) (by omega)
            (growslice_fits (by omega) (by rw [hib]; simpa using h47))
          have e0 : ([] : List Value).toArray ++ news.toArray = news.toArray := by simp
          rw [e0] at hg
          have hge := grownCap_ge' w (0 + n) 0 el
          obtain ⟨s', hle, H', E', R'⟩ := grow_sound (m := m) H (some k) hko kn hn hm el news ys hnr (Builtin.zeroCells z.cells (grownCap w (0 + n) 0 el - (0 + n))) szk (0 + n) (grownCap w (0 + n) 0 el) ⟨hge, hmx⟩
            (by have := hrest _ hge; simp only [Nat.zero_mul, Nat.zero_add] at this; simp only [Nat.zero_add]; rw [hnl]; exact this)
          refine ⟨_, _, s', hg, hle, ?_, ?_, R'⟩
          · simpa using H'
          · simpa using E'
      · obtain ⟨arr', T', hb', hl', hr⟩ := live_cells H hk hsk
        rw [hb] at hb'
        simp only [Option.some.injEq, Obj.cells.injEq] at hb'
        obtain ⟨rfl, rfl, rfl⟩ := hb'
        simp only [Nat.zero_add] at hcp
        by_cases hroom : len' + n ≤ cap
        · -- within the capacity
          have hfit : len' * szk + n * szk ≤ arr.size := by
            rw [← Nat.add_mul]
            exact Nat.le_trans (Nat.mul_le_mul_right _ hroom) hcp
          have hrun := append_room (P := P) (ty := ty) hu hi w b len' cap n yc T arr ya news hb (hnf w rfl) hnone hroom (by rw [hisz, hnl]; exact hfit)
          rw [hisz] at hrun
          have hyl : ys.length = n * szk := hys
          obtain ⟨H1, E1⟩ := sim_store (m := m) H k cs' (cs' ++ ys) hk b arr (setCells arr (len' * szk) news) T hsk hb (size_setCells _ _ _) (by rw [size_setCells, List.length_append, hcs, hyl]; exact hfit)
            (fun j hj => by
              rw [get_setCells news arr (len' * szk) j (by rw [hnl]; exact hfit), hnl]
              by_cases hlt : j < cs'.length
              · rw [if_neg (by omega)]
                obtain ⟨y, hy1, hy2⟩ := hr j hlt
                exact ⟨y, hy1, by rw [List.getElem_append_left hlt]; exact hy2⟩
              · have hj2 : j < len' * szk + n * szk := by rw [List.length_append, hcs, hyl] at hj; exact hj
                rw [if_pos (by omega)]
                have hj3 : j - len' * szk < news.length := by omega
                refine ⟨news[j - len' * szk], by simp [hj3], ?_⟩
                rw [List.getElem_append_right (by omega)]
                have := hnr.2 (j - len' * szk) (by simpa using hj3) (by omega)
                simpa [hcs] using this) rfl
          have hk1 : upd hp k (some (some (cs' ++ ys))) k = some (some (cs' ++ ys)) := upd_same _ _ _
          have hkn : kn ≠ k := fun e => by rw [e, hk] at hn; cases hn
          obtain ⟨hle, H2, E2⟩ := sim_rekey (m := m) H1 k kn _ hk1 (by rw [upd_ne _ _ hkn]; exact hn) hm
          have hupd : upd (upd (upd hp k (some (some (cs' ++ ys)))) k (some none)) kn (some (some (cs' ++ ys))) = upd (spend hp (some k)) kn (some (some (cs' ++ ys))) := by
            funext j
            simp only [spend, upd]
            by_cases e1 : j = kn
            · simp [e1]
            · by_cases e2 : j = k
              · simp [e2]
              · simp [e1, e2]
          rw [hupd] at H2 E2
          refine ⟨_, _, _, hrun, hle, H2, E1.trans E2, .c _ _ (.msl _ kn b szk 0 (len' + n) cap (setCells arr (len' * szk) news) T (0, 0) (by rw [upd_same]; exact hsk) ⟨hroom, hmx⟩ ?_ ?_)⟩
          · simp [lt_of_heap hb]
          · rw [size_setCells]; simpa using hcp
        · -- a new block
          have holds : (Builtin.firstCells i.size len' (.slice (some ⟨b, 0, none⟩) len' cap)).run P { w with drawn := w.drawn + 1 } = .ok (arr.toList.take (len' * szk)).toArray { w with drawn := w.drawn + 1 } := by
            refine firstCells_row (P := P) _ i.size len' cap b 0 _ (by rw [hisz]; simp; omega) (fun j v hv => ?_)
            have hj : j < len' * szk := by
              have := (List.getElem?_eq_some_iff.1 hv).1
              simp at this
              omega
            rw [List.getElem?_take_of_lt hj] at hv
            simpa [World.cell?, hb] using hv
          have hg := append_grow (P := P) (ty := ty) hu hi hiz w (some ⟨b, 0, none⟩) len' cap _ holds ya n yc news (hnf _ rfl) (by omega) (by omega) (growslice_fits (by omega) (by rw [hib]; exact h47))
          have hge := grownCap_ge' w (len' + n) cap el
          have hold : RCs I w s (arr.toList.take (len' * szk)).toArray cs' := by
            refine ⟨by simp; omega, fun j h1 h2 => ?_⟩
            obtain ⟨y, hy1, hy2⟩ := hr j h2
            obtain ⟨hlt, e⟩ := Array.getElem?_eq_some_iff.1 hy1
            simpa [e] using hy2
          have hol : (arr.toList.take (len' * szk)).length = len' * szk := by simp; omega
          have e1 : ∀ (x y : List Value) (r : Array Value), x.toArray ++ y.toArray ++ r = (x ++ y).toArray ++ r := fun x y r => by simp
          rw [e1] at hg
          obtain ⟨s', hle, H', E', R'⟩ := grow_sound (m := m) H (some k) hko kn hn hm el (arr.toList.take (len' * szk) ++ news) (cs' ++ ys) (hold.append hnr)
            (Builtin.zeroCells z.cells (grownCap w (len' + n) cap el - (len' + n))) szk (len' + n) (grownCap w (len' + n) cap el) ⟨hge, hmx⟩ (by rw [List.length_append, hol, hnl]; exact hrest _ hge)
          exact ⟨_, _, s', hg, hle, H', E', R'⟩
    · cases htg
  · simp only [Option.some.injEq, Prod.mk.injEq] at htg
    obtain ⟨rfl, rfl, rfl⟩ := htg
    obtain ⟨rfl, _⟩ := rd_scalar hx
    rcases Nat.eq_zero_or_pos n with h0 | hpos
    · subst h0
      have hys0 : ys = [] := List.eq_nil_of_length_eq_zero (by simpa using hys)
      subst hys0
      obtain ⟨hle, H', E'⟩ := sim_zero (m := m) H kn hn hm
      refine ⟨.slice none 0 0, w, _, ?_, hle, by simpa [spend] using H', by simpa [spend] using E', .c _ _ (by simpa using RC.msl0 _ none kn sz (by simp [upd_same]))⟩
      simpa using append_room_none (P := P) (ty := ty) hu hi w 0 0 0 yc ya [] (firstCells_zero _ _ _ _) (Nat.le_refl _)
    · have hg := append_grow (P := P) (ty := ty) hu hi hiz w none 0 0 [] (firstCells_zero _ _ _ _) ya n yc news (hnf _ rfl) (by omega) (by omega)
        (growslice_fits (by omega) (by rw [hib]; simpa using h47))
      have e0 : ([] : List Value).toArray ++ news.toArray = news.toArray := by simp
      rw [e0] at hg
      have hge := grownCap_ge' w (0 + n) 0 el
      obtain ⟨s', hle, H', E', R'⟩ := grow_sound (m := m) H none (fun k e => by cases e) kn hn hm el news ys hnr (Builtin.zeroCells z.cells (grownCap w (0 + n) 0 el - (0 + n))) sz (0 + n) (grownCap w (0 + n) 0 el) ⟨hge, hmx⟩
        (by have := hrest _ hge; simp only [Nat.zero_mul, Nat.zero_add] at this; simp only [Nat.zero_add]; rw [hnl]; exact this)
      refine ⟨_, _, s', hg, hle, ?_, ?_, R'⟩
      · simpa using H'
      · simpa using E'
  · simp only [Option.some.injEq, Prod.mk.injEq] at htg
    obtain ⟨rfl, rfl, rfl⟩ := htg
    obtain ⟨a, rfl⟩ := rd_z hx
    rcases Nat.eq_zero_or_pos n with h0 | hpos
    · subst h0
      have hys0 : ys = [] := List.eq_nil_of_length_eq_zero (by simpa using hys)
      subst hys0
      obtain ⟨hle, H', E'⟩ := sim_zero (m := m) H kn hn hm
      refine ⟨.slice a 0 0, w, _, ?_, hle, by simpa [spend] using H', by simpa [spend] using E', .c _ _ (by simpa using RC.msl0 _ a kn sz (by simp [upd_same]))⟩
      have h0 := firstCells_zero (P := P) i.size ya yc w
      cases a with
      | none => simpa using append_room_none (P := P) (ty := ty) hu hi w 0 0 0 yc ya [] h0 (Nat.le_refl _)
      | some a => simp [Builtin.append_, Go.run_underlying hu, sizeOf, typeInfo, hi, Builtin.lenOf, h0, storeCells]
    · have hg := append_grow (P := P) (ty := ty) hu hi hiz w a 0 0 [] (firstCells_zero _ _ _ _) ya n yc news (hnf _ rfl) (by omega) (by omega)
        (growslice_fits (by omega) (by rw [hib]; simpa using h47))
      have e0 : ([] : List Value).toArray ++ news.toArray = news.toArray := by simp
      rw [e0] at hg
      have hge := grownCap_ge' w (0 + n) 0 el
      obtain ⟨s', hle, H', E', R'⟩ := grow_sound (m := m) H none (fun k e => by cases e) kn hn hm el news ys hnr (Builtin.zeroCells z.cells (grownCap w (0 + n) 0 el - (0 + n))) sz (0 + n) (grownCap w (0 + n) 0 el) ⟨hge, hmx⟩
        (by have := hrest _ hge; simp only [Nat.zero_mul, Nat.zero_add] at this; simp only [Nat.zero_add]; rw [hnl]; exact this)
      refine ⟨_, _, s', hg, hle, ?_, ?_, R'⟩
      · simpa using H'
      · simpa using E'
  · cases htg

end
end Go.CT

namespace Go.CT

/-- A constant, as data. -/
def cst : Value → Option D
  | .agg cs => if cs.toList.all one then some (.agg (cs.toList.map .v)) else none
  | .tuple _ => none
  | .int k n => some (.c (.v (.int k n)))
  | .bool b => some (.c (.v (.bool b)))
  | .string s => some (.c (.v (.string s)))
  | .slice a l c => some (.c (.v (.slice a l c)))
  | .nilIface => some (.c (.v .nilIface))
  | .nilFunc => some (.c (.v .nilFunc))
  | .pointer p => some (.c (.v (.pointer p)))
  | .map m => some (.c (.v (.map m)))
  | _ => none

abbrev Lg := Nat → Option (List Nat × List Nat)

/-- The state within a region: the slots, the owned blocks, and which keys each operation has read and written. -/
structure Rs where
  tm : Nat → Option D
  hp : Hp
  lg : Lg

def evT (tm : Nat → Option D) : Operand → Option D
  | .tmp t => tm t
  | .const v => cst v
  | .func f => some (.c (.clo f []))
  | .global _ => none

def peelB : D → Bool
  | .when b _ => b
  | _ => true
def peelD : D → D
  | .when _ d => d
  | d => d

def evP (tm : Nat → Option D) (x : Operand) : Option D := (evT tm x).map peelD

/-- What is looked at is there. -/
def okP (tm : Nat → Option D) : List Operand → Prop
  | [] => True
  | x :: r => (match evT tm x with | some d => peelB d = true | none => True) ∧ okP tm r

structure Out where
  vc : Prop
  d : Option D
  rd : List Nat
  up : List (Nat × Option (List C))

def rdKeys (e : Operand → Option D) : Op → List Nat
  | .load _ x => (match e x with | some (.c (.ptr k _)) => [k] | _ => [])
  | _ => []

/-- The cells of a new slice out of its parts, in order. -/
def partsS (P : Program) (sz : Nat) (e : Operand → Option D) : Nat → List (Nat × Operand) → Option (List C)
  | _, [] => some []
  | i, (j, x) :: r =>
    if i = j then (match e x with
      | some d => (match d.cells with
        | some ds => if ds.length = sz then (match partsS P sz e (i + 1) r with | some cs => some (ds ++ cs) | none => none) else none
        | none => none)
      | none => none)
    else none

def mslKey : D → List Nat
  | .c (.msl k _ _ _) => [k]
  | _ => []
def spendUp : Option Nat → List (Nat × Option (List C))
  | some k => [(k, none)]
  | none => []

/-- A step that is no call: 'key' is the fresh key that the operation may use. -/
def stp (P : Program) (m key : Nat) (tm : Nat → Option D) (hp : Hp) (o : Op) : Option Out :=
  match o with
  | .pick c a b => (match evP tm c, evT tm a, evT tm b with
    | some (.c (.v (.bool x))), some da, some db => (match peelD da, peelD db with
      | .c (.v (.bool p)), .c (.v (.bool q)) => some ⟨okP tm [c] ∧ (x = true → peelB da = true) ∧ (x = false → peelB db = true), some (DB (bif x then p else q)), [], []⟩
      | _, _ => none)
    | _, _, _ => none)
  | .alloc T => (match tzero P T with
    | some zs => if zs.all one then some ⟨hp key = none ∧ m ≤ key, some (.c (.ptr key 0)), [], [(key, some (zs.map .v))]⟩ else none
    | none => none)
  | .box T x => (match evP tm x with
    | some d => (match d.cells with
      | some cs => some ⟨okP tm [x] ∧ hp key = none ∧ m ≤ key, some (.c (.ptr key 0)), [], [(key, some cs)]⟩
      | none => none)
    | none => none)
  | .buildSlice t n ps => (match (tslice P t).bind (tsz P), (tslice P t).bind (tzero P) with
    | some sz, some zs => (match partsS P sz (evP tm) 0 ps.toList with
      | some cs => some ⟨okP tm (ps.toList.map (·.2)) ∧ (ps.size = n ∧ cs.length = n * sz ∧ n * sz ≤ 16777216 ∧ zs.length = sz ∧ n ≤ mx) ∧ hp key = none ∧ m ≤ key, some (.c (.msl key sz 0 n)), [], [(key, some cs)]⟩
      | none => none)
    | _, _ => none)
  | .store t a x => (match evP tm a, evP tm x, tsz P t with
    | some (.c (.ptr k off)), some d, some n => (match hp k, d.cells with
      | some (some cs), some ds => some ⟨okP tm [a, x] ∧ ds.length = n ∧ off + n ≤ cs.length, none, [k], [(k, some (putCells cs off ds))]⟩
      | _, _ => none)
    | _, _, _ => none)
  | .makeSlice t l c => (match evP tm l, evP tm c, (tslice P t).bind (tsz P), (tslice P t).bind (tzero P), (tslice P t).bind (tbytes P) with
    | some (.c (.v (.int _ n))), some (.c (.v (.int _ n'))), some sz, some zs, some by' =>
      if zs.all one then some ⟨okP tm [l, c] ∧ (0 ≤ n ∧ n' = n ∧ n ≤ (mx : Int) ∧ by' * n ≤ 281474976710656 ∧ zs.length = sz) ∧ hp key = none ∧ m ≤ key,
        some (.c (.msl key sz 0 n.toNat)), [], [(key, some (List.replicate n.toNat (zs.map C.v)).flatten)]⟩ else none
    | _, _, _, _, _ => none)
  | .call c => (match c.callee with
    | .builtin .append => (match c.args.toList, c.argTypes.toList with
      | [x, y], [t, t'] => (match evP tm x, evP tm y, (tslice P t).bind (tsz P), (tslice P t).bind (tzero P), (tslice P t).bind (tbytes P) with
        | some dx, some dy, some sz, some zs, some by' => (match target hp dx, lends hp dy with
          | some (ko, len, cs), some (n, sz', ys) => some ⟨okP tm [x, y] ∧ (t' = t ∧ zs.length = sz ∧ (∀ k, ko = some k → dx = .c (.msl k sz 0 len)) ∧ (n = 0 ∨ sz' = sz)) ∧ cs.length = len * sz ∧ ys.length = n * sz ∧
              (len + n ≤ mx ∧ (len + n) * by' ≤ 140737488355328) ∧ hp key = none ∧ m ≤ key,
              some (.c (.msl key sz 0 (len + n))), mslKey dx ++ mslKey dy,
              spendUp ko ++ [(key, some (cs ++ ys))]⟩
          | _, _ => none)
        | _, _, _, _, _ => none)
      | _, _ => none)
    | .builtin .clear => (match c.args.toList, c.argTypes.toList with
      | [x], [t] => (match evP tm x, (tslice P t).bind (tsz P), (tslice P t).bind (tzero P) with
        | some (.c (.msl k sz off len)), some sz', some zs => (match hp k with
          | some (some cs) => if zs.all one then some ⟨okP tm [x] ∧ (sz' = sz ∧ zs.length = sz) ∧ off + len * sz ≤ cs.length, some (.tup []), [k],
              [(k, some (putCells cs off (List.replicate len (zs.map C.v)).flatten))]⟩ else none
          | _ => none)
        | _, _, _ => none)
      | _, _ => none)
    | _ => (match pop P (evP tm) hp o with
      | some (vc, d) => some ⟨okP tm o.operands.toList ∧ vc, some d, [], []⟩
      | none => none))
  | _ => (match pop P (evP tm) hp o with
    | some (vc, d) => some ⟨okP tm o.operands.toList ∧ vc, some d, rdKeys (evP tm) o, []⟩
    | none => none)

def appUp (hp : Hp) : List (Nat × Option (List C)) → Hp
  | [] => hp
  | (k, x) :: r => appUp (upd hp k (some x)) r

def setT (tm : Nat → Option D) (dst : Option Tmp) (d : Option D) : Nat → Option D :=
  match dst with
  | some n => upd tm n d
  | none => tm

def fitsT (nt : Nat) (dst : Option Tmp) : Bool := match dst with | some n => decide (n < nt) | none => true

section
variable {P : Program}

theorem evT_sound {I : Nat → Prop} {w : World} {s : Sg} {a : Act} {tm : Nat → Option D} (hA : ∀ n d, tm n = some d → RD I w s (a.tmps.getD n undef) d) {x : Operand} {d : D} (h : evT tm x = some d) : RD I w s (a.eval x) d := by
  cases x with
  | tmp t => exact hA t d h
  | const v =>
    simp only [evT] at h
    cases v <;> simp only [cst, Option.some.injEq, reduceCtorEq] at h <;> first
      | (subst h; exact .c _ _ (.v _ _ rfl))
      | (split at h
         · rename_i cs hall
           simp only [Option.some.injEq] at h
           subst h
           refine .agg _ _ (by simp) fun j h1 h2 => ?_
           simp only [List.getElem_map, Array.getElem_toList]
           exact .v _ _ (List.all_eq_true.1 hall _ (by simp))
         · cases h)
  | func f =>
    simp only [evT, Option.some.injEq] at h
    subst h
    exact .c _ _ (.clo _ f [] #[] rfl fun j h1 h2 => by simp at h1)
  | global g => simp [evT] at h

theorem okP_mem {tm : Nat → Option D} : ∀ {l : List Operand} {x : Operand} {d : D}, okP tm l → x ∈ l → evT tm x = some d → peelB d = true
  | y :: r, x, d, h, hx, hd => by
    rcases List.mem_cons.1 hx with rfl | hx
    · have := h.1
      rw [hd] at this
      exact this
    · exact okP_mem h.2 hx hd

theorem peel_sound {I : Nat → Prop} {w : World} {s : Sg} {x : Value} {d : D} (h : RD I w s x d) (hb : peelB d = true) : RD I w s x (peelD d) := by
  cases h with
  | when _ b d h h0 => exact h hb
  | c _ _ h => exact .c _ _ h
  | agg _ _ hl hr => exact .agg _ _ hl hr
  | tup _ _ hl hr => exact .tup _ _ hl hr

theorem evP_sound {I : Nat → Prop} {w : World} {s : Sg} {a : Act} {tm : Nat → Option D} (hA : ∀ n d, tm n = some d → RD I w s (a.tmps.getD n undef) d) {x : Operand} {d : D} (h : evP tm x = some d) {l : List Operand} (ho : okP tm l) (hx : x ∈ l) :
    RD I w s (a.eval x) d := by
  simp only [evP, Option.map_eq_some_iff] at h
  obtain ⟨d', hd', rfl⟩ := h
  exact peel_sound (evT_sound hA hd') (okP_mem ho hx hd')

theorem bld_congr {e e' : Operand → Option D} {t : TypeId} : ∀ (ps : List (Nat × Operand)) (cs : List C), (∀ x ∈ ps.map (·.2), e x = e' x) → bld P t e ps cs = bld P t e' ps cs
  | [], _, _ => rfl
  | (f, x) :: r, cs, h => by
    have hx : e x = e' x := h x (by simp)
    have ih : ∀ cs, bld P t e r cs = bld P t e' r cs := fun cs => bld_congr r cs (fun y hy => h y (by simp only [List.map_cons, List.mem_cons]; exact .inr hy))
    unfold bld
    rw [hx]
    simp only [ih]

theorem cellsOf_congr {e e' : Operand → Option D} : ∀ (l : List Operand), (∀ x ∈ l, e x = e' x) → cellsOf e l = cellsOf e' l
  | [], _ => rfl
  | x :: r, h => by simp only [cellsOf]; rw [h x (by simp), cellsOf_congr r fun y hy => h y (by simp [hy])]

theorem bnd_congr {e e' : Operand → Option D} {x : Option Operand} {d : Int} (h : ∀ y, x = some y → e y = e' y) : bnd e x d = bnd e' x d := by
  cases x with
  | none => rfl
  | some y => simp only [bnd]; rw [h y rfl]

theorem pop_congr {e e' : Operand → Option D} {hp : Hp} {o : Op} (h : ∀ x ∈ o.operands.toList, e x = e' x) : pop P e hp o = pop P e' hp o := by
  cases o with
  | build t ps =>
    simp only [Op.operands] at h
    simp only [pop, bld_congr (P := P) (t := t) ps.toList _ h]
  | makeFunc fn first caps =>
    simp only [Op.operands, Array.toList_append, List.mem_append] at h
    cases fn <;> simp only [pop, cellsOf_congr caps.toList fun x hx => h x (.inr hx)]
    cases hf : first.toList with
    | nil => rfl
    | cons x r => cases r with
      | nil => simp only [h x (.inl (by rw [hf]; simp))]
      | cons y r => rfl
  | slice t x lo hi mx =>
    simp only [Op.operands, Array.toList_append, List.mem_append] at h
    have hx := h x (by simp)
    cases mx with
    | none =>
      have hl := fun d => bnd_congr (e := e) (e' := e') (x := lo) (d := d) fun y hy => h y (by subst hy; simp)
      have hh := fun d => bnd_congr (e := e) (e' := e') (x := hi) (d := d) fun y hy => h y (by subst hy; simp)
      simp only [pop, hx, hl, hh]
    | some mx =>
      cases lo with
      | some lo => simp only [pop]
      | none =>
        cases hi with
        | none => simp only [pop]
        | some hi => simp only [pop, hx, h hi (by simp), h mx (by simp)]
  | call c =>
    obtain ⟨callee, args, argTypes⟩ := c
    simp only [Op.operands, Call.operands, Array.toList_append, List.mem_append] at h
    simp only [pop]
    cases callee with
    | builtin b =>
      cases b <;> first
        | rfl
        | (cases ha : args.toList with
           | nil => rfl
           | cons x r => cases r with
             | nil =>
               have hx := h x (by rw [ha]; simp)
               cases argTypes.toList with
               | nil => rfl
               | cons t r => cases r with
                 | nil => simp only [hx]
                 | cons t' r => rfl
             | cons y r => rfl)
        | (cases ha : args.toList with
           | nil => rfl
           | cons x r => cases r with
             | nil => rfl
             | cons y r => cases r with
               | nil =>
                 have hx := h x (by rw [ha]; simp)
                 have hy := h y (by rw [ha]; simp)
                 simp only [hx, hy]
               | cons z r => rfl)
    | _ => rfl
  | _ => simp only [Op.operands] at h <;> simp only [pop] <;> first | rfl | simp [h]

/-- 'pop' with a reading that is only good on the operation's own operands. -/
theorem pop_sound' {I : Nat → Prop} {w : World} {s : Sg} {hp : Hp} (H : SimH I w s hp) {a : Act} {tm : Nat → Option D} (hA : ∀ n d, tm n = some d → RD I w s (a.tmps.getD n undef) d) {o : Oper}
    {vc : Prop} {d : D} (h : pop P (evP tm) hp o.op = some (vc, d)) (hok : okP tm o.op.operands.toList) (hvc : vc) : ∃ v, (execOp a.eval o).run P w = .ok (.value v) w ∧ RD I w s v d := by
  let e' : Operand → Option D := fun x => match evT tm x with | some d => if peelB d = true then some (peelD d) else none | none => none
  have hc : pop P (evP tm) hp o.op = pop P e' hp o.op := pop_congr fun x hx => by
    simp only [evP, e']
    cases hd : evT tm x with
    | none => rfl
    | some d => simp [okP_mem hok hx hd]
  rw [hc] at h
  refine pop_sound (P := P) H (e := e') (fun x d hd => ?_) h hvc
  simp only [e'] at hd
  split at hd
  · rename_i d' hd'
    split at hd
    · rename_i hb
      simp only [Option.some.injEq] at hd
      subst hd
      exact peel_sound (evT_sound hA hd') hb
    · cases hd
  · cases hd

theorem partsS_congr {sz : Nat} {e e' : Operand → Option D} : ∀ (ps : List (Nat × Operand)) (i : Nat), (∀ x ∈ ps.map (·.2), e x = e' x) → partsS P sz e i ps = partsS P sz e' i ps
  | [], _, _ => rfl
  | (f, x) :: r, i, h => by
    have hx : e x = e' x := h x (by simp)
    have ih : ∀ i, partsS P sz e i r = partsS P sz e' i r := fun i => partsS_congr r i (fun y hy => h y (by simp only [List.map_cons, List.mem_cons]; exact .inr hy))
    simp only [partsS, hx, ih]

theorem setCells_append (xs ys : List Value) : ∀ (arr : Array Value) (off : Nat), setCells arr off (xs ++ ys) = setCells (setCells arr off xs) (off + xs.length) ys := by
  induction xs with
  | nil => intro arr off; simp [setCells]
  | cons x r ih => intro arr off; simp only [List.cons_append, setCells, ih, List.length_cons]; congr 1; omega

/-- Filling a new row part by part, in order. -/
theorem partsS_sound {I : Nat → Prop} {w : World} {s : Sg} {sz : Nat} {e : Operand → Option D} {ρ : Operand → Value} :
    ∀ (ps : List (Nat × Operand)) (i : Nat) (cs : List C) (arr : Array Value), (∀ x ∈ ps.map (·.2), ∀ d, e x = some d → RD I w s (ρ x) d) → partsS P sz e i ps = some cs → i * sz + cs.length ≤ arr.size →
      ∃ vals : List Value, RCs I w s vals.toArray cs ∧ Instr.fill (fun i => some (i * sz, sz)) arr (ps.map fun p => (p.1, ρ p.2)) = some (setCells arr (i * sz) vals)
  | [], i, cs, arr, he, h, hl => by
    simp only [partsS, Option.some.injEq] at h
    subst h
    exact ⟨[], ⟨rfl, fun j h => by simp at h⟩, rfl⟩
  | (j, x) :: r, i, cs, arr, he, h, hl => by
    unfold partsS at h
    split at h
    · rename_i hij
      subst hij
      split at h
      · rename_i d hd
        split at h
        · rename_i ds hds
          split at h
          · rename_i hlen
            split at h
            · rename_i cs' hcs
              simp only [Option.some.injEq] at h
              subst h
              have hx := (he x (by simp) d hd).cells hds
              have hxr : RCs I w s (ρ x).cells ds := hx
              simp only [List.length_append] at hl
              have hsz : (setCells arr (i * sz) (ρ x).cells.toList).size = arr.size := size_setCells _ _ _
              obtain ⟨vals, hv, hf⟩ := partsS_sound r (i + 1) cs' (setCells arr (i * sz) (ρ x).cells.toList) (fun y hy => he y (by simp only [List.map_cons, List.mem_cons]; exact .inr hy)) hcs (by rw [hsz, Nat.add_mul]; omega)
              refine ⟨(ρ x).cells.toList ++ vals, RCs.append (by simpa using hxr) hv, ?_⟩
              simp only [List.map_cons]
              rw [fill_cons _ arr i (ρ x) _ (i * sz) sz rfl (by rw [hx.1, hlen]) (by rw [hx.1]; omega), hf, setCells_append]
              have : (ρ x).cells.toList.length = sz := by rw [Array.length_toList, hx.1, hlen]
              rw [this, Nat.add_mul, Nat.one_mul]
            · cases h
          · cases h
        · cases h
      · cases h
    · cases h

theorem setCells_all (vals : List Value) (arr : Array Value) (h : arr.size = vals.length) : setCells arr 0 vals = vals.toArray := by
  apply Array.ext_getElem?
  intro j
  rw [get_setCells vals arr 0 j (by omega)]
  by_cases hj : j < vals.length
  · rw [if_pos (by omega)]
    simp
  · rw [if_neg (by omega)]
    rw [Array.getElem?_eq_none (by omega), Array.getElem?_eq_none (by simpa using hj)]

end
end Go.CT
