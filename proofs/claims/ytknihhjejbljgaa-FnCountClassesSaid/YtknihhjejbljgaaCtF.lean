/- That an operation that only reads does what 'pop' says. -/
import Derived.Test.YtknihhjejbljgaaCtE
set_option linter.unusedVariables false
set_option linter.unusedSimpArgs false
namespace Go.CT

section
variable {P : Program}

theorem rd_isl {I : Nat → Prop} {w : World} {s : Sg} {x : Value} {sz : Nat} {xs : List (List C)} (h : RD I w s x (.c (.isl sz xs))) :
    ∃ a cap, x = .slice a xs.length cap ∧ (xs.length ≤ cap ∧ xs.length ≤ mx) ∧ (xs = [] ∨ ∃ (b off : Nat) (y : Nat → Nat → Value), a = some ⟨b, off, none⟩ ∧ I b ∧ (∀ i (h : i < xs.length), (xs[i]).length = sz) ∧
      (∀ i j, i < xs.length → j < sz → w.cell? ⟨b, off + i * sz + j, none⟩ = some (y i j)) ∧ ∀ i (h : i < xs.length) j (h' : j < (xs[i]).length), RC I w Sg0 (y i j) (xs[i])[j]) := by
  cases h with
  | c _ _ h =>
    cases h with
    | isl0 _ a cap _ => exact ⟨a, cap, rfl, ⟨Nat.zero_le _, Nat.zero_le _⟩, .inl rfl⟩
    | isl _ b off cap _ _ y hI hl hc hr hcap => exact ⟨_, cap, rfl, hcap, .inr ⟨b, off, y, rfl, hI, hl, hc, hr⟩⟩

theorem rd_msl {I : Nat → Prop} {w : World} {s : Sg} {x : Value} {k sz off len : Nat} (h : RD I w s x (.c (.msl k sz off len))) :
    (∃ a, x = .slice a 0 0 ∧ s k = some none ∧ off = 0 ∧ len = 0) ∨
    ∃ (b cap : Nat) (arr : Array Value) (T : TypeId) (fr : Nat × Nat), x = .slice (some ⟨b, off, none⟩) len cap ∧ s k = some (some b) ∧ (len ≤ cap ∧ len ≤ mx) ∧ w.heap[b]? = some (.cells arr T fr) ∧ off + cap * sz ≤ arr.size := by
  cases h with
  | c _ _ h =>
    cases h with
    | msl0 _ a _ _ h => exact .inl ⟨a, rfl, h, rfl, rfl⟩
    | msl _ _ b _ _ _ cap arr T fr h hlen hb hcap => exact .inr ⟨b, cap, arr, T, fr, rfl, h, hlen, hb, hcap⟩

theorem und_string {t : TypeId} (h : tstring P t = true) : P.underlying t = some .string := by
  unfold tstring at h
  split at h
  · rename_i hh; exact hh
  · cases h

theorem rd_z {I : Nat → Prop} {w : World} {s : Sg} {x : Value} (h : RD I w s x (.c .z)) : ∃ a, x = .slice a 0 0 := by
  cases h with | c _ _ h => cases h with | z _ a => exact ⟨a, rfl⟩

theorem islen_sound {I : Nat → Prop} {w : World} {s : Sg} {x : Value} {d : D} {n : Nat} {t : TypeId} (h : RD I w s x d) (hn : islen P t d = some n) :
    (∃ a cap el, x = .slice a n cap ∧ P.underlying t = some (.slice el)) ∨ ∃ b, x = .string b ∧ b.size = n ∧ P.underlying t = some .string := by
  unfold islen at hn
  split at hn
  · split at hn
    · rename_i ht
      obtain ⟨el, hel⟩ := Option.isSome_iff_exists.1 ht
      obtain ⟨a, cap, h1, _⟩ := rd_isl h
      simp only [Option.some.injEq] at hn
      exact .inl ⟨a, cap, el, hn ▸ h1, und_slice hel⟩
    · cases hn
  · split at hn
    · rename_i ht
      obtain ⟨el, hel⟩ := Option.isSome_iff_exists.1 ht
      simp only [Option.some.injEq] at hn
      rcases rd_msl h with ⟨a, h1, _, _, h2⟩ | ⟨b, cap, _, _, _, h1, _⟩
      · exact .inl ⟨a, 0, el, by rw [h1, ← hn, h2], und_slice hel⟩
      · exact .inl ⟨_, cap, el, hn ▸ h1, und_slice hel⟩
    · cases hn
  · split at hn
    · rename_i ht
      obtain ⟨h1, _⟩ := rd_scalar h
      simp only [Option.some.injEq] at hn
      exact .inr ⟨_, h1, hn, und_string ht⟩
    · cases hn
  · split at hn
    · rename_i ht
      obtain ⟨el, hel⟩ := Option.isSome_iff_exists.1 ht
      obtain ⟨h1, _⟩ := rd_scalar h
      simp only [Option.some.injEq] at hn
      exact .inl ⟨none, 0, el, by rw [h1, ← hn], und_slice hel⟩
    · cases hn
  · split at hn
    · rename_i ht
      obtain ⟨el, hel⟩ := Option.isSome_iff_exists.1 ht
      obtain ⟨a, h1⟩ := rd_z h
      simp only [Option.some.injEq] at hn
      exact .inl ⟨a, 0, el, by rw [h1, ← hn], und_slice hel⟩
    · cases hn
  · cases hn

/-- Values read as cells, one by one. -/
def RCs (I : Nat → Prop) (w : World) (s : Sg) (arr : Array Value) (cs : List C) : Prop := arr.size = cs.length ∧ ∀ j (h : j < arr.size) (h' : j < cs.length), RC I w s arr[j] cs[j]

theorem rd_clo {I : Nat → Prop} {w : World} {s : Sg} {x : Value} {f : FuncId} {cs : List C} (h : RD I w s x (.c (.clo f cs))) :
    ∃ vs, x = .func (.func f) #[] vs ∧ RCs I w s vs cs := by
  cases h with | c _ _ h => cases h with | clo _ _ _ vs hl hr => exact ⟨vs, rfl, hl, hr⟩

theorem putCells_length : ∀ (ds cs : List C) (off : Nat), (putCells cs off ds).length = cs.length
  | [], _, _ => rfl
  | d :: r, cs, off => by simp only [putCells]; rw [putCells_length r]; simp

theorem putCells_get : ∀ (ds cs : List C) (off j : Nat), off + ds.length ≤ cs.length →
    (putCells cs off ds)[j]? = if off ≤ j ∧ j < off + ds.length then ds[j - off]? else cs[j]?
  | [], cs, off, j, _ => by simp only [putCells, List.length_nil]; rw [if_neg (by omega)]
  | d :: r, cs, off, j, h => by
    simp only [List.length_cons] at h
    simp only [putCells]
    rw [putCells_get r _ _ _ (by simp; omega)]
    simp only [List.length_cons, List.getElem?_set]
    by_cases e : j = off
    · subst e
      rw [if_neg (by omega), if_pos rfl, if_pos (by omega), if_pos (by omega)]
      simp
    · by_cases h2 : off + 1 ≤ j ∧ j < off + 1 + r.length
      · rw [if_pos h2, if_pos (by omega)]
        rw [show j - off = (j - (off + 1)) + 1 from by omega, List.getElem?_cons_succ]
      · rw [if_neg h2, if_neg (fun e' => e e'.symm), if_neg (by omega)]

theorem RCs.get {I : Nat → Prop} {w : World} {s : Sg} {arr : Array Value} {cs : List C} (h : RCs I w s arr cs) {j : Nat} {v : Value} {c : C} (hv : arr[j]? = some v) (hc : cs[j]? = some c) : RC I w s v c := by
  obtain ⟨h1, e1⟩ := Array.getElem?_eq_some_iff.1 hv
  obtain ⟨h2, e2⟩ := List.getElem?_eq_some_iff.1 hc
  rw [← e1, ← e2]
  exact h.2 j h1 h2

theorem RCs.put {I : Nat → Prop} {w : World} {s : Sg} {arr : Array Value} {cs : List C} (h : RCs I w s arr cs) {x : Array Value} {ds : List C} (hx : RCs I w s x ds) {off : Nat} (ho : off + ds.length ≤ cs.length) :
    RCs I w s (setCells arr off x.toList) (putCells cs off ds) := by
  have hxl : x.toList.length = ds.length := by simpa using hx.1
  refine ⟨by rw [size_setCells, putCells_length, h.1], fun j h1 h2 => ?_⟩
  have g1 := get_setCells x.toList arr off j (by rw [hxl, h.1]; exact ho)
  have g2 := putCells_get ds cs off j ho
  rw [hxl] at g1
  have e1 : (setCells arr off x.toList)[j]? = some (setCells arr off x.toList)[j] := by simp [h1]
  have e2 : (putCells cs off ds)[j]? = some (putCells cs off ds)[j] := by simp [h2]
  rw [e1] at g1
  rw [e2] at g2
  by_cases hj : off ≤ j ∧ j < off + ds.length
  · rw [if_pos hj] at g1 g2
    exact hx.get (by rw [Array.getElem?_toList] at g1; exact g1.symm) g2.symm
  · rw [if_neg hj] at g1 g2
    exact h.get g1.symm g2.symm

theorem fill_foldl (x : Array Value) (off : Nat) : ∀ (l : List Value) (i : Nat) (arr : Array Value),
    (l.zipIdx i).foldl (fun cs (p : Value × Nat) => cs.setIfInBounds (off + p.2) p.1) arr = setCells arr (off + i) l
  | [], _, _ => rfl
  | v :: r, i, arr => by
    simp only [List.zipIdx_cons, List.foldl_cons, setCells]
    rw [fill_foldl x off r (i + 1)]
    rfl

theorem fill_cons (place : Nat → Option (Nat × Nat)) (cells : Array Value) (i : Nat) (v : Value) (rest : List (Nat × Value)) (off size : Nat) (hp : place i = some (off, size)) (hs : v.cells.size = size)
    (hl : off + v.cells.size ≤ cells.size) : Instr.fill place cells ((i, v) :: rest) = Instr.fill place (setCells cells off v.cells.toList) rest := by
  simp only [Instr.fill, hp]
  have hneg : ¬ ((decide (v.cells.size ≠ size) || decide (off + v.cells.size > cells.size)) = true) := by
    simp only [Bool.or_eq_true, decide_eq_true_eq]
    rintro (h | h)
    · exact h hs
    · omega
  rw [if_neg hneg]
  congr 1
  have := fill_foldl v.cells off v.cells.toList 0 cells
  rw [Nat.add_zero] at this
  rw [← this, ← Array.foldl_toList]
  simp

theorem bld_sound {I : Nat → Prop} {w : World} {s : Sg} {e : Operand → Option D} {ρ : Operand → Value} (he : ∀ x d, e x = some d → RD I w s (ρ x) d) {st : TypeId} (fs : Array Field) (hu : P.underlying st = some (.struct fs))
    (place : Nat → Option (Nat × Nat)) (hpl : ∀ f x n, fs[f]? = some x → tsz P x.type = some n → place f = some (x.offset, n)) :
    ∀ (ps : List (Nat × Operand)) (cs cs' : List C) (arr : Array Value), bld P st e ps cs = some cs' → RCs I w s arr cs →
      ∃ arr', Instr.fill place arr (ps.map fun p => (p.1, ρ p.2)) = some arr' ∧ RCs I w s arr' cs'
  | [], cs, cs', arr, h, hr => by
    simp only [bld, Option.some.injEq] at h
    subst h
    exact ⟨arr, rfl, hr⟩
  | (f, x) :: r, cs, cs', arr, h, hr => by
    unfold bld at h
    split at h
    · rename_i o ft hf
      split at h
      · rename_i d hd
        split at h
        · rename_i ds hds
          split at h
          · rename_i hc
            obtain ⟨fs', fx, hu', hx, ho, hft⟩ := tfield_parts hf
            rw [hu] at hu'
            simp only [Option.some.injEq, TypeDesc.struct.injEq] at hu'
            subst hu'
            have hrd := (he x d hd).cells hds
            have hv : RCs I w s (ρ x).cells ds := hrd
            have hpf := hpl f fx ds.length hx (by rw [hft]; exact hc.1)
            simp only [List.map_cons]
            rw [fill_cons place arr f (ρ x) _ o ds.length (by rw [hpf, ho]) hrd.1 (by rw [hrd.1, hr.1]; exact hc.2)]
            exact bld_sound he fs hu place hpl r _ cs' _ h (hr.put hv hc.2)
          · cases h
        · cases h
      · cases h
    · cases h

theorem run_mapM_places (fs : List Field) (w : World) (h : ∀ x ∈ fs, (tsz P x.type).isSome) :
    ∃ l : List (Nat × Nat), (fs.mapM (fun f => do pure (f.offset, ← sizeOf f.type) : Field → Sem (Nat × Nat))).run P w = .ok l w ∧ l.length = fs.length ∧
      ∀ (i : Nat) (x : Field) (n : Nat), fs[i]? = some x → tsz P x.type = some n → l[i]? = some (x.offset, n) := by
  induction fs with
  | nil => exact ⟨[], by simp [List.mapM_nil, run_pure], rfl, fun i x n h => by simp at h⟩
  | cons f r ih =>
    obtain ⟨l, hl, hll, hli⟩ := ih fun x hx => h x (by simp [hx])
    obtain ⟨n, hn⟩ := Option.isSome_iff_exists.1 (h f (by simp))
    refine ⟨(f.offset, n) :: l, ?_, by simp [hll], ?_⟩
    · rw [List.mapM_cons]
      rw [run_bind (x := (f.offset, n)) (w' := w)]
      · rw [run_bind _ _ _ _ _ hl]; rfl
      · rw [run_bind _ _ _ _ _ (run_sizeOf hn w)]; rfl
    · intro i x m hx hm
      cases i with
      | zero =>
        simp only [List.getElem?_cons_zero, Option.some.injEq] at hx ⊢
        subst hx
        rw [hn] at hm
        simp only [Option.some.injEq] at hm
        rw [hm]
      | succ i => simpa using hli i x m (by simpa using hx) hm

theorem bnd_sound {I : Nat → Prop} {w : World} {s : Sg} {e : Operand → Option D} {ρ : Operand → Value} (he : ∀ x d, e x = some d → RD I w s (ρ x) d) {x : Option Operand} {dflt n : Int} (h : bnd e x dflt = some n) :
    (x = none ∧ n = dflt) ∨ ∃ y k, x = some y ∧ ρ y = .int k n := by
  unfold bnd at h
  split at h
  · simp only [Option.some.injEq] at h
    exact .inl ⟨rfl, h.symm⟩
  · rename_i y
    split at h
    · rename_i k m hy
      simp only [Option.some.injEq] at h
      subst h
      exact .inr ⟨y, k, rfl, (rd_scalar (he _ _ hy)).1⟩
    · cases h

theorem sliceBound_run {k : IntKind} {i : Int} {y : Nat} {code : BoundsCode} (h0 : 0 ≤ i) (h1 : i ≤ y) (w : World) : (Instr.sliceBound (.int k i) y code).run P w = .ok i.toNat w := by
  simp only [Instr.sliceBound]
  rw [run_bind (x := (k, i)) (w' := w) _ _ _ (by rfl)]
  simp only [h0, h1, and_self, if_true]
  rfl

theorem sliceBounds_run {isSlice : Bool} {len cap : Nat} {lo hi : Option Value} {l h : Int} (hlo : (lo = none ∧ l = 0) ∨ ∃ k, lo = some (.int k l)) (hhi : (hi = none ∧ h = len) ∨ ∃ k, hi = some (.int k h))
    (h0 : 0 ≤ l) (hlh : l ≤ h) (hc : h ≤ cap) (hlc : len ≤ cap) (w : World) : (Instr.sliceBounds isSlice len cap lo hi none).run P w = .ok (l.toNat, h.toNat, cap) w := by
  simp only [Instr.sliceBounds]
  rw [run_bind (x := cap) (w' := w) _ _ _ (by rfl)]
  rcases hhi with ⟨rfl, rfl⟩ | ⟨k, rfl⟩ <;> rcases hlo with ⟨rfl, rfl⟩ | ⟨k', rfl⟩ <;> simp only
  · rw [run_bind (x := len) (w' := w) _ _ _ (by rfl), run_bind (x := 0) (w' := w) _ _ _ (by rfl)]
    simp only [Int.toNat_natCast, Int.toNat_zero]
    rfl
  · rw [run_bind (x := len) (w' := w) _ _ _ (by rfl), run_bind _ _ _ _ _ (sliceBound_run h0 (by omega) w)]
    simp only [Int.toNat_natCast]
    rfl
  · rw [run_bind _ _ _ _ _ (sliceBound_run (by omega) hc w), run_bind (x := 0) (w' := w) _ _ _ (by rfl)]
    simp only [Int.toNat_zero]
    rfl
  · rw [run_bind _ _ _ _ _ (sliceBound_run (by omega) hc w), run_bind _ _ _ _ _ (sliceBound_run h0 (by omega) w)]
    rfl

theorem rd_cell {I : Nat → Prop} {w : World} {s : Sg} {x : Value} {c : C} (h : RD I w s x (.c c)) : RC I w s x c := by
  cases h with | c _ _ h => exact h

theorem cellsOf_sound {I : Nat → Prop} {w : World} {s : Sg} {e : Operand → Option D} {ρ : Operand → Value} (he : ∀ x d, e x = some d → RD I w s (ρ x) d) : ∀ (l : List Operand) (cs : List C), cellsOf e l = some cs →
    RCs I w s (l.map ρ).toArray cs
  | [], cs, h => by
    simp only [cellsOf, Option.some.injEq] at h
    subst h
    exact ⟨rfl, fun j h => by simp at h⟩
  | x :: r, cs, h => by
    simp only [cellsOf] at h
    split at h
    · rename_i c cs' hx hr
      simp only [Option.some.injEq] at h
      subst h
      have ih := cellsOf_sound he r cs' hr
      have h0 : RC I w s (ρ x) c := by
        exact rd_cell (he _ _ hx)
      refine ⟨by have := ih.1; simp at this ⊢; exact this, fun j h1 h2 => ?_⟩
      cases j with
      | zero => simpa using h0
      | succ j =>
        have h3 := ih.2 j (by simpa using h1) (by simpa using h2)
        rw [List.getElem_toArray] at h3
        rw [List.getElem_toArray]
        exact h3
    · cases h

end
end Go.CT
