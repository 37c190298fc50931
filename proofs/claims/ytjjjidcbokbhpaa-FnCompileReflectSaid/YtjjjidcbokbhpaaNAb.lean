/- That an operation that only reads does what 'pop' says. -/
import Derived.Laws.StructEq
import Derived.Test.YtjjjidcbokbhpaaNAa
set_option linter.unusedVariables false
set_option linter.unusedSimpArgs false
set_option maxHeartbeats 16000000
set_option maxRecDepth 100000
namespace Go.CT

section
variable {P : Program}

theorem rd_isl {I : Nat → Prop} {w : World} {s : Sg} {x : Value} {sz : Nat} {xs : List (List C)} (h : RD I w s x (.c (.isl sz xs))) :
    ∃ a cap, x = .slice a xs.length cap ∧ (xs.length ≤ cap ∧ xs.length ≤ mx) ∧ (xs = [] ∨ ∃ (b off : Nat) (y : Nat → Nat → Value), a = some ⟨b, off, none⟩ ∧ I b ∧ (∀ i (h : i < xs.length), (xs[i]).length = sz) ∧
      (∀ i j, i < xs.length → j < sz → w.cell? ⟨b, off + i * sz + j, none⟩ = some (y i j)) ∧ ∀ i (h : i < xs.length) j (h' : j < (xs[i]).length), RC I w Sg0 (y i j) (xs[i])[j]) := by
  cases h with
  | c _ _ h =>
    cases h with
    | isl0 _ a cap _ => exact ⟨a, cap, rfl, ⟨Nat.zero_le _, Nat.zero_le _⟩, .inl rfl⟩
    | isl _ b off cap _ _ y hI hl hc hr hcap => exact ⟨_, cap, rfl, hcap, .inr ⟨b, off, y, rfl, hI, hl, hc, hr⟩⟩

theorem rd_msl {I : Nat → Prop} {w : World} {s : Sg} {x : Value} {k sz off len : Nat} (h : RD I w s x (.c (.msl k sz off len))) :
    (∃ a, x = .slice a 0 0 ∧ s k = some none ∧ off = 0 ∧ len = 0) ∨
    ∃ (b cap : Nat) (arr : Array Value) (T : TypeId) (fr : Nat × Nat), x = .slice (some ⟨b, off, none⟩) len cap ∧ s k = some (some b) ∧ (len ≤ cap ∧ len ≤ mx) ∧ w.heap[b]? = some (.cells arr T fr) ∧ off + cap * sz ≤ arr.size := by
  cases h with
  | c _ _ h =>
    cases h with
    | msl0 _ a _ _ h => exact .inl ⟨a, rfl, h, rfl, rfl⟩
    | msl _ _ b _ _ _ cap arr T fr h hlen hb hcap => exact .inr ⟨b, cap, arr, T, fr, rfl, h, hlen, hb, hcap⟩

theorem und_string {t : TypeId} (h : tstring P t = true) : P.underlying t = some .string := by
  unfold tstring at h
  split at h
  · rename_i hh; exact hh
  · cases h

theorem rd_z {I : Nat → Prop} {w : World} {s : Sg} {x : Value} (h : RD I w s x (.c .z)) : ∃ a, x = .slice a 0 0 := by
  cases h with | c _ _ h => cases h with | z _ a => exact ⟨a, rfl⟩

theorem islen_sound {I : Nat → Prop} {w : World} {s : Sg} {x : Value} {d : D} {n : Nat} {t : TypeId} (h : RD I w s x d) (hn : islen P t d = some n) :
    (∃ a cap el, x = .slice a n cap ∧ P.underlying t = some (.slice el)) ∨ ∃ b, x = .string b ∧ b.size = n ∧ P.underlying t = some .string := by
  unfold islen at hn
  split at hn
  · split at hn
    · rename_i ht
      obtain ⟨el, hel⟩ := Option.isSome_iff_exists.1 ht
      obtain ⟨a, cap, h1, _⟩ := rd_isl h
      simp only [Option.some.injEq] at hn
      exact .inl ⟨a, cap, el, hn ▸ h1, und_slice hel⟩
    · cases hn
  · split at hn
    · rename_i ht
      obtain ⟨el, hel⟩ := Option.isSome_iff_exists.1 ht
      simp only [Option.some.injEq] at hn
      rcases rd_msl h with ⟨a, h1, _, _, h2⟩ | ⟨b, cap, _, _, _, h1, _⟩
      · exact .inl ⟨a, 0, el, by rw [h1, ← hn, h2], und_slice hel⟩
      · exact .inl ⟨_, cap, el, hn ▸ h1, und_slice hel⟩
    · cases hn
  · split at hn
    · rename_i ht
      obtain ⟨h1, _⟩ := rd_scalar h
      simp only [Option.some.injEq] at hn
      exact .inr ⟨_, h1, hn, und_string ht⟩
    · cases hn
  · split at hn
    · rename_i ht
      obtain ⟨el, hel⟩ := Option.isSome_iff_exists.1 ht
      obtain ⟨h1, _⟩ := rd_scalar h
      simp only [Option.some.injEq] at hn
      exact .inl ⟨none, 0, el, by rw [h1, ← hn], und_slice hel⟩
    · cases hn
  · split at hn
    · rename_i ht
      obtain ⟨el, hel⟩ := Option.isSome_iff_exists.1 ht
      obtain ⟨a, h1⟩ := rd_z h
      simp only [Option.some.injEq] at hn
      exact .inl ⟨a, 0, el, by rw [h1, ← hn], und_slice hel⟩
    · cases hn
  · cases hn

/-- Values read as cells, one by one. -/
def RCs (I : Nat → Prop) (w : World) (s : Sg) (arr : Array Value) (cs : List C) : Prop := arr.size = cs.length ∧ ∀ j (h : j < arr.size) (h' : j < cs.length), RC I w s arr[j] cs[j]

theorem rd_clo {I : Nat → Prop} {w : World} {s : Sg} {x : Value} {f : FuncId} {cs : List C} (h : RD I w s x (.c (.clo f cs))) :
    ∃ vs, x = .func (.func f) #[] vs ∧ RCs I w s vs cs := by
  cases h with | c _ _ h => cases h with | clo _ _ _ vs hl hr => exact ⟨vs, rfl, hl, hr⟩

theorem rd_met {I : Nat → Prop} {w : World} {s : Sg} {x : Value} {f : FuncId} {cs : List C} (h : RD I w s x (.c (.met f cs))) :
    ∃ vs, x = .func (.func f) #[.agg vs] #[] ∧ RCs I w Sg0 vs cs := by
  cases h with | c _ _ h => cases h with | met _ _ _ vs hl hr => exact ⟨vs, rfl, hl, hr⟩
theorem RC.kf0 {I : Nat → Prop} {w : World} {s : Sg} {x : Value} {c : C} (h : RC I w s x c) (hk : kf c = true) : RC I w Sg0 x c := by
  cases h with
  | v _ _ h1 => exact .v _ _ h1
  | unk _ _ h1 => exact .unk _ _ h1
  | z _ a => exact .z _ a
  | isl0 _ a cap sz => exact .isl0 _ a cap sz
  | isl _ b off cap sz xs y hI hl hc hr hcap => exact .isl _ b off cap sz xs y hI hl hc hr hcap
  | eptr _ b off cs y hI hc hr => exact .eptr _ b off cs y hI hc hr
  | met _ f cs vs hl hr => exact .met _ f cs vs hl hr
  | _ => simp [kf] at hk
theorem kfs_get : ∀ {cs : List C}, kfs cs = true → ∀ j (h : j < cs.length), kf cs[j] = true
  | c :: r, h, 0, _ => by simp only [kfs, Bool.and_eq_true] at h; exact h.1
  | c :: r, h, j + 1, h2 => by simp only [kfs, Bool.and_eq_true] at h; exact kfs_get h.2 j (by simpa using h2)

theorem putCells_length : ∀ (ds cs : List C) (off : Nat), (putCells cs off ds).length = cs.length
  | [], _, _ => rfl
  | d :: r, cs, off => by simp only [putCells]; rw [putCells_length r]; simp

theorem putCells_get : ∀ (ds cs : List C) (off j : Nat), off + ds.length ≤ cs.length →
    (putCells cs off ds)[j]? = if off ≤ j ∧ j < off + ds.length then ds[j - off]? else cs[j]?
  | [], cs, off, j, _ => by simp only [putCells, List.length_nil]; rw [if_neg (by omega)]
  | d :: r, cs, off, j, h => by
    simp only [List.length_cons] at h
    simp only [putCells]
    rw [putCells_get r _ _ _ (by simp; omega)]
    simp only [List.length_cons, List.getElem?_set]
    by_cases e : j = off
    · subst e
      rw [if_neg (by omega), if_pos rfl, if_pos (by omega), if_pos (by omega)]
      simp
    · by_cases h2 : off + 1 ≤ j ∧ j < off + 1 + r.length
      · rw [if_pos h2, if_pos (by omega)]
        rw [show j - off = (j - (off + 1)) + 1 from by omega, List.getElem?_cons_succ]
      · rw [if_neg h2, if_neg (fun e' => e e'.symm), if_neg (by omega)]

theorem RCs.get {I : Nat → Prop} {w : World} {s : Sg} {arr : Array Value} {cs : List C} (h : RCs I w s arr cs) {j : Nat} {v : Value} {c : C} (hv : arr[j]? = some v) (hc : cs[j]? = some c) : RC I w s v c := by
  obtain ⟨h1, e1⟩ := Array.getElem?_eq_some_iff.1 hv
  obtain ⟨h2, e2⟩ := List.getElem?_eq_some_iff.1 hc
  rw [← e1, ← e2]
  exact h.2 j h1 h2

theorem RCs.put {I : Nat → Prop} {w : World} {s : Sg} {arr : Array Value} {cs : List C} (h : RCs I w s arr cs) {x : Array Value} {ds : List C} (hx : RCs I w s x ds) {off : Nat} (ho : off + ds.length ≤ cs.length) :
    RCs I w s (setCells arr off x.toList) (putCells cs off ds) := by
  have hxl : x.toList.length = ds.length := by simpa using hx.1
  refine ⟨by rw [size_setCells, putCells_length, h.1], fun j h1 h2 => ?_⟩
  have g1 := get_setCells x.toList arr off j (by rw [hxl, h.1]; exact ho)
  have g2 := putCells_get ds cs off j ho
  rw [hxl] at g1
  have e1 : (setCells arr off x.toList)[j]? = some (setCells arr off x.toList)[j] := by simp [h1]
  have e2 : (putCells cs off ds)[j]? = some (putCells cs off ds)[j] := by simp [h2]
  rw [e1] at g1
  rw [e2] at g2
  by_cases hj : off ≤ j ∧ j < off + ds.length
  · rw [if_pos hj] at g1 g2
    exact hx.get (by rw [Array.getElem?_toList] at g1; exact g1.symm) g2.symm
  · rw [if_neg hj] at g1 g2
    exact h.get g1.symm g2.symm

theorem fill_foldl (x : Array Value) (off : Nat) : ∀ (l : List Value) (i : Nat) (arr : Array Value),
    (l.zipIdx i).foldl (fun cs (p : Value × Nat) => cs.setIfInBounds (off + p.2) p.1) arr = setCells arr (off + i) l
  | [], _, _ => rfl
  | v :: r, i, arr => by
    simp only [List.zipIdx_cons, List.foldl_cons, setCells]
    rw [fill_foldl x off r (i + 1)]
    rfl

theorem fill_cons (place : Nat → Option (Nat × Nat)) (cells : Array Value) (i : Nat) (v : Value) (rest : List (Nat × Value)) (off size : Nat) (hp : place i = some (off, size)) (hs : v.cells.size = size)
    (hl : off + v.cells.size ≤ cells.size) : Instr.fill place cells ((i, v) :: rest) = Instr.fill place (setCells cells off v.cells.toList) rest := by
  simp only [Instr.fill, hp]
  have hneg : ¬ ((decide (v.cells.size ≠ size) || decide (off + v.cells.size > cells.size)) = true) := by
    simp only [Bool.or_eq_true, decide_eq_true_eq]
    rintro (h | h)
    · exact h hs
    · omega
  rw [if_neg hneg]
  congr 1
  have := fill_foldl v.cells off v.cells.toList 0 cells
  rw [Nat.add_zero] at this
  rw [← this, ← Array.foldl_toList]
  simp

theorem bld_sound {I : Nat → Prop} {w : World} {s : Sg} {e : Operand → Option D} {ρ : Operand → Value} (he : ∀ x d, e x = some d → RD I w s (ρ x) d) {st : TypeId} (fs : Array Field) (hu : P.underlying st = some (.struct fs))
    (place : Nat → Option (Nat × Nat)) (hpl : ∀ f x n, fs[f]? = some x → tsz P x.type = some n → place f = some (x.offset, n)) :
    ∀ (ps : List (Nat × Operand)) (cs cs' : List C) (arr : Array Value), bld P st e ps cs = some cs' → RCs I w s arr cs →
      ∃ arr', Instr.fill place arr (ps.map fun p => (p.1, ρ p.2)) = some arr' ∧ RCs I w s arr' cs'
  | [], cs, cs', arr, h, hr => by
    simp only [bld, Option.some.injEq] at h
    subst h
    exact ⟨arr, rfl, hr⟩
  | (f, x) :: r, cs, cs', arr, h, hr => by
    unfold bld at h
    split at h
    · rename_i o ft hf
      split at h
      · rename_i d hd
        split at h
        · rename_i ds hds
          split at h
          · rename_i hc
            obtain ⟨fs', fx, hu', hx, ho, hft⟩ := tfield_parts hf
            rw [hu] at hu'
            simp only [Option.some.injEq, TypeDesc.struct.injEq] at hu'
            subst hu'
            have hrd := (he x d hd).cells hds
            have hv : RCs I w s (ρ x).cells ds := hrd
            have hpf := hpl f fx ds.length hx (by rw [hft]; exact hc.1)
            simp only [List.map_cons]
            rw [fill_cons place arr f (ρ x) _ o ds.length (by rw [hpf, ho]) hrd.1 (by rw [hrd.1, hr.1]; exact hc.2)]
            exact bld_sound he fs hu place hpl r _ cs' _ h (hr.put hv hc.2)
          · cases h
        · cases h
      · cases h
    · cases h

theorem run_mapM_places (fs : List Field) (w : World) (h : ∀ x ∈ fs, (tsz P x.type).isSome) :
    ∃ l : List (Nat × Nat), (fs.mapM (fun f => do pure (f.offset, ← sizeOf f.type) : Field → Sem (Nat × Nat))).run P w = .ok l w ∧ l.length = fs.length ∧
      ∀ (i : Nat) (x : Field) (n : Nat), fs[i]? = some x → tsz P x.type = some n → l[i]? = some (x.offset, n) := by
  induction fs with
  | nil => exact ⟨[], by simp [List.mapM_nil, run_pure], rfl, fun i x n h => by simp at h⟩
  | cons f r ih =>
    obtain ⟨l, hl, hll, hli⟩ := ih fun x hx => h x (by simp [hx])
    obtain ⟨n, hn⟩ := Option.isSome_iff_exists.1 (h f (by simp))
    refine ⟨(f.offset, n) :: l, ?_, by simp [hll], ?_⟩
    · rw [List.mapM_cons]
      rw [run_bind (x := (f.offset, n)) (w' := w)]
      · rw [run_bind _ _ _ _ _ hl]; rfl
      · rw [run_bind _ _ _ _ _ (run_sizeOf hn w)]; rfl
    · intro i x m hx hm
      cases i with
      | zero =>
        simp only [List.getElem?_cons_zero, Option.some.injEq] at hx ⊢
        subst hx
        rw [hn] at hm
        simp only [Option.some.injEq] at hm
        rw [hm]
      | succ i => simpa using hli i x m (by simpa using hx) hm

theorem bnd_sound {I : Nat → Prop} {w : World} {s : Sg} {e : Operand → Option D} {ρ : Operand → Value} (he : ∀ x d, e x = some d → RD I w s (ρ x) d) {x : Option Operand} {dflt n : Int} (h : bnd e x dflt = some n) :
    (x = none ∧ n = dflt) ∨ ∃ y k, x = some y ∧ ρ y = .int k n := by
  unfold bnd at h
  split at h
  · simp only [Option.some.injEq] at h
    exact .inl ⟨rfl, h.symm⟩
  · rename_i y
    split at h
    · rename_i k m hy
      simp only [Option.some.injEq] at h
      subst h
      exact .inr ⟨y, k, rfl, (rd_scalar (he _ _ hy)).1⟩
    · cases h

theorem sliceBound_run {k : IntKind} {i : Int} {y : Nat} {code : BoundsCode} (h0 : 0 ≤ i) (h1 : i ≤ y) (w : World) : (Instr.sliceBound (.int k i) y code).run P w = .ok i.toNat w := by
  simp only [Instr.sliceBound]
  rw [run_bind (x := (k, i)) (w' := w) _ _ _ (by rfl)]
  simp only [h0, h1, and_self, if_true]
  rfl

theorem sliceBounds_run {isSlice : Bool} {len cap : Nat} {lo hi : Option Value} {l h : Int} (hlo : (lo = none ∧ l = 0) ∨ ∃ k, lo = some (.int k l)) (hhi : (hi = none ∧ h = len) ∨ ∃ k, hi = some (.int k h))
    (h0 : 0 ≤ l) (hlh : l ≤ h) (hc : h ≤ cap) (hlc : len ≤ cap) (w : World) : (Instr.sliceBounds isSlice len cap lo hi none).run P w = .ok (l.toNat, h.toNat, cap) w := by
  simp only [Instr.sliceBounds]
  rw [run_bind (x := cap) (w' := w) _ _ _ (by rfl)]
  rcases hhi with ⟨rfl, rfl⟩ | ⟨k, rfl⟩ <;> rcases hlo with ⟨rfl, rfl⟩ | ⟨k', rfl⟩ <;> simp only
  · rw [run_bind (x := len) (w' := w) _ _ _ (by rfl), run_bind (x := 0) (w' := w) _ _ _ (by rfl)]
    simp only [Int.toNat_natCast, Int.toNat_zero]
    rfl
  · rw [run_bind (x := len) (w' := w) _ _ _ (by rfl), run_bind _ _ _ _ _ (sliceBound_run h0 (by omega) w)]
    simp only [Int.toNat_natCast]
    rfl
  · rw [run_bind _ _ _ _ _ (sliceBound_run (by omega) hc w), run_bind (x := 0) (w' := w) _ _ _ (by rfl)]
    simp only [Int.toNat_zero]
    rfl
  · rw [run_bind _ _ _ _ _ (sliceBound_run (by omega) hc w), run_bind _ _ _ _ _ (sliceBound_run h0 (by omega) w)]
    rfl

theorem rd_cell {I : Nat → Prop} {w : World} {s : Sg} {x : Value} {c : C} (h : RD I w s x (.c c)) : RC I w s x c := by
  cases h with | c _ _ h => exact h

theorem cellsOf_sound {I : Nat → Prop} {w : World} {s : Sg} {e : Operand → Option D} {ρ : Operand → Value} (he : ∀ x d, e x = some d → RD I w s (ρ x) d) : ∀ (l : List Operand) (cs : List C), cellsOf e l = some cs →
    RCs I w s (l.map ρ).toArray cs
  | [], cs, h => by
    simp only [cellsOf, Option.some.injEq] at h
    subst h
    exact ⟨rfl, fun j h => by simp at h⟩
  | x :: r, cs, h => by
    simp only [cellsOf] at h
    split at h
    · rename_i c cs' hx hr
      simp only [Option.some.injEq] at h
      subst h
      have ih := cellsOf_sound he r cs' hr
      have h0 : RC I w s (ρ x) c := by
        exact rd_cell (he _ _ hx)
      refine ⟨by have := ih.1; simp at this ⊢; exact this, fun j h1 h2 => ?_⟩
      cases j with
      | zero => simpa using h0
      | succ j =>
        have h3 := ih.2 j (by simpa using h1) (by simpa using h2)
        rw [List.getElem_toArray] at h3
        rw [List.getElem_toArray]
        exact h3
    · cases h

/-! ### '==' of structs of numbers -/

theorem eqFields_run (d : Nat) (xs ys : Array Value) (w : World) : ∀ (fs : List Field) (i : Nat) (ks : List IntKind) (cs ds : List C) (q : Bool), fieldsInts P i fs = some ks → sameInts cs ds = some q → cs.length = ks.length →
    (∀ j (h : j < cs.length), ∃ x, xs[i + j]? = some x ∧ ∀ y, cs[j] = .v y → x = y) → (∀ j (h : j < ds.length), ∃ x, ys[i + j]? = some x ∧ ∀ y, ds[j] = .v y → x = y) →
    (Op.eqFields (d + 1) xs ys fs).run P w = .ok q w
  | [], i, ks, cs, ds, q, h, h2, hl, _, _ => by
    simp only [fieldsInts, Option.some.injEq] at h
    subst h
    have : cs = [] := List.eq_nil_of_length_eq_zero hl
    subst this
    cases ds with
    | nil => simp only [sameInts, Option.some.injEq] at h2; subst h2; rfl
    | cons a r => simp [sameInts] at h2
  | f :: fs, i, ks, cs, ds, q, h, h2, hl, hx, hy => by
    simp only [fieldsInts] at h
    split at h
    · rename_i hf
      split at h
      · rename_i k ks' hk hks
        simp only [Option.some.injEq] at h
        subst h
        match cs, ds, h2 with
        | .v (.int k1 a) :: cs, .v (.int k2 b) :: ds, h2 =>
          simp only [sameInts] at h2
          split at h2
          · rename_i hkk
            subst hkk
            cases hq : sameInts cs ds with
            | none => rw [hq] at h2; cases h2
            | some q' =>
              rw [hq] at h2
              simp only [Option.map_some, Option.some.injEq] at h2
              obtain ⟨x, hx1, hx2⟩ := hx 0 (by simp)
              obtain ⟨y, hy1, hy2⟩ := hy 0 (by simp)
              have hx3 := hx2 _ rfl
              have hy3 := hy2 _ rfl
              subst hx3 hy3
              have hu := und_int hk
              have px : (part f.type xs f.offset).run P w = .ok (.int k1 a) w := by
                simp only [part]
                rw [run_bind _ _ _ _ _ (run_isAgg (b := false) (by simp [tagg, hu]) w)]
                simp only [Bool.false_eq_true, if_false]
                rw [hf.2, show xs[i]? = some (.int k1 a) from by simpa using hx1]
                rfl
              have py : (part f.type ys f.offset).run P w = .ok (.int k1 b) w := by
                simp only [part]
                rw [run_bind _ _ _ _ _ (run_isAgg (b := false) (by simp [tagg, hu]) w)]
                simp only [Bool.false_eq_true, if_false]
                rw [hf.2, show ys[i]? = some (.int k1 b) from by simpa using hy1]
                rfl
              simp only [Op.eqFields]
              rw [if_pos hf.1]
              rw [run_bind _ _ _ _ _ px, run_bind _ _ _ _ _ py, run_bind _ _ _ _ _ (run_equalIn_int w d f.type k1 k a b hu)]
              have ih := eqFields_run d xs ys w fs (i + 1) ks' cs ds q' hks hq (by simpa using hl)
                (fun j hj => by have := hx (j + 1) (by simpa using hj); simpa [Nat.add_assoc, Nat.add_comm 1 j] using this)
                (fun j hj => by have := hy (j + 1) (by simpa using hj); simpa [Nat.add_assoc, Nat.add_comm 1 j] using this)
              by_cases hab : a = b
              · subst hab
                simp only [beq_self_eq_true, Bool.not_true, Bool.false_eq_true, if_false]
                rw [ih, ← h2]
                simp
              · have : (a == b) = false := by simp [hab]
                simp only [this, Bool.not_false, if_true]
                rw [← h2]
                simp [hab]
          · cases h2
      · cases h
    · cases h

theorem tints_run {I : Nat → Prop} {w : World} {s : Sg} {t : TypeId} {n : Nat} (ht : tints P t = some n) {vx vy : Value} {cs ds : List C} (hx : RD I w s vx (.agg cs)) (hy : RD I w s vy (.agg ds)) {q : Bool} (h : sameInts cs ds = some q) (hl : cs.length = n) (x y : Operand) (op : BinOp) :
    (Op.equal t vx vy).run P w = .ok q w ∧ (eqGuard op t x y vx vy).run P w = .ok () w := by
  unfold tints at ht
  split at ht
  · rename_i fs hu
    split at ht
    · rename_i hc
      simp only [Option.map_eq_some_iff] at ht
      obtain ⟨ks, hks, rfl⟩ := ht
      have key : ∀ {v : Value} {cs : List C}, RD I w s v (.agg cs) → ∃ xs, v = .agg xs ∧ ∀ j (h : j < cs.length), ∃ x, xs[0 + j]? = some x ∧ ∀ y, cs[j] = .v y → x = y := fun {v cs} h => by
        cases h with
        | agg vs cs hl hr =>
          refine ⟨vs, rfl, fun j hj => ⟨vs[j], by simp, fun y hy => ?_⟩⟩
          have h3 := hr j (by omega) hj
          rw [hy] at h3
          generalize vs[j] = z at h3 ⊢
          cases h3
          rfl
      obtain ⟨xs, rfl, h1⟩ := key hx
      obtain ⟨ys, rfl, h2⟩ := key hy
      have hfo : P.fieldsOf t = fs := by simp [Program.fieldsOf, hu]
      constructor
      · show (Op.equalIn (9999 + 1) t (.agg xs) (.agg ys)).run P w = _
        rw [run_equalIn_struct w 9999 t xs ys (by rw [hfo]; exact hu) hc.1, hfo]
        exact eqFields_run 9998 xs ys w fs.toList 0 ks cs ds q hks h hl h1 h2
      · have hg := hc.2
        cases op <;> first
          | rfl
          | (simp only [eqGuard]
             rw [if_neg (by decide)]
             simp only [program]
             show (Sem.run P ((Sem.program Sem.pure) >>= _) w) = _
             rw [run_bind (w' := w) (x := P) _ _ _ (by rfl)]
             show (Sem.run P ((Sem.program Sem.pure) >>= _) w) = _
             rw [run_bind (w' := w) (x := P) _ _ _ (by rfl)]
             simp only [hg, Bool.not_false, if_true]
             rfl)
    · cases ht
  · cases ht

/-- '==' of a slice and nil. -/
theorem slicenil_run {t e : TypeId} (ht : P.underlying t = some (.slice e)) (a : Option Addr) (n c n' c' : Nat) (w : World) : (Op.equal t (.slice a n c) (.slice none n' c')).run P w = .ok a.isNone w := by
  show (Op.equalIn (9999 + 1) t _ _).run P w = _
  rw [Op.equalIn.eq_def]
  simp only
  rw [run_bind _ _ _ _ _ (run_underlying ht w)]
  cases a <;> rfl
end
end Go.CT

namespace Go.CT

section
variable {P : Program}

theorem run_mapM_arr {α β : Type} (f : α → Sem β) (as : Array α) (w w' : World) (l : List β) (h : (as.toList.mapM f).run P w = .ok l w') : (as.mapM f).run P w = .ok l.toArray w' := by
  rw [Array.mapM_eq_mapM_toList]
  show (Sem.run P (List.toArray <$> as.toList.mapM f) w) = _
  have : (List.toArray <$> as.toList.mapM f) = (as.toList.mapM f >>= fun l => pure l.toArray) := rfl
  rw [this, run_bind _ _ _ _ _ h]
  rfl

theorem build_sound {I : Nat → Prop} {w : World} {s : Sg} {e : Operand → Option D} {ρ : Operand → Value} (he : ∀ x d, e x = some d → RD I w s (ρ x) d) {t : TypeId} {zs : List Value} (hz : tzero P t = some zs)
    {fs : Array Field} (hu : P.underlying t = some (.struct fs)) (hsz : ∀ x ∈ fs.toList, (tsz P x.type).isSome) {ps : Array (Nat × Operand)} {cs : List C} (hb : bld P t e ps.toList (zs.map .v) = some cs) (h1 : ∀ z ∈ zs, one z = true) :
    ∃ v, (Instr.build t (ps.map fun (i, x) => (i, ρ x))).run P w = .ok v w ∧ RD I w s v (.agg cs) := by
  obtain ⟨z, hzc, hzr⟩ := run_zeroValue hz w
  obtain ⟨l, hl, hll, hli⟩ := run_mapM_places (P := P) fs.toList w hsz
  have hl' := run_mapM_arr (P := P) (fun f => do pure (f.offset, ← sizeOf f.type) : Field → Sem (Nat × Nat)) fs w w l hl
  have hr0 : RCs I w s z.cells (zs.map .v) := by
    refine ⟨by rw [← hzc]; simp, fun j h h' => ?_⟩
    have : (zs.map C.v)[j] = .v z.cells[j] := by
      simp only [List.getElem_map]
      congr 1
      simp [← hzc]
    rw [this]
    exact .v _ _ (h1 _ (by rw [← hzc]; simp))
  obtain ⟨arr', hf, hr'⟩ := bld_sound (P := P) he fs hu (fun i => l.toArray[i]?) (fun f x n hx hn => by
    have := hli f x n (by simpa using hx) hn
    simpa using this) ps.toList _ cs z.cells hb hr0
  simp only [Instr.build]
  refine ⟨.agg arr', ?_, .agg _ _ hr'.1 hr'.2⟩
  rw [run_bind (x := z) (w' := w) _ _ _ hzr, run_bind _ _ _ _ _ (run_underlying hu w)]
  simp only
  rw [run_bind _ _ _ _ _ hl']
  have : (ps.map fun (i, x) => (i, ρ x)).toList = ps.toList.map fun p => (p.1, ρ p.2) := by simp
  rw [this]
  simp only [hf]
  rfl

theorem dbin_sound {I : Nat → Prop} {w : World} {s : Sg} {x y : Value} {dx dy : D} (hx : RD I w s x dx) (hy : RD I w s y dy) {op : BinOp} {vc : Prop} {d : D} (h : dbin op dx dy = some (vc, d)) (hvc : vc) (t : TypeId)
    (hb : (∃ b, dx = DB b) → tbool P t = true) : ∃ v, (binOp op t x y).run P w = .ok v w ∧ RD I w s v d := by
  unfold dbin at h
  split at h
  · rename_i k a k' b
    obtain ⟨rfl, _⟩ := rd_scalar hx
    obtain ⟨rfl, _⟩ := rd_scalar hy
    split at h
    · obtain ⟨y, h1, h2, h3⟩ := dshift_sound (P := P) (k' := k') h hvc t w
      exact ⟨y, h1, h2 ▸ .c _ _ (.v _ _ h3)⟩
    · rename_i hsh
      split at h
      · rename_i hk
        subst hk
        obtain ⟨y, h1, h2, h3⟩ := dint_sound (P := P) h hvc ⟨fun e => hsh (.inl e), fun e => hsh (.inr e)⟩ t w
        exact ⟨y, h1, h2 ▸ .c _ _ (.v _ _ h3)⟩
      · cases h
  · rename_i a b
    obtain ⟨rfl, _⟩ := rd_scalar hx
    obtain ⟨rfl, _⟩ := rd_scalar hy
    have ht := hb ⟨a, rfl⟩
    unfold tbool at ht
    split at ht
    · rename_i hu
      cases op <;> simp only [Option.some.injEq, Prod.mk.injEq, reduceCtorEq] at h
      · obtain ⟨rfl, rfl⟩ := h
        refine ⟨_, ?_, rd_bool _⟩
        simp only [binOp, Op.equal, Op.maxDepth]
        rw [run_bind (x := (a == b)) (w' := w)]
        · rfl
        · rw [Op.equalIn.eq_def]
          simp only
          rw [run_bind _ _ _ _ _ (run_underlying hu w)]
          rfl
      · obtain ⟨rfl, rfl⟩ := h
        refine ⟨_, ?_, rd_bool _⟩
        simp only [binOp, Op.equal, Op.maxDepth]
        rw [run_bind (x := (a == b)) (w' := w)]
        · rfl
        · rw [Op.equalIn.eq_def]
          simp only
          rw [run_bind _ _ _ _ _ (run_underlying hu w)]
          rfl
    · cases ht
  · rename_i a b
    obtain ⟨rfl, _⟩ := rd_scalar hx
    obtain ⟨rfl, _⟩ := rd_scalar hy
    obtain ⟨y, h1, h2, h3⟩ := dstr_sound (P := P) h hvc t w
    exact ⟨y, h1, h2 ▸ .c _ _ (.v _ _ h3)⟩
  · cases h

theorem dbin_scalar {op : BinOp} {dx dy : D} {vc : Prop} {d : D} (h : dbin op dx dy = some (vc, d)) : (∃ u, dx = .c (.v u)) ∧ ∃ u, dy = .c (.v u) := by
  unfold dbin at h
  split at h <;> first | exact ⟨⟨_, rfl⟩, ⟨_, rfl⟩⟩ | cases h

theorem eqGuard_run {op : BinOp} {t : TypeId} {x y : Operand} {a b : Value} (ha : one a = true) (hn : a ≠ .nilIface) (w : World) : (eqGuard op t x y a b).run P w = .ok () w := by
  cases op <;> first
    | rfl
    | (cases a <;> first | rfl | exact absurd rfl hn | (simp [one] at ha))

theorem tstruct_parts {t : TypeId} {zs : List Value} (h : tstruct P t = some zs) : ∃ fs, P.underlying t = some (.struct fs) ∧ (∀ x ∈ fs.toList, (tsz P x.type).isSome) ∧ tzero P t = some zs ∧ ∀ z ∈ zs, one z = true := by
  unfold tstruct at h
  split at h
  · rename_i fs hu
    split at h
    · rename_i hall
      split at h
      · rename_i zs' hz
        split at h
        · rename_i h1
          simp only [Option.some.injEq] at h
          subst h
          exact ⟨fs, hu, fun x hx => by simpa using List.all_eq_true.1 hall x hx, hz, fun z hz' => List.all_eq_true.1 h1 z hz'⟩
        · cases h
      · cases h
    · cases h
  · cases h

theorem rd_agg {I : Nat → Prop} {w : World} {s : Sg} {v : Value} {cs : List C} (h : RD I w s v (.agg cs)) : ∃ xs, v = .agg xs := by cases h; exact ⟨_, rfl⟩
theorem rd_mslnil {I : Nat → Prop} {w : World} {s : Sg} {v : Value} {k sz off len : Nat} (h : RD I w s v (.c (.msl k sz off len))) (hl : 0 < len) : ∃ a n c, v = .slice a n c ∧ a.isNone = false := by
  cases h with
  | c _ _ h => cases h with
    | msl0 => exact absurd hl (Nat.lt_irrefl 0)
    | msl => exact ⟨_, _, _, rfl, rfl⟩

theorem pop_sound {I : Nat → Prop} {w : World} {s : Sg} {hp : Hp} (H : SimH I w s hp) {e : Operand → Option D} {ρ : Operand → Value} (he : ∀ x d, e x = some d → RD I w s (ρ x) d)
    {o : Oper} {vc : Prop} {d : D} (h : pop P e hp o.op = some (vc, d)) (hvc : vc) : ∃ v, (execOp ρ o).run P w = .ok (.value v) w ∧ RD I w s v d := by
  obtain ⟨dst, op, type, pos, after, guard⟩ := o
  simp only at h
  cases op with
  | move x =>
    simp only [pop] at h
    split at h
    · rename_i d' hd
      simp only [Option.some.injEq, Prod.mk.injEq] at h
      obtain ⟨rfl, rfl⟩ := h
      exact ⟨_, rfl, he _ _ hd⟩
    · cases h
  | assign x =>
    simp only [pop] at h
    split at h
    · rename_i d' hd
      simp only [Option.some.injEq, Prod.mk.injEq] at h
      obtain ⟨rfl, rfl⟩ := h
      exact ⟨_, rfl, he _ _ hd⟩
    · cases h
  | load t x =>
    simp only [pop] at h
    split at h
    · rename_i k off g n hd hg hn
      split at h
      · rename_i cs hcs
        obtain ⟨b, hs, hx⟩ := rd_ptr (he _ _ hd)
        obtain ⟨arr, T, hb, hl, hr⟩ := live_cells H hcs hs
        obtain ⟨v, h1, h2⟩ := grab_sound (P := P) hg hn (b := b) (o := 0) h hvc (fun j hj => by
          obtain ⟨y, hy, hry⟩ := hr j hj
          exact ⟨y, by simpa [World.cell?, hb] using hy, hry⟩)
        simp only [Nat.zero_add] at h1
        refine ⟨v, ?_, h2⟩
        simp only [execOp, hx]
        exact run_v h1
      · cases h
    · rename_i cs g n hd hg hn
      obtain ⟨b, off, y, hx, hI, hc, hr⟩ := rd_eptr (he _ _ hd)
      obtain ⟨v, h1, h2⟩ := grab_sound (P := P) hg hn (b := b) (o := off) h hvc (fun j hj => ⟨y j, hc j hj, (hr j hj).any s⟩)
      refine ⟨v, ?_, h2⟩
      simp only [execOp, hx]
      exact run_v h1
    · cases h
  | nilCheck x =>
    simp only [pop] at h
    split at h
    · rename_i k off hd
      simp only [Option.some.injEq, Prod.mk.injEq] at h
      obtain ⟨rfl, rfl⟩ := h
      have hx := he _ _ hd
      obtain ⟨b, hs, hx'⟩ := rd_ptr hx
      refine ⟨_, ?_, hx⟩
      simp only [execOp, hx']
      rfl
    · rename_i cs hd
      simp only [Option.some.injEq, Prod.mk.injEq] at h
      obtain ⟨rfl, rfl⟩ := h
      have hx := he _ _ hd
      obtain ⟨b, off, y, hx', _⟩ := rd_eptr hx
      refine ⟨_, ?_, hx⟩
      simp only [execOp, hx']
      rfl
    · rename_i f cs hd
      simp only [Option.some.injEq, Prod.mk.injEq] at h
      obtain ⟨rfl, rfl⟩ := h
      have hx := he _ _ hd
      refine ⟨ρ x, ?_, hx⟩
      obtain ⟨vs, hv, _⟩ := rd_clo hx
      simp only [execOp, hv]
      rfl
    · rename_i f cs hd
      simp only [Option.some.injEq, Prod.mk.injEq] at h
      obtain ⟨rfl, rfl⟩ := h
      have hx := he _ _ hd
      refine ⟨ρ x, ?_, hx⟩
      obtain ⟨vs, hv, _⟩ := rd_met hx
      simp only [execOp, hv]
      rfl
    · cases h
  | binOp op t x y yt =>
    simp only [pop] at h
    split at h
    · rename_i a b hx hy
      split at h
      · rename_i ht
        obtain ⟨v, h1, h2⟩ := dbin_sound (P := P) (he _ _ hx) (he _ _ hy) h hvc t (fun _ => ht)
        refine ⟨v, ?_, h2⟩
        have hxx := (rd_scalar (he _ _ hx)).1
        simp only [execOp]
        refine run_v ?_
        rw [run_bind _ _ _ _ _ (eqGuard_run (by rw [hxx]; rfl) (by rw [hxx]; simp) w)]
        exact h1
      · cases h
    · rename_i as bs hx hy
      split at h
      · rename_i n q ht hs
        split at h
        · rename_i hl
          obtain ⟨r1, r2⟩ := tints_run (P := P) ht (he _ _ hx) (he _ _ hy) hs hl x y op
          have hax := rd_agg (he _ _ hx)
          have hay := rd_agg (he _ _ hy)
          obtain ⟨xs, hxs⟩ := hax
          obtain ⟨ys, hys⟩ := hay
          rw [hxs, hys] at r1 r2
          cases op <;> simp only [Option.some.injEq, Prod.mk.injEq, reduceCtorEq] at h
          · obtain ⟨rfl, rfl⟩ := h
            refine ⟨_, ?_, rd_bool _⟩
            simp only [execOp]
            refine run_v ?_
            rw [hxs, hys, run_bind _ _ _ _ _ r2]
            simp only [binOp]
            rw [run_bind _ _ _ _ _ r1]
            rfl
          · obtain ⟨rfl, rfl⟩ := h
            refine ⟨_, ?_, rd_bool _⟩
            simp only [execOp]
            refine run_v ?_
            rw [hxs, hys, run_bind _ _ _ _ _ r2]
            simp only [binOp]
            rw [run_bind _ _ _ _ _ r1]
            rfl
        · cases h
      · cases h
    · rename_i dx n' c' hx hy
      split at h
      · rename_i ht
        obtain ⟨e', he'⟩ := Option.isSome_iff_exists.1 ht
        have hu := und_slice he'
        have hyy := (rd_scalar (he _ _ hy)).1
        have key : ∀ vc' q, dnil dx = some (vc', q) → vc' → ∃ a n c, ρ x = .slice a n c ∧ a.isNone = q := fun vc' q hd hv => by
          have hxx := he _ _ hx
          unfold dnil at hd
          split at hd
          · rename_i sz xs
            simp only [Option.some.injEq, Prod.mk.injEq] at hd
            obtain ⟨rfl, rfl⟩ := hd
            obtain ⟨a, cap, h1, _, h2⟩ := rd_isl hxx
            rcases h2 with h2 | ⟨b, off, y', rfl, _⟩
            · exact absurd h2 hv
            · exact ⟨_, _, _, h1, rfl⟩
          · rename_i k sz off len
            simp only [Option.some.injEq, Prod.mk.injEq] at hd
            obtain ⟨rfl, rfl⟩ := hd
            exact rd_mslnil hxx hv
          · rename_i a n c
            simp only [Option.some.injEq, Prod.mk.injEq] at hd
            obtain ⟨rfl, rfl⟩ := hd
            exact ⟨a, n, c, (rd_scalar hxx).1, rfl⟩
          · cases hd
        have fin : ∀ vc' q, dnil dx = some (vc', q) → vc' → (Op.equal t (ρ x) (ρ y)).run P w = .ok q w ∧ (eqGuard op t x y (ρ x) (ρ y)).run P w = .ok () w ∧ ∃ a n c, ρ x = .slice a n c := fun vc' q hd hv => by
          obtain ⟨a, n, c, h1, h2⟩ := key vc' q hd hv
          rw [h1, hyy, ← h2]
          exact ⟨slicenil_run hu a n c _ _ w, eqGuard_run rfl (by simp) w, a, n, c, rfl⟩
        split at h
        · rename_i vc' q hd
          simp only [Option.some.injEq, Prod.mk.injEq] at h
          obtain ⟨rfl, rfl⟩ := h
          obtain ⟨r1, r2, a, n, c, hxs⟩ := fin _ _ hd hvc
          refine ⟨_, ?_, rd_bool _⟩
          simp only [execOp]
          refine run_v ?_
          rw [run_bind _ _ _ _ _ r2]
          rw [hxs, hyy] at r1 ⊢
          simp only [binOp]
          rw [run_bind _ _ _ _ _ r1]
          rfl
        · rename_i vc' q hd
          simp only [Option.some.injEq, Prod.mk.injEq] at h
          obtain ⟨rfl, rfl⟩ := h
          obtain ⟨r1, r2, a, n, c, hxs⟩ := fin _ _ hd hvc
          refine ⟨_, ?_, rd_bool _⟩
          simp only [execOp]
          refine run_v ?_
          rw [run_bind _ _ _ _ _ r2]
          rw [hxs, hyy] at r1 ⊢
          simp only [binOp]
          rw [run_bind _ _ _ _ _ r1]
          rfl
        · cases h
      · cases h
    · rename_i dx dy _ _ _ hx hy
      split at h
      · cases h
      · rename_i dx' dy' hnb
        obtain ⟨⟨u, hu⟩, ⟨u', hu'⟩⟩ := dbin_scalar h
        obtain ⟨v, h1, h2⟩ := dbin_sound (P := P) (he _ _ hx) (he _ _ hy) h hvc t (fun ⟨b, hb⟩ => (hnb b hb).elim)
        refine ⟨v, ?_, h2⟩
        have hxx := rd_scalar (hu ▸ he _ _ hx)
        simp only [execOp]
        refine run_v ?_
        have hne : u ≠ .nilIface := by
          intro hc
          subst hc
          subst hu
          simp [dbin] at h
        rw [run_bind _ _ _ _ _ (eqGuard_run (by rw [hxx.1]; exact hxx.2) (by rw [hxx.1]; exact hne) w)]
        exact h1
    · cases h
  | unOp op t x =>
    simp only [pop] at h
    split at h
    · rename_i dx hx
      have hxx := he _ _ hx
      unfold dun at h
      split at h
      · rename_i b
        simp only [Option.some.injEq, Prod.mk.injEq] at h
        obtain ⟨rfl, rfl⟩ := h
        refine ⟨_, ?_, rd_bool _⟩
        simp only [execOp, (rd_scalar hxx).1]
        rfl
      · rename_i k n
        simp only [Option.some.injEq, Prod.mk.injEq] at h
        obtain ⟨rfl, rfl⟩ := h
        refine ⟨_, ?_, rd_int _ _⟩
        simp only [execOp, (rd_scalar hxx).1, Op.unary, Op.intArith, wrap_of_InK hvc]
        rfl
      · cases h
    · cases h
  | convert src dst x =>
    simp only [pop] at h
    split at h
    · rename_i k n ks kd hx hs hd
      simp only [Option.some.injEq, Prod.mk.injEq] at h
      obtain ⟨rfl, rfl⟩ := h
      refine ⟨_, ?_, rd_int _ _⟩
      simp only [execOp, (rd_scalar (he _ _ hx)).1, convert]
      refine run_v ?_
      rw [run_bind _ _ _ _ _ (run_underlying hs w), run_bind _ _ _ _ _ (run_underlying hd w)]
      simp only [Conv.intToInt, wrap_of_InK hvc]
      rfl
    · cases h
  | fieldAddr st x f =>
    simp only [pop] at h
    split at h
    · rename_i k off o ft hx hf
      simp only [Option.some.injEq, Prod.mk.injEq] at h
      obtain ⟨rfl, rfl⟩ := h
      obtain ⟨b, hs, hxx⟩ := rd_ptr (he _ _ hx)
      refine ⟨_, ?_, .c _ _ (.ptr _ k b (off + o) hs)⟩
      simp only [execOp, hxx]
      exact run_v (fieldPlace_run hf b off w)
    · rename_i cs o ft hx hf
      simp only [Option.some.injEq, Prod.mk.injEq] at h
      obtain ⟨rfl, rfl⟩ := h
      obtain ⟨b, off, y, hxx, hI, hc, hr⟩ := rd_eptr (he _ _ hx)
      refine ⟨.pointer (some ⟨b, off + o, none⟩), ?_, .c _ _ (.eptr _ b (off + o) (cs.drop o) (fun j => y (o + j)) hI (fun j hj => ?_) (fun j hj => ?_))⟩
      · simp only [execOp, hxx]
        exact run_v (fieldPlace_run hf b off w)
      · rw [Nat.add_assoc]
        simp only [List.length_drop] at hj
        exact hc (o + j) (by omega)
      · simp only [List.length_drop] at hj
        simpa using hr (o + j) (by omega)
    · cases h
  | field st x f =>
    simp only [pop] at h
    split at h
    · rename_i cs o ft hx hf
      split at h
      · rename_i g n hg hn
        obtain ⟨fs, fx, hu, hfx, rfl, rfl⟩ := tfield_parts hf
        have hxx := he _ _ hx
        cases hxx' : ρ x with
        | agg vs =>
          rw [hxx'] at hxx
          cases hxx with
          | agg _ _ hl hr =>
            obtain ⟨v, h1, h2⟩ := part_sound (P := P) hg hn h hvc hl hr
            refine ⟨v, ?_, h2⟩
            simp only [execOp, hxx', Instr.field]
            refine run_v ?_
            rw [run_bind _ _ _ _ _ (run_underlying hu w)]
            simp only [hfx]
            rw [run_bind (x := vs) (w' := w) _ _ _ (by rfl)]
            exact h1
        | _ => rw [hxx'] at hxx; cases hxx
      · cases h
    · cases h
  | indexAddr t x ix =>
    simp only [pop] at h
    split at h
    · rename_i sz xs k i n hx hi ht
      obtain ⟨el, htl, hn⟩ := Option.bind_eq_some_iff.1 ht
      split at h
      · rename_i cs hcs
        simp only [Option.some.injEq, Prod.mk.injEq] at h
        obtain ⟨rfl, rfl⟩ := h
        obtain ⟨h0, rfl⟩ := hvc
        obtain ⟨hlt, hcs'⟩ := List.getElem?_eq_some_iff.1 hcs
        obtain ⟨a, cap, hxx, hcap, hcase⟩ := rd_isl (he _ _ hx)
        rcases hcase with hnil | ⟨b, off, y, rfl, hI, hl, hc, hr⟩
        · subst hnil; simp at hlt
        · have hlen := hl _ hlt
          refine ⟨.pointer (some ⟨b, off + i.toNat * sz, none⟩), ?_, .c _ _ (.eptr _ b _ cs (fun j => y i.toNat j) hI (fun j hj => ?_) (fun j hj => ?_))⟩
          · simp only [execOp, hxx, (rd_scalar (he _ _ hi)).1, Instr.indexAt]
            refine run_v ?_
            rw [run_bind (x := (k, i)) (w' := w) _ _ _ (by rfl), run_bind _ _ _ _ _ (run_underlying (und_slice htl) w)]
            simp only
            rw [run_bind (x := (some (⟨b, off, none⟩ : Addr), xs.length, el)) (w' := w) _ _ _ (by rfl)]
            simp only
            rw [run_bind _ _ _ _ _ (run_underlying (und_slice htl) w)]
            have hb : 0 ≤ i ∧ i < (xs.length : Int) := ⟨h0, by omega⟩
            simp only [hb, and_self, if_true]
            rw [run_bind _ _ _ _ _ (run_sizeOf hn w)]
            simp only [add_plain]
            rfl
          · rw [← hcs'] at hj
            exact hc _ _ hlt (by omega)
          · have := hr _ hlt j (by rw [hcs']; exact hj)
            simpa [hcs'] using this
      · cases h
    · rename_i k sz off len kk i n hx hi ht
      obtain ⟨el, htl, hn⟩ := Option.bind_eq_some_iff.1 ht
      simp only [Option.some.injEq, Prod.mk.injEq] at h
      obtain ⟨rfl, rfl⟩ := h
      obtain ⟨⟨h0, hlt⟩, rfl⟩ := hvc
      rcases rd_msl (he _ _ hx) with ⟨a, _, _, _, h3⟩ | ⟨b, cap, arr, T, fr, hxx, hs, hlc, hb, hcp⟩
      · subst h3; exfalso; simp at hlt; omega
      · refine ⟨.pointer (some ⟨b, off + i.toNat * sz, none⟩), ?_, .c _ _ (.ptr _ k b _ hs)⟩
        simp only [execOp, hxx, (rd_scalar (he _ _ hi)).1, Instr.indexAt]
        refine run_v ?_
        rw [run_bind (x := (kk, i)) (w' := w) _ _ _ (by rfl), run_bind _ _ _ _ _ (run_underlying (und_slice htl) w)]
        simp only
        rw [run_bind (x := (some (⟨b, off, none⟩ : Addr), len, el)) (w' := w) _ _ _ (by rfl)]
        simp only
        rw [run_bind _ _ _ _ _ (run_underlying (und_slice htl) w)]
        have hb : 0 ≤ i ∧ i < (len : Int) := ⟨h0, hlt⟩
        simp only [hb, and_self, if_true]
        rw [run_bind _ _ _ _ _ (run_sizeOf hn w)]
        simp only [add_plain]
        rfl
    · cases h
  | index t x ix =>
    simp only [pop] at h
    split at h
    · rename_i b k i hx hi
      split at h
      · rename_i ht
        simp only [Option.some.injEq, Prod.mk.injEq] at h
        obtain ⟨rfl, rfl⟩ := h
        obtain ⟨h0, hlt⟩ := hvc
        unfold tstring at ht
        split at ht
        · rename_i hu
          have hlt' : i.toNat < b.size := by omega
          refine ⟨_, ?_, rd_int _ _⟩
          simp only [execOp, (rd_scalar (he _ _ hx)).1, (rd_scalar (he _ _ hi)).1, Instr.index]
          refine run_v ?_
          rw [run_bind (x := (k, i)) (w' := w) _ _ _ (by rfl), run_bind _ _ _ _ _ (run_underlying hu w)]
          simp only [h0, if_true]
          have hget : b[i.toNat]? = some (b.data.toList.getD i.toNat 0) := by
            rw [getElem?_pos b i.toNat hlt']
            congr 1
            have hls : i.toNat < b.data.toList.length := by simpa using hlt'
            rw [List.getD_eq_getElem?_getD, List.getElem?_eq_getElem hls]
            rfl
          simp only [hget]
          rfl
        · cases ht
      · cases h
    · cases h
  | extract x i =>
    simp only [pop] at h
    split at h
    · rename_i ds hx
      split at h
      · rename_i d' hd'
        simp only [Option.some.injEq, Prod.mk.injEq] at h
        obtain ⟨rfl, rfl⟩ := h
        have hxx := he _ _ hx
        cases hxx' : ρ x with
        | tuple vs =>
          rw [hxx'] at hxx
          cases hxx with
          | tup _ _ hl hr =>
            obtain ⟨hlt, hd2⟩ := List.getElem?_eq_some_iff.1 hd'
            have hv : vs[i]? = some (vs[i]'(by omega)) := by simp
            refine ⟨_, ?_, hd2 ▸ hr i (by omega) hlt⟩
            simp only [execOp, hxx', Instr.extract, hv]
            rfl
        | _ => rw [hxx'] at hxx; cases hxx
      · cases h
    · cases h
  | call c =>
    obtain ⟨callee, args, argTypes⟩ := c
    simp only [pop] at h
    split at h
    · split at h
      · rename_i x t hargs hats
        split at h
        · rename_i d' hd'
          split at h
          · rename_i n hn
            simp only [Option.some.injEq, Prod.mk.injEq] at h
            obtain ⟨rfl, rfl⟩ := h
            have e1 : args = #[x] := by apply Array.ext'; simpa using hargs
            have e2 : argTypes = #[t] := by apply Array.ext'; simpa using hats
            subst e1; subst e2
            refine ⟨_, ?_, rd_int _ _⟩
            simp only [execOp, resolve]
            rw [run_bind (x := ({ target := .builtin .len #[t] type (#[x].map fun | .const _ => true | _ => false), args := #[x].map ρ } : Deferred)) (w' := w) _ _ _ (by rfl)]
            simp only [invoke, builtin]
            refine run_v ?_
            simp only [Builtin.len_]
            rcases islen_sound (he _ _ hd') hn with ⟨a, cap, el, hx, hu⟩ | ⟨b, hx, hb, hu⟩
            · simp [hx, run_bind _ _ _ _ _ (run_underlying hu w), goInt]
            · simp [hx, run_bind _ _ _ _ _ (run_underlying hu w), goInt, hb]
          · cases h
        · cases h
      · cases h
    · split at h
      · rename_i x y hargs
        split at h
        · rename_i k a k' b hx hy
          simp only [Option.some.injEq, Prod.mk.injEq] at h
          obtain ⟨rfl, rfl⟩ := h
          have e1 : args = #[x, y] := by apply Array.ext'; simpa using hargs
          subst e1
          refine ⟨_, ?_, rd_int _ _⟩
          simp only [execOp, resolve]
          rw [run_bind (x := ({ target := .builtin .max argTypes type (#[x, y].map fun | .const _ => true | _ => false), args := #[x, y].map ρ } : Deferred)) (w' := w) _ _ _ (by rfl)]
          simp only [invoke, builtin]
          refine run_v ?_
          simp only [Builtin.max_]
          have f1 := (rd_scalar (he _ _ hx)).1
          have f2 := (rd_scalar (he _ _ hy)).1
          simp [f1, f2, Builtin.max2]
        · cases h
      · cases h
    · cases h
  | slice t x lo hi mx =>
    cases mx with
    | none =>
      simp only [pop] at h
      split at h
      · rename_i b hx
        split at h
        · rename_i l hh hl hhi
          split at h
          · rename_i ht
            simp only [Option.some.injEq, Prod.mk.injEq] at h
            obtain ⟨rfl, rfl⟩ := h
            refine ⟨_, ?_, rd_str _⟩
            have hb := sliceBounds_run (P := P) (isSlice := false) (len := b.size) (cap := b.size) (lo := lo.map ρ) (hi := hi.map ρ) (l := l) (h := hh)
              ((bnd_sound he hl).imp (fun ⟨a, c⟩ => ⟨by simp [a], c⟩) fun ⟨y, k, a, c⟩ => ⟨k, by simp [a, c]⟩) ((bnd_sound he hhi).imp (fun ⟨a, c⟩ => ⟨by simp [a], c⟩) fun ⟨y, k, a, c⟩ => ⟨k, by simp [a, c]⟩)
              hvc.1.1 hvc.1.2 hvc.2 (Nat.le_refl _) w
            simp only [execOp, (rd_scalar (he _ _ hx)).1, Instr.sliceAt]
            refine run_v ?_
            rw [run_bind _ _ _ _ _ (run_underlying (und_string ht) w)]
            simp only [Instr.slice]
            rw [run_bind _ _ _ _ _ (run_underlying (und_string ht) w)]
            simp only [Option.map_none, Option.isSome_none, Bool.false_eq_true, if_false]
            rw [run_bind _ _ _ _ _ hb]
            rfl
          · cases h
        · cases h
      · rename_i sz xs hx
        split at h
        · rename_i l hh n hl hhi ht
          simp only [Option.some.injEq, Prod.mk.injEq] at h
          obtain ⟨rfl, rfl⟩ := h
          obtain ⟨⟨⟨h0, hlh⟩, hle⟩, rfl⟩ := hvc
          obtain ⟨el, htl, hn⟩ := Option.bind_eq_some_iff.1 ht
          obtain ⟨a, cap, hxx, hcap, hcase⟩ := rd_isl (he _ _ hx)
          have hb := sliceBounds_run (P := P) (isSlice := true) (len := xs.length) (cap := cap) (lo := lo.map ρ) (hi := hi.map ρ) (l := l) (h := hh)
            ((bnd_sound he hl).imp (fun ⟨a, c⟩ => ⟨by simp [a], c⟩) fun ⟨y, k, a, c⟩ => ⟨k, by simp [a, c]⟩) ((bnd_sound he hhi).imp (fun ⟨a, c⟩ => ⟨by simp [a], c⟩) fun ⟨y, k, a, c⟩ => ⟨k, by simp [a, c]⟩)
            h0 hlh (by omega) hcap.1 w
          have hrun : (execOp ρ { dst := dst, op := .slice t x lo hi none, type := type, pos := pos, after := after, guard := guard }).run P w =
              .ok (.value (.slice (if cap = l.toNat then a else a.map (·.add (l.toNat * sz))) (hh.toNat - l.toNat) (cap - l.toNat))) w := by
            simp only [execOp, hxx, Instr.sliceAt]
            refine run_v ?_
            rw [run_bind _ _ _ _ _ (run_underlying (und_slice htl) w)]
            simp only [Instr.slice]
            rw [run_bind _ _ _ _ _ (run_underlying (und_slice htl) w)]
            simp only [Option.map_none]
            rw [run_bind _ _ _ _ _ hb]
            simp only
            rw [run_bind _ _ _ _ _ (run_sizeOf hn w)]
            rfl
          refine ⟨_, hrun, ?_⟩
          have hlen : ((xs.drop l.toNat).take (hh.toNat - l.toNat)).length = hh.toNat - l.toNat := by simp; omega
          rcases Nat.eq_zero_or_pos (hh.toNat - l.toNat) with he0 | hpos
          · rw [he0]
            simp only [List.take_zero]
            exact .c _ _ (.isl0 _ _ _ _)
          · rcases hcase with hnil | ⟨b, off, y, rfl, hI, hll, hc, hr⟩
            · subst hnil; simp at hle; omega
            · have hne : ¬ (cap = l.toNat) := by omega
              simp only [hne, if_false, Option.map_some, add_plain]
              have := RC.isl (I := I) (w := w) s b (off + l.toNat * sz) (cap - l.toNat) sz ((xs.drop l.toNat).take (hh.toNat - l.toNat)) (fun i j => y (l.toNat + i) j) hI
                (fun i h => by
                  simp at h
                  have := hll (l.toNat + i) (by omega)
                  simpa using this)
                (fun i j hi hj => by
                  rw [hlen] at hi
                  have := hc (l.toNat + i) j (by omega) hj
                  rw [← this]
                  congr 2
                  rw [Nat.add_mul]; omega)
                (fun i h j h' => by
                  simp at h
                  have := hr (l.toNat + i) (by omega) j (by simpa using h')
                  simpa using this)
                (by rw [hlen]; constructor <;> omega)
              rw [hlen] at this
              exact .c _ _ this
        · cases h
      · rename_i k sz off len hx
        split at h
        · rename_i l hh n hl hhi ht
          simp only [Option.some.injEq, Prod.mk.injEq] at h
          obtain ⟨rfl, rfl⟩ := h
          obtain ⟨⟨⟨h0, hlh⟩, hle⟩, hor, rfl⟩ := hvc
          obtain ⟨el, htl, hn⟩ := Option.bind_eq_some_iff.1 ht
          have hsh : ∃ a cap, ρ x = .slice a len cap ∧ len ≤ cap ∧ len ≤ mx := by
            rcases rd_msl (he _ _ hx) with ⟨a, h1, _, _, h3⟩ | ⟨b, cap, arr, T, fr, h1, _, h3, _⟩
            · exact ⟨a, 0, by rw [h1, h3], by omega, by omega⟩
            · exact ⟨_, cap, h1, h3⟩
          obtain ⟨a, cap, hxx, hcap⟩ := hsh
          have hb := sliceBounds_run (P := P) (isSlice := true) (len := len) (cap := cap) (lo := lo.map ρ) (hi := hi.map ρ) (l := l) (h := hh)
            ((bnd_sound he hl).imp (fun ⟨a, c⟩ => ⟨by simp [a], c⟩) fun ⟨y, k, a, c⟩ => ⟨k, by simp [a, c]⟩) ((bnd_sound he hhi).imp (fun ⟨a, c⟩ => ⟨by simp [a], c⟩) fun ⟨y, k, a, c⟩ => ⟨k, by simp [a, c]⟩)
            h0 hlh (by omega) hcap.1 w
          have hrun : (execOp ρ { dst := dst, op := .slice t x lo hi none, type := type, pos := pos, after := after, guard := guard }).run P w =
              .ok (.value (.slice (if cap = l.toNat then a else a.map (·.add (l.toNat * sz))) (hh.toNat - l.toNat) (cap - l.toNat))) w := by
            simp only [execOp, hxx, Instr.sliceAt]
            refine run_v ?_
            rw [run_bind _ _ _ _ _ (run_underlying (und_slice htl) w)]
            simp only [Instr.slice]
            rw [run_bind _ _ _ _ _ (run_underlying (und_slice htl) w)]
            simp only [Option.map_none]
            rw [run_bind _ _ _ _ _ hb]
            simp only
            rw [run_bind _ _ _ _ _ (run_sizeOf hn w)]
            rfl
          refine ⟨_, hrun, ?_⟩
          rcases rd_msl (he _ _ hx) with ⟨a', h1, hs, rfl, rfl⟩ | ⟨b, cap', arr, T, fr, h1, hs, h3, hb', hcp⟩
          · rw [hxx] at h1
            simp only [Value.slice.injEq] at h1
            obtain ⟨rfl, _, rfl⟩ := h1
            have : l = 0 := by omega
            subst this
            have : hh = 0 := by omega
            subst this
            simp only [Int.toNat_zero, Nat.zero_mul, Nat.add_zero, Nat.sub_self, if_true]
            exact .c _ _ (.msl0 _ _ _ _ hs)
          · rw [hxx] at h1
            simp only [Value.slice.injEq] at h1
            obtain ⟨rfl, _, rfl⟩ := h1
            have hadd : (if cap = l.toNat then some (⟨b, off, none⟩ : Addr) else (some (⟨b, off, none⟩ : Addr)).map (·.add (l.toNat * sz))) = some ⟨b, off + l.toNat * sz, none⟩ := by
              simp only [Option.map_some, add_plain]
              rcases hor with rfl | hlt
              · simp
              · rw [if_neg (by omega)]
            rw [hadd]
            have hmul : off + l.toNat * sz + (cap - l.toNat) * sz = off + cap * sz := by
              rw [Nat.add_assoc, ← Nat.add_mul]
              congr 2
              omega
            exact .c _ _ (.msl _ k b sz _ _ (cap - l.toNat) arr T fr hs (by omega) hb' (by omega))
        · cases h
      · cases h
    | some mx =>
      cases lo with
      | some lo => simp [pop] at h
      | none =>
        cases hi with
        | none => simp [pop] at h
        | some hi =>
          simp only [pop] at h
          split at h
          · rename_i c k k' hx hhi hmx
            have hsh : ∃ a len cap, ρ x = .slice a len cap ∧ d = .c .z ∧ ((tslice P t).bind (tsz P)).isSome := by
              split at h <;> first
                | (split at h
                   · rename_i ht
                     simp only [Option.some.injEq, Prod.mk.injEq] at h
                     obtain ⟨rfl, rfl⟩ := h
                     first
                       | (obtain ⟨a, cap, h1, _⟩ := rd_isl (he _ _ hx); exact ⟨_, _, _, h1, rfl, ht⟩)
                       | (rcases rd_msl (he _ _ hx) with ⟨a, h1, _⟩ | ⟨b, cap, _, _, _, h1, _⟩ <;> exact ⟨_, _, _, h1, rfl, ht⟩)
                       | (obtain ⟨a, h1⟩ := rd_z (he _ _ hx); exact ⟨_, _, _, h1, rfl, ht⟩)
                       | exact ⟨_, _, _, (rd_scalar (he _ _ hx)).1, rfl, ht⟩
                   · cases h)
                | cases h
            obtain ⟨a, len, cap, hxx, rfl, ht⟩ := hsh
            obtain ⟨n, hn0⟩ := Option.isSome_iff_exists.1 ht
            obtain ⟨el, hel, hn⟩ := Option.bind_eq_some_iff.1 hn0
            have hi0 := (rd_scalar (he _ _ hhi)).1
            have hm0 := (rd_scalar (he _ _ hmx)).1
            refine ⟨.slice a 0 0, ?_, .c _ _ (.z _ a)⟩
            simp only [execOp, hxx, Instr.sliceAt, Option.map_none, Option.map_some, hi0, hm0]
            refine run_v ?_
            rw [run_bind _ _ _ _ _ (run_underlying (und_slice hel) w)]
            simp only [Instr.slice]
            rw [run_bind _ _ _ _ _ (run_underlying (und_slice hel) w)]
            simp only
            rw [run_bind (x := ((0, 0, 0) : Nat × Nat × Nat)) (w' := w)]
            · simp only
              rw [run_bind _ _ _ _ _ (run_sizeOf hn w)]
              rfl
            · simp only [Instr.sliceBounds]
              rw [run_bind _ _ _ _ _ (sliceBound_run (Int.le_refl 0) (by omega) w)]
              rw [run_bind _ _ _ _ _ (sliceBound_run (Int.le_refl 0) (by omega) w)]
              rw [run_bind (x := 0) (w' := w) _ _ _ (by rfl)]
              rfl
          · cases h
  | makeFunc fn first caps =>
    cases fn with
    | func f =>
      simp only [pop] at h
      split at h
      · rename_i h0
        split at h
        · rename_i cs hcs
          simp only [Option.some.injEq, Prod.mk.injEq] at h
          obtain ⟨rfl, rfl⟩ := h
          have hr := cellsOf_sound (I := I) (w := w) (s := s) he caps.toList cs hcs
          have e1 : (caps.toList.map ρ).toArray = caps.map ρ := by apply Array.ext'; simp
          rw [e1] at hr
          have e2 : first.map ρ = #[] := by
            have : first = #[] := by apply Array.ext'; simpa using h0
            rw [this]; simp
          refine ⟨_, ?_, .c _ _ (.clo _ f cs _ hr.1 hr.2)⟩
          simp only [execOp, Instr.makeFunc, e2]
          rfl
        · cases h
      · rename_i x h0
        split at h
        · rename_i cs hx hc0
          split at h
          · rename_i hkf
            simp only [Option.some.injEq, Prod.mk.injEq] at h
            obtain ⟨rfl, rfl⟩ := h
            have e1 : caps.map ρ = #[] := by
              have : caps = #[] := by apply Array.ext'; simpa using hc0
              rw [this]; simp
            have e2 : first.map ρ = #[ρ x] := by
              have : first = #[x] := by apply Array.ext'; simpa using h0
              rw [this]; simp
            have hrd := he _ _ hx
            cases hxx : ρ x with
            | agg vs =>
              rw [hxx] at hrd
              cases hrd with
              | agg _ _ hl hr =>
                refine ⟨_, ?_, .c _ _ (.met _ f cs vs hl fun j h1 h2 => (hr j h1 h2).kf0 (kfs_get hkf j h2))⟩
                simp only [execOp, Instr.makeFunc, e1, e2, hxx]
                rfl
            | _ => rw [hxx] at hrd; cases hrd
          · cases h
        · cases h
      · cases h
    | _ => simp [pop] at h
  | build t ps =>
    simp only [pop] at h
    split at h
    · rename_i zs hz
      split at h
      · rename_i cs hb
        simp only [Option.some.injEq, Prod.mk.injEq] at h
        obtain ⟨rfl, rfl⟩ := h
        obtain ⟨fs, hu, hsz, hz', h1⟩ := tstruct_parts hz
        obtain ⟨v, hr, hd⟩ := build_sound (P := P) he hz' hu hsz hb h1
        exact ⟨v, run_v hr, hd⟩
      · cases h
    · cases h
  | _ => simp [pop] at h

end
end Go.CT
