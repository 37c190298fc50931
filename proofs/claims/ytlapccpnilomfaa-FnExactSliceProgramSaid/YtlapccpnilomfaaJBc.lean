/- Contracts of functions of the program, one behind the other, as plain data: what each call returns and which blocks it leaves. -/
import Derived.Test.YtlapccpnilomfaaJBb
set_option linter.unusedVariables false
set_option linter.unusedSimpArgs false
set_option linter.unusedSectionVars false
set_option maxHeartbeats 16000000
set_option maxRecDepth 100000
namespace Go.Proofs.Ytlapccpnilomfaa.CtT
open Go Go.CT Go.RowKit

/-- Rows of scalars and rows, none too long. -/
inductive NB : Nat → List (List C) → Prop
  | mk (sz : Nat) (xs : List (List C)) (h : xs.length ≤ 1048576) (hsz : ∀ x ∈ xs, x.length = sz) (hv : ∀ c ∈ xs.flatten, (∃ x, c = .v x ∧ one x = true) ∨ ∃ n l, c = .isl n l) (hn : ∀ n l, C.isl n l ∈ xs.flatten → NB n l) : NB sz xs
theorem NB.len {sz : Nat} {xs : List (List C)} (h : NB sz xs) : xs.length ≤ 1048576 := by cases h; assumption
theorem NB.row {sz : Nat} {xs : List (List C)} (h : NB sz xs) : ∀ x ∈ xs, x.length = sz := by cases h; assumption
theorem nb_ints {l : List Int} (h : l.length ≤ 1048576) : NB 1 (l.map fun n => [I64 n]) := by
  have hc : ∀ c ∈ (l.map fun n => [I64 n]).flatten, ∃ n, c = I64 n := fun c hc => by
    obtain ⟨x, hx, hc⟩ := List.mem_flatten.1 hc
    obtain ⟨n, _, rfl⟩ := List.mem_map.1 hx
    exact ⟨n, by simpa using hc⟩
  refine .mk _ _ (by simpa using h) (fun x hx => by obtain ⟨n, _, rfl⟩ := List.mem_map.1 hx; rfl) (fun c h => ?_) (fun n l h => ?_)
  · obtain ⟨n, rfl⟩ := hc c h; exact .inl ⟨_, rfl, rfl⟩
  · obtain ⟨n, e⟩ := hc _ h; cases e
theorem nb_bools {l : List Bool} (h : l.length ≤ 1048576) : NB 1 (l.map fun b => [C.v (.bool b)]) := by
  have hc : ∀ c ∈ (l.map fun b => [C.v (.bool b)]).flatten, ∃ b, c = C.v (.bool b) := fun c hc => by
    obtain ⟨x, hx, hc⟩ := List.mem_flatten.1 hc
    obtain ⟨n, _, rfl⟩ := List.mem_map.1 hx
    exact ⟨n, by simpa using hc⟩
  refine .mk _ _ (by simpa using h) (fun x hx => by obtain ⟨n, _, rfl⟩ := List.mem_map.1 hx; rfl) (fun c h => ?_) (fun n l h => ?_)
  · obtain ⟨n, rfl⟩ := hc c h; exact .inl ⟨_, rfl, rfl⟩
  · obtain ⟨n, e⟩ := hc _ h; cases e
theorem div_at {sz j n : Nat} (h : j < n * sz) : 0 < sz ∧ j / sz < n ∧ j % sz < sz ∧ j / sz * sz + j % sz = j := by
  have h0 : 0 < sz := by
    rcases Nat.eq_zero_or_pos sz with e | e
    · subst e; simp at h
    · exact e
  refine ⟨h0, (Nat.div_lt_iff_lt_mul h0).2 h, Nat.mod_lt _ h0, ?_⟩
  rw [Nat.mul_comm]; exact Nat.div_add_mod j sz
theorem rc_v [Yn] {I : Nat → Prop} {w : World} {s : Sg} {u x : Value} (h : RC I w s u (.v x)) : u = x := by cases h; rfl
/-- From the machine's readings to plain ones. -/
theorem NB.pl [Yn] {I : Nat → Prop} {w : World} {sz : Nat} {xs : List (List C)} (hb : NB sz xs) (hI : ∀ b, I b → b < w.heap.size) : ∀ {s : Sg} {v : Value}, RC I w s v (.isl sz xs) → PL w v sz xs := by
  induction hb with
  | mk sz xs h hsz hv hn ih =>
    intro s v hr
    cases hr with
    | isl0 _ a cap _ => exact .nil a cap sz
    | isl _ b off cap _ _ y hIb hl hc hrr hcap =>
      refine .row b off cap sz xs (fun j => y (j / sz) (j % sz)) (hI b hIb) (fun j hj => ?_) hsz (fun j z hz => ?_) (fun j n l hz => ?_) ⟨hcap.1, h⟩
      · obtain ⟨_, h1, h2, h3⟩ := div_at hj
        have := hc _ _ h1 h2
        rw [Nat.add_assoc, h3] at this
        exact this
      · have hj : j < xs.length * sz := by rw [← flat_len hsz]; exact (List.getElem?_eq_some_iff.1 hz).1
        obtain ⟨_, h1, h2, h3⟩ := div_at hj
        have hx : j % sz < (xs[j / sz]).length := by rw [hsz _ (List.getElem_mem h1)]; exact h2
        have e := flat_div hsz h1 hx
        rw [h3, hz] at e
        have hr' := hrr _ h1 _ hx
        rw [← Option.some.inj e] at hr'
        exact rc_v hr'
      · have hj : j < xs.length * sz := by rw [← flat_len hsz]; exact (List.getElem?_eq_some_iff.1 hz).1
        obtain ⟨_, h1, h2, h3⟩ := div_at hj
        have hx : j % sz < (xs[j / sz]).length := by rw [hsz _ (List.getElem_mem h1)]; exact h2
        have e := flat_div hsz h1 hx
        rw [h3, hz] at e
        have hr' := hrr _ h1 _ hx
        rw [← Option.some.inj e] at hr'
        exact ih n l (List.mem_of_getElem? hz) hr'
/-- And back. -/
theorem NB.rc [Yn] {w : World} {sz : Nat} {xs : List (List C)} (hb : NB sz xs) : ∀ {v : Value}, PL w v sz xs → ∀ s, RC (fun b => b < w.heap.size) w s v (.isl sz xs) := by
  induction hb with
  | mk sz xs h hsz hv hn ih =>
    intro v hp s
    cases hp with
    | nil a cap _ => exact .isl0 s a cap sz
    | row b off cap _ _ y hbs hy _ hi hr hl =>
      refine .isl s b off cap sz xs (fun i j => y (i * sz + j)) hbs (fun i h => hsz _ (List.getElem_mem h)) (fun i j h1 h2 => ?_) (fun i h1 j h2 => ?_) ⟨hl.1, Nat.le_trans hl.2 (by decide)⟩
      · have : (i + 1) * sz ≤ xs.length * sz := Nat.mul_le_mul_right _ h1
        rw [Nat.succ_mul] at this
        rw [Nat.add_assoc]
        exact hy _ (by omega)
      · have e := flat_div hsz h1 h2
        rcases hv _ (List.mem_of_getElem? e) with ⟨x, hx, ho⟩ | ⟨n, l, hx⟩
        · rw [hx] at e ⊢
          rw [hi _ _ e]
          exact .v _ _ ho
        · rw [hx] at e ⊢
          exact ih n l (List.mem_of_getElem? e) (hr _ n l e) _
/-- A program, read. -/
structure NBp (p : Pg) : Prop where
  nv : p.vars.length ≤ 1048576
  na : p.arrays.length ≤ 1048576
  nb : NB 11 (St1.cellsL p.body)
def PP (w : World) (v : Value) (p : Pg) : Prop := ∃ a0 n0 c0 a1 n1 c1 a2 n2 c2, v = .agg #[.slice a0 n0 c0, .slice a1 n1 c1, .slice a2 n2 c2] ∧ PL w (.slice a0 n0 c0) 1 (p.vars.map fun n => [I64 n]) ∧ PL w (.slice a1 n1 c1) 1 (p.arrays.map fun n => [I64 n]) ∧ PL w (.slice a2 n2 c2) 11 (St1.cellsL p.body)
theorem PP.mono {w w' : World} {v : Value} {p : Pg} (h : PP w v p) (hb : Below w.heap.size w w') : PP w' v p := by
  obtain ⟨a0, n0, c0, a1, n1, c1, a2, n2, c2, e, h0, h1, h2⟩ := h
  exact ⟨a0, n0, c0, a1, n1, c1, a2, n2, c2, e, h0.mono hb, h1.mono hb, h2.mono hb⟩
theorem PP.of [Yn] {I : Nat → Prop} {w : World} {s : Sg} {v : Value} {p : Pg} (hn : NBp p) (hI : ∀ b, I b → b < w.heap.size) (h : RD I w s v (.agg p.cells)) : PP w v p := by
  obtain ⟨vs, ar, bd⟩ := p
  cases h with
  | agg xs _ hl hr =>
    simp only [Pg.cells, isI] at hl hr
    have hs : xs.size = 3 := hl
    have r0 := (nb_ints hn.nv).pl hI (hr 0 (by omega) (by simp))
    have r1 := (nb_ints hn.na).pl hI (hr 1 (by omega) (by simp))
    have r2 := hn.nb.pl hI (hr 2 (by omega) (by simp))
    obtain ⟨a0, n0, c0, e0⟩ := r0.sl
    obtain ⟨a1, n1, c1, e1⟩ := r1.sl
    obtain ⟨a2, n2, c2, e2⟩ := r2.sl
    refine ⟨a0, n0, c0, a1, n1, c1, a2, n2, c2, ?_, e0 ▸ r0, e1 ▸ r1, e2 ▸ r2⟩
    congr 1
    rw [← e0, ← e1, ← e2]
    apply Array.ext
    · simp [hs]
    · intro i h1 h2
      match i, h1 with
      | 0, _ => rfl
      | 1, _ => rfl
      | 2, _ => rfl
theorem rd3 [Yn] {I : Nat → Prop} {w : World} {s : Sg} {a b c : Value} {x y zz : C} (h0 : RC I w s a x) (h1 : RC I w s b y) (h2 : RC I w s c zz) : RD I w s (.agg #[a, b, c]) (.agg [x, y, zz]) :=
  .agg _ _ rfl fun j h h' => by
    match j, h with
    | 0, _ => exact h0
    | 1, _ => exact h1
    | 2, _ => exact h2
theorem PP.rd [Yn] {w : World} {v : Value} {p : Pg} (hn : NBp p) (h : PP w v p) (s : Sg) : RD (fun b => b < w.heap.size) w s v (.agg p.cells) := by
  obtain ⟨a0, n0, c0, a1, n1, c1, a2, n2, c2, rfl, h0, h1, h2⟩ := h
  exact rd3 ((nb_ints hn.nv).rc h0 s) ((nb_ints hn.na).rc h1 s) (hn.nb.rc h2 s)
/-- A program whose rows are its own. -/
structure OP (w : World) (lo : Nat) (v : Value) (p : Pg) (B : List Nat) (A : List Addr) : Prop where
  ex : ∃ a0 n0 c0 a1 n1 c1 a2 n2 c2 B0 A0 B1 A1 B2 A2, v = .agg #[.slice a0 n0 c0, .slice a1 n1 c1, .slice a2 n2 c2] ∧ B = B0 ++ (B1 ++ B2) ∧ A = A0 ++ (A1 ++ A2) ∧ TR w (.slice a0 n0 c0) 1 (p.vars.map fun n => [I64 n]) B0 A0 ∧ TR w (.slice a1 n1 c1) 1 (p.arrays.map fun n => [I64 n]) B1 A1 ∧ TR w (.slice a2 n2 c2) 11 (St1.cellsL p.body) B2 A2
  nd : B.Nodup
  lo : ∀ b ∈ B, lo ≤ b ∧ b < w.heap.size
theorem OP.below {w w' : World} {lo : Nat} {v : Value} {p : Pg} {B : List Nat} {A : List Addr} (h : OP w lo v p B A) (hb : Below w.heap.size w w') : OP w' lo v p B A := by
  obtain ⟨⟨a0, n0, c0, a1, n1, c1, a2, n2, c2, B0, A0, B1, A1, B2, A2, e, rfl, rfl, h0, h1, h2⟩, hnd, hlo⟩ := h
  have hf : ∀ b ∈ B0 ++ (B1 ++ B2), w'.heap[b]? = w.heap[b]? := fun b hm => hb.block b (hlo b hm).2
  exact ⟨⟨a0, n0, c0, a1, n1, c1, a2, n2, c2, B0, A0, B1, A1, B2, A2, e, rfl, rfl, h0.frame fun b hm => hf b (by simp [hm]), h1.frame fun b hm => hf b (by simp [hm]), h2.frame fun b hm => hf b (by simp [hm])⟩, hnd, fun b hm => ⟨(hlo b hm).1, Nat.lt_of_lt_of_le (hlo b hm).2 hb.size⟩⟩
theorem OP.rd [Yn] {w : World} {lo : Nat} {v : Value} {p : Pg} {B : List Nat} {A : List Addr} (h : OP w lo v p B A) (s : Sg) : RD (fun b => b < w.heap.size) w s v (.agg p.cells) := by
  obtain ⟨⟨a0, n0, c0, a1, n1, c1, a2, n2, c2, B0, A0, B1, A1, B2, A2, rfl, rfl, rfl, h0, h1, h2⟩, hnd, hlo⟩ := h
  exact rd3 (h0.rc s fun b hm => (hlo b (by simp [hm])).2) (h1.rc s fun b hm => (hlo b (by simp [hm])).2) (h2.rc s fun b hm => (hlo b (by simp [hm])).2)
theorem OP.places {w : World} {lo : Nat} {v : Value} {p : Pg} {B : List Nat} {A : List Addr} (h : OP w lo v p B A) : A.Nodup ∧ (∀ a ∈ A, lo ≤ a.block ∧ a.block < w.heap.size) ∧ ∀ a ∈ A, IntAt w a := by
  obtain ⟨⟨a0, n0, c0, a1, n1, c1, a2, n2, c2, B0, A0, B1, A1, B2, A2, e, rfl, rfl, h0, h1, h2⟩, hnd, hlo⟩ := h
  obtain ⟨p0, q0⟩ := h0.places
  obtain ⟨p1, q1⟩ := h1.places
  obtain ⟨p2, q2⟩ := h2.places
  rw [List.nodup_append, List.nodup_append] at hnd
  obtain ⟨d0, ⟨d1, d2, d3⟩, d4⟩ := hnd
  refine ⟨?_, fun a ha => ?_, fun a ha => ?_⟩
  · rw [List.nodup_append, List.nodup_append]
    refine ⟨q0 d0, ⟨q1 d1, q2 d2, fun x hx y hy e => d3 _ (p1 x hx) _ (p2 y hy) (by rw [e])⟩, fun x hx y hy e => ?_⟩
    rcases List.mem_append.1 hy with hy | hy
    · exact d4 _ (p0 x hx) _ (List.mem_append_left _ (p1 y hy)) (by rw [e])
    · exact d4 _ (p0 x hx) _ (List.mem_append_right _ (p2 y hy)) (by rw [e])
  · rcases List.mem_append.1 ha with ha | ha
    · exact hlo _ (List.mem_append_left _ (p0 a ha))
    · rcases List.mem_append.1 ha with ha | ha
      · exact hlo _ (List.mem_append_right _ (List.mem_append_left _ (p1 a ha)))
      · exact hlo _ (List.mem_append_right _ (List.mem_append_right _ (p2 a ha)))
  · rcases List.mem_append.1 ha with ha | ha
    · exact h0.ints a ha
    · rcases List.mem_append.1 ha with ha | ha
      · exact h1.ints a ha
      · exact h2.ints a ha
end Go.Proofs.Ytlapccpnilomfaa.CtT
