/- A small assertion language for the walk: values of the model that read as plain data, blocks that a call owns, and how both survive a step. No program in sight. -/
import Derived.WalkKit
import Derived.Orders
set_option linter.unusedVariables false
set_option linter.unusedSimpArgs false
namespace Go.CT

/-- One cell, as plain data: a scalar; a slice whose elements (each a list of cells) never change; a view into an owned block; a pointer into an owned block; a pointer to cells that never change; a function with what it captured; a slice without room; anything. -/
inductive C where
  | v (x : Value)
  | isl (sz : Nat) (xs : List (List C))
  | msl (k sz off len : Nat)
  | ptr (k off : Nat)
  | eptr (cs : List C)
  | clo (f : FuncId) (caps : List C)
  | z
  | unk

/-- What a slot holds. -/
inductive D where
  | c (x : C)
  | agg (cs : List C)
  | tup (ds : List D)
  | when (b : Bool) (d : D)

/-- A value that fills one cell. -/
def one : Value → Bool
  | .agg _ | .tuple _ => false
  | _ => true

/-- No slice is longer. -/
abbrev mx : Nat := 281474976710656

/-- Which block a key names: none: no such key; some none: a slice without room; some (some b): block b. -/
abbrev Sg := Nat → Option (Option Nat)
def Sg0 : Sg := fun _ => none

def Sg.le (s t : Sg) : Prop := ∀ k x, s k = some x → t k = some x
theorem Sg.le_refl (s : Sg) : s.le s := fun _ _ h => h
theorem Sg.le_trans {s t u : Sg} (h : s.le t) (h' : t.le u) : s.le u := fun k x e => h' k x (h k x e)
theorem Sg0.le (s : Sg) : Sg0.le s := fun _ _ h => by cases h

/-- A value reads as a cell. -/
inductive RC (I : Nat → Prop) (w : World) : Sg → Value → C → Prop
  | v (s : Sg) (x : Value) (h1 : one x = true) : RC I w s x (.v x)
  | unk (s : Sg) (x : Value) (h1 : one x = true) : RC I w s x .unk
  | z (s : Sg) (a : Option Addr) : RC I w s (.slice a 0 0) .z
  | isl0 (s : Sg) (a : Option Addr) (cap sz : Nat) : RC I w s (.slice a 0 cap) (.isl sz [])
  | isl (s : Sg) (b off cap sz : Nat) (xs : List (List C)) (y : Nat → Nat → Value) (hI : I b)
      (hl : ∀ i (h : i < xs.length), (xs[i]).length = sz)
      (hc : ∀ i j, i < xs.length → j < sz → w.cell? ⟨b, off + i * sz + j, none⟩ = some (y i j))
      (hr : ∀ i (h : i < xs.length) j (h' : j < (xs[i]).length), RC I w Sg0 (y i j) (xs[i])[j])
      (hcap : xs.length ≤ cap ∧ xs.length ≤ mx) : RC I w s (.slice (some ⟨b, off, none⟩) xs.length cap) (.isl sz xs)
  | msl0 (s : Sg) (a : Option Addr) (k sz : Nat) (h : s k = some none) : RC I w s (.slice a 0 0) (.msl k sz 0 0)
  | msl (s : Sg) (k b sz off len cap : Nat) (arr : Array Value) (T : TypeId) (fr : Nat × Nat) (h : s k = some (some b)) (hlen : len ≤ cap ∧ len ≤ mx)
      (hb : w.heap[b]? = some (.cells arr T fr)) (hcap : off + cap * sz ≤ arr.size) : RC I w s (.slice (some ⟨b, off, none⟩) len cap) (.msl k sz off len)
  | ptr (s : Sg) (k b off : Nat) (h : s k = some (some b)) : RC I w s (.pointer (some ⟨b, off, none⟩)) (.ptr k off)
  | eptr (s : Sg) (b off : Nat) (cs : List C) (y : Nat → Value) (hI : I b) (hc : ∀ j, j < cs.length → w.cell? ⟨b, off + j, none⟩ = some (y j))
      (hr : ∀ j (h : j < cs.length), RC I w Sg0 (y j) cs[j]) : RC I w s (.pointer (some ⟨b, off, none⟩)) (.eptr cs)
  | clo (s : Sg) (f : FuncId) (caps : List C) (vs : Array Value) (hl : vs.size = caps.length)
      (hr : ∀ j (h : j < vs.size) (h' : j < caps.length), RC I w s vs[j] caps[j]) : RC I w s (.func (.func f) #[] vs) (.clo f caps)

theorem RC.one {I : Nat → Prop} {w : World} {s : Sg} {x : Value} {c : C} (h : RC I w s x c) : one x = true := by
  cases h <;> first | assumption | rfl

/-- No block has gone, none has turned its make. -/
def Shp (w w' : World) : Prop := ∀ (b : Nat) (arr : Array Value) (T : TypeId) (fr : Nat × Nat), w.heap[b]? = some (.cells arr T fr) → ∃ arr', w'.heap[b]? = some (.cells arr' T fr) ∧ arr'.size = arr.size
theorem Shp.refl (w : World) : Shp w w := fun b arr T fr h => ⟨arr, h, rfl⟩
theorem Shp.trans {w w' w'' : World} (h : Shp w w') (h' : Shp w' w'') : Shp w w'' := fun b arr T fr e => by
  obtain ⟨a1, e1, s1⟩ := h b arr T fr e
  obtain ⟨a2, e2, s2⟩ := h' b a1 T fr e1
  exact ⟨a2, e2, s2.trans s1⟩

/-- The blocks of I hold what they held. -/
def Keeps (I : Nat → Prop) (w w' : World) : Prop := ∀ b, I b → w'.heap[b]? = w.heap[b]?

theorem cell_of_heap {w w' : World} {b off : Nat} (h : w'.heap[b]? = w.heap[b]?) : w'.cell? ⟨b, off, none⟩ = w.cell? ⟨b, off, none⟩ := by
  simp only [World.cell?, h]

theorem RC.mono {I I' : Nat → Prop} {w w' : World} (hI : ∀ b, I b → I' b) (hw : Keeps I w w') (hs : Shp w w') {s : Sg} {x : Value} {c : C} (h : RC I w s x c) :
    ∀ {s' : Sg}, s.le s' → RC I' w' s' x c := by
  induction h with
  | v s x h1 => exact fun _ => .v _ x h1
  | unk s x h1 => exact fun _ => .unk _ x h1
  | z s a => exact fun _ => .z _ a
  | isl0 s a cap sz => exact fun _ => .isl0 _ a cap sz
  | isl s b off cap sz xs y hIb hl hc hr hcap ih =>
    exact fun _ => .isl _ b off cap sz xs y (hI b hIb) hl (fun i j hi hj => (cell_of_heap (hw b hIb)).trans (hc i j hi hj)) (fun i h j h' => ih i h j h' (Sg.le_refl _)) hcap
  | msl0 s a k sz h => exact fun hle => .msl0 _ a k sz (hle _ _ h)
  | msl s k b sz off len cap arr T fr h hlen hb hcap =>
    intro s' hle
    obtain ⟨arr', e, hsz⟩ := hs b arr T fr hb
    exact .msl _ k b sz off len cap arr' T fr (hle _ _ h) hlen e (by omega)
  | ptr s k b off h => exact fun hle => .ptr _ k b off (hle _ _ h)
  | eptr s b off cs y hIb hc hr ih =>
    exact fun _ => .eptr _ b off cs y (hI b hIb) (fun j hj => (cell_of_heap (hw b hIb)).trans (hc j hj)) (fun j h => ih j h (Sg.le_refl _))
  | clo s f caps vs hl hr ih => exact fun hle => .clo _ f caps vs hl (fun j h h' => ih j h h' hle)

inductive RD (I : Nat → Prop) (w : World) (s : Sg) : Value → D → Prop
  | c (x : Value) (c : C) (h : RC I w s x c) : RD I w s x (.c c)
  | agg (vs : Array Value) (cs : List C) (hl : vs.size = cs.length) (hr : ∀ j (h : j < vs.size) (h' : j < cs.length), RC I w s vs[j] cs[j]) : RD I w s (.agg vs) (.agg cs)
  | tup (vs : Array Value) (ds : List D) (hl : vs.size = ds.length) (hr : ∀ j (h : j < vs.size) (h' : j < ds.length), RD I w s vs[j] ds[j]) : RD I w s (.tuple vs) (.tup ds)
  | when (x : Value) (b : Bool) (d : D) (h : b = true → RD I w s x d) (h0 : b = false → x = undef) : RD I w s x (.when b d)

theorem RD.mono {I I' : Nat → Prop} {w w' : World} (hI : ∀ b, I b → I' b) (hw : Keeps I w w') (hs : Shp w w') {s s' : Sg} (hle : s.le s') {x : Value} {d : D} (h : RD I w s x d) :
    RD I' w' s' x d := by
  induction h with
  | c x c h => exact .c _ _ (h.mono hI hw hs hle)
  | agg vs cs hl hr => exact .agg vs cs hl fun j h h' => (hr j h h').mono hI hw hs hle
  | tup vs ds hl hr ih => exact .tup vs ds hl fun j h h' => ih j h h'
  | when x b d h h0 ih => exact .when x b d (fun hb => ih hb) h0

/-- The cells of what a slot holds. -/
def D.cells : D → Option (List C)
  | .c x => some [x]
  | .agg cs => some cs
  | _ => none

theorem RD.cells {I : Nat → Prop} {w : World} {s : Sg} {x : Value} {d : D} {cs : List C} (h : RD I w s x d) (hd : d.cells = some cs) :
    x.cells.size = cs.length ∧ ∀ j (hj : j < x.cells.size) (h' : j < cs.length), RC I w s x.cells[j] cs[j] := by
  cases h with
  | c x c h =>
    simp only [D.cells, Option.some.injEq] at hd
    subst hd
    have h1 := h.one
    have hx : x.cells = #[x] := by cases x <;> first | rfl | (simp [one] at h1)
    rw [hx]
    refine ⟨rfl, fun j hj h' => ?_⟩
    have : j = 0 := by simpa using hj
    subst this
    exact h
  | agg vs cs' hl hr =>
    simp only [D.cells, Option.some.injEq] at hd
    subst hd
    exact ⟨hl, fun j hj h' => hr j hj h'⟩
  | tup vs ds hl hr => simp [D.cells] at hd
  | when x b d h h0 => simp [D.cells] at hd

end Go.CT
