/- A small assertion language for the walk: values of the model that read as plain data, blocks that a call owns, and how both survive a step. No program in sight. -/
import Derived.WalkKit
import Derived.Orders
import Derived.Laws.StructEq
set_option linter.unusedVariables false
set_option linter.unusedSimpArgs false
set_option maxHeartbeats 16000000
set_option maxRecDepth 100000
namespace Go.CT

/-- One cell, as plain data: a scalar; a slice whose elements (each a list of cells) never change; a view into an owned block; a pointer into an owned block; a pointer to cells that never change; a function with what it captured; a method bound to a struct that never changes; a slice without room; anything. -/
inductive C where
  | v (x : Value)
  | isl (sz : Nat) (xs : List (List C))
  | msl (k sz off len : Nat)
  | ptr (k off : Nat)
  | eptr (cs : List C)
  | clo (f : FuncId) (caps : List C)
  | met (f : FuncId) (cs : List C)
  | z
  | unk

/-- Plain data: no key in it. -/
def kf : C → Bool
  | .v _ | .isl _ _ | .z | .unk | .eptr _ | .met _ _ => true
  | _ => false
def kfs : List C → Bool
  | [] => true
  | c :: r => kf c && kfs r

/-- What a slot holds. -/
inductive D where
  | c (x : C)
  | agg (cs : List C)
  | tup (ds : List D)
  | when (b : Bool) (d : D)

/-- A value that fills one cell. -/
def one : Value → Bool
  | .agg _ | .tuple _ => false
  | _ => true

/-- No slice is longer. -/
abbrev mx : Nat := 281474976710656

/-- Which block a key names: none: no such key; some none: a slice without room; some (some b): block b. -/
abbrev Sg := Nat → Option (Option Nat)
def Sg0 : Sg := fun _ => none

def Sg.le (s t : Sg) : Prop := ∀ k x, s k = some x → t k = some x
theorem Sg.le_refl (s : Sg) : s.le s := fun _ _ h => h
theorem Sg.le_trans {s t u : Sg} (h : s.le t) (h' : t.le u) : s.le u := fun k x e => h' k x (h k x e)
theorem Sg0.le (s : Sg) : Sg0.le s := fun _ _ h => by cases h

/-- A value reads as a cell. -/
inductive RC (I : Nat → Prop) (w : World) : Sg → Value → C → Prop
  | v (s : Sg) (x : Value) (h1 : one x = true) : RC I w s x (.v x)
  | unk (s : Sg) (x : Value) (h1 : one x = true) : RC I w s x .unk
  | z (s : Sg) (a : Option Addr) : RC I w s (.slice a 0 0) .z
  | isl0 (s : Sg) (a : Option Addr) (cap sz : Nat) : RC I w s (.slice a 0 cap) (.isl sz [])
  | isl (s : Sg) (b off cap sz : Nat) (xs : List (List C)) (y : Nat → Nat → Value) (hI : I b)
      (hl : ∀ i (h : i < xs.length), (xs[i]).length = sz)
      (hc : ∀ i j, i < xs.length → j < sz → w.cell? ⟨b, off + i * sz + j, none⟩ = some (y i j))
      (hr : ∀ i (h : i < xs.length) j (h' : j < (xs[i]).length), RC I w Sg0 (y i j) (xs[i])[j])
      (hcap : xs.length ≤ cap ∧ xs.length ≤ mx) : RC I w s (.slice (some ⟨b, off, none⟩) xs.length cap) (.isl sz xs)
  | msl0 (s : Sg) (a : Option Addr) (k sz : Nat) (h : s k = some none) : RC I w s (.slice a 0 0) (.msl k sz 0 0)
  | msl (s : Sg) (k b sz off len cap : Nat) (arr : Array Value) (T : TypeId) (fr : Nat × Nat) (h : s k = some (some b)) (hlen : len ≤ cap ∧ len ≤ mx)
      (hb : w.heap[b]? = some (.cells arr T fr)) (hcap : off + cap * sz ≤ arr.size) : RC I w s (.slice (some ⟨b, off, none⟩) len cap) (.msl k sz off len)
  | ptr (s : Sg) (k b off : Nat) (h : s k = some (some b)) : RC I w s (.pointer (some ⟨b, off, none⟩)) (.ptr k off)
  | eptr (s : Sg) (b off : Nat) (cs : List C) (y : Nat → Value) (hI : I b) (hc : ∀ j, j < cs.length → w.cell? ⟨b, off + j, none⟩ = some (y j))
      (hr : ∀ j (h : j < cs.length), RC I w Sg0 (y j) cs[j]) : RC I w s (.pointer (some ⟨b, off, none⟩)) (.eptr cs)
  | clo (s : Sg) (f : FuncId) (caps : List C) (vs : Array Value) (hl : vs.size = caps.length)
      (hr : ∀ j (h : j < vs.size) (h' : j < caps.length), RC I w s vs[j] caps[j]) : RC I w s (.func (.func f) #[] vs) (.clo f caps)
  | met (s : Sg) (f : FuncId) (cs : List C) (vs : Array Value) (hl : vs.size = cs.length)
      (hr : ∀ j (h : j < vs.size) (h' : j < cs.length), RC I w Sg0 vs[j] cs[j]) : RC I w s (.func (.func f) #[.agg vs] #[]) (.met f cs)

theorem RC.one {I : Nat → Prop} {w : World} {s : Sg} {x : Value} {c : C} (h : RC I w s x c) : one x = true := by
  cases h <;> first | assumption | rfl

/-- No block has gone, none has turned its make. -/
def Shp (w w' : World) : Prop := ∀ (b : Nat) (arr : Array Value) (T : TypeId) (fr : Nat × Nat), w.heap[b]? = some (.cells arr T fr) → ∃ arr', w'.heap[b]? = some (.cells arr' T fr) ∧ arr'.size = arr.size
theorem Shp.refl (w : World) : Shp w w := fun b arr T fr h => ⟨arr, h, rfl⟩
theorem Shp.trans {w w' w'' : World} (h : Shp w w') (h' : Shp w' w'') : Shp w w'' := fun b arr T fr e => by
  obtain ⟨a1, e1, s1⟩ := h b arr T fr e
  obtain ⟨a2, e2, s2⟩ := h' b a1 T fr e1
  exact ⟨a2, e2, s2.trans s1⟩

/-- The blocks of I hold what they held. -/
def Keeps (I : Nat → Prop) (w w' : World) : Prop := ∀ b, I b → w'.heap[b]? = w.heap[b]?

theorem cell_of_heap {w w' : World} {b off : Nat} (h : w'.heap[b]? = w.heap[b]?) : w'.cell? ⟨b, off, none⟩ = w.cell? ⟨b, off, none⟩ := by
  simp only [World.cell?, h]

theorem RC.mono {I I' : Nat → Prop} {w w' : World} (hI : ∀ b, I b → I' b) (hw : Keeps I w w') (hs : Shp w w') {s : Sg} {x : Value} {c : C} (h : RC I w s x c) :
    ∀ {s' : Sg}, s.le s' → RC I' w' s' x c := by
  induction h with
  | v s x h1 => exact fun _ => .v _ x h1
  | unk s x h1 => exact fun _ => .unk _ x h1
  | z s a => exact fun _ => .z _ a
  | isl0 s a cap sz => exact fun _ => .isl0 _ a cap sz
  | isl s b off cap sz xs y hIb hl hc hr hcap ih =>
    exact fun _ => .isl _ b off cap sz xs y (hI b hIb) hl (fun i j hi hj => (cell_of_heap (hw b hIb)).trans (hc i j hi hj)) (fun i h j h' => ih i h j h' (Sg.le_refl _)) hcap
  | msl0 s a k sz h => exact fun hle => .msl0 _ a k sz (hle _ _ h)
  | msl s k b sz off len cap arr T fr h hlen hb hcap =>
    intro s' hle
    obtain ⟨arr', e, hsz⟩ := hs b arr T fr hb
    exact .msl _ k b sz off len cap arr' T fr (hle _ _ h) hlen e (by omega)
  | ptr s k b off h => exact fun hle => .ptr _ k b off (hle _ _ h)
  | eptr s b off cs y hIb hc hr ih =>
    exact fun _ => .eptr _ b off cs y (hI b hIb) (fun j hj => (cell_of_heap (hw b hIb)).trans (hc j hj)) (fun j h => ih j h (Sg.le_refl _))
  | clo s f caps vs hl hr ih => exact fun hle => .clo _ f caps vs hl (fun j h h' => ih j h h' hle)
  | met s f cs vs hl hr ih => exact fun _ => .met _ f cs vs hl (fun j h h' => ih j h h' (Sg.le_refl _))

inductive RD (I : Nat → Prop) (w : World) (s : Sg) : Value → D → Prop
  | c (x : Value) (c : C) (h : RC I w s x c) : RD I w s x (.c c)
  | agg (vs : Array Value) (cs : List C) (hl : vs.size = cs.length) (hr : ∀ j (h : j < vs.size) (h' : j < cs.length), RC I w s vs[j] cs[j]) : RD I w s (.agg vs) (.agg cs)
  | tup (vs : Array Value) (ds : List D) (hl : vs.size = ds.length) (hr : ∀ j (h : j < vs.size) (h' : j < ds.length), RD I w s vs[j] ds[j]) : RD I w s (.tuple vs) (.tup ds)
  | when (x : Value) (b : Bool) (d : D) (h : b = true → RD I w s x d) (h0 : b = false → x = undef) : RD I w s x (.when b d)

theorem RD.mono {I I' : Nat → Prop} {w w' : World} (hI : ∀ b, I b → I' b) (hw : Keeps I w w') (hs : Shp w w') {s s' : Sg} (hle : s.le s') {x : Value} {d : D} (h : RD I w s x d) :
    RD I' w' s' x d := by
  induction h with
  | c x c h => exact .c _ _ (h.mono hI hw hs hle)
  | agg vs cs hl hr => exact .agg vs cs hl fun j h h' => (hr j h h').mono hI hw hs hle
  | tup vs ds hl hr ih => exact .tup vs ds hl fun j h h' => ih j h h'
  | when x b d h h0 ih => exact .when x b d (fun hb => ih hb) h0

/-- The cells of what a slot holds. -/
def D.cells : D → Option (List C)
  | .c x => some [x]
  | .agg cs => some cs
  | _ => none

theorem RD.cells {I : Nat → Prop} {w : World} {s : Sg} {x : Value} {d : D} {cs : List C} (h : RD I w s x d) (hd : d.cells = some cs) :
    x.cells.size = cs.length ∧ ∀ j (hj : j < x.cells.size) (h' : j < cs.length), RC I w s x.cells[j] cs[j] := by
  cases h with
  | c x c h =>
    simp only [D.cells, Option.some.injEq] at hd
    subst hd
    have h1 := h.one
    have hx : x.cells = #[x] := by cases x <;> first | rfl | (simp [one] at h1)
    rw [hx]
    refine ⟨rfl, fun j hj h' => ?_⟩
    have : j = 0 := by simpa using hj
    subst this
    exact h
  | agg vs cs' hl hr =>
    simp only [D.cells, Option.some.injEq] at hd
    subst hd
    exact ⟨hl, fun j hj h' => hr j hj h'⟩
  | tup vs ds hl hr => simp [D.cells] at hd
  | when x b d h h0 => simp [D.cells] at hd

end Go.CT

namespace Go.CT
open Go.RowKit (Below)

def upd {α : Type} (f : Nat → α) (n : Nat) (x : α) : Nat → α := fun k => if k = n then x else f k
theorem upd_same {α : Type} (f : Nat → α) (n : Nat) (x : α) : upd f n x n = x := by simp [upd]
theorem upd_ne {α : Type} (f : Nat → α) {n k : Nat} (x : α) (h : k ≠ n) : upd f n x k = f k := by simp [upd, h]

/-- Owned blocks by key: none: no such key; some none: the key is spent; some (some cs): the block's cells. -/
abbrev Hp := Nat → Option (Option (List C))

structure St where
  tm : Nat → Option D
  hp : Hp
  nx : Nat
  nt : Nat

def Live (s : Sg) (hp : Hp) (b : Nat) : Prop := ∃ k cs, hp k = some (some cs) ∧ s k = some (some b)

structure SimH (I : Nat → Prop) (w : World) (s : Sg) (hp : Hp) : Prop where
  top : ∀ k, hp k = none → s k = none
  blk : ∀ k cs, hp k = some (some cs) → (s k = some none ∧ cs = []) ∨
    ∃ b arr T, s k = some (some b) ∧ w.heap[b]? = some (.cells arr T (0, 0)) ∧ cs.length ≤ arr.size ∧ ¬ I b ∧ ∀ j (h : j < cs.length), ∃ y, arr[j]? = some y ∧ RC I w s y cs[j]
  inj : ∀ k k' b cs cs', hp k = some (some cs) → hp k' = some (some cs') → s k = some (some b) → s k' = some (some b) → k = k'
  imm : ∀ b, I b → b < w.heap.size

structure SimA (I : Nat → Prop) (w : World) (s : Sg) (a : Act) (S : St) : Prop where
  tm : ∀ n d, S.tm n = some d → RD I w s (a.tmps.getD n undef) d
  df : a.defers = []
  sz : a.tmps.size = S.nt

structure Ext (m : Nat) (I : Nat → Prop) (w : World) (s : Sg) (hp : Hp) (I' : Nat → Prop) (w' : World) (s' : Sg) (hp' : Hp) : Prop where
  os : w'.os = w.os
  tape : w'.tape = w.tape
  output : w'.output = w.output
  size : w.heap.size ≤ w'.heap.size
  same : ∀ b, b < w.heap.size → ¬ Live s hp b → w'.heap[b]? = w.heap[b]?
  shp : Shp w w'
  key : ∀ k, k < m → s' k = s k
  imm : ∀ b, I b → I' b
  imm' : ∀ b, I' b → I b ∨ Live s hp b ∨ w.heap.size ≤ b
  live : ∀ b, Live s' hp' b → Live s hp b ∨ w.heap.size ≤ b

theorem Ext.refl (m : Nat) (I : Nat → Prop) (w : World) (s : Sg) (hp : Hp) : Ext m I w s hp I w s hp :=
  ⟨rfl, rfl, rfl, Nat.le_refl _, fun _ _ _ => rfl, Shp.refl _, fun _ _ => rfl, fun _ h => h, fun _ h => .inl h, fun _ h => .inl h⟩

theorem Ext.trans {m : Nat} {I I' I'' : Nat → Prop} {w w' w'' : World} {s s' s'' : Sg} {hp hp' hp'' : Hp}
    (h : Ext m I w s hp I' w' s' hp') (h' : Ext m I' w' s' hp' I'' w'' s'' hp'') : Ext m I w s hp I'' w'' s'' hp'' where
  os := h'.os.trans h.os
  tape := h'.tape.trans h.tape
  output := h'.output.trans h.output
  size := Nat.le_trans h.size h'.size
  same := fun b hb hl => (h'.same b (Nat.lt_of_lt_of_le hb h.size) fun hl' => by
    rcases h.live b hl' with h1 | h1
    · exact hl h1
    · omega).trans (h.same b hb hl)
  shp := h.shp.trans h'.shp
  key := fun k hk => (h'.key k hk).trans (h.key k hk)
  imm := fun b hb => h'.imm b (h.imm b hb)
  imm' := fun b hb => by
    rcases h'.imm' b hb with h1 | h1 | h1
    · exact h.imm' b h1
    · exact .inr (h.live b h1)
    · exact .inr (.inr (Nat.le_trans h.size h1))
  live := fun b hb => by
    rcases h'.live b hb with h1 | h1
    · exact h.live b h1
    · exact .inr (Nat.le_trans h.size h1)

theorem SimH.live_lt {I : Nat → Prop} {w : World} {s : Sg} {hp : Hp} (H : SimH I w s hp) {b : Nat} (h : Live s hp b) : b < w.heap.size ∧ ¬ I b := by
  obtain ⟨k, cs, hk, hs⟩ := h
  rcases H.blk k cs hk with ⟨h1, _⟩ | ⟨b', arr, T, h1, h2, _, h3, _⟩
  · rw [hs] at h1; cases h1
  · rw [hs] at h1
    simp only [Option.some.injEq] at h1
    subst h1
    refine ⟨?_, h3⟩
    by_cases hlt : b < w.heap.size
    · exact hlt
    · rw [Array.getElem?_eq_none (by omega)] at h2; cases h2

/-- The blocks that never change hold what they held. -/
theorem Ext.keeps {m : Nat} {I I' : Nat → Prop} {w w' : World} {s s' : Sg} {hp hp' : Hp} (h : Ext m I w s hp I' w' s' hp') (H : SimH I w s hp) : Keeps I w w' :=
  fun b hb => h.same b (H.imm b hb) fun hl => (H.live_lt hl).2 hb

theorem Ext.rc {m : Nat} {I I' : Nat → Prop} {w w' : World} {s s' : Sg} {hp hp' : Hp} (h : Ext m I w s hp I' w' s' hp') (H : SimH I w s hp) (hle : s.le s') {x : Value} {c : C}
    (hr : RC I w s x c) : RC I' w' s' x c := hr.mono h.imm (h.keeps H) h.shp hle
theorem Ext.rd {m : Nat} {I I' : Nat → Prop} {w w' : World} {s s' : Sg} {hp hp' : Hp} (h : Ext m I w s hp I' w' s' hp') (H : SimH I w s hp) (hle : s.le s') {x : Value} {d : D}
    (hr : RD I w s x d) : RD I' w' s' x d := hr.mono h.imm (h.keeps H) h.shp hle

theorem SimA.step {m : Nat} {I I' : Nat → Prop} {w w' : World} {s s' : Sg} {a : Act} {S : St} {hp' : Hp} (A : SimA I w s a S) (H : SimH I w s S.hp)
    (h : Ext m I w s S.hp I' w' s' hp') (hle : s.le s') (n : Nat) : SimA I' w' s' a { S with hp := hp', nx := n } :=
  ⟨fun n d hd => h.rd H hle (A.tm n d hd), A.df, A.sz⟩

def St.put (S : St) (dst : Option Tmp) (d : D) : St :=
  match dst with
  | some n => { S with tm := upd S.tm n (some d) }
  | none => S
def St.clear (S : St) (dst : Option Tmp) : St :=
  match dst with
  | some n => { S with tm := upd S.tm n none }
  | none => S
def St.fits (S : St) (dst : Option Tmp) : Bool := match dst with | some n => decide (n < S.nt) | none => true

theorem getD_put (a : Act) (n k : Nat) (v : Value) : (a.put (some n) v).tmps.getD k undef = if k = n ∧ n < a.tmps.size then v else a.tmps.getD k undef := by
  simp only [Act.put, Array.getD_eq_getD_getElem?, Array.getElem?_setIfInBounds]
  by_cases h : k = n
  · subst h
    by_cases h2 : k < a.tmps.size
    · simp [h2]
    · simp [h2]
  · rw [if_neg (fun e => h e.symm)]
    simp [h]

theorem SimA.put {I : Nat → Prop} {w : World} {s : Sg} {a : Act} {S : St} (A : SimA I w s a S) {dst : Option Tmp} {v : Value} {d : D} (hd : RD I w s v d) (hf : S.fits dst = true) :
    SimA I w s (a.put dst v) (S.put dst d) := by
  cases dst with
  | none => exact A
  | some n =>
    have hn : n < S.nt := by simpa [St.fits] using hf
    refine ⟨fun k d' hk => ?_, A.df, by simp [Act.put, St.put, A.sz]⟩
    rw [getD_put]
    simp only [St.put, upd] at hk
    by_cases h : k = n
    · rw [if_pos h] at hk
      rw [if_pos ⟨h, by rw [A.sz]; exact hn⟩]
      simp only [Option.some.injEq] at hk
      subst hk
      exact hd
    · rw [if_neg h] at hk
      rw [if_neg (fun e => h e.1)]
      exact A.tm k d' hk

theorem SimA.clear {I : Nat → Prop} {w : World} {s : Sg} {a : Act} {S : St} (A : SimA I w s a S) {dst : Option Tmp} {v : Value} : SimA I w s (a.put dst v) (S.clear dst) := by
  cases dst with
  | none => exact A
  | some n =>
    refine ⟨fun k d' hk => ?_, A.df, by simp [Act.put, St.clear, A.sz]⟩
    rw [getD_put]
    simp only [St.clear, upd] at hk
    by_cases h : k = n
    · rw [if_pos h] at hk; cases hk
    · rw [if_neg h] at hk
      rw [if_neg (fun e => h e.1)]
      exact A.tm k d' hk

/-! ### New blocks, stores, spent keys -/

theorem heap_push_lt (w : World) (o : Obj) (b : Nat) (h : b < w.heap.size) : (w.heap.push o)[b]? = w.heap[b]? := by
  rw [Array.getElem?_push, if_neg (by omega)]
theorem heap_push_eq (w : World) (o : Obj) : (w.heap.push o)[w.heap.size]? = some o := by simp

theorem lt_of_heap {w : World} {b : Nat} {o : Obj} (h : w.heap[b]? = some o) : b < w.heap.size := by
  by_cases hlt : b < w.heap.size
  · exact hlt
  · rw [Array.getElem?_eq_none (by omega)] at h; cases h

/-- A new block under a fresh key. -/
theorem sim_alloc {m : Nat} {I : Nat → Prop} {w : World} {s : Sg} {hp : Hp} (H : SimH I w s hp) (k : Nat) (hk : hp k = none) (hm : m ≤ k) (arr : Array Value) (T : TypeId) (cs : List C)
    (hl : cs.length ≤ arr.size) (hr : ∀ j (h : j < cs.length), ∃ y, arr[j]? = some y ∧ RC I w s y cs[j]) :
    let w' : World := { w with heap := w.heap.push (.cells arr T (0, 0)) }
    let s' := upd s k (some (some w.heap.size))
    let hp' := upd hp k (some (some cs))
    s.le s' ∧ SimH I w' s' hp' ∧ Ext m I w s hp I w' s' hp' := by
  intro w' s' hp'
  have hsk : s k = none := H.top k hk
  have hle : s.le s' := fun j x hj => by
    have : j ≠ k := fun e => by rw [e, hsk] at hj; cases hj
    simp [s', upd_ne _ _ this, hj]
  have hshp : Shp w w' := fun b arr0 T0 fr hb => ⟨arr0, by
    have := lt_of_heap hb
    show (w.heap.push _)[b]? = _
    rw [heap_push_lt _ _ _ this]; exact hb, rfl⟩
  have hlive : ∀ b, Live s' hp' b → Live s hp b ∨ w.heap.size ≤ b := by
    rintro b ⟨j, cs', hj, hs⟩
    by_cases e : j = k
    · subst e
      simp only [s', upd_same, Option.some.injEq] at hs
      exact .inr (by omega)
    · simp only [hp', upd_ne _ _ e] at hj
      simp only [s', upd_ne _ _ e] at hs
      exact .inl ⟨j, cs', hj, hs⟩
  have hext : Ext m I w s hp I w' s' hp' := by
    refine ⟨rfl, rfl, rfl, by simp [w'], fun b hb _ => heap_push_lt _ _ _ hb, hshp, fun j hj => ?_, fun _ h => h, fun _ h => .inl h, hlive⟩
    exact upd_ne _ _ (by omega)
  refine ⟨hle, ⟨fun j hj => ?_, fun j cs' hj => ?_, fun j j' b cs1 cs2 h1 h2 h3 h4 => ?_, fun b hb => ?_⟩, hext⟩
  · by_cases e : j = k
    · subst e; simp [hp', upd_same] at hj
    · simp only [hp', upd_ne _ _ e] at hj
      simp only [s', upd_ne _ _ e]
      exact H.top j hj
  · by_cases e : j = k
    · subst e
      simp only [hp', upd_same, Option.some.injEq] at hj
      subst hj
      refine .inr ⟨w.heap.size, arr, T, by simp [s', upd_same], heap_push_eq w _, hl, fun hI => Nat.lt_irrefl _ (H.imm _ hI), fun j' h' => ?_⟩
      obtain ⟨y, hy, hry⟩ := hr j' h'
      exact ⟨y, hy, hext.rc H hle hry⟩
    · simp only [hp', upd_ne _ _ e] at hj
      rcases H.blk j cs' hj with ⟨h1, h2⟩ | ⟨b, arr0, T0, h1, h2, h3, h4, h5⟩
      · exact .inl ⟨by simp [s', upd_ne _ _ e, h1], h2⟩
      · refine .inr ⟨b, arr0, T0, by simp [s', upd_ne _ _ e, h1], ?_, h3, h4, fun j' h' => ?_⟩
        · show (w.heap.push _)[b]? = _
          rw [heap_push_lt _ _ _ (lt_of_heap h2)]; exact h2
        · obtain ⟨y, hy, hry⟩ := h5 j' h'
          exact ⟨y, hy, hext.rc H hle hry⟩
  · have old : ∀ i csi, hp' i = some (some csi) → s' i = some (some b) → (i = k ∧ b = w.heap.size) ∨ (i ≠ k ∧ hp i = some (some csi) ∧ s i = some (some b)) := by
      intro i csi hi hsi
      by_cases e : i = k
      · subst e
        simp only [s', upd_same, Option.some.injEq] at hsi
        exact .inl ⟨rfl, hsi.symm⟩
      · simp only [hp', upd_ne _ _ e] at hi
        simp only [s', upd_ne _ _ e] at hsi
        exact .inr ⟨e, hi, hsi⟩
    rcases old j cs1 h1 h3 with ⟨e1, e2⟩ | ⟨e1, e2, e3⟩ <;> rcases old j' cs2 h2 h4 with ⟨f1, f2⟩ | ⟨f1, f2, f3⟩
    · rw [e1, f1]
    · have := (H.live_lt ⟨j', cs2, f2, f3⟩).1; omega
    · have := (H.live_lt ⟨j, cs1, e2, e3⟩).1; omega
    · exact H.inj j j' b cs1 cs2 e2 f2 e3 f3
  · have := H.imm b hb
    simp [w']; omega

/-- The cells of an owned block are written anew (as many as there were, or more, within the block). -/
theorem sim_store {m : Nat} {I : Nat → Prop} {w w' : World} {s : Sg} {hp : Hp} (H : SimH I w s hp) (k : Nat) (cs cs' : List C) (hk : hp k = some (some cs)) (b : Nat) (arr arr' : Array Value) (T : TypeId)
    (hs : s k = some (some b)) (hb : w.heap[b]? = some (.cells arr T (0, 0))) (hsz : arr'.size = arr.size) (hl : cs'.length ≤ arr'.size)
    (hr : ∀ j (h : j < cs'.length), ∃ y, arr'[j]? = some y ∧ RC I w s y cs'[j])
    (hw : w' = { w with heap := w.heap.setIfInBounds b (.cells arr' T (0, 0)) }) :
    SimH I w' s (upd hp k (some (some cs'))) ∧ Ext m I w s hp I w' s (upd hp k (some (some cs'))) := by
  have hblt := lt_of_heap hb
  have hget : ∀ i, w'.heap[i]? = if i = b then some (.cells arr' T (0, 0)) else w.heap[i]? := by
    intro i
    rw [hw]
    show (w.heap.setIfInBounds b _)[i]? = _
    rw [Array.getElem?_setIfInBounds]
    by_cases e : i = b
    · subst e; simp [hblt]
    · rw [if_neg (fun h => e h.symm), if_neg e]
  have hlivek : Live s hp b := ⟨k, cs, hk, hs⟩
  have hlive : ∀ b', Live s (upd hp k (some (some cs'))) b' → Live s hp b' := by
    rintro b' ⟨j, csj, hj, hsj⟩
    by_cases e : j = k
    · subst e
      exact ⟨j, cs, hk, hsj⟩
    · rw [upd_ne _ _ e] at hj
      exact ⟨j, csj, hj, hsj⟩
  have hshp : Shp w w' := fun b0 arr0 T0 fr h0 => by
    by_cases e : b0 = b
    · subst e
      rw [hb] at h0
      simp only [Option.some.injEq, Obj.cells.injEq] at h0
      obtain ⟨rfl, rfl, rfl⟩ := h0
      exact ⟨arr', by rw [hget, if_pos rfl], hsz⟩
    · exact ⟨arr0, by rw [hget, if_neg e]; exact h0, rfl⟩
  have hext : Ext m I w s hp I w' s (upd hp k (some (some cs'))) := by
    refine ⟨by rw [hw], by rw [hw], by rw [hw], by rw [hw]; simp, fun b' hb' hl' => ?_, hshp, fun _ _ => rfl, fun _ h => h, fun _ h => .inl h, fun b' h => .inl (hlive b' h)⟩
    have hne : b' ≠ b := fun e => hl' (by rw [e]; exact hlivek)
    rw [hget, if_neg hne]
  refine ⟨⟨fun j hj => ?_, fun j csj hj => ?_, fun j j' b' cs1 cs2 h1 h2 h3 h4 => ?_, fun b' hb' => ?_⟩, hext⟩
  · by_cases e : j = k
    · subst e; simp [upd_same] at hj
    · rw [upd_ne _ _ e] at hj; exact H.top j hj
  · by_cases e : j = k
    · subst e
      simp only [upd_same, Option.some.injEq] at hj
      subst hj
      refine .inr ⟨b, arr', T, hs, by rw [hget, if_pos rfl], hl, (H.live_lt hlivek).2, fun j' h' => ?_⟩
      obtain ⟨y, hy, hry⟩ := hr j' h'
      exact ⟨y, hy, hext.rc H (Sg.le_refl _) hry⟩
    · rw [upd_ne _ _ e] at hj
      rcases H.blk j csj hj with h1 | ⟨b0, arr0, T0, h1, h2, h3, h4, h5⟩
      · exact .inl h1
      · have hne : b0 ≠ b := fun e' => e (H.inj j k b csj cs hj hk (e' ▸ h1) hs)
        refine .inr ⟨b0, arr0, T0, h1, by rw [hget, if_neg hne]; exact h2, h3, h4, fun j' h' => ?_⟩
        obtain ⟨y, hy, hry⟩ := h5 j' h'
        exact ⟨y, hy, hext.rc H (Sg.le_refl _) hry⟩
  · have old : ∀ i csi, upd hp k (some (some cs')) i = some (some csi) → ∃ csi', hp i = some (some csi') := by
      intro i csi hi
      by_cases e : i = k
      · exact ⟨cs, e ▸ hk⟩
      · rw [upd_ne _ _ e] at hi; exact ⟨csi, hi⟩
    obtain ⟨c1, g1⟩ := old j cs1 h1
    obtain ⟨c2, g2⟩ := old j' cs2 h2
    exact H.inj j j' b' c1 c2 g1 g2 h3 h4
  · rw [hw]; simpa using H.imm b' hb'

/-- A key is spent. -/
theorem sim_spend {m : Nat} {I : Nat → Prop} {w : World} {s : Sg} {hp : Hp} (H : SimH I w s hp) (k : Nat) (hk : hp k ≠ none) :
    SimH I w s (upd hp k (some none)) ∧ Ext m I w s hp I w s (upd hp k (some none)) := by
  have hlive : ∀ b', Live s (upd hp k (some none)) b' → Live s hp b' := by
    rintro b' ⟨j, csj, hj, hsj⟩
    by_cases e : j = k
    · subst e; simp [upd_same] at hj
    · rw [upd_ne _ _ e] at hj
      exact ⟨j, csj, hj, hsj⟩
  have old : ∀ i csi, upd hp k (some none) i = some (some csi) → hp i = some (some csi) := by
    intro i csi hi
    by_cases e : i = k
    · subst e; simp [upd_same] at hi
    · rw [upd_ne _ _ e] at hi; exact hi
  refine ⟨⟨fun j hj => ?_, fun j csj hj => H.blk j csj (old j csj hj), fun j j' b' cs1 cs2 h1 h2 h3 h4 => H.inj j j' b' cs1 cs2 (old _ _ h1) (old _ _ h2) h3 h4, H.imm⟩,
    ⟨rfl, rfl, rfl, Nat.le_refl _, fun _ _ _ => rfl, Shp.refl _, fun _ _ => rfl, fun _ h => h, fun _ h => .inl h, fun b' h => .inl (hlive b' h)⟩⟩
  by_cases e : j = k
  · subst e; simp [upd_same] at hj
  · rw [upd_ne _ _ e] at hj; exact H.top j hj

end Go.CT

namespace Go.CT

section
variable {P : Program}

theorem add_plain (b off n : Nat) : (⟨b, off, none⟩ : Addr).add n = ⟨b, off + n, none⟩ := by
  unfold Addr.add
  by_cases h : n = 0
  · subst h; simp
  · simp [h]

theorem run_bind {α β : Type} (s : Sem α) (f : α → Sem β) (w w' : World) (x : α) (h : s.run P w = .ok x w') : (s >>= f).run P w = (f x).run P w' := by
  have key : ∀ (s : Sem α) (w : World), s.run P w = .ok x w' → (s.bind f).run P w = (f x).run P w' := by
    intro s
    induction s with
    | pure a => intro w h; simp only [Sem.run, Result.ok.injEq] at h; obtain ⟨rfl, rfl⟩ := h; rfl
    | load m a k ih =>
      intro w h
      simp only [Sem.bind, Sem.run] at h ⊢
      split <;> rename_i hc <;> simp only [hc] at h
      · exact ih _ _ h
      · split <;> rename_i hf <;> simp only [hf] at h
        · exact ih _ _ h
        · cases h
    | store m a v k ih =>
      intro w h
      simp only [Sem.bind]
      cases v <;> simp only [Sem.run] at h ⊢ <;> first
        | cases h
        | (split <;> rename_i hc <;> simp only [hc] at h
           · split <;> rename_i hf <;> simp only [hf, if_true, if_false, Bool.false_eq_true] at h
             · cases h
             · exact ih _ h
           · split <;> rename_i hf <;> simp only [hf] at h
             · exact ih _ h
             · cases h)
    | new o k ih => intro w h; exact ih _ _ h
    | shape r k ih => intro w h; exact ih _ _ h
    | freeze a n k ih => intro w h; exact ih _ h
    | frozen a k ih => intro w h; exact ih _ _ h
    | getObj r k ih =>
      intro w h
      simp only [Sem.bind, Sem.run] at h ⊢
      split <;> rename_i hc <;> simp only [hc] at h
      · cases h
      · exact ih _ _ h
      · cases h
    | setObj r o k ih =>
      intro w h
      simp only [Sem.bind, Sem.run] at h ⊢
      split <;> rename_i hc <;> simp only [hc] at h
      · cases h
      · exact ih _ h
      · cases h
    | choose q k ih =>
      intro w h
      simp only [Sem.bind, Sem.run] at h ⊢
      split <;> rename_i hc <;> simp only [hc, if_true, if_false, Bool.false_eq_true] at h
      · exact ih _ _ h
      · exact ih _ _ h
    | sys c k ih => intro w h; exact ih _ _ h
    | program k ih => intro w h; exact ih _ _ h
    | mark m k ih => intro w h; exact ih _ h
    | halt x => intro w h; simp [Sem.run] at h
  exact key s w h

theorem run_pure {α : Type} (x : α) (w : World) : (pure x : Sem α).run P w = .ok x w := rfl

/-- What is asked of the table of types. -/
def tsz (P : Program) (t : TypeId) : Option Nat := (P.info? t).map (·.size)
def tbytes (P : Program) (t : TypeId) : Option Nat := (P.info? t).map (·.bytes)
def tagg (P : Program) (t : TypeId) : Option Bool := (P.underlying t).map fun d => match d with | .struct _ | .array _ _ => true | _ => false
def tslice (P : Program) (t : TypeId) : Option TypeId := match P.underlying t with | some (.slice e) => some e | _ => none
def tint (P : Program) (t : TypeId) : Option IntKind := match P.underlying t with | some (.int k) => some k | _ => none
def tzero (P : Program) (t : TypeId) : Option (List Value) := ((P.info? t).bind (·.zero)).map (·.cells.toList)
/-- Where a field of a struct type begins, and its type (of a field that is not empty). -/
def tfield (P : Program) (s : TypeId) (f : Nat) : Option (Nat × TypeId) :=
  match P.underlying s with
  | some (.struct fs) => (fs[f]?).bind fun x => match tsz P x.type with | some (_ + 1) => some (x.offset, x.type) | _ => none
  | _ => none

theorem run_typeInfo {t : TypeId} {i : TypeInfo} (h : P.info? t = some i) (w : World) : (typeInfo t).run P w = .ok i w := by
  simp only [typeInfo, program]
  show (Sem.run P ((Sem.program Sem.pure) >>= _) w) = _
  rw [run_bind (w' := w) (x := P) _ _ _ (by rfl)]
  simp only [h]
  rfl

theorem run_sizeOf {t n : Nat} (h : tsz P t = some n) (w : World) : (sizeOf t).run P w = .ok n w := by
  simp only [tsz, Option.map_eq_some_iff] at h
  obtain ⟨i, hi, rfl⟩ := h
  simp only [sizeOf]
  rw [run_bind _ _ _ _ _ (run_typeInfo hi w)]
  rfl

theorem run_underlying {t : TypeId} {d : TypeDesc} (h : P.underlying t = some d) (w : World) : (underlying t).run P w = .ok d w := by
  simp only [underlying, program]
  rw [run_bind (w' := w) (x := P) _ _ _ (by rfl)]
  simp only [h]
  rfl

theorem run_isAgg {t : TypeId} {b : Bool} (h : tagg P t = some b) (w : World) : (isAgg t).run P w = .ok b w := by
  simp only [tagg, Option.map_eq_some_iff] at h
  obtain ⟨d, hd, rfl⟩ := h
  simp only [isAgg]
  rw [run_bind _ _ _ _ _ (run_underlying hd w)]
  split <;> simp_all <;> rfl

theorem und_slice {t e : TypeId} (h : tslice P t = some e) : P.underlying t = some (.slice e) := by
  unfold tslice at h
  split at h <;> simp_all

theorem und_int {t : TypeId} {k : IntKind} (h : tint P t = some k) : P.underlying t = some (.int k) := by
  unfold tint at h
  split at h <;> simp_all

theorem run_zeroValue {t : TypeId} {zs : List Value} (h : tzero P t = some zs) (w : World) : ∃ z : Value, z.cells.toList = zs ∧ (zeroValue t).run P w = .ok z w := by
  simp only [tzero, Option.map_eq_some_iff, Option.bind_eq_some_iff] at h
  obtain ⟨z, ⟨i, hi, hz⟩, rfl⟩ := h
  refine ⟨z, rfl, ?_⟩
  simp only [zeroValue]
  rw [run_bind _ _ _ _ _ (run_typeInfo hi w)]
  simp only [hz]
  rfl

/-! ### Reading -/

theorem run_load {a : Addr} {v : Value} {w : World} (h : w.cell? a = some v) : (load a).run P w = .ok v w := by
  simp only [load, Sem.run, h]

theorem run_loadCellsFrom (b off : Nat) (y : Nat → Value) (w : World) : ∀ (n i : Nat) (acc : Array Value), (∀ j, i ≤ j → j < i + n → w.cell? ⟨b, off + j, none⟩ = some (y j)) →
    (loadCellsFrom ⟨b, off, none⟩ i n acc).run P w = .ok (acc ++ ((List.range' i n).map y).toArray) w := by
  intro n
  induction n with
  | zero => intro i acc h; simp [loadCellsFrom, run_pure]
  | succ n ih =>
    intro i acc h
    simp only [loadCellsFrom]
    rw [run_bind _ _ _ _ _ (run_load (by rw [add_plain]; exact h i (Nat.le_refl _) (by omega)))]
    rw [ih (i + 1) (acc.push (y i)) (fun j h1 h2 => h j (by omega) (by omega))]
    congr 1
    rw [List.range'_succ]
    apply Array.ext'
    simp

theorem run_loadCells (b off : Nat) (y : Nat → Value) (w : World) (n : Nat) (h : ∀ j, j < n → w.cell? ⟨b, off + j, none⟩ = some (y j)) :
    (loadCells ⟨b, off, none⟩ n).run P w = .ok ((List.range n).map y).toArray w := by
  simp only [loadCells]
  rw [run_loadCellsFrom b off y w n 0 #[] (fun j _ h2 => h j (by omega))]
  simp [List.range_eq_range']

/-- A load of a whole variable: its cells, one by one. -/
theorem run_loadVar {t : TypeId} {g : Bool} {n : Nat} (ht : tagg P t = some g) (hn : tsz P t = some n) (b off : Nat) (y : Nat → Value) (w : World)
    (h : ∀ j, j < n → w.cell? ⟨b, off + j, none⟩ = some (y j)) (h1 : g = false → n = 1) :
    (Instr.loadAt t (.pointer (some ⟨b, off, none⟩))).run P w = .ok (if g then .agg ((List.range n).map y).toArray else y 0) w := by
  simp only [Instr.loadAt, Instr.sureAddr]
  rw [run_bind _ _ _ _ _ (run_pure _ _)]
  simp only [loadVar]
  rw [run_bind _ _ _ _ _ (run_isAgg ht w)]
  cases g with
  | true =>
    simp only [if_true]
    rw [run_bind _ _ _ _ _ (run_sizeOf hn w), run_bind _ _ _ _ _ (run_loadCells b off y w n h)]
    rfl
  | false =>
    simp only [Bool.false_eq_true, if_false]
    have := h1 rfl
    subst this
    exact run_load (by simpa using h 0 (by omega))

/-! ### Storing -/

theorem run_store {a : Addr} {v u : Value} {w : World} (h : w.cell? a = some u) (hf : w.frozen? a = false) (h1 : one v = true) : (store a v).run P w = .ok () (w.setCell a v) := by
  simp only [store]
  cases v <;> first | (simp [one] at h1; done) | (simp only [Sem.run, h, hf]; rfl)

theorem setCell_plain {w : World} {b off : Nat} {arr : Array Value} {T : TypeId} {v : Value} (h : w.heap[b]? = some (.cells arr T (0, 0))) :
    w.setCell ⟨b, off, none⟩ v = { w with heap := w.heap.setIfInBounds b (.cells (arr.setIfInBounds off v) T (0, 0)) } := by
  have hlt := lt_of_heap h
  simp only [World.setCell]
  congr 1
  apply Array.ext_getElem?
  intro i
  rw [Array.getElem?_modify, Array.getElem?_setIfInBounds]
  by_cases e : b = i
  · subst e
    rw [if_pos rfl, if_pos rfl, if_pos hlt, h]
    simp
  · simp [e]

def setCells (arr : Array Value) (off : Nat) : List Value → Array Value
  | [] => arr
  | v :: r => setCells (arr.setIfInBounds off v) (off + 1) r

theorem size_setCells : ∀ (vs : List Value) (arr : Array Value) (off : Nat), (setCells arr off vs).size = arr.size
  | [], _, _ => rfl
  | v :: r, arr, off => by simp only [setCells]; rw [size_setCells r]; simp

theorem get_setCells : ∀ (vs : List Value) (arr : Array Value) (off j : Nat), off + vs.length ≤ arr.size →
    (setCells arr off vs)[j]? = if off ≤ j ∧ j < off + vs.length then vs[j - off]? else arr[j]?
  | [], arr, off, j, _ => by simp only [setCells, List.length_nil]; rw [if_neg (by omega)]
  | v :: r, arr, off, j, h => by
    simp only [List.length_cons] at h
    simp only [setCells]
    rw [get_setCells r _ _ _ (by simp; omega)]
    simp only [List.length_cons, Array.getElem?_setIfInBounds]
    by_cases e : j = off
    · subst e
      rw [if_neg (by omega), if_pos rfl, if_pos (by omega), if_pos (by omega)]
      simp
    · by_cases h2 : off + 1 ≤ j ∧ j < off + 1 + r.length
      · rw [if_pos h2, if_pos (by omega)]
        rw [show j - off = (j - (off + 1)) + 1 from by omega, List.getElem?_cons_succ]
      · rw [if_neg h2, if_neg (fun e' => e e'.symm), if_neg (by omega)]

theorem run_storeCells (b : Nat) (T : TypeId) : ∀ (vs : List Value) (arr : Array Value) (w : World) (off i : Nat), w.heap[b]? = some (.cells arr T (0, 0)) → off + i + vs.length ≤ arr.size →
    (∀ v ∈ vs, one v = true) →
    (storeCells ⟨b, off, none⟩ vs i).run P w = .ok () { w with heap := w.heap.setIfInBounds b (.cells (setCells arr (off + i) vs) T (0, 0)) }
  | [], arr, w, off, i, h, _, _ => by
    have : w.heap.setIfInBounds b (.cells arr T (0, 0)) = w.heap := by
      apply Array.ext_getElem?
      intro j
      rw [Array.getElem?_setIfInBounds]
      by_cases e : b = j
      · subst e; rw [if_pos rfl, if_pos (lt_of_heap h), h]
      · simp [e]
    simp only [storeCells, setCells, this]
    rfl
  | v :: r, arr, w, off, i, h, hl, h1 => by
    simp only [List.length_cons] at hl
    have hlt := lt_of_heap h
    have hc : w.cell? ⟨b, off + i, none⟩ = some arr[off + i] := by
      simp [World.cell?, h]
    have hf : w.frozen? ⟨b, off + i, none⟩ = false := by simp [World.frozen?, h]
    simp only [storeCells]
    rw [run_bind _ _ _ _ _ (run_store (by rw [add_plain]; exact hc) (by rw [add_plain]; exact hf) (h1 v (by simp)))]
    rw [add_plain, setCell_plain h]
    rw [run_storeCells b T r (arr.setIfInBounds (off + i) v) _ off (i + 1) (by simp [hlt]) (by simp; omega) (fun u hu => h1 u (by simp [hu]))]
    simp only [setCells, Nat.add_assoc]
    congr 2
    apply Array.ext_getElem?
    intro j
    simp only [Array.getElem?_setIfInBounds]
    by_cases e : b = j <;> simp [e, hlt]

theorem run_storeVar {t : TypeId} {n : Nat} (hn : tsz P t = some n) (b off : Nat) (T : TypeId) (v : Value) (arr : Array Value) (w : World) (h : w.heap[b]? = some (.cells arr T (0, 0)))
    (hl : off + n ≤ arr.size) (hv : v.cells.size = n) (h1 : ∀ u ∈ v.cells.toList, one u = true) :
    (Instr.storeAt t (.pointer (some ⟨b, off, none⟩)) v).run P w = .ok () { w with heap := w.heap.setIfInBounds b (.cells (setCells arr off v.cells.toList) T (0, 0)) } := by
  simp only [Instr.storeAt, Instr.sureAddr]
  rw [run_bind _ _ _ _ _ (run_pure _ _)]
  simp only [storeVar]
  rw [run_bind _ _ _ _ _ (run_sizeOf hn w)]
  rw [if_neg (by simp [hv])]
  have := run_storeCells (P := P) b T v.cells.toList arr w off 0 h (by simp; omega) h1
  simpa using this

/-! ### New blocks -/

theorem run_newRow (T : TypeId) (cells : Array Value) (w : World) : (newRow T cells).run P w = .ok ⟨w.heap.size, 0, none⟩ { w with heap := w.heap.push (.cells cells T (0, 0)) } := rfl

theorem run_box (T : TypeId) (v : Value) (w : World) :
    (Instr.box T v).run P w = .ok (.pointer (some ⟨w.heap.size, 0, none⟩)) { w with heap := w.heap.push (.cells v.cells T (0, 0)) } := rfl

theorem run_alloc {t : TypeId} {zs : List Value} (h : tzero P t = some zs) (old : Value) (w : World) :
    (Instr.alloc t true old).run P w = .ok (.pointer (some ⟨w.heap.size, 0, none⟩)) { w with heap := w.heap.push (.cells zs.toArray t (0, 0)) } := by
  obtain ⟨z, hz, hr⟩ := run_zeroValue h w
  simp only [Instr.alloc]
  rw [run_bind _ _ _ _ _ hr]
  have : z.cells = zs.toArray := by rw [← hz]
  show Result.ok _ _ = _
  simp only [this]

end
end Go.CT

namespace Go.CT

/-- The range of a kind of integers. -/
def InK : IntKind → Int → Prop
  | .i8, n => -128 ≤ n ∧ n ≤ 127
  | .i16, n => -32768 ≤ n ∧ n ≤ 32767
  | .i32, n => -2147483648 ≤ n ∧ n ≤ 2147483647
  | .i64, n => -9223372036854775808 ≤ n ∧ n ≤ 9223372036854775807
  | .u8, n => 0 ≤ n ∧ n ≤ 255
  | .u16, n => 0 ≤ n ∧ n ≤ 65535
  | .u32, n => 0 ≤ n ∧ n ≤ 4294967295
  | .u64, n => 0 ≤ n ∧ n ≤ 18446744073709551615

theorem wrap_of_InK {k : IntKind} {n : Int} (h : InK k n) : k.wrap n = n := by
  cases k <;> simp only [InK] at h <;> simp only [IntKind.wrap, IntKind.bits, IntKind.signed] <;> (try simp) <;> (try split) <;> omega

abbrev DI (k : IntKind) (n : Int) : D := .c (.v (.int k n))
abbrev DB (b : Bool) : D := .c (.v (.bool b))
abbrev DS (s : ByteArray) : D := .c (.v (.string s))

def dint (op : BinOp) (k : IntKind) (a b : Int) : Option (Prop × D) :=
  match op with
  | .add => some (InK k (a + b), DI k (a + b))
  | .sub => some (InK k (a - b), DI k (a - b))
  | .mul => some (InK k (a * b), DI k (a * b))
  | .quo => some ((0 ≤ a ∧ 0 < b) ∧ InK k a, DI k (a / b))
  | .rem => some (0 ≤ a ∧ 0 < b, DI k (a % b))
  | .and => some ((0 ≤ a ∧ 0 ≤ b) ∧ InK k a ∧ InK k b, DI k ((a.toNat &&& b.toNat : Nat) : Int))
  | .or => some ((0 ≤ a ∧ 0 ≤ b) ∧ InK k a ∧ InK k b, DI k ((a.toNat ||| b.toNat : Nat) : Int))
  | .xor => some ((0 ≤ a ∧ 0 ≤ b) ∧ InK k a ∧ InK k b, DI k ((a.toNat ^^^ b.toNat : Nat) : Int))
  | .andNot => some ((0 ≤ a ∧ 0 ≤ b) ∧ InK k a ∧ InK k b, DI k ((a.toNat ^^^ (a.toNat &&& b.toNat) : Nat) : Int))
  | .eql => some (True, DB (a == b))
  | .neq => some (True, DB (a != b))
  | .lss => some (True, DB (decide (a < b)))
  | .leq => some (True, DB (decide (a ≤ b)))
  | .gtr => some (True, DB (decide (b < a)))
  | .geq => some (True, DB (decide (b ≤ a)))
  | _ => none

def dshift (op : BinOp) (k : IntKind) (a b : Int) : Option (Prop × D) :=
  match op with
  | .shl => some ((0 ≤ b ∧ b ≤ k.bits) ∧ InK k (a * 2 ^ b.toNat), DI k (a * 2 ^ b.toNat))
  | .shr => some (0 ≤ b ∧ b ≤ k.bits, DI k (a / 2 ^ b.toNat))
  | _ => none

def dstr (op : BinOp) (a b : ByteArray) : Option (Prop × D) :=
  match op with
  | .add => some (((a.size + b.size : Nat) : Int) ≤ 9223372036854775807, DS (a ++ b))
  | .eql => some (True, DB (a.toList == b.toList))
  | .neq => some (True, DB (!(a.toList == b.toList)))
  | _ => none

def dbin (op : BinOp) (x y : D) : Option (Prop × D) :=
  match x, y with
  | .c (.v (.int k a)), .c (.v (.int k' b)) => if op = .shl ∨ op = .shr then dshift op k a b else if k = k' then dint op k a b else none
  | .c (.v (.bool a)), .c (.v (.bool b)) => (match op with | .eql => some (True, DB (a == b)) | .neq => some (True, DB (a != b)) | _ => none)
  | .c (.v (.string a)), .c (.v (.string b)) => dstr op a b
  | _, _ => none

def dun (op : UnOp) (x : D) : Option (Prop × D) :=
  match op, x with
  | .not, .c (.v (.bool b)) => some (True, DB !b)
  | .neg, .c (.v (.int k n)) => some (InK k (0 - n), DI k (0 - n))
  | _, _ => none

section
variable {P : Program}

theorem rd_scalar {I : Nat → Prop} {w : World} {s : Sg} {x y : Value} (h : RD I w s x (.c (.v y))) : x = y ∧ one y = true := by
  cases h with
  | c _ _ h => cases h with | v _ _ h1 => exact ⟨rfl, h1⟩

theorem rd_int {I : Nat → Prop} {w : World} {s : Sg} (k : IntKind) (n : Int) : RD I w s (.int k n) (DI k n) := .c _ _ (.v _ _ rfl)
theorem rd_bool {I : Nat → Prop} {w : World} {s : Sg} (b : Bool) : RD I w s (.bool b) (DB b) := .c _ _ (.v _ _ rfl)
theorem rd_str {I : Nat → Prop} {w : World} {s : Sg} (b : ByteArray) : RD I w s (.string b) (DS b) := .c _ _ (.v _ _ rfl)

theorem ofInt_nonneg (n : Nat) (a : Int) (h : 0 ≤ a) (h2 : a.toNat < 2 ^ n) : (BitVec.ofInt n a).toNat = a.toNat := by
  rw [BitVec.toNat_ofInt]
  obtain ⟨m, rfl⟩ := Int.eq_ofNat_of_zero_le h
  simp only [Int.toNat_natCast] at h2 ⊢
  have : ((2 ^ n : Nat) : Int) = (2 : Int) ^ n := by simp
  rw [Int.emod_eq_of_lt (by omega) (by omega)]
  simp

theorem InK_pow {k : IntKind} : ∃ t, (∀ m : Nat, InK k (m : Int) ↔ m < 2 ^ t) ∧ t ≤ k.bits := by
  cases k
  · exact ⟨7, fun m => by simp only [InK]; omega, by simp [IntKind.bits]⟩
  · exact ⟨15, fun m => by simp only [InK]; omega, by simp [IntKind.bits]⟩
  · exact ⟨31, fun m => by simp only [InK]; omega, by simp [IntKind.bits]⟩
  · exact ⟨63, fun m => by simp only [InK]; omega, by simp [IntKind.bits]⟩
  · exact ⟨8, fun m => by simp only [InK]; omega, by simp [IntKind.bits]⟩
  · exact ⟨16, fun m => by simp only [InK]; omega, by simp [IntKind.bits]⟩
  · exact ⟨32, fun m => by simp only [InK]; omega, by simp [IntKind.bits]⟩
  · exact ⟨64, fun m => by simp only [InK]; omega, by simp [IntKind.bits]⟩

theorem bits_run {k : IntKind} {a b : Int} (ha : 0 ≤ a) (hb : 0 ≤ b) (hka : InK k a) (hkb : InK k b) (w : World) :
    (Op.intBits .and k a b).run P w = .ok (.int k ((a.toNat &&& b.toNat : Nat) : Int)) w ∧
    (Op.intBits .or k a b).run P w = .ok (.int k ((a.toNat ||| b.toNat : Nat) : Int)) w ∧
    (Op.intBits .xor k a b).run P w = .ok (.int k ((a.toNat ^^^ b.toNat : Nat) : Int)) w ∧
    (Op.intBits .andNot k a b).run P w = .ok (.int k ((a.toNat ^^^ (a.toNat &&& b.toNat) : Nat) : Int)) w := by
  obtain ⟨t, ht, htk⟩ := InK_pow (k := k)
  have ea : InK k (a.toNat : Int) := by rw [Int.toNat_of_nonneg ha]; exact hka
  have eb : InK k (b.toNat : Int) := by rw [Int.toNat_of_nonneg hb]; exact hkb
  have la := (ht _).1 ea
  have lb := (ht _).1 eb
  have hp : 2 ^ t ≤ 2 ^ k.bits := Nat.pow_le_pow_right (by omega) htk
  have na := ofInt_nonneg k.bits a ha (by omega)
  have nb := ofInt_nonneg k.bits b hb (by omega)
  have fin : ∀ m : Nat, m < 2 ^ t → k.wrap (m : Int) = m := fun m hm => wrap_of_InK ((ht m).2 hm)
  refine ⟨?_, ?_, ?_, ?_⟩
  · show Result.ok _ _ = _
    rw [BitVec.toNat_and, na, nb, fin _ (Nat.lt_of_le_of_lt Nat.and_le_left la)]
  · show Result.ok _ _ = _
    rw [BitVec.toNat_or, na, nb, fin _ (Nat.or_lt_two_pow la lb)]
  · show Result.ok _ _ = _
    rw [BitVec.toNat_xor, na, nb, fin _ (Nat.xor_lt_two_pow la lb)]
  · show Result.ok _ _ = _
    have e : (BitVec.ofInt k.bits a &&& ~~~(BitVec.ofInt k.bits b)) = (BitVec.ofInt k.bits a ^^^ (BitVec.ofInt k.bits a &&& BitVec.ofInt k.bits b)) := by
      ext i hi
      simp
      cases (BitVec.ofInt k.bits a)[i] <;> cases (BitVec.ofInt k.bits b)[i] <;> rfl
    rw [e, BitVec.toNat_xor, BitVec.toNat_and, na, nb, fin _ (Nat.xor_lt_two_pow la (Nat.lt_of_le_of_lt Nat.and_le_left la))]

theorem dint_sound {op : BinOp} {k : IntKind} {a b : Int} {vc : Prop} {d : D} (h : dint op k a b = some (vc, d)) (hvc : vc) (hsh : op ≠ .shl ∧ op ≠ .shr) (t : TypeId) (w : World) :
    ∃ y, (binOp op t (.int k a) (.int k b)).run P w = .ok y w ∧ d = .c (.v y) ∧ one y = true := by
  cases op <;> simp only [dint, Option.some.injEq, Prod.mk.injEq, reduceCtorEq] at h <;> (try (obtain ⟨rfl, rfl⟩ := h)) <;> first
    | exact absurd rfl hsh.1
    | exact absurd rfl hsh.2
    | (refine ⟨_, ?_, rfl, rfl⟩
       simp only [binOp, ne_eq, not_true_eq_false, if_false]
       first
         | exact (bits_run hvc.1.1 hvc.1.2 hvc.2.1 hvc.2.2 w).1
         | exact (bits_run hvc.1.1 hvc.1.2 hvc.2.1 hvc.2.2 w).2.1
         | exact (bits_run hvc.1.1 hvc.1.2 hvc.2.1 hvc.2.2 w).2.2.1
         | exact (bits_run hvc.1.1 hvc.1.2 hvc.2.1 hvc.2.2 w).2.2.2
         | (simp only [Op.intArith, wrap_of_InK hvc]; rfl)
         | (simp only [Op.intCmp]; rfl)
         | (have h0 : ¬ (b = 0) := by omega
            simp only [Op.intDiv, if_neg h0, Int.tmod_eq_emod_of_nonneg hvc.1]; rfl)
         | (have h0 : ¬ (b = 0) := by omega
            have hb : InK k (a / b) := by
              have h1 : 0 ≤ a / b := Int.ediv_nonneg hvc.1.1 (by omega)
              have h2 : a / b ≤ a := Int.ediv_le_self b hvc.1.1
              have := hvc.2
              cases k <;> simp only [InK] at this ⊢ <;> omega
            simp only [Op.intDiv, if_neg h0, Int.tdiv_eq_ediv_of_nonneg hvc.1.1, wrap_of_InK hb]; rfl))

theorem dshift_sound {op : BinOp} {k k' : IntKind} {a b : Int} {vc : Prop} {d : D} (h : dshift op k a b = some (vc, d)) (hvc : vc) (t : TypeId) (w : World) :
    ∃ y, (binOp op t (.int k a) (.int k' b)).run P w = .ok y w ∧ d = .c (.v y) ∧ one y = true := by
  cases op <;> simp only [dshift, Option.some.injEq, Prod.mk.injEq, reduceCtorEq] at h
  · obtain ⟨rfl, rfl⟩ := h
    refine ⟨_, ?_, rfl, rfl⟩
    have h0 : ¬ (b < 0) := by omega
    have hm : min b.toNat k.bits = b.toNat := by omega
    simp only [binOp, Op.shift, if_neg h0, hm, wrap_of_InK hvc.2]
    rfl
  · obtain ⟨rfl, rfl⟩ := h
    refine ⟨_, ?_, rfl, rfl⟩
    have h0 : ¬ (b < 0) := by omega
    have hm : min b.toNat k.bits = b.toNat := by omega
    have hp : (0 : Int) ≤ 2 ^ b.toNat := Int.le_of_lt (Int.pow_pos (by omega))
    simp only [binOp, Op.shift, if_neg h0, hm]
    rw [Int.fdiv_eq_ediv_of_nonneg _ hp]
    rfl

theorem dstr_sound {op : BinOp} {a b : ByteArray} {vc : Prop} {d : D} (h : dstr op a b = some (vc, d)) (hvc : vc) (t : TypeId) (w : World) :
    ∃ y, (binOp op t (.string a) (.string b)).run P w = .ok y w ∧ d = .c (.v y) ∧ one y = true := by
  cases op <;> simp only [dstr, Option.some.injEq, Prod.mk.injEq, reduceCtorEq] at h <;> (obtain ⟨rfl, rfl⟩ := h) <;> refine ⟨_, ?_, rfl, rfl⟩ <;> simp only [binOp, Op.stringOp]
  · rw [if_neg (by simp [IntKind.max, IntKind.signed, IntKind.bits]; omega)]
    rfl
  · rfl
  · rfl

end
end Go.CT

namespace Go.CT

def tbool (P : Program) (t : TypeId) : Bool := match P.underlying t with | some .bool => true | _ => false
def tstring (P : Program) (t : TypeId) : Bool := match P.underlying t with | some .string => true | _ => false

/-- One cell, or several, out of a list of cells. -/
def grab (cs : List C) (off n : Nat) (g : Bool) : Option (Prop × D) :=
  match g with
  | true => some (off + n ≤ cs.length, .agg ((cs.drop off).take n))
  | false => match n with
    | 1 => (match cs[off]? with | some c => some (True, .c c) | none => none)
    | _ => none

/-- How long a slice or a string is. -/
def islen (P : Program) (t : TypeId) : D → Option Nat
  | .c (.isl _ xs) => if (tslice P t).isSome then some xs.length else none
  | .c (.msl _ _ _ len) => if (tslice P t).isSome then some len else none
  | .c (.v (.string s)) => if tstring P t then some s.size else none
  | .c (.v (.slice none 0 0)) => if (tslice P t).isSome then some 0 else none
  | .c .z => if (tslice P t).isSome then some 0 else none
  | _ => none

/-- A new struct value: zero cells, the given parts laid over. -/
def putCells (cs : List C) (off : Nat) : List C → List C
  | [] => cs
  | c :: r => putCells (cs.set off c) (off + 1) r

def bld (P : Program) (s : TypeId) (e : Operand → Option D) : List (Nat × Operand) → List C → Option (List C)
  | [], cs => some cs
  | (f, x) :: r, cs =>
    match tfield P s f with
    | some (o, ft) => (match e x with
      | some d => (match d.cells with
        | some ds => if tsz P ft = some ds.length ∧ o + ds.length ≤ cs.length then bld P s e r (putCells cs o ds) else none
        | none => none)
      | none => none)
    | none => none

/-- The zero cells of a struct type. -/
def tstruct (P : Program) (t : TypeId) : Option (List Value) :=
  match P.underlying t with
  | some (.struct fs) => if fs.toList.all (fun x => (tsz P x.type).isSome) then (match tzero P t with | some zs => if zs.all one then some zs else none | none => none) else none
  | _ => none

/-- A bound of a slice expression: none stands for what it is left out for. -/
def bnd (e : Operand → Option D) (x : Option Operand) (dflt : Int) : Option Int :=
  match x with
  | none => some dflt
  | some x => (match e x with | some (.c (.v (.int _ n))) => some n | _ => none)

/-- Each of one cell. -/
def cellsOf (e : Operand → Option D) : List Operand → Option (List C)
  | [] => some []
  | x :: r => (match e x, cellsOf e r with | some (.c c), some cs => some (c :: cs) | _, _ => none)

/-- '==' of two lists of numbers. -/
def sameInts : List C → List C → Option Bool
  | [], [] => some true
  | .v (.int k a) :: r, .v (.int k' b) :: r' => if k = k' then (sameInts r r').map fun q => decide (a = b) && q else none
  | _, _ => none
/-- A slice compared with nil. -/
def dnil : D → Option (Prop × Bool)
  | .c (.isl _ xs) => some (xs ≠ [], false)
  | .c (.msl _ _ _ len) => some (0 < len, false)
  | .c (.v (.slice a _ _)) => some (True, a.isNone)
  | _ => none
def fieldsInts (P : Program) : Nat → List Field → Option (List IntKind)
  | _, [] => some []
  | i, f :: r => if f.name ≠ "_" ∧ f.offset = i then (match tint P f.type, fieldsInts P (i + 1) r with | some k, some ks => some (k :: ks) | _, _ => none) else none

def tints (P : Program) (t : TypeId) : Option Nat :=
  match P.underlying t with
  | some (.struct fs) => if P.stoodInHeld t = false ∧ P.eqGuardType P.depth t = false then (fieldsInts P 0 fs.toList).map (·.length) else none
  | _ => none

def pop (P : Program) (e : Operand → Option D) (hp : Hp) : Op → Option (Prop × D)
  | .move x | .assign x => (match e x with | some d => some (True, d) | none => none)
  | .load t x => (match e x, tagg P t, tsz P t with
    | some (.c (.ptr k off)), some g, some n => (match hp k with | some (some cs) => grab cs off n g | _ => none)
    | some (.c (.eptr cs)), some g, some n => grab cs 0 n g
    | _, _, _ => none)
  | .nilCheck x => (match e x with
    | some (.c (.ptr k off)) => some (True, .c (.ptr k off))
    | some (.c (.eptr cs)) => some (True, .c (.eptr cs))
    | some (.c (.clo f cs)) => some (True, .c (.clo f cs))
    | some (.c (.met f cs)) => some (True, .c (.met f cs))
    | _ => none)
  | .binOp op t x y _ => (match e x, e y with
    | some (.c (.v (.bool a))), some (.c (.v (.bool b))) => if tbool P t = true then dbin op (DB a) (DB b) else none
    | some (.agg as), some (.agg bs) => (match tints P t, sameInts as bs with
      | some n, some q => if as.length = n then (match op with | .eql => some (True, DB q) | .neq => some (True, DB (!q)) | _ => none) else none
      | _, _ => none)
    | some dx, some (.c (.v (.slice none _ _))) => if (tslice P t).isSome then (match dnil dx, op with
      | some (vc, q), .eql => some (vc, DB q)
      | some (vc, q), .neq => some (vc, DB (!q))
      | _, _ => none) else none
    | some dx, some dy => (match dx, dy with
      | .c (.v (.bool _)), _ => none
      | dx, dy => dbin op dx dy)
    | _, _ => none)
  | .unOp op _ x => (match e x with | some dx => dun op dx | none => none)
  | .convert src dst x => (match e x, P.underlying src, P.underlying dst with
    | some (.c (.v (.int k n))), some (.int _), some (.int k') => some (InK k' n, DI k' n)
    | _, _, _ => none)
  | .fieldAddr s x f => (match e x, tfield P s f with
    | some (.c (.ptr k off)), some (o, _) => some (True, .c (.ptr k (off + o)))
    | some (.c (.eptr cs)), some (o, _) => some (o ≤ cs.length, .c (.eptr (cs.drop o)))
    | _, _ => none)
  | .field s x f => (match e x, tfield P s f with
    | some (.agg cs), some (o, ft) => (match tagg P ft, tsz P ft with
      | some g, some n => grab cs o n g
      | _, _ => none)
    | _, _ => none)
  | .indexAddr t x ix => (match e x, e ix, (tslice P t).bind (tsz P) with
    | some (.c (.isl sz xs)), some (.c (.v (.int _ i))), some n => (match xs[i.toNat]? with
      | some cs => some (0 ≤ i ∧ sz = n, .c (.eptr cs))
      | none => none)
    | some (.c (.msl k sz off len)), some (.c (.v (.int _ i))), some n => some ((0 ≤ i ∧ i < len) ∧ sz = n, .c (.ptr k (off + i.toNat * sz)))
    | _, _, _ => none)
  | .index t x ix => (match e x, e ix with
    | some (.c (.v (.string s))), some (.c (.v (.int _ i))) => if tstring P t = true then some (0 ≤ i ∧ i < s.size, DI .u8 (s.data.toList.getD i.toNat 0).toNat) else none
    | _, _ => none)
  | .extract x i => (match e x with
    | some (.tup ds) => (match ds[i]? with | some d => some (True, d) | none => none)
    | _ => none)
  | .call c => (match c.callee with
    | .builtin .len => (match c.args.toList, c.argTypes.toList with
      | [x], [t] => (match e x with
        | some d => (match islen P t d with
          | some n => some (True, DI .i64 n)
          | none => none)
        | none => none)
      | _, _ => none)
    | _ => none)
  | .slice t x lo hi none => (match e x with
    | some (.c (.v (.string s))) => (match bnd e lo 0, bnd e hi s.size with
      | some l, some h => if tstring P t = true then some ((0 ≤ l ∧ l ≤ h) ∧ h ≤ s.size, DS (s.extract l.toNat h.toNat)) else none
      | _, _ => none)
    | some (.c (.isl sz xs)) => (match bnd e lo 0, bnd e hi xs.length, (tslice P t).bind (tsz P) with
      | some l, some h, some n => some (((0 ≤ l ∧ l ≤ h) ∧ h ≤ xs.length) ∧ sz = n, .c (.isl sz ((xs.drop l.toNat).take (h.toNat - l.toNat))))
      | _, _, _ => none)
    | some (.c (.msl k sz off len)) => (match bnd e lo 0, bnd e hi len, (tslice P t).bind (tsz P) with
      | some l, some h, some n => some (((0 ≤ l ∧ l ≤ h) ∧ h ≤ len) ∧ (l = 0 ∨ l < h) ∧ sz = n, .c (.msl k sz (off + l.toNat * sz) (h.toNat - l.toNat)))
      | _, _, _ => none)
    | _ => none)
  | .slice t x none (some hi) (some mx) => (match e x, e hi, e mx with
    | some (.c c), some (.c (.v (.int _ 0))), some (.c (.v (.int _ 0))) => (match c with
      | .isl _ _ | .msl _ _ _ _ | .z | .v (.slice none 0 0) => if ((tslice P t).bind (tsz P)).isSome then some (True, .c .z) else none
      | _ => none)
    | _, _, _ => none)
  | .makeFunc (.func f) first caps => (match first.toList with
    | [] => (match cellsOf e caps.toList with
      | some cs => some (True, .c (.clo f cs))
      | none => none)
    | [x] => (match e x, caps.toList with
      | some (.agg cs), [] => if kfs cs = true then some (True, .c (.met f cs)) else none
      | _, _ => none)
    | _ => none)
  | .build t ps => (match tstruct P t with
    | some zs => (match bld P t e ps.toList (zs.map .v) with | some cs => some (True, .agg cs) | none => none)
    | none => none)
  | _ => none

section
variable {P : Program}

theorem rd_ptr {I : Nat → Prop} {w : World} {s : Sg} {x : Value} {k off : Nat} (h : RD I w s x (.c (.ptr k off))) : ∃ b, s k = some (some b) ∧ x = .pointer (some ⟨b, off, none⟩) := by
  cases h with | c _ _ h => cases h with | ptr _ _ b _ h => exact ⟨b, h, rfl⟩

theorem rd_eptr {I : Nat → Prop} {w : World} {s : Sg} {x : Value} {cs : List C} (h : RD I w s x (.c (.eptr cs))) : ∃ (b off : Nat) (y : Nat → Value), x = .pointer (some ⟨b, off, none⟩) ∧ I b ∧
    (∀ j, j < cs.length → w.cell? ⟨b, off + j, none⟩ = some (y j)) ∧ ∀ j (hj : j < cs.length), RC I w Sg0 (y j) cs[j] := by
  cases h with | c _ _ h => cases h with | eptr _ b off _ y hI hc hr => exact ⟨b, off, y, rfl, hI, hc, hr⟩

theorem RC.any {I : Nat → Prop} {w : World} {x : Value} {c : C} (h : RC I w Sg0 x c) (s : Sg) : RC I w s x c :=
  h.mono (fun _ h => h) (fun _ _ => rfl) (Shp.refl w) (Sg0.le s)

theorem grab_sound {t : TypeId} {g : Bool} {n : Nat} (ht : tagg P t = some g) (hn : tsz P t = some n) {I : Nat → Prop} {w : World} {s : Sg} {cs : List C} {off b o : Nat} {vc : Prop} {d : D}
    (h : grab cs off n g = some (vc, d)) (hvc : vc) (hc : ∀ j (h : j < cs.length), ∃ y, w.cell? ⟨b, o + j, none⟩ = some y ∧ RC I w s y cs[j]) :
    ∃ v, (Instr.loadAt t (.pointer (some ⟨b, o + off, none⟩))).run P w = .ok v w ∧ RD I w s v d := by
  cases g with
  | true =>
    simp only [grab, Option.some.injEq, Prod.mk.injEq] at h
    obtain ⟨rfl, rfl⟩ := h
    have hy : ∀ j, ∃ y, (h : j < n) → w.cell? ⟨b, o + off + j, none⟩ = some y ∧ RC I w s y (cs[off + j]'(by omega)) := by
      intro j
      by_cases h : j < n
      · obtain ⟨y, h1, h2⟩ := hc (off + j) (by omega)
        exact ⟨y, fun _ => ⟨by rw [Nat.add_assoc]; exact h1, h2⟩⟩
      · exact ⟨undef, fun h' => absurd h' h⟩
    let y := fun j => (hy j).choose
    have hys := fun j => (hy j).choose_spec
    refine ⟨_, run_loadVar ht hn b (o + off) y w (fun j h => (hys j h).1) (fun h => by cases h), ?_⟩
    simp only [if_true]
    refine .agg _ _ (by simp; omega) fun j h1 h2 => ?_
    have hj : j < n := by simpa using h1
    have := (hys j hj).2
    simpa [y] using this
  | false =>
    unfold grab at h
    simp only at h
    split at h
    · rename_i _ _
      split at h
      · rename_i c hcc
        simp only [Option.some.injEq, Prod.mk.injEq] at h
        obtain ⟨rfl, rfl⟩ := h
        obtain ⟨hlt, hcc'⟩ := List.getElem?_eq_some_iff.1 hcc
        obtain ⟨y, h1, h2⟩ := hc off hlt
        refine ⟨_, run_loadVar ht hn b (o + off) (fun _ => y) w (fun j h => ?_) (fun _ => rfl), ?_⟩
        · have : j = 0 := by omega
          subst this
          exact h1
        · simp only [Bool.false_eq_true, if_false]
          exact .c _ _ (hcc' ▸ h2)
      · cases h
    · cases h

theorem live_cells {I : Nat → Prop} {w : World} {s : Sg} {hp : Hp} (H : SimH I w s hp) {k b : Nat} {cs : List C} (hk : hp k = some (some cs)) (hs : s k = some (some b)) :
    ∃ arr T, w.heap[b]? = some (.cells arr T (0, 0)) ∧ cs.length ≤ arr.size ∧ ∀ j (h : j < cs.length), ∃ y, arr[j]? = some y ∧ RC I w s y cs[j] := by
  rcases H.blk k cs hk with ⟨h1, _⟩ | ⟨b', arr, T, h1, h2, h3, h4, h5⟩
  · rw [hs] at h1; cases h1
  · rw [hs] at h1
    simp only [Option.some.injEq] at h1
    subst h1
    exact ⟨arr, T, h2, h3, h5⟩

theorem part_sound {t : TypeId} {g : Bool} {n : Nat} (ht : tagg P t = some g) (hn : tsz P t = some n) {I : Nat → Prop} {w : World} {s : Sg} {cs : List C} {off : Nat} {vs : Array Value} {vc : Prop} {d : D}
    (h : grab cs off n g = some (vc, d)) (hvc : vc) (hl : vs.size = cs.length) (hr : ∀ j (h : j < vs.size) (h' : j < cs.length), RC I w s vs[j] cs[j]) :
    ∃ v, (part t vs off).run P w = .ok v w ∧ RD I w s v d := by
  simp only [part]
  rw [run_bind _ _ _ _ _ (run_isAgg ht w)]
  cases g with
  | true =>
    simp only [grab, Option.some.injEq, Prod.mk.injEq] at h
    obtain ⟨rfl, rfl⟩ := h
    simp only [if_true]
    rw [run_bind _ _ _ _ _ (run_sizeOf hn w)]
    refine ⟨_, rfl, .agg _ _ (by simp; omega) fun j h1 h2 => ?_⟩
    simp at h1 h2
    simpa using hr (off + j) (by omega) (by omega)
  | false =>
    unfold grab at h
    simp only at h
    split at h
    · split at h
      · rename_i c hcc
        simp only [Option.some.injEq, Prod.mk.injEq] at h
        obtain ⟨rfl, rfl⟩ := h
        obtain ⟨hlt, hcc'⟩ := List.getElem?_eq_some_iff.1 hcc
        simp only [Bool.false_eq_true, if_false]
        have : vs[off]? = some (vs[off]'(by omega)) := by simp
        rw [this]
        exact ⟨_, rfl, .c _ _ (hcc' ▸ hr off (by omega) hlt)⟩
      · cases h
    · cases h

theorem run_v {s : Sem Value} {x : Value} {w w' : World} (h : s.run P w = .ok x w') : (do pure (Next.value (← s)) : Sem Next).run P w = .ok (.value x) w' := by
  rw [run_bind _ _ _ _ _ h]; rfl

theorem fieldPlace_run {st : TypeId} {f o : Nat} {ft : TypeId} (h : tfield P st f = some (o, ft)) (b off : Nat) (w : World) :
    (Instr.fieldAt st (.pointer (some ⟨b, off, none⟩)) f).run P w = .ok (.pointer (some ⟨b, off + o, none⟩)) w := by
  unfold tfield at h
  split at h
  · rename_i fs hu
    simp only [Option.bind_eq_some_iff] at h
    obtain ⟨x, hx, h⟩ := h
    split at h
    · rename_i n hn
      simp only [Option.some.injEq, Prod.mk.injEq] at h
      obtain ⟨rfl, rfl⟩ := h
      simp only [Instr.fieldAt]
      rw [run_bind _ _ _ _ _ (run_underlying hu w)]
      simp only [hx]
      rw [run_bind (x := (⟨b, off, none⟩ : Addr)) (w' := w) _ _ _ (by rfl)]
      simp only [fieldPlace]
      rw [run_bind (x := (⟨b, off + x.offset, none⟩ : Addr)) (w' := w)]
      · rfl
      · rw [run_bind _ _ _ _ _ (run_sizeOf hn w)]
        simp [add_plain, run_pure]
    · cases h
  · cases h

theorem tfield_parts {st : TypeId} {f o : Nat} {ft : TypeId} (h : tfield P st f = some (o, ft)) : ∃ fs x, P.underlying st = some (.struct fs) ∧ fs[f]? = some x ∧ x.offset = o ∧ x.type = ft := by
  unfold tfield at h
  split at h
  · rename_i fs hu
    simp only [Option.bind_eq_some_iff] at h
    obtain ⟨x, hx, h⟩ := h
    split at h
    · simp only [Option.some.injEq, Prod.mk.injEq] at h
      exact ⟨fs, x, hu, hx, h.1, h.2⟩
    · cases h
  · cases h

end
end Go.CT

namespace Go.CT

section
variable {P : Program}

theorem rd_isl {I : Nat → Prop} {w : World} {s : Sg} {x : Value} {sz : Nat} {xs : List (List C)} (h : RD I w s x (.c (.isl sz xs))) :
    ∃ a cap, x = .slice a xs.length cap ∧ (xs.length ≤ cap ∧ xs.length ≤ mx) ∧ (xs = [] ∨ ∃ (b off : Nat) (y : Nat → Nat → Value), a = some ⟨b, off, none⟩ ∧ I b ∧ (∀ i (h : i < xs.length), (xs[i]).length = sz) ∧
      (∀ i j, i < xs.length → j < sz → w.cell? ⟨b, off + i * sz + j, none⟩ = some (y i j)) ∧ ∀ i (h : i < xs.length) j (h' : j < (xs[i]).length), RC I w Sg0 (y i j) (xs[i])[j]) := by
  cases h with
  | c _ _ h =>
    cases h with
    | isl0 _ a cap _ => exact ⟨a, cap, rfl, ⟨Nat.zero_le _, Nat.zero_le _⟩, .inl rfl⟩
    | isl _ b off cap _ _ y hI hl hc hr hcap => exact ⟨_, cap, rfl, hcap, .inr ⟨b, off, y, rfl, hI, hl, hc, hr⟩⟩

theorem rd_msl {I : Nat → Prop} {w : World} {s : Sg} {x : Value} {k sz off len : Nat} (h : RD I w s x (.c (.msl k sz off len))) :
    (∃ a, x = .slice a 0 0 ∧ s k = some none ∧ off = 0 ∧ len = 0) ∨
    ∃ (b cap : Nat) (arr : Array Value) (T : TypeId) (fr : Nat × Nat), x = .slice (some ⟨b, off, none⟩) len cap ∧ s k = some (some b) ∧ (len ≤ cap ∧ len ≤ mx) ∧ w.heap[b]? = some (.cells arr T fr) ∧ off + cap * sz ≤ arr.size := by
  cases h with
  | c _ _ h =>
    cases h with
    | msl0 _ a _ _ h => exact .inl ⟨a, rfl, h, rfl, rfl⟩
    | msl _ _ b _ _ _ cap arr T fr h hlen hb hcap => exact .inr ⟨b, cap, arr, T, fr, rfl, h, hlen, hb, hcap⟩

theorem und_string {t : TypeId} (h : tstring P t = true) : P.underlying t = some .string := by
  unfold tstring at h
  split at h
  · rename_i hh; exact hh
  · cases h

theorem rd_z {I : Nat → Prop} {w : World} {s : Sg} {x : Value} (h : RD I w s x (.c .z)) : ∃ a, x = .slice a 0 0 := by
  cases h with | c _ _ h => cases h with | z _ a => exact ⟨a, rfl⟩

theorem islen_sound {I : Nat → Prop} {w : World} {s : Sg} {x : Value} {d : D} {n : Nat} {t : TypeId} (h : RD I w s x d) (hn : islen P t d = some n) :
    (∃ a cap el, x = .slice a n cap ∧ P.underlying t = some (.slice el)) ∨ ∃ b, x = .string b ∧ b.size = n ∧ P.underlying t = some .string := by
  unfold islen at hn
  split at hn
  · split at hn
    · rename_i ht
      obtain ⟨el, hel⟩ := Option.isSome_iff_exists.1 ht
      obtain ⟨a, cap, h1, _⟩ := rd_isl h
      simp only [Option.some.injEq] at hn
      exact .inl ⟨a, cap, el, hn ▸ h1, und_slice hel⟩
    · cases hn
  · split at hn
    · rename_i ht
      obtain ⟨el, hel⟩ := Option.isSome_iff_exists.1 ht
      simp only [Option.some.injEq] at hn
      rcases rd_msl h with ⟨a, h1, _, _, h2⟩ | ⟨b, cap, _, _, _, h1, _⟩
      · exact .inl ⟨a, 0, el, by rw [h1, ← hn, h2], und_slice hel⟩
      · exact .inl ⟨_, cap, el, hn ▸ h1, und_slice hel⟩
    · cases hn
  · split at hn
    · rename_i ht
      obtain ⟨h1, _⟩ := rd_scalar h
      simp only [Option.some.injEq] at hn
      exact .inr ⟨_, h1, hn, und_string ht⟩
    · cases hn
  · split at hn
    · rename_i ht
      obtain ⟨el, hel⟩ := Option.isSome_iff_exists.1 ht
      obtain ⟨h1, _⟩ := rd_scalar h
      simp only [Option.some.injEq] at hn
      exact .inl ⟨none, 0, el, by rw [h1, ← hn], und_slice hel⟩
    · cases hn
  · split at hn
    · rename_i ht
      obtain ⟨el, hel⟩ := Option.isSome_iff_exists.1 ht
      obtain ⟨a, h1⟩ := rd_z h
      simp only [Option.some.injEq] at hn
      exact .inl ⟨a, 0, el, by rw [h1, ← hn], und_slice hel⟩
    · cases hn
  · cases hn

/-- Values read as cells, one by one. -/
def RCs (I : Nat → Prop) (w : World) (s : Sg) (arr : Array Value) (cs : List C) : Prop := arr.size = cs.length ∧ ∀ j (h : j < arr.size) (h' : j < cs.length), RC I w s arr[j] cs[j]

theorem rd_clo {I : Nat → Prop} {w : World} {s : Sg} {x : Value} {f : FuncId} {cs : List C} (h : RD I w s x (.c (.clo f cs))) :
    ∃ vs, x = .func (.func f) #[] vs ∧ RCs I w s vs cs := by
  cases h with | c _ _ h => cases h with | clo _ _ _ vs hl hr => exact ⟨vs, rfl, hl, hr⟩

theorem rd_met {I : Nat → Prop} {w : World} {s : Sg} {x : Value} {f : FuncId} {cs : List C} (h : RD I w s x (.c (.met f cs))) :
    ∃ vs, x = .func (.func f) #[.agg vs] #[] ∧ RCs I w Sg0 vs cs := by
  cases h with | c _ _ h => cases h with | met _ _ _ vs hl hr => exact ⟨vs, rfl, hl, hr⟩
theorem RC.kf0 {I : Nat → Prop} {w : World} {s : Sg} {x : Value} {c : C} (h : RC I w s x c) (hk : kf c = true) : RC I w Sg0 x c := by
  cases h with
  | v _ _ h1 => exact .v _ _ h1
  | unk _ _ h1 => exact .unk _ _ h1
  | z _ a => exact .z _ a
  | isl0 _ a cap sz => exact .isl0 _ a cap sz
  | isl _ b off cap sz xs y hI hl hc hr hcap => exact .isl _ b off cap sz xs y hI hl hc hr hcap
  | eptr _ b off cs y hI hc hr => exact .eptr _ b off cs y hI hc hr
  | met _ f cs vs hl hr => exact .met _ f cs vs hl hr
  | _ => simp [kf] at hk
theorem kfs_get : ∀ {cs : List C}, kfs cs = true → ∀ j (h : j < cs.length), kf cs[j] = true
  | c :: r, h, 0, _ => by simp only [kfs, Bool.and_eq_true] at h; exact h.1
  | c :: r, h, j + 1, h2 => by simp only [kfs, Bool.and_eq_true] at h; exact kfs_get h.2 j (by simpa using h2)

theorem putCells_length : ∀ (ds cs : List C) (off : Nat), (putCells cs off ds).length = cs.length
  | [], _, _ => rfl
  | d :: r, cs, off => by simp only [putCells]; rw [putCells_length r]; simp

theorem putCells_get : ∀ (ds cs : List C) (off j : Nat), off + ds.length ≤ cs.length →
    (putCells cs off ds)[j]? = if off ≤ j ∧ j < off + ds.length then ds[j - off]? else cs[j]?
  | [], cs, off, j, _ => by simp only [putCells, List.length_nil]; rw [if_neg (by omega)]
  | d :: r, cs, off, j, h => by
    simp only [List.length_cons] at h
    simp only [putCells]
    rw [putCells_get r _ _ _ (by simp; omega)]
    simp only [List.length_cons, List.getElem?_set]
    by_cases e : j = off
    · subst e
      rw [if_neg (by omega), if_pos rfl, if_pos (by omega), if_pos (by omega)]
      simp
    · by_cases h2 : off + 1 ≤ j ∧ j < off + 1 + r.length
      · rw [if_pos h2, if_pos (by omega)]
        rw [show j - off = (j - (off + 1)) + 1 from by omega, List.getElem?_cons_succ]
      · rw [if_neg h2, if_neg (fun e' => e e'.symm), if_neg (by omega)]

theorem RCs.get {I : Nat → Prop} {w : World} {s : Sg} {arr : Array Value} {cs : List C} (h : RCs I w s arr cs) {j : Nat} {v : Value} {c : C} (hv : arr[j]? = some v) (hc : cs[j]? = some c) : RC I w s v c := by
  obtain ⟨h1, e1⟩ := Array.getElem?_eq_some_iff.1 hv
  obtain ⟨h2, e2⟩ := List.getElem?_eq_some_iff.1 hc
  rw [← e1, ← e2]
  exact h.2 j h1 h2

theorem RCs.put {I : Nat → Prop} {w : World} {s : Sg} {arr : Array Value} {cs : List C} (h : RCs I w s arr cs) {x : Array Value} {ds : List C} (hx : RCs I w s x ds) {off : Nat} (ho : off + ds.length ≤ cs.length) :
    RCs I w s (setCells arr off x.toList) (putCells cs off ds) := by
  have hxl : x.toList.length = ds.length := by simpa using hx.1
  refine ⟨by rw [size_setCells, putCells_length, h.1], fun j h1 h2 => ?_⟩
  have g1 := get_setCells x.toList arr off j (by rw [hxl, h.1]; exact ho)
  have g2 := putCells_get ds cs off j ho
  rw [hxl] at g1
  have e1 : (setCells arr off x.toList)[j]? = some (setCells arr off x.toList)[j] := by simp [h1]
  have e2 : (putCells cs off ds)[j]? = some (putCells cs off ds)[j] := by simp [h2]
  rw [e1] at g1
  rw [e2] at g2
  by_cases hj : off ≤ j ∧ j < off + ds.length
  · rw [if_pos hj] at g1 g2
    exact hx.get (by rw [Array.getElem?_toList] at g1; exact g1.symm) g2.symm
  · rw [if_neg hj] at g1 g2
    exact h.get g1.symm g2.symm

theorem fill_foldl (x : Array Value) (off : Nat) : ∀ (l : List Value) (i : Nat) (arr : Array Value),
    (l.zipIdx i).foldl (fun cs (p : Value × Nat) => cs.setIfInBounds (off + p.2) p.1) arr = setCells arr (off + i) l
  | [], _, _ => rfl
  | v :: r, i, arr => by
    simp only [List.zipIdx_cons, List.foldl_cons, setCells]
    rw [fill_foldl x off r (i + 1)]
    rfl

theorem fill_cons (place : Nat → Option (Nat × Nat)) (cells : Array Value) (i : Nat) (v : Value) (rest : List (Nat × Value)) (off size : Nat) (hp : place i = some (off, size)) (hs : v.cells.size = size)
    (hl : off + v.cells.size ≤ cells.size) : Instr.fill place cells ((i, v) :: rest) = Instr.fill place (setCells cells off v.cells.toList) rest := by
  simp only [Instr.fill, hp]
  have hneg : ¬ ((decide (v.cells.size ≠ size) || decide (off + v.cells.size > cells.size)) = true) := by
    simp only [Bool.or_eq_true, decide_eq_true_eq]
    rintro (h | h)
    · exact h hs
    · omega
  rw [if_neg hneg]
  congr 1
  have := fill_foldl v.cells off v.cells.toList 0 cells
  rw [Nat.add_zero] at this
  rw [← this, ← Array.foldl_toList]
  simp

theorem bld_sound {I : Nat → Prop} {w : World} {s : Sg} {e : Operand → Option D} {ρ : Operand → Value} (he : ∀ x d, e x = some d → RD I w s (ρ x) d) {st : TypeId} (fs : Array Field) (hu : P.underlying st = some (.struct fs))
    (place : Nat → Option (Nat × Nat)) (hpl : ∀ f x n, fs[f]? = some x → tsz P x.type = some n → place f = some (x.offset, n)) :
    ∀ (ps : List (Nat × Operand)) (cs cs' : List C) (arr : Array Value), bld P st e ps cs = some cs' → RCs I w s arr cs →
      ∃ arr', Instr.fill place arr (ps.map fun p => (p.1, ρ p.2)) = some arr' ∧ RCs I w s arr' cs'
  | [], cs, cs', arr, h, hr => by
    simp only [bld, Option.some.injEq] at h
    subst h
    exact ⟨arr, rfl, hr⟩
  | (f, x) :: r, cs, cs', arr, h, hr => by
    unfold bld at h
    split at h
    · rename_i o ft hf
      split at h
      · rename_i d hd
        split at h
        · rename_i ds hds
          split at h
          · rename_i hc
            obtain ⟨fs', fx, hu', hx, ho, hft⟩ := tfield_parts hf
            rw [hu] at hu'
            simp only [Option.some.injEq, TypeDesc.struct.injEq] at hu'
            subst hu'
            have hrd := (he x d hd).cells hds
            have hv : RCs I w s (ρ x).cells ds := hrd
            have hpf := hpl f fx ds.length hx (by rw [hft]; exact hc.1)
            simp only [List.map_cons]
            rw [fill_cons place arr f (ρ x) _ o ds.length (by rw [hpf, ho]) hrd.1 (by rw [hrd.1, hr.1]; exact hc.2)]
            exact bld_sound he fs hu place hpl r _ cs' _ h (hr.put hv hc.2)
          · cases h
        · cases h
      · cases h
    · cases h

theorem run_mapM_places (fs : List Field) (w : World) (h : ∀ x ∈ fs, (tsz P x.type).isSome) :
    ∃ l : List (Nat × Nat), (fs.mapM (fun f => do pure (f.offset, ← sizeOf f.type) : Field → Sem (Nat × Nat))).run P w = .ok l w ∧ l.length = fs.length ∧
      ∀ (i : Nat) (x : Field) (n : Nat), fs[i]? = some x → tsz P x.type = some n → l[i]? = some (x.offset, n) := by
  induction fs with
  | nil => exact ⟨[], by simp [List.mapM_nil, run_pure], rfl, fun i x n h => by simp at h⟩
  | cons f r ih =>
    obtain ⟨l, hl, hll, hli⟩ := ih fun x hx => h x (by simp [hx])
    obtain ⟨n, hn⟩ := Option.isSome_iff_exists.1 (h f (by simp))
    refine ⟨(f.offset, n) :: l, ?_, by simp [hll], ?_⟩
    · rw [List.mapM_cons]
      rw [run_bind (x := (f.offset, n)) (w' := w)]
      · rw [run_bind _ _ _ _ _ hl]; rfl
      · rw [run_bind _ _ _ _ _ (run_sizeOf hn w)]; rfl
    · intro i x m hx hm
      cases i with
      | zero =>
        simp only [List.getElem?_cons_zero, Option.some.injEq] at hx ⊢
        subst hx
        rw [hn] at hm
        simp only [Option.some.injEq] at hm
        rw [hm]
      | succ i => simpa using hli i x m (by simpa using hx) hm

theorem bnd_sound {I : Nat → Prop} {w : World} {s : Sg} {e : Operand → Option D} {ρ : Operand → Value} (he : ∀ x d, e x = some d → RD I w s (ρ x) d) {x : Option Operand} {dflt n : Int} (h : bnd e x dflt = some n) :
    (x = none ∧ n = dflt) ∨ ∃ y k, x = some y ∧ ρ y = .int k n := by
  unfold bnd at h
  split at h
  · simp only [Option.some.injEq] at h
    exact .inl ⟨rfl, h.symm⟩
  · rename_i y
    split at h
    · rename_i k m hy
      simp only [Option.some.injEq] at h
      subst h
      exact .inr ⟨y, k, rfl, (rd_scalar (he _ _ hy)).1⟩
    · cases h

theorem sliceBound_run {k : IntKind} {i : Int} {y : Nat} {code : BoundsCode} (h0 : 0 ≤ i) (h1 : i ≤ y) (w : World) : (Instr.sliceBound (.int k i) y code).run P w = .ok i.toNat w := by
  simp only [Instr.sliceBound]
  rw [run_bind (x := (k, i)) (w' := w) _ _ _ (by rfl)]
  simp only [h0, h1, and_self, if_true]
  rfl

theorem sliceBounds_run {isSlice : Bool} {len cap : Nat} {lo hi : Option Value} {l h : Int} (hlo : (lo = none ∧ l = 0) ∨ ∃ k, lo = some (.int k l)) (hhi : (hi = none ∧ h = len) ∨ ∃ k, hi = some (.int k h))
    (h0 : 0 ≤ l) (hlh : l ≤ h) (hc : h ≤ cap) (hlc : len ≤ cap) (w : World) : (Instr.sliceBounds isSlice len cap lo hi none).run P w = .ok (l.toNat, h.toNat, cap) w := by
  simp only [Instr.sliceBounds]
  rw [run_bind (x := cap) (w' := w) _ _ _ (by rfl)]
  rcases hhi with ⟨rfl, rfl⟩ | ⟨k, rfl⟩ <;> rcases hlo with ⟨rfl, rfl⟩ | ⟨k', rfl⟩ <;> simp only
  · rw [run_bind (x := len) (w' := w) _ _ _ (by rfl), run_bind (x := 0) (w' := w) _ _ _ (by rfl)]
    simp only [Int.toNat_natCast, Int.toNat_zero]
    rfl
  · rw [run_bind (x := len) (w' := w) _ _ _ (by rfl), run_bind _ _ _ _ _ (sliceBound_run h0 (by omega) w)]
    simp only [Int.toNat_natCast]
    rfl
  · rw [run_bind _ _ _ _ _ (sliceBound_run (by omega) hc w), run_bind (x := 0) (w' := w) _ _ _ (by rfl)]
    simp only [Int.toNat_zero]
    rfl
  · rw [run_bind _ _ _ _ _ (sliceBound_run (by omega) hc w), run_bind _ _ _ _ _ (sliceBound_run h0 (by omega) w)]
    rfl

theorem rd_cell {I : Nat → Prop} {w : World} {s : Sg} {x : Value} {c : C} (h : RD I w s x (.c c)) : RC I w s x c := by
  cases h with | c _ _ h => exact h

theorem cellsOf_sound {I : Nat → Prop} {w : World} {s : Sg} {e : Operand → Option D} {ρ : Operand → Value} (he : ∀ x d, e x = some d → RD I w s (ρ x) d) : ∀ (l : List Operand) (cs : List C), cellsOf e l = some cs →
    RCs I w s (l.map ρ).toArray cs
  | [], cs, h => by
    simp only [cellsOf, Option.some.injEq] at h
    subst h
    exact ⟨rfl, fun j h => by simp at h⟩
  | x :: r, cs, h => by
    simp only [cellsOf] at h
    split at h
    · rename_i c cs' hx hr
      simp only [Option.some.injEq] at h
      subst h
      have ih := cellsOf_sound he r cs' hr
      have h0 : RC I w s (ρ x) c := by
        exact rd_cell (he _ _ hx)
      refine ⟨by have := ih.1; simp at this ⊢; exact this, fun j h1 h2 => ?_⟩
      cases j with
      | zero => simpa using h0
      | succ j =>
        have h3 := ih.2 j (by simpa using h1) (by simpa using h2)
        rw [List.getElem_toArray] at h3
        rw [List.getElem_toArray]
        exact h3
    · cases h

/-! ### '==' of structs of numbers -/

theorem eqFields_run (d : Nat) (xs ys : Array Value) (w : World) : ∀ (fs : List Field) (i : Nat) (ks : List IntKind) (cs ds : List C) (q : Bool), fieldsInts P i fs = some ks → sameInts cs ds = some q → cs.length = ks.length →
    (∀ j (h : j < cs.length), ∃ x, xs[i + j]? = some x ∧ ∀ y, cs[j] = .v y → x = y) → (∀ j (h : j < ds.length), ∃ x, ys[i + j]? = some x ∧ ∀ y, ds[j] = .v y → x = y) →
    (Op.eqFields (d + 1) xs ys fs).run P w = .ok q w
  | [], i, ks, cs, ds, q, h, h2, hl, _, _ => by
    simp only [fieldsInts, Option.some.injEq] at h
    subst h
    have : cs = [] := List.eq_nil_of_length_eq_zero hl
    subst this
    cases ds with
    | nil => simp only [sameInts, Option.some.injEq] at h2; subst h2; rfl
    | cons a r => simp [sameInts] at h2
  | f :: fs, i, ks, cs, ds, q, h, h2, hl, hx, hy => by
    simp only [fieldsInts] at h
    split at h
    · rename_i hf
      split at h
      · rename_i k ks' hk hks
        simp only [Option.some.injEq] at h
        subst h
        match cs, ds, h2 with
        | .v (.int k1 a) :: cs, .v (.int k2 b) :: ds, h2 =>
          simp only [sameInts] at h2
          split at h2
          · rename_i hkk
            subst hkk
            cases hq : sameInts cs ds with
            | none => rw [hq] at h2; cases h2
            | some q' =>
              rw [hq] at h2
              simp only [Option.map_some, Option.some.injEq] at h2
              obtain ⟨x, hx1, hx2⟩ := hx 0 (by simp)
              obtain ⟨y, hy1, hy2⟩ := hy 0 (by simp)
              have hx3 := hx2 _ rfl
              have hy3 := hy2 _ rfl
              subst hx3 hy3
              have hu := und_int hk
              have px : (part f.type xs f.offset).run P w = .ok (.int k1 a) w := by
                simp only [part]
                rw [run_bind _ _ _ _ _ (run_isAgg (b := false) (by simp [tagg, hu]) w)]
                simp only [Bool.false_eq_true, if_false]
                rw [hf.2, show xs[i]? = some (.int k1 a) from by simpa using hx1]
                rfl
              have py : (part f.type ys f.offset).run P w = .ok (.int k1 b) w := by
                simp only [part]
                rw [run_bind _ _ _ _ _ (run_isAgg (b := false) (by simp [tagg, hu]) w)]
                simp only [Bool.false_eq_true, if_false]
                rw [hf.2, show ys[i]? = some (.int k1 b) from by simpa using hy1]
                rfl
              simp only [Op.eqFields]
              rw [if_pos hf.1]
              rw [run_bind _ _ _ _ _ px, run_bind _ _ _ _ _ py, run_bind _ _ _ _ _ (run_equalIn_int w d f.type k1 k a b hu)]
              have ih := eqFields_run d xs ys w fs (i + 1) ks' cs ds q' hks hq (by simpa using hl)
                (fun j hj => by have := hx (j + 1) (by simpa using hj); simpa [Nat.add_assoc, Nat.add_comm 1 j] using this)
                (fun j hj => by have := hy (j + 1) (by simpa using hj); simpa [Nat.add_assoc, Nat.add_comm 1 j] using this)
              by_cases hab : a = b
              · subst hab
                simp only [beq_self_eq_true, Bool.not_true, Bool.false_eq_true, if_false]
                rw [ih, ← h2]
                simp
              · have : (a == b) = false := by simp [hab]
                simp only [this, Bool.not_false, if_true]
                rw [← h2]
                simp [hab]
          · cases h2
      · cases h
    · cases h

theorem tints_run {I : Nat → Prop} {w : World} {s : Sg} {t : TypeId} {n : Nat} (ht : tints P t = some n) {vx vy : Value} {cs ds : List C} (hx : RD I w s vx (.agg cs)) (hy : RD I w s vy (.agg ds)) {q : Bool} (h : sameInts cs ds = some q) (hl : cs.length = n) (x y : Operand) (op : BinOp) :
    (Op.equal t vx vy).run P w = .ok q w ∧ (eqGuard op t x y vx vy).run P w = .ok () w := by
  unfold tints at ht
  split at ht
  · rename_i fs hu
    split at ht
    · rename_i hc
      simp only [Option.map_eq_some_iff] at ht
      obtain ⟨ks, hks, rfl⟩ := ht
      have key : ∀ {v : Value} {cs : List C}, RD I w s v (.agg cs) → ∃ xs, v = .agg xs ∧ ∀ j (h : j < cs.length), ∃ x, xs[0 + j]? = some x ∧ ∀ y, cs[j] = .v y → x = y := fun {v cs} h => by
        cases h with
        | agg vs cs hl hr =>
          refine ⟨vs, rfl, fun j hj => ⟨vs[j], by simp, fun y hy => ?_⟩⟩
          have h3 := hr j (by omega) hj
          rw [hy] at h3
          generalize vs[j] = z at h3 ⊢
          cases h3
          rfl
      obtain ⟨xs, rfl, h1⟩ := key hx
      obtain ⟨ys, rfl, h2⟩ := key hy
      have hfo : P.fieldsOf t = fs := by simp [Program.fieldsOf, hu]
      constructor
      · show (Op.equalIn (9999 + 1) t (.agg xs) (.agg ys)).run P w = _
        rw [run_equalIn_struct w 9999 t xs ys (by rw [hfo]; exact hu) hc.1, hfo]
        exact eqFields_run 9998 xs ys w fs.toList 0 ks cs ds q hks h hl h1 h2
      · have hg := hc.2
        cases op <;> first
          | rfl
          | (simp only [eqGuard]
             rw [if_neg (by decide)]
             simp only [program]
             show (Sem.run P ((Sem.program Sem.pure) >>= _) w) = _
             rw [run_bind (w' := w) (x := P) _ _ _ (by rfl)]
             show (Sem.run P ((Sem.program Sem.pure) >>= _) w) = _
             rw [run_bind (w' := w) (x := P) _ _ _ (by rfl)]
             simp only [hg, Bool.not_false, if_true]
             rfl)
    · cases ht
  · cases ht

/-- '==' of a slice and nil. -/
theorem slicenil_run {t e : TypeId} (ht : P.underlying t = some (.slice e)) (a : Option Addr) (n c n' c' : Nat) (w : World) : (Op.equal t (.slice a n c) (.slice none n' c')).run P w = .ok a.isNone w := by
  show (Op.equalIn (9999 + 1) t _ _).run P w = _
  rw [Op.equalIn.eq_def]
  simp only
  rw [run_bind _ _ _ _ _ (run_underlying ht w)]
  cases a <;> rfl
end
end Go.CT

namespace Go.CT

section
variable {P : Program}

theorem run_mapM_arr {α β : Type} (f : α → Sem β) (as : Array α) (w w' : World) (l : List β) (h : (as.toList.mapM f).run P w = .ok l w') : (as.mapM f).run P w = .ok l.toArray w' := by
  rw [Array.mapM_eq_mapM_toList]
  show (Sem.run P (List.toArray <$> as.toList.mapM f) w) = _
  have : (List.toArray <$> as.toList.mapM f) = (as.toList.mapM f >>= fun l => pure l.toArray) := rfl
  rw [this, run_bind _ _ _ _ _ h]
  rfl

theorem build_sound {I : Nat → Prop} {w : World} {s : Sg} {e : Operand → Option D} {ρ : Operand → Value} (he : ∀ x d, e x = some d → RD I w s (ρ x) d) {t : TypeId} {zs : List Value} (hz : tzero P t = some zs)
    {fs : Array Field} (hu : P.underlying t = some (.struct fs)) (hsz : ∀ x ∈ fs.toList, (tsz P x.type).isSome) {ps : Array (Nat × Operand)} {cs : List C} (hb : bld P t e ps.toList (zs.map .v) = some cs) (h1 : ∀ z ∈ zs, one z = true) :
    ∃ v, (Instr.build t (ps.map fun (i, x) => (i, ρ x))).run P w = .ok v w ∧ RD I w s v (.agg cs) := by
  obtain ⟨z, hzc, hzr⟩ := run_zeroValue hz w
  obtain ⟨l, hl, hll, hli⟩ := run_mapM_places (P := P) fs.toList w hsz
  have hl' := run_mapM_arr (P := P) (fun f => do pure (f.offset, ← sizeOf f.type) : Field → Sem (Nat × Nat)) fs w w l hl
  have hr0 : RCs I w s z.cells (zs.map .v) := by
    refine ⟨by rw [← hzc]; simp, fun j h h' => ?_⟩
    have : (zs.map C.v)[j] = .v z.cells[j] := by
      simp only [List.getElem_map]
      congr 1
      simp [← hzc]
    rw [this]
    exact .v _ _ (h1 _ (by rw [← hzc]; simp))
  obtain ⟨arr', hf, hr'⟩ := bld_sound (P := P) he fs hu (fun i => l.toArray[i]?) (fun f x n hx hn => by
    have := hli f x n (by simpa using hx) hn
    simpa using this) ps.toList _ cs z.cells hb hr0
  simp only [Instr.build]
  refine ⟨.agg arr', ?_, .agg _ _ hr'.1 hr'.2⟩
  rw [run_bind (x := z) (w' := w) _ _ _ hzr, run_bind _ _ _ _ _ (run_underlying hu w)]
  simp only
  rw [run_bind _ _ _ _ _ hl']
  have : (ps.map fun (i, x) => (i, ρ x)).toList = ps.toList.map fun p => (p.1, ρ p.2) := by simp
  rw [this]
  simp only [hf]
  rfl

theorem dbin_sound {I : Nat → Prop} {w : World} {s : Sg} {x y : Value} {dx dy : D} (hx : RD I w s x dx) (hy : RD I w s y dy) {op : BinOp} {vc : Prop} {d : D} (h : dbin op dx dy = some (vc, d)) (hvc : vc) (t : TypeId)
    (hb : (∃ b, dx = DB b) → tbool P t = true) : ∃ v, (binOp op t x y).run P w = .ok v w ∧ RD I w s v d := by
  unfold dbin at h
  split at h
  · rename_i k a k' b
    obtain ⟨rfl, _⟩ := rd_scalar hx
    obtain ⟨rfl, _⟩ := rd_scalar hy
    split at h
    · obtain ⟨y, h1, h2, h3⟩ := dshift_sound (P := P) (k' := k') h hvc t w
      exact ⟨y, h1, h2 ▸ .c _ _ (.v _ _ h3)⟩
    · rename_i hsh
      split at h
      · rename_i hk
        subst hk
        obtain ⟨y, h1, h2, h3⟩ := dint_sound (P := P) h hvc ⟨fun e => hsh (.inl e), fun e => hsh (.inr e)⟩ t w
        exact ⟨y, h1, h2 ▸ .c _ _ (.v _ _ h3)⟩
      · cases h
  · rename_i a b
    obtain ⟨rfl, _⟩ := rd_scalar hx
    obtain ⟨rfl, _⟩ := rd_scalar hy
    have ht := hb ⟨a, rfl⟩
    unfold tbool at ht
    split at ht
    · rename_i hu
      cases op <;> simp only [Option.some.injEq, Prod.mk.injEq, reduceCtorEq] at h
      · obtain ⟨rfl, rfl⟩ := h
        refine ⟨_, ?_, rd_bool _⟩
        simp only [binOp, Op.equal, Op.maxDepth]
        rw [run_bind (x := (a == b)) (w' := w)]
        · rfl
        · rw [Op.equalIn.eq_def]
          simp only
          rw [run_bind _ _ _ _ _ (run_underlying hu w)]
          rfl
      · obtain ⟨rfl, rfl⟩ := h
        refine ⟨_, ?_, rd_bool _⟩
        simp only [binOp, Op.equal, Op.maxDepth]
        rw [run_bind (x := (a == b)) (w' := w)]
        · rfl
        · rw [Op.equalIn.eq_def]
          simp only
          rw [run_bind _ _ _ _ _ (run_underlying hu w)]
          rfl
    · cases ht
  · rename_i a b
    obtain ⟨rfl, _⟩ := rd_scalar hx
    obtain ⟨rfl, _⟩ := rd_scalar hy
    obtain ⟨y, h1, h2, h3⟩ := dstr_sound (P := P) h hvc t w
    exact ⟨y, h1, h2 ▸ .c _ _ (.v _ _ h3)⟩
  · cases h

theorem dbin_scalar {op : BinOp} {dx dy : D} {vc : Prop} {d : D} (h : dbin op dx dy = some (vc, d)) : (∃ u, dx = .c (.v u)) ∧ ∃ u, dy = .c (.v u) := by
  unfold dbin at h
  split at h <;> first | exact ⟨⟨_, rfl⟩, ⟨_, rfl⟩⟩ | cases h

theorem eqGuard_run {op : BinOp} {t : TypeId} {x y : Operand} {a b : Value} (ha : one a = true) (hn : a ≠ .nilIface) (w : World) : (eqGuard op t x y a b).run P w = .ok () w := by
  cases op <;> first
    | rfl
    | (cases a <;> first | rfl | exact absurd rfl hn | (simp [one] at ha))

theorem tstruct_parts {t : TypeId} {zs : List Value} (h : tstruct P t = some zs) : ∃ fs, P.underlying t = some (.struct fs) ∧ (∀ x ∈ fs.toList, (tsz P x.type).isSome) ∧ tzero P t = some zs ∧ ∀ z ∈ zs, one z = true := by
  unfold tstruct at h
  split at h
  · rename_i fs hu
    split at h
    · rename_i hall
      split at h
      · rename_i zs' hz
        split at h
        · rename_i h1
          simp only [Option.some.injEq] at h
          subst h
          exact ⟨fs, hu, fun x hx => by simpa using List.all_eq_true.1 hall x hx, hz, fun z hz' => List.all_eq_true.1 h1 z hz'⟩
        · cases h
      · cases h
    · cases h
  · cases h

theorem rd_agg {I : Nat → Prop} {w : World} {s : Sg} {v : Value} {cs : List C} (h : RD I w s v (.agg cs)) : ∃ xs, v = .agg xs := by cases h; exact ⟨_, rfl⟩
theorem rd_mslnil {I : Nat → Prop} {w : World} {s : Sg} {v : Value} {k sz off len : Nat} (h : RD I w s v (.c (.msl k sz off len))) (hl : 0 < len) : ∃ a n c, v = .slice a n c ∧ a.isNone = false := by
  cases h with
  | c _ _ h => cases h with
    | msl0 => exact absurd hl (Nat.lt_irrefl 0)
    | msl => exact ⟨_, _, _, rfl, rfl⟩

theorem pop_sound {I : Nat → Prop} {w : World} {s : Sg} {hp : Hp} (H : SimH I w s hp) {e : Operand → Option D} {ρ : Operand → Value} (he : ∀ x d, e x = some d → RD I w s (ρ x) d)
    {o : Oper} {vc : Prop} {d : D} (h : pop P e hp o.op = some (vc, d)) (hvc : vc) : ∃ v, (execOp ρ o).run P w = .ok (.value v) w ∧ RD I w s v d := by
  obtain ⟨dst, op, type, pos, after, guard⟩ := o
  simp only at h
  cases op with
  | move x =>
    simp only [pop] at h
    split at h
    · rename_i d' hd
      simp only [Option.some.injEq, Prod.mk.injEq] at h
      obtain ⟨rfl, rfl⟩ := h
      exact ⟨_, rfl, he _ _ hd⟩
    · cases h
  | assign x =>
    simp only [pop] at h
    split at h
    · rename_i d' hd
      simp only [Option.some.injEq, Prod.mk.injEq] at h
      obtain ⟨rfl, rfl⟩ := h
      exact ⟨_, rfl, he _ _ hd⟩
    · cases h
  | load t x =>
    simp only [pop] at h
    split at h
    · rename_i k off g n hd hg hn
      split at h
      · rename_i cs hcs
        obtain ⟨b, hs, hx⟩ := rd_ptr (he _ _ hd)
        obtain ⟨arr, T, hb, hl, hr⟩ := live_cells H hcs hs
        obtain ⟨v, h1, h2⟩ := grab_sound (P := P) hg hn (b := b) (o := 0) h hvc (fun j hj => by
          obtain ⟨y, hy, hry⟩ := hr j hj
          exact ⟨y, by simpa [World.cell?, hb] using hy, hry⟩)
        simp only [Nat.zero_add] at h1
        refine ⟨v, ?_, h2⟩
        simp only [execOp, hx]
        exact run_v h1
      · cases h
    · rename_i cs g n hd hg hn
      obtain ⟨b, off, y, hx, hI, hc, hr⟩ := rd_eptr (he _ _ hd)
      obtain ⟨v, h1, h2⟩ := grab_sound (P := P) hg hn (b := b) (o := off) h hvc (fun j hj => ⟨y j, hc j hj, (hr j hj).any s⟩)
      refine ⟨v, ?_, h2⟩
      simp only [execOp, hx]
      exact run_v h1
    · cases h
  | nilCheck x =>
    simp only [pop] at h
    split at h
    · rename_i k off hd
      simp only [Option.some.injEq, Prod.mk.injEq] at h
      obtain ⟨rfl, rfl⟩ := h
      have hx := he _ _ hd
      obtain ⟨b, hs, hx'⟩ := rd_ptr hx
      refine ⟨_, ?_, hx⟩
      simp only [execOp, hx']
      rfl
    · rename_i cs hd
      simp only [Option.some.injEq, Prod.mk.injEq] at h
      obtain ⟨rfl, rfl⟩ := h
      have hx := he _ _ hd
      obtain ⟨b, off, y, hx', _⟩ := rd_eptr hx
      refine ⟨_, ?_, hx⟩
      simp only [execOp, hx']
      rfl
    · rename_i f cs hd
      simp only [Option.some.injEq, Prod.mk.injEq] at h
      obtain ⟨rfl, rfl⟩ := h
      have hx := he _ _ hd
      refine ⟨ρ x, ?_, hx⟩
      obtain ⟨vs, hv, _⟩ := rd_clo hx
      simp only [execOp, hv]
      rfl
    · rename_i f cs hd
      simp only [Option.some.injEq, Prod.mk.injEq] at h
      obtain ⟨rfl, rfl⟩ := h
      have hx := he _ _ hd
      refine ⟨ρ x, ?_, hx⟩
      obtain ⟨vs, hv, _⟩ := rd_met hx
      simp only [execOp, hv]
      rfl
    · cases h
  | binOp op t x y yt =>
    simp only [pop] at h
    split at h
    · rename_i a b hx hy
      split at h
      · rename_i ht
        obtain ⟨v, h1, h2⟩ := dbin_sound (P := P) (he _ _ hx) (he _ _ hy) h hvc t (fun _ => ht)
        refine ⟨v, ?_, h2⟩
        have hxx := (rd_scalar (he _ _ hx)).1
        simp only [execOp]
        refine run_v ?_
        rw [run_bind _ _ _ _ _ (eqGuard_run (by rw [hxx]; rfl) (by rw [hxx]; simp) w)]
        exact h1
      · cases h
    · rename_i as bs hx hy
      split at h
      · rename_i n q ht hs
        split at h
        · rename_i hl
          obtain ⟨r1, r2⟩ := tints_run (P := P) ht (he _ _ hx) (he _ _ hy) hs hl x y op
          have hax := rd_agg (he _ _ hx)
          have hay := rd_agg (he _ _ hy)
          obtain ⟨xs, hxs⟩ := hax
          obtain ⟨ys, hys⟩ := hay
          rw [hxs, hys] at r1 r2
          cases op <;> simp only [Option.some.injEq, Prod.mk.injEq, reduceCtorEq] at h
          · obtain ⟨rfl, rfl⟩ := h
            refine ⟨_, ?_, rd_bool _⟩
            simp only [execOp]
            refine run_v ?_
            rw [hxs, hys, run_bind _ _ _ _ _ r2]
            simp only [binOp]
            rw [run_bind _ _ _ _ _ r1]
            rfl
          · obtain ⟨rfl, rfl⟩ := h
            refine ⟨_, ?_, rd_bool _⟩
            simp only [execOp]
            refine run_v ?_
            rw [hxs, hys, run_bind _ _ _ _ _ r2]
            simp only [binOp]
            rw [run_bind _ _ _ _ _ r1]
            rfl
        · cases h
      · cases h
    · rename_i dx n' c' hx hy
      split at h
      · rename_i ht
        obtain ⟨e', he'⟩ := Option.isSome_iff_exists.1 ht
        have hu := und_slice he'
        have hyy := (rd_scalar (he _ _ hy)).1
        have key : ∀ vc' q, dnil dx = some (vc', q) → vc' → ∃ a n c, ρ x = .slice a n c ∧ a.isNone = q := fun vc' q hd hv => by
          have hxx := he _ _ hx
          unfold dnil at hd
          split at hd
          · rename_i sz xs
            simp only [Option.some.injEq, Prod.mk.injEq] at hd
            obtain ⟨rfl, rfl⟩ := hd
            obtain ⟨a, cap, h1, _, h2⟩ := rd_isl hxx
            rcases h2 with h2 | ⟨b, off, y', rfl, _⟩
            · exact absurd h2 hv
            · exact ⟨_, _, _, h1, rfl⟩
          · rename_i k sz off len
            simp only [Option.some.injEq, Prod.mk.injEq] at hd
            obtain ⟨rfl, rfl⟩ := hd
            exact rd_mslnil hxx hv
          · rename_i a n c
            simp only [Option.some.injEq, Prod.mk.injEq] at hd
            obtain ⟨rfl, rfl⟩ := hd
            exact ⟨a, n, c, (rd_scalar hxx).1, rfl⟩
          · cases hd
        have fin : ∀ vc' q, dnil dx = some (vc', q) → vc' → (Op.equal t (ρ x) (ρ y)).run P w = .ok q w ∧ (eqGuard op t x y (ρ x) (ρ y)).run P w = .ok () w ∧ ∃ a n c, ρ x = .slice a n c := fun vc' q hd hv => by
          obtain ⟨a, n, c, h1, h2⟩ := key vc' q hd hv
          rw [h1, hyy, ← h2]
          exact ⟨slicenil_run hu a n c _ _ w, eqGuard_run rfl (by simp) w, a, n, c, rfl⟩
        split at h
        · rename_i vc' q hd
          simp only [Option.some.injEq, Prod.mk.injEq] at h
          obtain ⟨rfl, rfl⟩ := h
          obtain ⟨r1, r2, a, n, c, hxs⟩ := fin _ _ hd hvc
          refine ⟨_, ?_, rd_bool _⟩
          simp only [execOp]
          refine run_v ?_
          rw [run_bind _ _ _ _ _ r2]
          rw [hxs, hyy] at r1 ⊢
          simp only [binOp]
          rw [run_bind _ _ _ _ _ r1]
          rfl
        · rename_i vc' q hd
          simp only [Option.some.injEq, Prod.mk.injEq] at h
          obtain ⟨rfl, rfl⟩ := h
          obtain ⟨r1, r2, a, n, c, hxs⟩ := fin _ _ hd hvc
          refine ⟨_, ?_, rd_bool _⟩
          simp only [execOp]
          refine run_v ?_
          rw [run_bind _ _ _ _ _ r2]
          rw [hxs, hyy] at r1 ⊢
          simp only [binOp]
          rw [run_bind _ _ _ _ _ r1]
          rfl
        · cases h
      · cases h
    · rename_i dx dy _ _ _ hx hy
      split at h
      · cases h
      · rename_i dx' dy' hnb
        obtain ⟨⟨u, hu⟩, ⟨u', hu'⟩⟩ := dbin_scalar h
        obtain ⟨v, h1, h2⟩ := dbin_sound (P := P) (he _ _ hx) (he _ _ hy) h hvc t (fun ⟨b, hb⟩ => (hnb b hb).elim)
        refine ⟨v, ?_, h2⟩
        have hxx := rd_scalar (hu ▸ he _ _ hx)
        simp only [execOp]
        refine run_v ?_
        have hne : u ≠ .nilIface := by
          intro hc
          subst hc
          subst hu
          simp [dbin] at h
        rw [run_bind _ _ _ _ _ (eqGuard_run (by rw [hxx.1]; exact hxx.2) (by rw [hxx.1]; exact hne) w)]
        exact h1
    · cases h
  | unOp op t x =>
    simp only [pop] at h
    split at h
    · rename_i dx hx
      have hxx := he _ _ hx
      unfold dun at h
      split at h
      · rename_i b
        simp only [Option.some.injEq, Prod.mk.injEq] at h
        obtain ⟨rfl, rfl⟩ := h
        refine ⟨_, ?_, rd_bool _⟩
        simp only [execOp, (rd_scalar hxx).1]
        rfl
      · rename_i k n
        simp only [Option.some.injEq, Prod.mk.injEq] at h
        obtain ⟨rfl, rfl⟩ := h
        refine ⟨_, ?_, rd_int _ _⟩
        simp only [execOp, (rd_scalar hxx).1, Op.unary, Op.intArith, wrap_of_InK hvc]
        rfl
      · cases h
    · cases h
  | convert src dst x =>
    simp only [pop] at h
    split at h
    · rename_i k n ks kd hx hs hd
      simp only [Option.some.injEq, Prod.mk.injEq] at h
      obtain ⟨rfl, rfl⟩ := h
      refine ⟨_, ?_, rd_int _ _⟩
      simp only [execOp, (rd_scalar (he _ _ hx)).1, convert]
      refine run_v ?_
      rw [run_bind _ _ _ _ _ (run_underlying hs w), run_bind _ _ _ _ _ (run_underlying hd w)]
      simp only [Conv.intToInt, wrap_of_InK hvc]
      rfl
    · cases h
  | fieldAddr st x f =>
    simp only [pop] at h
    split at h
    · rename_i k off o ft hx hf
      simp only [Option.some.injEq, Prod.mk.injEq] at h
      obtain ⟨rfl, rfl⟩ := h
      obtain ⟨b, hs, hxx⟩ := rd_ptr (he _ _ hx)
      refine ⟨_, ?_, .c _ _ (.ptr _ k b (off + o) hs)⟩
      simp only [execOp, hxx]
      exact run_v (fieldPlace_run hf b off w)
    · rename_i cs o ft hx hf
      simp only [Option.some.injEq, Prod.mk.injEq] at h
      obtain ⟨rfl, rfl⟩ := h
      obtain ⟨b, off, y, hxx, hI, hc, hr⟩ := rd_eptr (he _ _ hx)
      refine ⟨.pointer (some ⟨b, off + o, none⟩), ?_, .c _ _ (.eptr _ b (off + o) (cs.drop o) (fun j => y (o + j)) hI (fun j hj => ?_) (fun j hj => ?_))⟩
      · simp only [execOp, hxx]
        exact run_v (fieldPlace_run hf b off w)
      · rw [Nat.add_assoc]
        simp only [List.length_drop] at hj
        exact hc (o + j) (by omega)
      · simp only [List.length_drop] at hj
        simpa using hr (o + j) (by omega)
    · cases h
  | field st x f =>
    simp only [pop] at h
    split at h
    · rename_i cs o ft hx hf
      split at h
      · rename_i g n hg hn
        obtain ⟨fs, fx, hu, hfx, rfl, rfl⟩ := tfield_parts hf
        have hxx := he _ _ hx
        cases hxx' : ρ x with
        | agg vs =>
          rw [hxx'] at hxx
          cases hxx with
          | agg _ _ hl hr =>
            obtain ⟨v, h1, h2⟩ := part_sound (P := P) hg hn h hvc hl hr
            refine ⟨v, ?_, h2⟩
            simp only [execOp, hxx', Instr.field]
            refine run_v ?_
            rw [run_bind _ _ _ _ _ (run_underlying hu w)]
            simp only [hfx]
            rw [run_bind (x := vs) (w' := w) _ _ _ (by rfl)]
            exact h1
        | _ => rw [hxx'] at hxx; cases hxx
      · cases h
    · cases h
  | indexAddr t x ix =>
    simp only [pop] at h
    split at h
    · rename_i sz xs k i n hx hi ht
      obtain ⟨el, htl, hn⟩ := Option.bind_eq_some_iff.1 ht
      split at h
      · rename_i cs hcs
        simp only [Option.some.injEq, Prod.mk.injEq] at h
        obtain ⟨rfl, rfl⟩ := h
        obtain ⟨h0, rfl⟩ := hvc
        obtain ⟨hlt, hcs'⟩ := List.getElem?_eq_some_iff.1 hcs
        obtain ⟨a, cap, hxx, hcap, hcase⟩ := rd_isl (he _ _ hx)
        rcases hcase with hnil | ⟨b, off, y, rfl, hI, hl, hc, hr⟩
        · subst hnil; simp at hlt
        · have hlen := hl _ hlt
          refine ⟨.pointer (some ⟨b, off + i.toNat * sz, none⟩), ?_, .c _ _ (.eptr _ b _ cs (fun j => y i.toNat j) hI (fun j hj => ?_) (fun j hj => ?_))⟩
          · simp only [execOp, hxx, (rd_scalar (he _ _ hi)).1, Instr.indexAt]
            refine run_v ?_
            rw [run_bind (x := (k, i)) (w' := w) _ _ _ (by rfl), run_bind _ _ _ _ _ (run_underlying (und_slice htl) w)]
            simp only
            rw [run_bind (x := (some (⟨b, off, none⟩ : Addr), xs.length, el)) (w' := w) _ _ _ (by rfl)]
            simp only
            rw [run_bind _ _ _ _ _ (run_underlying (und_slice htl) w)]
            have hb : 0 ≤ i ∧ i < (xs.length : Int) := ⟨h0, by omega⟩
            simp only [hb, and_self, if_true]
            rw [run_bind _ _ _ _ _ (run_sizeOf hn w)]
            simp only [add_plain]
            rfl
          · rw [← hcs'] at hj
            exact hc _ _ hlt (by omega)
          · have := hr _ hlt j (by rw [hcs']; exact hj)
            simpa [hcs'] using this
      · cases h
    · rename_i k sz off len kk i n hx hi ht
      obtain ⟨el, htl, hn⟩ := Option.bind_eq_some_iff.1 ht
      simp only [Option.some.injEq, Prod.mk.injEq] at h
      obtain ⟨rfl, rfl⟩ := h
      obtain ⟨⟨h0, hlt⟩, rfl⟩ := hvc
      rcases rd_msl (he _ _ hx) with ⟨a, _, _, _, h3⟩ | ⟨b, cap, arr, T, fr, hxx, hs, hlc, hb, hcp⟩
      · subst h3; exfalso; simp at hlt; omega
      · refine ⟨.pointer (some ⟨b, off + i.toNat * sz, none⟩), ?_, .c _ _ (.ptr _ k b _ hs)⟩
        simp only [execOp, hxx, (rd_scalar (he _ _ hi)).1, Instr.indexAt]
        refine run_v ?_
        rw [run_bind (x := (kk, i)) (w' := w) _ _ _ (by rfl), run_bind _ _ _ _ _ (run_underlying (und_slice htl) w)]
        simp only
        rw [run_bind (x := (some (⟨b, off, none⟩ : Addr), len, el)) (w' := w) _ _ _ (by rfl)]
        simp only
        rw [run_bind _ _ _ _ _ (run_underlying (und_slice htl) w)]
        have hb : 0 ≤ i ∧ i < (len : Int) := ⟨h0, hlt⟩
        simp only [hb, and_self, if_true]
        rw [run_bind _ _ _ _ _ (run_sizeOf hn w)]
        simp only [add_plain]
        rfl
    · cases h
  | index t x ix =>
    simp only [pop] at h
    split at h
    · rename_i b k i hx hi
      split at h
      · rename_i ht
        simp only [Option.some.injEq, Prod.mk.injEq] at h
        obtain ⟨rfl, rfl⟩ := h
        obtain ⟨h0, hlt⟩ := hvc
        unfold tstring at ht
        split at ht
        · rename_i hu
          have hlt' : i.toNat < b.size := by omega
          refine ⟨_, ?_, rd_int _ _⟩
          simp only [execOp, (rd_scalar (he _ _ hx)).1, (rd_scalar (he _ _ hi)).1, Instr.index]
          refine run_v ?_
          rw [run_bind (x := (k, i)) (w' := w) _ _ _ (by rfl), run_bind _ _ _ _ _ (run_underlying hu w)]
          simp only [h0, if_true]
          have hget : b[i.toNat]? = some (b.data.toList.getD i.toNat 0) := by
            rw [getElem?_pos b i.toNat hlt']
            congr 1
            have hls : i.toNat < b.data.toList.length := by simpa using hlt'
            rw [List.getD_eq_getElem?_getD, List.getElem?_eq_getElem hls]
            rfl
          simp only [hget]
          rfl
        · cases ht
      · cases h
    · cases h
  | extract x i =>
    simp only [pop] at h
    split at h
    · rename_i ds hx
      split at h
      · rename_i d' hd'
        simp only [Option.some.injEq, Prod.mk.injEq] at h
        obtain ⟨rfl, rfl⟩ := h
        have hxx := he _ _ hx
        cases hxx' : ρ x with
        | tuple vs =>
          rw [hxx'] at hxx
          cases hxx with
          | tup _ _ hl hr =>
            obtain ⟨hlt, hd2⟩ := List.getElem?_eq_some_iff.1 hd'
            have hv : vs[i]? = some (vs[i]'(by omega)) := by simp
            refine ⟨_, ?_, hd2 ▸ hr i (by omega) hlt⟩
            simp only [execOp, hxx', Instr.extract, hv]
            rfl
        | _ => rw [hxx'] at hxx; cases hxx
      · cases h
    · cases h
  | call c =>
    obtain ⟨callee, args, argTypes⟩ := c
    simp only [pop] at h
    split at h
    · split at h
      · rename_i x t hargs hats
        split at h
        · rename_i d' hd'
          split at h
          · rename_i n hn
            simp only [Option.some.injEq, Prod.mk.injEq] at h
            obtain ⟨rfl, rfl⟩ := h
            have e1 : args = #[x] := by apply Array.ext'; simpa using hargs
            have e2 : argTypes = #[t] := by apply Array.ext'; simpa using hats
            subst e1; subst e2
            refine ⟨_, ?_, rd_int _ _⟩
            simp only [execOp, resolve]
            rw [run_bind (x := ({ target := .builtin .len #[t] type (#[x].map fun | .const _ => true | _ => false), args := #[x].map ρ } : Deferred)) (w' := w) _ _ _ (by rfl)]
            simp only [invoke, builtin]
            refine run_v ?_
            simp only [Builtin.len_]
            rcases islen_sound (he _ _ hd') hn with ⟨a, cap, el, hx, hu⟩ | ⟨b, hx, hb, hu⟩
            · simp [hx, run_bind _ _ _ _ _ (run_underlying hu w), goInt]
            · simp [hx, run_bind _ _ _ _ _ (run_underlying hu w), goInt, hb]
          · cases h
        · cases h
      · cases h
    · cases h
  | slice t x lo hi mx =>
    cases mx with
    | none =>
      simp only [pop] at h
      split at h
      · rename_i b hx
        split at h
        · rename_i l hh hl hhi
          split at h
          · rename_i ht
            simp only [Option.some.injEq, Prod.mk.injEq] at h
            obtain ⟨rfl, rfl⟩ := h
            refine ⟨_, ?_, rd_str _⟩
            have hb := sliceBounds_run (P := P) (isSlice := false) (len := b.size) (cap := b.size) (lo := lo.map ρ) (hi := hi.map ρ) (l := l) (h := hh)
              ((bnd_sound he hl).imp (fun ⟨a, c⟩ => ⟨by simp [a], c⟩) fun ⟨y, k, a, c⟩ => ⟨k, by simp [a, c]⟩) ((bnd_sound he hhi).imp (fun ⟨a, c⟩ => ⟨by simp [a], c⟩) fun ⟨y, k, a, c⟩ => ⟨k, by simp [a, c]⟩)
              hvc.1.1 hvc.1.2 hvc.2 (Nat.le_refl _) w
            simp only [execOp, (rd_scalar (he _ _ hx)).1, Instr.sliceAt]
            refine run_v ?_
            rw [run_bind _ _ _ _ _ (run_underlying (und_string ht) w)]
            simp only [Instr.slice]
            rw [run_bind _ _ _ _ _ (run_underlying (und_string ht) w)]
            simp only [Option.map_none, Option.isSome_none, Bool.false_eq_true, if_false]
            rw [run_bind _ _ _ _ _ hb]
            rfl
          · cases h
        · cases h
      · rename_i sz xs hx
        split at h
        · rename_i l hh n hl hhi ht
          simp only [Option.some.injEq, Prod.mk.injEq] at h
          obtain ⟨rfl, rfl⟩ := h
          obtain ⟨⟨⟨h0, hlh⟩, hle⟩, rfl⟩ := hvc
          obtain ⟨el, htl, hn⟩ := Option.bind_eq_some_iff.1 ht
          obtain ⟨a, cap, hxx, hcap, hcase⟩ := rd_isl (he _ _ hx)
          have hb := sliceBounds_run (P := P) (isSlice := true) (len := xs.length) (cap := cap) (lo := lo.map ρ) (hi := hi.map ρ) (l := l) (h := hh)
            ((bnd_sound he hl).imp (fun ⟨a, c⟩ => ⟨by simp [a], c⟩) fun ⟨y, k, a, c⟩ => ⟨k, by simp [a, c]⟩) ((bnd_sound he hhi).imp (fun ⟨a, c⟩ => ⟨by simp [a], c⟩) fun ⟨y, k, a, c⟩ => ⟨k, by simp [a, c]⟩)
            h0 hlh (by omega) hcap.1 w
          have hrun : (execOp ρ { dst := dst, op := .slice t x lo hi none, type := type, pos := pos, after := after, guard := guard }).run P w =
              .ok (.value (.slice (if cap = l.toNat then a else a.map (·.add (l.toNat * sz))) (hh.toNat - l.toNat) (cap - l.toNat))) w := by
            simp only [execOp, hxx, Instr.sliceAt]
            refine run_v ?_
            rw [run_bind _ _ _ _ _ (run_underlying (und_slice htl) w)]
            simp only [Instr.slice]
            rw [run_bind _ _ _ _ _ (run_underlying (und_slice htl) w)]
            simp only [Option.map_none]
            rw [run_bind _ _ _ _ _ hb]
            simp only
            rw [run_bind _ _ _ _ _ (run_sizeOf hn w)]
            rfl
          refine ⟨_, hrun, ?_⟩
          have hlen : ((xs.drop l.toNat).take (hh.toNat - l.toNat)).length = hh.toNat - l.toNat := by simp; omega
          rcases Nat.eq_zero_or_pos (hh.toNat - l.toNat) with he0 | hpos
          · rw [he0]
            simp only [List.take_zero]
            exact .c _ _ (.isl0 _ _ _ _)
          · rcases hcase with hnil | ⟨b, off, y, rfl, hI, hll, hc, hr⟩
            · subst hnil; simp at hle; omega
            · have hne : ¬ (cap = l.toNat) := by omega
              simp only [hne, if_false, Option.map_some, add_plain]
              have := RC.isl (I := I) (w := w) s b (off + l.toNat * sz) (cap - l.toNat) sz ((xs.drop l.toNat).take (hh.toNat - l.toNat)) (fun i j => y (l.toNat + i) j) hI
                (fun i h => by
                  simp at h
                  have := hll (l.toNat + i) (by omega)
                  simpa using this)
                (fun i j hi hj => by
                  rw [hlen] at hi
                  have := hc (l.toNat + i) j (by omega) hj
                  rw [← this]
                  congr 2
                  rw [Nat.add_mul]; omega)
                (fun i h j h' => by
                  simp at h
                  have := hr (l.toNat + i) (by omega) j (by simpa using h')
                  simpa using this)
                (by rw [hlen]; constructor <;> omega)
              rw [hlen] at this
              exact .c _ _ this
        · cases h
      · rename_i k sz off len hx
        split at h
        · rename_i l hh n hl hhi ht
          simp only [Option.some.injEq, Prod.mk.injEq] at h
          obtain ⟨rfl, rfl⟩ := h
          obtain ⟨⟨⟨h0, hlh⟩, hle⟩, hor, rfl⟩ := hvc
          obtain ⟨el, htl, hn⟩ := Option.bind_eq_some_iff.1 ht
          have hsh : ∃ a cap, ρ x = .slice a len cap ∧ len ≤ cap ∧ len ≤ mx := by
            rcases rd_msl (he _ _ hx) with ⟨a, h1, _, _, h3⟩ | ⟨b, cap, arr, T, fr, h1, _, h3, _⟩
            · exact ⟨a, 0, by rw [h1, h3], by omega, by omega⟩
            · exact ⟨_, cap, h1, h3⟩
          obtain ⟨a, cap, hxx, hcap⟩ := hsh
          have hb := sliceBounds_run (P := P) (isSlice := true) (len := len) (cap := cap) (lo := lo.map ρ) (hi := hi.map ρ) (l := l) (h := hh)
            ((bnd_sound he hl).imp (fun ⟨a, c⟩ => ⟨by simp [a], c⟩) fun ⟨y, k, a, c⟩ => ⟨k, by simp [a, c]⟩) ((bnd_sound he hhi).imp (fun ⟨a, c⟩ => ⟨by simp [a], c⟩) fun ⟨y, k, a, c⟩ => ⟨k, by simp [a, c]⟩)
            h0 hlh (by omega) hcap.1 w
          have hrun : (execOp ρ { dst := dst, op := .slice t x lo hi none, type := type, pos := pos, after := after, guard := guard }).run P w =
              .ok (.value (.slice (if cap = l.toNat then a else a.map (·.add (l.toNat * sz))) (hh.toNat - l.toNat) (cap - l.toNat))) w := by
            simp only [execOp, hxx, Instr.sliceAt]
            refine run_v ?_
            rw [run_bind _ _ _ _ _ (run_underlying (und_slice htl) w)]
            simp only [Instr.slice]
            rw [run_bind _ _ _ _ _ (run_underlying (und_slice htl) w)]
            simp only [Option.map_none]
            rw [run_bind _ _ _ _ _ hb]
            simp only
            rw [run_bind _ _ _ _ _ (run_sizeOf hn w)]
            rfl
          refine ⟨_, hrun, ?_⟩
          rcases rd_msl (he _ _ hx) with ⟨a', h1, hs, rfl, rfl⟩ | ⟨b, cap', arr, T, fr, h1, hs, h3, hb', hcp⟩
          · rw [hxx] at h1
            simp only [Value.slice.injEq] at h1
            obtain ⟨rfl, _, rfl⟩ := h1
            have : l = 0 := by omega
            subst this
            have : hh = 0 := by omega
            subst this
            simp only [Int.toNat_zero, Nat.zero_mul, Nat.add_zero, Nat.sub_self, if_true]
            exact .c _ _ (.msl0 _ _ _ _ hs)
          · rw [hxx] at h1
            simp only [Value.slice.injEq] at h1
            obtain ⟨rfl, _, rfl⟩ := h1
            have hadd : (if cap = l.toNat then some (⟨b, off, none⟩ : Addr) else (some (⟨b, off, none⟩ : Addr)).map (·.add (l.toNat * sz))) = some ⟨b, off + l.toNat * sz, none⟩ := by
              simp only [Option.map_some, add_plain]
              rcases hor with rfl | hlt
              · simp
              · rw [if_neg (by omega)]
            rw [hadd]
            have hmul : off + l.toNat * sz + (cap - l.toNat) * sz = off + cap * sz := by
              rw [Nat.add_assoc, ← Nat.add_mul]
              congr 2
              omega
            exact .c _ _ (.msl _ k b sz _ _ (cap - l.toNat) arr T fr hs (by omega) hb' (by omega))
        · cases h
      · cases h
    | some mx =>
      cases lo with
      | some lo => simp [pop] at h
      | none =>
        cases hi with
        | none => simp [pop] at h
        | some hi =>
          simp only [pop] at h
          split at h
          · rename_i c k k' hx hhi hmx
            have hsh : ∃ a len cap, ρ x = .slice a len cap ∧ d = .c .z ∧ ((tslice P t).bind (tsz P)).isSome := by
              split at h <;> first
                | (split at h
                   · rename_i ht
                     simp only [Option.some.injEq, Prod.mk.injEq] at h
                     obtain ⟨rfl, rfl⟩ := h
                     first
                       | (obtain ⟨a, cap, h1, _⟩ := rd_isl (he _ _ hx); exact ⟨_, _, _, h1, rfl, ht⟩)
                       | (rcases rd_msl (he _ _ hx) with ⟨a, h1, _⟩ | ⟨b, cap, _, _, _, h1, _⟩ <;> exact ⟨_, _, _, h1, rfl, ht⟩)
                       | (obtain ⟨a, h1⟩ := rd_z (he _ _ hx); exact ⟨_, _, _, h1, rfl, ht⟩)
                       | exact ⟨_, _, _, (rd_scalar (he _ _ hx)).1, rfl, ht⟩
                   · cases h)
                | cases h
            obtain ⟨a, len, cap, hxx, rfl, ht⟩ := hsh
            obtain ⟨n, hn0⟩ := Option.isSome_iff_exists.1 ht
            obtain ⟨el, hel, hn⟩ := Option.bind_eq_some_iff.1 hn0
            have hi0 := (rd_scalar (he _ _ hhi)).1
            have hm0 := (rd_scalar (he _ _ hmx)).1
            refine ⟨.slice a 0 0, ?_, .c _ _ (.z _ a)⟩
            simp only [execOp, hxx, Instr.sliceAt, Option.map_none, Option.map_some, hi0, hm0]
            refine run_v ?_
            rw [run_bind _ _ _ _ _ (run_underlying (und_slice hel) w)]
            simp only [Instr.slice]
            rw [run_bind _ _ _ _ _ (run_underlying (und_slice hel) w)]
            simp only
            rw [run_bind (x := ((0, 0, 0) : Nat × Nat × Nat)) (w' := w)]
            · simp only
              rw [run_bind _ _ _ _ _ (run_sizeOf hn w)]
              rfl
            · simp only [Instr.sliceBounds]
              rw [run_bind _ _ _ _ _ (sliceBound_run (Int.le_refl 0) (by omega) w)]
              rw [run_bind _ _ _ _ _ (sliceBound_run (Int.le_refl 0) (by omega) w)]
              rw [run_bind (x := 0) (w' := w) _ _ _ (by rfl)]
              rfl
          · cases h
  | makeFunc fn first caps =>
    cases fn with
    | func f =>
      simp only [pop] at h
      split at h
      · rename_i h0
        split at h
        · rename_i cs hcs
          simp only [Option.some.injEq, Prod.mk.injEq] at h
          obtain ⟨rfl, rfl⟩ := h
          have hr := cellsOf_sound (I := I) (w := w) (s := s) he caps.toList cs hcs
          have e1 : (caps.toList.map ρ).toArray = caps.map ρ := by apply Array.ext'; simp
          rw [e1] at hr
          have e2 : first.map ρ = #[] := by
            have : first = #[] := by apply Array.ext'; simpa using h0
            rw [this]; simp
          refine ⟨_, ?_, .c _ _ (.clo _ f cs _ hr.1 hr.2)⟩
          simp only [execOp, Instr.makeFunc, e2]
          rfl
        · cases h
      · rename_i x h0
        split at h
        · rename_i cs hx hc0
          split at h
          · rename_i hkf
            simp only [Option.some.injEq, Prod.mk.injEq] at h
            obtain ⟨rfl, rfl⟩ := h
            have e1 : caps.map ρ = #[] := by
              have : caps = #[] := by apply Array.ext'; simpa using hc0
              rw [this]; simp
            have e2 : first.map ρ = #[ρ x] := by
              have : first = #[x] := by apply Array.ext'; simpa using h0
              rw [this]; simp
            have hrd := he _ _ hx
            cases hxx : ρ x with
            | agg vs =>
              rw [hxx] at hrd
              cases hrd with
              | agg _ _ hl hr =>
                refine ⟨_, ?_, .c _ _ (.met _ f cs vs hl fun j h1 h2 => (hr j h1 h2).kf0 (kfs_get hkf j h2))⟩
                simp only [execOp, Instr.makeFunc, e1, e2, hxx]
                rfl
            | _ => rw [hxx] at hrd; cases hrd
          · cases h
        · cases h
      · cases h
    | _ => simp [pop] at h
  | build t ps =>
    simp only [pop] at h
    split at h
    · rename_i zs hz
      split at h
      · rename_i cs hb
        simp only [Option.some.injEq, Prod.mk.injEq] at h
        obtain ⟨rfl, rfl⟩ := h
        obtain ⟨fs, hu, hsz, hz', h1⟩ := tstruct_parts hz
        obtain ⟨v, hr, hd⟩ := build_sound (P := P) he hz' hu hsz hb h1
        exact ⟨v, run_v hr, hd⟩
      · cases h
    · cases h
  | _ => simp [pop] at h

end
end Go.CT
