/- What single operations of the model do, stated over the assertion language: loads, stores, new blocks, appends. -/
import Derived.Test.YtknihhjejbljgaaCtB
set_option linter.unusedVariables false
set_option linter.unusedSimpArgs false
namespace Go.CT

section
variable {P : Program}

theorem add_plain (b off n : Nat) : (⟨b, off, none⟩ : Addr).add n = ⟨b, off + n, none⟩ := by
  unfold Addr.add
  by_cases h : n = 0
  · subst h; simp
  · simp [h]

theorem run_bind {α β : Type} (s : Sem α) (f : α → Sem β) (w w' : World) (x : α) (h : s.run P w = .ok x w') : (s >>= f).run P w = (f x).run P w' := by
  have key : ∀ (s : Sem α) (w : World), s.run P w = .ok x w' → (s.bind f).run P w = (f x).run P w' := by
    intro s
    induction s with
    | pure a => intro w h; simp only [Sem.run, Result.ok.injEq] at h; obtain ⟨rfl, rfl⟩ := h; rfl
    | load m a k ih =>
      intro w h
      simp only [Sem.bind, Sem.run] at h ⊢
      split <;> rename_i hc <;> simp only [hc] at h
      · exact ih _ _ h
      · split <;> rename_i hf <;> simp only [hf] at h
        · exact ih _ _ h
        · cases h
    | store m a v k ih =>
      intro w h
      simp only [Sem.bind]
      cases v <;> simp only [Sem.run] at h ⊢ <;> first
        | cases h
        | (split <;> rename_i hc <;> simp only [hc] at h
           · split <;> rename_i hf <;> simp only [hf, if_true, if_false, Bool.false_eq_true] at h
             · cases h
             · exact ih _ h
           · split <;> rename_i hf <;> simp only [hf] at h
             · exact ih _ h
             · cases h)
    | new o k ih => intro w h; exact ih _ _ h
    | shape r k ih => intro w h; exact ih _ _ h
    | freeze a n k ih => intro w h; exact ih _ h
    | frozen a k ih => intro w h; exact ih _ _ h
    | getObj r k ih =>
      intro w h
      simp only [Sem.bind, Sem.run] at h ⊢
      split <;> rename_i hc <;> simp only [hc] at h
      · cases h
      · exact ih _ _ h
      · cases h
    | setObj r o k ih =>
      intro w h
      simp only [Sem.bind, Sem.run] at h ⊢
      split <;> rename_i hc <;> simp only [hc] at h
      · cases h
      · exact ih _ h
      · cases h
    | choose q k ih =>
      intro w h
      simp only [Sem.bind, Sem.run] at h ⊢
      split <;> rename_i hc <;> simp only [hc, if_true, if_false, Bool.false_eq_true] at h
      · exact ih _ _ h
      · exact ih _ _ h
    | sys c k ih => intro w h; exact ih _ _ h
    | program k ih => intro w h; exact ih _ _ h
    | mark m k ih => intro w h; exact ih _ h
    | halt x => intro w h; simp [Sem.run] at h
  exact key s w h

theorem run_pure {α : Type} (x : α) (w : World) : (pure x : Sem α).run P w = .ok x w := rfl

/-- What is asked of the table of types. -/
def tsz (P : Program) (t : TypeId) : Option Nat := (P.info? t).map (·.size)
def tbytes (P : Program) (t : TypeId) : Option Nat := (P.info? t).map (·.bytes)
def tagg (P : Program) (t : TypeId) : Option Bool := (P.underlying t).map fun d => match d with | .struct _ | .array _ _ => true | _ => false
def tslice (P : Program) (t : TypeId) : Option TypeId := match P.underlying t with | some (.slice e) => some e | _ => none
def tint (P : Program) (t : TypeId) : Option IntKind := match P.underlying t with | some (.int k) => some k | _ => none
def tzero (P : Program) (t : TypeId) : Option (List Value) := ((P.info? t).bind (·.zero)).map (·.cells.toList)
/-- Where a field of a struct type begins, and its type (of a field that is not empty). -/
def tfield (P : Program) (s : TypeId) (f : Nat) : Option (Nat × TypeId) :=
  match P.underlying s with
  | some (.struct fs) => (fs[f]?).bind fun x => match tsz P x.type with | some (_ + 1) => some (x.offset, x.type) | _ => none
  | _ => none

theorem run_typeInfo {t : TypeId} {i : TypeInfo} (h : P.info? t = some i) (w : World) : (typeInfo t).run P w = .ok i w := by
  simp only [typeInfo, program]
  show (Sem.run P ((Sem.program Sem.pure) >>= _) w) = _
  rw [run_bind (w' := w) (x := P) _ _ _ (by rfl)]
  simp only [h]
  rfl

theorem run_sizeOf {t n : Nat} (h : tsz P t = some n) (w : World) : (sizeOf t).run P w = .ok n w := by
  simp only [tsz, Option.map_eq_some_iff] at h
  obtain ⟨i, hi, rfl⟩ := h
  simp only [sizeOf]
  rw [run_bind _ _ _ _ _ (run_typeInfo hi w)]
  rfl

theorem run_underlying {t : TypeId} {d : TypeDesc} (h : P.underlying t = some d) (w : World) : (underlying t).run P w = .ok d w := by
  simp only [underlying, program]
  rw [run_bind (w' := w) (x := P) _ _ _ (by rfl)]
  simp only [h]
  rfl

theorem run_isAgg {t : TypeId} {b : Bool} (h : tagg P t = some b) (w : World) : (isAgg t).run P w = .ok b w := by
  simp only [tagg, Option.map_eq_some_iff] at h
  obtain ⟨d, hd, rfl⟩ := h
  simp only [isAgg]
  rw [run_bind _ _ _ _ _ (run_underlying hd w)]
  split <;> simp_all <;> rfl

theorem und_slice {t e : TypeId} (h : tslice P t = some e) : P.underlying t = some (.slice e) := by
  unfold tslice at h
  split at h <;> simp_all

theorem und_int {t : TypeId} {k : IntKind} (h : tint P t = some k) : P.underlying t = some (.int k) := by
  unfold tint at h
  split at h <;> simp_all

theorem run_zeroValue {t : TypeId} {zs : List Value} (h : tzero P t = some zs) (w : World) : ∃ z : Value, z.cells.toList = zs ∧ (zeroValue t).run P w = .ok z w := by
  simp only [tzero, Option.map_eq_some_iff, Option.bind_eq_some_iff] at h
  obtain ⟨z, ⟨i, hi, hz⟩, rfl⟩ := h
  refine ⟨z, rfl, ?_⟩
  simp only [zeroValue]
  rw [run_bind _ _ _ _ _ (run_typeInfo hi w)]
  simp only [hz]
  rfl

/-! ### Reading -/

theorem run_load {a : Addr} {v : Value} {w : World} (h : w.cell? a = some v) : (load a).run P w = .ok v w := by
  simp only [load, Sem.run, h]

theorem run_loadCellsFrom (b off : Nat) (y : Nat → Value) (w : World) : ∀ (n i : Nat) (acc : Array Value), (∀ j, i ≤ j → j < i + n → w.cell? ⟨b, off + j, none⟩ = some (y j)) →
    (loadCellsFrom ⟨b, off, none⟩ i n acc).run P w = .ok (acc ++ ((List.range' i n).map y).toArray) w := by
  intro n
  induction n with
  | zero => intro i acc h; simp [loadCellsFrom, run_pure]
  | succ n ih =>
    intro i acc h
    simp only [loadCellsFrom]
    rw [run_bind _ _ _ _ _ (run_load (by rw [add_plain]; exact h i (Nat.le_refl _) (by omega)))]
    rw [ih (i + 1) (acc.push (y i)) (fun j h1 h2 => h j (by omega) (by omega))]
    congr 1
    rw [List.range'_succ]
    apply Array.ext'
    simp

theorem run_loadCells (b off : Nat) (y : Nat → Value) (w : World) (n : Nat) (h : ∀ j, j < n → w.cell? ⟨b, off + j, none⟩ = some (y j)) :
    (loadCells ⟨b, off, none⟩ n).run P w = .ok ((List.range n).map y).toArray w := by
  simp only [loadCells]
  rw [run_loadCellsFrom b off y w n 0 #[] (fun j _ h2 => h j (by omega))]
  simp [List.range_eq_range']

/-- A load of a whole variable: its cells, one by one. -/
theorem run_loadVar {t : TypeId} {g : Bool} {n : Nat} (ht : tagg P t = some g) (hn : tsz P t = some n) (b off : Nat) (y : Nat → Value) (w : World)
    (h : ∀ j, j < n → w.cell? ⟨b, off + j, none⟩ = some (y j)) (h1 : g = false → n = 1) :
    (Instr.loadAt t (.pointer (some ⟨b, off, none⟩))).run P w = .ok (if g then .agg ((List.range n).map y).toArray else y 0) w := by
  simp only [Instr.loadAt, Instr.sureAddr]
  rw [run_bind _ _ _ _ _ (run_pure _ _)]
  simp only [loadVar]
  rw [run_bind _ _ _ _ _ (run_isAgg ht w)]
  cases g with
  | true =>
    simp only [if_true]
    rw [run_bind _ _ _ _ _ (run_sizeOf hn w), run_bind _ _ _ _ _ (run_loadCells b off y w n h)]
    rfl
  | false =>
    simp only [Bool.false_eq_true, if_false]
    have := h1 rfl
    subst this
    exact run_load (by simpa using h 0 (by omega))

/-! ### Storing -/

theorem run_store {a : Addr} {v u : Value} {w : World} (h : w.cell? a = some u) (hf : w.frozen? a = false) (h1 : one v = true) : (store a v).run P w = .ok () (w.setCell a v) := by
  simp only [store]
  cases v <;> first | (simp [one] at h1; done) | (simp only [Sem.run, h, hf]; rfl)

theorem setCell_plain {w : World} {b off : Nat} {arr : Array Value} {T : TypeId} {v : Value} (h : w.heap[b]? = some (.cells arr T (0, 0))) :
    w.setCell ⟨b, off, none⟩ v = { w with heap := w.heap.setIfInBounds b (.cells (arr.setIfInBounds off v) T (0, 0)) } := by
  have hlt := lt_of_heap h
  simp only [World.setCell]
  congr 1
  apply Array.ext_getElem?
  intro i
  rw [Array.getElem?_modify, Array.getElem?_setIfInBounds]
  by_cases e : b = i
  · subst e
    rw [if_pos rfl, if_pos rfl, if_pos hlt, h]
    simp
  · simp [e]

def setCells (arr : Array Value) (off : Nat) : List Value → Array Value
  | [] => arr
  | v :: r => setCells (arr.setIfInBounds off v) (off + 1) r

theorem size_setCells : ∀ (vs : List Value) (arr : Array Value) (off : Nat), (setCells arr off vs).size = arr.size
  | [], _, _ => rfl
  | v :: r, arr, off => by simp only [setCells]; rw [size_setCells r]; simp

theorem get_setCells : ∀ (vs : List Value) (arr : Array Value) (off j : Nat), off + vs.length ≤ arr.size →
    (setCells arr off vs)[j]? = if off ≤ j ∧ j < off + vs.length then vs[j - off]? else arr[j]?
  | [], arr, off, j, _ => by simp only [setCells, List.length_nil]; rw [if_neg (by omega)]
  | v :: r, arr, off, j, h => by
    simp only [List.length_cons] at h
    simp only [setCells]
    rw [get_setCells r _ _ _ (by simp; omega)]
    simp only [List.length_cons, Array.getElem?_setIfInBounds]
    by_cases e : j = off
    · subst e
      rw [if_neg (by omega), if_pos rfl, if_pos (by omega), if_pos (by omega)]
      simp
    · by_cases h2 : off + 1 ≤ j ∧ j < off + 1 + r.length
      · rw [if_pos h2, if_pos (by omega)]
        rw [show j - off = (j - (off + 1)) + 1 from by omega, List.getElem?_cons_succ]
      · rw [if_neg h2, if_neg (fun e' => e e'.symm), if_neg (by omega)]

theorem run_storeCells (b : Nat) (T : TypeId) : ∀ (vs : List Value) (arr : Array Value) (w : World) (off i : Nat), w.heap[b]? = some (.cells arr T (0, 0)) → off + i + vs.length ≤ arr.size →
    (∀ v ∈ vs, one v = true) →
    (storeCells ⟨b, off, none⟩ vs i).run P w = .ok () { w with heap := w.heap.setIfInBounds b (.cells (setCells arr (off + i) vs) T (0, 0)) }
  | [], arr, w, off, i, h, _, _ => by
    have : w.heap.setIfInBounds b (.cells arr T (0, 0)) = w.heap := by
      apply Array.ext_getElem?
      intro j
      rw [Array.getElem?_setIfInBounds]
      by_cases e : b = j
      · subst e; rw [if_pos rfl, if_pos (lt_of_heap h), h]
      · simp [e]
    simp only [storeCells, setCells, this]
    rfl
  | v :: r, arr, w, off, i, h, hl, h1 => by
    simp only [List.length_cons] at hl
    have hlt := lt_of_heap h
    have hc : w.cell? ⟨b, off + i, none⟩ = some arr[off + i] := by
      simp [World.cell?, h]
    have hf : w.frozen? ⟨b, off + i, none⟩ = false := by simp [World.frozen?, h]
    simp only [storeCells]
    rw [run_bind _ _ _ _ _ (run_store (by rw [add_plain]; exact hc) (by rw [add_plain]; exact hf) (h1 v (by simp)))]
    rw [add_plain, setCell_plain h]
    rw [run_storeCells b T r (arr.setIfInBounds (off + i) v) _ off (i + 1) (by simp [hlt]) (by simp; omega) (fun u hu => h1 u (by simp [hu]))]
    simp only [setCells, Nat.add_assoc]
    congr 2
    apply Array.ext_getElem?
    intro j
    simp only [Array.getElem?_setIfInBounds]
    by_cases e : b = j <;> simp [e, hlt]

theorem run_storeVar {t : TypeId} {n : Nat} (hn : tsz P t = some n) (b off : Nat) (T : TypeId) (v : Value) (arr : Array Value) (w : World) (h : w.heap[b]? = some (.cells arr T (0, 0)))
    (hl : off + n ≤ arr.size) (hv : v.cells.size = n) (h1 : ∀ u ∈ v.cells.toList, one u = true) :
    (Instr.storeAt t (.pointer (some ⟨b, off, none⟩)) v).run P w = .ok () { w with heap := w.heap.setIfInBounds b (.cells (setCells arr off v.cells.toList) T (0, 0)) } := by
  simp only [Instr.storeAt, Instr.sureAddr]
  rw [run_bind _ _ _ _ _ (run_pure _ _)]
  simp only [storeVar]
  rw [run_bind _ _ _ _ _ (run_sizeOf hn w)]
  rw [if_neg (by simp [hv])]
  have := run_storeCells (P := P) b T v.cells.toList arr w off 0 h (by simp; omega) h1
  simpa using this

/-! ### New blocks -/

theorem run_newRow (T : TypeId) (cells : Array Value) (w : World) : (newRow T cells).run P w = .ok ⟨w.heap.size, 0, none⟩ { w with heap := w.heap.push (.cells cells T (0, 0)) } := rfl

theorem run_box (T : TypeId) (v : Value) (w : World) :
    (Instr.box T v).run P w = .ok (.pointer (some ⟨w.heap.size, 0, none⟩)) { w with heap := w.heap.push (.cells v.cells T (0, 0)) } := rfl

theorem run_alloc {t : TypeId} {zs : List Value} (h : tzero P t = some zs) (old : Value) (w : World) :
    (Instr.alloc t true old).run P w = .ok (.pointer (some ⟨w.heap.size, 0, none⟩)) { w with heap := w.heap.push (.cells zs.toArray t (0, 0)) } := by
  obtain ⟨z, hz, hr⟩ := run_zeroValue h w
  simp only [Instr.alloc]
  rw [run_bind _ _ _ _ _ hr]
  have : z.cells = zs.toArray := by rw [← hz]
  show Result.ok _ _ = _
  simp only [this]

end
end Go.CT
