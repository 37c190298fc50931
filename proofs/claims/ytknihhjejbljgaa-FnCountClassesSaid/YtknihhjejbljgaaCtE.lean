/- An operation that only reads, as a function on plain data ('pop'), and that the model's operation does just that ('pop_sound'). -/
import Derived.Test.YtknihhjejbljgaaCtD
set_option linter.unusedVariables false
set_option linter.unusedSimpArgs false
namespace Go.CT

def tbool (P : Program) (t : TypeId) : Bool := match P.underlying t with | some .bool => true | _ => false
def tstring (P : Program) (t : TypeId) : Bool := match P.underlying t with | some .string => true | _ => false

/-- One cell, or several, out of a list of cells. -/
def grab (cs : List C) (off n : Nat) (g : Bool) : Option (Prop × D) :=
  match g with
  | true => some (off + n ≤ cs.length, .agg ((cs.drop off).take n))
  | false => match n with
    | 1 => (match cs[off]? with | some c => some (True, .c c) | none => none)
    | _ => none

/-- How long a slice or a string is. -/
def islen (P : Program) (t : TypeId) : D → Option Nat
  | .c (.isl _ xs) => if (tslice P t).isSome then some xs.length else none
  | .c (.msl _ _ _ len) => if (tslice P t).isSome then some len else none
  | .c (.v (.string s)) => if tstring P t then some s.size else none
  | .c (.v (.slice none 0 0)) => if (tslice P t).isSome then some 0 else none
  | .c .z => if (tslice P t).isSome then some 0 else none
  | _ => none

/-- A new struct value: zero cells, the given parts laid over. -/
def putCells (cs : List C) (off : Nat) : List C → List C
  | [] => cs
  | c :: r => putCells (cs.set off c) (off + 1) r

def bld (P : Program) (s : TypeId) (e : Operand → Option D) : List (Nat × Operand) → List C → Option (List C)
  | [], cs => some cs
  | (f, x) :: r, cs =>
    match tfield P s f with
    | some (o, ft) => (match e x with
      | some d => (match d.cells with
        | some ds => if tsz P ft = some ds.length ∧ o + ds.length ≤ cs.length then bld P s e r (putCells cs o ds) else none
        | none => none)
      | none => none)
    | none => none

/-- The zero cells of a struct type. -/
def tstruct (P : Program) (t : TypeId) : Option (List Value) :=
  match P.underlying t with
  | some (.struct fs) => if fs.toList.all (fun x => (tsz P x.type).isSome) then (match tzero P t with | some zs => if zs.all one then some zs else none | none => none) else none
  | _ => none

/-- A bound of a slice expression: none stands for what it is left out for. -/
def bnd (e : Operand → Option D) (x : Option Operand) (dflt : Int) : Option Int :=
  match x with
  | none => some dflt
  | some x => (match e x with | some (.c (.v (.int _ n))) => some n | _ => none)

/-- Each of one cell. -/
def cellsOf (e : Operand → Option D) : List Operand → Option (List C)
  | [] => some []
  | x :: r => (match e x, cellsOf e r with | some (.c c), some cs => some (c :: cs) | _, _ => none)

def pop (P : Program) (e : Operand → Option D) (hp : Hp) : Op → Option (Prop × D)
  | .move x | .assign x => (match e x with | some d => some (True, d) | none => none)
  | .load t x => (match e x, tagg P t, tsz P t with
    | some (.c (.ptr k off)), some g, some n => (match hp k with | some (some cs) => grab cs off n g | _ => none)
    | some (.c (.eptr cs)), some g, some n => grab cs 0 n g
    | _, _, _ => none)
  | .nilCheck x => (match e x with
    | some (.c (.ptr k off)) => some (True, .c (.ptr k off))
    | some (.c (.eptr cs)) => some (True, .c (.eptr cs))
    | some (.c (.clo f cs)) => some (True, .c (.clo f cs))
    | _ => none)
  | .binOp op t x y _ => (match e x, e y with
    | some (.c (.v (.bool a))), some (.c (.v (.bool b))) => if tbool P t = true then dbin op (DB a) (DB b) else none
    | some dx, some dy => (match dx, dy with
      | .c (.v (.bool _)), _ => none
      | dx, dy => dbin op dx dy)
    | _, _ => none)
  | .unOp op _ x => (match e x with | some dx => dun op dx | none => none)
  | .convert src dst x => (match e x, P.underlying src, P.underlying dst with
    | some (.c (.v (.int k n))), some (.int _), some (.int k') => some (InK k' n, DI k' n)
    | _, _, _ => none)
  | .fieldAddr s x f => (match e x, tfield P s f with
    | some (.c (.ptr k off)), some (o, _) => some (True, .c (.ptr k (off + o)))
    | some (.c (.eptr cs)), some (o, _) => some (o ≤ cs.length, .c (.eptr (cs.drop o)))
    | _, _ => none)
  | .field s x f => (match e x, tfield P s f with
    | some (.agg cs), some (o, ft) => (match tagg P ft, tsz P ft with
      | some g, some n => grab cs o n g
      | _, _ => none)
    | _, _ => none)
  | .indexAddr t x ix => (match e x, e ix, (tslice P t).bind (tsz P) with
    | some (.c (.isl sz xs)), some (.c (.v (.int _ i))), some n => (match xs[i.toNat]? with
      | some cs => some (0 ≤ i ∧ sz = n, .c (.eptr cs))
      | none => none)
    | some (.c (.msl k sz off len)), some (.c (.v (.int _ i))), some n => some ((0 ≤ i ∧ i < len) ∧ sz = n, .c (.ptr k (off + i.toNat * sz)))
    | _, _, _ => none)
  | .index t x ix => (match e x, e ix with
    | some (.c (.v (.string s))), some (.c (.v (.int _ i))) => if tstring P t = true then some (0 ≤ i ∧ i < s.size, DI .u8 (s.data.toList.getD i.toNat 0).toNat) else none
    | _, _ => none)
  | .extract x i => (match e x with
    | some (.tup ds) => (match ds[i]? with | some d => some (True, d) | none => none)
    | _ => none)
  | .call c => (match c.callee with
    | .builtin .len => (match c.args.toList, c.argTypes.toList with
      | [x], [t] => (match e x with
        | some d => (match islen P t d with
          | some n => some (True, DI .i64 n)
          | none => none)
        | none => none)
      | _, _ => none)
    | _ => none)
  | .slice t x lo hi none => (match e x with
    | some (.c (.v (.string s))) => (match bnd e lo 0, bnd e hi s.size with
      | some l, some h => if tstring P t = true then some ((0 ≤ l ∧ l ≤ h) ∧ h ≤ s.size, DS (s.extract l.toNat h.toNat)) else none
      | _, _ => none)
    | some (.c (.isl sz xs)) => (match bnd e lo 0, bnd e hi xs.length, (tslice P t).bind (tsz P) with
      | some l, some h, some n => some (((0 ≤ l ∧ l ≤ h) ∧ h ≤ xs.length) ∧ sz = n, .c (.isl sz ((xs.drop l.toNat).take (h.toNat - l.toNat))))
      | _, _, _ => none)
    | some (.c (.msl k sz off len)) => (match bnd e lo 0, bnd e hi len, (tslice P t).bind (tsz P) with
      | some l, some h, some n => some (((0 ≤ l ∧ l ≤ h) ∧ h ≤ len) ∧ (l = 0 ∨ l < h) ∧ sz = n, .c (.msl k sz (off + l.toNat * sz) (h.toNat - l.toNat)))
      | _, _, _ => none)
    | _ => none)
  | .slice t x none (some hi) (some mx) => (match e x, e hi, e mx with
    | some (.c c), some (.c (.v (.int _ 0))), some (.c (.v (.int _ 0))) => (match c with
      | .isl _ _ | .msl _ _ _ _ | .z | .v (.slice none 0 0) => if ((tslice P t).bind (tsz P)).isSome then some (True, .c .z) else none
      | _ => none)
    | _, _, _ => none)
  | .makeFunc (.func f) first caps => (match cellsOf e caps.toList with
    | some cs => if first.size = 0 then some (True, .c (.clo f cs)) else none
    | none => none)
  | .build t ps => (match tstruct P t with
    | some zs => (match bld P t e ps.toList (zs.map .v) with | some cs => some (True, .agg cs) | none => none)
    | none => none)
  | _ => none

section
variable {P : Program}

theorem rd_ptr {I : Nat → Prop} {w : World} {s : Sg} {x : Value} {k off : Nat} (h : RD I w s x (.c (.ptr k off))) : ∃ b, s k = some (some b) ∧ x = .pointer (some ⟨b, off, none⟩) := by
  cases h with | c _ _ h => cases h with | ptr _ _ b _ h => exact ⟨b, h, rfl⟩

theorem rd_eptr {I : Nat → Prop} {w : World} {s : Sg} {x : Value} {cs : List C} (h : RD I w s x (.c (.eptr cs))) : ∃ (b off : Nat) (y : Nat → Value), x = .pointer (some ⟨b, off, none⟩) ∧ I b ∧
    (∀ j, j < cs.length → w.cell? ⟨b, off + j, none⟩ = some (y j)) ∧ ∀ j (hj : j < cs.length), RC I w Sg0 (y j) cs[j] := by
  cases h with | c _ _ h => cases h with | eptr _ b off _ y hI hc hr => exact ⟨b, off, y, rfl, hI, hc, hr⟩

theorem RC.any {I : Nat → Prop} {w : World} {x : Value} {c : C} (h : RC I w Sg0 x c) (s : Sg) : RC I w s x c :=
  h.mono (fun _ h => h) (fun _ _ => rfl) (Shp.refl w) (Sg0.le s)

theorem grab_sound {t : TypeId} {g : Bool} {n : Nat} (ht : tagg P t = some g) (hn : tsz P t = some n) {I : Nat → Prop} {w : World} {s : Sg} {cs : List C} {off b o : Nat} {vc : Prop} {d : D}
    (h : grab cs off n g = some (vc, d)) (hvc : vc) (hc : ∀ j (h : j < cs.length), ∃ y, w.cell? ⟨b, o + j, none⟩ = some y ∧ RC I w s y cs[j]) :
    ∃ v, (Instr.loadAt t (.pointer (some ⟨b, o + off, none⟩))).run P w = .ok v w ∧ RD I w s v d := by
  cases g with
  | true =>
    simp only [grab, Option.some.injEq, Prod.mk.injEq] at h
    obtain ⟨rfl, rfl⟩ := h
    have hy : ∀ j, ∃ y, (h : j < n) → w.cell? ⟨b, o + off + j, none⟩ = some y ∧ RC I w s y (cs[off + j]'(by omega)) := by
      intro j
      by_cases h : j < n
      · obtain ⟨y, h1, h2⟩ := hc (off + j) (by omega)
        exact ⟨y, fun _ => ⟨by rw [Nat.add_assoc]; exact h1, h2⟩⟩
      · exact ⟨undef, fun h' => absurd h' h⟩
    let y := fun j => (hy j).choose
    have hys := fun j => (hy j).choose_spec
    refine ⟨_, run_loadVar ht hn b (o + off) y w (fun j h => (hys j h).1) (fun h => by cases h), ?_⟩
    simp only [if_true]
    refine .agg _ _ (by simp; omega) fun j h1 h2 => ?_
    have hj : j < n := by simpa using h1
    have := (hys j hj).2
    simpa [y] using this
  | false =>
    unfold grab at h
    simp only at h
    split at h
    · rename_i _ _
      split at h
      · rename_i c hcc
        simp only [Option.some.injEq, Prod.mk.injEq] at h
        obtain ⟨rfl, rfl⟩ := h
        obtain ⟨hlt, hcc'⟩ := List.getElem?_eq_some_iff.1 hcc
        obtain ⟨y, h1, h2⟩ := hc off hlt
        refine ⟨_, run_loadVar ht hn b (o + off) (fun _ => y) w (fun j h => ?_) (fun _ => rfl), ?_⟩
        · have : j = 0 := by omega
          subst this
          exact h1
        · simp only [Bool.false_eq_true, if_false]
          exact .c _ _ (hcc' ▸ h2)
      · cases h
    · cases h

theorem live_cells {I : Nat → Prop} {w : World} {s : Sg} {hp : Hp} (H : SimH I w s hp) {k b : Nat} {cs : List C} (hk : hp k = some (some cs)) (hs : s k = some (some b)) :
    ∃ arr T, w.heap[b]? = some (.cells arr T (0, 0)) ∧ cs.length ≤ arr.size ∧ ∀ j (h : j < cs.length), ∃ y, arr[j]? = some y ∧ RC I w s y cs[j] := by
  rcases H.blk k cs hk with ⟨h1, _⟩ | ⟨b', arr, T, h1, h2, h3, h4, h5⟩
  · rw [hs] at h1; cases h1
  · rw [hs] at h1
    simp only [Option.some.injEq] at h1
    subst h1
    exact ⟨arr, T, h2, h3, h5⟩

theorem part_sound {t : TypeId} {g : Bool} {n : Nat} (ht : tagg P t = some g) (hn : tsz P t = some n) {I : Nat → Prop} {w : World} {s : Sg} {cs : List C} {off : Nat} {vs : Array Value} {vc : Prop} {d : D}
    (h : grab cs off n g = some (vc, d)) (hvc : vc) (hl : vs.size = cs.length) (hr : ∀ j (h : j < vs.size) (h' : j < cs.length), RC I w s vs[j] cs[j]) :
    ∃ v, (part t vs off).run P w = .ok v w ∧ RD I w s v d := by
  simp only [part]
  rw [run_bind _ _ _ _ _ (run_isAgg ht w)]
  cases g with
  | true =>
    simp only [grab, Option.some.injEq, Prod.mk.injEq] at h
    obtain ⟨rfl, rfl⟩ := h
    simp only [if_true]
    rw [run_bind _ _ _ _ _ (run_sizeOf hn w)]
    refine ⟨_, rfl, .agg _ _ (by simp; omega) fun j h1 h2 => ?_⟩
    simp at h1 h2
    simpa using hr (off + j) (by omega) (by omega)
  | false =>
    unfold grab at h
    simp only at h
    split at h
    · split at h
      · rename_i c hcc
        simp only [Option.some.injEq, Prod.mk.injEq] at h
        obtain ⟨rfl, rfl⟩ := h
        obtain ⟨hlt, hcc'⟩ := List.getElem?_eq_some_iff.1 hcc
        simp only [Bool.false_eq_true, if_false]
        have : vs[off]? = some (vs[off]'(by omega)) := by simp
        rw [this]
        exact ⟨_, rfl, .c _ _ (hcc' ▸ hr off (by omega) hlt)⟩
      · cases h
    · cases h

theorem run_v {s : Sem Value} {x : Value} {w w' : World} (h : s.run P w = .ok x w') : (do pure (Next.value (← s)) : Sem Next).run P w = .ok (.value x) w' := by
  rw [run_bind _ _ _ _ _ h]; rfl

theorem fieldPlace_run {st : TypeId} {f o : Nat} {ft : TypeId} (h : tfield P st f = some (o, ft)) (b off : Nat) (w : World) :
    (Instr.fieldAt st (.pointer (some ⟨b, off, none⟩)) f).run P w = .ok (.pointer (some ⟨b, off + o, none⟩)) w := by
  unfold tfield at h
  split at h
  · rename_i fs hu
    simp only [Option.bind_eq_some_iff] at h
    obtain ⟨x, hx, h⟩ := h
    split at h
    · rename_i n hn
      simp only [Option.some.injEq, Prod.mk.injEq] at h
      obtain ⟨rfl, rfl⟩ := h
      simp only [Instr.fieldAt]
      rw [run_bind _ _ _ _ _ (run_underlying hu w)]
      simp only [hx]
      rw [run_bind (x := (⟨b, off, none⟩ : Addr)) (w' := w) _ _ _ (by rfl)]
      simp only [fieldPlace]
      rw [run_bind (x := (⟨b, off + x.offset, none⟩ : Addr)) (w' := w)]
      · rfl
      · rw [run_bind _ _ _ _ _ (run_sizeOf hn w)]
        simp [add_plain, run_pure]
    · cases h
  · cases h

theorem tfield_parts {st : TypeId} {f o : Nat} {ft : TypeId} (h : tfield P st f = some (o, ft)) : ∃ fs x, P.underlying st = some (.struct fs) ∧ fs[f]? = some x ∧ x.offset = o ∧ x.type = ft := by
  unfold tfield at h
  split at h
  · rename_i fs hu
    simp only [Option.bind_eq_some_iff] at h
    obtain ⟨x, hx, h⟩ := h
    split at h
    · simp only [Option.some.injEq, Prod.mk.injEq] at h
      exact ⟨fs, x, hu, hx, h.1, h.2⟩
    · cases h
  · cases h

end
end Go.CT
