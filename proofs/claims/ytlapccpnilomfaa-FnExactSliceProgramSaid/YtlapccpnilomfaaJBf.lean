/- Contracts of functions of the program, one behind the other, as plain data: what each call returns and which blocks it leaves. -/
import Derived.Deep.OwnRows
import Derived.Test.YtlapccpnilomfaaJBe
set_option linter.unusedVariables false
set_option linter.unusedSimpArgs false
set_option linter.unusedSectionVars false
set_option maxHeartbeats 16000000
set_option maxRecDepth 100000
namespace Go.Proofs.Ytlapccpnilomfaa.CtT
open Go Go.CT Go.RowKit

/-- All blocks but those from lo to hi stand. -/
structure MB (lo hi : Nat) (w w' : World) : Prop where
  os : w'.os = w.os
  tape : w'.tape = w.tape
  output : w'.output = w.output
  size : w.heap.size ≤ w'.heap.size
  same : ∀ b, b < w.heap.size → (b < lo ∨ hi ≤ b) → w'.heap[b]? = w.heap[b]?
theorem MB.refl (lo hi : Nat) (w : World) : MB lo hi w w := ⟨rfl, rfl, rfl, Nat.le_refl _, fun _ _ _ => rfl⟩
theorem MB.below {lo hi n : Nat} {w w' : World} (h : MB lo hi w w') (h1 : n ≤ lo) (h2 : n ≤ w.heap.size) : Below n w w' :=
  ⟨h.os, h.tape, h.output, h.size, fun k hk => h.same k (by omega) (.inl (by omega))⟩
theorem MB.set {lo hi : Nat} {w w' : World} (h : MB lo hi w w') {b j : Nat} (h1 : lo ≤ b) (h2 : b < hi) (x : Value) : MB lo hi w (w'.setCell ⟨b, j, none⟩ x) := by
  refine ⟨h.os, h.tape, h.output, ?_, fun c hc hb => ?_⟩
  · have := h.size; simpa [World.setCell] using this
  · rw [set_other _ _ _ (by simp; omega)]; exact h.same c hc hb
/-- A row of booleans in a block of its own. -/
def BW (w : World) (lo hi : Nat) (v : Value) (l : List Bool) : Prop := ∃ (b cap : Nat) (arr : Array Value) (ty : TypeId), v = .slice (some ⟨b, 0, none⟩) l.length cap ∧ (lo ≤ b ∧ b < hi) ∧ (l.length ≤ cap ∧ l.length ≤ 1048576) ∧ w.heap[b]? = some (.cells arr ty (0, 0)) ∧ ∀ (j : Nat) (x : Bool), l[j]? = some x → arr[j]? = some (.bool x)
theorem flat_bool : ∀ l : List Bool, (l.map fun b => [C.v (.bool b)]).flatten = l.map fun b => C.v (.bool b)
  | [] => rfl
  | a :: r => by rw [List.map_cons, List.flatten_cons, flat_bool r]; rfl
theorem BW.pl {w : World} {lo hi : Nat} {v : Value} {l : List Bool} (h : BW w lo hi v l) : PL w v 1 (l.map fun b => [C.v (.bool b)]) := by
  obtain ⟨b, cap, arr, ty, rfl, h1, h2, h3, h4⟩ := h
  have hb : b < w.heap.size := by
    rcases Nat.lt_or_ge b w.heap.size with q | q
    · exact q
    · rw [Array.getElem?_eq_none q] at h3; cases h3
  have hp := PL.row (w := w) b 0 cap 1 (l.map fun b => [C.v (.bool b)]) (fun j => .bool (l.getD j false)) hb (fun j hj => by
    have hj' : j < l.length := by simpa using hj
    rw [Lib.cell_of_heap h3, Nat.zero_add, h4 j l[j] (by simp [hj'])]
    simp [List.getD, hj']) (fun x hx => by obtain ⟨n, _, rfl⟩ := List.mem_map.1 hx; rfl) (fun j z hz => by
    rw [flat_bool, List.getElem?_map] at hz
    obtain ⟨n, hn, e⟩ := Option.map_eq_some_iff.1 hz
    simp only [C.v.injEq] at e
    subst e
    simp [List.getD, hn]) (fun j n q hz => by
    rw [flat_bool, List.getElem?_map] at hz
    obtain ⟨n, hn, e⟩ := Option.map_eq_some_iff.1 hz
    cases e) (by simpa using h2)
  simpa using hp
theorem BW.keep {w w' : World} {lo hi : Nat} {v : Value} {l : List Bool} (h : BW w lo hi v l) (hk : ∀ b, lo ≤ b → b < hi → w'.heap[b]? = w.heap[b]?) : BW w' lo hi v l := by
  obtain ⟨b, cap, arr, ty, rfl, h1, h2, h3, h4⟩ := h
  exact ⟨b, cap, arr, ty, rfl, h1, h2, (hk b h1.1 h1.2).trans h3, h4⟩
theorem toBoolR {w : World} {v : Value} {l : List Bool} (h : PL w v 1 (l.map fun b => [C.v (.bool b)])) (hl : l.length ≤ 1048576) :
    Calls Try.prog 7 #[v] w fun e w' => ∃ g, e = .returned g ∧ BW w' w.heap.size w'.heap.size g l ∧ Below w.heap.size w w' := by
  obtain ⟨a, n, c, rfl⟩ := h.sl
  have hn := h.len
  simp only [List.length_map] at hn
  subst hn
  have hmk := run_make_row' (P := Try.prog) 26 4 (.bool false) 1 Try.underlying26 (by kernel_rfl) rfl .i64 .i64 l.length (by omega) (by omega)
  have hB : 1 ≤ l.length → ∃ b off, a = some ⟨b, off, none⟩ ∧ b < w.heap.size ∧ ∀ j (hj : j < l.length), w.cell? ⟨b, off + j, none⟩ = some (.bool l[j]) := fun h1 => by
    obtain ⟨b, off, e, _, h2, h3⟩ := h.bools h1
    exact ⟨b, off, e, h2, h3⟩
  clear h
  obtain ⟨arr0, h0⟩ : ∃ x, x = madeCells #[.bool false] l.length := ⟨_, rfl⟩
  have h0s : arr0.size = l.length ∧ ∀ j, j < l.length → ∃ x, arr0[j]? = some (.bool x) := by
    subst h0
    refine ⟨by simp [madeCells], fun j hj => ⟨false, by simp [madeCells, hj, Nat.mod_one]⟩⟩
  rw [← h0] at hmk
  clear h0
  obtain ⟨w0, hw0⟩ : ∃ x, x = w.alloc (.cells arr0 4) := ⟨_, rfl⟩
  have hb0 : Below w.heap.size w w0 := by rw [hw0]; exact (Below.refl _ _).alloc (Nat.le_refl _) _
  have hs0 : w.heap.size < w0.heap.size := by rw [hw0]; simp
  have hX : w0.heap[w.heap.size]? = some (.cells arr0 4 (0, 0)) := by rw [hw0]; exact heap_alloc_new w _
  go_enter Try.func7, Try.ntmps7
  go_wp2
  rw [← hw0]
  go_loopw [4] (fun iv wv => ∃ i : Nat, i ≤ l.length ∧ iv = .int .i64 i ∧ (∃ arr, wv.heap[w.heap.size]? = some (.cells arr 4 (0, 0)) ∧ arr.size = l.length ∧ (∀ j, j < l.length → ∃ x, arr[j]? = some (.bool x)) ∧ ∀ j x, j < i → l[j]? = some x → arr[j]? = some (.bool x)) ∧ Below w.heap.size w wv ∧ w.heap.size < wv.heap.size) (fun iv _ => l.length - (intOf iv).toNat)
  case atStart => exact ⟨0, Nat.zero_le _, rfl, ⟨arr0, hX, h0s.1, h0s.2, fun j x hj => by omega⟩, hb0, hs0⟩
  case round =>
    obtain ⟨i, hi', rfl, ⟨arr, g1, g2, g3, g4⟩, hbr, hsr⟩ := hrel
    by_cases hlt : i < l.length
    · obtain ⟨b, off, rfl, hbl, hel⟩ := hB (by omega)
      have c0 : wr.cell? ⟨b, off + i, none⟩ = some (.bool l[i]) := by rw [hbr.cell hbl]; exact hel i hlt
      obtain ⟨x0, hx0⟩ := g3 i hlt
      have c1 : wr.cell? ⟨w.heap.size, i, none⟩ = some (.bool x0) := by rw [Lib.cell_of_heap g1]; exact hx0
      have f1 : wr.frozen? ⟨w.heap.size, i, none⟩ = false := Lib.frozen_of_heap g1 i
      have hst : ∀ y, (wr.setCell ⟨w.heap.size, i, none⟩ (.bool y)).heap[w.heap.size]? = some (.cells (arr.setIfInBounds i (.bool y)) 4 (0, 0)) := fun y => set_same (a := ⟨w.heap.size, i, none⟩) rfl g1 _
      have hxi : l[i]? = some l[i] := by simp [hlt]
      generalize l[i] = xi at *
      clear hmk hX h0s hel
      go_wp2
      go_roundw
      case rel =>
        refine ⟨i + 1, hlt, by go_num, ⟨_, hst _, by simp [g2], fun j hj => ?_, fun j x hj hx => ?_⟩, hbr.setCell (Nat.le_refl _) _, by simpa [World.setCell] using hsr⟩
        · by_cases e : j = i
          · subst e; exact ⟨xi, by simp [Array.getElem?_setIfInBounds, g2, hlt]⟩
          · rw [Array.getElem?_setIfInBounds, if_neg (Ne.symm e)]; exact g3 j hj
        · by_cases e : j = i
          · subst e
            rw [hxi] at hx; cases hx
            simp [Array.getElem?_setIfInBounds, g2, hlt]
          · rw [Array.getElem?_setIfInBounds, if_neg (Ne.symm e)]; exact g4 j x (by omega) hx
      case measure => simp [intOf]; omega
    · have : i = l.length := by omega
      subst this
      clear hmk hX h0s
      go_wp2
      go_ret
      exact ⟨_, rfl, ⟨w.heap.size, l.length, arr, 4, rfl, ⟨Nat.le_refl _, hsr⟩, ⟨Nat.le_refl _, hl⟩, g1, fun j x hx => g4 j x (List.getElem?_eq_some_iff.1 hx).1 hx⟩, hbr⟩
theorem markBoolR {w : World} {lo hi : Nat} {v : Value} {l : List Bool} (h : BW w lo hi v l) (k : Int) (hk : 0 ≤ k) (hb : k ≤ 100000000) :
    Calls Try.prog 12 #[v, .int .i64 k] w fun e w' => e = .returned (.int .i64 (k + (l.length : Nat))) ∧ MB lo hi w w' := by
  obtain ⟨b, cap, arr, ty, rfl, h1, h2, h3, h4⟩ := h
  obtain ⟨h21, h22⟩ := h2
  go_enter Try.func12, Try.ntmps12
  go_wp2
  go_loopw [1, 5] (fun kv iv wv => ∃ i : Nat, i ≤ l.length ∧ kv = .int .i64 (k + (i : Nat)) ∧ iv = .int .i64 i ∧ (∃ arr, wv.heap[b]? = some (.cells arr ty (0, 0)) ∧ ∀ j, j < l.length → ∃ x, arr[j]? = some (.bool x)) ∧ MB lo hi w wv) (fun _ iv _ => l.length - (intOf iv).toNat)
  case atStart => exact ⟨0, Nat.zero_le _, by simp, rfl, ⟨arr, h3, fun j hj => ⟨l[j], h4 j l[j] (by simp [hj])⟩⟩, MB.refl _ _ _⟩
  case round =>
    obtain ⟨i, hi', rfl, rfl, ⟨arr', g1, g2⟩, hm⟩ := hrel
    by_cases hlt : i < l.length
    · obtain ⟨x0, hx0⟩ := g2 i hlt
      have c1 : wr.cell? ⟨b, i, none⟩ = some (.bool x0) := by rw [Lib.cell_of_heap g1]; exact hx0
      have f1 : wr.frozen? ⟨b, i, none⟩ = false := Lib.frozen_of_heap g1 i
      have hst : ∀ y, (wr.setCell ⟨b, i, none⟩ (.bool y)).heap[b]? = some (.cells (arr'.setIfInBounds i (.bool y)) ty (0, 0)) := fun y => set_same (a := ⟨b, i, none⟩) rfl g1 _
      go_wp2
      go_roundw
      case rel =>
        refine ⟨i + 1, hlt, by congr 1; omega, by go_num, ⟨_, hst _, fun j hj => ?_⟩, hm.set h1.1 h1.2 _⟩
        by_cases e : j = i
        · subst e
          obtain ⟨hj0, _⟩ := Array.getElem?_eq_some_iff.1 hx0
          exact ⟨_, by rw [Array.getElem?_setIfInBounds, if_pos rfl, if_pos hj0]⟩
        · rw [Array.getElem?_setIfInBounds, if_neg (Ne.symm e)]; exact g2 j hj
      case measure => simp [intOf]; omega
    · have : i = l.length := by omega
      subst this
      go_wp2
      go_ret
      exact ⟨rfl, hm⟩
end Go.Proofs.Ytlapccpnilomfaa.CtT
