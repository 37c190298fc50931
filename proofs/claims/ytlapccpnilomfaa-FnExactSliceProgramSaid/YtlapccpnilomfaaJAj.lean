/- Contracts of functions of the program, one behind the other, as plain data: what each call returns and which blocks it leaves. -/
import Derived.Lib.Builder
import Derived.Test.YtlapccpnilomfaaChecked
import Derived.KernelRfl
import Derived.WalkKit
import Derived.BigCall
import Derived.Test.YtlapccpnilomfaaJAi
set_option linter.unusedVariables false
set_option linter.unusedSimpArgs false
set_option linter.unusedSectionVars false
set_option maxHeartbeats 16000000
set_option maxRecDepth 100000
namespace Go.Proofs.Ytlapccpnilomfaa.CtT
open Go Go.CT

/-! Trees of rows: every row in a block of its own. -/
/-- v reads as the row xs (sz cells an element; ints and rows only); B: the blocks, A: where the ints lie, from the left. -/
inductive TR (w : World) : Value → Nat → List (List C) → List Nat → List Addr → Prop
  | nil (a : Option Addr) (cap sz : Nat) : TR w (.slice a 0 cap) sz [] [] []
  | row (b cap sz : Nat) (xs : List (List C)) (y : Nat → Value) (Bs : Nat → List Nat) (As : Nat → List Addr) (arr : Array Value) (ty : TypeId)
      (hb : w.heap[b]? = some (.cells arr ty (0, 0))) (hsz : ∀ x ∈ xs, x.length = sz) (hy : ∀ j, j < xs.length * sz → arr[j]? = some (y j))
      (hc : ∀ c ∈ xs.flatten, (∃ z, c = .v (.int .i64 z)) ∨ ∃ n l, c = .isl n l)
      (hi : ∀ j z, xs.flatten[j]? = some (.v (.int .i64 z)) → y j = .int .i64 z ∧ As j = [⟨b, j, none⟩] ∧ Bs j = [])
      (hr : ∀ j n l, xs.flatten[j]? = some (.isl n l) → TR w (y j) n l (Bs j) (As j))
      (hl : xs.length ≤ cap ∧ xs.length ≤ mx) (hcap : cap * sz ≤ arr.size) :
      TR w (.slice (some ⟨b, 0, none⟩) xs.length cap) sz xs (b :: (List.range (xs.length * sz)).flatMap Bs) ((List.range (xs.length * sz)).flatMap As)

theorem flat_len {xs : List (List C)} {sz : Nat} (h : ∀ x ∈ xs, x.length = sz) : xs.flatten.length = xs.length * sz := by
  rw [List.length_flatten, show xs.map List.length = List.replicate xs.length sz from List.eq_replicate_iff.2 ⟨by simp, fun b hb => by obtain ⟨x, hx, rfl⟩ := List.mem_map.1 hb; exact h x hx⟩]
  simp
theorem flat_at : ∀ {xs : List (List C)} {sz : Nat}, (∀ x ∈ xs, x.length = sz) → ∀ (i j : Nat) (x : List C), xs[i]? = some x → j < sz → xs.flatten[i * sz + j]? = x[j]?
  | [], _, _, i, j, x, hx, _ => by simp at hx
  | a :: r, sz, h, 0, j, x, hx, hj => by
    simp only [List.getElem?_cons_zero, Option.some.injEq] at hx
    subst hx
    rw [List.flatten_cons, Nat.zero_mul, Nat.zero_add, List.getElem?_append_left (by rw [h a (by simp)]; exact hj)]
  | a :: r, sz, h, i + 1, j, x, hx, hj => by
    have ha := h a (by simp)
    rw [List.flatten_cons, List.getElem?_append_right (by rw [ha, Nat.succ_mul]; omega), ha, show (i + 1) * sz + j - sz = i * sz + j by rw [Nat.succ_mul]; omega]
    exact flat_at (fun x hx => h x (by simp [hx])) i j x (by simpa using hx) hj
/-- What does not touch a tree's blocks leaves it. -/
theorem TR.frame {w w' : World} {v : Value} {sz : Nat} {xs : List (List C)} {B : List Nat} {A : List Addr} (h : TR w v sz xs B A) : (∀ b ∈ B, w'.heap[b]? = w.heap[b]?) → TR w' v sz xs B A := by
  induction h with
  | nil a cap sz => exact fun _ => .nil a cap sz
  | row b cap sz xs y Bs As arr ty hb hsz hy hc hi hr hl hcap ih =>
    intro hw
    refine .row b cap sz xs y Bs As arr ty ((hw b (by simp)).trans hb) hsz hy hc hi (fun j n l hj => ih j n l hj fun b' hb' => hw b' ?_) hl hcap
    refine List.mem_cons_of_mem _ (List.mem_flatMap.2 ⟨j, List.mem_range.2 ?_, hb'⟩)
    rw [← flat_len hsz]
    exact (List.getElem?_eq_some_iff.1 hj).1
theorem flat_div {xs : List (List C)} {sz : Nat} (h : ∀ x ∈ xs, x.length = sz) {i j : Nat} (hi : i < xs.length) (hj : j < (xs[i]).length) : xs.flatten[i * sz + j]? = some (xs[i])[j] := by
  rw [flat_at h i j xs[i] (by simp [hi]) (by rw [← h _ (List.getElem_mem hi)]; exact hj)]
  simp [hj]
section
variable [Yn]
/-- A tree is plain data. -/
theorem TR.rc {w : World} {v : Value} {sz : Nat} {xs : List (List C)} {B : List Nat} {A : List Addr} (h : TR w v sz xs B A) {I : Nat → Prop} (s : Sg) : (∀ b ∈ B, I b) → RC I w s v (.isl sz xs) := by
  induction h generalizing s with
  | nil a cap sz => exact fun _ => .isl0 s a cap sz
  | row b cap sz xs y Bs As arr ty hb hsz hy hc hi hr hl hcap ih =>
    intro hI
    have hlt : ∀ i j, i < xs.length → j < sz → i * sz + j < xs.length * sz := fun i j h1 h2 => by
      have : (i + 1) * sz ≤ xs.length * sz := Nat.mul_le_mul_right _ h1
      rw [Nat.succ_mul] at this; omega
    refine .isl s b 0 cap sz xs (fun i j => y (i * sz + j)) (hI b (by simp)) (fun i h => hsz _ (List.getElem_mem h)) (fun i j h1 h2 => ?_) (fun i h1 j h2 => ?_) hl
    · rw [Lib.cell_of_heap hb, Nat.zero_add]
      exact hy _ (hlt i j h1 h2)
    · have e := flat_div hsz h1 h2
      have hjs : j < sz := by rw [← hsz _ (List.getElem_mem h1)]; exact h2
      rcases hc _ (List.mem_of_getElem? e) with ⟨z, hz⟩ | ⟨n, l, hz⟩
      · rw [hz] at e ⊢
        rw [(hi _ z e).1]
        exact .v _ _ rfl
      · rw [hz] at e ⊢
        refine ih _ n l e _ fun b' hb' => hI b' (List.mem_cons_of_mem _ (List.mem_flatMap.2 ⟨_, List.mem_range.2 (hlt i j h1 hjs), hb'⟩))
end
/-- Distinct blocks: distinct places. -/
theorem nodup_flatMap {α β : Type} : ∀ {l : List α} {f : α → List β}, l.Nodup → (∀ a ∈ l, (f a).Nodup) → (∀ a ∈ l, ∀ b ∈ l, a ≠ b → ∀ x ∈ f a, x ∉ f b) → (l.flatMap f).Nodup
  | [], _, _, _, _ => List.nodup_nil
  | a :: r, f, hn, h1, h2 => by
    rw [List.flatMap_cons, List.nodup_append]
    have hn' := List.nodup_cons.1 hn
    refine ⟨h1 a (by simp), nodup_flatMap hn'.2 (fun b hb => h1 b (by simp [hb])) (fun b hb c hc => h2 b (by simp [hb]) c (by simp [hc])), fun x hx y hy e => ?_⟩
    subst e
    obtain ⟨b, hb, hxb⟩ := List.mem_flatMap.1 hy
    exact h2 a (by simp) b (by simp [hb]) (fun e => hn'.1 (e ▸ hb)) x hx hxb
theorem flatMap_sep {α β : Type} {l : List α} {f : α → List β} (h : (l.flatMap f).Nodup) : ∀ (i j : Nat) (a b : α), l[i]? = some a → l[j]? = some b → i ≠ j → ∀ x ∈ f a, x ∉ f b := by
  induction l with
  | nil => intro i j a b h1; simp at h1
  | cons c r ih =>
    rw [List.flatMap_cons, List.nodup_append] at h
    obtain ⟨_, h2, h3⟩ := h
    intro i j a b hi hj hne x hx hxb
    match i, j with
    | 0, 0 => exact hne rfl
    | 0, j + 1 =>
      simp only [List.getElem?_cons_zero, Option.some.injEq, List.getElem?_cons_succ] at hi hj
      subst hi
      exact h3 x hx x (List.mem_flatMap.2 ⟨b, List.mem_of_getElem? hj, hxb⟩) rfl
    | i + 1, 0 =>
      simp only [List.getElem?_cons_zero, Option.some.injEq, List.getElem?_cons_succ] at hi hj
      subst hj
      exact h3 x hxb x (List.mem_flatMap.2 ⟨a, List.mem_of_getElem? hi, hx⟩) rfl
    | i + 1, j + 1 =>
      simp only [List.getElem?_cons_succ] at hi hj
      exact ih h2 i j a b hi hj (by omega) x hx hxb
theorem sub_nodup {α β : Type} : ∀ {l : List α} {f : α → List β} {a : α}, a ∈ l → (l.flatMap f).Nodup → (f a).Nodup
  | c :: r, f, a, h, hn => by
    rw [List.flatMap_cons, List.nodup_append] at hn
    rcases List.mem_cons.1 h with rfl | h
    · exact hn.1
    · exact sub_nodup h hn.2.1
theorem TR.places {w : World} {v : Value} {sz : Nat} {xs : List (List C)} {B : List Nat} {A : List Addr} (h : TR w v sz xs B A) : (∀ a ∈ A, a.block ∈ B) ∧ (B.Nodup → A.Nodup) := by
  induction h with
  | nil a cap sz => exact ⟨fun a h => by simp at h, fun _ => List.nodup_nil⟩
  | row b cap sz xs y Bs As arr ty hb hsz hy hc hi hr hl hcap ih =>
    have cell : ∀ j, j < xs.length * sz → (∃ z, xs.flatten[j]? = some (.v (.int .i64 z))) ∨ ∃ n l, xs.flatten[j]? = some (.isl n l) := fun j hj => by
      have hlt : j < xs.flatten.length := by rw [flat_len hsz]; exact hj
      have e : xs.flatten[j]? = some xs.flatten[j] := by simp [hlt]
      rcases hc _ (List.getElem_mem hlt) with ⟨z, hz⟩ | ⟨n, l, hz⟩
      · exact .inl ⟨z, by rw [e, hz]⟩
      · exact .inr ⟨n, l, by rw [e, hz]⟩
    have inB : ∀ j, j < xs.length * sz → ∀ a ∈ As j, (a = ⟨b, j, none⟩ ∧ Bs j = []) ∨ a.block ∈ Bs j := fun j hj a ha => by
      rcases cell j hj with ⟨z, hz⟩ | ⟨n, l, hz⟩
      · rw [(hi j z hz).2.1] at ha
        exact .inl ⟨by simpa using ha, (hi j z hz).2.2⟩
      · exact .inr ((ih j n l hz).1 a ha)
    refine ⟨fun a ha => ?_, fun hn => ?_⟩
    · obtain ⟨j, hj, ha⟩ := List.mem_flatMap.1 ha
      rcases inB j (List.mem_range.1 hj) a ha with ⟨h, _⟩ | h
      · subst h; simp
      · exact List.mem_cons_of_mem _ (List.mem_flatMap.2 ⟨j, hj, h⟩)
    · rw [List.nodup_cons] at hn
      obtain ⟨hn1, hn2⟩ := hn
      refine nodup_flatMap List.nodup_range (fun j hj => ?_) (fun i hi' j hj hne a ha hb' => ?_)
      · rcases cell j (List.mem_range.1 hj) with ⟨z, hz⟩ | ⟨n, l, hz⟩
        · rw [(hi j z hz).2.1]; simp
        · refine (ih j n l hz).2 ?_
          exact sub_nodup hj hn2
      · have gi := List.mem_range.1 hi'
        have gj := List.mem_range.1 hj
        rcases inB i gi a ha with ⟨h1, _⟩ | h1
        · rcases inB j gj a hb' with ⟨h2, _⟩ | h2
          · exact hne (congrArg Addr.off (h1.symm.trans h2))
          · rw [h1] at h2
            exact hn1 (List.mem_flatMap.2 ⟨j, hj, h2⟩)
        · rcases inB j gj a hb' with ⟨h2, _⟩ | h2
          · rw [h2] at h1
            exact hn1 (List.mem_flatMap.2 ⟨i, hi', h1⟩)
          · exact flatMap_sep hn2 i j i j (by simp [gi]) (by simp [gj]) hne _ h1 h2
end Go.Proofs.Ytlapccpnilomfaa.CtT

namespace Go.Proofs.Ytlapccpnilomfaa.CtT
open Go Go.CT

/-- An int lies there, where it can be written. -/
def IntAt (w : World) (a : Addr) : Prop := a.spot = none ∧ ∃ arr ty z, w.heap[a.block]? = some (.cells arr ty (0, 0)) ∧ arr[a.off]? = some (.int .i64 z)
/-- w' is w but for ints' values. -/
def SP (w w' : World) : Prop := ∀ (b : Nat) (arr : Array Value) (ty : TypeId) (fr : Nat × Nat), w.heap[b]? = some (.cells arr ty fr) → ∃ arr', w'.heap[b]? = some (.cells arr' ty fr) ∧ arr'.size = arr.size ∧ ∀ (j : Nat) (v : Value), arr[j]? = some v → arr'[j]? = some v ∨ ∃ z z', v = .int .i64 z ∧ arr'[j]? = some (.int .i64 z')
theorem SP.refl (w : World) : SP w w := fun b arr ty fr h => ⟨arr, h, rfl, fun j v h => .inl h⟩
theorem SP.keep {w w' w2 : World} (h : SP w w') (hb : ∀ (b : Nat) (arr : Array Value) (ty : TypeId) (fr : Nat × Nat), w.heap[b]? = some (.cells arr ty fr) → w2.heap[b]? = w'.heap[b]?) : SP w w2 := fun b arr ty fr e => by
  obtain ⟨arr', h1, h2⟩ := h b arr ty fr e
  exact ⟨arr', (hb b arr ty fr e).trans h1, h2⟩
theorem set_other (w : World) (a : Addr) (v : Value) {b : Nat} (h : b ≠ a.block) : (w.setCell a v).heap[b]? = w.heap[b]? := RowKit.Below.heap_setCell w a v b h
theorem set_same {w : World} {a : Addr} {arr : Array Value} {ty : TypeId} {fr : Nat × Nat} (hs : a.spot = none) (h : w.heap[a.block]? = some (.cells arr ty fr)) (v : Value) : (w.setCell a v).heap[a.block]? = some (.cells (arr.setIfInBounds a.off v) ty fr) := by
  obtain ⟨b, o, sp⟩ := a
  simp only at hs
  subst hs
  show (w.heap.modify b _)[b]? = _
  rw [Array.getElem?_modify, if_pos rfl, h]
  rfl
theorem SP.set {w w1 : World} {a : Addr} (h : SP w w1) (ha : IntAt w a) (k : Int) : SP w (w1.setCell a (.int .i64 k)) := fun b arr ty fr e => by
  obtain ⟨arr', h1, h2, h3⟩ := h b arr ty fr e
  by_cases hb : b = a.block
  · subst hb
    obtain ⟨hs, ar0, ty0, z, e0, e1⟩ := ha
    rw [e] at e0
    simp only [Option.some.injEq, Obj.cells.injEq] at e0
    obtain ⟨rfl, rfl, rfl⟩ := e0
    refine ⟨_, set_same hs h1 _, by simp [h2], fun j v hj => ?_⟩
    by_cases hjo : j = a.off
    · subst hjo
      rw [e1] at hj
      cases hj
      refine .inr ⟨z, k, rfl, ?_⟩
      have : a.off < arr'.size := by rw [h2]; exact (Array.getElem?_eq_some_iff.1 e1).1
      simp [Array.getElem?_setIfInBounds, this]
    · rw [Array.getElem?_setIfInBounds, if_neg (Ne.symm hjo)]
      exact h3 j v hj
  · exact ⟨arr', (set_other w1 a _ hb).trans h1, h2, h3⟩
theorem SP.at {w w1 : World} {a : Addr} (h : SP w w1) (ha : IntAt w a) : (∃ z, w1.cell? a = some (.int .i64 z)) ∧ w1.frozen? a = false ∧ IntAt w1 a := by
  obtain ⟨hs, arr, ty, z, e, e1⟩ := ha
  obtain ⟨arr', h1, h2, h3⟩ := h _ _ _ _ e
  obtain ⟨b, o, sp⟩ := a
  simp only at hs e e1 h1
  subst hs
  have hz : ∃ z, arr'[o]? = some (.int .i64 z) := by
    rcases h3 o _ e1 with q | ⟨_, z', _, q⟩
    · exact ⟨_, q⟩
    · exact ⟨_, q⟩
  obtain ⟨z', hz⟩ := hz
  exact ⟨⟨z', by rw [Lib.cell_of_heap h1]; exact hz⟩, Lib.frozen_of_heap h1 o, rfl, arr', ty, z', h1, hz⟩
theorem SP.cell {w w1 : World} {b j : Nat} {arr : Array Value} {ty : TypeId} {fr : Nat × Nat} {v : Value} (h : SP w w1) (hb : w.heap[b]? = some (.cells arr ty fr)) (hj : arr[j]? = some v) (hv : ∀ z, v ≠ .int .i64 z) : w1.cell? ⟨b, j, none⟩ = some v := by
  obtain ⟨arr', h1, h2, h3⟩ := h _ _ _ _ hb
  rw [Lib.cell_of_heap h1]
  rcases h3 j v hj with q | ⟨z, _, e, _⟩
  · exact q
  · exact absurd e (hv z)
theorem TR.ints {w : World} {v : Value} {sz : Nat} {xs : List (List C)} {B : List Nat} {A : List Addr} (h : TR w v sz xs B A) : ∀ a ∈ A, IntAt w a := by
  induction h with
  | nil a cap sz => exact fun a h => by simp at h
  | row b cap sz xs y Bs As arr ty hb hsz hy hc hi hr hl hcap ih =>
    intro a ha
    obtain ⟨j, hj, ha⟩ := List.mem_flatMap.1 ha
    have hj := List.mem_range.1 hj
    have hlt : j < xs.flatten.length := by rw [flat_len hsz]; exact hj
    have e : xs.flatten[j]? = some xs.flatten[j] := by simp [hlt]
    rcases hc _ (List.getElem_mem hlt) with ⟨z, hz⟩ | ⟨n, l, hz⟩
    · rw [hz] at e
      rw [(hi j z e).2.1] at ha
      simp only [List.mem_singleton] at ha
      subst ha
      exact ⟨rfl, arr, ty, z, hb, by rw [hy j hj, (hi j z e).1]⟩
    · rw [hz] at e
      exact ih j n l e a ha
/-- Numbers written one behind the other. -/
def wr (w : World) : List Addr → Int → World
  | [], _ => w
  | a :: r, k => wr (w.setCell a (.int .i64 k)) r (k + 1)
theorem wr_app : ∀ (A B : List Addr) (w : World) (k : Int), wr w (A ++ B) k = wr (wr w A k) B (k + (A.length : Nat))
  | [], B, w, k => by simp [wr]
  | a :: r, B, w, k => by
    rw [List.cons_append, wr, wr, wr_app r B]
    congr 1
    simp only [List.length_cons]; omega
theorem wr_snoc (A : List Addr) (a : Addr) (w : World) (k : Int) : wr w (A ++ [a]) k = (wr w A k).setCell a (.int .i64 (k + (A.length : Nat))) := wr_app A [a] w k
theorem SP.wr {w : World} : ∀ {A : List Addr} {w1 : World} (k : Int), SP w w1 → (∀ a ∈ A, IntAt w a) → SP w (wr w1 A k)
  | [], w1, k, h, _ => h
  | a :: r, w1, k, h, hA => SP.wr (k + 1) (h.set (hA a (by simp)) k) fun b hb => hA b (by simp [hb])
theorem wr_other : ∀ (A : List Addr) (w : World) (k : Int) (b : Nat), (∀ a ∈ A, a.block ≠ b) → (wr w A k).heap[b]? = w.heap[b]?
  | [], w, k, b, _ => rfl
  | a :: r, w, k, b, h => by
    rw [wr, wr_other r _ _ b fun c hc => h c (by simp [hc])]
    exact set_other w a _ (Ne.symm (h a (by simp)))
theorem wr_size : ∀ (A : List Addr) (w : World) (k : Int), (wr w A k).heap.size = w.heap.size ∧ (wr w A k).os = w.os ∧ (wr w A k).tape = w.tape ∧ (wr w A k).output = w.output
  | [], w, k => ⟨rfl, rfl, rfl, rfl⟩
  | a :: r, w, k => by
    obtain ⟨h1, h2, h3, h4⟩ := wr_size r (w.setCell a (.int .i64 k)) (k + 1)
    exact ⟨h1.trans (by simp [World.setCell]), h2, h3, h4⟩
theorem wr_keep {w : World} : ∀ {A : List Addr} {w1 : World} {k : Int} {c : Addr} {v : Value}, c.spot = none → c ∉ A → (∀ a ∈ A, a.spot = none) → w1.cell? c = some v → (wr w1 A k).cell? c = some v
  | [], w1, k, c, v, _, _, _, h => h
  | a :: r, w1, k, c, v, hs, hn, hA, h => by
    rw [CtT.wr]
    refine wr_keep (w := w) hs (fun q => hn (by simp [q])) (fun b hb => hA b (by simp [hb])) ?_
    rw [World.cell?_setCell_other _ _ _ _ (fun e => hn (by simp [e]))]
    exact h
theorem wr_cell {w : World} : ∀ {A : List Addr} {w1 : World} {k : Int}, A.Nodup → SP w w1 → (∀ a ∈ A, IntAt w a) → ∀ (j : Nat) (a : Addr), A[j]? = some a → (CtT.wr w1 A k).cell? a = some (.int .i64 (k + (j : Nat)))
  | [], _, _, _, _, _, j, a, h => by simp at h
  | c :: r, w1, k, hn, h, hA, j, a, hj => by
    rw [List.nodup_cons] at hn
    have hc := hA c (by simp)
    rw [CtT.wr]
    cases j with
    | zero =>
      simp only [List.getElem?_cons_zero, Option.some.injEq] at hj
      subst hj
      obtain ⟨⟨z, hz⟩, _⟩ := h.at hc
      refine wr_keep (w := w) hc.1 hn.1 (fun b hb => (hA b (by simp [hb])).1) ?_
      rw [World.cell?_setCell_same _ _ _ hz]
      simp
    | succ j =>
      rw [wr_cell hn.2 (h.set hc k) (fun b hb => hA b (by simp [hb])) j a (by simpa using hj)]
      congr 2
      simp only [Int.natCast_add]; omega
end Go.Proofs.Ytlapccpnilomfaa.CtT

namespace Go.Proofs.Ytlapccpnilomfaa.CtT
open Go Go.CT Go.RowKit

theorem pre_succ {α : Type} (As : Nat → List α) (i : Nat) : (List.range (i + 1)).flatMap As = (List.range i).flatMap As ++ As i := by
  rw [List.range_succ, List.flatMap_append]; simp
theorem pre_sub {α : Type} {As : Nat → List α} {i n : Nat} (h : i ≤ n) : ∀ a ∈ (List.range i).flatMap As, a ∈ (List.range n).flatMap As := fun a ha => by
  obtain ⟨j, hj, ha⟩ := List.mem_flatMap.1 ha
  exact List.mem_flatMap.2 ⟨j, List.mem_range.2 (by have := List.mem_range.1 hj; omega), ha⟩
theorem flat_one : ∀ l : List Int, (l.map fun n => [I64 n]).flatten = l.map I64
  | [] => rfl
  | a :: r => by rw [List.map_cons, List.flatten_cons, flat_one r]; rfl
theorem markIr {w : World} {v : Value} {l : List Int} {B : List Nat} {A : List Addr} (h : TR w v 1 (l.map fun n => [I64 n]) B A) (w1 : World) (k : Int) (hs : SP w w1) (hk : 0 ≤ k) (hb : k + (A.length : Nat) ≤ 1099511627776) :
    Calls Try.prog 31 #[v, .int .i64 k] w1 fun e w' => e = .returned (.int .i64 (k + (A.length : Nat))) ∧ w' = wr w1 A k := by
  generalize hxs : l.map (fun n => [I64 n]) = xs at h
  have hints := h.ints
  cases h with
  | nil a cap sz =>
    go_enter Try.func31, Try.ntmps31
    go_wp2
    refine wp_loop_rounds 1 ?_
    rw [rounds_succ]
    go_wp2
    go_ret
    exact ⟨by simp, rfl⟩
  | row b cap sz xs y Bs As arr ty hbk hsz hy hc hi hr hl hcap =>
    subst hxs
    have hlen : (l.map fun n => [I64 n]).length = l.length := by simp
    have hf := flat_one l
    simp only [hlen, Nat.mul_one] at hy hl hcap hints hb ⊢
    have hAs : ∀ j, j < l.length → As j = [⟨b, j, none⟩] := fun j hj => (hi j l[j] (by rw [hf]; simp [hj])).2.1
    have hpl : ∀ i, i ≤ l.length → ((List.range i).flatMap As).length = i := fun i => by
      induction i with
      | zero => intro _; rfl
      | succ i ih => intro hi'; rw [pre_succ, List.length_append, ih (by omega), hAs i (by omega)]; rfl
    have hAl := hpl l.length (Nat.le_refl _)
    have hat : ∀ j, j < l.length → IntAt w ⟨b, j, none⟩ := fun j hj => hints _ (List.mem_flatMap.2 ⟨j, List.mem_range.2 hj, by rw [hAs j hj]; simp⟩)
    rw [hAl] at hb ⊢
    go_enter Try.func31, Try.ntmps31
    go_wp2
    go_loopw [1, 5] (fun kv iv wv => ∃ i : Nat, i ≤ l.length ∧ kv = .int .i64 (k + (i : Nat)) ∧ iv = .int .i64 i ∧ wv = wr w1 ((List.range i).flatMap As) k) (fun _ iv _ => l.length - (intOf iv).toNat)
    case atStart => exact ⟨0, Nat.zero_le _, by simp, rfl, rfl⟩
    case round =>
      obtain ⟨i, hi', rfl, rfl, rfl⟩ := hrel
      have hsp : SP w (wr w1 ((List.range i).flatMap As) k) := SP.wr k hs fun a ha => hints a (pre_sub hi' a ha)
      by_cases hlt : i < l.length
      · obtain ⟨⟨z, c0⟩, f0, _⟩ := hsp.at (hat i hlt)
        have hnx : wr w1 ((List.range (i + 1)).flatMap As) k = (wr w1 ((List.range i).flatMap As) k).setCell ⟨b, i, none⟩ (.int .i64 (k + (i : Nat))) := by
          rw [pre_succ, hAs i hlt, wr_snoc, hpl i hi']
        generalize wr w1 ((List.range i).flatMap As) k = wi at *
        go_wp2
        go_roundw
        case rel => exact ⟨i + 1, hlt, by congr 1; omega, by go_num, hnx.symm⟩
        case measure => simp [intOf]; omega
      · have : i = l.length := by omega
        subst this
        go_wp2
        go_ret
        exact ⟨rfl, rfl⟩
end Go.Proofs.Ytlapccpnilomfaa.CtT

namespace Go.Proofs.Ytlapccpnilomfaa.CtT
open Go Go.CT Go.RowKit

theorem pre_le {α : Type} {As : Nat → List α} {i n : Nat} (h : i ≤ n) : ((List.range i).flatMap As).length ≤ ((List.range n).flatMap As).length := by
  induction n with
  | zero => have : i = 0 := by omega
            subst this; exact Nat.le_refl _
  | succ n ih =>
    rcases Nat.lt_or_ge i (n + 1) with hlt | hge
    · have := ih (by omega)
      rw [pre_succ, List.length_append]; omega
    · have : i = n + 1 := by omega
      subst this; exact Nat.le_refl _
/-- A fact that no rewriting should use. -/
structure Kept (p : Prop) : Prop where
  h : p
theorem exL_len (es : List Ex) : (Ex.cellsL es).length = es.length := by letI : Yn := ⟨0, fun _ => none⟩; rw [Ex.cellsL_eq, List.length_map]
theorem exL_at {es : List Ex} {i : Nat} {e : Ex} (h : es[i]? = some e) : (Ex.cellsL es)[i]? = some e.cells := by letI : Yn := ⟨0, fun _ => none⟩; rw [Ex.cellsL_eq, List.getElem?_map, h]; rfl
theorem ex3 (e : Ex) : e.cells = [I64 e.kind, I64 e.value, .isl 3 (Ex.cellsL e.kids)] := by cases e; simp [Ex.cells, Ex.kind, Ex.value, Ex.kids]
theorem markEr {w : World} {v : Value} {es : List Ex} {B : List Nat} {A : List Addr} (h : TR w v 3 (Ex.cellsL es) B A) (w1 : World) (k : Int) (hs : SP w w1) (hk : 0 ≤ k) (hb : k + (A.length : Nat) ≤ 1099511627776) :
    Calls Try.prog 48 #[v, .int .i64 k] w1 fun e w' => e = .returned (.int .i64 (k + (A.length : Nat))) ∧ w' = wr w1 A k := by
  generalize hxs : Ex.cellsL es = xs at h
  generalize hsz3 : 3 = s3 at h
  induction h generalizing es w1 k with
  | nil a cap sz =>
    go_enter Try.func48, Try.ntmps48
    go_wp2
    refine wp_loop_rounds 1 ?_
    rw [rounds_succ]
    go_wp2
    go_ret
    exact ⟨by simp, rfl⟩
  | row b cap sz xs y Bs As arr ty hbk hsz hy hc hi hr hl hcap ih =>
    subst hsz3
    have hints := (TR.row b cap 3 xs y Bs As arr ty hbk hsz hy hc hi hr hl hcap).ints
    have hlen : xs.length = es.length := by rw [← hxs, exL_len]
    have hel : ∀ i e, es[i]? = some e → xs.flatten[i * 3]? = some (I64 e.kind) ∧ xs.flatten[i * 3 + 1]? = some (I64 e.value) ∧ xs.flatten[i * 3 + 2]? = some (.isl 3 (Ex.cellsL e.kids)) := fun i e he => by
      have hx : xs[i]? = some e.cells := by rw [← hxs]; exact exL_at he
      have h0 := flat_at hsz i 0 _ hx (by omega)
      have h1 := flat_at hsz i 1 _ hx (by omega)
      have h2 := flat_at hsz i 2 _ hx (by omega)
      rw [ex3] at h0 h1 h2
      exact ⟨h0, h1, h2⟩
    clear hxs
    have hlm : es.length ≤ 281474976710656 := by rw [← hlen]; exact hl.2
    simp only [hlen] at hy hl hcap hints hb ⊢
    generalize hA : (List.range (es.length * 3)).flatMap As = A at *
    have hple : ∀ i, i ≤ es.length * 3 → ((List.range i).flatMap As).length ≤ A.length := fun i h => by rw [← hA]; exact pre_le h
    have hpin : ∀ i, i ≤ es.length * 3 → ∀ a ∈ (List.range i).flatMap As, IntAt w a := fun i h a ha => hints a (by rw [← hA]; exact pre_sub h a ha)
    go_enter Try.func48, Try.ntmps48
    go_wp2
    go_loopw [1, 5] (fun kv iv wv => ∃ i : Nat, i ≤ es.length ∧ kv = .int .i64 (k + (((List.range (i * 3)).flatMap As).length : Nat)) ∧ iv = .int .i64 i ∧ wv = wr w1 ((List.range (i * 3)).flatMap As) k) (fun _ iv _ => es.length - (intOf iv).toNat)
    case atStart => exact ⟨0, Nat.zero_le _, by simp, rfl, rfl⟩
    case round =>
      obtain ⟨i, hi', rfl, rfl, rfl⟩ := hrel
      have hsp : SP w (wr w1 ((List.range (i * 3)).flatMap As) k) := SP.wr k hs (hpin _ (by omega))
      by_cases hlt : i < es.length
      · obtain ⟨e, he⟩ : ∃ e, es[i]? = some e := ⟨es[i], by simp [hlt]⟩
        obtain ⟨e0, e1, e2⟩ := hel i e he
        obtain ⟨y0, a0, _⟩ := hi _ _ e0
        obtain ⟨y1, a1, _⟩ := hi _ _ e1
        have hkid := fun w1 k a b c => ih _ _ _ e2 (es := e.kids) w1 k a b c rfl rfl
        have hin : ∀ j, j < es.length * 3 → ∀ a ∈ As j, IntAt w a := fun j hj a ha => hpin (j + 1) (by omega) a (by rw [pre_succ]; exact List.mem_append_right _ ha)
        have i0 : IntAt w ⟨b, i * 3, none⟩ := hin (i * 3) (by omega) _ (by rw [a0]; simp)
        have i1 : IntAt w ⟨b, i * 3 + 1, none⟩ := hin (i * 3 + 1) (by omega) _ (by rw [a1]; simp)
        have hnx : wr w1 ((List.range ((i + 1) * 3)).flatMap As) k = wr (((wr w1 ((List.range (i * 3)).flatMap As) k).setCell ⟨b, i * 3, none⟩ (.int .i64 (k + (((List.range (i * 3)).flatMap As).length : Nat)))).setCell ⟨b, i * 3 + 1, none⟩ (.int .i64 (k + (((List.range (i * 3)).flatMap As).length : Nat) + 1))) (As (i * 3 + 2)) (k + (((List.range (i * 3)).flatMap As).length : Nat) + 1 + 1) := by
          rw [show (i + 1) * 3 = i * 3 + 1 + 1 + 1 by omega, pre_succ, pre_succ, pre_succ, a0, a1, wr_app, wr_snoc, wr_snoc]
          congr 1
          · congr 2
            simp only [List.length_append, List.length_cons, List.length_nil]; omega
          · simp only [List.length_append, List.length_cons, List.length_nil]; omega
        have hnl : ((List.range ((i + 1) * 3)).flatMap As).length = ((List.range (i * 3)).flatMap As).length + 2 + (As (i * 3 + 2)).length := by
          rw [show (i + 1) * 3 = i * 3 + 1 + 1 + 1 by omega, pre_succ, pre_succ, pre_succ, a0, a1]
          simp only [List.length_append, List.length_cons, List.length_nil]
        have hlb := hple ((i + 1) * 3) (by omega)
        rw [hnl] at hlb
        generalize hK : k + (((List.range (i * 3)).flatMap As).length : Nat) = K at *
        have hK0 : 0 ≤ K := by omega
        generalize hW : wr w1 ((List.range (i * 3)).flatMap As) k = wi at *
        obtain ⟨⟨z0, c0⟩, f0, _⟩ := hsp.at i0
        have hsp1 := hsp.set i0 K
        obtain ⟨⟨z1, c1⟩, f1, _⟩ := hsp1.at i1
        have hsp2 := hsp1.set i1 (K + 1)
        have c2 := hsp2.cell hbk (hy (i * 3 + 2) (by omega)) (fun z hz => by
          have := hr _ _ _ e2
          rw [hz] at this
          cases this)
        have hcall := hkid _ (K + 1 + 1) hsp2 (by omega) (by omega)
        obtain ⟨⟨z1', c1'⟩, f1', _⟩ := hsp.at i1
        have c2' := hsp.cell hbk (hy (i * 3 + 2) (by omega)) (fun z hz => by
          have := hr _ _ _ e2
          rw [hz] at this
          cases this)
        clear c1 c2 f1
        have hKb : K + 2 ≤ 1099511627776 := by omega
        generalize y (i * 3 + 2) = kv at *
        replace hnx := Kept.mk hnx
        replace hnl := Kept.mk hnl
        replace hK := Kept.mk hK
        clear hW hA hpin hple hints hi hr ih hel hy hc hkid hin hsp hsp1 hsp2 hlb hsz
        go_wp2_with (go_at_call 48; refine hcall.mono ?_)
        rintro ee w2 ⟨rfl, rfl⟩
        go_wp2
        go_roundw
        case rel =>
          have hnl := hnl.h
          have hK := hK.h
          exact ⟨i + 1, hlt, by rw [hnl]; congr 1; omega, by go_num, hnx.h.symm⟩
        case measure => simp [intOf]; omega
      · have : i = es.length := by omega
        subst this
        go_wp2
        go_ret
        rw [hA]
        exact ⟨rfl, rfl⟩
end Go.Proofs.Ytlapccpnilomfaa.CtT

namespace Go.Proofs.Ytlapccpnilomfaa.CtT
open Go Go.CT Go.RowKit

theorem stL_len (l : List St1) : (St1.cellsL l).length = l.length := by letI : Yn := ⟨0, fun _ => none⟩; rw [St1.cellsL_eq, List.length_map]
theorem stL_at {l : List St1} {i : Nat} {e : St1} (h : l[i]? = some e) : (St1.cellsL l)[i]? = some e.cells := by letI : Yn := ⟨0, fun _ => none⟩; rw [St1.cellsL_eq, List.getElem?_map, h]; rfl
theorem st11 (e : St1) : e.cells = [I64 e.kind, I64 e.target, I64 e.index.kind, I64 e.index.value, .isl 3 (Ex.cellsL e.index.kids), I64 e.value.kind, I64 e.value.value, .isl 3 (Ex.cellsL e.value.kids), I64 e.count, .isl 11 (St1.cellsL e.body), .isl 11 (St1.cellsL e.els)] := by
  cases e; simp [St1.cells, ex3, St1.kind, St1.target, St1.index, St1.value, St1.count, St1.body, St1.els]
theorem markSr {w : World} {v : Value} {es : List St1} {B : List Nat} {A : List Addr} (h : TR w v 11 (St1.cellsL es) B A) (w1 : World) (k : Int) (hs : SP w w1) (hk : 0 ≤ k) (hb : k + (A.length : Nat) ≤ 1099511627776) :
    Calls Try.prog 32 #[v, .int .i64 k] w1 fun e w' => e = .returned (.int .i64 (k + (A.length : Nat))) ∧ w' = wr w1 A k := by
  generalize hxs : St1.cellsL es = xs at h
  generalize hsz3 : 11 = s3 at h
  induction h generalizing es w1 k with
  | nil a cap sz =>
    go_enter Try.func32, Try.ntmps32
    go_wp2
    refine wp_loop_rounds 1 ?_
    rw [rounds_succ]
    go_wp2
    go_ret
    exact ⟨by simp, rfl⟩
  | row b cap sz xs y Bs As arr ty hbk hsz hy hc hi hr hl hcap ih =>
    subst hsz3
    have hints := (TR.row b cap 11 xs y Bs As arr ty hbk hsz hy hc hi hr hl hcap).ints
    have hlen : xs.length = es.length := by rw [← hxs, stL_len]
    have hel : ∀ i e, es[i]? = some e → ∀ j, j < 11 → xs.flatten[i * 11 + j]? = e.cells[j]? := fun i e he j hj => by
      have hx : xs[i]? = some e.cells := by rw [← hxs]; exact stL_at he
      exact flat_at hsz i j _ hx hj
    clear hxs
    have hlm : es.length ≤ 281474976710656 := by rw [← hlen]; exact hl.2
    simp only [hlen] at hy hl hcap hints hb ⊢
    generalize hA : (List.range (es.length * 11)).flatMap As = A at *
    have hple : ∀ i, i ≤ es.length * 11 → ((List.range i).flatMap As).length ≤ A.length := fun i h => by rw [← hA]; exact pre_le h
    have hpin : ∀ i, i ≤ es.length * 11 → ∀ a ∈ (List.range i).flatMap As, IntAt w a := fun i h a ha => hints a (by rw [← hA]; exact pre_sub h a ha)
    go_enter Try.func32, Try.ntmps32
    go_wp2
    go_loopw [1, 5] (fun kv iv wv => ∃ i : Nat, i ≤ es.length ∧ kv = .int .i64 (k + (((List.range (i * 11)).flatMap As).length : Nat)) ∧ iv = .int .i64 i ∧ wv = wr w1 ((List.range (i * 11)).flatMap As) k) (fun _ iv _ => es.length - (intOf iv).toNat)
    case atStart => exact ⟨0, Nat.zero_le _, by simp, rfl, rfl⟩
    case round =>
      obtain ⟨i, hi', rfl, rfl, rfl⟩ := hrel
      have hsp : SP w (wr w1 ((List.range (i * 11)).flatMap As) k) := SP.wr k hs (hpin _ (by omega))
      by_cases hlt : i < es.length
      · obtain ⟨e, he⟩ : ∃ e, es[i]? = some e := ⟨es[i], by simp [hlt]⟩
        have hE := hel i e he
        rw [st11] at hE
        have e0 := hE 0 (by omega)
        have e1 := hE 1 (by omega)
        have e2 := hE 2 (by omega)
        have e3 := hE 3 (by omega)
        have e4 := hE 4 (by omega)
        have e5 := hE 5 (by omega)
        have e6 := hE 6 (by omega)
        have e7 := hE 7 (by omega)
        have e8 := hE 8 (by omega)
        have e9 := hE 9 (by omega)
        have e10 := hE 10 (by omega)
        simp only [List.getElem?_cons_zero, List.getElem?_cons_succ, Nat.add_zero] at e0 e1 e2 e3 e4 e5 e6 e7 e8 e9 e10
        obtain ⟨_, a0, _⟩ := hi _ _ e0
        obtain ⟨_, a1, _⟩ := hi _ _ e1
        obtain ⟨_, a2, _⟩ := hi _ _ e2
        obtain ⟨_, a3, _⟩ := hi _ _ e3
        obtain ⟨_, a5, _⟩ := hi _ _ e5
        obtain ⟨_, a6, _⟩ := hi _ _ e6
        obtain ⟨_, a8, _⟩ := hi _ _ e8
        have hin : ∀ j, j < es.length * 11 → ∀ a ∈ As j, IntAt w a := fun j hj a ha => hpin (j + 1) (by omega) a (by rw [pre_succ]; exact List.mem_append_right _ ha)
        have i0 : IntAt w ⟨b, i * 11, none⟩ := hin (i * 11) (by omega) _ (by rw [a0]; simp)
        have i1 : IntAt w ⟨b, i * 11 + 1, none⟩ := hin (i * 11 + 1) (by omega) _ (by rw [a1]; simp)
        have i2 : IntAt w ⟨b, i * 11 + 2, none⟩ := hin (i * 11 + 2) (by omega) _ (by rw [a2]; simp)
        have i3 : IntAt w ⟨b, i * 11 + 3, none⟩ := hin (i * 11 + 3) (by omega) _ (by rw [a3]; simp)
        have i5 : IntAt w ⟨b, i * 11 + 5, none⟩ := hin (i * 11 + 5) (by omega) _ (by rw [a5]; simp)
        have i6 : IntAt w ⟨b, i * 11 + 6, none⟩ := hin (i * 11 + 6) (by omega) _ (by rw [a6]; simp)
        have i8 : IntAt w ⟨b, i * 11 + 8, none⟩ := hin (i * 11 + 8) (by omega) _ (by rw [a8]; simp)
        have n4 := hin (i * 11 + 4) (by omega)
        have v4 : ∀ z, y (i * 11 + 4) ≠ .int .i64 z := fun z hz => by have := hr _ _ _ e4; rw [hz] at this; cases this
        have g4 : ∀ w2, SP w w2 → w2.cell? ⟨b, i * 11 + 4, none⟩ = some (y (i * 11 + 4)) := fun w2 h2 => h2.cell hbk (hy (i * 11 + 4) (by omega)) v4
        have n7 := hin (i * 11 + 7) (by omega)
        have v7 : ∀ z, y (i * 11 + 7) ≠ .int .i64 z := fun z hz => by have := hr _ _ _ e7; rw [hz] at this; cases this
        have g7 : ∀ w2, SP w w2 → w2.cell? ⟨b, i * 11 + 7, none⟩ = some (y (i * 11 + 7)) := fun w2 h2 => h2.cell hbk (hy (i * 11 + 7) (by omega)) v7
        have n9 := hin (i * 11 + 9) (by omega)
        have v9 : ∀ z, y (i * 11 + 9) ≠ .int .i64 z := fun z hz => by have := hr _ _ _ e9; rw [hz] at this; cases this
        have g9 : ∀ w2, SP w w2 → w2.cell? ⟨b, i * 11 + 9, none⟩ = some (y (i * 11 + 9)) := fun w2 h2 => h2.cell hbk (hy (i * 11 + 9) (by omega)) v9
        have n10 := hin (i * 11 + 10) (by omega)
        have v10 : ∀ z, y (i * 11 + 10) ≠ .int .i64 z := fun z hz => by have := hr _ _ _ e10; rw [hz] at this; cases this
        have g10 : ∀ w2, SP w w2 → w2.cell? ⟨b, i * 11 + 10, none⟩ = some (y (i * 11 + 10)) := fun w2 h2 => h2.cell hbk (hy (i * 11 + 10) (by omega)) v10
        have hnl : ((List.range ((i + 1) * 11)).flatMap As).length = ((List.range (i * 11)).flatMap As).length + 7 + (As (i * 11 + 4)).length + (As (i * 11 + 7)).length + (As (i * 11 + 9)).length + (As (i * 11 + 10)).length := by
          rw [show (i + 1) * 11 = i * 11 + 1 + 1 + 1 + 1 + 1 + 1 + 1 + 1 + 1 + 1 + 1 by omega]
          simp only [pre_succ, Nat.add_assoc, Nat.reduceAdd, Nat.add_zero, a0, a1, a2, a3, a5, a6, a8, List.length_append, List.length_cons, List.length_nil]
          omega
        have hnx : wr w1 ((List.range ((i + 1) * 11)).flatMap As) k = wr (wr (wr (wr (wr (wr (wr w1 ((List.range (i * 11)).flatMap As) k) [⟨b, i * 11, none⟩, ⟨b, i * 11 + 1, none⟩, ⟨b, i * 11 + 2, none⟩, ⟨b, i * 11 + 3, none⟩] (k + (((List.range (i * 11)).flatMap As).length : Nat))) (As (i * 11 + 4)) (k + (((List.range (i * 11)).flatMap As).length : Nat) + 1 + 1 + 1 + 1)) ([⟨b, i * 11 + 5, none⟩, ⟨b, i * 11 + 6, none⟩] ++ As (i * 11 + 7)) (k + (((List.range (i * 11)).flatMap As).length : Nat) + 1 + 1 + 1 + 1 + ((As (i * 11 + 4)).length : Nat))) [⟨b, i * 11 + 8, none⟩] (k + (((List.range (i * 11)).flatMap As).length : Nat) + 1 + 1 + 1 + 1 + ((As (i * 11 + 4)).length : Nat) + 1 + 1 + ((As (i * 11 + 7)).length : Nat))) (As (i * 11 + 9)) (k + (((List.range (i * 11)).flatMap As).length : Nat) + 1 + 1 + 1 + 1 + ((As (i * 11 + 4)).length : Nat) + 1 + 1 + ((As (i * 11 + 7)).length : Nat) + 1)) (As (i * 11 + 10)) (k + (((List.range (i * 11)).flatMap As).length : Nat) + 1 + 1 + 1 + 1 + ((As (i * 11 + 4)).length : Nat) + 1 + 1 + ((As (i * 11 + 7)).length : Nat) + 1 + ((As (i * 11 + 9)).length : Nat)) := by
          have hp : (List.range ((i + 1) * 11)).flatMap As = (List.range (i * 11)).flatMap As ++ ([⟨b, i * 11, none⟩, ⟨b, i * 11 + 1, none⟩, ⟨b, i * 11 + 2, none⟩, ⟨b, i * 11 + 3, none⟩] ++ (As (i * 11 + 4) ++ (([⟨b, i * 11 + 5, none⟩, ⟨b, i * 11 + 6, none⟩] ++ As (i * 11 + 7)) ++ ([⟨b, i * 11 + 8, none⟩] ++ (As (i * 11 + 9) ++ As (i * 11 + 10)))))) := by
            rw [show (i + 1) * 11 = i * 11 + 1 + 1 + 1 + 1 + 1 + 1 + 1 + 1 + 1 + 1 + 1 by omega]
            simp only [pre_succ, Nat.add_assoc, Nat.reduceAdd, Nat.add_zero, a0, a1, a2, a3, a5, a6, a8, List.append_assoc, List.cons_append, List.nil_append]
          rw [hp]
          simp only [wr_app, List.length_append, List.length_cons, List.length_nil]
          repeat' first | rfl | omega | congr 1
        have hlb := hple ((i + 1) * 11) (by omega)
        rw [hnl] at hlb
        generalize hK : k + (((List.range (i * 11)).flatMap As).length : Nat) = K at *
        have hK0 : 0 ≤ K := by omega
        have hKb : K + 7 + ((As (i * 11 + 4)).length : Nat) + ((As (i * 11 + 7)).length : Nat) + ((As (i * 11 + 9)).length : Nat) + ((As (i * 11 + 10)).length : Nat) ≤ 1099511627776 := by omega
        generalize hW : wr w1 ((List.range (i * 11)).flatMap As) k = wi at *
        have sp1 := ((((hsp.set i0 K).set i1 (K + 1)).set i2 (K + 1 + 1)).set i3 (K + 1 + 1 + 1))
        obtain ⟨w5, hw5⟩ : ∃ x, x = wr ((((wi.setCell ⟨b, i * 11, none⟩ (.int .i64 K)).setCell ⟨b, i * 11 + 1, none⟩ (.int .i64 (K + 1))).setCell ⟨b, i * 11 + 2, none⟩ (.int .i64 (K + 1 + 1))).setCell ⟨b, i * 11 + 3, none⟩ (.int .i64 (K + 1 + 1 + 1))) (As (i * 11 + 4)) (K + 1 + 1 + 1 + 1) := ⟨_, rfl⟩
        have sp5 : SP w w5 := by rw [hw5]; exact SP.wr _ sp1 n4
        have q4 := markEr (hr _ _ _ e4) _ (K + 1 + 1 + 1 + 1) sp1 (by omega) (by omega)
        rw [← hw5] at q4
        obtain ⟨K5, hK5⟩ : ∃ x, x = K + 1 + 1 + 1 + 1 + ((As (i * 11 + 4)).length : Nat) := ⟨_, rfl⟩
        rw [← hK5] at q4 hnx
        have sp6 := ((sp5.set i5 K5).set i6 (K5 + 1))
        obtain ⟨w8, hw8⟩ : ∃ x, x = wr ((w5.setCell ⟨b, i * 11 + 5, none⟩ (.int .i64 K5)).setCell ⟨b, i * 11 + 6, none⟩ (.int .i64 (K5 + 1))) (As (i * 11 + 7)) (K5 + 1 + 1) := ⟨_, rfl⟩
        have sp8 : SP w w8 := by rw [hw8]; exact SP.wr _ sp6 n7
        have q7 := markEr (hr _ _ _ e7) _ (K5 + 1 + 1) sp6 (by omega) (by omega)
        rw [← hw8] at q7
        obtain ⟨K8, hK8⟩ : ∃ x, x = K5 + 1 + 1 + ((As (i * 11 + 7)).length : Nat) := ⟨_, rfl⟩
        rw [← hK8] at q7 hnx
        have sp9 := sp8.set i8 K8
        obtain ⟨w9, hw9⟩ : ∃ x, x = wr (w8.setCell ⟨b, i * 11 + 8, none⟩ (.int .i64 K8)) (As (i * 11 + 9)) (K8 + 1) := ⟨_, rfl⟩
        have sp10 : SP w w9 := by rw [hw9]; exact SP.wr _ sp9 n9
        have q9 := ih _ _ _ e9 (es := e.body) _ (K8 + 1) sp9 (by omega) (by omega) rfl rfl
        rw [← hw9] at q9
        obtain ⟨K9, hK9⟩ : ∃ x, x = K8 + 1 + ((As (i * 11 + 9)).length : Nat) := ⟨_, rfl⟩
        rw [← hK9] at q9 hnx
        have q10 := ih _ _ _ e10 (es := e.els) _ K9 sp10 (by omega) (by omega) rfl rfl
        obtain ⟨⟨z0, c0⟩, f0, _⟩ := hsp.at i0
        obtain ⟨⟨z1, c1⟩, f1, _⟩ := hsp.at i1
        obtain ⟨⟨z2, c2⟩, f2, _⟩ := hsp.at i2
        obtain ⟨⟨z3, c3⟩, f3, _⟩ := hsp.at i3
        have c4 := g4 _ hsp
        obtain ⟨⟨z5, c5⟩, f5, _⟩ := sp5.at i5
        obtain ⟨⟨z6, c6⟩, f6, _⟩ := sp5.at i6
        have c7 := g7 _ sp5
        obtain ⟨⟨z8, c8⟩, f8, _⟩ := sp8.at i8
        have c9 := g9 _ sp8
        have c10 := g10 _ sp10
        have b5 : 0 ≤ K5 ∧ K5 + 3 ≤ 1099511627776 := by omega
        have b8 : 0 ≤ K8 ∧ K8 + 1 ≤ 1099511627776 := by omega
        have b9 : 0 ≤ K9 ∧ K9 + ((As (i * 11 + 10)).length : Nat) ≤ 1099511627776 := by omega
        have hKc : K + 7 ≤ 1099511627776 := by omega
        have hfin : wr w1 ((List.range ((i + 1) * 11)).flatMap As) k = wr w9 (As (i * 11 + 10)) K9 := by
          rw [hnx, hw9, hw8, hw5]; rfl
        have hkf : k + (((List.range ((i + 1) * 11)).flatMap As).length : Nat) = K9 + ((As (i * 11 + 10)).length : Nat) := by rw [hnl]; omega
        replace hfin := Kept.mk hfin
        replace hkf := Kept.mk hkf
        generalize y (i * 11 + 4) = y4 at *
        generalize y (i * 11 + 7) = y7 at *
        generalize y (i * 11 + 9) = y9 at *
        generalize y (i * 11 + 10) = y10 at *
        clear hnx hnl hw5 hw8 hw9 hK hK5 hK8 hK9 hW hA hpin hple hints hi hr ih hel hE hy hc hin hsp sp1 sp5 sp6 sp8 sp9 sp10 hlb hsz g4 g7 g9 g10 v4 v7 v9 v10 n4 n7 n9 n10 hKb e0 e1 e2 e3 e4 e5 e6 e7 e8 e9 e10 a0 a1 a2 a3 a5 a6 a8
        go_wp2_with (go_at_call 48; refine q4.mono ?_)
        rintro ee w2 ⟨rfl, rfl⟩
        go_wp2_with (go_at_call 48; refine q7.mono ?_)
        rintro ee w2 ⟨rfl, rfl⟩
        go_wp2_with (go_at_call 32; refine q9.mono ?_)
        rintro ee w2 ⟨rfl, rfl⟩
        go_wp2_with (go_at_call 32; refine q10.mono ?_)
        rintro ee w2 ⟨rfl, rfl⟩
        go_wp2
        go_roundw
        case rel => exact ⟨i + 1, hlt, by rw [hkf.h], by go_num, hfin.h.symm⟩
        case measure => simp [intOf]; omega
      · have : i = es.length := by omega
        subst this
        go_wp2
        go_ret
        rw [hA]
        exact ⟨rfl, rfl⟩
end Go.Proofs.Ytlapccpnilomfaa.CtT

namespace Go.Proofs.Ytlapccpnilomfaa.CtT
open Go Go.CT Go.RowKit

/-- The numbers from k on lie at A. -/
def VA (w : World) (A : List Addr) (k : Int) : Prop := ∀ (j : Nat) (a : Addr), A[j]? = some a → w.cell? a = some (.int .i64 (k + (j : Nat)))
theorem pre_at {α : Type} (As : Nat → List α) {j n : Nat} (h : j < n) (t : Nat) (a : α) (ha : (As j)[t]? = some a) : ((List.range n).flatMap As)[((List.range j).flatMap As).length + t]? = some a := by
  induction n with
  | zero => omega
  | succ n ih =>
    rw [pre_succ]
    rcases Nat.lt_or_ge j n with hlt | hge
    · have := ih hlt
      rw [List.getElem?_append_left (List.getElem?_eq_some_iff.1 this).1]
      exact this
    · have : j = n := by omega
      subst this
      rw [List.getElem?_append_right (by omega), Nat.add_sub_cancel_left]
      exact ha
theorem VA.sub {w : World} {As : Nat → List Addr} {n : Nat} {k : Int} (h : VA w ((List.range n).flatMap As) k) {j : Nat} (hj : j < n) : VA w (As j) (k + (((List.range j).flatMap As).length : Nat)) := fun t a ha => by
  rw [h _ a (pre_at As hj t a ha)]
  congr 2
  simp only [Int.natCast_add]; omega
theorem VA.one {w : World} {a : Addr} {k : Int} (h : VA w [a] k) : w.cell? a = some (.int .i64 k) := by
  rw [h 0 a rfl]; simp
theorem heldIr {w : World} {v : Value} {l : List Int} {B : List Nat} {A : List Addr} (h : TR w v 1 (l.map fun n => [I64 n]) B A) (w1 : World) (k : Int) (hs : SP w w1) (hk : 0 ≤ k) (hb : k + (A.length : Nat) ≤ 1099511627776) (hv : VA w1 A k) :
    Calls Try.prog 33 #[v, .int .i64 k] w1 fun e w' => e = .returned (.int .i64 (k + (A.length : Nat))) ∧ w' = w1 := by
  generalize hxs : l.map (fun n => [I64 n]) = xs at h
  cases h with
  | nil a cap sz =>
    go_enter Try.func33, Try.ntmps33
    go_wp2
    refine wp_loop_rounds 1 ?_
    rw [rounds_succ]
    go_wp2
    go_ret
    exact ⟨by simp, rfl⟩
  | row b cap sz xs y Bs As arr ty hbk hsz hy hc hi hr hl hcap =>
    subst hxs
    have hlen : (l.map fun n => [I64 n]).length = l.length := by simp
    have hf := flat_one l
    have hlm : l.length ≤ 281474976710656 := by rw [← hlen]; exact hl.2
    simp only [hlen, Nat.mul_one] at hy hl hcap hb hv ⊢
    have hAs : ∀ j, j < l.length → As j = [⟨b, j, none⟩] := fun j hj => (hi j l[j] (by rw [hf]; simp [hj])).2.1
    have hpl : ∀ i, i ≤ l.length → ((List.range i).flatMap As).length = i := fun i => by
      induction i with
      | zero => intro _; rfl
      | succ i ih => intro hi'; rw [pre_succ, List.length_append, ih (by omega), hAs i (by omega)]; rfl
    have hAl := hpl l.length (Nat.le_refl _)
    have hcell : ∀ j, j < l.length → w1.cell? ⟨b, j, none⟩ = some (.int .i64 (k + (j : Nat))) := fun j hj => by
      have := hv.sub hj
      rw [hAs j hj, hpl j (by omega)] at this
      exact this.one
    rw [hAl] at hb ⊢
    clear hv hi hr hy hc hsz hcap hl hs hpl hAs hAl hbk hf hlen
    go_enter Try.func33, Try.ntmps33
    go_wp2
    go_loopw [1, 5] (fun kv iv wv => ∃ i : Nat, i ≤ l.length ∧ kv = .int .i64 (k + (i : Nat)) ∧ iv = .int .i64 i ∧ wv = w1) (fun _ iv _ => l.length - (intOf iv).toNat)
    case atStart => exact ⟨0, Nat.zero_le _, by simp, rfl, rfl⟩
    case round =>
      obtain ⟨i, hi', rfl, rfl, rfl⟩ := hrel
      by_cases hlt : i < l.length
      · have c0 := hcell i hlt
        clear hcell
        go_wp2
        go_roundw
        case rel => exact ⟨i + 1, hlt, by congr 1; omega, by go_num, trivial⟩
        case measure => simp [intOf]; omega
      · have : i = l.length := by omega
        subst this
        clear hcell
        go_wp2
        go_ret
        exact ⟨rfl, rfl⟩
theorem heldEr {w : World} {v : Value} {es : List Ex} {B : List Nat} {A : List Addr} (h : TR w v 3 (Ex.cellsL es) B A) (w1 : World) (k : Int) (hs : SP w w1) (hk : 0 ≤ k) (hb : k + (A.length : Nat) ≤ 1099511627776) (hv : VA w1 A k) :
    Calls Try.prog 49 #[v, .int .i64 k] w1 fun e w' => e = .returned (.int .i64 (k + (A.length : Nat))) ∧ w' = w1 := by
  generalize hxs : Ex.cellsL es = xs at h
  generalize hsz3 : 3 = s3 at h
  induction h generalizing es k with
  | nil a cap sz =>
    go_enter Try.func49, Try.ntmps49
    go_wp2
    refine wp_loop_rounds 1 ?_
    rw [rounds_succ]
    go_wp2
    go_ret
    exact ⟨by simp, rfl⟩
  | row b cap sz xs y Bs As arr ty hbk hsz hy hc hi hr hl hcap ih =>
    subst hsz3
    have hlen : xs.length = es.length := by rw [← hxs, exL_len]
    have hel : ∀ i e, es[i]? = some e → ∀ j, j < 3 → xs.flatten[i * 3 + j]? = e.cells[j]? := fun i e he j hj => by
      have hx : xs[i]? = some e.cells := by rw [← hxs]; exact exL_at he
      exact flat_at hsz i j _ hx hj
    clear hxs
    have hlm : es.length ≤ 281474976710656 := by rw [← hlen]; exact hl.2
    simp only [hlen] at hy hl hcap hb hv ⊢
    have hple : ∀ i, i ≤ es.length * 3 → ((List.range i).flatMap As).length ≤ ((List.range (es.length * 3)).flatMap As).length := fun i h => pre_le h
    have hsub : ∀ j, j < es.length * 3 → VA w1 (As j) (k + (((List.range j).flatMap As).length : Nat)) := fun j hj => hv.sub hj
    go_enter Try.func49, Try.ntmps49
    go_wp2
    go_loopw [1, 5] (fun kv iv wv => ∃ i : Nat, i ≤ es.length ∧ kv = .int .i64 (k + (((List.range (i * 3)).flatMap As).length : Nat)) ∧ iv = .int .i64 i ∧ wv = w1) (fun _ iv _ => es.length - (intOf iv).toNat)
    case atStart => exact ⟨0, Nat.zero_le _, by simp, rfl, rfl⟩
    case round =>
      obtain ⟨i, hi', rfl, rfl, rfl⟩ := hrel
      by_cases hlt : i < es.length
      · obtain ⟨e, he⟩ : ∃ e, es[i]? = some e := ⟨es[i], by simp [hlt]⟩
        have hE := hel i e he
        rw [ex3] at hE
        have e0 := hE 0 (by omega)
        have e1 := hE 1 (by omega)
        have e2 := hE 2 (by omega)
        simp only [List.getElem?_cons_zero, List.getElem?_cons_succ, Nat.add_zero] at e0 e1 e2
        obtain ⟨_, a0, _⟩ := hi _ _ e0
        obtain ⟨_, a1, _⟩ := hi _ _ e1
        have s0 := hsub (i * 3) (by omega)
        have s1 := hsub (i * 3 + 1) (by omega)
        have s2 := hsub (i * 3 + 2) (by omega)
        have p1 : ((List.range (i * 3 + 1)).flatMap As).length = ((List.range (i * 3)).flatMap As).length + 1 := by rw [pre_succ, a0]; simp
        have p2 : ((List.range (i * 3 + 2)).flatMap As).length = ((List.range (i * 3)).flatMap As).length + 2 := by rw [show i * 3 + 2 = i * 3 + 1 + 1 by omega, pre_succ, List.length_append, p1, a1]; rfl
        have p3 : ((List.range ((i + 1) * 3)).flatMap As).length = ((List.range (i * 3)).flatMap As).length + 2 + (As (i * 3 + 2)).length := by rw [show (i + 1) * 3 = i * 3 + 2 + 1 by omega, pre_succ, List.length_append, p2]
        have hlb := hple ((i + 1) * 3) (by omega)
        rw [p3] at hlb
        rw [a0] at s0
        rw [a1, p1] at s1
        rw [p2] at s2
        have c0 := s0.one
        have c1 := s1.one
        have c2 := hs.cell hbk (hy (i * 3 + 2) (by omega)) (fun z hz => by
          have := hr _ _ _ e2
          rw [hz] at this
          cases this)
        generalize hK : k + (((List.range (i * 3)).flatMap As).length : Nat) = K at *
        rw [show k + ((((List.range (i * 3)).flatMap As).length + 1 : Nat) : Int) = K + 1 by omega] at c1
        rw [show k + ((((List.range (i * 3)).flatMap As).length + 2 : Nat) : Int) = K + 1 + 1 by omega] at s2
        have q2 := ih _ _ _ e2 (es := e.kids) (K + 1 + 1) (by omega) (by omega) s2 rfl rfl
        have hK0 : 0 ≤ K := by omega
        have hKb : K + 2 + ((As (i * 3 + 2)).length : Nat) ≤ 1099511627776 := by omega
        have hkf : k + (((List.range ((i + 1) * 3)).flatMap As).length : Nat) = K + 1 + 1 + ((As (i * 3 + 2)).length : Nat) := by rw [p3]; omega
        have hg : ¬ (K + 1 + 1 + ((As (i * 3 + 2)).length : Nat) < 0) := by omega
        replace hkf := Kept.mk hkf
        generalize y (i * 3 + 2) = kv at *
        clear hK p1 p2 p3 s0 s1 s2 a0 a1 e0 e1 e2 hE hel hlb hple hsub hi hr ih hy hc hsz hv hb hcap hl hbk hs he
        go_wp2_with (go_at_call 49; refine q2.mono ?_)
        exact ⟨⟨i + 1, hlt, by rw [hkf.h], by go_num, trivial⟩, by simp [intOf]; omega⟩
      · have : i = es.length := by omega
        subst this
        go_wp2
        go_ret
        exact ⟨rfl, rfl⟩
end Go.Proofs.Ytlapccpnilomfaa.CtT

namespace Go.Proofs.Ytlapccpnilomfaa.CtT
open Go Go.CT Go.RowKit

theorem heldSr {w : World} {v : Value} {es : List St1} {B : List Nat} {A : List Addr} (h : TR w v 11 (St1.cellsL es) B A) (w1 : World) (k : Int) (hs : SP w w1) (hk : 0 ≤ k) (hb : k + (A.length : Nat) ≤ 1099511627776) (hv : VA w1 A k) :
    Calls Try.prog 34 #[v, .int .i64 k] w1 fun e w' => e = .returned (.int .i64 (k + (A.length : Nat))) ∧ w' = w1 := by
  generalize hxs : St1.cellsL es = xs at h
  generalize hsz3 : 11 = sz3 at h
  induction h generalizing es k with
  | nil a cap sz =>
    go_enter Try.func34, Try.ntmps34
    go_wp2
    refine wp_loop_rounds 1 ?_
    rw [rounds_succ]
    go_wp2
    go_ret
    exact ⟨by simp, rfl⟩
  | row b cap sz xs y Bs As arr ty hbk hsz hy hc hi hr hl hcap ih =>
    subst hsz3
    have hlen : xs.length = es.length := by rw [← hxs, stL_len]
    have hel : ∀ i e, es[i]? = some e → ∀ j, j < 11 → xs.flatten[i * 11 + j]? = e.cells[j]? := fun i e he j hj => by
      have hx : xs[i]? = some e.cells := by rw [← hxs]; exact stL_at he
      exact flat_at hsz i j _ hx hj
    clear hxs
    have hlm : es.length ≤ 281474976710656 := by rw [← hlen]; exact hl.2
    simp only [hlen] at hy hl hcap hb hv ⊢
    have hple : ∀ i, i ≤ es.length * 11 → ((List.range i).flatMap As).length ≤ ((List.range (es.length * 11)).flatMap As).length := fun i h => pre_le h
    have hsub : ∀ j, j < es.length * 11 → VA w1 (As j) (k + (((List.range j).flatMap As).length : Nat)) := fun j hj => hv.sub hj
    go_enter Try.func34, Try.ntmps34
    go_wp2
    go_loopw [1, 5] (fun kv iv wv => ∃ i : Nat, i ≤ es.length ∧ kv = .int .i64 (k + (((List.range (i * 11)).flatMap As).length : Nat)) ∧ iv = .int .i64 i ∧ wv = w1) (fun _ iv _ => es.length - (intOf iv).toNat)
    case atStart => exact ⟨0, Nat.zero_le _, by simp, rfl, rfl⟩
    case round =>
      obtain ⟨i, hi', rfl, rfl, rfl⟩ := hrel
      by_cases hlt : i < es.length
      · obtain ⟨e, he⟩ : ∃ e, es[i]? = some e := ⟨es[i], by simp [hlt]⟩
        have hE := hel i e he
        rw [st11] at hE
        have e0 := hE 0 (by omega)
        have e1 := hE 1 (by omega)
        have e2 := hE 2 (by omega)
        have e3 := hE 3 (by omega)
        have e4 := hE 4 (by omega)
        have e5 := hE 5 (by omega)
        have e6 := hE 6 (by omega)
        have e7 := hE 7 (by omega)
        have e8 := hE 8 (by omega)
        have e9 := hE 9 (by omega)
        have e10 := hE 10 (by omega)
        simp only [List.getElem?_cons_zero, List.getElem?_cons_succ, Nat.add_zero] at e0 e1 e2 e3 e4 e5 e6 e7 e8 e9 e10
        obtain ⟨_, a0, _⟩ := hi _ _ e0
        obtain ⟨_, a1, _⟩ := hi _ _ e1
        obtain ⟨_, a2, _⟩ := hi _ _ e2
        obtain ⟨_, a3, _⟩ := hi _ _ e3
        obtain ⟨_, a5, _⟩ := hi _ _ e5
        obtain ⟨_, a6, _⟩ := hi _ _ e6
        obtain ⟨_, a8, _⟩ := hi _ _ e8
        have s0 := hsub (i * 11) (by omega)
        have s1 := hsub (i * 11 + 1) (by omega)
        have s2 := hsub (i * 11 + 2) (by omega)
        have s3 := hsub (i * 11 + 3) (by omega)
        have s4 := hsub (i * 11 + 4) (by omega)
        have s5 := hsub (i * 11 + 5) (by omega)
        have s6 := hsub (i * 11 + 6) (by omega)
        have s7 := hsub (i * 11 + 7) (by omega)
        have s8 := hsub (i * 11 + 8) (by omega)
        have s9 := hsub (i * 11 + 9) (by omega)
        have s10 := hsub (i * 11 + 10) (by omega)
        generalize hP : ((List.range (i * 11)).flatMap As).length = P at *
        have p1 : ((List.range (i * 11 + 1)).flatMap As).length = P + (1) := by rw [show i * 11 + 1 = i * 11 + 1 by omega, pre_succ, List.length_append, hP, a0]; simp only [List.length_cons, List.length_nil] <;> omega
        have p2 : ((List.range (i * 11 + 2)).flatMap As).length = P + (2) := by rw [show i * 11 + 2 = i * 11 + 1 + 1 by omega, pre_succ, List.length_append, p1, a1]; simp only [List.length_cons, List.length_nil] <;> omega
        have p3 : ((List.range (i * 11 + 3)).flatMap As).length = P + (3) := by rw [show i * 11 + 3 = i * 11 + 2 + 1 by omega, pre_succ, List.length_append, p2, a2]; simp only [List.length_cons, List.length_nil] <;> omega
        have p4 : ((List.range (i * 11 + 4)).flatMap As).length = P + (4) := by rw [show i * 11 + 4 = i * 11 + 3 + 1 by omega, pre_succ, List.length_append, p3, a3]; simp only [List.length_cons, List.length_nil] <;> omega
        have p5 : ((List.range (i * 11 + 5)).flatMap As).length = P + (4 + (As (i * 11 + 4)).length) := by rw [show i * 11 + 5 = i * 11 + 4 + 1 by omega, pre_succ, List.length_append, p4]; omega
        have p6 : ((List.range (i * 11 + 6)).flatMap As).length = P + (5 + (As (i * 11 + 4)).length) := by rw [show i * 11 + 6 = i * 11 + 5 + 1 by omega, pre_succ, List.length_append, p5, a5]; simp only [List.length_cons, List.length_nil] <;> omega
        have p7 : ((List.range (i * 11 + 7)).flatMap As).length = P + (6 + (As (i * 11 + 4)).length) := by rw [show i * 11 + 7 = i * 11 + 6 + 1 by omega, pre_succ, List.length_append, p6, a6]; simp only [List.length_cons, List.length_nil] <;> omega
        have p8 : ((List.range (i * 11 + 8)).flatMap As).length = P + (6 + (As (i * 11 + 4)).length + (As (i * 11 + 7)).length) := by rw [show i * 11 + 8 = i * 11 + 7 + 1 by omega, pre_succ, List.length_append, p7]; omega
        have p9 : ((List.range (i * 11 + 9)).flatMap As).length = P + (7 + (As (i * 11 + 4)).length + (As (i * 11 + 7)).length) := by rw [show i * 11 + 9 = i * 11 + 8 + 1 by omega, pre_succ, List.length_append, p8, a8]; simp only [List.length_cons, List.length_nil] <;> omega
        have p10 : ((List.range (i * 11 + 10)).flatMap As).length = P + (7 + (As (i * 11 + 4)).length + (As (i * 11 + 7)).length + (As (i * 11 + 9)).length) := by rw [show i * 11 + 10 = i * 11 + 9 + 1 by omega, pre_succ, List.length_append, p9]; omega
        have p11 : ((List.range ((i + 1) * 11)).flatMap As).length = P + (7 + (As (i * 11 + 4)).length + (As (i * 11 + 7)).length + (As (i * 11 + 9)).length + (As (i * 11 + 10)).length) := by rw [show (i + 1) * 11 = i * 11 + 10 + 1 by omega, pre_succ, List.length_append, p10]; omega
        have hlb := hple ((i + 1) * 11) (by omega)
        rw [p11] at hlb
        rw [a0] at s0
        rw [a1, p1] at s1
        rw [a2, p2] at s2
        rw [a3, p3] at s3
        rw [p4] at s4
        rw [a5, p5] at s5
        rw [a6, p6] at s6
        rw [p7] at s7
        rw [a8, p8] at s8
        rw [p9] at s9
        rw [p10] at s10
        have c0 := s0.one
        have c1 := s1.one
        have c2 := s2.one
        have c3 := s3.one
        have c5 := s5.one
        have c6 := s6.one
        have c8 := s8.one
        have c4 := hs.cell hbk (hy (i * 11 + 4) (by omega)) (fun z hz => by have := hr _ _ _ e4; rw [hz] at this; cases this)
        have c7 := hs.cell hbk (hy (i * 11 + 7) (by omega)) (fun z hz => by have := hr _ _ _ e7; rw [hz] at this; cases this)
        have c9 := hs.cell hbk (hy (i * 11 + 9) (by omega)) (fun z hz => by have := hr _ _ _ e9; rw [hz] at this; cases this)
        have c10 := hs.cell hbk (hy (i * 11 + 10) (by omega)) (fun z hz => by have := hr _ _ _ e10; rw [hz] at this; cases this)
        generalize hK : k + (P : Nat) = K at *
        obtain ⟨K5, hK5⟩ : ∃ x, x = K + 1 + 1 + 1 + 1 + ((As (i * 11 + 4)).length : Nat) := ⟨_, rfl⟩
        obtain ⟨K8, hK8⟩ : ∃ x, x = K5 + 1 + 1 + ((As (i * 11 + 7)).length : Nat) := ⟨_, rfl⟩
        obtain ⟨K9, hK9⟩ : ∃ x, x = K8 + 1 + ((As (i * 11 + 9)).length : Nat) := ⟨_, rfl⟩
        obtain ⟨K10, hK10⟩ : ∃ x, x = K9 + ((As (i * 11 + 10)).length : Nat) := ⟨_, rfl⟩
        rw [show k + ((P + (1) : Nat) : Int) = K + 1 by omega] at c1
        rw [show k + ((P + (2) : Nat) : Int) = K + 1 + 1 by omega] at c2
        rw [show k + ((P + (3) : Nat) : Int) = K + 1 + 1 + 1 by omega] at c3
        rw [show k + ((P + (4) : Nat) : Int) = K + 1 + 1 + 1 + 1 by omega] at s4
        rw [show k + ((P + (4 + (As (i * 11 + 4)).length) : Nat) : Int) = K5 by omega] at c5
        rw [show k + ((P + (5 + (As (i * 11 + 4)).length) : Nat) : Int) = K5 + 1 by omega] at c6
        rw [show k + ((P + (6 + (As (i * 11 + 4)).length) : Nat) : Int) = K5 + 1 + 1 by omega] at s7
        rw [show k + ((P + (6 + (As (i * 11 + 4)).length + (As (i * 11 + 7)).length) : Nat) : Int) = K8 by omega] at c8
        rw [show k + ((P + (7 + (As (i * 11 + 4)).length + (As (i * 11 + 7)).length) : Nat) : Int) = K8 + 1 by omega] at s9
        rw [show k + ((P + (7 + (As (i * 11 + 4)).length + (As (i * 11 + 7)).length + (As (i * 11 + 9)).length) : Nat) : Int) = K9 by omega] at s10
        have q4 := heldEr (hr _ _ _ e4) _ _ hs (by omega) (by omega) s4
        have q7 := heldEr (hr _ _ _ e7) _ _ hs (by omega) (by omega) s7
        have q9 := ih _ _ _ e9 (es := e.body) _ (by omega) (by omega) s9 rfl rfl
        have q10 := ih _ _ _ e10 (es := e.els) _ (by omega) (by omega) s10 rfl rfl
        rw [← hK5] at q4
        rw [← hK8] at q7
        rw [← hK9] at q9
        rw [← hK10] at q10
        have hK0 : 0 ≤ K ∧ K + 7 ≤ 1099511627776 := by omega
        have b5 : 0 ≤ K5 ∧ K5 + 3 ≤ 1099511627776 := by omega
        have b8 : 0 ≤ K8 ∧ K8 + 1 ≤ 1099511627776 := by omega
        have b9 : 0 ≤ K9 ∧ K9 ≤ 1099511627776 := by omega
        have b10 : 0 ≤ K10 ∧ K10 ≤ 1099511627776 := by omega
        have hkf : k + (((List.range ((i + 1) * 11)).flatMap As).length : Nat) = K10 := by rw [p11]; omega
        replace hkf := Kept.mk hkf
        generalize y (i * 11 + 4) = y4 at *
        generalize y (i * 11 + 7) = y7 at *
        generalize y (i * 11 + 9) = y9 at *
        generalize y (i * 11 + 10) = y10 at *
        clear hK hK5 hK8 hK9 hK10 hP p1 p2 p3 p4 p5 p6 p7 p8 p9 p10 p11 s0 s1 s2  s3 s4 s5 s6 s7 s8 s9 s10 a0 a1 a2 a3 a5 a6 a8 e0 e1 e2 e3 e4 e5 e6 e7 e8 e9 e10 hE hel hlb hple hsub hi hr ih hy hc hsz hv hb hcap hl hbk hs he
        go_wp2_with (go_at_call 49; refine q4.mono ?_)
        try rintro ee w2 ⟨rfl, rfl⟩
        go_wp2_with (go_at_call 49; refine q7.mono ?_)
        try rintro ee w2 ⟨rfl, rfl⟩
        go_wp2_with (go_at_call 34; refine q9.mono ?_)
        try rintro ee w2 ⟨rfl, rfl⟩
        go_wp2_with (go_at_call 34; refine q10.mono ?_)
        try rintro ee w2 ⟨rfl, rfl⟩
        try go_wp2
        exact ⟨⟨i + 1, hlt, by rw [hkf.h], by go_num, trivial⟩, by simp [intOf]; omega⟩
      · have : i = es.length := by omega
        subst this
        go_wp2
        go_ret
        exact ⟨rfl, rfl⟩
end Go.Proofs.Ytlapccpnilomfaa.CtT
