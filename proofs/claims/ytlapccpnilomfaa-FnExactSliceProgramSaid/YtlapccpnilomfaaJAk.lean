/- Contracts of functions of the program, one behind the other, as plain data: what each call returns and which blocks it leaves. -/
import Derived.Test.YtlapccpnilomfaaJAj
set_option linter.unusedVariables false
set_option linter.unusedSimpArgs false
set_option linter.unusedSectionVars false
set_option maxHeartbeats 16000000
set_option maxRecDepth 100000
namespace Go.Proofs.Ytlapccpnilomfaa.CtT
open Go Go.CT Go.RowKit

/-- v reads as the row xs (ints and rows only, wherever they lie). -/
inductive PL (w : World) : Value → Nat → List (List C) → Prop
  | nil (a : Option Addr) (cap sz : Nat) : PL w (.slice a 0 cap) sz []
  | row (b off cap sz : Nat) (xs : List (List C)) (y : Nat → Value) (hb : b < w.heap.size) (hy : ∀ j, j < xs.length * sz → w.cell? ⟨b, off + j, none⟩ = some (y j)) (hsz : ∀ x ∈ xs, x.length = sz)
      (hi : ∀ j z, xs.flatten[j]? = some (.v z) → y j = z) (hr : ∀ j n l, xs.flatten[j]? = some (.isl n l) → PL w (y j) n l) (hl : xs.length ≤ cap ∧ xs.length ≤ 1048576) :
      PL w (.slice (some ⟨b, off, none⟩) xs.length cap) sz xs
theorem PL.mono {w w' : World} {v : Value} {sz : Nat} {xs : List (List C)} (h : PL w v sz xs) (hb : Below w.heap.size w w') : PL w' v sz xs := by
  induction h with
  | nil a cap sz => exact .nil a cap sz
  | row b off cap sz xs y hbs hy hsz hi hr hl ih => exact .row b off cap sz xs y (Nat.lt_of_lt_of_le hbs hb.size) (fun j hj => (hb.cell (by exact hbs)).trans (hy j hj)) hsz hi ih hl
/-- What an element of a row was given: ints and trees of its own. -/
structure Own (w : World) (lo : Nat) (v : Value) (sz : Nat) (xs : List (List C)) (B : List Nat) (A : List Addr) : Prop where
  tr : TR w v sz xs B A
  nd : B.Nodup
  lo : ∀ b ∈ B, lo ≤ b ∧ b < w.heap.size
theorem Own.keep {w w' : World} {lo : Nat} {v : Value} {sz : Nat} {xs : List (List C)} {B : List Nat} {A : List Addr} (h : Own w lo v sz xs B A) (hs : w.heap.size ≤ w'.heap.size) (hb : ∀ b ∈ B, w'.heap[b]? = w.heap[b]?) : Own w' lo v sz xs B A :=
  ⟨h.tr.frame hb, h.nd, fun b hb' => ⟨(h.lo b hb').1, Nat.lt_of_lt_of_le (h.lo b hb').2 hs⟩⟩
theorem exInfo : ∃ i : TypeInfo, Try.prog.info? 65 = some i ∧ i.zero = some (.agg #[.int .i64 0, .int .i64 0, .slice none 0 0]) ∧ i.size = 3 ∧ i.bytes = 40 := by
  have h : (Try.prog.info? 65).map (fun i => (i.zero, i.size, i.bytes)) = some (some (.agg #[.int .i64 0, .int .i64 0, .slice none 0 0]), 3, 40) := by kernel_rfl
  obtain ⟨i, hi, e⟩ := Option.map_eq_some_iff.1 h
  simp only [Prod.mk.injEq] at e
  exact ⟨i, hi, e.1, e.2.1, e.2.2⟩
/-- A loop's state: the elements built so far. -/
structure LI (w wr : World) (T : TypeId) (sz : Nat) (ov : Value) (i : Nat) (cs : List Value) (kv : Nat → Value) (kc : Nat → Nat × List (List C)) (Bs : Nat → List Nat) (As : Nat → List Addr) : Prop where
  bl : Below w.heap.size w wr
  own : wr.ownsRow w.heap.size T sz ov i cs
  kid : ∀ j, j < i * sz → (kc j).1 ≠ 0 → Own wr w.heap.size (kv j) (kc j).1 (kc j).2 (Bs j) (As j)
  emp : ∀ j, (kc j).1 = 0 → Bs j = []
  sep : ∀ j j', j < i * sz → j' < i * sz → j ≠ j' → ∀ b ∈ Bs j, b ∉ Bs j'
  ovb : ∀ j, j < i * sz → ∀ b ∈ Bs j, ov.ownBlock ≠ some b
/-- One more element; the world grew, the row grew. -/
theorem LI.grow {w wr w3 w4 : World} {T : TypeId} {sz : Nat} {ov ov' : Value} {i : Nat} {cs : List Value} {kv : Nat → Value} {kc : Nat → Nat × List (List C)} {Bs : Nat → List Nat} {As : Nat → List Addr}
    (h : LI w wr T sz ov i cs kv kc Bs As) {xs : List Value} (kv' : Nat → Value) (kc' : Nat → Nat × List (List C)) (Bs' : Nat → List Nat) (As' : Nat → List Addr)
    (h3 : Below wr.heap.size wr w3) (hown : w4.ownsRow w.heap.size T sz ov' (i + 1) (cs ++ xs)) (hg : w3.grownBy w4 ov.ownBlock)
    (hov : ∀ g, ov.ownBlock = some g → g < wr.heap.size) (hov' : ∀ g, ov'.ownBlock = some g → ov'.ownBlock = ov.ownBlock ∨ w3.heap.size ≤ g)
    (old : ∀ j, j < i * sz → kv' j = kv j ∧ kc' j = kc j ∧ Bs' j = Bs j ∧ As' j = As j)
    (new : ∀ j, i * sz ≤ j → j < (i + 1) * sz → (kc' j).1 ≠ 0 → Own w3 wr.heap.size (kv' j) (kc' j).1 (kc' j).2 (Bs' j) (As' j))
    (emp : ∀ j, (kc' j).1 = 0 → Bs' j = [])
    (newsep : ∀ j j', i * sz ≤ j → j < (i + 1) * sz → i * sz ≤ j' → j' < (i + 1) * sz → j ≠ j' → ∀ b ∈ Bs' j, b ∉ Bs' j') : LI w w4 T sz ov' (i + 1) (cs ++ xs) kv' kc' Bs' As' := by
  have hsz1 := h.bl.size
  have hsz2 := h3.size
  have hsz3 := hg.size
  have bnd : ∀ j, j < (i + 1) * sz → ∀ b ∈ Bs' j, (j < i * sz ∧ w.heap.size ≤ b ∧ b < wr.heap.size) ∨ (i * sz ≤ j ∧ wr.heap.size ≤ b ∧ b < w3.heap.size) := fun j hj b hb => by
    rcases Nat.lt_or_ge j (i * sz) with q | q
    · obtain ⟨_, e2, e3, _⟩ := old j q
      rw [e3] at hb
      by_cases hk : (kc j).1 = 0
      · rw [h.emp j hk] at hb; simp at hb
      · exact .inl ⟨q, (h.kid j q hk).lo b hb⟩
    · by_cases hk : (kc' j).1 = 0
      · rw [emp j hk] at hb; simp at hb
      · exact .inr ⟨q, (new j q hj hk).lo b hb⟩
  refine ⟨?_, hown, fun j hj hk => ?_, emp, fun j j' hj hj' hne b hb hb' => ?_, fun j hj b hb e => ?_⟩
  · refine (h.bl.trans (h3.mono hsz1)).trans ⟨hg.os, hg.tape, hg.output, hg.size, fun k hk => hg.block k (by omega) fun e => ?_⟩
    rcases h.own.2 with ⟨rfl, _⟩ | ⟨g, cap, cur, rfl, hge, _⟩
    · cases e
    · simp only [Value.ownBlock, Option.some.injEq] at e; omega
  · rcases Nat.lt_or_ge j (i * sz) with q | q
    · obtain ⟨e1, e2, e3, e4⟩ := old j q
      rw [e2] at hk
      rw [e1, e2, e3, e4]
      refine (h.kid j q hk).keep (by omega) fun b hb => ?_
      have hlt := ((h.kid j q hk).lo b hb).2
      rw [hg.block b (by omega) (fun e => h.ovb j q b hb e.symm), h3.block b hlt]
    · have hn := new j q hj hk
      have : Own w4 wr.heap.size (kv' j) (kc' j).1 (kc' j).2 (Bs' j) (As' j) := hn.keep (by omega) fun b hb => hg.block b (hn.lo b hb).2 fun e => by
        have h1 := hov b e.symm
        have h2 := (hn.lo b hb).1
        omega
      exact ⟨this.tr, this.nd, fun b hb => ⟨by have := (this.lo b hb).1; omega, (this.lo b hb).2⟩⟩
  · rcases bnd j hj b hb with ⟨q, _, q2⟩ | ⟨q, q2, _⟩
    · rcases bnd j' hj' b hb' with ⟨r, _⟩ | ⟨r, r2, _⟩
      · rw [(old j q).2.2.1] at hb
        rw [(old j' r).2.2.1] at hb'
        exact h.sep j j' q r hne b hb hb'
      · omega
    · rcases bnd j' hj' b hb' with ⟨r, _, r2⟩ | ⟨r, _, _⟩
      · omega
      · exact newsep j j' q hj r hj' hne b hb hb'
  · rcases hov' b e with e2 | e2
    · rw [e2] at e
      rcases bnd j hj b hb with ⟨q, _, _⟩ | ⟨q, q2, _⟩
      · rw [(old j q).2.2.1] at hb
        exact h.ovb j q b hb e
      · have := hov b e; omega
    · rcases bnd j hj b hb with ⟨q, _, q2⟩ | ⟨q, q2, q3⟩ <;> omega
/-- At the end: a tree. -/
theorem LI.done {w wr : World} {T : TypeId} {sz : Nat} {ov : Value} {xs : List (List C)} {cs : List Value} {kv : Nat → Value} {kc : Nat → Nat × List (List C)} {Bs : Nat → List Nat} {As : Nat → List Addr}
    (h : LI w wr T sz ov xs.length cs kv kc Bs As) (hsz : ∀ x ∈ xs, x.length = sz) (hcs : ∀ j, j < xs.length * sz → cs[j]? = some (kv j))
    (hc : ∀ c ∈ xs.flatten, (∃ z, c = .v (.int .i64 z)) ∨ ∃ n l, c = .isl n l)
    (hi : ∀ j z, xs.flatten[j]? = some (.v (.int .i64 z)) → kv j = .int .i64 z ∧ (kc j).1 = 0)
    (hr : ∀ j n l, xs.flatten[j]? = some (.isl n l) → kc j = (n, l)  ∧ n ≠ 0) (hl : xs.length ≤ mx) : ∃ B A, Own wr w.heap.size ov sz xs B A := by
  rcases h.own.2 with ⟨rfl, h0⟩ | ⟨g, cap, cur, rfl, hge, hg, hn, hcap, hcur, htk⟩
  · have : xs = [] := List.eq_nil_of_length_eq_zero h0
    subst this
    exact ⟨[], [], .nil _ _ _, List.nodup_nil, fun b hb => by simp at hb⟩
  · let As' : Nat → List Addr := fun j => if (kc j).1 = 0 then [⟨g, j, none⟩] else As j
    have hgl : g < wr.heap.size := by
      rcases Nat.lt_or_ge g wr.heap.size with q | q
      · exact q
      · rw [Array.getElem?_eq_none q] at hg; cases hg
    have hbs : ∀ j, j < xs.length * sz → ∀ b ∈ Bs j, w.heap.size ≤ b ∧ b < wr.heap.size ∧ b ≠ g := fun j hj b hb => by
      by_cases hk : (kc j).1 = 0
      · rw [h.emp j hk] at hb; simp at hb
      · have := (h.kid j hj hk).lo b hb
        exact ⟨this.1, this.2, fun e => h.ovb j hj b hb (by rw [e]; rfl)⟩
    refine ⟨_, _, .row g cap sz xs kv Bs As' cur T hg hsz (fun j hj => ?_) hc (fun j z hz => ?_) (fun j n l hz => ?_) ⟨hn, hl⟩ (by omega), ?_, fun b hb => ?_⟩
    · have h1 := hcs j hj
      rw [← htk, List.getElem?_take, if_pos hj] at h1
      simpa using h1
    · obtain ⟨e1, e2⟩ := hi j z hz
      exact ⟨e1, by simp [As', e2], h.emp j e2⟩
    · obtain ⟨e1, e2⟩ := hr j n l hz
      have hk : (kc j).1 ≠ 0 := by rw [e1]; exact e2
      have hj : j < xs.length * sz := by rw [← flat_len hsz]; exact (List.getElem?_eq_some_iff.1 hz).1
      have := (h.kid j hj hk).tr
      rw [e1] at this
      simp only [As', if_neg hk]
      exact this
    · rw [List.nodup_cons]
      refine ⟨fun hm => ?_, nodup_flatMap List.nodup_range (fun j hj => ?_) fun j hj j' hj' hne b hb => h.sep j j' (List.mem_range.1 hj) (List.mem_range.1 hj') hne b hb⟩
      · obtain ⟨j, hj, hb⟩ := List.mem_flatMap.1 hm
        exact (hbs j (List.mem_range.1 hj) g hb).2.2 rfl
      · by_cases hk : (kc j).1 = 0
        · rw [h.emp j hk]; exact List.nodup_nil
        · exact (h.kid j (List.mem_range.1 hj) hk).nd
    · rcases List.mem_cons.1 hb with rfl | hb
      · exact ⟨hge, hgl⟩
      · obtain ⟨j, hj, hb⟩ := List.mem_flatMap.1 hb
        have := hbs j (List.mem_range.1 hj) b hb
        exact ⟨this.1, this.2.1⟩
def ext {α : Type} (m : Nat) (f g : Nat → α) (j : Nat) : α := if j < m then f j else g (j - m)
theorem map_ext {α : Type} (m n : Nat) (f g : Nat → α) : (List.range (m + n)).map (ext m f g) = (List.range m).map f ++ (List.range n).map g := by
  induction n with
  | zero => simp only [Nat.add_zero, List.range_zero, List.map_nil, List.append_nil]; exact List.map_congr_left fun j hj => by simp [ext, List.mem_range.1 hj]
  | succ n ih =>
    rw [← Nat.add_assoc, List.range_succ, List.map_append, ih, List.range_succ, List.map_append, List.append_assoc]
    simp [ext]
    intro h; omega
theorem LI.step {w wr w3 w4 : World} {T : TypeId} {sz : Nat} {ov ov' : Value} {i : Nat} {kv : Nat → Value} {kc : Nat → Nat × List (List C)} {Bs : Nat → List Nat} {As : Nat → List Addr}
    (h : LI w wr T sz ov i ((List.range (i * sz)).map kv) kv kc Bs As) (nv : Nat → Value) (nc : Nat → Nat × List (List C)) (nB : Nat → List Nat) (nA : Nat → List Addr)
    (h3 : Below wr.heap.size wr w3) (hown : w4.ownsRow w.heap.size T sz ov' (i + 1) ((List.range (i * sz)).map kv ++ (List.range sz).map nv)) (hg : w3.grownBy w4 ov.ownBlock)
    (hov : ∀ g, ov.ownBlock = some g → g < wr.heap.size) (hov' : ∀ g, ov'.ownBlock = some g → ov'.ownBlock = ov.ownBlock ∨ w3.heap.size ≤ g)
    (new : ∀ t, t < sz → (nc t).1 ≠ 0 → Own w3 wr.heap.size (nv t) (nc t).1 (nc t).2 (nB t) (nA t)) (emp : ∀ t, (nc t).1 = 0 → nB t = [])
    (newsep : ∀ t t', t < sz → t' < sz → t ≠ t' → ∀ b ∈ nB t, b ∉ nB t') :
    LI w w4 T sz ov' (i + 1) ((List.range ((i + 1) * sz)).map (ext (i * sz) kv nv)) (ext (i * sz) kv nv) (ext (i * sz) kc nc) (ext (i * sz) Bs nB) (ext (i * sz) As nA) := by
  rw [Nat.succ_mul, map_ext]
  have hs : (i + 1) * sz = i * sz + sz := Nat.succ_mul i sz
  refine h.grow _ _ _ _ h3 hown hg hov hov' (fun j hj => by simp [ext, hj]) (fun j h1 h2 h4 => ?_) (fun j hj => ?_) (fun j j' h1 h2 h3 h4 hne => ?_)
  · have e : ¬ j < i * sz := by omega
    simp only [ext, if_neg e] at h4 ⊢
    exact new _ (by omega) h4
  · by_cases e : j < i * sz
    · simp only [ext, if_pos e] at hj ⊢; exact h.emp j hj
    · simp only [ext, if_neg e] at hj ⊢; exact emp _ hj
  · have e : ¬ j < i * sz := by omega
    have e' : ¬ j' < i * sz := by omega
    simp only [ext, if_neg e, if_neg e']
    exact newsep _ _ (by omega) (by omega) (by omega)
/-- A cell's value is what it should be. -/
def CS (c : C) (v : Value) (k : Nat × List (List C)) : Prop := (∃ z, c = .v (.int .i64 z) ∧ v = .int .i64 z ∧ k.1 = 0) ∨ ∃ n l, c = .isl n l ∧ k = (n, l) ∧ n ≠ 0
theorem CS.step {xs : List (List C)} {sz i : Nat} {kv nv : Nat → Value} {kc nc : Nat → Nat × List (List C)} (hsz : ∀ x ∈ xs, x.length = sz) (h : ∀ j c, (xs.take i).flatten[j]? = some c → CS c (kv j) (kc j)) {ec : List C} (he : xs[i]? = some ec)
    (hn : ∀ t c, ec[t]? = some c → CS c (nv t) (nc t)) : ∀ j c, (xs.take (i + 1)).flatten[j]? = some c → CS c (ext (i * sz) kv nv j) (ext (i * sz) kc nc j) := fun j c hj => by
  have hil : i < xs.length := (List.getElem?_eq_some_iff.1 he).1
  have hl : (xs.take i).flatten.length = i * sz := by
    rw [flat_len fun x hx => hsz x (List.mem_of_mem_take hx), List.length_take, Nat.min_eq_left (by omega)]
  rw [List.take_add_one, he] at hj
  simp only [Option.toList_some, List.flatten_append, List.flatten_cons, List.flatten_nil, List.append_nil] at hj
  by_cases e : j < i * sz
  · rw [List.getElem?_append_left (by omega)] at hj
    simp only [ext, if_pos e]
    exact h j c hj
  · rw [List.getElem?_append_right (by omega), hl] at hj
    simp only [ext, if_neg e]
    exact hn _ c hj
theorem LI.fin {w wr : World} {T : TypeId} {sz : Nat} {ov : Value} {xs : List (List C)} {kv : Nat → Value} {kc : Nat → Nat × List (List C)} {Bs : Nat → List Nat} {As : Nat → List Addr}
    (h : LI w wr T sz ov xs.length ((List.range (xs.length * sz)).map kv) kv kc Bs As) (hsz : ∀ x ∈ xs, x.length = sz) (hc : ∀ j c, xs.flatten[j]? = some c → CS c (kv j) (kc j)) (hl : xs.length ≤ mx) : ∃ B A, Own wr w.heap.size ov sz xs B A := by
  refine h.done hsz (fun j hj => by simp [hj]) (fun c hm => ?_) (fun j z hj => ?_) (fun j n l hj => ?_) hl
  · obtain ⟨j, hj⟩ := List.getElem?_of_mem hm
    rcases hc j c hj with ⟨z, e, _⟩ | ⟨n, l, e, _⟩
    · exact .inl ⟨z, e⟩
    · exact .inr ⟨n, l, e⟩
  · rcases hc j _ hj with ⟨z', e, e1, e2⟩ | ⟨n, l, e, _⟩
    · cases e; exact ⟨e1, e2⟩
    · cases e
  · rcases hc j _ hj with ⟨z', e, _⟩ | ⟨n', l', e, e1, e2⟩
    · cases e
    · cases e; exact ⟨e1, e2⟩
theorem Own.low {w : World} {lo lo' : Nat} {v : Value} {sz : Nat} {xs : List (List C)} {B : List Nat} {A : List Addr} (h : Own w lo v sz xs B A) (hl : lo' ≤ lo) : Own w lo' v sz xs B A :=
  ⟨h.tr, h.nd, fun b hb => ⟨Nat.le_trans hl (h.lo b hb).1, (h.lo b hb).2⟩⟩
end Go.Proofs.Ytlapccpnilomfaa.CtT
