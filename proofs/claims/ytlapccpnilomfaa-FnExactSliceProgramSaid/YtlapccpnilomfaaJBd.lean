/- Contracts of functions of the program, one behind the other, as plain data: what each call returns and which blocks it leaves. -/
import Derived.Lib.SliceRun
import Derived.Test.YtlapccpnilomfaaJBc
set_option linter.unusedVariables false
set_option linter.unusedSimpArgs false
set_option linter.unusedSectionVars false
set_option maxHeartbeats 16000000
set_option maxRecDepth 100000
namespace Go.Proofs.Ytlapccpnilomfaa.CtT
open Go Go.CT Go.RowKit

theorem intInfo : ∃ i : TypeInfo, Try.prog.info? 3 = some i ∧ i.zero = some (.int .i64 0) ∧ i.size = 1 ∧ i.bytes = 8 := by
  have h : (Try.prog.info? 3).map (fun i => (i.zero, i.size, i.bytes)) = some (some (.int .i64 0), 1, 8) := by kernel_rfl
  obtain ⟨i, hi, e⟩ := Option.map_eq_some_iff.1 h
  simp only [Prod.mk.injEq] at e
  exact ⟨i, hi, e.1, e.2.1, e.2.2⟩
theorem row_tr {w : World} {base : Nat} {v : Value} {l : List Int} (h : w.ownsRow base 3 1 v l.length (l.map (Value.int .i64))) (hl : l.length ≤ 1048576) : ∃ B A, Own w base v 1 (l.map fun n => [I64 n]) B A := by
  rcases h.2 with ⟨rfl, h0⟩ | ⟨g, cap, cur, rfl, hge, hg, hn, hcap, hcur, htk⟩
  · have : l = [] := List.eq_nil_of_length_eq_zero h0
    subst this
    exact ⟨[], [], .nil _ _ _, List.nodup_nil, fun b hb => by simp at hb⟩
  · have hgl : g < w.heap.size := by
      rcases Nat.lt_or_ge g w.heap.size with q | q
      · exact q
      · rw [Array.getElem?_eq_none q] at hg; cases hg
    have hf := flat_one l
    have hlen : (l.map fun n => [I64 n]).length = l.length := by simp
    have htr := TR.row (w := w) g cap 1 (l.map fun n => [I64 n]) (fun j => .int .i64 (l.getD j 0)) (fun _ => []) (fun j => [⟨g, j, none⟩]) cur 3 hg (fun x hx => by obtain ⟨n, _, rfl⟩ := List.mem_map.1 hx; rfl) (fun j hj => by
        have hj' : j < l.length := by simpa using hj
        have h1 : (cur.toList.take (l.length * 1))[j]? = some (.int .i64 (l.getD j 0)) := by rw [htk]; simp [List.getD, hj']
        rw [List.getElem?_take, if_pos (by omega)] at h1
        simpa using h1) (fun c hc => by
        rw [hf] at hc
        obtain ⟨n, _, rfl⟩ := List.mem_map.1 hc
        exact .inl ⟨n, rfl⟩) (fun j z hz => by
        rw [hf, List.getElem?_map] at hz
        obtain ⟨n, hn, e⟩ := Option.map_eq_some_iff.1 hz
        simp only [C.v.injEq, Value.int.injEq, true_and] at e
        subst e
        exact ⟨by simp [List.getD, hn], rfl, rfl⟩) (fun j n q hz => by
        rw [hf, List.getElem?_map] at hz
        obtain ⟨n, hn, e⟩ := Option.map_eq_some_iff.1 hz
        cases e) (by rw [hlen]; exact ⟨hn, by unfold mx; omega⟩) (by omega)
    have hnil : ∀ n : Nat, (List.range n).flatMap (fun _ => ([] : List Nat)) = [] := fun n => List.flatMap_eq_nil_iff.2 fun _ _ => rfl
    rw [hlen, hnil] at htr
    refine ⟨_, _, htr, ?_, fun b hb => ?_⟩
    · simp
    · have : b = g := by simpa using hb
      subst this; exact ⟨hge, hgl⟩
theorem cloneR {w : World} {a : Option Addr} {n c : Nat} {l : List Int} (h : PL w (.slice a n c) 1 (l.map fun n => [I64 n])) :
    Calls Try.prog 27 #[.slice a n c] w fun r w' => ∃ a' n' c' B A, r = .returned (.slice a' n' c') ∧ Own w' w.heap.size (.slice a' n' c') 1 (l.map fun n => [I64 n]) B A ∧ Below w.heap.size w w' := by
  obtain ⟨i0, hii, hI0, hI1, hI2⟩ := intInfo
  have hnl : n = l.length ∧ l.length ≤ 1048576 ∧ ∀ ad, a = some ad → ∀ j u, (l.map (Value.int .i64))[j]? = some u → w.cell? (ad.add j) = some u := by
    generalize hxs : l.map (fun n => [I64 n]) = xs at h
    generalize hsl : Value.slice a n c = sv at h
    cases h with
    | nil a' cap sz =>
      have : l = [] := by cases l with
        | nil => rfl
        | cons c r => simp at hxs
      subst this
      cases hsl
      exact ⟨rfl, by simp, fun ad _ j u hj => by simp at hj⟩
    | row b off cap sz xs y hbs hy hsz hi hr hl =>
      subst hxs
      have hf := flat_one l
      simp only [List.length_map, Value.slice.injEq] at hsl hl
      obtain ⟨rfl, rfl, rfl⟩ := hsl
      refine ⟨rfl, hl.2, fun ad e j u hj => ?_⟩
      cases e
      have hj2 : j < l.length := by have := (List.getElem?_eq_some_iff.1 hj).1; simpa using this
      have := hy j (by simpa using hj2)
      rw [hi j (.int .i64 l[j]) (by rw [hf]; simp [hj2])] at this
      have hadd : (⟨b, off, none⟩ : Addr).add j = ⟨b, off + j, none⟩ := by unfold Addr.add; split <;> simp_all
      rw [hadd, this, ← hj]; simp [hj2]
  obtain ⟨rfl, hl, hc⟩ := hnl
  have q22 : ∀ (w : World) (a : Option Addr) (n c n' c' : Nat), (binOp .eql 22 (.slice a n c) (.slice none n' c')).run Try.prog w = .ok (.bool a.isNone) w := fun w a n c n' c' => Lib.run_eql_slice_nil w _ _ a n c n' c' Try.underlying22
  cases a with
  | none =>
    go_enter Try.func27, Try.ntmps27
    go_wp2
    go_ret
    have : l = [] := by
      generalize hxs : l.map (fun n => [I64 n]) = xs at h
      generalize hsl : Value.slice none l.length c = sv at h
      cases h with
      | nil a' cap sz => cases l with
        | nil => rfl
        | cons c r => simp at hxs
      | row => cases hsl
    subst this
    exact ⟨_, _, _, [], [], rfl, ⟨.nil _ _ _, List.nodup_nil, fun b hb => by simp at hb⟩, Below.refl _ _⟩
  | some ad =>
    have hc := hc ad rfl
    clear h
    replace hc := Kept.mk hc
    go_enter Try.func27, Try.ntmps27
    go_wp2_with (at_builtin; refine wpList_append_own _ rfl _ _ 22 rfl w.heap.size 3 i0 (.int .i64 0) 1 8 Try.underlying22 hii hI0 hI1 hI2 rfl (by decide) _ _ _ rfl (World.ownsRow_made w #[] 0 (Nat.le_refl _) (Nat.zero_le _) rfl) ad l.length c (l.map (Value.int .i64)) rfl ?qc1 ?qc2 ?qc3 ?qc4 ?qc5 ?qc6 ?_)
    case qc1 => simp
    case qc2 =>
      intro j u hj
      exact Lib.cell?_alloc_some _ (hc.h j u hj)
    case qc3 => intro u hu; obtain ⟨x, _, rfl⟩ := List.mem_map.1 hu; rfl
    case qc4 => unfold maxLen; omega
    case qc5 => omega
    case qc6 => simp
    intro v' w1 hown hgrow hnil
    replace hown : w1.ownsRow w.heap.size 3 1 v' l.length (l.map (Value.int .i64)) := by simpa using hown
    obtain ⟨a', n', c', rfl⟩ := row_sl hown
    go_wp2
    go_ret
    obtain ⟨B, A, hO⟩ := row_tr hown hl
    exact ⟨_, _, _, B, A, rfl, hO, ((Below.refl _ w).alloc (Nat.le_refl _) _).grown hgrow (by simp) (by intro k hk; simp [Value.ownBlock] at hk; omega)⟩
theorem SP.alloc {w w1 : World} (h : SP w w1) (o : Obj) : SP w (w1.alloc o) := fun b arr ty fr e => by
  obtain ⟨arr', h1, h2⟩ := h b arr ty fr e
  refine ⟨arr', ?_, h2⟩
  have : b < w1.heap.size := by
    rcases Nat.lt_or_ge b w1.heap.size with q | q
    · exact q
    · rw [Array.getElem?_eq_none q] at h1; cases h1
  rw [heap_alloc_old _ _ this]; exact h1
theorem VA.app {w : World} {A B : List Addr} {k : Int} (h : VA w (A ++ B) k) : VA w A k ∧ VA w B (k + (A.length : Nat)) := by
  refine ⟨fun j a ha => h j a ?_, fun j a ha => ?_⟩
  · rw [List.getElem?_append_left (List.getElem?_eq_some_iff.1 ha).1]; exact ha
  · have := h (A.length + j) a (by rw [List.getElem?_append_right (by omega), Nat.add_sub_cancel_left]; exact ha)
    rw [this]
    congr 2
    simp only [Int.natCast_add]; omega
theorem VA.keep {w w' : World} {A : List Addr} {k : Int} (h : VA w A k) (hb : ∀ a ∈ A, w'.heap[a.block]? = w.heap[a.block]?) : VA w' A k := fun j a ha => by
  rw [World.cell?_of_block (hb a (List.mem_of_getElem? ha))]
  exact h j a ha
theorem markPr {w : World} {lo : Nat} {g : Value} {p : Pg} {B : List Nat} {A : List Addr} (h : OP w lo g p B A) (w1 : World) (k : Int) (hs : SP w w1) (hk : 0 ≤ k) (hb : k + (A.length : Nat) ≤ 1099511627776) :
    Calls Try.prog 11 #[g, .int .i64 k] w1 fun e w' => e = .returned (.int .i64 (k + (A.length : Nat))) ∧ ∃ o, w' = wr (w1.alloc o) A k := by
  obtain ⟨⟨a0, n0, c0, a1, n1, c1, a2, n2, c2, B0, A0, B1, A1, B2, A2, rfl, rfl, rfl, h0, h1, h2⟩, hnd, hlo⟩ := h
  simp only [List.length_append] at hb ⊢
  obtain ⟨o, ho⟩ : ∃ o, o = Obj.cells #[.slice a0 n0 c0, .slice a1 n1 c1, .slice a2 n2 c2] 30 := ⟨_, rfl⟩
  obtain ⟨wa, hwa⟩ : ∃ x, x = w1.alloc o := ⟨_, rfl⟩
  have sa : SP w wa := hwa ▸ hs.alloc o
  have m0 := markIr h0 wa k sa hk (by omega)
  have sb := sa.wr k h0.ints
  have m1 := markIr h1 (wr wa A0 k) (k + (A0.length : Nat)) sb (by omega) (by omega)
  have sc := sb.wr (k + (A0.length : Nat)) h1.ints
  have m2 := markSr h2 (wr (wr wa A0 k) A1 (k + (A0.length : Nat))) (k + (A0.length : Nat) + (A1.length : Nat)) sc (by omega) (by omega)
  rw [show k + ((A0.length + (A1.length + A2.length) : Nat) : Int) = k + (A0.length : Nat) + (A1.length : Nat) + (A2.length : Nat) by omega]
  have hfin : wr (wr (wr wa A0 k) A1 (k + (A0.length : Nat))) A2 (k + (A0.length : Nat) + (A1.length : Nat)) = wr wa (A0 ++ (A1 ++ A2)) k := by rw [wr_app, wr_app]
  have hbl : ∀ a ∈ A0 ++ (A1 ++ A2), a.block ≠ w1.heap.size := fun a ha e => by
    have hi : IntAt w a := by
      rcases List.mem_append.1 ha with ha | ha
      · exact h0.ints a ha
      · rcases List.mem_append.1 ha with ha | ha
        · exact h1.ints a ha
        · exact h2.ints a ha
    obtain ⟨_, arr, ty, z, e1, _⟩ := hi
    obtain ⟨arr', e2, _⟩ := hs _ _ _ _ e1
    rw [e] at e2
    simp at e2
  have hX0 : wa.heap[w1.heap.size]? = some o := by rw [hwa]; exact heap_alloc_new w1 o
  have hX1 : (wr wa A0 k).heap[w1.heap.size]? = some o := by rw [wr_other _ _ _ _ fun a ha => hbl a (by simp [ha])]; exact hX0
  have hX2 : (wr (wr wa A0 k) A1 (k + (A0.length : Nat))).heap[w1.heap.size]? = some o := by rw [wr_other _ _ _ _ fun a ha => hbl a (by simp [ha])]; exact hX1
  rw [ho] at hX0 hX1 hX2
  have x0 : wa.cell? ⟨w1.heap.size, 0, none⟩ = some (.slice a0 n0 c0) := by rw [Lib.cell_of_heap hX0]; rfl
  have x1 : (wr wa A0 k).cell? ⟨w1.heap.size, 1, none⟩ = some (.slice a1 n1 c1) := by rw [Lib.cell_of_heap hX1]; rfl
  have x2 : (wr (wr wa A0 k) A1 (k + (A0.length : Nat))).cell? ⟨w1.heap.size, 2, none⟩ = some (.slice a2 n2 c2) := by rw [Lib.cell_of_heap hX2]; rfl
  obtain ⟨wd, hwd⟩ : ∃ x, x = wr wa (A0 ++ (A1 ++ A2)) k := ⟨_, rfl⟩
  rw [hfin, ← hwd] at m2
  rw [hwa] at hwd
  clear hfin
  generalize wr (wr wa A0 k) A1 (k + (A0.length : Nat)) = wc at *
  generalize wr wa A0 k = wb at *
  refine (Calls.mono (?_ : Calls Try.prog 11 _ w1 fun e w' => e = .returned (.int .i64 (k + (A0.length : Nat) + (A1.length : Nat) + (A2.length : Nat))) ∧ w' = wd) fun e w' hh => ⟨hh.1, o, hh.2.trans hwd⟩)
  clear h0 h1 h2 hs hnd hlo sa sb sc hbl hX0 hX1 hX2 hb hwd
  subst ho
  go_enter Try.func11, Try.ntmps11
  go_wp2_with (go_at_call 31; rw [← hwa]; refine m0.mono ?_)
  rintro e w' ⟨rfl, rfl⟩
  go_wp2_with (go_at_call 31; refine m1.mono ?_)
  rintro e w' ⟨rfl, rfl⟩
  go_wp2_with (go_at_call 32; refine m2.mono ?_)
  rintro e w' ⟨rfl, rfl⟩
  go_wp2
  go_ret
  exact ⟨rfl, rfl⟩
theorem heldPr {w : World} {lo : Nat} {g : Value} {p : Pg} {B : List Nat} {A : List Addr} (h : OP w lo g p B A) (w1 : World) (k : Int) (hs : SP w w1) (hk : 0 ≤ k) (hb : k + (A.length : Nat) ≤ 1099511627776) (hv : VA w1 A k) :
    Calls Try.prog 13 #[g, .int .i64 k] w1 fun e w' => e = .returned (.int .i64 (k + (A.length : Nat))) ∧ ∃ o, w' = w1.alloc o := by
  obtain ⟨⟨a0, n0, c0, a1, n1, c1, a2, n2, c2, B0, A0, B1, A1, B2, A2, rfl, rfl, rfl, h0, h1, h2⟩, hnd, hlo⟩ := h
  simp only [List.length_append] at hb ⊢
  obtain ⟨o, ho⟩ : ∃ o, o = Obj.cells #[.slice a0 n0 c0, .slice a1 n1 c1, .slice a2 n2 c2] 30 := ⟨_, rfl⟩
  obtain ⟨wa, hwa⟩ : ∃ x, x = w1.alloc o := ⟨_, rfl⟩
  have sa : SP w wa := hwa ▸ hs.alloc o
  have hva : VA wa (A0 ++ (A1 ++ A2)) k := by
    refine hv.keep fun a ha => ?_
    have hi : IntAt w a := by
      rcases List.mem_append.1 ha with ha | ha
      · exact h0.ints a ha
      · rcases List.mem_append.1 ha with ha | ha
        · exact h1.ints a ha
        · exact h2.ints a ha
    obtain ⟨_, arr, ty, z, e1, _⟩ := hi
    obtain ⟨arr', e2, _⟩ := hs _ _ _ _ e1
    have : a.block < w1.heap.size := by
      rcases Nat.lt_or_ge a.block w1.heap.size with q | q
      · exact q
      · rw [Array.getElem?_eq_none q] at e2; cases e2
    rw [hwa]; exact heap_alloc_old _ _ this
  obtain ⟨v0, v12⟩ := hva.app
  obtain ⟨v1, v2⟩ := v12.app
  have m0 := heldIr h0 wa k sa hk (by omega) v0
  have m1 := heldIr h1 wa (k + (A0.length : Nat)) sa (by omega) (by omega) v1
  have m2 := heldSr h2 wa (k + (A0.length : Nat) + (A1.length : Nat)) sa (by omega) (by omega) v2
  rw [show k + ((A0.length + (A1.length + A2.length) : Nat) : Int) = k + (A0.length : Nat) + (A1.length : Nat) + (A2.length : Nat) by omega]
  have hX0 : wa.heap[w1.heap.size]? = some o := by rw [hwa]; exact heap_alloc_new w1 o
  rw [ho] at hX0
  have x0 : wa.cell? ⟨w1.heap.size, 0, none⟩ = some (.slice a0 n0 c0) := by rw [Lib.cell_of_heap hX0]; rfl
  have x1 : wa.cell? ⟨w1.heap.size, 1, none⟩ = some (.slice a1 n1 c1) := by rw [Lib.cell_of_heap hX0]; rfl
  have x2 : wa.cell? ⟨w1.heap.size, 2, none⟩ = some (.slice a2 n2 c2) := by rw [Lib.cell_of_heap hX0]; rfl
  refine (Calls.mono (?_ : Calls Try.prog 13 _ w1 fun e w' => e = .returned (.int .i64 (k + (A0.length : Nat) + (A1.length : Nat) + (A2.length : Nat))) ∧ w' = wa) fun e w' hh => ⟨hh.1, o, hh.2.trans hwa⟩)
  have g0 : ¬ (k + (A0.length : Nat) < 0) := by omega
  have g1 : ¬ (k + (A0.length : Nat) + (A1.length : Nat) < 0) := by omega
  have g2 : ¬ (k + (A0.length : Nat) + (A1.length : Nat) + (A2.length : Nat) < 0) := by omega
  clear h0 h1 h2 hs hnd hlo sa hX0 hb hv hva v0 v12 v1 v2
  subst ho
  go_enter Try.func13, Try.ntmps13
  go_wp2_with (first
    | (go_at_call_of 33 (Value.slice a0 n0 c0); rw [← hwa]; refine m0.mono ?_; rintro e w' ⟨rfl, rfl⟩)
    | (go_at_call_of 33 (Value.slice a1 n1 c1); rw [← hwa]; refine m1.mono ?_; rintro e w' ⟨rfl, rfl⟩)
    | (go_at_call 34; rw [← hwa]; refine m2.mono ?_; rintro e w' ⟨rfl, rfl⟩))
  all_goals go_ret
  exact ⟨rfl, hwa.symm⟩
end Go.Proofs.Ytlapccpnilomfaa.CtT
