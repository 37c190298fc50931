/- Contracts of functions of the program, one behind the other, as plain data: what each call returns and which blocks it leaves. -/
import Derived.Test.YtlapccpnilomfaaJBa
set_option linter.unusedVariables false
set_option linter.unusedSimpArgs false
set_option linter.unusedSectionVars false
set_option maxHeartbeats 16000000
set_option maxRecDepth 100000
namespace Go.Proofs.Ytlapccpnilomfaa.CtT
open Go Go.CT Go.RowKit

theorem stInfo : ∃ i : TypeInfo, Try.prog.info? 67 = some i ∧ i.zero = some (.agg #[.int .i64 0, .int .i64 0, .int .i64 0, .int .i64 0, .slice none 0 0, .int .i64 0, .int .i64 0, .slice none 0 0, .int .i64 0, .slice none 0 0, .slice none 0 0]) ∧ i.size = 11 ∧ i.bytes = 152 := by
  have h : (Try.prog.info? 67).map (fun i => (i.zero, i.size, i.bytes)) = some (some (.agg #[.int .i64 0, .int .i64 0, .int .i64 0, .int .i64 0, .slice none 0 0, .int .i64 0, .int .i64 0, .slice none 0 0, .int .i64 0, .slice none 0 0, .slice none 0 0]), 11, 152) := by kernel_rfl
  obtain ⟨i, hi, e⟩ := Option.map_eq_some_iff.1 h
  simp only [Prod.mk.injEq] at e
  exact ⟨i, hi, e.1, e.2.1, e.2.2⟩
theorem Own.below {w w' : World} {lo : Nat} {v : Value} {sz : Nat} {xs : List (List C)} {B : List Nat} {A : List Addr} (h : Own w lo v sz xs B A) (hb : Below w.heap.size w w') : Own w' lo v sz xs B A := h.keep hb.size fun b hm => hb.block b (h.lo b hm).2
def at4 {α : Type} (a b c d : List α) (t : Nat) : List α := if t = 4 then a else if t = 7 then b else if t = 9 then c else if t = 10 then d else []
theorem at4_mem {α : Type} {a b c d : List α} {t : Nat} {x : α} (h : x ∈ at4 a b c d t) : (t = 4 ∧ x ∈ a) ∨ (t = 7 ∧ x ∈ b) ∨ (t = 9 ∧ x ∈ c) ∨ (t = 10 ∧ x ∈ d) := by
  unfold at4 at h
  repeat' split at h
  · exact .inl ⟨by assumption, h⟩
  · exact .inr (.inl ⟨by assumption, h⟩)
  · exact .inr (.inr (.inl ⟨by assumption, h⟩))
  · exact .inr (.inr (.inr ⟨by assumption, h⟩))
  · simp at h
def kc4 (e : St1) (t : Nat) : Nat × List (List C) := if t = 4 then (3, Ex.cellsL e.index.kids) else if t = 7 then (3, Ex.cellsL e.value.kids) else if t = 9 then (11, St1.cellsL e.body) else if t = 10 then (11, St1.cellsL e.els) else (0, [])
theorem kc4_ne {e : St1} {t : Nat} (h : (kc4 e t).1 ≠ 0) : t = 4 ∨ t = 7 ∨ t = 9 ∨ t = 10 := by
  unfold kc4 at h
  repeat' split at h
  all_goals simp_all
theorem kc4_emp {α : Type} {e : St1} {t : Nat} (a b c d : List α) (h : (kc4 e t).1 = 0) : at4 a b c d t = [] := by
  unfold kc4 at h
  unfold at4
  repeat' split at h
  all_goals simp_all
theorem ownSr : ∀ (n : Nat) (l : List St1), SizeOf.sizeOf l ≤ n → ∀ (w : World) (sv : Value), PL w sv 11 (St1.cellsL l) →
    Calls Try.prog 28 #[sv] w fun r w' => ∃ v' B A, r = .returned v' ∧ Own w' w.heap.size v' 11 (St1.cellsL l) B A ∧ Below w.heap.size w w' := by
  intro n
  induction n with
  | zero => intro l h; cases l <;> simp at h
  | succ n ihn =>
    intro es hsz w sv hpl
    have hrec : ∀ x ∈ es, ∀ l, (l = x.body ∨ l = x.els) → ∀ (w : World) (sv : Value), PL w sv 11 (St1.cellsL l) → Calls Try.prog 28 #[sv] w fun r w' => ∃ v' B A, r = .returned v' ∧ Own w' w.heap.size v' 11 (St1.cellsL l) B A ∧ Below w.heap.size w w' := fun x hx l hl => ihn l (by
      have := List.sizeOf_lt_of_mem hx
      cases x
      simp only [St1.body, St1.els] at hl
      rcases hl with rfl | rfl <;> simp at this <;> omega)
    obtain ⟨i0, hii, hI0, hI1, hI2⟩ := stInfo
    generalize hxs : St1.cellsL es = xs at hpl
    cases hpl with
    | nil a cap sz =>
      go_enter Try.func28, Try.ntmps28
      go_wp2
      refine wp_loop_rounds 1 ?_
      rw [rounds_succ]
      go_wp2
      go_ret
      exact ⟨_, [], [], rfl, ⟨.nil _ _ _, List.nodup_nil, fun b hb => by simp at hb⟩, Below.refl _ _⟩
    | row b off cap sz xs y hbs hy hszx hi hr hl =>
      have hlen : xs.length = es.length := by rw [← hxs, stL_len]
      have hel : ∀ (i : Nat) (e : St1), es[i]? = some e → xs[i]? = some e.cells := fun i e he => by rw [← hxs]; exact stL_at he
      have hkl : es.length ≤ 1048576 := by rw [← hlen]; exact hl.2
      simp only [hlen] at hy ⊢
      go_enter Try.func28, Try.ntmps28
      go_wp2
      go_loopw [3, 8] (fun ov iv wv => ∃ (i : Nat) (oa : Option Addr) (on oc : Nat) (kv : Nat → Value) (kc : Nat → Nat × List (List C)) (Bs : Nat → List Nat) (As : Nat → List Addr), i ≤ es.length ∧ iv = .int .i64 i ∧ ov = .slice oa on oc ∧ LI w wv 67 11 (.slice oa on oc) i ((List.range (i * 11)).map kv) kv kc Bs As ∧ (∀ j c, (xs.take i).flatten[j]? = some c → CS c (kv j) (kc j))) (fun _ iv _ => es.length - (intOf iv).toNat)
      case atStart => exact ⟨0, none, 0, 0, fun _ => undef, fun _ => (0, []), fun _ => [], fun _ => [], Nat.zero_le _, rfl, rfl, ⟨Below.refl _ _, World.ownsRow_nil _ _ _ _, fun j hj => by omega, fun _ _ => rfl, fun j j' hj => by omega, fun j hj => by omega⟩, fun j c hj => by simp at hj⟩
      case round =>
        obtain ⟨i, oa, on, oc, kv, kc, Bs, As, hi', rfl, rfl, hLI, hCS⟩ := hrel
        have hbw := hLI.bl
        have hws := hLI.bl.size
        have hlo := hLI.own.lt
        by_cases hlt : i < es.length
        · obtain ⟨e, he⟩ : ∃ e, es[i]? = some e := ⟨es[i], by simp [hlt]⟩
          have hx := hel i e he
          have f0 := flat_at hszx i 0 _ hx (by omega)
          have f1 := flat_at hszx i 1 _ hx (by omega)
          have f2 := flat_at hszx i 2 _ hx (by omega)
          have f3 := flat_at hszx i 3 _ hx (by omega)
          have f4 := flat_at hszx i 4 _ hx (by omega)
          have f5 := flat_at hszx i 5 _ hx (by omega)
          have f6 := flat_at hszx i 6 _ hx (by omega)
          have f7 := flat_at hszx i 7 _ hx (by omega)
          have f8 := flat_at hszx i 8 _ hx (by omega)
          have f9 := flat_at hszx i 9 _ hx (by omega)
          have f10 := flat_at hszx i 10 _ hx (by omega)
          rw [st11] at f0 f1 f2 f3 f4 f5 f6 f7 f8 f9 f10
          have y0 := hi _ _ f0
          have y1 := hi _ _ f1
          have y2 := hi _ _ f2
          have y3 := hi _ _ f3
          have y5 := hi _ _ f5
          have y6 := hi _ _ f6
          have y8 := hi _ _ f8
          have y4 := hr _ _ _ f4
          have y7 := hr _ _ _ f7
          have y9 := hr _ _ _ f9
          have y10 := hr _ _ _ f10
          have hyc : ∀ t, t < 11 → wr.cell? ⟨b, off + i * 11 + t, none⟩ = some (y (i * 11 + t)) := fun t ht => by rw [hbw.cell (by exact hbs), Nat.add_assoc]; exact hy (i * 11 + t) (by omega)
          have c0 : wr.cell? ⟨b, off + i * 11, none⟩ = some (.int .i64 e.kind) := by have := hyc 0 (by omega); rw [y0] at this; exact this
          have c1 : wr.cell? ⟨b, off + i * 11 + 1, none⟩ = some (.int .i64 e.target) := by have := hyc 1 (by omega); rw [y1] at this; exact this
          have c2 : wr.cell? ⟨b, off + i * 11 + 2, none⟩ = some (.int .i64 e.index.kind) := by have := hyc 2 (by omega); rw [y2] at this; exact this
          have c3 : wr.cell? ⟨b, off + i * 11 + 3, none⟩ = some (.int .i64 e.index.value) := by have := hyc 3 (by omega); rw [y3] at this; exact this
          have c4 : wr.cell? ⟨b, off + i * 11 + 4, none⟩ = some (y (i * 11 + 4)) := by have := hyc 4 (by omega); exact this
          have c5 : wr.cell? ⟨b, off + i * 11 + 5, none⟩ = some (.int .i64 e.value.kind) := by have := hyc 5 (by omega); rw [y5] at this; exact this
          have c6 : wr.cell? ⟨b, off + i * 11 + 6, none⟩ = some (.int .i64 e.value.value) := by have := hyc 6 (by omega); rw [y6] at this; exact this
          have c7 : wr.cell? ⟨b, off + i * 11 + 7, none⟩ = some (y (i * 11 + 7)) := by have := hyc 7 (by omega); exact this
          have c8 : wr.cell? ⟨b, off + i * 11 + 8, none⟩ = some (.int .i64 e.count) := by have := hyc 8 (by omega); rw [y8] at this; exact this
          have c9 : wr.cell? ⟨b, off + i * 11 + 9, none⟩ = some (y (i * 11 + 9)) := by have := hyc 9 (by omega); exact this
          have c10 : wr.cell? ⟨b, off + i * 11 + 10, none⟩ = some (y (i * 11 + 10)) := by have := hyc 10 (by omega); exact this
          generalize y (i * 11 + 4) = k4 at *
          obtain ⟨sa4, sn4, sc4, rfl⟩ := y4.sl
          generalize y (i * 11 + 7) = k7 at *
          obtain ⟨sa7, sn7, sc7, rfl⟩ := y7.sl
          generalize y (i * 11 + 9) = k9 at *
          obtain ⟨sa9, sn9, sc9, rfl⟩ := y9.sl
          generalize y (i * 11 + 10) = k10 at *
          obtain ⟨sa10, sn10, sc10, rfl⟩ := y10.sl
          obtain ⟨wa, hwa⟩ : ∃ x, x = wr.alloc (.cells #[.int .i64 e.kind, .int .i64 e.target, .int .i64 e.index.kind, .int .i64 e.index.value, .slice sa4 sn4 sc4, .int .i64 e.value.kind, .int .i64 e.value.value, .slice sa7 sn7 sc7, .int .i64 e.count, .slice sa9 sn9 sc9, .slice sa10 sn10 sc10] 67) := ⟨_, rfl⟩
          have hbwa : Below w.heap.size w wa := by rw [hwa]; exact hbw.alloc hbw.size _
          have hsa : wa.heap.size = wr.heap.size + 1 := by rw [hwa]; simp
          have k0 : wa.cell? ⟨wr.heap.size, 0, none⟩ = some (.int .i64 e.kind) := by rw [hwa, Lib.cell_of_heap (heap_alloc_new wr _)]; rfl
          have k1 : wa.cell? ⟨wr.heap.size, 1, none⟩ = some (.int .i64 e.target) := by rw [hwa, Lib.cell_of_heap (heap_alloc_new wr _)]; rfl
          have k2 : wa.cell? ⟨wr.heap.size, 2, none⟩ = some (.int .i64 e.index.kind) := by rw [hwa, Lib.cell_of_heap (heap_alloc_new wr _)]; rfl
          have k3 : wa.cell? ⟨wr.heap.size, 3, none⟩ = some (.int .i64 e.index.value) := by rw [hwa, Lib.cell_of_heap (heap_alloc_new wr _)]; rfl
          have k4 : wa.cell? ⟨wr.heap.size, 4, none⟩ = some (.slice sa4 sn4 sc4) := by rw [hwa, Lib.cell_of_heap (heap_alloc_new wr _)]; rfl
          have k5 : wa.cell? ⟨wr.heap.size, 5, none⟩ = some (.int .i64 e.value.kind) := by rw [hwa, Lib.cell_of_heap (heap_alloc_new wr _)]; rfl
          have k6 : wa.cell? ⟨wr.heap.size, 6, none⟩ = some (.int .i64 e.value.value) := by rw [hwa, Lib.cell_of_heap (heap_alloc_new wr _)]; rfl
          have k7 : wa.cell? ⟨wr.heap.size, 7, none⟩ = some (.slice sa7 sn7 sc7) := by rw [hwa, Lib.cell_of_heap (heap_alloc_new wr _)]; rfl
          have k8 : wa.cell? ⟨wr.heap.size, 8, none⟩ = some (.int .i64 e.count) := by rw [hwa, Lib.cell_of_heap (heap_alloc_new wr _)]; rfl
          have k9 : wa.cell? ⟨wr.heap.size, 9, none⟩ = some (.slice sa9 sn9 sc9) := by rw [hwa, Lib.cell_of_heap (heap_alloc_new wr _)]; rfl
          have k10 : wa.cell? ⟨wr.heap.size, 10, none⟩ = some (.slice sa10 sn10 sc10) := by rw [hwa, Lib.cell_of_heap (heap_alloc_new wr _)]; rfl
          have hLa : LI w wa 67 11 (.slice oa on oc) i ((List.range (i * 11)).map kv) kv kc Bs As := by rw [hwa]; exact hLI.alloc _
          have hc4 : ∀ wx, Below wa.heap.size wa wx → Calls Try.prog 46 #[.agg #[.int .i64 e.index.kind, .int .i64 e.index.value, .slice sa4 sn4 sc4]] wx fun r w' => ∃ va vn vc B A, r = .returned (.agg #[.int .i64 e.index.kind, .int .i64 e.index.value, .slice va vn vc]) ∧ Own w' wx.heap.size (.slice va vn vc) 3 (Ex.cellsL e.index.kids) B A ∧ Below wx.heap.size wx w' ∧ Below wa.heap.size wa w' := fun wx hwx => by
            refine (ownEr _ e.index (Nat.le_refl _) wx (.slice sa4 sn4 sc4) (y4.mono (hbwa.trans (hwx.mono hbwa.size)))).mono ?_
            rintro r w' ⟨v', B, A, rfl, hO, hb'⟩
            obtain ⟨va, vn, vc, rfl⟩ := hO.tr.sl
            exact ⟨va, vn, vc, B, A, rfl, hO, hb', hwx.trans (hb'.mono hwx.size)⟩
          have hc7 : ∀ wx, Below wa.heap.size wa wx → Calls Try.prog 46 #[.agg #[.int .i64 e.value.kind, .int .i64 e.value.value, .slice sa7 sn7 sc7]] wx fun r w' => ∃ va vn vc B A, r = .returned (.agg #[.int .i64 e.value.kind, .int .i64 e.value.value, .slice va vn vc]) ∧ Own w' wx.heap.size (.slice va vn vc) 3 (Ex.cellsL e.value.kids) B A ∧ Below wx.heap.size wx w' ∧ Below wa.heap.size wa w' := fun wx hwx => by
            refine (ownEr _ e.value (Nat.le_refl _) wx (.slice sa7 sn7 sc7) (y7.mono (hbwa.trans (hwx.mono hbwa.size)))).mono ?_
            rintro r w' ⟨v', B, A, rfl, hO, hb'⟩
            obtain ⟨va, vn, vc, rfl⟩ := hO.tr.sl
            exact ⟨va, vn, vc, B, A, rfl, hO, hb', hwx.trans (hb'.mono hwx.size)⟩
          have hc9 : ∀ wx, Below wa.heap.size wa wx → Calls Try.prog 28 #[.slice sa9 sn9 sc9] wx fun r w' => ∃ va vn vc B A, r = .returned (.slice va vn vc) ∧ Own w' wx.heap.size (.slice va vn vc) 11 (St1.cellsL e.body) B A ∧ Below wx.heap.size wx w' ∧ Below wa.heap.size wa w' := fun wx hwx => by
            refine (hrec e (List.mem_of_getElem? he) _ (.inl rfl) wx (.slice sa9 sn9 sc9) (y9.mono (hbwa.trans (hwx.mono hbwa.size)))).mono ?_
            rintro r w' ⟨v', B, A, rfl, hO, hb'⟩
            obtain ⟨va, vn, vc, rfl⟩ := hO.tr.sl
            exact ⟨va, vn, vc, B, A, rfl, hO, hb', hwx.trans (hb'.mono hwx.size)⟩
          have hc10 : ∀ wx, Below wa.heap.size wa wx → Calls Try.prog 28 #[.slice sa10 sn10 sc10] wx fun r w' => ∃ va vn vc B A, r = .returned (.slice va vn vc) ∧ Own w' wx.heap.size (.slice va vn vc) 11 (St1.cellsL e.els) B A ∧ Below wx.heap.size wx w' ∧ Below wa.heap.size wa w' := fun wx hwx => by
            refine (hrec e (List.mem_of_getElem? he) _ (.inr rfl) wx (.slice sa10 sn10 sc10) (y10.mono (hbwa.trans (hwx.mono hbwa.size)))).mono ?_
            rintro r w' ⟨v', B, A, rfl, hO, hb'⟩
            obtain ⟨va, vn, vc, rfl⟩ := hO.tr.sl
            exact ⟨va, vn, vc, B, A, rfl, hO, hb', hwx.trans (hb'.mono hwx.size)⟩
          have hwl : wr.heap.size < wa.heap.size := by omega
          replace hCS := Kept.mk hCS
          have hnr : some wr.heap.size ≠ (Value.slice oa on oc).ownBlock := fun ez => by have := (hlo _ ez.symm).2; omega
          have hlto : ∀ k, (Value.slice oa on oc).ownBlock = some k → k < wa.heap.size := fun k hk => (hLa.own.lt k hk).2
          clear hy hyc y4 y7 y9 y10 hi hr hrec ihn hsz f0 f1 f2 f3 f4 f5 f6 f7 f8 f9 f10
          go_wp2
          simp only [← hwa]
          clear hwa
          have hle1 : i + 1 ≤ maxLen := by simp [maxLen]; omega
          have hle2 : (i + 1) * 152 ≤ 140737488355328 := by omega
          have hownA := hLa.own
          have hHB1 : w.heap.size ≤ wa.heap.size := hbwa.size
          have hS : ∀ w', Below wa.heap.size wa w' → w'.cell? ⟨wr.heap.size, 0, none⟩ = some (.int .i64 e.kind) ∧ w'.cell? ⟨wr.heap.size, 1, none⟩ = some (.int .i64 e.target) ∧ w'.cell? ⟨wr.heap.size, 2, none⟩ = some (.int .i64 e.index.kind) ∧ w'.cell? ⟨wr.heap.size, 3, none⟩ = some (.int .i64 e.index.value) ∧ w'.cell? ⟨wr.heap.size, 4, none⟩ = some (.slice sa4 sn4 sc4) ∧ w'.cell? ⟨wr.heap.size, 5, none⟩ = some (.int .i64 e.value.kind) ∧ w'.cell? ⟨wr.heap.size, 6, none⟩ = some (.int .i64 e.value.value) ∧ w'.cell? ⟨wr.heap.size, 7, none⟩ = some (.slice sa7 sn7 sc7) ∧ w'.cell? ⟨wr.heap.size, 8, none⟩ = some (.int .i64 e.count) ∧ w'.cell? ⟨wr.heap.size, 9, none⟩ = some (.slice sa9 sn9 sc9) ∧ w'.cell? ⟨wr.heap.size, 10, none⟩ = some (.slice sa10 sn10 sc10) := fun w' hb => ⟨(hb.cell hwl).trans k0, (hb.cell hwl).trans k1, (hb.cell hwl).trans k2, (hb.cell hwl).trans k3, (hb.cell hwl).trans k4, (hb.cell hwl).trans k5, (hb.cell hwl).trans k6, (hb.cell hwl).trans k7, (hb.cell hwl).trans k8, (hb.cell hwl).trans k9, (hb.cell hwl).trans k10⟩
          go_region_held3 (fun w' => w'.cell? ⟨wr.heap.size, 0, none⟩ = some (.int .i64 e.kind) ∧ w'.cell? ⟨wr.heap.size, 1, none⟩ = some (.int .i64 e.target) ∧ w'.cell? ⟨wr.heap.size, 2, none⟩ = some (.int .i64 e.index.kind) ∧ w'.cell? ⟨wr.heap.size, 3, none⟩ = some (.int .i64 e.index.value) ∧ w'.cell? ⟨wr.heap.size, 4, none⟩ = some (.slice sa4 sn4 sc4) ∧ w'.cell? ⟨wr.heap.size, 5, none⟩ = some (.int .i64 e.value.kind) ∧ w'.cell? ⟨wr.heap.size, 6, none⟩ = some (.int .i64 e.value.value) ∧ w'.cell? ⟨wr.heap.size, 7, none⟩ = some (.slice sa7 sn7 sc7) ∧ w'.cell? ⟨wr.heap.size, 8, none⟩ = some (.int .i64 e.count) ∧ w'.cell? ⟨wr.heap.size, 9, none⟩ = some (.slice sa9 sn9 sc9) ∧ w'.cell? ⟨wr.heap.size, 10, none⟩ = some (.slice sa10 sn10 sc10))
            (first
              | exact ⟨k0, k1, k2, k3, k4, k5, k6, k7, k8, k9, k10⟩
              | exact hS _ hbn
              | exact hS _ (hbn.alloc hbn.size _)
              | exact hsf)
            (first
              | (go_at_call_of 46 (Value.agg #[.int .i64 e.index.kind, .int .i64 e.index.value, .slice sa4 sn4 sc4]); refine (hc4 _ ((Below.refl _ _).drew)).mono ?_; rintro r w2 ⟨sra4, srn4, src4, B4, A4, rfl, hO4, hbs4, hbn⟩)
              | (go_at_call_of 46 (Value.agg #[.int .i64 e.value.kind, .int .i64 e.value.value, .slice sa7 sn7 sc7]); refine (hc7 _ (hbn)).mono ?_; rintro r w3 ⟨sra7, srn7, src7, B7, A7, rfl, hO7, hbs7, hbn⟩)
              | (go_at_call_of 28 (Value.slice sa9 sn9 sc9); refine (hc9 _ (hbn)).mono ?_; rintro r w4 ⟨sra9, srn9, src9, B9, A9, rfl, hO9, hbs9, hbn⟩)
              | (go_at_call_of 28 (Value.slice sa10 sn10 sc10); refine (hc10 _ (hbn)).mono ?_; rintro r w5 ⟨sra10, srn10, src10, B10, A10, rfl, hO10, hbs10, hbn⟩)
              | (refine step_append_lies _ (by rfl) _ _ _ (by rfl) w.heap.size 67 i0 _ 11 152 Try.underlying28 hii hI0 hI1 hI2 rfl (by omega) (.slice oa on oc) i _ (by rfl) ((hownA.below hbn).alloc _) ⟨w5.heap.size, 0, none⟩ 1 1 [.int .i64 e.kind, .int .i64 e.target, .int .i64 e.index.kind, .int .i64 e.index.value, .slice sra4 srn4 src4, .int .i64 e.value.kind, .int .i64 e.value.value, .slice sra7 srn7 src7, .int .i64 e.count, .slice sra9 srn9 src9, .slice sra10 srn10 src10] (by rfl) (by rfl) (World.news_of_block (cs := #[.int .i64 e.kind, .int .i64 e.target, .int .i64 e.index.kind, .int .i64 e.index.value, .slice sra4 srn4 src4, .int .i64 e.value.kind, .int .i64 e.value.value, .slice sra7 srn7 src7, .int .i64 e.count, .slice sra9 srn9 src9, .slice sra10 srn10 src10]) (t := 67) (fr := (0, 0)) (heap_alloc_new _ _)) (by simp [Value.oneCell']) (by omega) hle1 hle2 (Nat.le_trans hHB1 (hbn.alloc hbn.size _).size) (w5.heap.size + 1) (by simp) ?_; intro g gc w1 hown1 hgrow hat hlt'
                 have hsf := (fun (t : Nat) => (hgrow.cell_far ⟨wr.heap.size, t, none⟩ (Nat.lt_of_lt_of_le hwl (hbn.alloc hbn.size _).size) hnr).trans ((hbn.alloc hbn.size _).cell hwl))
                 replace hsf := And.intro ((hsf 0).trans k0) (And.intro ((hsf 1).trans k1) (And.intro ((hsf 2).trans k2) (And.intro ((hsf 3).trans k3) (And.intro ((hsf 4).trans k4) (And.intro ((hsf 5).trans k5) (And.intro ((hsf 6).trans k6) (And.intro ((hsf 7).trans k7) (And.intro ((hsf 8).trans k8) (And.intro ((hsf 9).trans k9) ((hsf 10).trans k10))))))))))))
          have z1 : wa.heap.size ≤ w2.heap.size := hbs4.size
          have z2 := hbs7.size
          have z3 := hbs9.size
          have z4 := hbs10.size
          have z5 : Below w5.heap.size w5 (w5.alloc (.cells #[.int .i64 e.kind, .int .i64 e.target, .int .i64 e.index.kind, .int .i64 e.index.value, .slice sra4 srn4 src4, .int .i64 e.value.kind, .int .i64 e.value.value, .slice sra7 srn7 src7, .int .i64 e.count, .slice sra9 srn9 src9, .slice sra10 srn10 src10] 67)) := (Below.refl _ _).alloc (Nat.le_refl _) _
          have O4 := ((((hO4.below hbs7).below hbs9).below hbs10).below z5).low (lo' := wa.heap.size) (Nat.le_refl _)
          have O7 := (((hO7.below hbs9).below hbs10).below z5).low (lo' := wa.heap.size) z1
          have O9 := ((hO9.below hbs10).below z5).low (lo' := wa.heap.size) (by omega)
          have O10 := (hO10.below z5).low (lo' := wa.heap.size) (by omega)
          have R : ∀ t b, b ∈ at4 B4 B7 B9 B10 t → (t = 4 ∧ b < w2.heap.size) ∨ (t = 7 ∧ w2.heap.size ≤ b ∧ b < w3.heap.size) ∨ (t = 9 ∧ w3.heap.size ≤ b ∧ b < w4.heap.size) ∨ (t = 10 ∧ w4.heap.size ≤ b) := fun t b hb => by
            rcases at4_mem hb with ⟨e, h⟩ | ⟨e, h⟩ | ⟨e, h⟩ | ⟨e, h⟩
            · exact .inl ⟨e, (hO4.lo b h).2⟩
            · exact .inr (.inl ⟨e, hO7.lo b h⟩)
            · exact .inr (.inr (.inl ⟨e, hO9.lo b h⟩))
            · exact .inr (.inr (.inr ⟨e, (hO10.lo b h).1⟩))
          have hst := hLa.step (fun t => [.int .i64 e.kind, .int .i64 e.target, .int .i64 e.index.kind, .int .i64 e.index.value, .slice sra4 srn4 src4, .int .i64 e.value.kind, .int .i64 e.value.value, .slice sra7 srn7 src7, .int .i64 e.count, .slice sra9 srn9 src9, .slice sra10 srn10 src10].getD t undef) (kc4 e) (at4 B4 B7 B9 B10) (at4 A4 A7 A9 A10)
            (hbn.alloc hbn.size _) hown1 hgrow hlto (fun g' hg' => by
              simp only [Value.ownBlock, Option.some.injEq] at hg' ⊢
              subst hg'
              rcases hat with q | q
              · exact .inl q.symm
              · right; simp; omega) (fun t ht hk => by
              rcases kc4_ne hk with rfl | rfl | rfl | rfl
              · exact O4
              · exact O7
              · exact O9
              · exact O10) (fun t ht => kc4_emp _ _ _ _ ht) (fun t t' ht ht' hne b hb hb' => by
              have h1 := R t b hb
              have h2 := R t' b hb'
              omega)
          have hcs := CS.step hszx hCS.h hx (nv := fun t => [.int .i64 e.kind, .int .i64 e.target, .int .i64 e.index.kind, .int .i64 e.index.value, .slice sra4 srn4 src4, .int .i64 e.value.kind, .int .i64 e.value.value, .slice sra7 srn7 src7, .int .i64 e.count, .slice sra9 srn9 src9, .slice sra10 srn10 src10].getD t undef) (nc := kc4 e) (fun t c hc => by
            rw [st11] at hc
            match t with
            | 0 => simp at hc; subst hc; exact .inl ⟨_, rfl, rfl, rfl⟩
            | 1 => simp at hc; subst hc; exact .inl ⟨_, rfl, rfl, rfl⟩
            | 2 => simp at hc; subst hc; exact .inl ⟨_, rfl, rfl, rfl⟩
            | 3 => simp at hc; subst hc; exact .inl ⟨_, rfl, rfl, rfl⟩
            | 4 => simp at hc; subst hc; exact .inr ⟨_, _, rfl, rfl, by simp⟩
            | 5 => simp at hc; subst hc; exact .inl ⟨_, rfl, rfl, rfl⟩
            | 6 => simp at hc; subst hc; exact .inl ⟨_, rfl, rfl, rfl⟩
            | 7 => simp at hc; subst hc; exact .inr ⟨_, _, rfl, rfl, by simp⟩
            | 8 => simp at hc; subst hc; exact .inl ⟨_, rfl, rfl, rfl⟩
            | 9 => simp at hc; subst hc; exact .inr ⟨_, _, rfl, rfl, by simp⟩
            | 10 => simp at hc; subst hc; exact .inr ⟨_, _, rfl, rfl, by simp⟩
            | t + 11 => simp at hc)
          go_wp2
          exact ⟨⟨i + 1, _, _, _, _, _, _, _, hlt, by go_num, rfl, hst, hcs⟩, by simp [intOf]; omega⟩
        · have : i = es.length := by omega
          subst this
          rw [← hlen, List.take_length] at hCS
          rw [← hlen] at hLI
          obtain ⟨B, A, hown⟩ := hLI.fin hszx hCS (by unfold mx; omega)
          replace hCS := Kept.mk hCS
          clear hy hel hi hr hrec
          go_wp2
          go_ret
          exact ⟨_, B, A, rfl, hown, hbw⟩
end Go.Proofs.Ytlapccpnilomfaa.CtT
