/- Contracts of functions of the program, one behind the other, as plain data: what each call returns and which blocks it leaves. -/
import Derived.Deep.AppendLies
import Derived.Deep.RegionHeld3
import Derived.Deep.RegionLaw
import Derived.Test.YtlapccpnilomfaaJAk
set_option linter.unusedVariables false
set_option linter.unusedSimpArgs false
set_option linter.unusedSectionVars false
set_option maxHeartbeats 16000000
set_option maxRecDepth 100000
namespace Go.Proofs.Ytlapccpnilomfaa.CtT
open Go Go.CT Go.RowKit

theorem PL.sl {w : World} {v : Value} {sz : Nat} {xs : List (List C)} (h : PL w v sz xs) : ∃ a n c, v = .slice a n c := by cases h <;> exact ⟨_, _, _, rfl⟩
theorem TR.sl {w : World} {v : Value} {sz : Nat} {xs : List (List C)} {B : List Nat} {A : List Addr} (h : TR w v sz xs B A) : ∃ a n c, v = .slice a n c := by cases h <;> exact ⟨_, _, _, rfl⟩
theorem row_sl {w : World} {base : Nat} {e : TypeId} {sz : Nat} {v : Value} {n : Nat} {xs : List Value} (h : w.ownsRow base e sz v n xs) : ∃ a n c, v = .slice a n c := by
  rcases h.2 with ⟨rfl, _⟩ | ⟨g, cap, cur, rfl, _⟩ <;> exact ⟨_, _, _, rfl⟩
theorem three1 (w : World) (a b c : Obj) : (((w.alloc a).alloc b).alloc c).heap[w.heap.size + 1]? = some b := by
  rw [heap_alloc_old _ _ (by simp), show w.heap.size + 1 = (w.alloc a).heap.size by simp, heap_alloc_new]
theorem three2 (w : World) (a b c : Obj) : (((w.alloc a).alloc b).alloc c).heap[w.heap.size + 1 + 1]? = some c := by
  rw [show w.heap.size + 1 + 1 = ((w.alloc a).alloc b).heap.size by simp, heap_alloc_new]
theorem _root_.Go.World.ownsRow.below {w w' : World} {base : Nat} {e : TypeId} {sz : Nat} {v : Value} {n : Nat} {xs : List Value} (h : w.ownsRow base e sz v n xs) (hb : Below w.heap.size w w') : w'.ownsRow base e sz v n xs :=
  h.kept (row := none) ⟨hb.os, hb.tape, hb.output, hb.size, fun k hk _ => hb.block k hk⟩ (by cases v.ownBlock <;> simp)
theorem set_far (w : World) {a c : Addr} (v : Value) (h : c.block ≠ a.block) : (w.setCell a v).cell? c = w.cell? c := World.cell?_of_block (set_other w a v h)
theorem LI.set {w wr : World} {T : TypeId} {sz : Nat} {ov : Value} {i : Nat} {cs : List Value} {kv : Nat → Value} {kc : Nat → Nat × List (List C)} {Bs : Nat → List Nat} {As : Nat → List Addr}
    (h : LI w wr T sz ov i cs kv kc Bs As) {a : Addr} (ha : a.block < w.heap.size) (v : Value) : LI (w.setCell a v) (wr.setCell a v) T sz ov i cs kv kc Bs As := by
  have hs : ∀ u : World, (u.setCell a v).heap.size = u.heap.size := fun u => by simp [World.setCell]
  refine ⟨⟨h.bl.os, h.bl.tape, h.bl.output, by rw [hs, hs]; exact h.bl.size, fun k hk => ?_⟩, by rw [hs]; exact ownsRow_setCell_below h.own ha v, fun j hj hk => ?_, h.emp, h.sep, h.ovb⟩
  · rw [hs] at hk
    by_cases e : k = a.block
    · subst e
      simp [World.setCell, Array.getElem?_modify, h.bl.block _ hk]
    · rw [set_other _ _ _ e, set_other _ _ _ e, h.bl.block k hk]
  · have := h.kid j hj hk
    rw [hs]
    refine this.keep (by rw [hs]; exact Nat.le_refl _) fun b hb => set_other _ _ _ fun e => ?_
    have := (this.lo b hb).1
    omega
theorem LI.alloc {w wr : World} {T : TypeId} {sz : Nat} {ov : Value} {i : Nat} {cs : List Value} {kv : Nat → Value} {kc : Nat → Nat × List (List C)} {Bs : Nat → List Nat} {As : Nat → List Addr}
    (h : LI w wr T sz ov i cs kv kc Bs As) (o : Obj) : LI w (wr.alloc o) T sz ov i cs kv kc Bs As :=
  ⟨h.bl.alloc h.bl.size o, h.own.alloc o, fun j hj hk => (h.kid j hj hk).keep (by simp) fun b hb => heap_alloc_old _ _ ((h.kid j hj hk).lo b hb).2, h.emp, h.sep, h.ovb⟩
theorem ownEr : ∀ (n : Nat) (e : Ex), SizeOf.sizeOf e ≤ n → ∀ (w : World) (sv : Value), PL w sv 3 (Ex.cellsL e.kids) →
    Calls Try.prog 46 #[.agg #[.int .i64 e.kind, .int .i64 e.value, sv]] w fun r w' => ∃ v' B A, r = .returned (.agg #[.int .i64 e.kind, .int .i64 e.value, v']) ∧ Own w' w.heap.size v' 3 (Ex.cellsL e.kids) B A ∧ Below w.heap.size w w' := by
  intro n
  induction n with
  | zero => intro e h; cases e; simp at h
  | succ n ihn =>
    intro e hsz w sv hpl
    obtain ⟨k, vl, kids⟩ := e
    have hrec : ∀ x ∈ kids, ∀ (w : World) (sv : Value), PL w sv 3 (Ex.cellsL x.kids) → Calls Try.prog 46 #[.agg #[.int .i64 x.kind, .int .i64 x.value, sv]] w fun r w' => ∃ v' B A, r = .returned (.agg #[.int .i64 x.kind, .int .i64 x.value, v']) ∧ Own w' w.heap.size v' 3 (Ex.cellsL x.kids) B A ∧ Below w.heap.size w w' := fun x hx => ihn x (by
      have := List.sizeOf_lt_of_mem hx
      simp at hsz; omega)
    simp only [Ex.kind, Ex.value, Ex.kids] at hpl ⊢
    obtain ⟨i0, hii, hI0, hI1, hI2⟩ := exInfo
    generalize hxs : Ex.cellsL kids = xs at hpl
    cases hpl with
    | nil a cap sz =>
      have hkn : kids = [] := by cases kids with
        | nil => rfl
        | cons c r => simp [Ex.cellsL] at hxs
      subst hkn
      go_enter Try.func46, Try.ntmps46
      go_wp2
      refine wp_loop_rounds 1 ?_
      rw [rounds_succ]
      go_wp2
      try simp only [Exit.inBlock, Exit.then]
      refine bodyPost_ret (results_cell_row (ty := 65) rfl _ _ (w.heap.size + 1) 65 #[.int .i64 k, .int .i64 vl, .slice none 0 0] (0, 0) _ rfl (three1 w _ _ _) Try.underlying65 rfl (by rw [hii]; simp [hI1])) rfl ?_
      exact ⟨_, [], [], rfl, ⟨.nil _ _ _, List.nodup_nil, fun b hb => by simp at hb⟩, ((((Below.refl _ _).alloc (Nat.le_refl _) _).alloc (by simp) _).alloc (by simp; omega) _)⟩
    | row b off cap sz xs y hbs hy hszx hi hr hl =>
      have hlen : xs.length = kids.length := by rw [← hxs, exL_len]
      have hel : ∀ (i : Nat) (e : Ex), kids[i]? = some e → xs[i]? = some e.cells := fun i e he => by rw [← hxs]; exact exL_at he
      have hkl : kids.length ≤ 1048576 := by rw [← hlen]; exact hl.2
      simp only [hlen] at hy ⊢
      go_enter Try.func46, Try.ntmps46
      go_wp2
      obtain ⟨W3, hW3⟩ : ∃ x, x = (((w.alloc (.cells #[.int .i64 k, .int .i64 vl, .slice (some ⟨b, off, none⟩) kids.length cap] 65)).alloc (.cells #[.int .i64 0, .int .i64 0, .slice none 0 0] 65)).alloc (.cells #[.int .i64 k, .int .i64 vl, .slice none 0 0] 65)) := ⟨_, rfl⟩
      rw [← hW3]
      have hB3 : Below w.heap.size w W3 := by rw [hW3]; exact (((Below.refl _ _).alloc (Nat.le_refl _) _).alloc (by simp) _).alloc (by simp; omega) _
      have hs3 : W3.heap.size = w.heap.size + 1 + 1 + 1 := by rw [hW3]; simp
      have hz1 : W3.heap[w.heap.size + 1]? = some (.cells #[.int .i64 0, .int .i64 0, .slice none 0 0] 65 (0, 0)) := by rw [hW3]; exact three1 w _ _ _
      have hz2 : W3.heap[w.heap.size + 1 + 1]? = some (.cells #[.int .i64 k, .int .i64 vl, .slice none 0 0] 65 (0, 0)) := by rw [hW3]; exact three2 w _ _ _
      clear hW3
      go_loopw [14] (fun iv wv => ∃ (W : World) (i : Nat) (ov : Value) (kv : Nat → Value) (kc : Nat → Nat × List (List C)) (Bs : Nat → List Nat) (As : Nat → List Addr), W.heap.size = w.heap.size + 1 + 1 + 1 ∧ Below w.heap.size w W ∧ i ≤ kids.length ∧ iv = .int .i64 i ∧ LI W wv 65 3 ov i ((List.range (i * 3)).map kv) kv kc Bs As ∧ (∀ j c, (xs.take i).flatten[j]? = some c → CS c (kv j) (kc j)) ∧
        wv.heap[w.heap.size + 1]? = some (.cells #[.int .i64 0, .int .i64 0, .slice none 0 0] 65 (0, 0)) ∧ wv.heap[w.heap.size + 1 + 1]? = some (.cells #[.int .i64 k, .int .i64 vl, ov] 65 (0, 0))) (fun iv _ => kids.length - (intOf iv).toNat)
      case atStart => exact ⟨W3, 0, .slice none 0 0, fun _ => undef, fun _ => (0, []), fun _ => [], fun _ => [], hs3, hB3, Nat.zero_le _, rfl, ⟨Below.refl _ _, World.ownsRow_nil _ _ _ _, fun j hj => by omega, fun _ _ => rfl, fun j j' hj => by omega, fun j hj => by omega⟩, fun j c hj => by simp at hj, hz1, hz2⟩
      case round =>
        obtain ⟨W, i, ov, kv, kc, Bs, As, hsW, hBW, hi', rfl, hLI, hCS, hr1, hr2⟩ := hrel
        have hbw := hBW.trans (hLI.bl.mono hBW.size)
        have hws := hLI.bl.size
        have hlo := hLI.own.lt
        by_cases hlt : i < kids.length
        · obtain ⟨e, he⟩ : ∃ e, kids[i]? = some e := ⟨kids[i], by simp [hlt]⟩
          have hx := hel i e he
          have f0 := flat_at hszx i 0 _ hx (by omega)
          have f1 := flat_at hszx i 1 _ hx (by omega)
          have f2 := flat_at hszx i 2 _ hx (by omega)
          rw [ex3] at f0 f1 f2
          have y0 := hi _ _ f0
          have y1 := hi _ _ f1
          have y2 := hr _ _ _ f2
          have c0 : wr.cell? ⟨b, off + i * 3, none⟩ = some (.int .i64 e.kind) := by rw [hbw.cell (by exact hbs)]; have := hy (i * 3 + 0) (by omega); rw [y0] at this; exact this
          have c1 : wr.cell? ⟨b, off + i * 3 + 1, none⟩ = some (.int .i64 e.value) := by rw [hbw.cell (by exact hbs), Nat.add_assoc]; have := hy (i * 3 + 1) (by omega); rw [y1] at this; exact this
          have c2 : wr.cell? ⟨b, off + i * 3 + 2, none⟩ = some (y (i * 3 + 2)) := by rw [hbw.cell (by exact hbs), Nat.add_assoc]; exact hy (i * 3 + 2) (by omega)
          generalize y (i * 3 + 2) = ky at *
          obtain ⟨sa, sn, sc, rfl⟩ := y2.sl
          obtain ⟨wa, hwa⟩ : ∃ x, x = wr.alloc (.cells #[.int .i64 e.kind, .int .i64 e.value, .slice sa sn sc] 65) := ⟨_, rfl⟩
          have hbwa : Below w.heap.size w wa := by rw [hwa]; exact hbw.alloc hbw.size _
          have hwrwa : Below wr.heap.size wr wa := by rw [hwa]; exact (Below.refl _ _).alloc (Nat.le_refl _) _
          have hsa : wa.heap.size = wr.heap.size + 1 := by rw [hwa]; simp
          have k0 : wa.cell? ⟨wr.heap.size, 0, none⟩ = some (.int .i64 e.kind) := by rw [hwa, Lib.cell_of_heap (heap_alloc_new wr _)]; rfl
          have k1 : wa.cell? ⟨wr.heap.size, 1, none⟩ = some (.int .i64 e.value) := by rw [hwa, Lib.cell_of_heap (heap_alloc_new wr _)]; rfl
          have k2 : wa.cell? ⟨wr.heap.size, 2, none⟩ = some (.slice sa sn sc) := by rw [hwa, Lib.cell_of_heap (heap_alloc_new wr _)]; rfl
          have q1 : wa.heap[w.heap.size + 1]? = some (.cells #[.int .i64 0, .int .i64 0, .slice none 0 0] 65 (0, 0)) := by rw [hwrwa.block _ (by omega)]; exact hr1
          have q2 : wa.heap[w.heap.size + 1 + 1]? = some (.cells #[.int .i64 k, .int .i64 vl, ov] 65 (0, 0)) := by rw [hwrwa.block _ (by omega)]; exact hr2
          have hLa : LI W wa 65 3 ov i ((List.range (i * 3)).map kv) kv kc Bs As := by rw [hwa]; exact hLI.alloc _
          have hcall : ∀ wx, Below wa.heap.size wa wx → Calls Try.prog 46 #[.agg #[.int .i64 e.kind, .int .i64 e.value, .slice sa sn sc]] wx fun r w' => ∃ va vn vc B A, r = .returned (.agg #[.int .i64 e.kind, .int .i64 e.value, .slice va vn vc]) ∧ Own w' wa.heap.size (.slice va vn vc) 3 (Ex.cellsL e.kids) B A ∧ Below wa.heap.size wa w' := fun wx hwx => by
            refine (hrec e (List.mem_of_getElem? he) wx (.slice sa sn sc) (y2.mono (hbwa.trans (hwx.mono hbwa.size)))).mono ?_
            rintro r w' ⟨v', B, A, rfl, hO, hb'⟩
            obtain ⟨va, vn, vc, rfl⟩ := hO.tr.sl
            exact ⟨va, vn, vc, B, A, rfl, hO.low hwx.size, hwx.trans (hb'.mono hwx.size)⟩
          have hwl : wr.heap.size < wa.heap.size := by omega
          obtain ⟨oa, on, oc, rfl⟩ := row_sl hLI.own
          replace hCS := Kept.mk hCS
          have hne : ∀ z, z < w.heap.size + 1 + 1 + 1 → some z ≠ (Value.slice oa on oc).ownBlock := fun z hz ez => by have := (hlo z ez.symm).1; omega
          clear hB3 hy y2 hi hr hrec ihn hsz
          go_wp2
          simp only [← hwa]
          clear hwa
          have o2 : wa.cell? ⟨w.heap.size + 1 + 1, 2, none⟩ = some (.slice oa on oc) := by rw [Lib.cell_of_heap q2]; rfl
          have hle1 : i + 1 ≤ maxLen := by simp [maxLen]; omega
          have hle2 : (i + 1) * 40 ≤ 140737488355328 := by omega
          obtain ⟨HB, hHB⟩ : ∃ x, x = w.heap.size + 1 + 1 + 1 := ⟨_, rfl⟩
          have hHB1 : HB ≤ wa.heap.size := by omega
          have hownA : wa.ownsRow HB 65 3 (.slice oa on oc) i ((List.range (i * 3)).map kv) := by rw [hHB, ← hsW]; exact hLa.own
          have hlto : ∀ k, (Value.slice oa on oc).ownBlock = some k → k < wa.heap.size := fun k hk => (hownA.lt k hk).2
          have hn1 : w.heap.size + 1 < wa.heap.size := by omega
          have hn2 : w.heap.size + 1 + 1 < wa.heap.size := by omega
          have hwne : wr.heap.size ≠ w.heap.size + 1 + 1 := by omega
          have hnr : some wr.heap.size ≠ (Value.slice oa on oc).ownBlock := fun ez => by have := (hlo _ ez.symm).2; omega
          go_region_law
            (first
              | (refine step_append_lies _ (by rfl) _ _ _ (by rfl) HB 65 i0 _ 3 40 Try.underlying63 hii hI0 hI1 hI2 rfl (by omega) (.slice oa on oc) i _ (by rfl) ((hownA.below hb2).alloc _) ⟨w2.heap.size, 0, none⟩ 1 1 [.int .i64 e.kind, .int .i64 e.value, .slice va vn vc] (by rfl) (by rfl) (World.news_of_block (cs := #[.int .i64 e.kind, .int .i64 e.value, .slice va vn vc]) (t := 65) (fr := (0, 0)) (heap_alloc_new _ _)) (by simp [Value.oneCell']) (by omega) hle1 hle2 (Nat.le_trans hHB1 (hb2.alloc hb2.size _).size) (w2.heap.size + 1) (by simp) ?_; intro g gc w1 hown1 hgrow hat hlt'
                 have e1 : w1.heap[w.heap.size + 1]? = some (.cells #[.int .i64 0, .int .i64 0, .slice none 0 0] 65 (0, 0)) := (hgrow.block _ (Nat.lt_of_lt_of_le hn1 (hb2.alloc hb2.size _).size) (hne _ (by omega))).trans (((hb2.alloc hb2.size _).block _ hn1).trans q1)
                 have e3 : w1.heap[w.heap.size + 1 + 1]? = some (.cells #[.int .i64 k, .int .i64 vl, .slice oa on oc] 65 (0, 0)) := (hgrow.block _ (Nat.lt_of_lt_of_le hn2 (hb2.alloc hb2.size _).size) (hne _ (by omega))).trans (((hb2.alloc hb2.size _).block _ hn2).trans q2)
                 have o3 : w1.cell? ⟨w.heap.size + 1 + 1, 2, none⟩ = some (.slice oa on oc) := by rw [Lib.cell_of_heap e3]; rfl
                 have z3 : w1.frozen? ⟨w.heap.size + 1 + 1, 2, none⟩ = false := Lib.frozen_of_heap e3 2
                 have s0 := (hgrow.cell_far _ (Nat.lt_of_lt_of_le hwl (hb2.alloc hb2.size _).size) hnr).trans (((hb2.alloc hb2.size _).cell hwl).trans k0)
                 have s1 := (hgrow.cell_far _ (Nat.lt_of_lt_of_le hwl (hb2.alloc hb2.size _).size) hnr).trans (((hb2.alloc hb2.size _).cell hwl).trans k1)
                 have s2 := (hgrow.cell_far _ (Nat.lt_of_lt_of_le hwl (hb2.alloc hb2.size _).size) hnr).trans (((hb2.alloc hb2.size _).cell hwl).trans k2))
              | (go_simp; go_at_call 46; refine (hcall _ (Below.refl _ _).drew).mono ?_; rintro r w2 ⟨va, vn, vc, B, A, rfl, hO, hb2⟩; have o2' := (hb2.cell (p := ⟨w.heap.size + 1 + 1, 2, none⟩) hn2).trans o2; have o2a : ∀ o, (w2.alloc o).cell? ⟨w.heap.size + 1 + 1, 2, none⟩ = some (.slice oa on oc) := fun o => ((hb2.alloc hb2.size o).cell hn2).trans o2; dsimp only))
          all_goals
            subst hHB
            have hst := hLa.step (fun t => [Value.int .i64 e.kind, Value.int .i64 e.value, Value.slice va vn vc].getD t undef) (fun t => if t = 2 then (3, Ex.cellsL e.kids) else (0, [])) (fun t => if t = 2 then B else []) (fun t => if t = 2 then A else [])
              (hb2.alloc hb2.size _) (hsW ▸ hown1) hgrow hlto (fun g' hg' => by
                simp only [Value.ownBlock, Option.some.injEq] at hg' ⊢
                subst hg'
                rcases hat with q | q
                · exact .inl q.symm
                · right; simp; omega) (fun t ht hk => by
                by_cases e2 : t = 2
                · subst e2
                  exact hO.keep (by simp) fun b hb => heap_alloc_old _ _ (hO.lo b hb).2
                · simp [e2] at hk) (fun t ht => by
                by_cases e2 : t = 2
                · subst e2; simp at ht
                · simp [e2]) (fun t t' ht ht' hne b hb hb' => by
                by_cases e2 : t = 2
                · subst e2
                  have : t' ≠ 2 := fun q => hne q.symm
                  simp [this] at hb'
                · simp [e2] at hb)
            have hcs := CS.step hszx hCS.h hx (nv := fun t => [Value.int .i64 e.kind, Value.int .i64 e.value, Value.slice va vn vc].getD t undef) (nc := fun t => if t = 2 then (3, Ex.cellsL e.kids) else (0, [])) (fun t c hc => by
              rw [ex3] at hc
              match t with
              | 0 => simp at hc; subst hc; exact .inl ⟨_, rfl, rfl, rfl⟩
              | 1 => simp at hc; subst hc; exact .inl ⟨_, rfl, rfl, rfl⟩
              | 2 => simp at hc; subst hc; exact .inr ⟨_, _, rfl, rfl, by simp⟩
              | t + 3 => simp at hc)
            go_wp2
            exact ⟨⟨W.setCell ⟨w.heap.size + 1 + 1, 2, none⟩ (.slice (some ⟨g, 0, none⟩) (i + 1) gc), i + 1, _, _, _, _, _, by simpa [World.setCell] using hsW, hBW.setCell (by simp; omega) _, hlt, by go_num, hst.set (by simp; omega) _, hcs, (set_other _ _ _ (by simp)).trans e1, by rw [set_same (a := ⟨w.heap.size + 1 + 1, 2, none⟩) rfl e3]; simp⟩, by simp [intOf]; omega⟩
        · have : i = kids.length := by omega
          subst this
          rw [← hlen, List.take_length] at hCS
          rw [← hlen] at hLI
          obtain ⟨B, A, hown⟩ := hLI.fin hszx hCS (by unfold mx; omega)
          have o0 : wr.cell? ⟨w.heap.size + 1 + 1, 0, none⟩ = some (.int .i64 k) := by rw [Lib.cell_of_heap hr2]; rfl
          have o1 : wr.cell? ⟨w.heap.size + 1 + 1, 1, none⟩ = some (.int .i64 vl) := by rw [Lib.cell_of_heap hr2]; rfl
          have o2 : wr.cell? ⟨w.heap.size + 1 + 1, 2, none⟩ = some ov := by rw [Lib.cell_of_heap hr2]; rfl
          have d0 : wr.cell? ⟨w.heap.size + 1, 0, none⟩ = some (.int .i64 0) := by rw [Lib.cell_of_heap hr1]; rfl
          have d1 : wr.cell? ⟨w.heap.size + 1, 1, none⟩ = some (.int .i64 0) := by rw [Lib.cell_of_heap hr1]; rfl
          have d2 : wr.cell? ⟨w.heap.size + 1, 2, none⟩ = some (.slice none 0 0) := by rw [Lib.cell_of_heap hr1]; rfl
          have g0 : wr.frozen? ⟨w.heap.size + 1, 0, none⟩ = false := Lib.frozen_of_heap hr1 0
          have g1 : wr.frozen? ⟨w.heap.size + 1, 1, none⟩ = false := Lib.frozen_of_heap hr1 1
          have g2 : wr.frozen? ⟨w.heap.size + 1, 2, none⟩ = false := Lib.frozen_of_heap hr1 2
          obtain ⟨oa, on, oc, rfl⟩ := row_sl hLI.own
          replace hCS := Kept.mk hCS
          clear hy hel hi hr hrec
          go_wp2
          have hwf : ((((wr.setCell ⟨w.heap.size + 1, 0, none⟩ (.int .i64 k)).setCell ⟨w.heap.size + 1, 1, none⟩ (.int .i64 vl)).setCell ⟨w.heap.size + 1, 2, none⟩ (.slice oa on oc)).heap[w.heap.size + 1]? = some (.cells #[.int .i64 k, .int .i64 vl, .slice oa on oc] 65 (0, 0))) := by
            rw [set_same (a := ⟨w.heap.size + 1, 2, none⟩) rfl (set_same (a := ⟨w.heap.size + 1, 1, none⟩) rfl (set_same (a := ⟨w.heap.size + 1, 0, none⟩) rfl hr1 _) _)]
            simp
          refine bodyPost_ret (results_cell_row (ty := 65) rfl _ _ (w.heap.size + 1) 65 #[.int .i64 k, .int .i64 vl, .slice oa on oc] (0, 0) _ rfl hwf Try.underlying65 rfl (by rw [hii]; simp [hI1])) rfl ?_
          exact ⟨_, B, A, rfl, (hown.keep (by simp [World.setCell]) fun b hb => by
              have := (hown.lo b hb).1
              rw [set_other _ _ _ (by simp; omega), set_other _ _ _ (by simp; omega), set_other _ _ _ (by simp; omega)]).low (by omega), ((hbw.setCell (by simp) _).setCell (by simp) _).setCell (by simp) _⟩
end Go.Proofs.Ytlapccpnilomfaa.CtT
