/- Contracts of functions of the program, one behind the other, as plain data: what each call returns and which blocks it leaves. -/
import Derived.Test.YtlapccpnilomfaaJBf
set_option linter.unusedVariables false
set_option linter.unusedSimpArgs false
set_option linter.unusedSectionVars false
set_option maxHeartbeats 16000000
set_option maxRecDepth 100000
namespace Go.Proofs.Ytlapccpnilomfaa.CtT
open Go Go.CT Go.RowKit

abbrev BL (l : List Bool) : List (List C) := l.map fun b => [C.v (.bool b)]
theorem box3 {w : World} {b : Nat} {x0 x1 x2 : Value} (h : w.heap[b]? = some (.cells #[x0, x1, x2] 30 (0, 0))) : w.cell? ⟨b, 0, none⟩ = some x0 ∧ w.cell? ⟨b, 1, none⟩ = some x1 ∧ w.cell? ⟨b, 2, none⟩ = some x2 :=
  ⟨Lib.cell_of_heap h 0, Lib.cell_of_heap h 1, Lib.cell_of_heap h 2⟩
theorem NB.ofTR {w : World} {v : Value} {sz : Nat} {xs : List (List C)} {B : List Nat} {A : List Addr} (h : TR w v sz xs B A) : NB sz xs → PL w v sz xs := by
  induction h with
  | nil a cap sz => exact fun _ => .nil a cap sz
  | row b cap sz xs y Bs As arr ty hb hsz hy hc hi hr hl hcap ih =>
    intro hn
    have hbl : b < w.heap.size := by
      rcases Nat.lt_or_ge b w.heap.size with q | q
      · exact q
      · rw [Array.getElem?_eq_none q] at hb; cases hb
    refine .row b 0 cap sz xs y hbl (fun j hj => ?_) hsz (fun j z hz => ?_) (fun j n l hj => ih j n l hj ?_) ⟨hl.1, hn.len⟩
    · rw [Lib.cell_of_heap hb, Nat.zero_add]; exact hy j hj
    · rcases hc _ (List.mem_of_getElem? hz) with ⟨x, hx⟩ | ⟨n, l, hx⟩
      · cases hx; exact (hi j x hz).1
      · cases hx
    · cases hn with | mk _ _ _ _ _ hn' => exact hn' n l (List.mem_of_getElem? hj)
theorem OP.shape {w : World} {lo : Nat} {v : Value} {p : Pg} {B : List Nat} {A : List Addr} (h : OP w lo v p B A) : ∃ a0 n0 c0 a1 n1 c1 a2 n2 c2, v = .agg #[.slice a0 n0 c0, .slice a1 n1 c1, .slice a2 n2 c2] := by
  obtain ⟨⟨a0, n0, c0, a1, n1, c1, a2, n2, c2, B0, A0, B1, A1, B2, A2, rfl, _⟩, _⟩ := h
  exact ⟨_, _, _, _, _, _, _, _, _, rfl⟩
theorem OP.pp {w : World} {lo : Nat} {v : Value} {p : Pg} {B : List Nat} {A : List Addr} (h : OP w lo v p B A) (hn : NBp p) : PP w v p := by
  obtain ⟨⟨a0, n0, c0, a1, n1, c1, a2, n2, c2, B0, A0, B1, A1, B2, A2, rfl, rfl, rfl, h0, h1, h2⟩, hnd, hlo⟩ := h
  exact ⟨_, _, _, _, _, _, _, _, _, rfl, NB.ofTR h0 (nb_ints hn.nv), NB.ofTR h1 (nb_ints hn.na), NB.ofTR h2 hn.nb⟩
theorem OP.ag {w w' : World} {lo : Nat} {v : Value} {p : Pg} {B : List Nat} {A : List Addr} (h : OP w lo v p B A) (hs : w.heap.size ≤ w'.heap.size) (hb : ∀ b, lo ≤ b → b < w.heap.size → w'.heap[b]? = w.heap[b]?) : OP w' lo v p B A := by
  obtain ⟨⟨a0, n0, c0, a1, n1, c1, a2, n2, c2, B0, A0, B1, A1, B2, A2, e, rfl, rfl, h0, h1, h2⟩, hnd, hlo⟩ := h
  have hf : ∀ b ∈ B0 ++ (B1 ++ B2), w'.heap[b]? = w.heap[b]? := fun b hm => hb b (hlo b hm).1 (hlo b hm).2
  exact ⟨⟨a0, n0, c0, a1, n1, c1, a2, n2, c2, B0, A0, B1, A1, B2, A2, e, rfl, rfl, h0.frame fun b hm => hf b (by simp [hm]), h1.frame fun b hm => hf b (by simp [hm]), h2.frame fun b hm => hf b (by simp [hm])⟩, hnd, fun b hm => ⟨(hlo b hm).1, Nat.lt_of_lt_of_le (hlo b hm).2 hs⟩⟩
theorem MB.trans {lo hi : Nat} {a b c : World} (h : MB lo hi a b) (k : MB lo hi b c) : MB lo hi a c :=
  ⟨k.os.trans h.os, k.tape.trans h.tape, k.output.trans h.output, Nat.le_trans h.size k.size, fun i hi1 hi2 => (k.same i (Nat.lt_of_lt_of_le hi1 h.size) hi2).trans (h.same i hi1 hi2)⟩
theorem MB.ofB {lo hi : Nat} {w w' : World} (h : Below w.heap.size w w') : MB lo hi w w' := ⟨h.os, h.tape, h.output, h.size, fun b hb _ => h.block b hb⟩
theorem MB.wide {lo hi lo' hi' : Nat} {w w' : World} (h : MB lo hi w w') (h1 : lo' ≤ lo) (h2 : hi ≤ hi') : MB lo' hi' w w' := ⟨h.os, h.tape, h.output, h.size, fun b hb hc => h.same b hb (by omega)⟩
theorem wr_MB {w wa : World} {lo hi : Nat} {A : List Addr} {k : Int} {o : Obj} (hA : ∀ a ∈ A, lo ≤ a.block ∧ a.block < hi) (h : wa = wr (w.alloc o) A k) : MB lo hi w wa := by
  obtain ⟨s1, s2, s3, s4⟩ := wr_size A (w.alloc o) k
  subst h
  refine ⟨s2, s3, s4, by rw [s1]; simp, fun b hb hc => ?_⟩
  rw [wr_other _ _ _ _ fun a ha e => by have := hA a ha; omega]
  exact heap_alloc_old _ _ hb
theorem lawR {w : World} {v v1 : Value} (p : Pg) (ws : List Bool) (hw : ws.length ≤ 1048576) (R : Pg → Bool → Prop)
    (hnp : NBp p) (hnr : ∀ q o, R q o → NBp q) (hRf : ∀ q o q' o', R q o → R q' o' → q = q' ∧ o = o')
    (hA : ∀ q o w lo g B A, R q o → OP w lo g q B A → A.length ≤ 1000000000)
    (hsz : ∀ w v, PP w v p → Calls Try.prog 4 #[v, .int .i64 1048576] w fun e w' => ∃ L : Int, e = .returned (.int .i64 L) ∧ 0 ≤ L ∧ Below w.heap.size w w')
    (hto : ∀ w v, PP w v p → Calls Try.prog 6 #[v] w fun e w' => ∃ g, e = .returned g ∧ PP w' g p ∧ (∀ wx, Below w'.heap.size w' wx → Calls Try.prog 11 #[g, .int .i64 1] wx fun e w2 => ∃ k : Int, e = .returned (.int .i64 k) ∧ 0 ≤ k ∧ k ≤ 100000000 ∧ MB w.heap.size w'.heap.size wx w2) ∧ Below w.heap.size w w')
    (hsp : ∀ w v v1, PP w v p → PL w v1 1 (BL ws) → Calls Try.prog 5 #[v, v1] w fun e w' => ∃ g o q, e = .returned (.tuple #[g, .bool o]) ∧ R q o ∧ PP w' g q ∧ Below w.heap.size w w')
    (him : ∀ w v v1, PP w v p → PL w v1 1 (BL ws) → Calls Try.prog 8 #[v, v1] w fun e w' => ∃ g o q B A, e = .returned (.tuple #[g, .bool o]) ∧ R q o ∧ OP w' w.heap.size g q B A ∧ Below w.heap.size w w')
    (hep : ∀ w a b, PP w a p → PP w b p → Calls Try.prog 9 #[a, b] w fun e w' => e = .returned (.bool true) ∧ Below w.heap.size w w')
    (her : ∀ q o w a b, R q o → PP w a q → PP w b q → Calls Try.prog 9 #[a, b] w fun e w' => e = .returned (.bool true) ∧ Below w.heap.size w w')
    (heb : ∀ w a b, PL w a 1 (BL ws) → PL w b 1 (BL ws) → Calls Try.prog 10 #[a, b] w fun e w' => e = .returned (.bool true) ∧ Below w.heap.size w w')
    (hp : PP w v p) (hb : PL w v1 1 (BL ws)) :
    Calls Try.prog 3 #[v, v1] w fun e w' => e = .returned (.bool true) ∧ Below w.heap.size w w' := by
  obtain ⟨a0, n0, c0, a1, n1, c1, a2, n2, c2, rfl, p0, p1, p2⟩ := hp
  obtain ⟨ab, nb, cb, rfl⟩ := hb.sl
  have hnb := hb.len
  simp only [BL, List.length_map] at hnb
  subst hnb
  obtain ⟨W, hW⟩ : ∃ x, x = w.alloc (.cells #[.slice a0 n0 c0, .slice a1 n1 c1, .slice a2 n2 c2] 25) := ⟨_, rfl⟩
  have hBW : Below w.heap.size w W := by rw [hW]; exact (Below.refl _ _).alloc (Nat.le_refl _) _
  have hWs : W.heap.size = w.heap.size + 1 := by rw [hW]; simp
  have hX0 : W.heap[w.heap.size]? = some (.cells #[.slice a0 n0 c0, .slice a1 n1 c1, .slice a2 n2 c2] 25 (0, 0)) := by rw [hW]; exact heap_alloc_new w _
  have hPP : ∀ wx, Below W.heap.size W wx → PP wx (.agg #[.slice a0 n0 c0, .slice a1 n1 c1, .slice a2 n2 c2]) p := fun wx h => ⟨a0, n0, c0, a1, n1, c1, a2, n2, c2, rfl, p0.mono (hBW.trans (h.mono hBW.size)), p1.mono (hBW.trans (h.mono hBW.size)), p2.mono (hBW.trans (h.mono hBW.size))⟩
  have hPB : ∀ wx, Below W.heap.size W wx → PL wx (.slice ab ws.length cb) 1 (BL ws) := fun wx h => hb.mono (hBW.trans (h.mono hBW.size))
  have hl0 : w.heap.size < W.heap.size := by omega
  have K0 : ∀ wx, Below W.heap.size W wx → wx.cell? ⟨w.heap.size, 0, none⟩ = some (.slice a0 n0 c0) ∧ wx.cell? ⟨w.heap.size, 1, none⟩ = some (.slice a1 n1 c1) ∧ wx.cell? ⟨w.heap.size, 2, none⟩ = some (.slice a2 n2 c2) := fun wx h => by rw [h.cell hl0, h.cell hl0, h.cell hl0, Lib.cell_of_heap hX0, Lib.cell_of_heap hX0, Lib.cell_of_heap hX0]; exact ⟨rfl, rfl, rfl⟩
  have tb : ∀ wx, Below W.heap.size W wx → Calls Try.prog 7 #[.slice ab ws.length cb] wx fun e w' => ∃ g, e = .returned g ∧ BW w' wx.heap.size w'.heap.size g ws ∧ Below wx.heap.size wx w' := fun wx h => toBoolR (hPB wx h) hw
  clear p0 p1 p2 hb
  go_enter Try.func3, Try.ntmps3
  go_wp2_with (go_at_call 4; rw [← hW]; refine (hsz _ _ (hPP W (Below.refl _ _))).mono ?_; rintro e w1 ⟨L, rfl, hL, b1⟩; obtain ⟨k0, k1, k2⟩ := K0 w1 b1)
  have hL' : ¬ L < 0 := by omega
  go_wp2_with (go_at_call 6; refine (hto _ _ (hPP w1 b1)).mono ?_; rintro e w2 ⟨s0, rfl, q0, _, b2⟩; replace b2 := b1.trans (b2.mono b1.size))
  go_wp2_with (go_at_call 7; refine (tb w2 b2).mono ?_; rintro e w3 ⟨s1, rfl, u1, b3⟩)
  go_wp2_with (go_at_call 5; refine (hsp _ _ _ (q0.mono b3) u1.pl).mono ?_; rintro e w4 ⟨g, o, q, rfl, hR, hq, b4⟩; replace b4 := b2.trans ((b3.trans (b4.mono b3.size)).mono b2.size); obtain ⟨d0, m0, e0, d1, m1, e1, d2, m2, e2, rfl, hq0, hq1, hq2⟩ := hq; have b5 := b4.alloc b4.size (.cells #[.slice d0 m0 e0, .slice d1 m1 e1, .slice d2 m2 e2] 30); obtain ⟨k0, k1, k2⟩ := K0 _ b5)
  obtain ⟨W4, hW4⟩ : ∃ x, Kept (x = w4.alloc (.cells #[.slice d0 m0 e0, .slice d1 m1 e1, .slice d2 m2 e2] 30)) := ⟨_, ⟨rfl⟩⟩
  rw [← hW4.h] at b5
  have hs4 : Kept (W4.heap.size = w4.heap.size + 1) := ⟨by rw [hW4.h]; simp⟩
  have h44 : Below w4.heap.size w4 W4 := by rw [hW4.h]; exact (Below.refl _ _).alloc (Nat.le_refl _) _
  have hX6 : Kept (W4.heap[w4.heap.size]? = some (.cells #[.slice d0 m0 e0, .slice d1 m1 e1, .slice d2 m2 e2] 30 (0, 0))) := ⟨by rw [hW4.h]; exact heap_alloc_new w4 _⟩
  go_wp2_with (go_at_call 6; rw [← hW4.h]; refine (hto _ _ (hPP W4 b5)).mono ?_; rintro e w5 ⟨x0, rfl, hx, kx, b6⟩; obtain ⟨f0, i0, j0, f1, i1, j1, f2, i2, j2, rfl, hx0, hx1, hx2⟩ := hx)
  obtain ⟨W5, hW5⟩ : ∃ x, Kept (x = w5.alloc (.cells #[.slice f0 i0 j0, .slice f1 i1 j1, .slice f2 i2 j2] 30)) := ⟨_, ⟨rfl⟩⟩
  have hs5 : Kept (W5.heap.size = w5.heap.size + 1) := ⟨by rw [hW5.h]; simp⟩
  have h55 : Below w5.heap.size w5 W5 := by rw [hW5.h]; exact (Below.refl _ _).alloc (Nat.le_refl _) _
  have hX8 : Kept (W5.heap[w5.heap.size]? = some (.cells #[.slice f0 i0 j0, .slice f1 i1 j1, .slice f2 i2 j2] 30 (0, 0))) := ⟨by rw [hW5.h]; exact heap_alloc_new w5 _⟩
  have h45 : Below W4.heap.size W4 W5 := b6.trans (h55.mono b6.size)
  clear k0 k1 k2
  go_wp2_with (go_at_call 7; rw [← hW5.h]; refine (tb W5 (b5.trans (h45.mono b5.size))).mono ?_; rintro e w6 ⟨x1, rfl, u6, b7⟩; obtain ⟨l80, l81, l82⟩ := box3 ((b7.block _ (by have := hs5.h; omega)).trans hX8.h))
  have h46 : Below W4.heap.size W4 w6 := h45.trans (b7.mono h45.size)
  have hPX : ∀ wx, Below w5.heap.size w5 wx → PP wx (.agg #[.slice f0 i0 j0, .slice f1 i1 j1, .slice f2 i2 j2]) p := fun wx h => ⟨_, _, _, _, _, _, _, _, _, rfl, hx0.mono h, hx1.mono h, hx2.mono h⟩
  have hPQ : ∀ wx, Below w4.heap.size w4 wx → PP wx (.agg #[.slice d0 m0 e0, .slice d1 m1 e1, .slice d2 m2 e2]) q := fun wx h => ⟨_, _, _, _, _, _, _, _, _, rfl, hq0.mono h, hq1.mono h, hq2.mono h⟩
  clear hx0 hx1 hx2 hq0 hq1 hq2 q0 u1
  go_wp2_with (go_at_call 8; refine (him _ _ _ (hPX w6 (h55.trans (b7.mono h55.size))) u6.pl).mono ?_; rintro e w7 ⟨g, o2, q2, B, A, rfl, hR2, hO, b8⟩; obtain ⟨rfl, rfl⟩ := hRf _ _ _ _ hR2 hR; obtain ⟨y0, z0, t0, y1, z1, t1, y2, z2, t2, rfl⟩ := hO.shape; have h47 := h46.trans (b8.mono h46.size); have h4X := h47.alloc h47.size (.cells #[.slice y0 z0 t0, .slice y1 z1 t1, .slice y2 z2 t2] 30); obtain ⟨l60, l61, l62⟩ := box3 ((h4X.block _ (by have := hs4.h; omega)).trans hX6.h); obtain ⟨l100, l101, l102⟩ := box3 (heap_alloc_new w7 (.cells #[.slice y0 z0 t0, .slice y1 z1 t1, .slice y2 z2 t2] 30)))
  obtain ⟨W7, hW7⟩ : ∃ x, Kept (x = w7.alloc (.cells #[.slice y0 z0 t0, .slice y1 z1 t1, .slice y2 z2 t2] 30)) := ⟨_, ⟨rfl⟩⟩
  have hs7 : Kept (W7.heap.size = w7.heap.size + 1) := ⟨by rw [hW7.h]; simp⟩
  have h77 : Below w7.heap.size w7 W7 := by rw [hW7.h]; exact (Below.refl _ _).alloc (Nat.le_refl _) _
  have hX10 : Kept (W7.heap[w7.heap.size]? = some (.cells #[.slice y0 z0 t0, .slice y1 z1 t1, .slice y2 z2 t2] 30 (0, 0))) := ⟨by rw [hW7.h]; exact heap_alloc_new w7 _⟩
  have h67 : Below w6.heap.size w6 W7 := b8.trans (h77.mono b8.size)
  have h4W : Below W4.heap.size W4 W7 := h46.trans (h67.mono h46.size)
  have hO7 := hO.below h77
  have hnq := hnr _ _ hR2
  clear k0 k1 k2
  go_wp2_with (go_at_call 9; rw [← hW7.h]; refine (her _ _ W7 _ _ hR2 (hO7.pp hnq) (hPQ W7 (h44.trans (h4W.mono h44.size)))).mono ?_; rintro e w8 ⟨rfl, b9⟩)
  have h5W : Below W5.heap.size W5 W7 := b7.trans (h67.mono b7.size)
  have h0W : Below W.heap.size W W7 := b5.trans (h4W.mono b5.size)
  have h05 : Below w5.heap.size w5 W7 := h55.trans (h5W.mono h55.size)
  have KS : ∀ wx, Below W7.heap.size W7 wx → (wx.cell? ⟨w.heap.size, 0, none⟩ = some (.slice a0 n0 c0) ∧ wx.cell? ⟨w.heap.size, 1, none⟩ = some (.slice a1 n1 c1) ∧ wx.cell? ⟨w.heap.size, 2, none⟩ = some (.slice a2 n2 c2)) ∧ wx.cell? ⟨w5.heap.size, 0, none⟩ = some (.slice f0 i0 j0) ∧ wx.cell? ⟨w5.heap.size, 1, none⟩ = some (.slice f1 i1 j1) ∧ wx.cell? ⟨w5.heap.size, 2, none⟩ = some (.slice f2 i2 j2) := fun wx h =>
    ⟨K0 wx (h0W.trans (h.mono h0W.size)), box3 (((h5W.trans (h.mono h5W.size)).block _ (by have := hs5.h; omega)).trans hX8.h)⟩
  have q13 : ∀ wx, Below W7.heap.size W7 wx → Calls Try.prog 6 #[.agg #[.slice a0 n0 c0, .slice a1 n1 c1, .slice a2 n2 c2]] wx fun e w' => ∃ g, e = .returned g ∧ PP w' g p ∧ Below W7.heap.size W7 w' := fun wx h => by
    refine (hto _ _ (hPP wx (h0W.trans (h.mono h0W.size)))).mono ?_
    rintro e w' ⟨g, rfl, h1, _, h2⟩
    exact ⟨g, rfl, h1, h.trans (h2.mono h.size)⟩
  clear l80 l81 l82 l60 l61 l62 l100 l101 l102
  go_region_held3 (fun wx => (wx.cell? ⟨w.heap.size, 0, none⟩ = some (.slice a0 n0 c0) ∧ wx.cell? ⟨w.heap.size, 1, none⟩ = some (.slice a1 n1 c1) ∧ wx.cell? ⟨w.heap.size, 2, none⟩ = some (.slice a2 n2 c2)) ∧ wx.cell? ⟨w5.heap.size, 0, none⟩ = some (.slice f0 i0 j0) ∧ wx.cell? ⟨w5.heap.size, 1, none⟩ = some (.slice f1 i1 j1) ∧ wx.cell? ⟨w5.heap.size, 2, none⟩ = some (.slice f2 i2 j2))
    (first
      | exact KS _ b9.drew
      | exact KS _ hbm
      | exact KS _ hbn)
    (first
      | (go_at_call 6; refine (q13 _ b9.drew).mono ?_; rintro r wn ⟨g', rfl, hg', hbn⟩)
      | (go_at_call 9; refine (hep _ _ _ (hPX _ (h05.trans (hbn.mono h05.size))) hg').mono ?_; rintro r wm ⟨rfl, hbm⟩; replace hbm := hbn.trans (hbm.mono hbn.size)))
  go_wp2_with (go_at_call 7; refine (tb wm (h0W.trans (hbm.mono h0W.size))).mono ?_; rintro e w9 ⟨x2, rfl, u9, b10⟩; replace b10 := hbm.trans (b10.mono hbm.size))
  go_wp2_with (go_at_call 10; refine (heb _ _ _ (u6.pl.mono (h67.trans (b10.mono h67.size))) u9.pl).mono ?_; rintro e w10 ⟨rfl, b11⟩; replace b11 := b10.trans (b11.mono b10.size); obtain ⟨_, l80, l81, l82⟩ := KS w10 b11)
  have h5x : Below w5.heap.size w5 w10 := h05.trans (b11.mono h05.size)
  have h6x : Below w6.heap.size w6 w10 := h67.trans (b11.mono h67.size)
  have g1 : w4.heap.size ≤ W4.heap.size := h44.size
  have g2 : W4.heap.size ≤ w5.heap.size := b6.size
  have g3 : w5.heap.size < W5.heap.size := by have := hs5.h; omega
  have g4 : W5.heap.size ≤ w6.heap.size := b7.size
  have g5 : w6.heap.size ≤ w7.heap.size := b8.size
  have g6 : w7.heap.size < W7.heap.size := by have := hs7.h; omega
  have g7 : W7.heap.size ≤ w10.heap.size := b11.size
  have g0 : W.heap.size ≤ W4.heap.size := b5.size
  have hmk1 := kx w10 h5x
  have hO10 : OP w10 w6.heap.size (.agg #[.slice y0 z0 t0, .slice y1 z1 t1, .slice y2 z2 t2]) q2 B A := hO7.below b11
  have hAl := hA _ _ _ _ _ _ _ hR2 hO7
  have hApl := (hO.places).2.1
  clear u9 hg'
  go_wp2_with (go_at_call 11; refine hmk1.mono ?_; rintro e w11 ⟨k, rfl, hk1, hk2, M1⟩)
  have u11 : BW w11 W5.heap.size w6.heap.size x1 ws := u6.keep fun b hb1 hb2 => (M1.same b (by omega) (.inr (by omega))).trans (h6x.block b hb2)
  have hk3 : ¬ (k + (ws.length : Nat) < 0) := by omega
  have M0 : MB W4.heap.size w7.heap.size W7 w11 := (MB.ofB b11).trans (M1.wide (Nat.le_refl _) (by omega))
  have BQ : ∀ wx, MB W4.heap.size w7.heap.size W7 wx → (wx.cell? ⟨w4.heap.size, 0, none⟩ = some (.slice d0 m0 e0) ∧ wx.cell? ⟨w4.heap.size, 1, none⟩ = some (.slice d1 m1 e1) ∧ wx.cell? ⟨w4.heap.size, 2, none⟩ = some (.slice d2 m2 e2)) ∧ wx.cell? ⟨w7.heap.size, 0, none⟩ = some (.slice y0 z0 t0) ∧ wx.cell? ⟨w7.heap.size, 1, none⟩ = some (.slice y1 z1 t1) ∧ wx.cell? ⟨w7.heap.size, 2, none⟩ = some (.slice y2 z2 t2) := fun wx h =>
    have zs4 := hs4.h
    ⟨box3 ((h.same _ (by omega) (.inl (by omega))).trans ((h4W.block _ (by omega)).trans hX6.h)), box3 ((h.same _ (by omega) (.inr (Nat.le_refl _))).trans hX10.h)⟩
  have h4w : Below w4.heap.size w4 W7 := h44.trans (h4W.mono h44.size)
  have PQ : ∀ wx, MB W4.heap.size w7.heap.size W7 wx → PP wx (.agg #[.slice d0 m0 e0, .slice d1 m1 e1, .slice d2 m2 e2]) q2 := fun wx h => hPQ wx (h4w.trans (h.below g1 (by omega)))
  go_wp2_with (go_at_call 12; refine (markBoolR u11 k hk1 hk2).mono ?_; rintro e w12 ⟨rfl, M2⟩; have M3 := M0.trans (M2.wide (by omega) (by omega)); obtain ⟨⟨l60, l61, l62⟩, l100, l101, l102⟩ := BQ w12 M3)
  have hO12 : OP w12 w6.heap.size (.agg #[.slice y0 z0 t0, .slice y1 z1 t1, .slice y2 z2 t2]) q2 B A := hO.ag (by have := M3.size; omega) fun b hb1 hb2 => by
    rw [M2.same b (by have := M1.size; omega) (.inr hb1), M1.same b (by omega) (.inr (by omega)), b11.block b (by omega), h77.block b hb2]
  go_wp2_with (go_at_call 9; refine (her _ _ w12 _ _ hR2 (hO12.pp hnq) (PQ w12 M3)).mono ?_; rintro e w13 ⟨rfl, b13⟩; have M4 := M3.trans (MB.ofB b13); obtain ⟨_, l100, l101, l102⟩ := BQ w13 M4)
  have hO13 : OP w13 w6.heap.size (.agg #[.slice y0 z0 t0, .slice y1 z1 t1, .slice y2 z2 t2]) q2 B A := hO12.below b13
  have M4' := M4.size
  go_wp2_with (go_at_call 11; refine (markPr hO13 w13 1 (SP.refl _) (by omega) (by omega)).mono ?_; rintro e w14 ⟨rfl, oo, hw14⟩; replace hw14 := Kept.mk hw14; have M5 := M4.trans ((wr_MB hApl hw14.h).wide (by omega) (Nat.le_refl _)); obtain ⟨_, l100, l101, l102⟩ := BQ w14 M5)
  have M5' := M5.size
  have hSP : SP w13 w14 := by rw [hw14.h]; exact SP.wr 1 ((SP.refl w13).alloc oo) (hO13.places).2.2
  have hVA : VA w14 A 1 := by rw [hw14.h]; exact fun j a ha => wr_cell (w := w13) (hO13.places).1 ((SP.refl w13).alloc oo) (hO13.places).2.2 j a ha
  have hq1 : ¬ (1 + (A.length : Nat) < (0 : Int)) := by omega
  go_wp2_with (go_at_call 13; refine (heldPr hO13 w14 1 hSP (by omega) (by omega) hVA).mono ?_; rintro e w15 ⟨rfl, oo2, hw15⟩; replace hw15 := Kept.mk hw15; have b15 : Below w14.heap.size w14 w15 := by { rw [hw15.h]; exact (Below.refl _ _).alloc (Nat.le_refl _) _ }; have M6 := M5.trans (MB.ofB b15); obtain ⟨k0, k1, k2⟩ := K0 w15 (h0W.trans (M6.below g0 (by omega))))
  have h0x := h0W.trans (M6.below g0 (by omega))
  clear k0 k1 k2 l80 l81 l82 l60 l61 l62 l100 l101 l102
  go_wp2_with (go_at_call 6; refine (hto _ _ (hPP w15 h0x)).mono ?_; rintro e w16 ⟨s2, rfl, q16, _, b16⟩)
  have h016 := h0x.trans (b16.mono h0x.size)
  go_wp2_with (go_at_call 7; refine (tb w16 h016).mono ?_; rintro e w17 ⟨s3, rfl, u17, b17⟩)
  go_wp2_with (go_at_call 8; refine (him _ _ _ (q16.mono b17) u17.pl).mono ?_; rintro e w18 ⟨h, o3, q3, B', A', rfl, hR3, hO3, b18⟩; obtain ⟨rfl, rfl⟩ := hRf _ _ _ _ hR3 hR2; obtain ⟨y3, z3, t3, y4, z4, t4, y5, z5, t5, rfl⟩ := hO3.shape; have b158 := (b16.trans (b17.mono b16.size)).trans (b18.mono (b16.trans (b17.mono b16.size)).size); have b15X := b158.alloc b158.size (.cells #[.slice y3 z3 t3, .slice y4 z4 t4, .slice y5 z5 t5] 30); have M7 := M6.trans (MB.ofB b15X); obtain ⟨⟨l60, l61, l62⟩, _⟩ := BQ _ M7; obtain ⟨l150, l151, l152⟩ := box3 (heap_alloc_new w18 (.cells #[.slice y3 z3 t3, .slice y4 z4 t4, .slice y5 z5 t5] 30)))
  obtain ⟨W18, hW18⟩ : ∃ x, Kept (x = w18.alloc (.cells #[.slice y3 z3 t3, .slice y4 z4 t4, .slice y5 z5 t5] 30)) := ⟨_, ⟨rfl⟩⟩
  rw [← hW18.h] at b15X M7
  have h88 : Below w18.heap.size w18 W18 := by rw [hW18.h]; exact (Below.refl _ _).alloc (Nat.le_refl _) _
  clear l60 l61 l62 l150 l151 l152
  go_wp2_with (go_at_call 9; rw [← hW18.h]; refine (her _ _ W18 _ _ hR3 ((hO3.below h88).pp hnq) (PQ W18 M7)).mono ?_; rintro e w19 ⟨rfl, b19⟩; have M8 := M7.trans (MB.ofB b19); obtain ⟨_, l100, l101, l102⟩ := BQ w19 M8)
  have b1419 : Below w14.heap.size w14 w19 := (b15.trans (b15X.mono b15.size)).trans (b19.mono (b15.trans (b15X.mono b15.size)).size)
  have hSP9 : SP w13 w19 := hSP.keep fun b arr ty fr hb => b1419.block b (by
    have : b < w13.heap.size := by
      rcases Nat.lt_or_ge b w13.heap.size with q | q
      · exact q
      · rw [Array.getElem?_eq_none q] at hb; cases hb
    have := (wr_MB hApl hw14.h).size
    omega)
  have hVA9 : VA w19 A 1 := hVA.keep fun a ha => b1419.block _ (by have := hApl a ha; omega)
  go_wp2_with (go_at_call 13; refine (heldPr hO13 w19 1 hSP9 (by omega) (by omega) hVA9).mono ?_; rintro e w20 ⟨rfl, oo3, hw20⟩; replace hw20 := Kept.mk hw20)
  go_ret
  have b20 : Below w19.heap.size w19 w20 := by rw [hw20.h]; exact (Below.refl _ _).alloc (Nat.le_refl _) _
  have M9 := M8.trans (MB.ofB b20)
  exact ⟨rfl, (hBW.trans ((h0W.trans (M9.below g0 (by omega))).mono hBW.size))⟩
end Go.Proofs.Ytlapccpnilomfaa.CtT
