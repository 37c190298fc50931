/- Contracts of functions of the program, one behind the other, as plain data: what each call returns and which blocks it leaves. -/
import Derived.BigQuiet
import Derived.Test.YtlapccpnilomfaaJBd
set_option linter.unusedVariables false
set_option linter.unusedSimpArgs false
set_option linter.unusedSectionVars false
set_option maxHeartbeats 16000000
set_option maxRecDepth 100000
namespace Go.Proofs.Ytlapccpnilomfaa.CtT
open Go Go.CT Go.RowKit

theorem results_cellrow_tmp {P : Program} {fn : Func} {p u : Tmp} {ty : TypeId} (h : fn.results = #[.cell p ty, .tmp u]) (tmps : Array Value) (w : World) (g : Nat) (t : TypeId) (cs : Array Value) (fr : Nat × Nat) (d : TypeDesc)
    (hp : tmps.getD p undef = .pointer (some ⟨g, 0, none⟩)) (hg : w.heap[g]? = some (.cells cs t fr))
    (hu : P.underlying ty = some d) (hd : (match d with | .struct _ | .array _ _ => true | _ => false) = true) (hi : (P.info? ty).map (·.size) = some cs.size) :
    (results fn tmps).run P w = .ok (.tuple #[.agg cs, tmps.getD u undef]) w := by
  rw [results_cell_tmp h, hp]
  simp [asAddr, run_loadVar_row w g t ty cs fr d hg hu hd hi]
theorem PL.len {w : World} {a : Option Addr} {n c sz : Nat} {xs : List (List C)} (h : PL w (.slice a n c) sz xs) : n = xs.length := by
  generalize hv : Value.slice a n c = v at h
  cases h <;> cases hv <;> rfl
theorem PL.bools {w : World} {a : Option Addr} {n c : Nat} {ws : List Bool} (h : PL w (.slice a n c) 1 (ws.map fun b => [C.v (.bool b)])) (h1 : 1 ≤ ws.length) : ∃ b off, a = some ⟨b, off, none⟩ ∧ n = ws.length ∧ b < w.heap.size ∧ ∀ j (h : j < ws.length), w.cell? ⟨b, off + j, none⟩ = some (.bool ws[j]) := by
  generalize hv : Value.slice a n c = v at h
  generalize hx : (ws.map fun b => [C.v (.bool b)]) = xs at h
  have hf : (ws.map fun b => [C.v (.bool b)]).flatten = ws.map fun b => C.v (.bool b) := by
    clear hx h1
    induction ws with
    | nil => rfl
    | cons a r ih => simp [ih]
  cases h with
  | nil => cases ws with
    | nil => simp at h1
    | cons => simp at hx
  | row b off cap sz xs y hbs hy hsz hi hr hl =>
    subst hx
    cases hv
    refine ⟨b, off, rfl, by simp, hbs, fun j hj => ?_⟩
    rw [hy j (by simpa using hj), hi j (.bool ws[j]) (by rw [hf]; simp [hj])]
theorem or_i64 (a b : Nat) (ha : a < 16384) (hb : b < 16384) : bits .or .i64 (a : Int) (b : Int) = ((a ||| b : Nat) : Int) := by
  have hx : a ||| b < 2 ^ 14 := Nat.or_lt_two_pow (by omega) (by omega)
  have h1 : (BitVec.ofInt 64 (a : Int)).toNat = a := by
    rw [BitVec.ofInt_natCast, BitVec.toNat_ofNat]; exact Nat.mod_eq_of_lt (by omega)
  have h2 : (BitVec.ofInt 64 (b : Int)).toNat = b := by
    rw [BitVec.ofInt_natCast, BitVec.toNat_ofNat]; exact Nat.mod_eq_of_lt (by omega)
  show IntKind.i64.wrap ((BitVec.ofInt 64 (a : Int) ||| BitVec.ofInt 64 (b : Int)).toNat : Int) = _
  rw [BitVec.toNat_or, h1, h2, IntKind.wrap_i64]
  omega
theorem pow_i64 {i : Nat} (hi : i < 14) : wrap64 ((2 : Int) ^ i) = ((2 ^ i : Nat) : Int) ∧ 2 ^ i < 16384 := by
  have h : 2 ^ i < 2 ^ 14 := Nat.pow_lt_pow_right (by decide) hi
  have e : (2 : Int) ^ i = ((2 ^ i : Nat) : Int) := by rw [Int.natCast_pow]; rfl
  rw [e]
  generalize 2 ^ i = m at *
  refine ⟨?_, by omega⟩
  unfold wrap64
  omega
theorem op_nil (w : World) (lo : Nat) : OP w lo (.agg #[.slice none 0 0, .slice none 0 0, .slice none 0 0]) ⟨[], [], []⟩ [] [] :=
  ⟨⟨_, _, _, _, _, _, _, _, _, [], [], [], [], [], [], rfl, rfl, rfl, .nil _ _ _, .nil _ _ _, .nil _ _ _⟩, List.nodup_nil, fun b hb => by simp at hb⟩
theorem progInfo : (Try.prog.info? 30).map (·.size) = some 3 := by kernel_rfl
theorem sliceR (p : Pg) (hn : NBp p) (ws : List Bool) (hw : ws.length ≤ 1048576) (ok : Bool) (nc : Nat) (cut : Nat → List St1) (set acc : Nat → Nat) (Inv : Nat → Prop) (R : Pg → Bool → Prop)
    (hNB : ∀ N, NB 11 (St1.cellsL (cut N))) (hset : ∀ N, set N < 16384) (hok : ok = true → 1 ≤ nc ∧ nc ≤ 14) (hnc : nc ≤ 4000000)
    (hv : ∀ w v, PP w v p → Calls Try.prog 23 #[v] w fun e w' => e = .returned (.bool ok) ∧ Below w.heap.size w w')
    (hc : ∀ w v, PP w v p → Calls Try.prog 24 #[v] w fun e w' => e = .returned (.int .i64 nc) ∧ Below w.heap.size w w')
    (ht : ∀ b w, Calls Try.prog 25 #[.bool b] w fun e w' => e = .returned (.int .i64 (if b then 1 else 0)) ∧ Below w.heap.size w w')
    (hs : ok = true → ws.length = nc → ∀ N : Nat, N < 16384 → ∀ w v v2, PP w v p → PL w v2 11 (St1.cellsL p.body) → Calls Try.prog 26 #[v, v2, .int .i64 N] w fun e w' => ∃ a n c, e = .returned (.tuple #[.slice a n c, .int .i64 (set N)]) ∧ PL w' (.slice a n c) 11 (St1.cellsL (cut N)) ∧ Below w.heap.size w w')
    (ha0 : acc 0 = 0) (ha : ∀ i, acc (i + 1) = acc i ||| (if ws.getD i false then 1 else 0) * 2 ^ i) (hal : ∀ i, i ≤ 14 → acc i < 16384)
    (h0 : ok = true → ws.length = nc → Inv (acc ws.length)) (hI : ∀ N, Inv N → N < 16384) (hstep : ∀ N, Inv N → N ||| set N ≠ N → Inv (N ||| set N)) (hfin : ∀ N, Inv N → N ||| set N = N → R ⟨p.vars, p.arrays, cut N⟩ true)
    (hbad : (ok = false ∨ ws.length ≠ nc) → R ⟨[], [], []⟩ false) {w : World} {v v1 : Value} (hp : PP w v p) (hb : PL w v1 1 (ws.map fun b => [C.v (.bool b)])) :
    Calls Try.prog 8 #[v, v1] w fun e w' => ∃ g ok' p' B A, e = .returned (.tuple #[g, .bool ok']) ∧ R p' ok' ∧ OP w' w.heap.size g p' B A ∧ Below w.heap.size w w' := by
  obtain ⟨a0, n0, c0, a1, n1, c1, a2, n2, c2, rfl, p0, p1, p2⟩ := hp
  obtain ⟨ab, nb, cb, rfl⟩ := hb.sl
  obtain ⟨W, hW⟩ : ∃ x, x = (w.alloc (.cells #[.slice a0 n0 c0, .slice a1 n1 c1, .slice a2 n2 c2] 30)).alloc (.cells #[.slice none 0 0, .slice none 0 0, .slice none 0 0] 30) := ⟨_, rfl⟩
  have hBW : Below w.heap.size w W := by rw [hW]; exact (((Below.refl _ _).alloc (Nat.le_refl _) _).alloc (by simp) _)
  have hWs : W.heap.size = w.heap.size + 1 + 1 := by rw [hW]; simp
  have hX0 : W.heap[w.heap.size]? = some (.cells #[.slice a0 n0 c0, .slice a1 n1 c1, .slice a2 n2 c2] 30 (0, 0)) := by rw [hW, heap_alloc_old _ _ (by simp)]; exact heap_alloc_new w _
  have hX1 : W.heap[w.heap.size + 1]? = some (.cells #[.slice none 0 0, .slice none 0 0, .slice none 0 0] 30 (0, 0)) := by rw [hW, show w.heap.size + 1 = (w.alloc (.cells #[.slice a0 n0 c0, .slice a1 n1 c1, .slice a2 n2 c2] 30)).heap.size by simp]; exact heap_alloc_new _ _
  have hPP : ∀ wx, Below W.heap.size W wx → PP wx (.agg #[.slice a0 n0 c0, .slice a1 n1 c1, .slice a2 n2 c2]) p := fun wx h => ⟨a0, n0, c0, a1, n1, c1, a2, n2, c2, rfl, p0.mono (hBW.trans (h.mono hBW.size)), p1.mono (hBW.trans (h.mono hBW.size)), p2.mono (hBW.trans (h.mono hBW.size))⟩
  have hl0 : w.heap.size < W.heap.size := by omega
  have hl1 : w.heap.size + 1 < W.heap.size := by omega
  have K0 : ∀ wx, Below W.heap.size W wx → wx.cell? ⟨w.heap.size, 0, none⟩ = some (.slice a0 n0 c0) := fun wx h => by rw [h.cell hl0, Lib.cell_of_heap hX0]; rfl
  have K1 : ∀ wx, Below W.heap.size W wx → wx.cell? ⟨w.heap.size, 1, none⟩ = some (.slice a1 n1 c1) := fun wx h => by rw [h.cell hl0, Lib.cell_of_heap hX0]; rfl
  have K2 : ∀ wx, Below W.heap.size W wx → wx.cell? ⟨w.heap.size, 2, none⟩ = some (.slice a2 n2 c2) := fun wx h => by rw [h.cell hl0, Lib.cell_of_heap hX0]; rfl
  have L0 : ∀ wx, Below W.heap.size W wx → wx.cell? ⟨w.heap.size + 1, 0, none⟩ = some (.slice none 0 0) ∧ wx.cell? ⟨w.heap.size + 1, 1, none⟩ = some (.slice none 0 0) ∧ wx.cell? ⟨w.heap.size + 1, 2, none⟩ = some (.slice none 0 0) ∧ wx.frozen? ⟨w.heap.size + 1, 0, none⟩ = false ∧ wx.frozen? ⟨w.heap.size + 1, 1, none⟩ = false ∧ wx.frozen? ⟨w.heap.size + 1, 2, none⟩ = false := fun wx h => by
    rw [h.cell hl1, h.cell hl1, h.cell hl1, h.frozen hl1, h.frozen hl1, h.frozen hl1, Lib.cell_of_heap hX1, Lib.cell_of_heap hX1, Lib.cell_of_heap hX1, Lib.frozen_of_heap hX1, Lib.frozen_of_heap hX1, Lib.frozen_of_heap hX1]; exact ⟨rfl, rfl, rfl, rfl, rfl, rfl⟩
  have hvW := hv W _ (hPP W (Below.refl _ _))
  have fin : ∀ wx, Below W.heap.size W wx → ∀ x0 x1 x2, (((wx.setCell ⟨w.heap.size + 1, 0, none⟩ x0).setCell ⟨w.heap.size + 1, 1, none⟩ x1).setCell ⟨w.heap.size + 1, 2, none⟩ x2).heap[w.heap.size + 1]? = some (.cells #[x0, x1, x2] 30 (0, 0)) := fun wx h x0 x1 x2 => by
    have := (h.block _ hl1).trans hX1
    rw [set_same (a := ⟨w.heap.size + 1, 2, none⟩) rfl (set_same (a := ⟨w.heap.size + 1, 1, none⟩) rfl (set_same (a := ⟨w.heap.size + 1, 0, none⟩) rfl this _) _)]
    simp
  have finB : ∀ wx, Below W.heap.size W wx → ∀ x0 x1 x2, Below w.heap.size w (((wx.setCell ⟨w.heap.size + 1, 0, none⟩ x0).setCell ⟨w.heap.size + 1, 1, none⟩ x1).setCell ⟨w.heap.size + 1, 2, none⟩ x2) := fun wx h x0 x1 x2 =>
    (((hBW.trans (h.mono hBW.size)).setCell (by simp) _).setCell (by simp) _).setCell (by simp) _
  cases ok with
  | false =>
    have hR := hbad (.inl rfl)
    clear hbad hfin hstep h0 hI ha hal hs hc ht hv hset hNB hok
    go_enter Try.func8, Try.ntmps8
    go_wp2_with (go_at_call 23; rw [← hW]; refine hvW.mono ?_; rintro e w1 ⟨rfl, hb1⟩; obtain ⟨l0, l1, l2, z0, z1, z2⟩ := L0 w1 hb1)
    refine bodyPost_ret (results_cellrow_tmp rfl _ _ (w.heap.size + 1) 30 #[.slice none 0 0, .slice none 0 0, .slice none 0 0] (0, 0) _ rfl (fin w1 hb1 _ _ _) Try.underlying30 rfl progInfo) rfl ?_
    exact ⟨_, false, _, [], [], rfl, hR, op_nil _ _, finB w1 hb1 _ _ _⟩
  | true =>
    obtain ⟨hnc1, hnc2⟩ := hok rfl
    by_cases hlen : ws.length = nc
    · subst hlen
      obtain ⟨b, off, rfl, rfl, hbl, hel⟩ := hb.bools hnc1
      have hcW := fun wx h => hc wx _ (hPP wx h)
      have hsW := fun N hN wx h => hs rfl rfl N hN wx _ (.slice a2 n2 c2) (hPP wx h) (p2.mono (hBW.trans (h.mono hBW.size)))
      have hInv0 := h0 rfl rfl
      clear hbad hc hs hv p2 hb hn h0 hok
      go_enter Try.func8, Try.ntmps8
      go_wp2_with (first
        | (go_at_call 23; rw [← hW]; refine hvW.mono ?_; rintro e w1 ⟨rfl, hb1⟩; have k0 := K0 w1 hb1; have k1 := K1 w1 hb1; have k2 := K2 w1 hb1)
        | (go_at_call 24; refine (hcW w1 hb1).mono ?_; rintro e w2 ⟨rfl, hb2⟩; replace hb2 := hb1.trans (hb2.mono hb1.size)))
      go_loopw [6, 24] (fun nv iv wv => ∃ i : Nat, i ≤ ws.length ∧ nv = .int .i64 (acc i) ∧ iv = .int .i64 i ∧ Below W.heap.size W wv) (fun _ iv _ => ws.length - (intOf iv).toNat)
      case atStart => exact ⟨0, Nat.zero_le _, by rw [ha0]; rfl, rfl, hb2⟩
      case round =>
        obtain ⟨i, hi', rfl, rfl, hbr⟩ := hrel
        by_cases hlt : i < ws.length
        · have he : wr.cell? ⟨b, off + i, none⟩ = some (.bool ws[i]) := by rw [(hBW.trans (hbr.mono hBW.size)).cell hbl]; exact hel i hlt
          have hai := ha i
          rw [show ws.getD i false = ws[i] by simp [List.getD, hlt]] at hai
          have hal1 := hal i (by omega)
          generalize ws[i] = bx at *
          have htx := ht bx
          cases bx with
          | false =>
            go_wp2_with (go_at_call 25; refine (htx _).mono ?_; rintro e w3 ⟨rfl, hb3⟩)
            exact ⟨⟨i + 1, hlt, by rw [hai, show (0 : Int) = ((0 : Nat) : Int) from rfl, or_i64 _ _ hal1 (by omega)]; simp, by go_num, hbr.trans (hb3.mono hbr.size)⟩, by simp [intOf]; omega⟩
          | true =>
            go_wp2_with (go_at_call 25; refine (htx _).mono ?_; rintro e w3 ⟨rfl, hb3⟩)
            obtain ⟨pw1, pw2⟩ := pow_i64 (show i < 14 by omega)
            exact ⟨⟨i + 1, hlt, by rw [hai, pw1, or_i64 _ _ hal1 pw2]; simp, by go_num, hbr.trans (hb3.mono hbr.size)⟩, by simp [intOf]; omega⟩
        · have : i = ws.length := by omega
          subst this
          clear hi' hlt hcW hel ha hal ha0 ht
          go_wp2
          go_loopw [6] (fun nv wv => ∃ N : Nat, Inv N ∧ nv = .int .i64 N ∧ Below W.heap.size W wv) (fun nv _ => 16384 - (intOf nv).toNat)
          case atStart => exact ⟨_, hInv0, rfl, hbr⟩
          case round =>
            obtain ⟨N, hN, rfl, hbr2⟩ := hrel
            have hN1 := hI N hN
            have hsN := hsW N hN1 wr hbr2
            have hstN := hstep N hN
            have hfN := hfin N hN
            have hsetN := hset N
            have hNBN := hNB N
            have hlt2 : N ||| set N < 2 ^ 14 := Nat.or_lt_two_pow (by omega) (by omega)
            have hor := or_i64 N (set N) hN1 hsetN
            have k0 := K0 wr hbr2
            have k1 := K1 wr hbr2
            have k2 := K2 wr hbr2
            clear hsW hstep hfin hset hNB hI
            by_cases heq : N ||| set N = N
            · have hcc : (((N ||| set N : Nat) : Int) = (N : Int)) := by rw [heq]
              have hR := hfN heq
              go_wp2_with (go_at_call 26; refine hsN.mono ?_; rintro e w3 ⟨la, ln, lc, rfl, hpl, hb3⟩; replace hb3 := hbr2.trans (hb3.mono hbr2.size))
              have q0 : ∀ wx, Below W.heap.size W wx → Calls Try.prog 27 #[.slice a0 n0 c0] wx fun r w' => ∃ a' n' c' B A, r = .returned (.slice a' n' c') ∧ Own w' wx.heap.size (.slice a' n' c') 1 (p.vars.map fun n => [I64 n]) B A ∧ Below wx.heap.size wx w' ∧ Below W.heap.size W w' := fun wx h => by
                refine (cloneR (p0.mono (hBW.trans (h.mono hBW.size)))).mono ?_
                rintro r w' ⟨a', n', c', B, A, rfl, hO, hb'⟩
                exact ⟨a', n', c', B, A, rfl, hO, hb', h.trans (hb'.mono h.size)⟩
              have q1 : ∀ wx, Below W.heap.size W wx → Calls Try.prog 27 #[.slice a1 n1 c1] wx fun r w' => ∃ a' n' c' B A, r = .returned (.slice a' n' c') ∧ Own w' wx.heap.size (.slice a' n' c') 1 (p.arrays.map fun n => [I64 n]) B A ∧ Below wx.heap.size wx w' ∧ Below W.heap.size W w' := fun wx h => by
                refine (cloneR (p1.mono (hBW.trans (h.mono hBW.size)))).mono ?_
                rintro r w' ⟨a', n', c', B, A, rfl, hO, hb'⟩
                exact ⟨a', n', c', B, A, rfl, hO, hb', h.trans (hb'.mono h.size)⟩
              have q2 : ∀ wx, Below w3.heap.size w3 wx → Calls Try.prog 28 #[.slice la ln lc] wx fun r w' => ∃ a' n' c' B A, r = .returned (.slice a' n' c') ∧ Own w' wx.heap.size (.slice a' n' c') 11 (St1.cellsL (cut N)) B A ∧ Below wx.heap.size wx w' ∧ Below W.heap.size W w' := fun wx h => by
                refine (ownSr _ (cut N) (Nat.le_refl _) wx (.slice la ln lc) (hpl.mono h)).mono ?_
                rintro r w' ⟨v', B, A, rfl, hO, hb'⟩
                obtain ⟨a', n', c', rfl⟩ := hO.tr.sl
                exact ⟨a', n', c', B, A, rfl, hO, hb', hb3.trans ((h.trans (hb'.mono h.size)).mono hb3.size)⟩
              have hwne : w.heap.size ≠ w.heap.size + 1 := by omega
              clear hsN K2 k0 k1 k2
              go_region_held3 (fun w' => w'.cell? ⟨w.heap.size, 0, none⟩ = some (.slice a0 n0 c0) ∧ w'.cell? ⟨w.heap.size, 1, none⟩ = some (.slice a1 n1 c1))
                (first
                  | exact ⟨K0 _ hb3.drew, K1 _ hb3.drew⟩
                  | exact ⟨K0 _ hbn, K1 _ hbn⟩
                  | exact ⟨((set_far _ _ hwne).trans ((set_far _ _ hwne).trans (set_far _ _ hwne))).trans (K0 _ hbn), ((set_far _ _ hwne).trans ((set_far _ _ hwne).trans (set_far _ _ hwne))).trans (K1 _ hbn)⟩)
                (first
                  | (go_at_call_of 27 (Value.slice a0 n0 c0); refine (q0 _ hb3.drew).mono ?_; rintro r w4 ⟨ra0, rn0, rc0, B0, A0, rfl, hO0, hbs0, hbn⟩)
                  | (go_at_call_of 27 (Value.slice a1 n1 c1); refine (q1 _ hbn).mono ?_; rintro r w5 ⟨ra1, rn1, rc1, B1, A1, rfl, hO1, hbs1, hbn⟩)
                  | (go_at_call 28; refine (q2 _ ((show Below w3.heap.size w3 w4 from (Below.refl _ _).drew.trans hbs0).trans (hbs1.mono hbs0.size))).mono ?_; rintro r w6 ⟨ra2, rn2, rc2, B2, A2, rfl, hO2, hbs2, hbn⟩; obtain ⟨l0, l1, l2, z0, z1, z2⟩ := L0 w6 hbn))
              go_wp2
              refine bodyPost_ret (results_cellrow_tmp rfl _ _ (w.heap.size + 1) 30 #[.slice ra0 rn0 rc0, .slice ra1 rn1 rc1, .slice ra2 rn2 rc2] (0, 0) _ rfl (fin w6 hbn _ _ _) Try.underlying30 rfl progInfo) rfl ?_
              have z1 : W.heap.size ≤ w3.heap.size := hb3.size
              have z2 : w3.heap.size ≤ w4.heap.size := hbs0.size
              have z3 := hbs1.size
              have z4 := hbs2.size
              have O0 := ((hO0.below hbs1).below hbs2).low (lo' := W.heap.size) z1
              have O1 := (hO1.below hbs2).low (lo' := W.heap.size) (by omega)
              have O2 := hO2.low (lo' := W.heap.size) (by omega)
              have r0 := fun b hb => (hO0.lo b hb).2
              have r1 := fun b hb => hO1.lo b hb
              have r2 := fun b hb => (hO2.lo b hb).1
              have keep : ∀ {v : Value} {sz : Nat} {xs : List (List C)} {B : List Nat} {A : List Addr}, Own w6 W.heap.size v sz xs B A → TR (((w6.setCell ⟨w.heap.size + 1, 0, none⟩ (.slice ra0 rn0 rc0)).setCell ⟨w.heap.size + 1, 1, none⟩ (.slice ra1 rn1 rc1)).setCell ⟨w.heap.size + 1, 2, none⟩ (.slice ra2 rn2 rc2)) v sz xs B A := fun h => h.tr.frame fun b hb => by
                have := (h.lo b hb).1
                rw [set_other _ _ _ (by simp; omega), set_other _ _ _ (by simp; omega), set_other _ _ _ (by simp; omega)]
              refine ⟨_, true, _, B0 ++ (B1 ++ B2), A0 ++ (A1 ++ A2), rfl, hR, ⟨⟨ra0, rn0, rc0, ra1, rn1, rc1, ra2, rn2, rc2, B0, A0, B1, A1, B2, A2, rfl, rfl, rfl, keep O0, keep O1, keep O2⟩, ?_, fun b hb => ?_⟩, finB w6 hbn _ _ _⟩
              · rw [List.nodup_append, List.nodup_append]
                refine ⟨hO0.nd, ⟨hO1.nd, hO2.nd, fun x hx y hy e => ?_⟩, fun x hx y hy e => ?_⟩
                · have := r1 x hx; have := r2 y hy; omega
                · have := r0 x hx
                  rcases List.mem_append.1 hy with hy | hy
                  · have := r1 y hy; omega
                  · have := r2 y hy; omega
              · have hsz : ∀ (u : World) (a : Addr) (x : Value), (u.setCell a x).heap.size = u.heap.size := fun u a x => by simp [World.setCell]
                rw [hsz, hsz, hsz]
                rcases List.mem_append.1 hb with hb | hb
                · have := O0.lo b hb; omega
                · rcases List.mem_append.1 hb with hb | hb
                  · have := O1.lo b hb; omega
                  · have := O2.lo b hb; omega
            · have hcc : ¬ (((N ||| set N : Nat) : Int) = (N : Int)) := by omega
              have hge : N ≤ N ||| set N := Nat.left_le_or
              go_wp2_with (go_at_call 26; refine hsN.mono ?_; rintro e w3 ⟨la, ln, lc, rfl, hpl, hb3⟩; replace hb3 := hbr2.trans (hb3.mono hbr2.size))
              exact ⟨⟨_, hstN heq, rfl, hb3⟩, by simp [intOf]; omega⟩
    · have hR := hbad (.inr hlen)
      have hnb := hb.len
      simp only [List.length_map] at hnb
      subst hnb
      have hlen2 : ¬ ((ws.length : Int) = (nc : Int)) := by omega
      have hcW := fun wx h => hc wx _ (hPP wx h)
      clear hbad hfin hstep h0 hI ha hal hs hc ht hv hset hNB hPP
      go_enter Try.func8, Try.ntmps8
      go_wp2_with (first
        | (go_at_call 23; rw [← hW]; refine hvW.mono ?_; rintro e w1 ⟨rfl, hb1⟩; have k0 := K0 w1 hb1; have k1 := K1 w1 hb1; have k2 := K2 w1 hb1)
        | (go_at_call 24; refine (hcW w1 hb1).mono ?_; rintro e w2 ⟨rfl, hb2⟩; replace hb2 := hb1.trans (hb2.mono hb1.size); obtain ⟨l0, l1, l2, z0, z1, z2⟩ := L0 w2 hb2))
      refine bodyPost_ret (results_cellrow_tmp rfl _ _ (w.heap.size + 1) 30 #[.slice none 0 0, .slice none 0 0, .slice none 0 0] (0, 0) _ rfl (fin w2 hb2 _ _ _) Try.underlying30 rfl progInfo) rfl ?_
      exact ⟨_, false, _, [], [], rfl, hR, op_nil _ _, finB w2 hb2 _ _ _⟩
end Go.Proofs.Ytlapccpnilomfaa.CtT
