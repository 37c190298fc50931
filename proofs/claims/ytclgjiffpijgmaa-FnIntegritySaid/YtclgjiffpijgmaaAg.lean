/- Contracts of functions of the program, one behind the other, as plain data: what each call returns and which blocks it leaves. -/
import Derived.Test.YtclgjiffpijgmaaFacts
import Derived.Test.YtclgjiffpijgmaaAe
import Derived.Test.YtclgjiffpijgmaaAf
import Derived.Test.YtclgjiffpijgmaaAd
set_option linter.unusedVariables false
set_option linter.unusedSimpArgs false
set_option maxHeartbeats 16000000
set_option maxRecDepth 100000
namespace Go.Proofs.Ytclgjiffpijgmaa.CtD
open Go Go.CT CtF

/-- A reader: its bytes and how far it is. -/
def rdr (bs : List Int) (p : Int) : List C := [.isl 1 (bs.map fun n => [.v (.int .u8 n)]), .v (.int .i64 p)]

theorem l17Open (bs : List Int) (hl : bs.length ≤ mx) : DC Try.prog 54 [bytesD bs] [] (fun d h => d = .c (.ptr 0 0) ∧ h = [some (rdr (bs.take 2000) 0)]) := by
  have hmx := mx_eq
  refine dc_of_go Try.func54 rfl (by simp) ?_
  refine drv_sound (n := 100) (rs := _) Try.func54 mo rfl none _ _ ?_
  simp (maxSteps := 10000000) (maxDischargeDepth := 300) only [go_sem, bytesD]
  refine ⟨fun h => ⟨by omega, ?_⟩, fun h => ?_⟩
  · refine RetOb.of (fun k => if k = 0 then some 576 else none) [] (.c (.ptr 0 0)) [some (rdr (bs.take 2000) 0)] ?_ ?_ ⟨rfl, rfl⟩ (by simp)
    · exact subH_one rfl (by simp [rdr, upd_same]) (by simp [rdr, kf])
    · simp [DM, CM, hpL]
  · refine RetOb.of (fun k => if k = 0 then some 384 else none) [] (.c (.ptr 0 0)) [some (rdr (bs.take 2000) 0)] ?_ ?_ ⟨rfl, rfl⟩ (by simp)
    · exact subH_one rfl (by simp [rdr, upd_same, List.take_of_length_le (show bs.length ≤ 2000 by omega)]) (by simp [rdr, kf])
    · simp [DM, CM, hpL]

theorem pick (bs : List Int) (p : Nat) (n : Int) (hb : Fits .u8 bs) (hl : bs.length ≤ 2000) (h1 : p ≤ 1099511627776) (hn : InK .i64 n) : DC Try.prog 58 [.c (.ptr 0 0), DI .i64 n] [some (rdr bs p)]
    (fun d h => ∃ v : Int, d = DI .i64 v ∧ ((n < 1 ∨ bs = []) ∧ v = 0 ∨ 0 ≤ v ∧ v < n) ∧ h = [some (rdr bs ((p + 1 : Nat) : Int))]) := by
  have hmx := mx_eq
  refine dc_of_go Try.func58 rfl (by simp) ?_
  have ret : ∀ (v : Int) (hp : Hp), ((n < 1 ∨ bs = []) ∧ v = 0 ∨ 0 ≤ v ∧ v < n) → hp 0 = some (some [.isl 1 (bs.map fun n => [.v (.int .u8 n)]), .v (.int .i64 (p + 1))]) →
      RetOb 1 (fun d h => ∃ v : Int, d = .c (.v (.int .i64 v)) ∧ ((n < 1 ∨ bs = []) ∧ v = 0 ∨ 0 ≤ v ∧ v < n) ∧ h = [some [.isl 1 (bs.map fun n => [.v (.int .u8 n)]), .v (.int .i64 (p + 1))]]) (.c (.v (.int .i64 v))) hp := fun v hp hv hhp => by
    refine RetOb.of (fun k => if k = 0 then some 0 else none) [] (DI .i64 v) [_] (subH_one' rfl hhp (by simp [kf]) (by simp)) (by simp [DM, CM, DI]) ⟨v, rfl, hv, rfl⟩ (by simp)
  refine drv_sound (n := 37) (rs := _) Try.func58 mo rfl none _ _ ?_
  simp (maxSteps := 10000000) (maxDischargeDepth := 300) only [go_sem, rdr, List.length_eq_zero_iff, Int.natCast_eq_zero]
  refine ⟨by simp only [InK]; omega, fun h => ret _ _ (.inl ⟨h, rfl⟩) (upd_same _ _ _), fun h => ?_⟩
  have hbl : 0 < bs.length := List.length_pos_iff.2 h.2
  have hby : ∀ {j : Nat} {x : Int}, bs[j]? = some x → 0 ≤ x ∧ x ≤ 255 := fun {j x} hx => by
    obtain ⟨hlt, e⟩ := List.getElem?_eq_some_iff.1 hx
    exact hb x (e ▸ List.getElem_mem hlt)
  have hrem : ∀ a : Int, 0 ≤ a → 0 ≤ a % n ∧ a % n < n := fun a _ => ⟨Int.emod_nonneg _ (by omega), Int.emod_lt_of_pos _ (by omega)⟩
  refine drv_sound (n := 100) (rs := _) Try.func58 mo rfl (some _) _ _ ?_
  rcases Nat.lt_or_ge p bs.length with hlt | hge
  · obtain ⟨x, hx⟩ : ∃ x, bs[p]? = some x := ⟨bs[p], by simp⟩
    have hxb := hby hx
    have hnlt : ¬ bs.length ≤ p := by omega
    simp (maxSteps := 10000000) (maxDischargeDepth := 300) only [go_sem, hx, hlt, hnlt]
    exact ⟨by simp only [InK]; omega, by simp only [InK]; omega, by omega, ret _ _ (.inr (hrem x hxb.1)) (upd_same _ _ _)⟩
  · have hnlt : ¬ p < bs.length := by omega
    have hm1 : ((p : Int) % bs.length).toNat < bs.length := by
      have := Int.emod_lt_of_pos (p : Int) (b := bs.length) (by omega)
      have := Int.emod_nonneg (p : Int) (b := bs.length) (by omega)
      omega
    have hm2 : (((p : Int) * 7 + 3) % bs.length).toNat < bs.length := by
      have := Int.emod_lt_of_pos ((p : Int) * 7 + 3) (b := bs.length) (by omega)
      have := Int.emod_nonneg ((p : Int) * 7 + 3) (b := bs.length) (by omega)
      omega
    obtain ⟨x, hx⟩ : ∃ x, bs[((p : Int) % bs.length).toNat]? = some x := ⟨_, List.getElem?_eq_getElem hm1⟩
    obtain ⟨y, hy⟩ : ∃ x, bs[(((p : Int) * 7 + 3) % bs.length).toNat]? = some x := ⟨_, List.getElem?_eq_getElem hm2⟩
    have hxb := hby hx
    have hyb := hby hy
    simp (maxSteps := 10000000) (maxDischargeDepth := 300) only [go_sem, hx, hy, hge, hnlt]
    have hq0 : 0 ≤ (p : Int) / bs.length := Int.ediv_nonneg (by omega) (by omega)
    have hq1 : (p : Int) / bs.length ≤ p := Int.ediv_le_self _ (by omega)
    generalize (p : Int) / bs.length = q at *
    repeat' with_reducible apply And.intro
    all_goals first | kernel_rfl | (simp only [InK]; omega) | omega | exact Int.emod_nonneg _ (by omega) | exact ret _ _ (.inr (hrem _ (Int.natCast_nonneg _))) (upd_same _ _ _)

theorem num (bs : List Int) (p : Nat) (xs : List Int) (hb : Fits .u8 bs) (hl : bs.length ≤ 2000) (h1 : p ≤ 1099511627776) (hx0 : 0 < xs.length) (hx1 : xs.length ≤ mx) : DC Try.prog 100 [.c (.ptr 0 0), ints xs] [some (rdr bs p)]
    (fun d h => ∃ v : Int, d = DI .i64 v ∧ v ∈ xs ∧ h = [some (rdr bs ((p + 1 : Nat) : Int))]) := by
  have hmx := mx_eq
  refine dc_of_go Try.func100 rfl (by simp) ?_
  refine drv_sound (n := 100) (rs := _) Try.func100 mo rfl none _ _ ?_
  simp (maxSteps := 10000000) (maxDischargeDepth := 300) only [go_sem, rdr, ints]
  refine XK.callG [0] (pick bs p xs.length hb hl h1 (by simp only [InK]; omega)) ok58 (hhp_one rfl) (fun j hj => by simp [hpL]) (fun d h' ⟨v, _, _, e⟩ => by subst e; simp) ?_
  rintro d h' ⟨v, rfl, hv, rfl⟩ _
  have hv2 : 0 ≤ v ∧ v < xs.length := by
    rcases hv with ⟨h | h, _⟩ | h
    · omega
    · omega
    · exact h
  refine drv_sound (n := 100) (rs := _) Try.func100 mo rfl (some _) _ _ ?_
  obtain ⟨y, hy⟩ : ∃ y, xs[v.toNat]? = some y := ⟨xs[v.toNat]'(by omega), List.getElem?_eq_getElem (by omega)⟩
  have hmem : y ∈ xs := List.mem_of_getElem? hy
  simp (maxSteps := 10000000) (maxDischargeDepth := 300) only [go_sem, rdr, ints, hy]
  exact ⟨by omega, RetOb.keep1 (d := DI .i64 y) (cs := rdr bs ((p + 1 : Nat) : Int)) ⟨y, rfl, hmem, rfl⟩ rfl (by simp [rdr, kf]) rfl⟩
end Go.Proofs.Ytclgjiffpijgmaa.CtD

namespace Go.Proofs.Ytclgjiffpijgmaa.CtD
open Go Go.CT CtF CtR

/-- What a draw leaves of the reader: a later position, at most k further. -/
def rdL (bs : List Int) (n k : Nat) (h : List (Option (List C))) : Prop := ∃ n' : Nat, n ≤ n' ∧ n' ≤ n + k ∧ h = [some (rdr bs n')]

theorem rdr_kf (bs : List Int) (n : Int) : ∀ c ∈ rdr bs n, kf c = true := by simp [rdr, kf]

theorem l3Value (bs : List Int) (n : Nat) (hb : Fits .u8 bs) (hl : bs.length ≤ 2000) (h1 : n + 4 ≤ 1099511627776) : DC Try.prog 59 [.c (.ptr 0 0)] [some (rdr bs n)]
    (fun d h => ∃ v : Int, d = DI .i64 v ∧ (0 ≤ v ∧ v ≤ 255) ∧ rdL bs n 1 h) := by
  have hmx := mx_eq
  refine dc_of_go Try.func59 rfl (by simp) ?_
  refine drv_sound (n := 100) (rs := _) Try.func59 mo rfl none _ _ ?_
  simp (maxSteps := 9999999) only [go_sem, rdr]
  refine ⟨by decide, ?_⟩
  refine XK.freeze 4 129 1 9 [[.v (.int .i64 0)], [.v (.int .i64 1)], [.v (.int .i64 2)], [.v (.int .i64 3)], [.v (.int .i64 255)], [.v (.int .i64 128)], [.v (.int .i64 7)], [.v (.int .i64 4)], [.v (.int .i64 100)]] ?_ rfl
  refine XK.callG [0] (num bs n [0, 1, 2, 3, 255, 128, 7, 4, 100] hb hl (by omega) (by decide) (by decide)) ok100 (hhp_one rfl) (hbT ()) (fun d h' ⟨v, _, _, e⟩ => by subst e; simp) ?_
  rintro d h' ⟨v, rfl, hv, rfl⟩ _
  refine drv_sound (n := 100) (rs := _) Try.func59 mo rfl (some _) _ _ ?_
  simp (maxSteps := 9999999) only [go_sem, rdr]
  refine RetOb.keep1 (d := DI .i64 v) (cs := rdr bs ((n + 1 : Nat) : Int)) ⟨v, rfl, ?_, n + 1, by omega, by omega, rfl⟩ rfl (rdr_kf _ _) rfl
  simp at hv; omega

theorem l1Draw (bs : List Int) (n : Nat) (hb : Fits .u8 bs) (hl : bs.length ≤ 2000) (h1 : n + 4 ≤ 1099511627776) : DC Try.prog 115 [.c (.ptr 0 0)] [some (rdr bs n)]
    (fun d h => ∃ v : Int, d = DI .i64 v ∧ InK .i64 v ∧ rdL bs n 2 h) := by
  have hmx := mx_eq
  refine dc_of_go Try.func115 rfl (by simp) ?_
  refine drv_sound (n := 100) (rs := _) Try.func115 mo rfl none _ _ ?_
  simp (maxSteps := 9999999) only [go_sem, rdr]
  refine XK.callG [0] (pick bs n 12 hb hl (by omega) (by simp only [InK]; omega)) ok58 (hhp_one rfl) (hbT ()) (fun d h' ⟨v, _, _, e⟩ => by subst e; simp) ?_
  rintro d h' ⟨v, rfl, hv, rfl⟩ _
  refine drv_sound (n := 100) (rs := _) Try.func115 mo rfl (some _) _ _ ?_
  simp (maxSteps := 9999999) only [go_sem, rdr]
  refine ⟨fun h0 => ?_, fun h0 => ?_⟩
  · refine ⟨by decide, ?_⟩
    refine XK.freeze 7 321 1 4 [[.v (.int .i64 (-1))], [.v (.int .i64 4)], [.v (.int .i64 9223372036854775807)], [.v (.int .i64 (-9223372036854775808))]] ?_ rfl
    refine XK.callG [0] (num bs (n + 1) [-1, 4, 9223372036854775807, -9223372036854775808] hb hl (by omega) (by decide) (by decide)) ok100 (hhp_one rfl) (hbT ()) (fun d h' ⟨v, _, _, e⟩ => by subst e; simp) ?_
    rintro d h' ⟨v2, rfl, hv2, rfl⟩ _
    refine drv_sound (n := 100) (rs := _) Try.func115 mo rfl (some _) _ _ ?_
    simp (maxSteps := 9999999) only [go_sem, rdr]
    refine RetOb.keep1 (d := DI .i64 v2) (cs := rdr bs ((n + 2 : Nat) : Int)) ⟨v2, rfl, by simp at hv2; simp only [InK]; omega, n + 2, by omega, by omega, rfl⟩ rfl (rdr_kf _ _) rfl
  · refine XK.callG [0] (pick bs (n + 1) 4 hb hl (by omega) (by simp only [InK]; omega)) ok58 (hhp_one rfl) (hbT ()) (fun d h' ⟨v, _, _, e⟩ => by subst e; simp) ?_
    rintro d h' ⟨v2, rfl, hv2, rfl⟩ _
    refine drv_sound (n := 100) (rs := _) Try.func115 mo rfl (some _) _ _ ?_
    simp (maxSteps := 9999999) only [go_sem, rdr]
    refine RetOb.keep1 (d := DI .i64 v2) (cs := rdr bs ((n + 2 : Nat) : Int)) ⟨v2, rfl, by simp only [InK]; omega, n + 2, by omega, by omega, rfl⟩ rfl (rdr_kf _ _) rfl

/-- An expression of one node, a constant or a variable. -/
def AtomE (e : Ex) : Prop := ∃ k v, e = .mk k v [] ∧ InK .i64 v ∧ (k = 1 ∨ k = 2)

theorem l2DrawAtom (bs : List Int) (n : Nat) (p : Pg) (hb : Fits .u8 bs) (hl : bs.length ≤ 2000) (h1 : n + 4 ≤ 1099511627776) (hp : p.vars.length ≤ mx) : DC Try.prog 159 [.c (.ptr 0 0), .agg p.cells] [some (rdr bs n)]
    (fun d h => ∃ e : Ex, d = .agg e.cells ∧ AtomE e ∧ rdL bs n 2 h) := by
  have hmx := mx_eq
  obtain ⟨vs, ar, bd⟩ := p
  have hp : vs.length ≤ mx := hp
  refine dc_of_go Try.func159 rfl (by simp) ?_
  refine drv_sound (n := 100) (rs := _) Try.func159 mo rfl none _ _ ?_
  simp (maxSteps := 9999999) only [go_sem, rdr]
  refine XK.callG [0] (pick bs n 3 hb hl (by omega) (by simp only [InK]; omega)) ok58 (hhp_one rfl) (hbT ()) (fun d h' ⟨v, _, _, e⟩ => by subst e; simp) ?_
  rintro d h' ⟨v, rfl, hv, rfl⟩ _
  refine drv_sound (n := 100) (rs := _) Try.func159 mo rfl (some _) _ _ ?_
  simp (maxSteps := 9999999) only [go_sem, rdr]
  refine ⟨fun h0 => ?_, fun h0 => ?_⟩
  · refine ⟨by decide, ?_⟩
    refine XK.freeze 9 385 1 7 [[.v (.int .i64 1)], [.v (.int .i64 0)], [.v (.int .i64 2)], [.v (.int .i64 3)], [.v (.int .i64 255)], [.v (.int .i64 7)], [.v (.int .i64 128)]] ?_ rfl
    refine XK.callG [0] (num bs (n + 1) [1, 0, 2, 3, 255, 7, 128] hb hl (by omega) (by decide) (by decide)) ok100 (hhp_one rfl) (hbT ()) (fun d h' ⟨v, _, _, e⟩ => by subst e; simp) ?_
    rintro d h' ⟨v2, rfl, hv2, rfl⟩ _
    refine drv_sound (n := 100) (rs := _) Try.func159 mo rfl (some _) _ _ ?_
    simp (maxSteps := 9999999) only [go_sem, rdr]
    simp at hv2
    refine RetOb.ofQ (fun j => if j = 0 then some 0 else none) [] (.agg (Ex.cells (.mk 1 v2 []))) [some (rdr bs ((n + 2 : Nat) : Int))] ?_ ⟨.mk 1 v2 [], rfl, ⟨1, v2, rfl, ?_, by simp⟩, n + 2, by omega, by omega, rfl⟩ (by simp)
    · simp [enumL, hOf, DM, DMs, CM, CMs, HpOK, LowOK, upd, Ex.cells, Ex.cellsL, rdr]
      try omega
    · simp only [InK]; omega
  · refine XK.callG [0] (pick bs (n + 1) vs.length hb hl (by omega) (by simp only [InK]; omega)) ok58 (hhp_one rfl) (hbT ()) (fun d h' ⟨v, _, _, e⟩ => by subst e; simp) ?_
    rintro d h' ⟨v2, rfl, hv2, rfl⟩ _
    refine drv_sound (n := 100) (rs := _) Try.func159 mo rfl (some _) _ _ ?_
    simp (maxSteps := 9999999) only [go_sem, rdr]
    refine RetOb.ofQ (fun j => if j = 0 then some 0 else none) [] (.agg (Ex.cells (.mk 2 v2 []))) [some (rdr bs ((n + 2 : Nat) : Int))] ?_ ⟨.mk 2 v2 [], rfl, ⟨2, v2, rfl, ?_, by simp⟩, n + 2, by omega, by omega, rfl⟩ (by simp)
    · simp [enumL, hOf, DM, DMs, CM, CMs, HpOK, LowOK, upd, Ex.cells, Ex.cellsL, rdr]
      try omega
    · simp only [InK]; omega
end Go.Proofs.Ytclgjiffpijgmaa.CtD

namespace Go.Proofs.Ytclgjiffpijgmaa.CtD
open Go Go.CT CtF CtR

/-- num, its list a block that the caller keeps. -/
theorem numO (bs : List Int) (p : Nat) (xs : List Int) (hb : Fits .u8 bs) (hl : bs.length ≤ 2000) (h1 : p ≤ 1099511627776) (hx0 : 0 < xs.length) (hx1 : xs.length ≤ mx) : DC Try.prog 100 [.c (.ptr 0 0), .c (.msl 1 1 0 xs.length)] [some (rdr bs p), some (xs.map I64)]
    (fun d h => ∃ v : Int, d = DI .i64 v ∧ v ∈ xs ∧ h = [some (rdr bs ((p + 1 : Nat) : Int)), some (xs.map I64)]) := by
  have hmx := mx_eq
  refine dc_of_go Try.func100 rfl (by simp) ?_
  refine drv_sound (n := 100) (rs := _) Try.func100 mo rfl none _ _ ?_
  simp (maxSteps := 9999999) only [go_sem, rdr]
  refine XK.callG [0] (pick bs p xs.length hb hl h1 (by simp only [InK]; omega)) ok58 (hhp_one rfl) (hbT ()) (fun d h' ⟨v, _, _, e⟩ => by subst e; simp) ?_
  rintro d h' ⟨v, rfl, hv, rfl⟩ _
  have hv2 : 0 ≤ v ∧ v < xs.length := by
    rcases hv with ⟨h | h, _⟩ | h
    · omega
    · omega
    · exact h
  obtain ⟨y, hy⟩ : ∃ y, xs[v.toNat]? = some y := ⟨xs[v.toNat]'(by omega), List.getElem?_eq_getElem (by omega)⟩
  have hmem : y ∈ xs := List.mem_of_getElem? hy
  refine drv_sound (n := 100) (rs := _) Try.func100 mo rfl (some _) _ _ ?_
  simp (maxSteps := 9999999) only [go_sem, rdr, hy]
  refine ⟨by omega, ?_⟩
  refine RetOb.ofQ (fun j => if j < 2 then some j else none) [] (DI .i64 y) [some (rdr bs ((p + 1 : Nat) : Int)), some (xs.map I64)] ?_ ⟨y, rfl, hmem, rfl⟩ (by simp)
  simp [enumL, hOf, DM, CM, CMs, HpOK, LowOK, upd, rdr, CMs_I, hpL]

/-- Small expressions: no node has more than three children. -/
inductive SmE : Ex → Prop
  | mk (k v : Int) (ks : List Ex) (h : ks.length ≤ 3) (h2 : ∀ x ∈ ks, SmE x) : SmE (.mk k v ks)
theorem SmE.atom {e : Ex} (h : AtomE e) : SmE e := by
  obtain ⟨k, v, rfl, _, _⟩ := h
  exact .mk k v [] (by simp) (fun x hx => by simp at hx)
def exC (l : List Ex) : List C := (l.map Ex.cells).flatten
theorem exC_len (l : List Ex) : (exC l).length = l.length * 3 := by
  unfold exC
  induction l with
  | nil => rfl
  | cons a r ih => simp only [List.map_cons, List.flatten_cons, List.length_append, ih, Ex.cells_len, List.length_cons]; omega
theorem ex_kf (e : Ex) : ∀ c ∈ e.cells, kf c = true := by cases e; simp [Ex.cells, kf]
theorem exC_kf (l : List Ex) : ∀ c ∈ exC l, kf c = true := by
  unfold exC
  intro c hc
  obtain ⟨x, hx, hc⟩ := List.mem_flatten.1 hc
  obtain ⟨e, _, rfl⟩ := List.mem_map.1 hx
  exact ex_kf e c hc
theorem exC_snoc (l : List Ex) (e : Ex) : exC (l ++ [e]) = exC l ++ e.cells := by simp [exC]
theorem hhp2 {hp : Hp} {r : Nat → Nat} {k0 k1 : Nat} {h0 h1 : Option (List C)} (e0 : hp k0 = some (h0.map (renCs r))) (e1 : hp k1 = some (h1.map (renCs r))) : ∀ i' x, [h0, h1][i']? = some x → hp ([k0, k1].getD i' 0) = some (x.map (renCs r)) := by
  intro i' x hx
  match i', hx with
  | 0, hx => simp only [List.getElem?_cons_zero, Option.some.injEq] at hx; subst hx; exact e0
  | 1, hx => simp only [List.getElem?_cons_succ, List.getElem?_cons_zero, Option.some.injEq] at hx; subst hx; exact e1
  | i' + 2, hx => simp at hx
def KD (d : Nat) : Nat := 4 ^ (d + 1)

theorem l2Draw (bs : List Int) (p : Pg) (hb : Fits .u8 bs) (hl : bs.length ≤ 2000) (hp : p.vars.length ≤ mx) (hp2 : p.arrays.length ≤ mx) : ∀ (d n : Nat), d ≤ 8 → n + KD d ≤ 1099511627776 → DC Try.prog 173 [.c (.ptr 0 0), .agg p.cells, DI .i64 d] [some (rdr bs n)]
    (fun r h => ∃ e : Ex, r = .agg e.cells ∧ SmE e ∧ rdL bs n (KD d) h) := by
  have hmx := mx_eq
  intro d
  induction d using Nat.strongRecOn with
  | _ d ih =>
    intro n hd hn
    have hat := fun n h => l2DrawAtom bs n p hb hl h hp
    obtain ⟨vs, ar, bd⟩ := p
    have hp : vs.length ≤ mx := hp
    have hp2 : ar.length ≤ mx := hp2
    have hk : 16 ≤ KD d ∨ d = 0 := by
      rcases d with _ | d
      · exact .inr rfl
      · left; unfold KD; rw [Nat.pow_succ, Nat.pow_succ]; have : 0 < 4 ^ d := Nat.pow_pos (by decide); omega
    have hk4 : 4 ≤ KD d := by unfold KD; rw [Nat.pow_succ]; have : 0 < 4 ^ d := Nat.pow_pos (by decide); omega
    by_cases hd2 : d < 2
    · have h2 : ((d : Int) < 2) = True := eq_true (by omega)
      refine dcZ Try.func173 ?_
      simp (maxSteps := 9999999) only [go_sem, h2, rdr]
      refine XK.gskip 2 false (DI .i64 0) ?_ (hbT ())
      iterate 2 (try (refine drvZ Try.func173 ?_; simp (maxSteps := 9999999) only [go_sem, h2, rdr]))
      refine XK.callG [0] (hat n (by omega)) ok159 (hhp_one rfl) (hbT ()) (fun d h' ⟨_, _, _, _, _, _, e⟩ => by subst e; simp) ?_
      rintro _ _ ⟨⟨k, v, ks⟩, rfl, he, n', hn1, hn2, rfl⟩ _
      iterate 2 (try (refine drvZ Try.func173 ?_; simp (maxSteps := 9999999) only [go_sem, rdr]))
      exact RetOb.keep1 (d := .agg (Ex.cells (.mk k v ks))) (cs := rdr bs n') ⟨.mk k v ks, rfl, SmE.atom he, n', hn1, by omega, rfl⟩ rfl (rdr_kf _ _) (ex_kf _)
    · obtain ⟨d', rfl⟩ : ∃ d', d = d' + 1 := ⟨d - 1, by omega⟩
      have h2 : ((d' : Int) + 1 < 2) = False := eq_false (by omega)
      have hKK : KD (d' + 1) = 4 * KD d' := by unfold KD; rw [Nat.pow_succ]; omega
      have hk1 : 16 ≤ KD d' := by
        obtain ⟨d2, rfl⟩ : ∃ d2, d' = d2 + 1 := ⟨d' - 1, by omega⟩
        unfold KD; rw [Nat.pow_succ, Nat.pow_succ]; have : 0 < 4 ^ d2 := Nat.pow_pos (by decide); omega
      have hk16 : 16 ≤ KD (d' + 1) := by omega
      refine dcZ Try.func173 ?_
      simp (maxSteps := 9999999) only [go_sem, h2, rdr]
      iterate 2 (try (refine drvZ Try.func173 ?_; simp (maxSteps := 9999999) only [go_sem, h2, rdr]))
      refine XK.callT 2 false [0] (pick bs n 4 hb hl (by omega) (by simp only [InK]; omega)) ok58 (hhp_one rfl) (hbT ()) (fun d h' ⟨v, _, _, e⟩ => by subst e; simp) ?_
      rintro _ _ ⟨v0, rfl, hv0, rfl⟩ _
      by_cases hz : v0 = 0
      · subst hz
        iterate 3 (try (refine drvZ Try.func173 ?_; simp (maxSteps := 9999999) only [go_sem, h2, rdr]))
        refine XK.callG [0] (hat (n + 1) (by omega)) ok159 (hhp_one rfl) (hbT ()) (fun d h' ⟨_, _, _, _, _, _, e⟩ => by subst e; simp) ?_
        rintro _ _ ⟨⟨k, v, ks⟩, rfl, he, n', hn1, hn2, rfl⟩ _
        iterate 2 (try (refine drvZ Try.func173 ?_; simp (maxSteps := 9999999) only [go_sem, rdr]))
        exact RetOb.keep1 (d := .agg (Ex.cells (.mk k v ks))) (cs := rdr bs n') ⟨.mk k v ks, rfl, SmE.atom he, n', by omega, by omega, rfl⟩ rfl (rdr_kf _ _) (ex_kf _)
      · have hzb : (v0 == 0) = false := by simp [hz]
        iterate 3 (try (refine drvZ Try.func173 ?_; simp (maxSteps := 9999999) only [go_sem, h2, rdr, hz, hzb]))
        refine ⟨by decide, ?_⟩
        refine XK.callG [0, 641] (numO bs (n + 1) [4, 10, 8, 9, 3, 6, 7, 5, 11] hb hl (by omega) (by decide) (by decide)) ok100 (hhp2 rfl rfl) (hbT ()) (fun d h' ⟨_, _, _, e⟩ => by subst e; simp) ?_
        rintro _ _ ⟨kv, rfl, hkv, rfl⟩ _
        have hat2 := hat (n + 2) (by omega)
        by_cases hk3 : kv = 3
        · subst hk3
          by_cases ha0 : ar.length = 0
          · have e1 : ((ar.length : Int) == 0) = true := by simp [ha0]
            have e2 : ((ar.length : Int) = 0) = True := eq_true (by omega)
            iterate 4 (try (refine drvZ Try.func173 ?_; simp (maxSteps := 9999999) only [go_sem, h2, rdr, e1, e2]))
            refine XK.callG [0] (hat (n + 2) (by omega)) ok159 (hhp_one rfl) (hbT ()) (fun d h' ⟨_, _, _, _, _, _, e⟩ => by subst e; simp) ?_
            rintro _ _ ⟨⟨k, v, ks⟩, rfl, he, n', hn1, hn2, rfl⟩ _
            iterate 2 (try (refine drvZ Try.func173 ?_; simp (maxSteps := 9999999) only [go_sem, rdr]))
            exact RetOb.keep1 (d := .agg (Ex.cells (.mk k v ks))) (cs := rdr bs n') ⟨.mk k v ks, rfl, SmE.atom he, n', by omega, by omega, rfl⟩ rfl (rdr_kf _ _) (ex_kf _)
          · have e1 : ((ar.length : Int) == 0) = false := by simp only [beq_eq_false_iff_ne]; omega
            have e2 : ((ar.length : Int) = 0) = False := eq_false (by omega)
            iterate 4 (try (refine drvZ Try.func173 ?_; simp (maxSteps := 9999999) only [go_sem, h2, rdr, e1, e2]))
            (repeat' with_reducible apply And.intro) <;> (try first | omega | (simp only [InK]; omega) | (intro k e; cases e; rfl) | (intro hguard; exact ⟨hguard, by simp only [InK]; omega⟩) | kernel_rfl)
            iterate 3 (try (refine drvZ Try.func173 ?_; simp (maxSteps := 9999999) only [go_sem, h2, rdr, e1, e2]))
            (repeat' with_reducible apply And.intro) <;> (try first | omega | (simp only [InK]; omega) | (intro k e; cases e; rfl) | (intro hguard; exact ⟨hguard, by simp only [InK]; omega⟩) | kernel_rfl)
            refine XK.callG [0] (pick bs (n + 2) ar.length hb hl (by omega) (by simp only [InK]; omega)) ok58 (hhp_one rfl) (hbT ()) (fun d h' ⟨v, _, _, e⟩ => by subst e; simp) ?_ (fun _ => ⟨by kernel_rfl, _, _, ⟨0, rfl, by omega, rfl⟩, by simp⟩)
            rintro _ _ ⟨v1, rfl, hv1, rfl⟩ _
            iterate 2 (try (refine drvZ Try.func173 ?_; simp (maxSteps := 9999999) only [go_sem, h2, rdr]))
            (repeat' with_reducible apply And.intro) <;> (try first | omega | (simp only [InK]; omega) | (intro k e; cases e; rfl) | (intro hguard; exact ⟨hguard, by simp only [InK]; omega⟩) | kernel_rfl)
            refine XK.callG [0] (hat (n + 3) (by omega)) ok159 (hhp_one rfl) (hbT ()) (fun d h' ⟨_, _, _, _, _, _, e⟩ => by subst e; simp) ?_ (fun _ => ⟨by kernel_rfl, _, _, ⟨.mk 2 0 [], rfl, ⟨2, 0, rfl, by simp only [InK]; omega, .inr rfl⟩, n + 3, by omega, by omega, rfl⟩, by simp⟩)
            rintro _ _ ⟨⟨k, v, ks⟩, rfl, he, n', hn1, hn2, rfl⟩ _
            iterate 3 (try (refine drvZ Try.func173 ?_; simp (maxSteps := 9999999) only [go_sem, h2, rdr]))
            (repeat' with_reducible apply And.intro) <;> (try first | omega | (simp only [InK]; omega) | (intro k e; cases e; rfl) | (intro hguard; exact ⟨hguard, by simp only [InK]; omega⟩) | kernel_rfl)
            refine RetOb.ofQ (fun j => if j = 0 then some 0 else none) [1793] (.agg (Ex.cells (.mk 3 v1 [.mk k v ks]))) [some (rdr bs n')] ?_ ⟨.mk 3 v1 [.mk k v ks], rfl, .mk _ _ _ (by simp) (fun x hx => by simp at hx; subst hx; exact SmE.atom he), n', by omega, by omega, rfl⟩ (by simp)
            simp [enumL, hOf, DM, DMs, CM, CMs, HpOK, LowOK, upd, Ex.cells, Ex.cellsL, rdr, kf]
        · have e1 : (kv == 3) = false := by simp [hk3]
          iterate 4 (try (refine drvZ Try.func173 ?_; simp (maxSteps := 9999999) only [go_sem, h2, rdr, hk3, e1]))
          refine XK.plain (l2Arity kv) ok176 ?_ (hbT ())
          iterate 3 (try (refine drvZ Try.func173 ?_; simp (maxSteps := 9999999) only [go_sem, h2, rdr]))
          have har : 0 ≤ arity kv ∧ arity kv ≤ 3 := by
            refine ⟨?_, arity_le kv⟩
            simp at hkv
            unfold arity; repeat' split
            all_goals omega
          refine Go.loopQ (fun x : Nat × Nat × List Ex => [(0, .c (.ptr 0 0)), (2, DI .i64 ((d' + 1 : Nat) : Int)), (4, .c (.ptr 1 0)), (6, .c (.ptr 65 0)), (8, .c (.ptr 66 0)), (9, DI .i64 x.1)])
            (fun x => [(0, some (rdr bs x.2.1)), (1, some (Pg.cells ⟨vs, ar, bd⟩)), (65, some [I64 0, I64 0, .v (.slice none 0 0)]), (66, some [I64 kv, I64 0, .msl 67 3 0 x.2.2.length]), (67, some (exC x.2.2))])
            4096 (fun x => x.2.2.length + x.1 ≤ 3 ∧ (∀ e ∈ x.2.2, SmE e) ∧ n ≤ x.2.1 ∧ x.2.1 ≤ n + 2 + x.2.2.length * KD d') (fun x => x.1) ?_ ((arity kv).toNat, n + 2, []) (fun j => if j = 66 then some 1089 else if j = 67 then none else some j) [] _ ⟨by simp; omega, by simp, by simp, by simp⟩ ?_
          · rintro ⟨i, pos, l⟩ ⟨hi1, hi2, hi3, hi4⟩ again
            simp only at hi1 hi2 hi3 hi4
            have hlk : l.length * KD d' ≤ 3 * KD d' := Nat.mul_le_mul_right _ (by omega)
            rcases i with _ | i
            · refine drvL Try.func173 ?_
              simp (maxSteps := 9999999) only [go_sem, h2, rdr]
              iterate 2 (try (refine drvZ Try.func173 ?_; simp (maxSteps := 9999999) only [go_sem, h2, rdr]))
              refine RetOb.ofQ (fun j => if j = 0 then some 0 else none) [67] (.agg (Ex.cells (.mk kv 0 l))) [some (rdr bs pos)] ?_ ⟨.mk kv 0 l, rfl, .mk _ _ _ (by omega) hi2, pos, by omega, by omega, rfl⟩ (by simp)
              have g1 : (Ex.cellsL l).flatten = exC l := by rw [Ex.cellsL_eq]; rfl
              have g2 : ∀ x ∈ Ex.cellsL l, x.length = 3 := fun x hx => by rw [Ex.cellsL_eq] at hx; obtain ⟨e, _, rfl⟩ := List.mem_map.1 hx; exact Ex.cells_len e
              have g3 : ∀ x ∈ Ex.cellsL l, ∀ c ∈ x, kf c = true := fun x hx => by rw [Ex.cellsL_eq] at hx; obtain ⟨e, _, rfl⟩ := List.mem_map.1 hx; exact ex_kf e
              simp only [enumL, hOf, DM, DMs, CM, CMs, HpOK, LowOK, upd, Ex.cells, rdr, Ex.cellsL_length, g1]
              first | (simp; exact ⟨g2, g3⟩) | (simp [g2]; exact g3) | exact ⟨g2, g3⟩
            · have hip : ((0 : Int) < (i : Int) + 1) = True := eq_true (by omega)
              have hlk2 : l.length * KD d' ≤ 2 * KD d' := Nat.mul_le_mul_right _ (by omega)
              refine drvL Try.func173 ?_
              simp (maxSteps := 9999999) only [go_sem, h2, rdr, hip]
              (repeat' with_reducible apply And.intro) <;> (try first | omega | (simp only [InK]; omega) | (intro k e; cases e; rfl) | (intro hguard; exact ⟨hguard, by simp only [InK]; omega⟩) | kernel_rfl)
              iterate 2 (try (refine drvZ Try.func173 ?_; simp (maxSteps := 9999999) only [go_sem, h2, rdr, hip]))
              (repeat' with_reducible apply And.intro) <;> (try first | omega | (simp only [InK]; omega) | (intro k e; cases e; rfl) | (intro hguard; exact ⟨hguard, by simp only [InK]; omega⟩) | kernel_rfl)
              refine XK.callG [0] (ih d' (by omega) pos (by omega) (by omega)) ok173 (hhp_one rfl) (hbT ()) (fun d h' ⟨_, _, _, _, _, _, e⟩ => by subst e; simp) ?_ (fun _ => ⟨by kernel_rfl, _, _, ⟨.mk 2 0 [], rfl, .mk _ _ _ (by simp) (fun x hx => by simp at hx), pos, by omega, by omega, rfl⟩, by simp⟩)
              rintro _ _ ⟨⟨k, v, ks⟩, rfl, he, n', hn1, hn2, rfl⟩ _
              have hel := exC_len l
              iterate 3 (try (refine drvZ Try.func173 ?_; simp (maxSteps := 9999999) only [go_sem, h2, rdr]))
              (repeat' with_reducible apply And.intro) <;> (try first | omega | (simp only [InK]; omega) | (intro k e; cases e; rfl) | (intro hguard; exact ⟨hguard, by simp only [InK]; omega⟩) | kernel_rfl)
              iterate 2 (try (refine drvZ Try.func173 ?_; simp (maxSteps := 9999999) only [go_sem, h2, rdr]))
              (repeat' with_reducible apply And.intro) <;> (try first | omega | (simp only [InK]; omega) | (intro k e; cases e; rfl) | (intro hguard; exact ⟨hguard, by simp only [InK]; omega⟩) | kernel_rfl)
              refine again (i, n', l ++ [.mk k v ks]) (fun j => if j = 67 then some 4736 else some j) [] _ ⟨by simp; omega, ?_, by simp; omega, ?_⟩ (by simp) ?_
              · intro e he2
                rcases List.mem_append.1 he2 with h | h
                · exact hi2 e h
                · rw [List.mem_singleton.1 h]; exact he
              · simp only [List.length_append, List.length_cons, List.length_nil, Nat.add_mul]; omega
              · simp (maxSteps := 9999999) only [go_sem, TmOK, DM, DMs, CM, CMs, forall_eq, exists_eq_left, Mq, HpOK, LowOK, rdr, exC_snoc]
                simp
                exact CMs.kf (kf_app (exC_kf _) (by simp [kf]))
          · simp (maxSteps := 9999999) only [go_sem, TmOK, DM, DMs, CM, CMs, forall_eq, exists_eq_left, Mq, HpOK, LowOK, rdr]
            simp [exC]
            omega
end Go.Proofs.Ytclgjiffpijgmaa.CtD

namespace Go.Proofs.Ytclgjiffpijgmaa.CtD
open Go Go.CT CtF CtR

theorem l2Small (bs : List Int) (n : Nat) (p : Pg) (hb : Fits .u8 bs) (hl : bs.length ≤ 2000) (hp : p.vars.length ≤ mx) (hp2 : p.arrays.length ≤ mx) (hn : n + 2000 ≤ 1099511627776) : DC Try.prog 160 [.c (.ptr 0 0), .agg p.cells] [some (rdr bs n)]
    (fun r h => ∃ e : Ex, r = .agg e.cells ∧ SmE e ∧ rdL bs n 1100 h) := by
  have hmx := mx_eq
  have hat := fun n h => l2DrawAtom bs n p hb hl h hp
  have hdr := fun d n h1 h2 => l2Draw bs p hb hl hp hp2 d n h1 h2
  have hrt := fun e => l2Right p e hp hp2
  obtain ⟨vs, ar, bd⟩ := p
  refine dcZ Try.func160 ?_
  simp (maxSteps := 9999999) only [go_sem, rdr]
  iterate 1 (try (refine drvZ Try.func160 ?_; simp (maxSteps := 9999999) only [go_sem, rdr]))
  (repeat' with_reducible apply And.intro) <;> (try first | omega | (simp only [InK]; omega) | (intro k e; cases e; rfl) | (intro hguard; exact ⟨hguard, by simp only [InK]; omega⟩) | kernel_rfl)
  refine XK.callG [0, 321] (numO bs n [2, 3, 2, 1, 4] hb hl (by omega) (by decide) (by decide)) ok100 (hhp2 rfl rfl) (hbT ()) (fun d h' ⟨_, _, _, e⟩ => by subst e; simp) ?_ (fun _ => ⟨by kernel_rfl, _, _, ⟨2, rfl, by simp, rfl⟩, by simp⟩)
  rintro _ _ ⟨dv, rfl, hdv, rfl⟩ _
  obtain ⟨d, rfl, hd1, hd4⟩ : ∃ d : Nat, dv = (d : Int) ∧ 1 ≤ d ∧ d ≤ 4 := ⟨dv.toNat, by simp at hdv; omega, by simp at hdv; omega, by simp at hdv; omega⟩
  have hK : KD d ≤ 1024 := by unfold KD; exact Nat.le_trans (Nat.pow_le_pow_right (by omega) (show d + 1 ≤ 5 by omega)) (by decide)
  iterate 1 (try (refine drvZ Try.func160 ?_; simp (maxSteps := 9999999) only [go_sem, rdr]))
  (repeat' with_reducible apply And.intro) <;> (try first | omega | (simp only [InK]; omega) | (intro k e; cases e; rfl) | (intro hguard; exact ⟨hguard, by simp only [InK]; omega⟩) | kernel_rfl)
  refine XK.callG [0] (hdr d (n + 1) (by omega) (by omega)) ok173 (hhp_one rfl) (hbT ()) (fun d h' ⟨_, _, _, _, _, _, e⟩ => by subst e; simp) ?_ (fun _ => ⟨by kernel_rfl, _, _, ⟨.mk 2 0 [], rfl, .mk _ _ _ (by simp) (fun x hx => by simp at hx), n + 1, by omega, by omega, rfl⟩, by simp⟩)
  rintro _ _ ⟨⟨k, v, ks⟩, rfl, he, n', hn1, hn2, rfl⟩ _
  iterate 2 (try (refine drvZ Try.func160 ?_; simp (maxSteps := 9999999) only [go_sem, rdr]))
  (repeat' with_reducible apply And.intro) <;> (try first | omega | (simp only [InK]; omega) | (intro k e; cases e; rfl) | (intro hguard; exact ⟨hguard, by simp only [InK]; omega⟩) | kernel_rfl)
  iterate 1 (try (refine drvZ Try.func160 ?_; simp (maxSteps := 9999999) only [go_sem, rdr]))
  refine XK.plain (hrt (.mk k v ks)) ok157 ?_ (hbT ())
  cases hq : right ⟨vs, ar, bd⟩ (.mk k v ks) with
  | true =>
    iterate 2 (try (refine drvZ Try.func160 ?_; simp (maxSteps := 9999999) only [go_sem, rdr, hq]))
    exact RetOb.keep1 (d := .agg (Ex.cells (.mk k v ks))) (cs := rdr bs n') ⟨.mk k v ks, rfl, he, n', by omega, by omega, rfl⟩ rfl (rdr_kf _ _) (ex_kf _)
  | false =>
    iterate 2 (try (refine drvZ Try.func160 ?_; simp (maxSteps := 9999999) only [go_sem, rdr, hq]))
    refine XK.callG [0] (hat n' (by omega)) ok159 (hhp_one rfl) (hbT ()) (fun d h' ⟨_, _, _, _, _, _, e⟩ => by subst e; simp) ?_
    rintro _ _ ⟨⟨k2, v2, ks2⟩, rfl, he2, n2, hn3, hn4, rfl⟩ _
    iterate 2 (try (refine drvZ Try.func160 ?_; simp (maxSteps := 9999999) only [go_sem, rdr]))
    exact RetOb.keep1 (d := .agg (Ex.cells (.mk k2 v2 ks2))) (cs := rdr bs n2) ⟨.mk k2 v2 ks2, rfl, SmE.atom he2, n2, by omega, by omega, rfl⟩ rfl (rdr_kf _ _) (ex_kf _)
end Go.Proofs.Ytclgjiffpijgmaa.CtD

namespace Go.Proofs.Ytclgjiffpijgmaa.CtD
open Go Go.CT CtF CtR

theorem l2CopyExpr (e : Ex) (he : SmE e) : DC Try.prog 120 [.agg e.cells] [] (fun r h => r = .agg e.cells ∧ h = []) := by
  have hmx := mx_eq
  induction he with
  | mk k v ks hlen hall ih =>
    refine dcZ Try.func120 ?_
    simp (maxSteps := 9999999) only [go_sem]
    iterate 2 (try (refine drvZ Try.func120 ?_; simp (maxSteps := 9999999) only [go_sem]))
    refine Go.loopQ (fun i : Nat => [(1, .c (.ptr 0 0)), (2, .c (.ptr 64 0)), (3, .c (.ptr 66 0)), (4, DI .i64 i)])
      (fun i => [(0, some (Ex.cells (.mk k v ks))), (64, some [I64 0, I64 0, .v (.slice none 0 0)]), (66, some [I64 k, I64 v, .msl 67 3 0 i]), (67, some (exC (ks.take i)))])
      4096 (fun i => i ≤ ks.length) (fun i => ks.length - i) ?_ 0 (fun j => if j = 66 then some 448 else if j = 67 then none else some j) [] _ (Nat.zero_le _) ?_
    · intro i hi again
      rcases Nat.lt_or_ge i ks.length with hlt | hge
      · obtain ⟨⟨k', v', ks'⟩, hx⟩ : ∃ x, ks[i]? = some x := ⟨ks[i], by simp [hlt]⟩
        have hsx : ks.take (i + 1) = ks.take i ++ [.mk k' v' ks'] := by rw [List.take_add_one, hx]; rfl
        have hel : (exC (ks.take i)).length = i * 3 := by rw [exC_len, List.length_take]; congr 1; omega
        refine drvL Try.func120 ?_
        simp (maxSteps := 9999999) only [go_sem, hx, hlt]
        (repeat' with_reducible apply And.intro) <;> (try first | omega | (simp only [InK]; omega) | (intro k e; cases e; rfl) | (intro hguard; exact ⟨hguard, by simp only [InK]; omega⟩) | kernel_rfl)
        iterate 2 (try (refine drvZ Try.func120 ?_; simp (maxSteps := 9999999) only [go_sem, hx, hlt]))
        (repeat' with_reducible apply And.intro) <;> (try first | omega | (simp only [InK]; omega) | (intro k e; cases e; rfl) | (intro hguard; exact ⟨hguard, by simp only [InK]; omega⟩) | kernel_rfl)
        refine XK.plain (ih _ (List.mem_of_getElem? hx)) ok120 ?_ (hbT ()) (fun _ => by kernel_rfl)
        iterate 3 (try (refine drvZ Try.func120 ?_; simp (maxSteps := 9999999) only [go_sem, hx, hlt]))
        (repeat' with_reducible apply And.intro) <;> (try first | omega | (simp only [InK]; omega) | (intro k e; cases e; rfl) | (intro hguard; exact ⟨hguard, by simp only [InK]; omega⟩) | kernel_rfl)
        iterate 2 (try (refine drvZ Try.func120 ?_; simp (maxSteps := 9999999) only [go_sem, hx, hlt]))
        (repeat' with_reducible apply And.intro) <;> (try first | omega | (simp only [InK]; omega) | (intro k e; cases e; rfl) | (intro hguard; exact ⟨hguard, by simp only [InK]; omega⟩) | kernel_rfl)
        refine again (i + 1) (fun j => if j = 67 then some 4992 else some j) [] _ hlt (by omega) ?_
        simp (maxSteps := 9999999) only [go_sem, TmOK, DM, DMs, CM, CMs, forall_eq, exists_eq_left, Mq, HpOK, LowOK, hsx, exC_snoc]
        simp
        exact CMs.kf (kf_app (exC_kf _) (by simp [kf]))
      · have hn : ¬ i < ks.length := by omega
        obtain rfl : i = ks.length := by omega
        refine drvL Try.func120 ?_
        simp (maxSteps := 9999999) only [go_sem, hn, List.take_length]
        iterate 2 (try (refine drvZ Try.func120 ?_; simp (maxSteps := 9999999) only [go_sem, hn, List.take_length]))
        refine RetOb.ofQ (fun j => none) [67] (.agg (Ex.cells (.mk k v ks))) [] ?_ ⟨rfl, rfl⟩ (by simp)
        have g1 : (Ex.cellsL ks).flatten = exC ks := by rw [Ex.cellsL_eq]; rfl
        have g2 : ∀ x ∈ Ex.cellsL ks, x.length = 3 := fun x hx => by rw [Ex.cellsL_eq] at hx; obtain ⟨e, _, rfl⟩ := List.mem_map.1 hx; exact Ex.cells_len e
        have g3 : ∀ x ∈ Ex.cellsL ks, ∀ c ∈ x, kf c = true := fun x hx => by rw [Ex.cellsL_eq] at hx; obtain ⟨e, _, rfl⟩ := List.mem_map.1 hx; exact ex_kf e
        simp only [enumL, hOf, DM, DMs, CM, CMs, HpOK, LowOK, upd, Ex.cells, Ex.cellsL_length, g1]
        first | (simp; exact ⟨g2, g3⟩) | (simp [g2]; exact g3) | exact ⟨g2, g3⟩
    · simp (maxSteps := 9999999) only [go_sem, TmOK, DM, DMs, CM, CMs, forall_eq, exists_eq_left, Mq, HpOK, LowOK]
      simp [exC]
end Go.Proofs.Ytclgjiffpijgmaa.CtD

namespace Go.Proofs.Ytclgjiffpijgmaa.CtD
open Go Go.CT CtF CtR

/-- Small statements, at most d levels below. -/
def SmS : Nat → St1 → Prop
  | 0, .mk _ _ ix v _ b e => SmE ix ∧ SmE v ∧ b = [] ∧ e = []
  | d + 1, .mk _ _ ix v _ b e => SmE ix ∧ SmE v ∧ b.length ≤ 4 ∧ e.length ≤ 4 ∧ (∀ x ∈ b, SmS d x) ∧ ∀ x ∈ e, SmS d x
def stC (l : List St1) : List C := (l.map St1.cells).flatten
theorem stC_len (l : List St1) : (stC l).length = l.length * 11 := by
  unfold stC
  induction l with
  | nil => rfl
  | cons a r ih => simp only [List.map_cons, List.flatten_cons, List.length_append, ih, St1.cells_len, List.length_cons]; omega
theorem st_kf (s : St1) : ∀ c ∈ s.cells, kf c = true := by
  obtain ⟨k, t, ix, v, c, b, e⟩ := s
  intro x hx
  simp only [St1.cells, List.mem_append, List.mem_cons, List.not_mem_nil, or_false] at hx
  rcases hx with ((hx | hx) | hx) | hx
  · rcases hx with rfl | rfl <;> rfl
  · exact ex_kf _ _ hx
  · exact ex_kf _ _ hx
  · rcases hx with rfl | rfl | rfl <;> rfl
theorem stC_kf (l : List St1) : ∀ c ∈ stC l, kf c = true := by
  unfold stC
  intro c hc
  obtain ⟨x, hx, hc⟩ := List.mem_flatten.1 hc
  obtain ⟨e, _, rfl⟩ := List.mem_map.1 hx
  exact st_kf e c hc
theorem stC_snoc (l : List St1) (s : St1) : stC (l ++ [s]) = stC l ++ s.cells := by simp [stC]

theorem l2DrawBlockOf (bs : List Int) (p : Pg) (dep : Int) (Q : St1 → Prop) (K : Nat) (hK : K ≤ 1000000000)
    (hst : ∀ n : Nat, n + K ≤ 549755813888 → DC Try.prog 138 [.c (.ptr 0 0), .agg p.cells, DI .i64 dep] [some (rdr bs n)] (fun r h => ∃ s : St1, r = .agg s.cells ∧ Q s ∧ rdL bs n K h))
    (n nn : Nat) (hnn : nn ≤ 4) (hn : n + 4 * K ≤ 549755813888) : DC Try.prog 101 [.c (.ptr 0 0), .agg p.cells, DI .i64 dep, DI .i64 nn] [some (rdr bs n)]
      (fun r h => ∃ l : List St1, r = .c (.isl 11 (St1.cellsL l)) ∧ l.length ≤ 4 ∧ (∀ s ∈ l, Q s) ∧ rdL bs n (4 * K) h) := by
  have hmx := mx_eq
  obtain ⟨vs, ar, bd⟩ := p
  refine dcZ Try.func101 ?_
  simp (maxSteps := 9999999) only [go_sem, rdr]
  iterate 2 (try (refine drvZ Try.func101 ?_; simp (maxSteps := 9999999) only [go_sem, rdr]))
  refine Go.loopQ (fun x : Nat × Nat × List St1 => [(0, .c (.ptr 0 0)), (2, DI .i64 dep), (3, DI .i64 nn), (5, .c (.ptr 1 0)), (9, .c (.msl 67 11 0 x.2.2.length)), (10, DI .i64 x.1)])
    (fun x => [(0, some (rdr bs x.2.1)), (1, some (Pg.cells ⟨vs, ar, bd⟩)), (67, some (stC x.2.2))])
    4096 (fun x => x.2.2.length = x.1 ∧ x.1 ≤ nn ∧ (∀ s ∈ x.2.2, Q s) ∧ n ≤ x.2.1 ∧ x.2.1 ≤ n + x.1 * K) (fun x => nn - x.1) ?_ (0, n, []) (fun j => if j = 67 then some 129 else some j) [] _ ⟨rfl, by simp, by simp, by simp, by simp⟩ ?_
  · rintro ⟨i, pos, l⟩ ⟨hi1, hi2, hi3, hi4, hi5⟩ again
    simp only at hi1 hi2 hi3 hi4 hi5
    have hik : i * K ≤ 4 * K := Nat.mul_le_mul_right _ (by omega)
    rcases Nat.lt_or_ge i nn with hlt | hge
    · have hsl := stC_len l
      have hik2 : (i + 1) * K ≤ 4 * K := Nat.mul_le_mul_right _ (by omega)
      rw [Nat.add_mul, Nat.one_mul] at hik2
      refine drvL Try.func101 ?_
      simp (maxSteps := 9999999) only [go_sem, rdr, hlt]
      iterate 2 (try (refine drvZ Try.func101 ?_; simp (maxSteps := 9999999) only [go_sem, rdr, hlt]))
      refine XK.callG [0] (hst pos (by omega)) ok138 (hhp_one rfl) (hbT ()) (fun d h' ⟨_, _, _, _, _, _, e⟩ => by subst e; simp) ?_
      rintro _ _ ⟨⟨k, t, ⟨ik, iv, iks⟩, ⟨vk, vv, vks⟩, c, b, e⟩, rfl, hs, n', hn1, hn2, rfl⟩ _
      iterate 3 (try (refine drvZ Try.func101 ?_; simp (maxSteps := 9999999) only [go_sem, rdr]))
      (repeat' with_reducible apply And.intro) <;> (try first | omega | (simp only [InK]; omega) | (intro k e; cases e; rfl) | (intro hguard; exact ⟨hguard, by simp only [InK]; omega⟩) | kernel_rfl)
      refine again (i + 1, n', l ++ [(.mk k t (.mk ik iv iks) (.mk vk vv vks) c b e)]) (fun j => if j = 67 then some 4672 else some j) [] _ ⟨by simp; omega, by omega, ?_, by simp only; omega, ?_⟩ (by simp only; omega) ?_
      · intro x hx
        rcases List.mem_append.1 hx with h | h
        · exact hi3 x h
        · rw [List.mem_singleton.1 h]; exact hs
      · simp only [Nat.add_mul, Nat.one_mul]; omega
      · simp (maxSteps := 9999999) only [go_sem, TmOK, DM, DMs, CM, CMs, forall_eq, exists_eq_left, Mq, HpOK, LowOK, rdr, stC_snoc, List.cons_append, List.nil_append]
        simp
        exact CMs.kf (kf_app (stC_kf _) (by simp [kf]))
    · have hnl : ¬ i < nn := by omega
      refine drvL Try.func101 ?_
      simp (maxSteps := 9999999) only [go_sem, rdr, hnl]
      iterate 2 (try (refine drvZ Try.func101 ?_; simp (maxSteps := 9999999) only [go_sem, rdr, hnl]))
      refine RetOb.ofQ (fun j => if j = 0 then some 0 else none) [67] (.c (.isl 11 (St1.cellsL l))) [some (rdr bs pos)] ?_ ⟨l, rfl, by omega, hi3, pos, hi4, by omega, rfl⟩ (by simp)
      have g1 : (St1.cellsL l).flatten = stC l := by rw [St1.cellsL_eq]; rfl
      have g2 : ∀ x ∈ St1.cellsL l, x.length = 11 := fun x hx => by rw [St1.cellsL_eq] at hx; obtain ⟨e, _, rfl⟩ := List.mem_map.1 hx; exact St1.cells_len e
      have g3 : ∀ x ∈ St1.cellsL l, ∀ c ∈ x, kf c = true := fun x hx => by rw [St1.cellsL_eq] at hx; obtain ⟨e, _, rfl⟩ := List.mem_map.1 hx; exact st_kf e
      simp only [enumL, hOf, DM, DMs, CM, CMs, HpOK, LowOK, upd, rdr, St1.cellsL_length, g1]
      first | (simp; exact ⟨g2, g3⟩) | (simp [g2]; exact g3) | exact ⟨g2, g3⟩
  · simp (maxSteps := 9999999) only [go_sem, TmOK, DM, DMs, CM, CMs, forall_eq, exists_eq_left, Mq, HpOK, LowOK, rdr]
    simp [stC, CMs]
end Go.Proofs.Ytclgjiffpijgmaa.CtD

namespace Go.Proofs.Ytclgjiffpijgmaa.CtD
open Go Go.CT CtF CtR

theorem l2CopyBlockOf (d : Nat) (ih : ∀ l : List St1, l.length ≤ 4 → (∀ s ∈ l, ∃ d', d = d' + 1 ∧ SmS d' s) → DC Try.prog 145 [.c (.isl 11 (St1.cellsL l))] [] (fun r h => r = .c (.isl 11 (St1.cellsL l)) ∧ h = []))
    (l : List St1) (hl : l.length ≤ 1000000) (hs : ∀ s ∈ l, SmS d s) : DC Try.prog 145 [.c (.isl 11 (St1.cellsL l))] [] (fun r h => r = .c (.isl 11 (St1.cellsL l)) ∧ h = []) := by
  have hmx := mx_eq
  refine dcZ Try.func145 ?_
  simp (maxSteps := 9999999) only [go_sem]
  iterate 2 (try (refine drvZ Try.func145 ?_; simp (maxSteps := 9999999) only [go_sem]))
  refine Go.loopQ (fun i : Nat => [(0, .c (.isl 11 (St1.cellsL l))), (3, .c (.msl 67 11 0 i)), (4, DI .i64 i)]) (fun i => [(67, some (stC (l.take i)))])
    4096 (fun i => i ≤ l.length) (fun i => l.length - i) ?_ 0 (fun j => if j = 67 then some 64 else some j) [] _ (Nat.zero_le _) ?_
  · intro i hi again
    rcases Nat.lt_or_ge i l.length with hlt | hge
    · obtain ⟨⟨k, t, ⟨ik, iv, iks⟩, ⟨vk, vv, vks⟩, c, b, e⟩, hx⟩ : ∃ x, l[i]? = some x := ⟨l[i], by simp [hlt]⟩
      have hsx : l.take (i + 1) = l.take i ++ [.mk k t (.mk ik iv iks) (.mk vk vv vks) c b e] := by rw [List.take_add_one, hx]; rfl
      have hel : (stC (l.take i)).length = i * 11 := by rw [stC_len, List.length_take]; congr 1; omega
      have hsm := hs _ (List.mem_of_getElem? hx)
      have hie : SmE (.mk ik iv iks) ∧ SmE (.mk vk vv vks) := by cases d <;> simp only [SmS] at hsm <;> exact ⟨hsm.1, hsm.2.1⟩
      have hbl : b.length ≤ 4 ∧ (∀ s ∈ b, ∃ d', d = d' + 1 ∧ SmS d' s) := by
        cases d with
        | zero => simp only [SmS] at hsm; rw [hsm.2.2.1]; simp
        | succ d => simp only [SmS] at hsm; exact ⟨hsm.2.2.1, fun s h => ⟨d, rfl, hsm.2.2.2.2.1 s h⟩⟩
      have hel2 : e.length ≤ 4 ∧ (∀ s ∈ e, ∃ d', d = d' + 1 ∧ SmS d' s) := by
        cases d with
        | zero => simp only [SmS] at hsm; rw [hsm.2.2.2]; simp
        | succ d => simp only [SmS] at hsm; exact ⟨hsm.2.2.2.1, fun s h => ⟨d, rfl, hsm.2.2.2.2.2 s h⟩⟩
      refine drvL Try.func145 ?_
      simp (maxSteps := 9999999) only [go_sem, hx, hlt]
      iterate 2 (try (refine drvZ Try.func145 ?_; simp (maxSteps := 9999999) only [go_sem, hx, hlt]))
      refine XK.plain (l2CopyExpr _ hie.1) ok120 ?_ (hbT ())
      iterate 2 (try (refine drvZ Try.func145 ?_; simp (maxSteps := 9999999) only [go_sem]))
      refine XK.plain (l2CopyExpr _ hie.2) ok120 ?_ (hbT ())
      iterate 2 (try (refine drvZ Try.func145 ?_; simp (maxSteps := 9999999) only [go_sem]))
      refine XK.plain (ih b hbl.1 hbl.2) ok145 ?_ (hbT ())
      iterate 2 (try (refine drvZ Try.func145 ?_; simp (maxSteps := 9999999) only [go_sem]))
      refine XK.plain (ih e hel2.1 hel2.2) ok145 ?_ (hbT ())
      iterate 3 (try (refine drvZ Try.func145 ?_; simp (maxSteps := 9999999) only [go_sem]))
      (repeat' with_reducible apply And.intro) <;> (try first | omega | (simp only [InK]; omega) | (intro k e; cases e; rfl) | (intro hguard; exact ⟨hguard, by simp only [InK]; omega⟩) | kernel_rfl)
      iterate 2 (try (refine drvZ Try.func145 ?_; simp (maxSteps := 9999999) only [go_sem]))
      (repeat' with_reducible apply And.intro) <;> (try first | omega | (simp only [InK]; omega) | (intro k e; cases e; rfl) | (intro hguard; exact ⟨hguard, by simp only [InK]; omega⟩) | kernel_rfl)
      refine again (i + 1) (fun j => if j = 67 then some 6208 else some j) [] _ hlt (by omega) ?_
      simp (maxSteps := 9999999) only [go_sem, TmOK, DM, DMs, CM, CMs, forall_eq, exists_eq_left, Mq, HpOK, LowOK, hsx, stC_snoc, List.cons_append, List.nil_append]
      simp
      exact CMs.kf (kf_app (stC_kf _) (by simp [kf]))
    · have hn : ¬ i < l.length := by omega
      obtain rfl : i = l.length := by omega
      refine drvL Try.func145 ?_
      simp (maxSteps := 9999999) only [go_sem, hn, List.take_length]
      iterate 2 (try (refine drvZ Try.func145 ?_; simp (maxSteps := 9999999) only [go_sem, hn, List.take_length]))
      refine RetOb.ofQ (fun j => none) [67] (.c (.isl 11 (St1.cellsL l))) [] ?_ ⟨rfl, rfl⟩ (by simp)
      have g1 : (St1.cellsL l).flatten = stC l := by rw [St1.cellsL_eq]; rfl
      have g2 : ∀ x ∈ St1.cellsL l, x.length = 11 := fun x hx => by rw [St1.cellsL_eq] at hx; obtain ⟨e, _, rfl⟩ := List.mem_map.1 hx; exact St1.cells_len e
      have g3 : ∀ x ∈ St1.cellsL l, ∀ c ∈ x, kf c = true := fun x hx => by rw [St1.cellsL_eq] at hx; obtain ⟨e, _, rfl⟩ := List.mem_map.1 hx; exact st_kf e
      simp only [enumL, hOf, DM, DMs, CM, CMs, HpOK, LowOK, upd, St1.cellsL_length, g1]
      first | (simp; exact ⟨g2, g3⟩) | (simp [g2]; exact g3) | exact ⟨g2, g3⟩
  · simp (maxSteps := 9999999) only [go_sem, TmOK, DM, DMs, CM, CMs, forall_eq, exists_eq_left, Mq, HpOK, LowOK]
    simp [stC, CMs]

theorem copyNil : DC Try.prog 145 [.c (.isl 11 (St1.cellsL []))] [] (fun r h => r = .c (.isl 11 (St1.cellsL [])) ∧ h = []) := by
  refine dcZ Try.func145 ?_
  simp (maxSteps := 9999999) only [go_sem, St1.cellsL]
  iterate 2 (try (refine drvZ Try.func145 ?_; simp (maxSteps := 9999999) only [go_sem, St1.cellsL]))
  refine Go.loop ?_
  refine drvL Try.func145 ?_
  simp (maxSteps := 9999999) only [go_sem, St1.cellsL]
  iterate 2 (try (refine drvZ Try.func145 ?_; simp (maxSteps := 9999999) only [go_sem, St1.cellsL]))
  refine RetOb.ofQ (fun j => none) [64] (.c (.isl 11 [])) [] ?_ ⟨rfl, rfl⟩ (by simp)
  simp [enumL, hOf, DM, CM, HpOK, LowOK, upd]

theorem l2CopyBlock : ∀ (d : Nat) (l : List St1), l.length ≤ 1000000 → (∀ s ∈ l, SmS d s) → DC Try.prog 145 [.c (.isl 11 (St1.cellsL l))] [] (fun r h => r = .c (.isl 11 (St1.cellsL l)) ∧ h = [])
  | 0, l, h1, h2 => l2CopyBlockOf 0 (fun l' h3 h4 => by
      cases l' with
      | nil => exact copyNil
      | cons a r => obtain ⟨d', e, _⟩ := h4 a (by simp); omega) l h1 h2
  | d + 1, l, h1, h2 => l2CopyBlockOf (d + 1) (fun l' h3 h4 => l2CopyBlock d l' (by omega) (fun s hs => by
      obtain ⟨d', e, h⟩ := h4 s hs
      obtain rfl : d = d' := by omega
      exact h)) l h1 h2
end Go.Proofs.Ytclgjiffpijgmaa.CtD

namespace Go.Proofs.Ytclgjiffpijgmaa.CtD
open Go Go.CT CtF CtR

/-- The copied block as the caller's own. -/
theorem l2CopyBlockOwnOf (d : Nat) (ih : ∀ l : List St1, l.length ≤ 4 → (∀ s ∈ l, ∃ d', d = d' + 1 ∧ SmS d' s) → DC Try.prog 145 [.c (.isl 11 (St1.cellsL l))] [] (fun r h => r = .c (.isl 11 (St1.cellsL l)) ∧ h = []))
    (l : List St1) (hl : l.length ≤ 1000000) (hs : ∀ s ∈ l, SmS d s) : DC Try.prog 145 [.c (.isl 11 (St1.cellsL l))] [] (fun r h => r = .c (.msl 0 11 0 l.length) ∧ h = [some (stC l)]) := by
  have hmx := mx_eq
  refine dcZ Try.func145 ?_
  simp (maxSteps := 9999999) only [go_sem]
  iterate 2 (try (refine drvZ Try.func145 ?_; simp (maxSteps := 9999999) only [go_sem]))
  refine Go.loopQ (fun i : Nat => [(0, .c (.isl 11 (St1.cellsL l))), (3, .c (.msl 67 11 0 i)), (4, DI .i64 i)]) (fun i => [(67, some (stC (l.take i)))])
    4096 (fun i => i ≤ l.length) (fun i => l.length - i) ?_ 0 (fun j => if j = 67 then some 64 else some j) [] _ (Nat.zero_le _) ?_
  · intro i hi again
    rcases Nat.lt_or_ge i l.length with hlt | hge
    · obtain ⟨⟨k, t, ⟨ik, iv, iks⟩, ⟨vk, vv, vks⟩, c, b, e⟩, hx⟩ : ∃ x, l[i]? = some x := ⟨l[i], by simp [hlt]⟩
      have hsx : l.take (i + 1) = l.take i ++ [.mk k t (.mk ik iv iks) (.mk vk vv vks) c b e] := by rw [List.take_add_one, hx]; rfl
      have hel : (stC (l.take i)).length = i * 11 := by rw [stC_len, List.length_take]; congr 1; omega
      have hsm := hs _ (List.mem_of_getElem? hx)
      have hie : SmE (.mk ik iv iks) ∧ SmE (.mk vk vv vks) := by cases d <;> simp only [SmS] at hsm <;> exact ⟨hsm.1, hsm.2.1⟩
      have hbl : b.length ≤ 4 ∧ (∀ s ∈ b, ∃ d', d = d' + 1 ∧ SmS d' s) := by
        cases d with
        | zero => simp only [SmS] at hsm; rw [hsm.2.2.1]; simp
        | succ d => simp only [SmS] at hsm; exact ⟨hsm.2.2.1, fun s h => ⟨d, rfl, hsm.2.2.2.2.1 s h⟩⟩
      have hel2 : e.length ≤ 4 ∧ (∀ s ∈ e, ∃ d', d = d' + 1 ∧ SmS d' s) := by
        cases d with
        | zero => simp only [SmS] at hsm; rw [hsm.2.2.2]; simp
        | succ d => simp only [SmS] at hsm; exact ⟨hsm.2.2.2.1, fun s h => ⟨d, rfl, hsm.2.2.2.2.2 s h⟩⟩
      refine drvL Try.func145 ?_
      simp (maxSteps := 9999999) only [go_sem, hx, hlt]
      iterate 2 (try (refine drvZ Try.func145 ?_; simp (maxSteps := 9999999) only [go_sem, hx, hlt]))
      refine XK.plain (l2CopyExpr _ hie.1) ok120 ?_ (hbT ())
      iterate 2 (try (refine drvZ Try.func145 ?_; simp (maxSteps := 9999999) only [go_sem]))
      refine XK.plain (l2CopyExpr _ hie.2) ok120 ?_ (hbT ())
      iterate 2 (try (refine drvZ Try.func145 ?_; simp (maxSteps := 9999999) only [go_sem]))
      refine XK.plain (ih b hbl.1 hbl.2) ok145 ?_ (hbT ())
      iterate 2 (try (refine drvZ Try.func145 ?_; simp (maxSteps := 9999999) only [go_sem]))
      refine XK.plain (ih e hel2.1 hel2.2) ok145 ?_ (hbT ())
      iterate 3 (try (refine drvZ Try.func145 ?_; simp (maxSteps := 9999999) only [go_sem]))
      (repeat' with_reducible apply And.intro) <;> (try first | omega | (simp only [InK]; omega) | (intro k e; cases e; rfl) | (intro hguard; exact ⟨hguard, by simp only [InK]; omega⟩) | kernel_rfl)
      iterate 2 (try (refine drvZ Try.func145 ?_; simp (maxSteps := 9999999) only [go_sem]))
      (repeat' with_reducible apply And.intro) <;> (try first | omega | (simp only [InK]; omega) | (intro k e; cases e; rfl) | (intro hguard; exact ⟨hguard, by simp only [InK]; omega⟩) | kernel_rfl)
      refine again (i + 1) (fun j => if j = 67 then some 6208 else some j) [] _ hlt (by omega) ?_
      simp (maxSteps := 9999999) only [go_sem, TmOK, DM, DMs, CM, CMs, forall_eq, exists_eq_left, Mq, HpOK, LowOK, hsx, stC_snoc, List.cons_append, List.nil_append]
      simp
      exact CMs.kf (kf_app (stC_kf _) (by simp [kf]))
    · have hn : ¬ i < l.length := by omega
      obtain rfl : i = l.length := by omega
      refine drvL Try.func145 ?_
      simp (maxSteps := 9999999) only [go_sem, hn, List.take_length]
      iterate 2 (try (refine drvZ Try.func145 ?_; simp (maxSteps := 9999999) only [go_sem, hn, List.take_length]))
      refine RetOb.ofQ (fun j => if j = 0 then some 67 else none) [] (.c (.msl 0 11 0 l.length)) [some (stC l)] ?_ ⟨rfl, rfl⟩ (by simp)
      simp [enumL, hOf, DM, CM, HpOK, LowOK, upd]
      exact CMs.kf (stC_kf _)
  · simp (maxSteps := 9999999) only [go_sem, TmOK, DM, DMs, CM, CMs, forall_eq, exists_eq_left, Mq, HpOK, LowOK]
    simp [stC, CMs]

end Go.Proofs.Ytclgjiffpijgmaa.CtD

namespace Go.Proofs.Ytclgjiffpijgmaa.CtD
open Go Go.CT CtF CtR

theorem l2CopyBlockOwn (d : Nat) (l : List St1) (h1 : l.length ≤ 1000000) (h2 : ∀ s ∈ l, SmS d s) : DC Try.prog 145 [.c (.isl 11 (St1.cellsL l))] [] (fun r h => r = .c (.msl 0 11 0 l.length) ∧ h = [some (stC l)]) :=
  l2CopyBlockOwnOf d (fun l' h3 h4 => by
    cases d with
    | zero => cases l' with
      | nil => exact copyNil
      | cons a r => obtain ⟨d', e, _⟩ := h4 a (by simp); omega
    | succ d => exact l2CopyBlock d l' (by omega) (fun s hs => by
        obtain ⟨d', e, h⟩ := h4 s hs
        obtain rfl : d = d' := by omega
        exact h)) l h1 h2
end Go.Proofs.Ytclgjiffpijgmaa.CtD

namespace Go.Proofs.Ytclgjiffpijgmaa.CtD
open Go Go.CT CtF CtR

def KS : Nat → Nat
  | 0 => 1200
  | d + 1 => 1200 + 8 * KS d
theorem KS_ge : ∀ d, 1200 ≤ KS d
  | 0 => Nat.le_refl _
  | d + 1 => by simp only [KS]; omega
theorem KS_le : ∀ d, d ≤ 3 → KS d ≤ 1000000
  | 0, _ => by decide
  | 1, _ => by decide
  | 2, _ => by decide
  | 3, _ => by decide
def Ex0 : Ex := .mk 0 0 []
theorem SmE0 : SmE Ex0 := .mk 0 0 [] (by simp) (fun x h => by simp at h)
theorem SmS.leaf {d : Nat} {k t c : Int} {ix v : Ex} (h1 : SmE ix) (h2 : SmE v) : SmS d (.mk k t ix v c [] []) := by
  cases d <;> simp [SmS, h1, h2]
/-- What a statement's drawing leaves. -/
def stR (bs : List Int) (n d : Nat) (r : D) (h : List (Option (List C))) : Prop := ∃ s : St1, r = .agg s.cells ∧ SmS d s ∧ rdL bs n (KS d) h

theorem l2DrawStmtOf (bs : List Int) (p : Pg) (hb : Fits .u8 bs) (hl : bs.length ≤ 2000) (hp : p.vars.length ≤ mx) (hp2 : p.arrays.length ≤ mx) (d : Nat) (hd : d ≤ 3)
    (ih : ∀ d', d = d' + 1 → ∀ (n nn : Nat), nn ≤ 4 → n + 4 * KS d' ≤ 549755813888 → DC Try.prog 101 [.c (.ptr 0 0), .agg p.cells, DI .i64 (d' + 1 : Nat), DI .i64 nn] [some (rdr bs n)]
      (fun r h => ∃ l : List St1, r = .c (.isl 11 (St1.cellsL l)) ∧ l.length ≤ 4 ∧ (∀ s ∈ l, SmS d' s) ∧ rdL bs n (4 * KS d') h))
    (n : Nat) (hn : n + KS d ≤ 549755813888) : DC Try.prog 138 [.c (.ptr 0 0), .agg p.cells, DI .i64 (d + 1 : Nat)] [some (rdr bs n)] (stR bs n d) := by
  have hmx := mx_eq
  have hat := fun n h => l2DrawAtom bs n p hb hl h hp
  have hsm := fun n h => l2Small bs n p hb hl hp hp2 h
  have hKS := KS_ge d
  have hKS2 := KS_le d hd
  generalize hR : stR bs n d = R
  obtain ⟨vs, ar, bd⟩ := p
  have hp : vs.length ≤ mx := hp
  have hp2 : ar.length ≤ mx := hp2
  refine dcZ Try.func138 ?_
  simp (maxSteps := 9999999) only [go_sem, rdr]
  (repeat' with_reducible apply And.intro) <;> (try first | omega | (simp only [InK]; omega) | (intro k e; cases e; rfl) | (intro hguard; exact ⟨hguard, by simp only [InK]; omega⟩) | kernel_rfl)
  refine XK.callG [0, 193] (numO bs n [1, 1, 2, 3, 4, 1, 3, 5] hb hl (by omega) (by decide) (by decide)) ok100 (hhp2 rfl rfl) (hbT ()) (fun d h' ⟨_, _, _, e⟩ => by subst e; simp) ?_
  rintro _ _ ⟨kv, rfl, hkv, rfl⟩ _
  simp only [List.mem_cons, List.not_mem_nil, or_false] at hkv
  have hk : kv = 2 ∧ 0 < ar.length ∨ kv = 3 ∧ 0 < d ∨ kv = 4 ∧ 0 < d ∨ (kv = 1 ∨ kv = 5 ∨ kv = 2 ∧ ar.length = 0 ∨ kv = 3 ∧ d = 0 ∨ kv = 4 ∧ d = 0) := by omega
  clear hkv
  rcases hk with ⟨rfl, hal⟩ | ⟨rfl, hdl⟩ | ⟨rfl, hdl⟩ | hk
  · have e1 : ((0 : Int) < (ar.length : Int)) = True := eq_true (by omega)
    iterate 5 (try (refine drvZ Try.func138 ?_; simp (maxSteps := 9999999) only [go_sem, rdr, e1]))
    refine XK.callG [0] (pick bs (n + 1) ar.length hb hl (by omega) (by simp only [InK]; omega)) ok58 (hhp_one rfl) (hbT ()) (fun d h' ⟨v, _, _, e⟩ => by subst e; simp) ?_
    rintro _ _ ⟨v1, rfl, hv1, rfl⟩ _
    iterate 2 (try (refine drvZ Try.func138 ?_; simp (maxSteps := 9999999) only [go_sem, rdr]))
    refine XK.callG [0] (hat (n + 2) (by omega)) ok159 (hhp_one rfl) (hbT ()) (fun d h' ⟨_, _, _, _, _, _, e⟩ => by subst e; simp) ?_
    rintro _ _ ⟨⟨k1, w1, ks1⟩, rfl, he1, n1, hn1, hm1, rfl⟩ _
    iterate 2 (try (refine drvZ Try.func138 ?_; simp (maxSteps := 9999999) only [go_sem, rdr]))
    refine XK.callG [0] (hsm n1 (by omega)) ok160 (hhp_one rfl) (hbT ()) (fun d h' ⟨_, _, _, _, _, _, e⟩ => by subst e; simp) ?_
    rintro _ _ ⟨⟨k2, w2, ks2⟩, rfl, he2, n2, hn2, hm2, rfl⟩ _
    iterate 2 (try (refine drvZ Try.func138 ?_; simp (maxSteps := 9999999) only [go_sem, rdr]))
    refine RetOb.ofQ (fun j => if j = 0 then some 0 else none) [] (.agg (St1.cells (.mk 2 v1 (.mk k1 w1 ks1) (.mk k2 w2 ks2) 0 [] []))) [some (rdr bs n2)] ?_ ?_ (by simp)
    · simp [enumL, hOf, DM, DMs, CM, CMs, HpOK, LowOK, upd, Ex.cells, Ex.cellsL, St1.cells, St1.cellsL, rdr, kf]
    · rw [← hR]; exact ⟨.mk 2 v1 (.mk k1 w1 ks1) (.mk k2 w2 ks2) 0 [] [], rfl, SmS.leaf (SmE.atom he1) he2, n2, by omega, by omega, rfl⟩
  · obtain ⟨d', rfl⟩ : ∃ d', d = d' + 1 := ⟨d - 1, by omega⟩
    have hKK : KS (d' + 1) = 1200 + 8 * KS d' := rfl
    have e1 : ((1 : Int) < ((d' : Int) + 1 + 1)) = True := eq_true (by omega)
    iterate 5 (try (refine drvZ Try.func138 ?_; simp (maxSteps := 9999999) only [go_sem, rdr, e1]))
    refine XK.callG [0] (hsm (n + 1) (by omega)) ok160 (hhp_one rfl) (hbT ()) (fun d h' ⟨_, _, _, _, _, _, e⟩ => by subst e; simp) ?_
    rintro _ _ ⟨⟨k2, w2, ks2⟩, rfl, he2, n2, hn2, hm2, rfl⟩ _
    iterate 2 (try (refine drvZ Try.func138 ?_; simp (maxSteps := 9999999) only [go_sem, rdr]))
    (repeat' with_reducible apply And.intro) <;> (try first | omega | (simp only [InK]; omega) | (intro k e; cases e; rfl) | (intro hguard; exact ⟨hguard, by simp only [InK]; omega⟩) | kernel_rfl)
    refine XK.callG [0, 2305] (numO bs n2 [1, 2, 1, 0] hb hl (by omega) (by decide) (by decide)) ok100 (hhp2 rfl rfl) (hbT ()) (fun d h' ⟨_, _, _, e⟩ => by subst e; simp) ?_ (fun _ => ⟨by kernel_rfl, _, _, ⟨1, rfl, by simp, rfl⟩, by simp⟩)
    rintro _ _ ⟨nv, rfl, hnv, rfl⟩ _
    iterate 2 (try (refine drvZ Try.func138 ?_; simp (maxSteps := 9999999) only [go_sem, rdr]))
    (repeat' with_reducible apply And.intro) <;> (try first | omega | (simp only [InK]; omega) | (intro k e; cases e; rfl) | (intro hguard; exact ⟨hguard, by simp only [InK]; omega⟩) | kernel_rfl)
    obtain ⟨nn1, rfl, hnn1⟩ : ∃ a : Nat, nv = (a : Int) ∧ a ≤ 4 := ⟨nv.toNat, by simp at hnv; omega, by simp at hnv; omega⟩
    refine XK.callG [0] (ih d' rfl (n2 + 1) nn1 hnn1 (by omega)) ok101 (hhp_one rfl) (hbT ()) (fun d h' ⟨_, _, _, _, _, _, _, e⟩ => by subst e; simp) ?_ (fun _ => ⟨by kernel_rfl, _, _, ⟨[], rfl, by simp, by simp, (n2 + 1), by omega, by omega, rfl⟩, by simp⟩)
    rintro _ _ ⟨l1, rfl, hl1, hs1, m1, hp1, hq1, rfl⟩ _
    iterate 3 (try (refine drvZ Try.func138 ?_; simp (maxSteps := 9999999) only [go_sem, rdr]))
    (repeat' with_reducible apply And.intro) <;> (try first | omega | (simp only [InK]; omega) | (intro k e; cases e; rfl) | (intro hguard; exact ⟨hguard, by simp only [InK]; omega⟩) | kernel_rfl)
    refine XK.callG [0, 2945] (numO bs m1 [0, 1, 0, 2] hb hl (by omega) (by decide) (by decide)) ok100 (hhp2 rfl rfl) (hbT ()) (fun d h' ⟨_, _, _, e⟩ => by subst e; simp) ?_ (fun _ => ⟨by kernel_rfl, _, _, ⟨1, rfl, by simp, rfl⟩, by simp⟩)
    rintro _ _ ⟨nv, rfl, hnv, rfl⟩ _
    iterate 2 (try (refine drvZ Try.func138 ?_; simp (maxSteps := 9999999) only [go_sem, rdr]))
    (repeat' with_reducible apply And.intro) <;> (try first | omega | (simp only [InK]; omega) | (intro k e; cases e; rfl) | (intro hguard; exact ⟨hguard, by simp only [InK]; omega⟩) | kernel_rfl)
    obtain ⟨nn3, rfl, hnn3⟩ : ∃ a : Nat, nv = (a : Int) ∧ a ≤ 4 := ⟨nv.toNat, by simp at hnv; omega, by simp at hnv; omega⟩
    refine XK.callG [0] (ih d' rfl (m1 + 1) nn3 hnn3 (by omega)) ok101 (hhp_one rfl) (hbT ()) (fun d h' ⟨_, _, _, _, _, _, _, e⟩ => by subst e; simp) ?_ (fun _ => ⟨by kernel_rfl, _, _, ⟨[], rfl, by simp, by simp, (m1 + 1), by omega, by omega, rfl⟩, by simp⟩)
    rintro _ _ ⟨l3, rfl, hl3, hs3, m3, hp3, hq3, rfl⟩ _
    iterate 3 (try (refine drvZ Try.func138 ?_; simp (maxSteps := 9999999) only [go_sem, rdr]))
    (repeat' with_reducible apply And.intro) <;> (try first | omega | (simp only [InK]; omega) | (intro k e; cases e; rfl) | (intro hguard; exact ⟨hguard, by simp only [InK]; omega⟩) | kernel_rfl)
    refine RetOb.ofQ (fun j => if j = 0 then some 0 else none) [] (.agg (St1.cells (.mk 3 0 Ex0 (.mk k2 w2 ks2) 0 l1 l3))) [some (rdr bs m3)] ?_ ?_ (by simp)
    · simp [enumL, hOf, DM, DMs, CM, CMs, HpOK, LowOK, upd, Ex.cells, Ex.cellsL, St1.cells, St1.cellsL, Ex0, rdr, kf]
    · rw [← hR]; exact ⟨.mk 3 0 Ex0 (.mk k2 w2 ks2) 0 l1 l3, rfl, ⟨SmE0, he2, hl1, hl3, hs1, hs3⟩, m3, by omega, by omega, rfl⟩
  · obtain ⟨d', rfl⟩ : ∃ d', d = d' + 1 := ⟨d - 1, by omega⟩
    have hKK : KS (d' + 1) = 1200 + 8 * KS d' := rfl
    have e1 : ((1 : Int) < ((d' : Int) + 1 + 1)) = True := eq_true (by omega)
    iterate 9 (try (refine drvZ Try.func138 ?_; simp (maxSteps := 9999999) only [go_sem, rdr, e1]))
    (repeat' with_reducible apply And.intro) <;> (try first | omega | (simp only [InK]; omega) | (intro k e; cases e; rfl) | (intro hguard; exact ⟨hguard, by simp only [InK]; omega⟩) | kernel_rfl)
    refine XK.callG [0, 2177] (numO bs (n + 1) [2, 1, 3] hb hl (by omega) (by decide) (by decide)) ok100 (hhp2 rfl rfl) (hbT ()) (fun d h' ⟨_, _, _, e⟩ => by subst e; simp) ?_ (fun _ => ⟨by kernel_rfl, _, _, ⟨1, rfl, by simp, rfl⟩, by simp⟩)
    rintro _ _ ⟨cv, rfl, hcv, rfl⟩ _
    iterate 3 (try (refine drvZ Try.func138 ?_; simp (maxSteps := 9999999) only [go_sem, rdr]))
    (repeat' with_reducible apply And.intro) <;> (try first | omega | (simp only [InK]; omega) | (intro k e; cases e; rfl) | (intro hguard; exact ⟨hguard, by simp only [InK]; omega⟩) | kernel_rfl)
    refine XK.callG [0, 2753] (numO bs (n + 2) [1, 2, 1] hb hl (by omega) (by decide) (by decide)) ok100 (hhp2 rfl rfl) (hbT ()) (fun d h' ⟨_, _, _, e⟩ => by subst e; simp) ?_ (fun _ => ⟨by kernel_rfl, _, _, ⟨1, rfl, by simp, rfl⟩, by simp⟩)
    rintro _ _ ⟨nv, rfl, hnv, rfl⟩ _
    iterate 2 (try (refine drvZ Try.func138 ?_; simp (maxSteps := 9999999) only [go_sem, rdr]))
    (repeat' with_reducible apply And.intro) <;> (try first | omega | (simp only [InK]; omega) | (intro k e; cases e; rfl) | (intro hguard; exact ⟨hguard, by simp only [InK]; omega⟩) | kernel_rfl)
    obtain ⟨nn1, rfl, hnn1⟩ : ∃ a : Nat, nv = (a : Int) ∧ a ≤ 4 := ⟨nv.toNat, by simp at hnv; omega, by simp at hnv; omega⟩
    refine XK.callG [0] (ih d' rfl (n + 3) nn1 hnn1 (by omega)) ok101 (hhp_one rfl) (hbT ()) (fun d h' ⟨_, _, _, _, _, _, _, e⟩ => by subst e; simp) ?_ (fun _ => ⟨by kernel_rfl, _, _, ⟨[], rfl, by simp, by simp, (n + 3), by omega, by omega, rfl⟩, by simp⟩)
    rintro _ _ ⟨l1, rfl, hl1, hs1, m1, hp1, hq1, rfl⟩ _
    iterate 3 (try (refine drvZ Try.func138 ?_; simp (maxSteps := 9999999) only [go_sem, rdr]))
    (repeat' with_reducible apply And.intro) <;> (try first | omega | (simp only [InK]; omega) | (intro k e; cases e; rfl) | (intro hguard; exact ⟨hguard, by simp only [InK]; omega⟩) | kernel_rfl)
    refine RetOb.ofQ (fun j => if j = 0 then some 0 else none) [] (.agg (St1.cells (.mk 4 0 Ex0 Ex0 cv l1 []))) [some (rdr bs m1)] ?_ ?_ (by simp)
    · simp [enumL, hOf, DM, DMs, CM, CMs, HpOK, LowOK, upd, Ex.cells, Ex.cellsL, St1.cells, St1.cellsL, Ex0, rdr, kf]
    · rw [← hR]; exact ⟨.mk 4 0 Ex0 Ex0 cv l1 [], rfl, ⟨SmE0, SmE0, hl1, by simp, hs1, by simp⟩, m1, by omega, by omega, rfl⟩
  · rcases hk with rfl | rfl | ⟨rfl, ha0⟩ | ⟨rfl, rfl⟩ | ⟨rfl, rfl⟩
    · skip
      iterate 10 (try (refine drvZ Try.func138 ?_; simp (maxSteps := 9999999) only [go_sem, rdr]))
      refine XK.callG [0] (pick bs (n + 1) vs.length hb hl (by omega) (by simp only [InK]; omega)) ok58 (hhp_one rfl) (hbT ()) (fun d h' ⟨v, _, _, e⟩ => by subst e; simp) ?_
      rintro _ _ ⟨v1, rfl, hv1, rfl⟩ _
      iterate 2 (try (refine drvZ Try.func138 ?_; simp (maxSteps := 9999999) only [go_sem, rdr]))
      refine XK.callG [0] (hsm (n + 2) (by omega)) ok160 (hhp_one rfl) (hbT ()) (fun d h' ⟨_, _, _, _, _, _, e⟩ => by subst e; simp) ?_
      rintro _ _ ⟨⟨k2, w2, ks2⟩, rfl, he2, n2, hn2, hm2, rfl⟩ _
      iterate 2 (try (refine drvZ Try.func138 ?_; simp (maxSteps := 9999999) only [go_sem, rdr]))
      refine RetOb.ofQ (fun j => if j = 0 then some 0 else none) [] (.agg (St1.cells (.mk 1 v1 Ex0 (.mk k2 w2 ks2) 0 [] []))) [some (rdr bs n2)] ?_ ?_ (by simp)
      · simp [enumL, hOf, DM, DMs, CM, CMs, HpOK, LowOK, upd, Ex.cells, Ex.cellsL, St1.cells, St1.cellsL, Ex0, rdr, kf]
      · rw [← hR]; exact ⟨.mk 1 v1 Ex0 (.mk k2 w2 ks2) 0 [] [], rfl, SmS.leaf SmE0 he2, n2, by omega, by omega, rfl⟩
    · skip
      iterate 10 (try (refine drvZ Try.func138 ?_; simp (maxSteps := 9999999) only [go_sem, rdr]))
      refine XK.callG [0] (pick bs (n + 1) vs.length hb hl (by omega) (by simp only [InK]; omega)) ok58 (hhp_one rfl) (hbT ()) (fun d h' ⟨v, _, _, e⟩ => by subst e; simp) ?_
      rintro _ _ ⟨v1, rfl, hv1, rfl⟩ _
      iterate 2 (try (refine drvZ Try.func138 ?_; simp (maxSteps := 9999999) only [go_sem, rdr]))
      refine XK.callG [0] (hsm (n + 2) (by omega)) ok160 (hhp_one rfl) (hbT ()) (fun d h' ⟨_, _, _, _, _, _, e⟩ => by subst e; simp) ?_
      rintro _ _ ⟨⟨k2, w2, ks2⟩, rfl, he2, n2, hn2, hm2, rfl⟩ _
      iterate 2 (try (refine drvZ Try.func138 ?_; simp (maxSteps := 9999999) only [go_sem, rdr]))
      refine RetOb.ofQ (fun j => if j = 0 then some 0 else none) [] (.agg (St1.cells (.mk 5 v1 Ex0 (.mk k2 w2 ks2) 0 [] []))) [some (rdr bs n2)] ?_ ?_ (by simp)
      · simp [enumL, hOf, DM, DMs, CM, CMs, HpOK, LowOK, upd, Ex.cells, Ex.cellsL, St1.cells, St1.cellsL, Ex0, rdr, kf]
      · rw [← hR]; exact ⟨.mk 5 v1 Ex0 (.mk k2 w2 ks2) 0 [] [], rfl, SmS.leaf SmE0 he2, n2, by omega, by omega, rfl⟩
    · skip
      have e1 : ((0 : Int) < (ar.length : Int)) = False := eq_false (by omega)
      iterate 10 (try (refine drvZ Try.func138 ?_; simp (maxSteps := 9999999) only [go_sem, rdr, e1]))
      refine XK.callG [0] (pick bs (n + 1) vs.length hb hl (by omega) (by simp only [InK]; omega)) ok58 (hhp_one rfl) (hbT ()) (fun d h' ⟨v, _, _, e⟩ => by subst e; simp) ?_
      rintro _ _ ⟨v1, rfl, hv1, rfl⟩ _
      iterate 2 (try (refine drvZ Try.func138 ?_; simp (maxSteps := 9999999) only [go_sem, rdr]))
      refine XK.callG [0] (hsm (n + 2) (by omega)) ok160 (hhp_one rfl) (hbT ()) (fun d h' ⟨_, _, _, _, _, _, e⟩ => by subst e; simp) ?_
      rintro _ _ ⟨⟨k2, w2, ks2⟩, rfl, he2, n2, hn2, hm2, rfl⟩ _
      iterate 2 (try (refine drvZ Try.func138 ?_; simp (maxSteps := 9999999) only [go_sem, rdr]))
      refine RetOb.ofQ (fun j => if j = 0 then some 0 else none) [] (.agg (St1.cells (.mk 1 v1 Ex0 (.mk k2 w2 ks2) 0 [] []))) [some (rdr bs n2)] ?_ ?_ (by simp)
      · simp [enumL, hOf, DM, DMs, CM, CMs, HpOK, LowOK, upd, Ex.cells, Ex.cellsL, St1.cells, St1.cellsL, Ex0, rdr, kf]
      · rw [← hR]; exact ⟨.mk 1 v1 Ex0 (.mk k2 w2 ks2) 0 [] [], rfl, SmS.leaf SmE0 he2, n2, by omega, by omega, rfl⟩
    · simp only [Int.natCast_zero]
      have e1 : ((1 : Int) < ((0 : Int) + 1)) = False := eq_false (by omega)
      iterate 10 (try (refine drvZ Try.func138 ?_; simp (maxSteps := 9999999) only [go_sem, rdr, e1]))
      refine XK.callG [0] (pick bs (n + 1) vs.length hb hl (by omega) (by simp only [InK]; omega)) ok58 (hhp_one rfl) (hbT ()) (fun d h' ⟨v, _, _, e⟩ => by subst e; simp) ?_
      rintro _ _ ⟨v1, rfl, hv1, rfl⟩ _
      iterate 2 (try (refine drvZ Try.func138 ?_; simp (maxSteps := 9999999) only [go_sem, rdr]))
      refine XK.callG [0] (hsm (n + 2) (by omega)) ok160 (hhp_one rfl) (hbT ()) (fun d h' ⟨_, _, _, _, _, _, e⟩ => by subst e; simp) ?_
      rintro _ _ ⟨⟨k2, w2, ks2⟩, rfl, he2, n2, hn2, hm2, rfl⟩ _
      iterate 2 (try (refine drvZ Try.func138 ?_; simp (maxSteps := 9999999) only [go_sem, rdr]))
      refine RetOb.ofQ (fun j => if j = 0 then some 0 else none) [] (.agg (St1.cells (.mk 1 v1 Ex0 (.mk k2 w2 ks2) 0 [] []))) [some (rdr bs n2)] ?_ ?_ (by simp)
      · simp [enumL, hOf, DM, DMs, CM, CMs, HpOK, LowOK, upd, Ex.cells, Ex.cellsL, St1.cells, St1.cellsL, Ex0, rdr, kf]
      · rw [← hR]; exact ⟨.mk 1 v1 Ex0 (.mk k2 w2 ks2) 0 [] [], rfl, SmS.leaf SmE0 he2, n2, by omega, by omega, rfl⟩
    · simp only [Int.natCast_zero]
      have e1 : ((1 : Int) < ((0 : Int) + 1)) = False := eq_false (by omega)
      iterate 10 (try (refine drvZ Try.func138 ?_; simp (maxSteps := 9999999) only [go_sem, rdr, e1]))
      refine XK.callG [0] (pick bs (n + 1) vs.length hb hl (by omega) (by simp only [InK]; omega)) ok58 (hhp_one rfl) (hbT ()) (fun d h' ⟨v, _, _, e⟩ => by subst e; simp) ?_
      rintro _ _ ⟨v1, rfl, hv1, rfl⟩ _
      iterate 2 (try (refine drvZ Try.func138 ?_; simp (maxSteps := 9999999) only [go_sem, rdr]))
      refine XK.callG [0] (hsm (n + 2) (by omega)) ok160 (hhp_one rfl) (hbT ()) (fun d h' ⟨_, _, _, _, _, _, e⟩ => by subst e; simp) ?_
      rintro _ _ ⟨⟨k2, w2, ks2⟩, rfl, he2, n2, hn2, hm2, rfl⟩ _
      iterate 2 (try (refine drvZ Try.func138 ?_; simp (maxSteps := 9999999) only [go_sem, rdr]))
      refine RetOb.ofQ (fun j => if j = 0 then some 0 else none) [] (.agg (St1.cells (.mk 1 v1 Ex0 (.mk k2 w2 ks2) 0 [] []))) [some (rdr bs n2)] ?_ ?_ (by simp)
      · simp [enumL, hOf, DM, DMs, CM, CMs, HpOK, LowOK, upd, Ex.cells, Ex.cellsL, St1.cells, St1.cellsL, Ex0, rdr, kf]
      · rw [← hR]; exact ⟨.mk 1 v1 Ex0 (.mk k2 w2 ks2) 0 [] [], rfl, SmS.leaf SmE0 he2, n2, by omega, by omega, rfl⟩
end Go.Proofs.Ytclgjiffpijgmaa.CtD

namespace Go.Proofs.Ytclgjiffpijgmaa.CtD
open Go Go.CT CtF CtR

theorem draws (bs : List Int) (p : Pg) (hb : Fits .u8 bs) (hl : bs.length ≤ 2000) (hp : p.vars.length ≤ mx) (hp2 : p.arrays.length ≤ mx) : ∀ (d : Nat), d ≤ 3 →
    (∀ n : Nat, n + KS d ≤ 549755813888 → DC Try.prog 138 [.c (.ptr 0 0), .agg p.cells, DI .i64 (d + 1 : Nat)] [some (rdr bs n)] (stR bs n d)) ∧
    (∀ (n nn : Nat), nn ≤ 4 → n + 4 * KS d ≤ 549755813888 → DC Try.prog 101 [.c (.ptr 0 0), .agg p.cells, DI .i64 (d + 1 : Nat), DI .i64 nn] [some (rdr bs n)]
      (fun r h => ∃ l : List St1, r = .c (.isl 11 (St1.cellsL l)) ∧ l.length ≤ 4 ∧ (∀ s ∈ l, SmS d s) ∧ rdL bs n (4 * KS d) h)) := by
  intro d
  induction d with
  | zero =>
    intro hd
    have hs := fun n h => l2DrawStmtOf bs p hb hl hp hp2 0 hd (fun d' e => by omega) n h
    exact ⟨hs, fun n nn h1 h2 => l2DrawBlockOf bs p ((0 + 1 : Nat) : Int) (SmS 0) (KS 0) (by decide) hs n nn h1 h2⟩
  | succ d ih =>
    intro hd
    have hs := fun n h => l2DrawStmtOf bs p hb hl hp hp2 (d + 1) hd (fun d' e => by
      obtain rfl : d = d' := by omega
      exact (ih (by omega)).2) n h
    exact ⟨hs, fun n nn h1 h2 => l2DrawBlockOf bs p ((d + 1 + 1 : Nat) : Int) (SmS (d + 1)) (KS (d + 1)) (Nat.le_trans (KS_le _ hd) (by decide)) hs n nn h1 h2⟩

theorem tsize_sm : ∀ (d k : Nat) (s : St1), SmS d s → tsize k s ≤ 9 ^ d
  | d, 0, .mk _ _ _ _ _ b e, _ => Nat.zero_le _
  | 0, k + 1, .mk _ _ ix v _ b e, h => by
    simp only [SmS] at h
    obtain ⟨_, _, rfl, rfl⟩ := h
    simp [tsize]
  | d + 1, k + 1, .mk kk tt ix v cc b e, h => by
    simp only [SmS] at h
    obtain ⟨_, _, h1, h2, h3, h4⟩ := h
    have hsum : ∀ l : List St1, (∀ x ∈ l, SmS d x) → (l.map (tsize k)).sum ≤ l.length * 9 ^ d := fun l hl => by
      induction l with
      | nil => simp
      | cons a r ih =>
        have := tsize_sm d k a (hl a (by simp))
        have := ih fun x hx => hl x (by simp [hx])
        simp only [List.map_cons, List.sum_cons, List.length_cons, Nat.add_mul]
        omega
    have g1 := hsum b h3
    have g2 := hsum e h4
    have g3 : b.length * 9 ^ d ≤ 4 * 9 ^ d := Nat.mul_le_mul_right _ h1
    have g4 : e.length * 9 ^ d ≤ 4 * 9 ^ d := Nat.mul_le_mul_right _ h2
    have g5 : 0 < 9 ^ d := Nat.pow_pos (by decide)
    have e1 : tsize (k + 1) (.mk kk tt ix v cc b e) = 1 + (b.map (tsize k)).sum + (e.map (tsize k)).sum := rfl
    rw [e1, Nat.pow_succ]
    omega
theorem lsize_sm (d k : Nat) (l : List St1) (h : ∀ s ∈ l, SmS d s) : lsize k l ≤ l.length * 9 ^ d := by
  unfold lsize
  induction l with
  | nil => simp
  | cons a r ih =>
    have := tsize_sm d k a (h a (by simp))
    have := ih fun x hx => h x (by simp [hx])
    simp only [List.map_cons, List.sum_cons, List.length_cons, Nat.add_mul]
    omega
end Go.Proofs.Ytclgjiffpijgmaa.CtD

namespace Go.Proofs.Ytclgjiffpijgmaa.CtD
open Go Go.CT CtF CtR

def fixP : Pg := ⟨[0, 1], [], [.mk 1 1 Ex0 (.mk 2 0 []) 0 [] []]⟩
/-- What the laws need of a drawn program. -/
structure DrP (p : Pg) : Prop where
  ok : progOK p = true
  nv : p.vars.length ≤ 5
  na : p.arrays.length ≤ 2
  nb : p.body.length ≤ 4
  sm : ∀ s ∈ p.body, SmS 2 s
theorem DrP.fix : DrP fixP := ⟨by decide, by decide, by decide, by decide, fun s hs => by
  simp only [fixP, List.mem_singleton] at hs
  subst hs
  exact SmS.leaf SmE0 (.mk 2 0 [] (by simp) (fun x h => by simp at h))⟩
def prR (bs : List Int) (n : Nat) (r : D) (h : List (Option (List C))) : Prop := ∃ p : Pg, r = .agg p.cells ∧ DrP p ∧ rdL bs n 1000000 h
theorem i_snoc (l : List Int) (x : Int) : (l ++ [x]).map I64 = l.map I64 ++ [I64 x] := by simp

theorem l2Program (bs : List Int) (n : Nat) (hb : Fits .u8 bs) (hl : bs.length ≤ 2000) (hn : n ≤ 274877906944) : DC Try.prog 55 [.c (.ptr 0 0)] [some (rdr bs n)] (prR bs n) := by
  have hmx := mx_eq
  have hnum := fun n xs h1 h2 h3 => numO bs n xs hb hl h1 h2 h3
  generalize hR : prR bs n = R
  refine dcZ Try.func55 ?_
  simp (maxSteps := 9999999) only [go_sem, rdr]
  iterate 3 ((try (refine drvZ Try.func55 ?_; simp (maxSteps := 9999999) only [go_sem, rdr])); (try ((with_reducible refine And.intro ?_ ?_) <;> (repeat' with_reducible apply And.intro) <;> try exact sd)))
  refine XK.callG [0, 321] (hnum n [3, 4, 2, 5] (by omega) (by decide) (by decide)) ok100 (hhp2 rfl rfl) (hbT ()) (fun d h' ⟨_, _, _, e⟩ => by subst e; simp) ?_
  rintro _ _ ⟨nv, rfl, hnv, rfl⟩ _
  obtain ⟨a, rfl, ha5⟩ : ∃ a : Nat, nv = (a : Int) ∧ a ≤ 5 := ⟨nv.toNat, by simp at hnv; omega, by simp at hnv; omega⟩
  clear hnv
  iterate 1 (try (refine drvZ Try.func55 ?_; simp (maxSteps := 9999999) only [go_sem, rdr]))
  refine Go.loopQ (fun x : Nat × List Int => [(0, .c (.ptr 0 0)), (2, .c (.ptr 1 0)), (3, .c (.ptr 66 0)), (4, DI .i64 x.1)])
    (fun x => [(0, some (rdr bs ((n + 1 + x.2.length : Nat) : Int))), (1, some [.v (.slice none 0 0), .v (.slice none 0 0), .v (.slice none 0 0)]), (66, some [.msl 67 1 0 x.2.length, .v (.slice none 0 0), .v (.slice none 0 0)]), (67, some (x.2.map I64))])
    4096 (fun x => x.1 + x.2.length ≤ 5) (fun x => x.1) ?_ (a, []) (fun j => if j = 66 then some 129 else if j = 67 then none else some j) [] _ (by simp; omega) ?_
  · rintro ⟨i, vs⟩ hi again
    simp only at hi
    rcases i with _ | i
    · have hip : ((0 : Int) < 0) = False := eq_false (by omega)
      refine drvL Try.func55 ?_
      simp (maxSteps := 9999999) only [go_sem, rdr, hip, Int.natCast_zero]
      iterate 3 ((try (refine drvZ Try.func55 ?_; simp (maxSteps := 9999999) only [go_sem, rdr])); (try ((with_reducible refine And.intro ?_ ?_) <;> (repeat' with_reducible apply And.intro) <;> try exact sd)))
      refine XK.callG [0, 4288] (hnum (n + 1 + vs.length) [1, 2, 0, 1] (by omega) (by decide) (by decide)) ok100 (hhp2 rfl rfl) (hbT ()) (fun d h' ⟨_, _, _, e⟩ => by subst e; simp) ?_
      rintro _ _ ⟨nv, rfl, hnv, rfl⟩ _
      obtain ⟨a2, rfl, ha2⟩ : ∃ a : Nat, nv = (a : Int) ∧ a ≤ 2 := ⟨nv.toNat, by simp at hnv; omega, by simp at hnv; omega⟩
      clear hnv again
      ((try (refine drvZ Try.func55 ?_; simp (maxSteps := 9999999) only [go_sem, rdr])); (try ((with_reducible refine And.intro ?_ ?_) <;> (repeat' with_reducible apply And.intro) <;> try exact sd)))
      refine Go.loopQ (fun x : Nat × List Int => [(0, .c (.ptr 0 0)), (2, .c (.ptr 1 0)), (3, .c (.ptr 66 0)), (5, DI .i64 x.1)])
        (fun x => [(0, some (rdr bs ((n + 1 + vs.length + 1 + x.2.length : Nat) : Int))), (1, some [.v (.slice none 0 0), .v (.slice none 0 0), .v (.slice none 0 0)]), (66, some [isI vs, .msl 68 1 0 x.2.length, .v (.slice none 0 0)]), (68, some (x.2.map I64))])
        8192 (fun x => x.1 + x.2.length ≤ 2) (fun x => x.1) ?_ (a2, []) (fun j => if j = 68 then none else some j) [67] _ (by simp; omega) ?_
      · rintro ⟨i, ar⟩ hi again
        simp only at hi
        rcases i with _ | i
        · have hip : ((0 : Int) < 0) = False := eq_false (by omega)
          refine drv_sound (n := 3) (rs := _) Try.func55 mo rfl none _ _ ?_
          simp (maxSteps := 9999999) only [go_sem, rdr]
          refine XK.subQ (r := some) (fz := [68]) (tl := [(0, .c (.ptr 0 0)), (2, .c (.ptr 1 0)), (3, .c (.ptr 66 0)), (5, DI .i64 0)])
            (hl := [(0, some (rdr bs ((n + 1 + vs.length + 1 + ar.length : Nat) : Int))), (1, some [.v (.slice none 0 0), .v (.slice none 0 0), .v (.slice none 0 0)]), (66, some [isI vs, isI ar, .isl 11 []])]) ?_ ?_
          · simp (maxSteps := 9999999) only [go_sem, TmOK, DM, DMs, CM, CMs, forall_eq, exists_eq_left, Mq, HpOK, LowOK, rdr]
            simp [CMs, kf, flat_I']
          iterate 3 ((try (refine drvZ Try.func55 ?_; simp (maxSteps := 9999999) only [go_sem, rdr, hip])); (try ((with_reducible refine And.intro ?_ ?_) <;> (repeat' with_reducible apply And.intro) <;> try exact sd)))
          refine XK.callG [0, 8512] (hnum (n + 1 + vs.length + 1 + ar.length) [2, 3, 1, 4] (by omega) (by decide) (by decide)) ok100 (hhp2 rfl rfl) (hbT ()) (fun d h' ⟨_, _, _, e⟩ => by subst e; simp) ?_ (fun _ => ⟨by kernel_rfl, _, _, ⟨1, rfl, by simp, rfl⟩, by simp⟩)
          rintro _ _ ⟨nv, rfl, hnv, rfl⟩ _
          obtain ⟨nn, rfl, hnn⟩ : ∃ a : Nat, nv = (a : Int) ∧ a ≤ 4 := ⟨nv.toNat, by simp at hnv; omega, by simp at hnv; omega⟩
          clear hnv again
          have hvs : vs.length ≤ 5 := by omega
          have har : ar.length ≤ 2 := by omega
          have hdb := ((draws bs ⟨vs, ar, []⟩ hb hl (by simp only; omega) (by simp only; omega) 2 (by omega)).2 (n + 1 + vs.length + 1 + ar.length + 1) nn hnn (by have := KS_le 2 (by omega); omega))
          iterate 2 ((try (refine drvZ Try.func55 ?_; simp (maxSteps := 9999999) only [go_sem, rdr, hip])); (try ((with_reducible refine And.intro ?_ ?_) <;> (repeat' with_reducible apply And.intro) <;> try exact sd)))
          refine XK.callG [0] hdb ok101 (hhp_one rfl) (hbT ()) (fun d h' ⟨_, _, _, _, _, _, _, e⟩ => by subst e; simp) ?_ (fun _ => ⟨by kernel_rfl, _, _, ⟨[], rfl, by simp, by simp, n + 1 + vs.length + 1 + ar.length + 1, by omega, by omega, rfl⟩, by simp⟩)
          rintro _ _ ⟨bd, rfl, hbl, hbs, m, hm1, hm2, rfl⟩ _
          have hKS : KS 2 = 87600 := rfl
          have hls := lsize_sm 2 5 bd hbs
          have hpv := programValidS ⟨vs, ar, bd⟩ (by simp only; omega) (by simp only; omega) (by simp only; omega)
          iterate 3 ((try (refine drvZ Try.func55 ?_; simp (maxSteps := 9999999) only [go_sem, rdr, hip])); (try ((with_reducible refine And.intro ?_ ?_) <;> (repeat' with_reducible apply And.intro) <;> try exact sd)))
          refine XK.plain hpv ok48 ?_ (hbT ())
          cases hq : progOK ⟨vs, ar, bd⟩ with
          | true =>
            iterate 3 ((try (refine drvZ Try.func55 ?_; simp (maxSteps := 9999999) only [go_sem, rdr, hq])); (try ((with_reducible refine And.intro ?_ ?_) <;> (repeat' with_reducible apply And.intro) <;> try exact sd)))
            refine RetOb.keep1 (d := .agg (Pg.cells ⟨vs, ar, bd⟩)) (cs := rdr bs m) (by rw [← hR]; exact ⟨⟨vs, ar, bd⟩, rfl, ⟨hq, hvs, har, hbl, hbs⟩, m, by omega, by omega, rfl⟩) rfl (rdr_kf _ _) ?_
            intro c hc
            simp only [Pg.cells, isI, List.mem_cons, List.not_mem_nil, or_false] at hc
            rcases hc with rfl | rfl | rfl <;> rfl
          | false =>
            iterate 3 ((try (refine drvZ Try.func55 ?_; simp (maxSteps := 9999999) only [go_sem, rdr, hq])); (try ((with_reducible refine And.intro ?_ ?_) <;> (repeat' with_reducible apply And.intro) <;> try exact sd)))
            refine RetOb.step some [] (.agg [.msl 8960 1 0 2, .isl 1 [], .msl 9152 11 0 1]) [(0, some (rdr bs m)), (8960, some [I64 0, I64 1]), (9152, some (stC fixP.body))] ?_ ?_
            · simp [hOf, DM, DMs, CM, CMs, HpOK, LowOK, upd, rdr, stC, fixP, St1.cells, St1.cellsL, Ex.cells, Ex.cellsL, Ex0]
            refine RetOb.ofQ (fun j => if j = 0 then some 0 else none) [8960, 9152] (.agg (Pg.cells fixP)) [some (rdr bs m)] ?_ ?_ (by simp)
            · simp [enumL, hOf, DM, DMs, CM, CMs, HpOK, LowOK, upd, rdr, stC, fixP, Pg.cells, isI, St1.cells, St1.cellsL, Ex.cells, Ex.cellsL, Ex0, kf]
            · rw [← hR]; exact ⟨fixP, rfl, DrP.fix, m, by omega, by omega, rfl⟩
        · have hip : ((0 : Int) < (i : Int) + 1) = True := eq_true (by omega)
          refine drvL Try.func55 ?_
          simp (maxSteps := 9999999) only [go_sem, rdr, hip]
          iterate 3 ((try (refine drvZ Try.func55 ?_; simp (maxSteps := 9999999) only [go_sem, rdr])); (try ((with_reducible refine And.intro ?_ ?_) <;> (repeat' with_reducible apply And.intro) <;> try exact sd)))
          refine XK.callG [0, 8512] (hnum (n + 1 + vs.length + 1 + ar.length) [0, 1, 0, 1, 3] (by omega) (by decide) (by decide)) ok100 (hhp2 rfl rfl) (hbT ()) (fun d h' ⟨_, _, _, e⟩ => by subst e; simp) ?_ (fun _ => ⟨by kernel_rfl, _, _, ⟨0, rfl, by simp, rfl⟩, by simp⟩)
          rintro _ _ ⟨v, rfl, hv, rfl⟩ _
          clear hv
          iterate 4 ((try (refine drvZ Try.func55 ?_; simp (maxSteps := 9999999) only [go_sem, rdr])); (try ((with_reducible refine And.intro ?_ ?_) <;> (repeat' with_reducible apply And.intro) <;> try exact sd)))
          refine again (i, ar ++ [v]) (fun j => if j = 68 then some 8704 else some j) [] _ (by simp; omega) (by simp) ?_
          simp (maxSteps := 9999999) only [go_sem, TmOK, DM, DMs, CM, CMs, forall_eq, exists_eq_left, Mq, HpOK, LowOK, rdr, i_snoc]
          simp
          exact ⟨by omega, CMs.kf (kf_app (kf_I _) (by simp [kf]))⟩
      · simp (maxSteps := 9999999) only [go_sem, TmOK, DM, DMs, CM, CMs, forall_eq, exists_eq_left, Mq, HpOK, LowOK, rdr]
        simp [CMs, kf, flat_I']
    · have hip : ((0 : Int) < (i : Int) + 1) = True := eq_true (by omega)
      refine drvL Try.func55 ?_
      simp (maxSteps := 9999999) only [go_sem, rdr, hip]
      iterate 3 ((try (refine drvZ Try.func55 ?_; simp (maxSteps := 9999999) only [go_sem, rdr])); (try ((with_reducible refine And.intro ?_ ?_) <;> (repeat' with_reducible apply And.intro) <;> try exact sd)))
      refine XK.callG [0, 4416] (hnum (n + 1 + vs.length) [0, 1, 0, 1, 2, 3] (by omega) (by decide) (by decide)) ok100 (hhp2 rfl rfl) (hbT ()) (fun d h' ⟨_, _, _, e⟩ => by subst e; simp) ?_ (fun _ => ⟨by kernel_rfl, _, _, ⟨0, rfl, by simp, rfl⟩, by simp⟩)
      rintro _ _ ⟨v, rfl, hv, rfl⟩ _
      clear hv
      iterate 4 ((try (refine drvZ Try.func55 ?_; simp (maxSteps := 9999999) only [go_sem, rdr])); (try ((with_reducible refine And.intro ?_ ?_) <;> (repeat' with_reducible apply And.intro) <;> try exact sd)))
      refine again (i, vs ++ [v]) (fun j => if j = 67 then some 4608 else some j) [] _ (by simp; omega) (by simp) ?_
      simp (maxSteps := 9999999) only [go_sem, TmOK, DM, DMs, CM, CMs, forall_eq, exists_eq_left, Mq, HpOK, LowOK, rdr, i_snoc]
      simp
      exact ⟨by omega, CMs.kf (kf_app (kf_I _) (by simp [kf]))⟩
  · simp (maxSteps := 9999999) only [go_sem, TmOK, DM, DMs, CM, CMs, forall_eq, exists_eq_left, Mq, HpOK, LowOK, rdr]
    simp [CMs]
end Go.Proofs.Ytclgjiffpijgmaa.CtD

namespace Go.Proofs.Ytclgjiffpijgmaa.CtD
open Go Go.CT CtF CtR

def meR (bs : List Int) (n : Nat) (p : Pg) (r : D) (h : List (Option (List C))) : Prop := ∃ m : Mm, r = .agg m.cells ∧ MemFits p m ∧ rdL bs n 30 h
theorem a_snoc (l : List (List Int)) (x : List Int) : (l ++ [x]).map isI = l.map isI ++ [isI x] := by simp
theorem hdF (l : List (List Int)) : (l.map fun a => [isI a]).flatten = l.map isI := flat1 _ l
theorem rI (l : List Int) (x : Int) (h : ∀ y ∈ l, 0 ≤ y ∧ y ≤ 255) (h2 : 0 ≤ x ∧ x ≤ 255) : ∀ y ∈ l ++ [x], 0 ≤ y ∧ y ≤ 255 := fun y hy => by
  rcases List.mem_append.1 hy with h3 | h3
  · exact h y h3
  · rw [List.mem_singleton.1 h3]; exact h2

theorem l3Memory (bs : List Int) (n : Nat) (p : Pg) (hb : Fits .u8 bs) (hl : bs.length ≤ 2000) (hn : n ≤ 274877906944) (hp : 1 ≤ p.vars.length ∧ p.vars.length ≤ 12) (hp2 : p.arrays.length ≤ 2) : DC Try.prog 56 [.c (.ptr 0 0), .agg p.cells] [some (rdr bs n)] (meR bs n p) := by
  have hmx := mx_eq
  have hval := fun n h => l3Value bs n hb hl h
  generalize hR : meR bs n p = R
  obtain ⟨vs, ar, bd⟩ := p
  have hp : 1 ≤ vs.length ∧ vs.length ≤ 12 := hp
  have hp2 : ar.length ≤ 2 := hp2
  refine dcZ Try.func56 ?_
  simp (maxSteps := 9999999) only [go_sem, rdr]
  ((try (refine drvZ Try.func56 ?_; simp (maxSteps := 9999999) only [go_sem, rdr])); (try ((with_reducible refine And.intro ?_ ?_) <;> (repeat' with_reducible apply And.intro) <;> try exact sd)))
  refine Go.loopQ (fun x : Nat × List Int => [(0, .c (.ptr 0 0)), (3, .c (.ptr 1 0)), (4, .c (.ptr 65 0)), (5, .c (.ptr 66 0)), (6, DI .i64 x.2.length)])
    (fun x => [(0, some (rdr bs x.1)), (1, some (Pg.cells ⟨vs, ar, bd⟩)), (65, some [.v (.slice none 0 0), .v (.slice none 0 0)]), (66, some [.msl 67 1 0 x.2.length, .v (.slice none 0 0)]), (67, some (x.2.map I64))])
    4096 (fun x => x.2.length ≤ vs.length ∧ n ≤ x.1 ∧ x.1 ≤ n + x.2.length ∧ ∀ y ∈ x.2, 0 ≤ y ∧ y ≤ 255) (fun x => vs.length - x.2.length) ?_ (n, []) (fun j => if j = 66 then some 193 else if j = 67 then none else some j) [] _ (by simp) ?_
  · rintro ⟨pos, l⟩ ⟨hi1, hi2, hi3, hi4⟩ again
    simp only at hi1 hi2 hi3 hi4
    rcases Nat.lt_or_ge l.length vs.length with hlt | hge
    · refine drvL Try.func56 ?_
      simp (maxSteps := 9999999) only [go_sem, rdr, hlt]
      iterate 3 ((try (refine drvZ Try.func56 ?_; simp (maxSteps := 9999999) only [go_sem, rdr])); (try ((with_reducible refine And.intro ?_ ?_) <;> (repeat' with_reducible apply And.intro) <;> try exact sd)))
      refine XK.callG [0] (hval pos (by omega)) ok59 (hhp_one rfl) (hbT ()) (fun d h' ⟨_, _, _, _, _, _, e⟩ => by subst e; simp) ?_ (fun _ => ⟨by kernel_rfl, _, _, ⟨0, rfl, by omega, pos, by omega, by omega, rfl⟩, by simp⟩)
      rintro _ _ ⟨v, rfl, hv, pos', hp1, hp3, rfl⟩ _
      iterate 4 ((try (refine drvZ Try.func56 ?_; simp (maxSteps := 9999999) only [go_sem, rdr])); (try ((with_reducible refine And.intro ?_ ?_) <;> (repeat' with_reducible apply And.intro) <;> try exact sd)))
      refine again (pos', l ++ [v]) (fun j => if j = 67 then some 4736 else some j) [] _ ⟨by simp; omega, by omega, by simp; omega, rI l v hi4 hv⟩ (by simp; omega) ?_
      simp (maxSteps := 9999999) only [go_sem, TmOK, DM, DMs, CM, CMs, forall_eq, exists_eq_left, Mq, HpOK, LowOK, rdr, i_snoc]
      simp
      exact CMs.kf (kf_app (kf_I _) (by simp [kf]))
    · have hnl : ¬ l.length < vs.length := by omega
      refine drvL Try.func56 ?_
      simp (maxSteps := 9999999) only [go_sem, rdr, hnl]
      iterate 3 ((try (refine drvZ Try.func56 ?_; simp (maxSteps := 9999999) only [go_sem, rdr])); (try ((with_reducible refine And.intro ?_ ?_) <;> (repeat' with_reducible apply And.intro) <;> try exact sd)))
      refine Go.loopQ (fun x : Nat × List (List Int) => [(0, .c (.ptr 0 0)), (3, .c (.ptr 1 0)), (4, .c (.ptr 65 0)), (5, .c (.ptr 66 0)), (7, DI .i64 x.2.length)])
        (fun x => [(0, some (rdr bs x.1)), (1, some (Pg.cells ⟨vs, ar, bd⟩)), (65, some [.v (.slice none 0 0), .v (.slice none 0 0)]), (66, some [isI l, .msl 68 1 0 x.2.length]), (68, some (x.2.map isI))])
        8192 (fun x => x.2.length ≤ ar.length ∧ n ≤ x.1 ∧ x.1 ≤ n + l.length + 4 * x.2.length ∧ ∀ a ∈ x.2, a.length = 4 ∧ ∀ y ∈ a, 0 ≤ y ∧ y ≤ 255) (fun x => ar.length - x.2.length) ?_ (pos, []) (fun j => if j = 68 then none else some j) [67] _ (by simp; omega) ?_
      · clear again
        rintro ⟨pos, arrs⟩ ⟨hj1, hj2, hj3, hj4⟩ again
        simp only at hj1 hj2 hj3 hj4
        rcases Nat.lt_or_ge arrs.length ar.length with hlt | hge2
        · refine drvL Try.func56 ?_
          simp (maxSteps := 9999999) only [go_sem, rdr, hlt]
          iterate 3 ((try (refine drvZ Try.func56 ?_; simp (maxSteps := 9999999) only [go_sem, rdr])); (try ((with_reducible refine And.intro ?_ ?_) <;> (repeat' with_reducible apply And.intro) <;> try exact sd)))
          refine Go.loopQ (fun x : Nat × List Int => [(0, .c (.ptr 0 0)), (3, .c (.ptr 1 0)), (4, .c (.ptr 65 0)), (5, .c (.ptr 66 0)), (7, DI .i64 arrs.length), (8, .c (.msl 69 1 0 x.2.length)), (9, DI .i64 x.2.length)])
            (fun x => [(0, some (rdr bs x.1)), (1, some (Pg.cells ⟨vs, ar, bd⟩)), (65, some [.v (.slice none 0 0), .v (.slice none 0 0)]), (66, some [isI l, .msl 68 1 0 arrs.length]), (68, some (arrs.map isI)), (69, some (x.2.map I64))])
            16384 (fun x => x.2.length ≤ 4 ∧ pos ≤ x.1 ∧ x.1 ≤ pos + x.2.length ∧ ∀ y ∈ x.2, 0 ≤ y ∧ y ≤ 255) (fun x => 4 - x.2.length) ?_ (pos, []) (fun j => if j = 69 then some 8512 else some j) [] _ (by simp) ?_
          · rintro ⟨ps, a⟩ ⟨hk1, hk2, hk3, hk4⟩ again2
            simp only at hk1 hk2 hk3 hk4
            rcases Nat.lt_or_ge a.length 4 with hlt2 | hge3
            · have h4 : ((a.length : Int) < 4) = True := eq_true (by omega)
              refine drvL Try.func56 ?_
              simp (maxSteps := 9999999) only [go_sem, rdr, h4]
              iterate 3 ((try (refine drvZ Try.func56 ?_; simp (maxSteps := 9999999) only [go_sem, rdr])); (try ((with_reducible refine And.intro ?_ ?_) <;> (repeat' with_reducible apply And.intro) <;> try exact sd)))
              refine XK.callG [0] (hval ps (by omega)) ok59 (hhp_one rfl) (hbT ()) (fun d h' ⟨_, _, _, _, _, _, e⟩ => by subst e; simp) ?_
              rintro _ _ ⟨v, rfl, hv, ps', hp1, hp3, rfl⟩ _
              iterate 4 ((try (refine drvZ Try.func56 ?_; simp (maxSteps := 9999999) only [go_sem, rdr])); (try ((with_reducible refine And.intro ?_ ?_) <;> (repeat' with_reducible apply And.intro) <;> try exact sd)))
              refine again2 (ps', a ++ [v]) (fun j => if j = 69 then some 16768 else some j) [] _ ⟨by simp; omega, by omega, by simp; omega, rI a v hk4 hv⟩ (by simp; omega) ?_
              simp (maxSteps := 9999999) only [go_sem, TmOK, DM, DMs, CM, CMs, forall_eq, exists_eq_left, Mq, HpOK, LowOK, rdr, i_snoc]
              simp
              exact ⟨CMs.kf (kf_A _), CMs.kf (kf_app (kf_I _) (by simp [kf]))⟩
            · have h4 : ((a.length : Int) < 4) = False := eq_false (by omega)
              have ha4 : a.length = 4 := by omega
              refine drv_sound (n := 3) (rs := _) Try.func56 mo rfl none _ _ ?_
              simp (maxSteps := 9999999) only [go_sem, rdr]
              refine XK.freeze 8 69 1 a.length (a.map fun n => [I64 n]) ?_ (by rw [flat_I]; rfl) rfl (by simp) (by simp) (by simp [kf])
              iterate 6 ((try (refine drvZ Try.func56 ?_; simp (maxSteps := 9999999) only [go_sem, rdr, h4])); (try ((with_reducible refine And.intro ?_ ?_) <;> (repeat' with_reducible apply And.intro) <;> try exact sd)))
              refine again (ps, arrs ++ [a]) (fun j => if j = 68 then some 16768 else some j) [] _ ⟨by simp; omega, by omega, by simp; omega, ?_⟩ (by simp; omega) ?_
              · intro b hb2
                rcases List.mem_append.1 hb2 with h3 | h3
                · exact hj4 b h3
                · rw [List.mem_singleton.1 h3]; exact ⟨ha4, hk4⟩
              · simp (maxSteps := 9999999) only [go_sem, TmOK, DM, DMs, CM, CMs, forall_eq, exists_eq_left, Mq, HpOK, LowOK, rdr, a_snoc]
                simp
                exact CMs.kf (kf_app (kf_A _) (by simp [kf]))
          · simp (maxSteps := 9999999) only [go_sem, TmOK, DM, DMs, CM, CMs, forall_eq, exists_eq_left, Mq, HpOK, LowOK, rdr]
            simp [CMs]
            exact CMs.kf (kf_A _)
        · have hnl : ¬ arrs.length < ar.length := by omega
          refine drvL Try.func56 ?_
          simp (maxSteps := 9999999) only [go_sem, rdr, hnl]
          iterate 3 ((try (refine drvZ Try.func56 ?_; simp (maxSteps := 9999999) only [go_sem, rdr])); (try ((with_reducible refine And.intro ?_ ?_) <;> (repeat' with_reducible apply And.intro) <;> try exact sd)))
          refine RetOb.ofQ (fun j => if j = 0 then some 0 else none) [68] (.agg (Mm.cells ⟨l, arrs⟩)) [some (rdr bs pos)] ?_ ?_ (by simp)
          · simp [enumL, hOf, DM, DMs, CM, CMs, HpOK, LowOK, upd, rdr, Mm.cells, isI, hdF, kf]
            exact (flat1 isI arrs).symm
          · rw [← hR]; exact ⟨⟨l, arrs⟩, rfl, ⟨by simp only; omega, by simp only; omega, by simp only; omega, hp2, hi4, hj4⟩, pos, by omega, by omega, rfl⟩
      · simp (maxSteps := 9999999) only [go_sem, TmOK, DM, DMs, CM, CMs, forall_eq, exists_eq_left, Mq, HpOK, LowOK, rdr]
        simp [CMs, kf, flat_I']
  · simp (maxSteps := 9999999) only [go_sem, TmOK, DM, DMs, CM, CMs, forall_eq, exists_eq_left, Mq, HpOK, LowOK, rdr]
    simp [CMs]
end Go.Proofs.Ytclgjiffpijgmaa.CtD

namespace Go.Proofs.Ytclgjiffpijgmaa.CtD
open Go Go.CT CtF CtR

theorem sim_shrink {m : Nat} {I : Nat → Prop} {w : World} {s : Sg} {hp : Hp} (H : SimH I w s hp) (k : Nat) (cs ds : List C) (hk : hp k = some (some (cs ++ ds))) :
    SimH I w s (upd hp k (some (some cs))) ∧ Ext m I w s hp I w s (upd hp k (some (some cs))) := by
  rcases H.blk k _ hk with ⟨h1, h2⟩ | ⟨b, arr, T, h1, h2, h3, h4, h5⟩
  · have e : cs = [] ∧ ds = [] := List.append_eq_nil_iff.1 h2
    have e2 : upd hp k (some (some cs)) = hp := funext fun j => by
      by_cases hj : j = k
      · subst hj; rw [upd_same, hk, e.1, e.2]; rfl
      · rw [upd_ne _ _ hj]
    rw [e2]
    exact ⟨H, Ext.refl _ _ _ _ _⟩
  · refine sim_store (m := m) H k _ cs hk b arr arr T h1 h2 rfl (by rw [List.length_append] at h3; omega) (fun j hj => ?_) ?_
    · obtain ⟨y, hy, hr⟩ := h5 j (by rw [List.length_append]; omega)
      refine ⟨y, hy, ?_⟩
      rw [List.getElem_append_left hj] at hr
      exact hr
    · have : w.heap.setIfInBounds b (.cells arr T (0, 0)) = w.heap := by
        apply Array.ext_getElem?
        intro j
        rw [Array.getElem?_setIfInBounds]
        by_cases e : b = j
        · subst e; rw [if_pos rfl, if_pos (lt_of_heap h2), h2]
        · simp [e]
      rw [this]
theorem RetOb.shrink {m : Nat} {R : D → List (Option (List C)) → Prop} {d : D} {hp : Hp} {k : Nat} {cs ds : List C} (hk : hp k = some (some (cs ++ ds))) (hn : RetOb m R d (upd hp k (some (some cs)))) : RetOb m R d hp := fun I w s v H hv => by
  obtain ⟨H', E'⟩ := sim_shrink H k cs ds hk
  obtain ⟨I', s', d2, h2, g1, g2, g3, g4, g5⟩ := hn I w s v H' hv
  exact ⟨I', s', d2, h2, g1, g2, g3, E'.trans g4, g5⟩

def hdA (k2 k3 : Nat) : List (List Int) → List C
  | [] => []
  | [a] => [.msl k2 1 0 a.length]
  | a :: b :: _ => [.msl k2 1 0 a.length, .msl k3 1 0 b.length]

/-- An owned memory handed back as plain data, the reader kept. -/
theorem RetOb.memK {R : D → List (Option (List C)) → Prop} {m : Mm} {hp : Hp} {k0 k1 k2 k3 nv na : Nat} {rc : List C} (hna : m.arrays.length ≤ 2) (hR : R (.agg m.cells) [some rc]) (hrc : ∀ c ∈ rc, kf c = true)
    (hz : hp 0 = some (some rc)) (h0 : hp k0 = some (some (m.vals.map I64))) (h1 : hp k1 = some (some (hdA k2 k3 m.arrays))) (h2 : hp k2 = some (some (blk0 m.arrays))) (h3 : hp k3 = some (some (blk1 m.arrays))) (hv : nv = m.vals.length) (hn : na = m.arrays.length)
    (hne : k0 ≠ k1 ∧ k0 ≠ k2 ∧ k0 ≠ k3 ∧ k1 ≠ k2 ∧ k1 ≠ k3 ∧ k2 ≠ k3 ∧ 0 ≠ k0 ∧ 0 ≠ k1 ∧ 0 ≠ k2 ∧ 0 ≠ k3) : RetOb 1 R (.agg [.msl k0 1 0 nv, .msl k1 1 0 na]) hp := by
  subst hv hn
  obtain ⟨va, arr⟩ := m
  obtain ⟨n01, n02, n03, n12, n13, n23, nt0, nt1, nt2, nt3⟩ := hne
  refine RetOb.step (fun j => if j = 0 then some 0 else if j = 1 then some k0 else if j = 2 then some k1 else none) [k2, k3] (.agg [.msl 1 1 0 va.length, .msl 2 1 0 arr.length]) [(0, some rc), (1, some (va.map I64)), (2, some (arr.map isI))] ?_ ?_
  · have e3 : ∀ a : List Int, (a.map fun n => [C.v (.int .i64 n)]).flatten = a.map I64 := fun a => flat1 _ a
    have e4 : ∀ {hT hS : Hp} {r : Nat → Option Nat} {fz : List Nat}, CMs hT r hS fz rc rc = True := eq_true (CMs.kf hrc)
    match arr, hna, h1, h2, h3 with
    | [], _, h1, h2, h3 => simp [DM, DMs, CM, CMs, HpOK, LowOK, hOf, upd, hz, h0, CMs_I, e4, h1, hdA, n01, n02, n03, n12, n13, n23, nt0, nt1, nt2, nt3, Ne.symm n01, Ne.symm nt0, Ne.symm nt1, Ne.symm n23]
    | [a], _, h1, h2, h3 =>
      simp [DM, DMs, CM, CMs, HpOK, LowOK, hOf, upd, hz, h0, CMs_I, e4, h1, h2, hdA, n01, n02, n03, n12, n13, n23, nt0, nt1, nt2, nt3, Ne.symm n01, Ne.symm nt0, Ne.symm nt1, Ne.symm n23, e3, isI, blk0, kf]
    | [a, b], _, h1, h2, h3 =>
      simp [DM, DMs, CM, CMs, HpOK, LowOK, hOf, upd, hz, h0, CMs_I, e4, h1, h2, h3, hdA, n01, n02, n03, n12, n13, n23, nt0, nt1, nt2, nt3, Ne.symm n01, Ne.symm nt0, Ne.symm nt1, Ne.symm n23, e3, isI, blk0, blk1, kf]
  · refine RetOb.ofQ (fun j => if j = 0 then some 0 else none) [1, 2] _ [some rc] ?_ hR (by simp)
    have e4 : ∀ {hT hS : Hp} {r : Nat → Option Nat} {fz : List Nat}, CMs hT r hS fz rc rc = True := eq_true (CMs.kf hrc)
    simp [enumL, DM, DMs, CM, CMs, HpOK, LowOK, hOf, upd, Mm.cells, isI, flat_I, kf, e4]
    exact (flat1 isI arr).symm
end Go.Proofs.Ytclgjiffpijgmaa.CtD

namespace Go.Proofs.Ytclgjiffpijgmaa.CtD
open Go Go.CT CtF CtR

def SmM (m : Mm) : Prop := m.vals.length ≤ 13 ∧ m.arrays.length ≤ 2 ∧ ∀ a ∈ m.arrays, a.length ≤ 4
def beR (bs : List Int) (n : Nat) (r : D) (h : List (Option (List C))) : Prop := ∃ m : Mm, r = .agg m.cells ∧ SmM m ∧ rdL bs n 5 h
theorem hdr_hdA (k k' : Nat) (arr : List (List Int)) (h : arr.length ≤ 2) (h4 : ∀ a ∈ arr, a.length = 4) : hdr k k' arr.length = hdA k k' arr := by
  match arr, h, h4 with
  | [], _, _ => rfl
  | [a], _, h4 => simp [hdr, hdA, h4 a (by simp)]
  | [a, b], _, h4 => simp [hdr, hdA, h4 a (by simp), h4 b (by simp)]

theorem l3Bend (bs : List Int) (n : Nat) (m : Mm) (hb : Fits .u8 bs) (hl : bs.length ≤ 2000) (hn : n ≤ 274877906944) (hv : m.vals.length ≤ 12) (ha : m.arrays.length ≤ 2) (h4 : ∀ a ∈ m.arrays, a.length = 4) : DC Try.prog 106 [.c (.ptr 0 0), .agg m.cells] [some (rdr bs n)] (beR bs n) := by
  have hmx := mx_eq
  have hcp := l3Copy m (by omega) ha h4
  generalize hR : beR bs n = R
  unfold memB at hcp
  obtain ⟨va, arr⟩ := m
  have hv : va.length ≤ 12 := hv
  have ha : arr.length ≤ 2 := ha
  have h4 : ∀ a ∈ arr, a.length = 4 := h4
  have hfin : ∀ (k0 nv na : Nat) (n' : Nat) (va' : List Int) (hp : Hp), va'.length ≤ 13 → n ≤ n' → n' ≤ n + 5 → hp 0 = some (some (rdr bs n')) → hp k0 = some (some (va'.map I64)) → hp 194 = some (some (hdr 195 196 arr.length)) → hp 195 = some (some (blk0 arr)) → hp 196 = some (some (blk1 arr)) → nv = va'.length → na = arr.length →
      (k0 ≠ 194 ∧ k0 ≠ 195 ∧ k0 ≠ 196 ∧ 0 ≠ k0) → RetOb 1 R (.agg [.msl k0 1 0 nv, .msl 194 1 0 na]) hp := fun k0 nv na n' va' hp g1 g2 g3 g4 g5 g6 g7 g8 g9 g10 ⟨e1, e2, e3, e4⟩ =>
    RetOb.memK (m := ⟨va', arr⟩) (k2 := 195) (k3 := 196) ha (by rw [← hR]; exact ⟨⟨va', arr⟩, rfl, ⟨g1, ha, fun a h => by have := h4 a h; omega⟩, n', g2, g3, rfl⟩) (rdr_kf bs n') g4 g5 (by rw [g6, hdr_hdA _ _ _ ha h4]) g7 g8 g9 g10
      ⟨e1, e2, e3, by decide, by decide, by decide, e4, by decide, by decide, by decide⟩
  refine dcZ Try.func106 ?_
  simp (maxSteps := 9999999) only [go_sem, Mm.cells, rdr]
  ((try (refine drvZ Try.func106 ?_; simp (maxSteps := 9999999) only [go_sem, rdr])); (try ((with_reducible refine And.intro ?_ ?_) <;> (repeat' with_reducible apply And.intro) <;> try exact sd)))
  refine XK.callG [] hcp ok57 (fun i' x h => by simp at h) (hbT ()) (fun d h' ⟨_, e⟩ => by subst e; simp) ?_
  rintro _ _ ⟨rfl, rfl⟩ _
  iterate 3 ((try (refine drvZ Try.func106 ?_; simp (maxSteps := 9999999) only [go_sem, renCs_I, renCs_hdr, renCs_b0, renCs_b1, rdr])); (try ((with_reducible refine And.intro ?_ ?_) <;> (repeat' with_reducible apply And.intro) <;> try exact sd)))
  refine XK.callG [0] (pick bs n 60 hb hl (by omega) (by simp only [InK]; omega)) ok58 (hhp_one rfl) (hbT ()) (fun d h' ⟨v, _, _, e⟩ => by subst e; simp) ?_
  rintro _ _ ⟨v, rfl, hpv, rfl⟩ _
  have hpv : v = 0 ∨ v = 1 ∨ v = 2 ∨ v = 3 ∨ (v ≠ 0 ∧ v ≠ 1 ∧ v ≠ 2 ∧ v ≠ 3) := by omega
  rcases hpv with rfl | rfl | rfl | rfl | ⟨h0, h1, h2, h3⟩
  · iterate 4 ((try (refine drvZ Try.func106 ?_; simp (maxSteps := 9999999) only [go_sem, rdr])); (try ((with_reducible refine And.intro ?_ ?_) <;> (repeat' with_reducible apply And.intro) <;> try exact sd)))
    exact hfin 833 _ _ (n + 1) (va ++ [0]) _ (by simp; omega) (by omega) (by omega) rfl (by rw [i_snoc]; rfl) rfl rfl rfl (by simp) rfl (by decide)
  · cases va with
    | nil =>
      have hz : ((0 : Int) < 0) = False := eq_false (by omega)
      iterate 5 ((try (refine drvZ Try.func106 ?_; simp (maxSteps := 9999999) only [go_sem, rdr, Int.natCast_zero, hz])); (try ((with_reducible refine And.intro ?_ ?_) <;> (repeat' with_reducible apply And.intro) <;> try exact sd)))
      exact hfin 193 _ _ (n + 1) [] _ (by simp) (by omega) (by omega) rfl rfl rfl rfl rfl rfl rfl (by decide)
    | cons x r =>
      have hz : ((0 : Int) < (r.length : Int) + 1) = True := eq_true (by omega)
      have hv : r.length + 1 ≤ 12 := hv
      iterate 5 ((try (refine drvZ Try.func106 ?_; simp (maxSteps := 9999999) only [go_sem, rdr, hz])); (try ((with_reducible refine And.intro ?_ ?_) <;> (repeat' with_reducible apply And.intro) <;> try exact sd)))
      refine XK.callG [0, 1217] (numO bs (n + 1) [-1, 256, 9223372036854775807] hb hl (by omega) (by decide) (by decide)) ok100 (hhp2 rfl rfl) (hbT ()) (fun d h' ⟨_, _, _, e⟩ => by subst e; simp) ?_ (fun _ => ⟨by kernel_rfl, _, _, ⟨-1, rfl, by simp, rfl⟩, by simp⟩)
      rintro _ _ ⟨w, rfl, hw, rfl⟩ _
      clear hw
      iterate 5 ((try (refine drvZ Try.func106 ?_; simp (maxSteps := 9999999) only [go_sem, rdr, hz])); (try ((with_reducible refine And.intro ?_ ?_) <;> (repeat' with_reducible apply And.intro) <;> try exact sd)))
      exact hfin 193 _ _ (n + 2) (w :: r) _ (by simp; omega) (by omega) (by omega) rfl rfl rfl rfl rfl rfl rfl (by decide)
  · match arr, ha, h4 with
    | [], ha, h4 =>
      have hz : ((0 : Int) < 0) = False := eq_false (by omega)
      iterate 6 ((try (refine drvZ Try.func106 ?_; simp (maxSteps := 9999999) only [go_sem, rdr, Int.natCast_zero, hz])); (try ((with_reducible refine And.intro ?_ ?_) <;> (repeat' with_reducible apply And.intro) <;> try exact sd)))
      exact hfin 193 _ _ (n + 1) va _ (by omega) (by omega) (by omega) rfl rfl rfl rfl rfl rfl rfl (by decide)
    | a :: rest, ha, h4 =>
      have hz : ((0 : Int) < (rest.length : Int) + 1) = True := eq_true (by omega)
      have ha4 : a.length = 4 := h4 a (by simp)
      have hrl : rest.length + 1 ≤ 2 := ha
      iterate 6 ((try (refine drvZ Try.func106 ?_; simp (maxSteps := 9999999) only [go_sem, rdr, hz, hdr])); (try ((with_reducible refine And.intro ?_ ?_) <;> (repeat' with_reducible apply And.intro) <;> try exact sd)))
      have hsp : a.map I64 = (a.take 3).map I64 ++ (a.drop 3).map I64 := by rw [← List.map_append, List.take_append_drop]
      refine RetOb.shrink (k := 195) (cs := (a.take 3).map I64) (ds := (a.drop 3).map I64) ?_ ?_
      · rw [← hsp]; rfl
      have ha3 : (a.take 3).length = 3 := by rw [List.length_take]; omega
      match rest, hrl with
      | [], _ =>
        exact RetOb.memK (m := ⟨va, [a.take 3]⟩) (k0 := 193) (k1 := 194) (k2 := 195) (k3 := 196) (rc := rdr bs ((n + 1 : Nat) : Int)) (by simp) (by rw [← hR]; exact ⟨⟨va, [a.take 3]⟩, rfl, ⟨by simp only; omega, by simp, by simp; omega⟩, n + 1, by omega, by omega, rfl⟩) (rdr_kf _ _) rfl rfl (by simp [upd, hdA, ha3]) rfl rfl rfl rfl (by decide)
      | [b], _ =>
        have hb4 : b.length = 4 := h4 b (by simp)
        exact RetOb.memK (m := ⟨va, [a.take 3, b]⟩) (k0 := 193) (k1 := 194) (k2 := 195) (k3 := 196) (rc := rdr bs ((n + 1 : Nat) : Int)) (by simp) (by rw [← hR]; exact ⟨⟨va, [a.take 3, b]⟩, rfl, ⟨by simp only; omega, by simp, by simp [hb4]; omega⟩, n + 1, by omega, by omega, rfl⟩) (rdr_kf _ _) rfl rfl (by simp [upd, hdA, ha3, hb4]) rfl rfl rfl rfl (by decide)
  · iterate 6 ((try (refine drvZ Try.func106 ?_; simp (maxSteps := 9999999) only [go_sem, rdr])); (try ((with_reducible refine And.intro ?_ ?_) <;> (repeat' with_reducible apply And.intro) <;> try exact sd)))
    refine RetOb.ofQ (fun j => if j = 0 then some 0 else none) [] (.agg (Mm.cells ⟨[], []⟩)) [some (rdr bs ((n + 1 : Nat) : Int))] ?_ ?_ (by simp)
    · simp [enumL, hOf, DM, DMs, CM, CMs, HpOK, LowOK, upd, rdr, Mm.cells, isI, kf]
    · rw [← hR]; exact ⟨⟨[], []⟩, rfl, ⟨by simp, by simp, by simp⟩, n + 1, by omega, by omega, rfl⟩
  · have e0 : (v == 0) = false := by simp [h0]
    have e1 : (v == 1) = false := by simp [h1]
    have e2 : (v == 2) = false := by simp [h2]
    have e3 : (v == 3) = false := by simp [h3]
    iterate 6 ((try (refine drvZ Try.func106 ?_; simp (maxSteps := 9999999) only [go_sem, rdr, h0, h1, h2, h3, e0, e1, e2, e3])); (try ((with_reducible refine And.intro ?_ ?_) <;> (repeat' with_reducible apply And.intro) <;> try exact sd)))
    exact hfin 193 _ _ (n + 1) va _ (by omega) (by omega) (by omega) rfl rfl rfl rfl rfl rfl rfl (by decide)
end Go.Proofs.Ytclgjiffpijgmaa.CtD

namespace Go.Proofs.Ytclgjiffpijgmaa.CtD
open Go Go.CT CtF CtR

theorem renC_kf (r : Nat → Nat) : ∀ c : C, kf c = true → renC r c = c
  | .v _, _ | .isl _ _, _ | .z, _ | .unk, _ | .eptr _, _ | .met _ _, _ => rfl
  | .msl _ _ _ _, h | .ptr _ _, h | .clo _ _, h => by simp [kf] at h
theorem renCs_kf (r : Nat → Nat) (cs : List C) (h : ∀ c ∈ cs, kf c = true) : renCs r cs = cs := by
  rw [renCs_eq]
  conv => rhs; rw [← List.map_id cs]
  exact List.map_congr_left fun c hc => renC_kf r c (h c hc)
theorem renCs_stC (r : Nat → Nat) (l : List St1) : renCs r (stC l) = stC l := renCs_kf r _ (stC_kf l)

theorem l2Copy (p : Pg) (d : Nat) (hv : p.vars.length ≤ 1000) (ha : p.arrays.length ≤ 1000) (hb : p.body.length ≤ 1000) (hs : ∀ s ∈ p.body, SmS d s) : DC Try.prog 114 [.agg p.cells] []
    (fun r h => r = .agg [.msl 0 1 0 p.vars.length, .msl 1 1 0 p.arrays.length, .msl 2 11 0 p.body.length] ∧ h = [some (p.vars.map I64), some (p.arrays.map I64), some (stC p.body)]) := by
  have hmx := mx_eq
  have hcb := l2CopyBlockOwn d p.body (by omega) hs
  generalize hR : (fun (r : D) (h : List (Option (List C))) => r = .agg [.msl 0 1 0 p.vars.length, .msl 1 1 0 p.arrays.length, .msl 2 11 0 p.body.length] ∧ h = [some (p.vars.map I64), some (p.arrays.map I64), some (stC p.body)]) = R
  obtain ⟨vs, ar, bd⟩ := p
  have hv : vs.length ≤ 1000 := hv
  have ha : ar.length ≤ 1000 := ha
  have hb : bd.length ≤ 1000 := hb
  have hfl : (bd.map St1.cells).flatten = stC bd := rfl
  refine dcZ Try.func114 ?_
  simp (maxSteps := 9999999) only [go_sem, flat_I']
  iterate 2 ((try (refine drvZ Try.func114 ?_; simp (maxSteps := 9999999) only [go_sem, flat_I'])); (try ((with_reducible refine And.intro ?_ ?_) <;> (repeat' with_reducible apply And.intro) <;> try exact sd)))
  refine XK.callG [] hcb ok145 (fun i' x h => by simp at h) (hbT ()) (fun d h' ⟨_, e⟩ => by subst e; simp) ?_ (fun _ => ⟨by kernel_rfl, _, _, ⟨rfl, rfl⟩, by simp⟩)
  rintro _ _ ⟨rfl, rfl⟩ _
  iterate 3 ((try (refine drvZ Try.func114 ?_; simp (maxSteps := 9999999) only [go_sem, flat_I', renCs_stC])); (try ((with_reducible refine And.intro ?_ ?_) <;> (repeat' with_reducible apply And.intro) <;> try exact sd)))
  refine RetOb.ofQ (fun j => if j = 0 then some 320 else if j = 1 then some 576 else if j = 2 then some 768 else none) [] (.agg [.msl 0 1 0 vs.length, .msl 1 1 0 ar.length, .msl 2 11 0 bd.length]) [some (vs.map I64), some (ar.map I64), some (stC bd)] ?_ (by rw [← hR]; exact ⟨rfl, rfl⟩) (by simp)
  simp [enumL, hOf, DM, DMs, CM, CMs, HpOK, LowOK, upd, CMs_I]
  exact CMs.kf (stC_kf _)
end Go.Proofs.Ytclgjiffpijgmaa.CtD
