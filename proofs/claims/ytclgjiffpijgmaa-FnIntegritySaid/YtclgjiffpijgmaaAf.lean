/- Contracts of functions of the program, one behind the other, as plain data: what each call returns and which blocks it leaves. -/
import Derived.Test.YtclgjiffpijgmaaFacts
import Derived.Test.YtclgjiffpijgmaaAe
import Derived.Test.YtclgjiffpijgmaaAd
set_option linter.unusedVariables false
set_option linter.unusedSimpArgs false
set_option maxHeartbeats 16000000
set_option maxRecDepth 100000
namespace Go.Proofs.Ytclgjiffpijgmaa.CtR
open Go Go.CT CtF

theorem kf_I (xs : List Int) : ∀ c ∈ xs.map I64, kf c = true := by
  intro c hc; obtain ⟨x, _, rfl⟩ := List.mem_map.1 hc; rfl
theorem kf_A (xs : List (List Int)) : ∀ c ∈ xs.map isI, kf c = true := by
  intro c hc; obtain ⟨x, _, rfl⟩ := List.mem_map.1 hc; rfl
theorem flat_I (xs : List Int) : (xs.map fun n => [I64 n]).flatten = xs.map I64 := flat1 _ _
theorem flat_A (xs : List (List Int)) : (xs.map fun n => [isI n]).flatten = xs.map isI := flat1 _ _

/-- A result that is one new block. -/
theorem RetOb.new1 {R : D → List (Option (List C)) → Prop} {sz n k : Nat} {cs : List C} {hp : Hp} (hR : R (.c (.msl 0 sz 0 n)) [some cs]) (hb : hp k = some (some cs)) (hkf : ∀ c ∈ cs, kf c = true) : RetOb 0 R (.c (.msl k sz 0 n)) hp :=
  RetOb.of (fun j => if j = 0 then some k else none) [] (.c (.msl 0 sz 0 n)) [some cs] (subH_one rfl hb hkf) (by simp [DM, CM, hpL]) hR (by simp)
theorem RetOb.newNil {R : D → List (Option (List C)) → Prop} {sz : Nat} {hp : Hp} (hR : R (.c (.msl 0 sz 0 0)) [some []]) : RetOb 0 R (.c (.v (.slice none 0 0))) hp :=
  RetOb.of (fun j => none) [] (.c (.msl 0 sz 0 0)) [some []] ⟨fun k cs h => by
    match k with
    | 0 => simp [hpL] at h; exact .inr ⟨rfl, h⟩
    | k + 1 => simp [hpL] at h, fun k k' cs cs' j _ _ h => by simp at h, fun k h => by omega⟩ (by simp [DM, CM, hpL]) hR (by simp)

theorem cloneI (xs : List Int) (hl : xs.length ≤ 1000000) : DC Try.prog 73 [ints xs] [] (fun d h => d = .c (.msl 0 1 0 xs.length) ∧ h = [some (xs.map I64)]) := by
  have hmx := mx_eq
  cases xs with
  | nil =>
    refine DC.isl0 fun a c => ?_
    refine dc_of_go Try.func73 rfl (by simp) ?_
    refine drv_sound (n := 100) (rs := _) Try.func73 mo rfl none _ _ ?_
    cases a with
    | none =>
      simp (maxSteps := 9999999) only [go_sem, ints, isI, I64]
      exact RetOb.newNil ⟨rfl, rfl⟩
    | some a =>
      simp (maxSteps := 9999999) only [go_sem, ints, isI, I64]
      refine ⟨fun k e => by cases e; rfl, RetOb.new1 ⟨rfl, rfl⟩ (upd_same _ _ _) (by simp)⟩
  | cons a r =>
    have hr : r.length + 1 ≤ 1000000 := hl
    have hf := congrArg List.length (flat_I (a :: r))
    simp only [List.map_cons, List.length_cons, List.length_map, isI, I64] at hf
    refine dc_of_go Try.func73 rfl (by simp) ?_
    refine drv_sound (n := 100) (rs := _) Try.func73 mo rfl none _ _ ?_
    simp (maxSteps := 9999999) only [go_sem, ints, isI, I64]
    refine ⟨⟨fun k e => by cases e; rfl, by first | exact hf | simpa using hf, by omega, by omega⟩, RetOb.new1 ⟨rfl, rfl⟩ ?_ (kf_I (a :: r))⟩
    rw [← flat_I]
    exact upd_same _ _ _

theorem cloneA (xs : List (List Int)) (hl : xs.length ≤ 1000000) : DC Try.prog 102 [.c (.isl 1 (xs.map fun a => [isI a]))] [] (fun d h => d = .c (.msl 0 1 0 xs.length) ∧ h = [some (xs.map isI)]) := by
  have hmx := mx_eq
  cases xs with
  | nil =>
    refine DC.isl0 fun a c => ?_
    refine dc_of_go Try.func102 rfl (by simp) ?_
    refine drv_sound (n := 100) (rs := _) Try.func102 mo rfl none _ _ ?_
    cases a with
    | none =>
      simp (maxSteps := 9999999) only [go_sem, ints, isI, I64]
      exact RetOb.newNil ⟨rfl, rfl⟩
    | some a =>
      simp (maxSteps := 9999999) only [go_sem, ints, isI, I64]
      refine ⟨fun k e => by cases e; rfl, RetOb.new1 ⟨rfl, rfl⟩ (upd_same _ _ _) (by simp)⟩
  | cons a r =>
    have hr : r.length + 1 ≤ 1000000 := hl
    have hf := congrArg List.length (flat_A (a :: r))
    simp only [List.map_cons, List.length_cons, List.length_map, isI, I64] at hf
    refine dc_of_go Try.func102 rfl (by simp) ?_
    refine drv_sound (n := 100) (rs := _) Try.func102 mo rfl none _ _ ?_
    simp (maxSteps := 9999999) only [go_sem, ints, isI, I64]
    refine ⟨⟨fun k e => by cases e; rfl, by first | exact hf | simpa using hf, by omega, by omega⟩, RetOb.new1 ⟨rfl, rfl⟩ ?_ (kf_A (a :: r))⟩
    rw [← flat_A]
    exact upd_same _ _ _

end Go.Proofs.Ytclgjiffpijgmaa.CtR

namespace Go.Proofs.Ytclgjiffpijgmaa.CtR
open Go Go.CT CtF

/-- A memory's blocks: values, heads of the arrays, two arrays. -/
def hdr (b b' na : Nat) : List C := [C.msl b 1 0 4, .msl b' 1 0 4].take na
def blk0 (arr : List (List Int)) : List C := ((arr[0]?).getD []).map I64
def blk1 (arr : List (List Int)) : List C := ((arr[1]?).getD []).map I64
def memB (b : Nat) (m : Mm) : List (Option (List C)) := [some (m.vals.map I64), some (hdr b (b + 1) m.arrays.length), some (blk0 m.arrays), some (blk1 m.arrays)]

theorem CMs_I {hT hS : Hp} {r : Nat → Option Nat} {fz : List Nat} (xs : List Int) : CMs hT r hS fz (xs.map I64) (xs.map I64) = True := eq_true (CMs.kf (kf_I xs))
theorem flat_I' (xs : List Int) : (xs.map fun n => [C.v (.int .i64 n)]).flatten = xs.map I64 := flat1 _ _

theorem l3Copy (m : Mm) (hv : m.vals.length ≤ 1000) (ha : m.arrays.length ≤ 2) (h4 : ∀ a ∈ m.arrays, a.length = 4) : DC Try.prog 57 [.agg m.cells] [] (fun d h => d = .agg [.msl 0 1 0 m.vals.length, .msl 1 1 0 m.arrays.length] ∧ h = memB 2 m) := by
  have hmx := mx_eq
  obtain ⟨va, arr⟩ := m
  have hv : va.length ≤ 1000 := hv
  match arr, ha, h4 with
  | [], _, _ =>
    refine dc_of_go Try.func57 rfl (by simp) ?_
    refine drv_sound (n := 100) (rs := _) Try.func57 mo rfl none _ _ ?_
    simp (maxSteps := 9999999) only [go_sem, Mm.cells, isI, I64, flat_I']
    refine ⟨⟨fun k e => by cases e; rfl, by omega, by omega⟩, ?_⟩
    refine Go.loop ?_
    refine drv_sound (n := 100) (rs := _) Try.func57 mo rfl none _ _ ?_
    simp (maxSteps := 9999999) only [go_sem, Mm.cells, isI, I64, flat_I', Int.reduceLT]
    refine RetOb.ofQ (fun j => if j = 0 then some 320 else none) [] (.agg [.msl 0 1 0 va.length, .msl 1 1 0 0]) (memB 2 ⟨va, []⟩) ?_ ⟨rfl, rfl⟩ (by simp)
    simp [memB, enumL, hOf, hdr, blk0, blk1, DM, CM, CMs, HpOK, LowOK, upd, CMs_I, isI]
  | [a], _, h4 =>
    have h4a : a.length = 4 := h4 a (by simp)
    refine dc_of_go Try.func57 rfl (by simp) ?_
    refine drv_sound (n := 100) (rs := _) Try.func57 mo rfl none _ _ ?_
    simp (maxSteps := 9999999) only [go_sem, Mm.cells, isI, I64, flat_I']
    refine ⟨⟨fun k e => by cases e; rfl, by omega, by omega⟩, ?_⟩
    refine Go.loop ?_
    refine drv_sound (n := 100) (rs := _) Try.func57 mo rfl none _ _ ?_
    simp (maxSteps := 9999999) only [go_sem, Mm.cells, isI, I64, flat_I', Int.reduceLT]
    (repeat' with_reducible apply And.intro) <;> (try first | omega | (simp only [InK]; omega) | (intro k e; cases e; rfl) | (intro hguard; exact ⟨hguard, by simp only [InK]; omega⟩) | kernel_rfl)
    refine Go.inLoop ?_
    refine drv_sound (n := 100) (rs := _) Try.func57 mo rfl none _ _ ?_
    simp (maxSteps := 9999999) only [go_sem, Mm.cells, isI, I64, flat_I', Int.reduceLT]
    refine RetOb.ofQ (fun j => if j = 0 then some 320 else if j = 1 then some 1600 else if j = 2 then some 1472 else none) [] (.agg [.msl 0 1 0 va.length, .msl 1 1 0 1]) (memB 2 ⟨va, [a]⟩) ?_ ⟨rfl, rfl⟩ (by simp)
    simp [memB, enumL, hOf, hdr, blk0, blk1, DM, CM, CMs, HpOK, LowOK, upd, CMs_I, isI, h4a]
  | [a, b], _, h4 =>
    have h4a : a.length = 4 := h4 a (by simp)
    have h4b : b.length = 4 := h4 b (by simp)
    refine dc_of_go Try.func57 rfl (by simp) ?_
    refine drv_sound (n := 100) (rs := _) Try.func57 mo rfl none _ _ ?_
    simp (maxSteps := 9999999) only [go_sem, Mm.cells, isI, I64, flat_I']
    refine ⟨⟨fun k e => by cases e; rfl, by omega, by omega⟩, ?_⟩
    refine Go.loop ?_
    refine drv_sound (n := 100) (rs := _) Try.func57 mo rfl none _ _ ?_
    simp (maxSteps := 9999999) only [go_sem, Mm.cells, isI, I64, flat_I', Int.reduceLT]
    (repeat' with_reducible apply And.intro) <;> (try first | omega | (simp only [InK]; omega) | (intro k e; cases e; rfl) | (intro hguard; exact ⟨hguard, by simp only [InK]; omega⟩) | kernel_rfl)
    refine Go.inLoop ?_
    refine drv_sound (n := 100) (rs := _) Try.func57 mo rfl none _ _ ?_
    simp (maxSteps := 9999999) only [go_sem, Mm.cells, isI, I64, flat_I', Int.reduceLT]
    (repeat' with_reducible apply And.intro) <;> (try first | omega | (simp only [InK]; omega) | (intro k e; cases e; rfl) | (intro hguard; exact ⟨hguard, by simp only [InK]; omega⟩) | kernel_rfl)
    refine Go.inLoop ?_
    refine drv_sound (n := 100) (rs := _) Try.func57 mo rfl none _ _ ?_
    simp (maxSteps := 9999999) only [go_sem, Mm.cells, isI, I64, flat_I', Int.reduceLT]
    refine RetOb.ofQ (fun j => if j = 0 then some 320 else if j = 1 then some 2944 else if j = 2 then some 1472 else if j = 3 then some 2816 else none) [] (.agg [.msl 0 1 0 va.length, .msl 1 1 0 2]) (memB 2 ⟨va, [a, b]⟩) ?_ ⟨rfl, rfl⟩ (by simp)
    simp [memB, enumL, hOf, hdr, blk0, blk1, DM, CM, CMs, HpOK, LowOK, upd, CMs_I, isI, h4a, h4b]
end Go.Proofs.Ytclgjiffpijgmaa.CtR

namespace Go.Proofs.Ytclgjiffpijgmaa.CtR
open Go Go.CT CtF

theorem renCs_I (r : Nat → Nat) (xs : List Int) : renCs r (xs.map I64) = xs.map I64 := by
  induction xs with
  | nil => rfl
  | cons a t ih => simp only [List.map_cons, renCs, ih]; rfl

theorem renCs_hdr (r : Nat → Nat) (b b' n : Nat) : renCs r (hdr b b' n) = hdr (r b) (r b') n := by
  unfold hdr
  match n with
  | 0 => rfl
  | 1 => rfl
  | n + 2 => simp [renCs, renC]
theorem CMs_hdr {hT hS : Hp} {r : Nat → Option Nat} {fz : List Nat} (b b' j j' n : Nat) (h1 : r b = some j) (h2 : r b' = some j') (h3 : hT b ≠ none) (h4 : hT b' ≠ none) : CMs hT r hS fz (hdr b b' n) (hdr j j' n) = True := by
  apply eq_true
  unfold hdr
  match n with
  | 0 => simp [CMs]
  | 1 => simp [CMs, CM, h1, h3]
  | n + 2 => simp [CMs, CM, h1, h2, h3, h4]

def trC (tr : List Ev) : List C := (tr.map Ev.cells).flatten
theorem trC_len (tr : List Ev) : (trC tr).length = tr.length * 2 := by
  unfold trC
  induction tr with
  | nil => rfl
  | cons a r ih => simp only [List.map_cons, List.flatten_cons, List.length_append, ih, Ev.cells, List.length_cons, List.length_nil]; omega
theorem trC_app (tr tr' : List Ev) : trC (tr ++ tr') = trC tr ++ trC tr' := by simp [trC]
theorem renCs_tr (r : Nat → Nat) (tr : List Ev) : renCs r (trC tr) = trC tr := by
  unfold trC
  induction tr with
  | nil => rfl
  | cons a t ih => simp only [List.map_cons, List.flatten_cons, Ev.cells, List.cons_append, List.nil_append, renCs, renC, ih]
theorem trC_kf (tr : List Ev) : ∀ c ∈ trC tr, kf c = true := by
  unfold trC
  induction tr with
  | nil => simp
  | cons a t ih =>
    intro c hc
    rw [List.map_cons, List.flatten_cons, List.mem_append] at hc
    rcases hc with hc | hc
    · simp only [Ev.cells, List.mem_cons, List.not_mem_nil, or_false] at hc
      rcases hc with rfl | rfl <;> rfl
    · exact ih c hc
theorem CMs_tr {hT hS : Hp} {r : Nat → Option Nat} {fz : List Nat} (tr : List Ev) : CMs hT r hS fz (trC tr) (trC tr) = True := eq_true (CMs.kf (trC_kf tr))

theorem own (m : Mm) (hv : m.vals.length ≤ 1000) (ha : m.arrays.length ≤ 2) (h4 : ∀ a ∈ m.arrays, a.length = 4) : DC Try.prog 60 [.agg m.cells] [] (fun d h => d = .agg [.msl 0 1 0 m.vals.length, .msl 1 1 0 m.arrays.length] ∧ h = memB 2 m) := by
  have hmx := mx_eq
  obtain ⟨va, arr⟩ := m
  have hv : va.length ≤ 1000 := hv
  have ha2 : arr.length ≤ 2 := ha
  refine dc_of_go Try.func60 rfl (by simp) ?_
  refine drv_sound (n := 100) (rs := _) Try.func60 mo rfl none _ _ ?_
  simp (maxSteps := 9999999) only [go_sem, Mm.cells, isI, I64, Int.reduceLT, renCs_I]
  (repeat' with_reducible apply And.intro) <;> (try first | omega | (simp only [InK]; omega) | (intro k e; cases e; rfl) | (intro hguard; exact ⟨hguard, by simp only [InK]; omega⟩) | kernel_rfl)
  refine XK.callG [] (cloneI va (by omega)) ok73 (fun i' x h => by simp at h) (hbT ()) (fun d h' ⟨_, e⟩ => by subst e; simp) ?_ (fun _ => ⟨by kernel_rfl, _, _, ⟨rfl, rfl⟩, Nat.zero_le _⟩)
  rintro _ _ ⟨rfl, rfl⟩ _
  refine drv_sound (n := 100) (rs := _) Try.func60 mo rfl (some _) _ _ ?_
  simp (maxSteps := 9999999) only [go_sem, Mm.cells, isI, I64, Int.reduceLT, renCs_I]
  (repeat' with_reducible apply And.intro) <;> (try first | omega | (simp only [InK]; omega) | (intro k e; cases e; rfl) | (intro hguard; exact ⟨hguard, by simp only [InK]; omega⟩) | kernel_rfl)
  refine XK.callG [] (cloneA arr (by omega)) ok102 (fun i' x h => by simp at h) (hbT ()) (fun d h' ⟨_, e⟩ => by subst e; simp) ?_ (fun _ => ⟨by kernel_rfl, _, _, ⟨rfl, rfl⟩, Nat.zero_le _⟩)
  rintro _ _ ⟨rfl, rfl⟩ _
  refine drv_sound (n := 100) (rs := _) Try.func60 mo rfl (some _) _ _ ?_
  simp (maxSteps := 9999999) only [go_sem, Mm.cells, isI, I64, Int.reduceLT, renCs_I]
  (repeat' with_reducible apply And.intro) <;> (try first | omega | (simp only [InK]; omega) | (intro k e; cases e; rfl) | (intro hguard; exact ⟨hguard, by simp only [InK]; omega⟩) | kernel_rfl)
  match arr, ha, h4 with
  | [], _, _ =>
    refine Go.loop ?_
    refine drv_sound (n := 100) (rs := _) Try.func60 mo rfl none _ _ ?_
    simp (maxSteps := 9999999) only [go_sem, Mm.cells, isI, I64, Int.reduceLT, renCs_I]
    refine RetOb.ofQ (fun j => if j = 0 then some 256 else if j = 1 then some 448 else none) [] (.agg [.msl 0 1 0 va.length, .msl 1 1 0 0]) (memB 2 ⟨va, []⟩) ?_ ⟨rfl, rfl⟩ (by simp)
    simp [memB, enumL, hOf, hdr, blk0, blk1, DM, CM, CMs, HpOK, LowOK, upd, CMs_I, isI]
  | [a], _, h4 =>
    have h4a : a.length = 4 := h4 a (by simp)
    refine Go.loop ?_
    refine drv_sound (n := 100) (rs := _) Try.func60 mo rfl none _ _ ?_
    simp (maxSteps := 9999999) only [go_sem, Mm.cells, isI, I64, Int.reduceLT, renCs_I]
    (repeat' with_reducible apply And.intro) <;> (try first | omega | (simp only [InK]; omega) | (intro k e; cases e; rfl) | (intro hguard; exact ⟨hguard, by simp only [InK]; omega⟩) | kernel_rfl)
    refine XK.callG [] (cloneI a (by omega)) ok73 (fun i' x h => by simp at h) (hbT ()) (fun d h' ⟨_, e⟩ => by subst e; simp) ?_ (fun _ => ⟨by kernel_rfl, _, _, ⟨rfl, rfl⟩, Nat.zero_le _⟩)
    rintro _ _ ⟨rfl, rfl⟩ _
    refine drv_sound (n := 100) (rs := _) Try.func60 mo rfl (some _) _ _ ?_
    simp (maxSteps := 9999999) only [go_sem, Mm.cells, isI, I64, Int.reduceLT, renCs_I]
    (repeat' with_reducible apply And.intro) <;> (try first | omega | (simp only [InK]; omega) | (intro k e; cases e; rfl) | (intro hguard; exact ⟨hguard, by simp only [InK]; omega⟩) | kernel_rfl)
    refine Go.inLoop ?_
    refine drv_sound (n := 100) (rs := _) Try.func60 mo rfl none _ _ ?_
    simp (maxSteps := 9999999) only [go_sem, Mm.cells, isI, I64, Int.reduceLT, renCs_I]
    refine RetOb.ofQ (fun j => if j = 0 then some 256 else if j = 1 then some 448 else if j = 2 then some 1664 else none) [] (.agg [.msl 0 1 0 va.length, .msl 1 1 0 1]) (memB 2 ⟨va, [a]⟩) ?_ ⟨rfl, rfl⟩ (by simp)
    simp [memB, enumL, hOf, hdr, blk0, blk1, DM, CM, CMs, HpOK, LowOK, upd, CMs_I, isI, h4a]
  | [a, b], _, h4 =>
    have h4a : a.length = 4 := h4 a (by simp)
    have h4b : b.length = 4 := h4 b (by simp)
    refine Go.loop ?_
    refine drv_sound (n := 100) (rs := _) Try.func60 mo rfl none _ _ ?_
    simp (maxSteps := 9999999) only [go_sem, Mm.cells, isI, I64, Int.reduceLT, renCs_I]
    (repeat' with_reducible apply And.intro) <;> (try first | omega | (simp only [InK]; omega) | (intro k e; cases e; rfl) | (intro hguard; exact ⟨hguard, by simp only [InK]; omega⟩) | kernel_rfl)
    refine XK.callG [] (cloneI a (by omega)) ok73 (fun i' x h => by simp at h) (hbT ()) (fun d h' ⟨_, e⟩ => by subst e; simp) ?_ (fun _ => ⟨by kernel_rfl, _, _, ⟨rfl, rfl⟩, Nat.zero_le _⟩)
    rintro _ _ ⟨rfl, rfl⟩ _
    refine drv_sound (n := 100) (rs := _) Try.func60 mo rfl (some _) _ _ ?_
    simp (maxSteps := 9999999) only [go_sem, Mm.cells, isI, I64, Int.reduceLT, renCs_I]
    (repeat' with_reducible apply And.intro) <;> (try first | omega | (simp only [InK]; omega) | (intro k e; cases e; rfl) | (intro hguard; exact ⟨hguard, by simp only [InK]; omega⟩) | kernel_rfl)
    refine Go.inLoop ?_
    refine drv_sound (n := 100) (rs := _) Try.func60 mo rfl none _ _ ?_
    simp (maxSteps := 9999999) only [go_sem, Mm.cells, isI, I64, Int.reduceLT, renCs_I]
    (repeat' with_reducible apply And.intro) <;> (try first | omega | (simp only [InK]; omega) | (intro k e; cases e; rfl) | (intro hguard; exact ⟨hguard, by simp only [InK]; omega⟩) | kernel_rfl)
    refine XK.callG [] (cloneI b (by omega)) ok73 (fun i' x h => by simp at h) (hbT ()) (fun d h' ⟨_, e⟩ => by subst e; simp) ?_ (fun _ => ⟨by kernel_rfl, _, _, ⟨rfl, rfl⟩, Nat.zero_le _⟩)
    rintro _ _ ⟨rfl, rfl⟩ _
    refine drv_sound (n := 100) (rs := _) Try.func60 mo rfl (some _) _ _ ?_
    simp (maxSteps := 9999999) only [go_sem, Mm.cells, isI, I64, Int.reduceLT, renCs_I]
    (repeat' with_reducible apply And.intro) <;> (try first | omega | (simp only [InK]; omega) | (intro k e; cases e; rfl) | (intro hguard; exact ⟨hguard, by simp only [InK]; omega⟩) | kernel_rfl)
    refine Go.inLoop ?_
    refine drv_sound (n := 100) (rs := _) Try.func60 mo rfl none _ _ ?_
    simp (maxSteps := 9999999) only [go_sem, Mm.cells, isI, I64, Int.reduceLT, renCs_I]
    refine RetOb.ofQ (fun j => if j = 0 then some 256 else if j = 1 then some 448 else if j = 2 then some 1664 else if j = 3 then some 2624 else none) [] (.agg [.msl 0 1 0 va.length, .msl 1 1 0 2]) (memB 2 ⟨va, [a, b]⟩) ?_ ⟨rfl, rfl⟩ (by simp)
    simp [memB, enumL, hOf, hdr, blk0, blk1, DM, CM, CMs, HpOK, LowOK, upd, CMs_I, isI, h4a, h4b]
end Go.Proofs.Ytclgjiffpijgmaa.CtR

namespace Go.Proofs.Ytclgjiffpijgmaa.CtR
open Go Go.CT CtF

def nth (l : List Int) (i : Int) : Int := l.getD i.toNat 0
def arrAt (m : Mm) (v : Int) : List Int := m.arrays.getD v.toNat []
/-- The value of an expression, and its events. -/
def evalE (m : Mm) : Nat → Ex → Int × List Ev
  | 0, _ => (0, [])
  | d + 1, .mk k v ks =>
    let xs := ks.map fun e => (evalE m d e).1
    let ev := (ks.map fun e => (evalE m d e).2).flatten
    if k = 1 then (v, []) else if k = 2 then (nth m.vals v, [])
    else if k = 3 then (nth (arrAt m v) (xs.getD 0 0 % 4), ev ++ [⟨2, v * 4 + xs.getD 0 0 % 4⟩])
    else if k = 11 then (if xs.getD 0 0 ≠ 0 then xs.getD 1 0 else xs.getD 2 0, ev)
    else (bin k (xs.getD 0 0) (xs.getD 1 0), ev)
def vas (m : Mm) (d : Nat) (ks : List Ex) : List Int := ks.map fun e => (evalE m d e).1
def evs (m : Mm) (d : Nat) (ks : List Ex) : List Ev := (ks.map fun e => (evalE m d e).2).flatten

theorem evs_succ (m : Mm) (d : Nat) (ks : List Ex) (i : Nat) (x : Ex) (hx : ks[i]? = some x) : evs m d (ks.take (i + 1)) = evs m d (ks.take i) ++ (evalE m d x).2 := by
  unfold evs; rw [List.take_add_one, hx]; simp
theorem vas_succ (m : Mm) (d : Nat) (ks : List Ex) (i : Nat) (x : Ex) (hx : ks[i]? = some x) : vas m d (ks.take (i + 1)) = vas m d (ks.take i) ++ [(evalE m d x).1] := by
  unfold vas; rw [List.take_add_one, hx]; simp
theorem vas_len (m : Mm) (d : Nat) (ks : List Ex) : (vas m d ks).length = ks.length := by simp [vas]

theorem bin_range {k a b : Int} (ha : 0 ≤ a ∧ a ≤ 255) (hb : 0 ≤ b ∧ b ≤ 255) : 0 ≤ bin k a b ∧ bin k a b ≤ 255 := by
  have h1 : a.toNat &&& b.toNat ≤ a.toNat := Nat.and_le_left
  have h2 : a.toNat ^^^ b.toNat < 2 ^ 8 := Nat.xor_lt_two_pow (by omega) (by omega)
  unfold bin
  repeat' split
  all_goals omega

/-- A memory that belongs to a program. -/
structure MemFits (p : Pg) (m : Mm) : Prop where
  nv : m.vals.length = p.vars.length
  na : m.arrays.length = p.arrays.length
  nv12 : 1 ≤ p.vars.length ∧ p.vars.length ≤ 12
  na2 : p.arrays.length ≤ 2
  val : ∀ x ∈ m.vals, 0 ≤ x ∧ x ≤ 255
  arr : ∀ a ∈ m.arrays, a.length = 4 ∧ ∀ x ∈ a, 0 ≤ x ∧ x ≤ 255

theorem nth_mem {l : List Int} {i : Int} (h : 0 ≤ i) (h2 : i < l.length) : l[i.toNat]? = some (nth l i) ∧ nth l i ∈ l := by
  have h3 : i.toNat < l.length := by omega
  have e : l[i.toNat]? = some l[i.toNat] := List.getElem?_eq_getElem h3
  have e2 : nth l i = l[i.toNat] := by simp [nth, List.getD, e]
  rw [e2]
  exact ⟨e, List.getElem_mem h3⟩
theorem arrAt_mem {m : Mm} {v : Int} (h : 0 ≤ v) (h2 : v < m.arrays.length) : m.arrays[v.toNat]? = some (arrAt m v) ∧ arrAt m v ∈ m.arrays := by
  have h3 : v.toNat < m.arrays.length := by omega
  have e : m.arrays[v.toNat]? = some m.arrays[v.toNat] := List.getElem?_eq_getElem h3
  have e2 : arrAt m v = m.arrays[v.toNat] := by simp [arrAt, List.getD, e]
  rw [e2]
  exact ⟨e, List.getElem_mem h3⟩

theorem evalE_range {p : Pg} {m : Mm} (hm : MemFits p m) : ∀ (d : Nat) (e : Ex), shape p d e = true → 0 ≤ (evalE m d e).1 ∧ (evalE m d e).1 ≤ 255
  | 0, _, h => by simp [shape] at h
  | d + 1, .mk k v ks, h => by
    obtain ⟨h1, h2, h3⟩ := shape_succ h
    obtain ⟨hl3, hla, hv0, hv1⟩ := fits_len h1
    have ih : ∀ x ∈ ks, 0 ≤ (evalE m d x).1 ∧ (evalE m d x).1 ≤ 255 := fun x hx => evalE_range hm d x (h2 x hx)
    have hg : ∀ i, 0 ≤ (ks.map fun e => (evalE m d e).1).getD i 0 ∧ (ks.map fun e => (evalE m d e).1).getD i 0 ≤ 255 := fun i => by
      rw [List.getD_eq_getElem?_getD, List.getElem?_map]
      cases hx : ks[i]? with
      | none => simp
      | some x => simpa using ih x (List.mem_of_getElem? hx)
    simp only [evalE]
    split
    · rename_i hk
      simp only [limit, if_pos hk] at hv1
      simp only
      omega
    · split
      · rename_i hk1 hk
        simp only [limit, if_neg hk1, if_pos hk] at hv1
        have := (nth_mem (l := m.vals) hv0 (by rw [hm.nv]; exact hv1)).2
        exact hm.val _ this
      · split
        · rename_i hk1 hk2 hk
          simp only [limit, if_neg hk1, if_neg hk2, if_pos hk] at hv1
          have ha := arrAt_mem (m := m) hv0 (by rw [hm.na]; exact hv1)
          have h4 := hm.arr _ ha.2
          exact h4.2 _ (nth_mem (Int.emod_nonneg _ (by decide)) (by rw [h4.1]; exact Int.emod_lt_of_pos _ (by decide))).2
        · split
          · simp only; split
            · exact hg 1
            · exact hg 2
          · exact bin_range (hg 0) (hg 1)

theorem evs_len_le {m : Mm} {d : Nat} {p : Pg} (ih : ∀ e, shape p d e = true → (evalE m d e).2.length ≤ cnt d e) : ∀ ks : List Ex, (∀ x ∈ ks, shape p d x = true) → (evs m d ks).length ≤ (ks.map (cnt d)).sum
  | [], _ => by simp [evs]
  | a :: r, h => by
    have h1 := ih a (h a (by simp))
    have h2 := evs_len_le ih r fun x hx => h x (by simp [hx])
    unfold evs at h2 ⊢
    simp only [List.map_cons, List.flatten_cons, List.length_append, List.sum_cons]
    omega
theorem evalE_len {p : Pg} {m : Mm} : ∀ (d : Nat) (e : Ex), shape p d e = true → (evalE m d e).2.length ≤ cnt d e
  | 0, _, h => by simp [shape] at h
  | d + 1, .mk k v ks, h => by
    obtain ⟨h1, h2, h3⟩ := shape_succ h
    have := evs_len_le (fun e he => evalE_len d e he) ks h2 (m := m)
    unfold evs at this
    simp only [evalE, cnt]
    split
    · simp
    · split
      · simp
      · split
        · simp only [List.length_append, List.length_cons, List.length_nil]; omega
        · split
          · simp only; omega
          · simp only; omega
end Go.Proofs.Ytclgjiffpijgmaa.CtR

namespace Go.Proofs.Ytclgjiffpijgmaa.CtR
open Go Go.CT CtF

theorem renCs_b0 (r : Nat → Nat) (a : List (List Int)) : renCs r (blk0 a) = blk0 a := renCs_I r _
theorem renCs_b1 (r : Nat → Nat) (a : List (List Int)) : renCs r (blk1 a) = blk1 a := renCs_I r _
theorem CMs_b0 {hT hS : Hp} {r : Nat → Option Nat} {fz : List Nat} (a : List (List Int)) : CMs hT r hS fz (blk0 a) (blk0 a) = True := CMs_I _
theorem CMs_b1 {hT hS : Hp} {r : Nat → Option Nat} {fz : List Nat} (a : List (List Int)) : CMs hT r hS fz (blk1 a) (blk1 a) = True := CMs_I _
theorem trC_snoc (a : List Ev) (e : Ev) : trC (a ++ [e]) = trC a ++ [.v (.int .i64 e.kind), .v (.int .i64 e.value)] := by rw [trC_app]; simp [trC, Ev.cells]
theorem kf_app {a b : List C} (h1 : ∀ c ∈ a, kf c = true) (h2 : ∀ c ∈ b, kf c = true) : ∀ c ∈ a ++ b, kf c = true := fun c hc => (List.mem_append.1 hc).elim (h1 c) (h2 c)
theorem vas_range {p : Pg} {m : Mm} (hm : MemFits p m) {d : Nat} {ks : List Ex} (h : ∀ x ∈ ks, shape p d x = true) (i : Nat) : 0 ≤ (vas m d ks).getD i 0 ∧ (vas m d ks).getD i 0 ≤ 255 := by
  unfold vas
  rw [List.getD_eq_getElem?_getD, List.getElem?_map]
  cases hx : ks[i]? with
  | none => simp
  | some x => simpa using evalE_range hm d x (h x (List.mem_of_getElem? hx))
theorem vas_get (m : Mm) (d : Nat) (ks : List Ex) (i : Nat) (h : i < ks.length) : (vas m d ks)[i]? = some ((vas m d ks).getD i 0) := by
  rw [List.getD_eq_getElem?_getD]
  have : i < (vas m d ks).length := by rw [vas_len]; exact h
  rw [List.getElem?_eq_getElem this]; rfl
theorem blk0_get {p : Pg} {m : Mm} (hm : MemFits p m) (h : 0 < m.arrays.length) (x : Int) : (hdr 2 3 m.arrays.length)[0]? = some (.msl 2 1 0 4) ∧ (blk0 m.arrays)[(x % 4).toNat]? = some (.v (.int .i64 (nth (arrAt m 0) (x % 4)))) := by
  have ha := arrAt_mem (m := m) (v := 0) (by omega) (by omega)
  have h4 := hm.arr _ ha.2
  have hx1 := Int.emod_nonneg x (show (4 : Int) ≠ 0 by decide)
  have hx2 := Int.emod_lt_of_pos x (show (0 : Int) < 4 by decide)
  have hn := (nth_mem (l := arrAt m 0) hx1 (by rw [h4.1]; exact hx2)).1
  refine ⟨?_, ?_⟩
  · unfold hdr; match m.arrays.length, h with | n + 1, _ => rfl
  · unfold blk0
    have e : m.arrays[0]? = some (arrAt m 0) := ha.1
    rw [e, Option.getD_some, List.getElem?_map, hn]; rfl
theorem blk1_get {p : Pg} {m : Mm} (hm : MemFits p m) (h : 1 < m.arrays.length) (x : Int) : (hdr 2 3 m.arrays.length)[1]? = some (.msl 3 1 0 4) ∧ (blk1 m.arrays)[(x % 4).toNat]? = some (.v (.int .i64 (nth (arrAt m 1) (x % 4)))) := by
  have ha := arrAt_mem (m := m) (v := 1) (by omega) (by omega)
  have h4 := hm.arr _ ha.2
  have hx1 := Int.emod_nonneg x (show (4 : Int) ≠ 0 by decide)
  have hx2 := Int.emod_lt_of_pos x (show (0 : Int) < 4 by decide)
  have hn := (nth_mem (l := arrAt m 1) hx1 (by rw [h4.1]; exact hx2)).1
  refine ⟨?_, ?_⟩
  · unfold hdr; match m.arrays.length, h with | n + 2, _ => rfl
  · unfold blk1
    have e : m.arrays[1]? = some (arrAt m 1) := ha.1
    rw [e, Option.getD_some, List.getElem?_map, hn]; rfl

end Go.Proofs.Ytclgjiffpijgmaa.CtR

namespace Go.Proofs.Ytclgjiffpijgmaa.CtR
open Go Go.CT CtF

/-! An execution's state in the program itself: a block [values, arrays, events], the events, then the memory's four blocks. -/

def stI (m : Mm) (tr : List Ev) : List (Option (List C)) := [some [.msl 2 1 0 m.vals.length, .msl 3 1 0 m.arrays.length, .msl 1 2 0 tr.length], some (trC tr), some (m.vals.map I64), some (hdr 4 5 m.arrays.length), some (blk0 m.arrays), some (blk1 m.arrays)]
def stI' (m : Mm) (tr : List Ev) : List (Option (List C)) := [some [.msl 2 1 0 m.vals.length, .msl 3 1 0 m.arrays.length, .msl 6 2 0 tr.length], none, some (m.vals.map I64), some (hdr 4 5 m.arrays.length), some (blk0 m.arrays), some (blk1 m.arrays), some (trC tr)]

/-- The end of a function on such a state. -/
theorem RetOb.stI {R : D → List (Option (List C)) → Prop} {m : Mm} {tr : List Ev} {d : D} {hp : Hp} (kt n : Nat) (cs : List C) (hR : R d (stI' m tr)) (hd : kD d) (e0 : hp 0 = some (some [.msl 2 1 0 m.vals.length, .msl 3 1 0 m.arrays.length, .msl kt 2 0 n]))
    (e2 : hp 2 = some (some (m.vals.map I64))) (e3 : hp 3 = some (some (hdr 4 5 m.arrays.length))) (e4 : hp 4 = some (some (blk0 m.arrays))) (e5 : hp 5 = some (some (blk1 m.arrays))) (ek : hp kt = some (some cs)) (hk : kt = 1 ∨ 6 ≤ kt) (hcs : cs = trC tr) (hn : n = tr.length) : RetOb 6 R d hp := by
  subst hcs hn
  refine RetOb.ofQ (fun j => if j = 6 then some kt else some j) [] d (CtR.stI' m tr) ⟨DM.kD hd, ?_⟩ hR (by simp [CtR.stI'])
  simp [CtR.stI', enumL, hOf, CM, CMs, HpOK, LowOK, upd, CMs_I, CMs_tr, CMs_hdr, CMs_b0, CMs_b1, e0, e2, e3, e4, e5, ek]
  omega

theorem hhp6 {hp : Hp} {r : Nat → Nat} {k0 k1 k2 k3 k4 k5 : Nat} {h0 h1 h2 h3 h4 h5 : Option (List C)} (e0 : hp k0 = some (h0.map (renCs r))) (e1 : hp k1 = some (h1.map (renCs r))) (e2 : hp k2 = some (h2.map (renCs r))) (e3 : hp k3 = some (h3.map (renCs r))) (e4 : hp k4 = some (h4.map (renCs r))) (e5 : hp k5 = some (h5.map (renCs r))) :
    ∀ i' x, [h0, h1, h2, h3, h4, h5][i']? = some x → hp ([k0, k1, k2, k3, k4, k5].getD i' 0) = some (x.map (renCs r)) := by
  intro i' x hx
  match i', hx with
  | 0, hx => simp only [List.getElem?_cons_zero, Option.some.injEq] at hx; subst hx; exact e0
  | 1, hx => simp only [List.getElem?_cons_succ, List.getElem?_cons_zero, Option.some.injEq] at hx; subst hx; exact e1
  | 2, hx => simp only [List.getElem?_cons_succ, List.getElem?_cons_zero, Option.some.injEq] at hx; subst hx; exact e2
  | 3, hx => simp only [List.getElem?_cons_succ, List.getElem?_cons_zero, Option.some.injEq] at hx; subst hx; exact e3
  | 4, hx => simp only [List.getElem?_cons_succ, List.getElem?_cons_zero, Option.some.injEq] at hx; subst hx; exact e4
  | 5, hx => simp only [List.getElem?_cons_succ, List.getElem?_cons_zero, Option.some.injEq] at hx; subst hx; exact e5
  | i' + 6, hx => simp at hx

theorem event (m : Mm) (k0 v0 : Int) (tr : List Ev) (htr : tr.length + 1 ≤ 1073741824) :
    DC Try.prog 104 [.c (.ptr 0 0), DI .i64 k0, DI .i64 v0] (stI m tr) (fun d h => d = .tup [] ∧ h = stI' m (tr ++ [⟨k0, v0⟩])) := by
  have hmx := mx_eq
  have hl := trC_len tr
  unfold stI
  refine dc_of_go Try.func104 rfl (by simp) ?_
  refine drv_sound (n := 100) (rs := _) Try.func104 mo rfl none _ _ ?_
  simp (maxSteps := 9999999) only [go_sem, isI, I64]
  (repeat' with_reducible apply And.intro) <;> (try first | omega | (simp only [InK]; omega) | (intro k e; cases e; rfl) | (intro hguard; exact ⟨hguard, by simp only [InK]; omega⟩) | kernel_rfl)
  refine RetOb.ofQ (fun j => if j = 6 then some 582 else some j) [] (.tup []) (stI' m (tr ++ [⟨k0, v0⟩])) ?_ ⟨rfl, rfl⟩ (by simp [stI'])
  simp [stI', enumL, hOf, DM, DMs, CM, CMs, HpOK, LowOK, upd, CMs_I, CMs_tr, CMs_hdr, CMs_b0, CMs_b1, hpL, trC_snoc]
  exact CMs.kf (kf_app (trC_kf _) (by simp [kf]))
end Go.Proofs.Ytclgjiffpijgmaa.CtR

namespace Go.Proofs.Ytclgjiffpijgmaa.CtR
open Go Go.CT CtF

theorem evalI (p : Pg) (m : Mm) (hm : MemFits p m) : ∀ (d : Nat) (e : Ex) (tr : List Ev), shape p d e = true → tr.length + cnt d e ≤ 1073741824 → DC Try.prog 103 [.c (.ptr 0 0), .agg e.cells] (stI m tr)
    (fun r h => r = DI .i64 (evalE m d e).1 ∧ h = stI' m (tr ++ (evalE m d e).2)) := by
  have hmx := mx_eq
  intro d
  induction d using Nat.strongRecOn with
  | _ d ih =>
    intro e tr hsh htr
    obtain ⟨k, v, ks⟩ := e
    obtain ⟨d', rfl⟩ : ∃ d', d = d' + 1 := by
      cases d with
      | zero => simp [shape] at hsh
      | succ d' => exact ⟨d', rfl⟩
    obtain ⟨h1, h2, h3⟩ := shape_succ hsh
    obtain ⟨hl3, hla, hv0, hv1⟩ := fits_len h1
    generalize hR : (fun (r : D) (h : List (Option (List C))) => r = DI .i64 (evalE m (d' + 1) (.mk k v ks)).1 ∧ h = stI' m (tr ++ (evalE m (d' + 1) (.mk k v ks)).2)) = R
    have ret : ∀ (x : Int) (kt n : Nat) (cs : List C) (tr' : List Ev) (hp : Hp), x = (evalE m (d' + 1) (.mk k v ks)).1 → tr' = tr ++ (evalE m (d' + 1) (.mk k v ks)).2 → hp 0 = some (some [.msl 2 1 0 m.vals.length, .msl 3 1 0 m.arrays.length, .msl kt 2 0 n]) →
        hp 2 = some (some (m.vals.map I64)) → hp 3 = some (some (hdr 4 5 m.arrays.length)) → hp 4 = some (some (blk0 m.arrays)) → hp 5 = some (some (blk1 m.arrays)) → hp kt = some (some cs) → (kt = 1 ∨ 6 ≤ kt) → cs = trC tr' → n = tr'.length → RetOb 6 R (DI .i64 x) hp := by
      rintro x kt n cs tr' hp rfl rfl e0 e2 e3 e4 e5 ek hk hcs hn
      subst hR
      exact RetOb.stI kt n cs ⟨rfl, rfl⟩ rfl e0 e2 e3 e4 e5 ek hk hcs hn
    unfold stI
    refine dc_of_go Try.func103 rfl (by simp) ?_
    refine drv_sound (n := 14) (rs := _) Try.func103 mo rfl none _ _ ?_
    simp (maxSteps := 9999999) only [go_sem]
    refine drv_sound (n := 100) (rs := _) Try.func103 mo rfl _ _ _ ?_
    simp (maxSteps := 9999999) only [go_sem]
    refine Go.loopQ (fun i : Nat => [(0, .c (.ptr 0 0)), (3, .c (.ptr 6 0)), (5, .c (.msl 21 1 0 i)), (9, .c (.isl 3 (Ex.cellsL ks))), (10, DI .i64 ks.length), (11, DI .i64 i)])
      (fun i => [(0, some [.msl 2 1 0 m.vals.length, .msl 3 1 0 m.arrays.length, .msl 20 2 0 (tr ++ evs m d' (ks.take i)).length]), (1, none), (2, some (m.vals.map I64)), (3, some (hdr 4 5 m.arrays.length)), (4, some (blk0 m.arrays)), (5, some (blk1 m.arrays)), (6, some (Ex.cells (.mk k v ks))), (20, some (trC (tr ++ evs m d' (ks.take i)))), (21, some ((vas m d' (ks.take i)).map I64))])
      4096 (fun i => i ≤ ks.length) (fun i => ks.length - i) ?_ 0 (fun j => if j = 20 then some 1 else if j = 21 then none else some j) [] _ (Nat.zero_le _) ?_
    · intro i hi again
      refine drv_sound (n := 100) (rs := _) Try.func103 mo rfl none _ _ ?_
      rcases Nat.lt_or_ge i ks.length with hlt | hge
      · obtain ⟨⟨k', v', ks'⟩, hx⟩ : ∃ x, ks[i]? = some x := ⟨ks[i], by simp [hlt]⟩
        simp (maxSteps := 9999999) only [go_sem, hx, hlt]
        (repeat' with_reducible apply And.intro) <;> (try first | omega | (simp only [InK]; omega) | (intro k e; cases e; rfl) | (intro hguard; exact ⟨hguard, by simp only [InK]; omega⟩) | kernel_rfl)
        have hmem := List.mem_of_getElem? hx
        have hsk := h2 _ hmem
        have hcnt : (tr ++ evs m d' (ks.take i)).length + cnt d' (.mk k' v' ks') ≤ 1073741824 := by
          have g1 := evs_len_le (m := m) (fun e he => evalE_len d' e he) (ks.take i) (fun x hx => h2 x (List.mem_of_mem_take hx))
          have g2 := tsum_succ (cnt d') ks i _ hx
          have g3 := tsum_le (cnt d') ks (i + 1)
          unfold tsum at g2 g3
          simp only [cnt] at htr
          rw [List.length_append]
          omega
        refine XK.callG [0, 20, 2, 3, 4, 5] (ih d' (by omega) (.mk k' v' ks') (tr ++ evs m d' (ks.take i)) hsk hcnt) ok103 (hhp6 (by simp [hOf, upd, renCs, renC, rk0]) (by simp [hOf, upd, renCs_tr]) (by simp [hOf, upd, renCs_I]) (by simp [hOf, upd, renCs_hdr, rk0]) (by simp [hOf, upd, renCs_b0]) (by simp [hOf, upd, renCs_b1])) (hbT ()) (fun d h' ⟨_, e⟩ => by subst e; simp [stI, stI']) ?_
        rintro _ _ ⟨rfl, rfl⟩ _
        unfold stI'
        refine drv_sound (n := 100) (rs := _) Try.func103 mo rfl (some _) _ _ ?_
        simp (maxSteps := 9999999) only [go_sem, hx, hlt, renCs_I, renCs_hdr, renCs_b0, renCs_b1, renCs_tr]
        have hva := vas_succ m d' ks i _ hx
        have hev := evs_succ m d' ks i _ hx
        have hvl : (vas m d' (ks.take i)).length = i := by rw [vas_len, List.length_take]; omega
        (repeat' with_reducible apply And.intro) <;> (try first | omega | (simp only [InK]; omega) | (intro k e; cases e; rfl) | (intro hguard; exact ⟨hguard, by simp only [InK]; omega⟩) | kernel_rfl)
        refine again (i + 1) (fun j => if j = 20 then some 4608 else if j = 21 then some 4736 else some j) [] _ hlt (by omega) ?_
        simp (maxSteps := 9999999) only [go_sem, TmOK, DM, DMs, CM, CMs, forall_eq, exists_eq_left, Mq, HpOK, LowOK, CMs_I, CMs_hdr, CMs_b0, CMs_b1, CMs_tr, hva, hev]
        simp [CMs_I, CMs_tr, trC_app]
        exact ⟨CMs.kf (kf_app (trC_kf _) (kf_app (trC_kf _) (trC_kf _))), CMs.kf (kf_app (kf_I _) (kf_I [_]))⟩
      · have hn : ¬ i < ks.length := by omega
        obtain rfl : i = ks.length := by omega
        have hr0 := vas_range hm h2 0
        have hr1 := vas_range hm h2 1
        have hvx0 := vas_get m d' ks 0
        have hvx1 := vas_get m d' ks 1
        have hvx2 := vas_get m d' ks 2
        have hlen := evs_len_le (m := m) (fun e he => evalE_len d' e he) ks h2
        have hll : (tr ++ evs m d' ks).length = tr.length + (evs m d' ks).length := List.length_append
        have htr2 := htr
        simp only [cnt] at htr2
        by_cases hk1 : k = 1
        · subst hk1
          have hks : ks = [] := by simpa [arity] using hla
          subst hks
          simp (maxSteps := 9999999) only [go_sem, hn, List.take_length, Ex.cellsL]
          exact ret _ _ _ _ (tr ++ evs m d' []) _ (by simp [evalE]) (by simp [evalE, evs]) rfl rfl rfl rfl rfl rfl (by omega) rfl rfl
        by_cases hk2 : k = 2
        · subst hk2
          have hks : ks = [] := by simpa [arity] using hla
          subst hks
          have hx := (nth_mem (l := m.vals) hv0 (by rw [hm.nv]; exact hv1)).1
          have hvl : v < m.vals.length := by rw [hm.nv]; exact hv1
          simp (maxSteps := 9999999) only [go_sem, hn, List.take_length, Ex.cellsL, hx]
          (repeat' with_reducible apply And.intro) <;> (try first | omega | (simp only [InK]; omega) | (intro k e; cases e; rfl) | (intro hguard; exact ⟨hguard, by simp only [InK]; omega⟩) | kernel_rfl)
          exact ret _ _ _ _ (tr ++ evs m d' []) _ (by simp [evalE]) (by simp [evalE, evs]) rfl rfl rfl rfl rfl rfl (by omega) rfl rfl
        by_cases hk3 : k = 3
        · subst hk3
          have hl1 : ks.length = 1 := by simp [arity] at hla; omega
          have hvx0 := hvx0 (by omega)
          simp only [limit] at hv1
          have hna := hm.na
          have hv2 : v = 0 ∨ v = 1 := by have := hm.na2; simp at hv1; omega
          rcases hv2 with hv2 | hv2
          · subst hv2
            have hnap : 0 < m.arrays.length := by simp at hv1; omega
            have ha := arrAt_mem (m := m) (v := 0) (by omega) (by omega)
            have hh : (hdr 4 5 m.arrays.length)[0]? = some (.msl 4 1 0 4) := by
              unfold hdr; match m.arrays.length, hnap with | n + 1, _ => rfl
            have hb := (blk0_get hm hnap ((vas m d' ks).getD 0 0)).2
            have hx1 := Int.emod_nonneg ((vas m d' ks).getD 0 0) (show (4 : Int) ≠ 0 by decide)
            have hx2 := Int.emod_lt_of_pos ((vas m d' ks).getD 0 0) (show (0 : Int) < 4 by decide)
            have hev : (evalE m (d' + 1) (.mk 3 0 ks)) = (nth (arrAt m 0) ((vas m d' ks).getD 0 0 % 4), evs m d' ks ++ [⟨2, 0 * 4 + (vas m d' ks).getD 0 0 % 4⟩]) := rfl
            simp only [Int.zero_mul, Int.zero_add] at hev
            simp (maxSteps := 9999999) only [go_sem, hn, List.take_length, hvx0, hh, hb]
            (repeat' with_reducible apply And.intro) <;> (try first | omega | (simp only [InK]; omega) | (intro k e; cases e; rfl) | (intro hguard; exact ⟨hguard, by simp only [InK]; omega⟩) | kernel_rfl)
            refine XK.plain (address 0 ((vas m d' ks).getD 0 0) (by omega) hr0) ok105 ?_ (hbT ()) (fun _ => by kernel_rfl) (hm := by simp only [wkey]; decide)
            refine drv_sound (n := 100) (rs := _) Try.func103 mo rfl (some _) _ _ ?_
            simp (maxSteps := 9999999) only [go_sem, hvx0, hh, hb]
            (repeat' with_reducible apply And.intro) <;> (try first | omega | (simp only [InK]; omega) | (intro k e; cases e; rfl) | (intro hguard; exact ⟨hguard, by simp only [InK]; omega⟩) | kernel_rfl)
            refine XK.callG [0, 20, 2, 3, 4, 5] (event m 2 ((vas m d' ks).getD 0 0 % 4) (tr ++ evs m d' ks) (by omega)) ok104 (hhp6 (by simp [hOf, upd, renCs, renC, rk0]) (by simp [hOf, upd, renCs_tr]) (by simp [hOf, upd, renCs_I]) (by simp [hOf, upd, renCs_hdr, rk0]) (by simp [hOf, upd, renCs_b0]) (by simp [hOf, upd, renCs_b1])) (hbT ()) (fun d h' ⟨_, e⟩ => by subst e; simp [stI, stI']) ?_ (fun _ => ⟨by kernel_rfl, _, _, ⟨rfl, rfl⟩, by simp [stI, stI']⟩)
            rintro _ _ ⟨rfl, rfl⟩ _
            unfold stI'
            refine drv_sound (n := 100) (rs := _) Try.func103 mo rfl (some _) _ _ ?_
            simp (maxSteps := 9999999) only [go_sem, hvx0, hh, hb, renCs_I, renCs_hdr, renCs_b0, renCs_b1, renCs_tr]
            (repeat' with_reducible apply And.intro) <;> (try first | omega | (simp only [InK]; omega) | (intro k e; cases e; rfl) | (intro hguard; exact ⟨hguard, by simp only [InK]; omega⟩) | kernel_rfl)
            refine ret _ _ _ _ (tr ++ evs m d' ks ++ [⟨2, (vas m d' ks).getD 0 0 % 4⟩]) _ (by rw [hev]) (by rw [hev, List.append_assoc]) rfl rfl rfl rfl rfl rfl (by omega) rfl rfl
          · subst hv2
            have hnap : 1 < m.arrays.length := by simp at hv1; omega
            have ha := arrAt_mem (m := m) (v := 1) (by omega) (by omega)
            have hh : (hdr 4 5 m.arrays.length)[1]? = some (.msl 5 1 0 4) := by
              unfold hdr; match m.arrays.length, hnap with | n + 2, _ => rfl
            have hb := (blk1_get hm hnap ((vas m d' ks).getD 0 0)).2
            have hx1 := Int.emod_nonneg ((vas m d' ks).getD 0 0) (show (4 : Int) ≠ 0 by decide)
            have hx2 := Int.emod_lt_of_pos ((vas m d' ks).getD 0 0) (show (0 : Int) < 4 by decide)
            have hev : (evalE m (d' + 1) (.mk 3 1 ks)) = (nth (arrAt m 1) ((vas m d' ks).getD 0 0 % 4), evs m d' ks ++ [⟨2, 1 * 4 + (vas m d' ks).getD 0 0 % 4⟩]) := rfl
            simp (maxSteps := 9999999) only [go_sem, hn, List.take_length, hvx0, hh, hb]
            (repeat' with_reducible apply And.intro) <;> (try first | omega | (simp only [InK]; omega) | (intro k e; cases e; rfl) | (intro hguard; exact ⟨hguard, by simp only [InK]; omega⟩) | kernel_rfl)
            refine XK.plain (address 1 ((vas m d' ks).getD 0 0) (by omega) hr0) ok105 ?_ (hbT ()) (fun _ => by kernel_rfl) (hm := by simp only [wkey]; decide)
            refine drv_sound (n := 100) (rs := _) Try.func103 mo rfl (some _) _ _ ?_
            simp (maxSteps := 9999999) only [go_sem, hvx0, hh, hb]
            (repeat' with_reducible apply And.intro) <;> (try first | omega | (simp only [InK]; omega) | (intro k e; cases e; rfl) | (intro hguard; exact ⟨hguard, by simp only [InK]; omega⟩) | kernel_rfl)
            refine XK.callG [0, 20, 2, 3, 4, 5] (event m 2 (1 * 4 + (vas m d' ks).getD 0 0 % 4) (tr ++ evs m d' ks) (by omega)) ok104 (hhp6 (by simp [hOf, upd, renCs, renC, rk0]) (by simp [hOf, upd, renCs_tr]) (by simp [hOf, upd, renCs_I]) (by simp [hOf, upd, renCs_hdr, rk0]) (by simp [hOf, upd, renCs_b0]) (by simp [hOf, upd, renCs_b1])) (hbT ()) (fun d h' ⟨_, e⟩ => by subst e; simp [stI, stI']) ?_ (fun _ => ⟨by kernel_rfl, _, _, ⟨rfl, rfl⟩, by simp [stI, stI']⟩)
            rintro _ _ ⟨rfl, rfl⟩ _
            unfold stI'
            refine drv_sound (n := 100) (rs := _) Try.func103 mo rfl (some _) _ _ ?_
            simp (maxSteps := 9999999) only [go_sem, hvx0, hh, hb, renCs_I, renCs_hdr, renCs_b0, renCs_b1, renCs_tr]
            (repeat' with_reducible apply And.intro) <;> (try first | omega | (simp only [InK]; omega) | (intro k e; cases e; rfl) | (intro hguard; exact ⟨hguard, by simp only [InK]; omega⟩) | kernel_rfl)
            refine ret _ _ _ _ (tr ++ evs m d' ks ++ [⟨2, 1 * 4 + (vas m d' ks).getD 0 0 % 4⟩]) _ (by rw [hev]) (by rw [hev, List.append_assoc]) rfl rfl rfl rfl rfl rfl (by omega) rfl rfl
        have e1 : (k == 1) = false := by simp [hk1]
        have e2 : (k == 2) = false := by simp [hk2]
        have e3 : (k == 3) = false := by simp [hk3]
        by_cases hk11 : k = 11
        · subst hk11
          have hl1 : ks.length = 3 := by simp [arity] at hla; omega
          have hvx0 := hvx0 (by omega)
          have hvx1 := hvx1 (by omega)
          have hvx2 := hvx2 (by omega)
          have hev : (evalE m (d' + 1) (.mk 11 v ks)) = (if (vas m d' ks).getD 0 0 ≠ 0 then (vas m d' ks).getD 1 0 else (vas m d' ks).getD 2 0, evs m d' ks) := rfl
          simp (maxSteps := 9999999) only [go_sem, hn, List.take_length, hvx0, hvx1, hvx2]
          refine ⟨by omega, fun h0 => ⟨by omega, ret _ _ _ _ (tr ++ evs m d' ks) _ (by rw [hev]; exact (if_pos h0).symm) (by rw [hev]) rfl rfl rfl rfl rfl rfl (by omega) rfl rfl⟩, fun h0 => ⟨by omega, ret _ _ _ _ (tr ++ evs m d' ks) _ (by rw [hev]; exact (if_neg fun h => h h0).symm) (by rw [hev]) rfl rfl rfl rfl rfl rfl (by omega) rfl rfl⟩⟩
        · have e11 : (k == 11) = false := by simp [hk11]
          have hl1 : ks.length = 2 := by
            unfold arity at hla
            repeat' split at hla
            all_goals omega
          have hvx0 := hvx0 (by omega)
          have hvx1 := hvx1 (by omega)
          have hev : (evalE m (d' + 1) (.mk k v ks)) = (bin k ((vas m d' ks).getD 0 0) ((vas m d' ks).getD 1 0), evs m d' ks) := by
            simp only [evalE, if_neg hk1, if_neg hk2, if_neg hk3, if_neg hk11]; rfl
          simp (maxSteps := 9999999) only [go_sem, hn, List.take_length, hk1, hk2, hk3, hk11, e1, e2, e3, e11, hvx0, hvx1]
          (repeat' with_reducible apply And.intro) <;> (try first | omega | (simp only [InK]; omega) | (intro k e; cases e; rfl) | (intro hguard; exact ⟨hguard, by simp only [InK]; omega⟩) | kernel_rfl)
          refine XK.plain (operate k _ _ hr0 hr1) ok139 ?_ (hbT ()) (fun _ => by kernel_rfl) (hm := by simp only [wkey]; decide)
          refine drv_sound (n := 100) (rs := _) Try.func103 mo rfl (some _) _ _ ?_
          simp (maxSteps := 9999999) only [go_sem]
          (repeat' with_reducible apply And.intro) <;> (try first | omega | (simp only [InK]; omega) | (intro k e; cases e; rfl) | (intro hguard; exact ⟨hguard, by simp only [InK]; omega⟩) | kernel_rfl)
          exact ret _ _ _ _ (tr ++ evs m d' ks) _ (by rw [hev]) (by rw [hev]) rfl rfl rfl rfl rfl rfl (by omega) rfl rfl
    · simp (maxSteps := 9999999) only [go_sem, TmOK, DM, DMs, CM, CMs, forall_eq, exists_eq_left, Mq, HpOK, LowOK, CMs_I, CMs_hdr, CMs_b0, CMs_b1, CMs_tr]
      simp [evs, vas, CMs_tr, CMs]
end Go.Proofs.Ytclgjiffpijgmaa.CtR

namespace Go.Proofs.Ytclgjiffpijgmaa.CtR
open Go Go.CT CtF

def setV (m : Mm) (t x : Int) : Mm := ⟨m.vals.set t.toNat x, m.arrays⟩
def setA (m : Mm) (t i x : Int) : Mm := ⟨m.vals, m.arrays.set t.toNat ((arrAt m t).set i.toNat x)⟩
def foldR (f : Mm → St1 → Mm × List Ev) : Mm → List St1 → Mm × List Ev
  | m, [] => (m, [])
  | m, s :: r => ((foldR f (f m s).1 r).1, (f m s).2 ++ (foldR f (f m s).1 r).2)
def iterR (f : Mm → Mm × List Ev) : Nat → Mm → Mm × List Ev
  | 0, m => (m, [])
  | n + 1, m => ((f (iterR f n m).1).1, (iterR f n m).2 ++ (f (iterR f n m).1).2)
theorem foldR_snoc (f : Mm → St1 → Mm × List Ev) : ∀ (l : List St1) (m : Mm) (s : St1), foldR f m (l ++ [s]) = ((f (foldR f m l).1 s).1, (foldR f m l).2 ++ (f (foldR f m l).1 s).2)
  | [], m, s => by simp [foldR]
  | a :: r, m, s => by simp only [List.cons_append, foldR, foldR_snoc f r, List.append_assoc]
/-- What a statement does. -/
def runS : Nat → Mm → St1 → Mm × List Ev
  | 0, m, _ => (m, [])
  | d + 1, m, .mk k t ix v c b e =>
    if k = 4 then iterR (fun m => foldR (runS d) m b) c.toNat m
    else if k = 1 then (setV m t (evalE m 5 v).1, (evalE m 5 v).2)
    else if k = 5 then (setV m t (evalE m 5 v).1, (evalE m 5 v).2 ++ [⟨4, (evalE m 5 v).1⟩])
    else if k = 2 then (setA m t ((evalE m 5 ix).1 % 4) (evalE m 5 v).1, (evalE m 5 v).2 ++ [⟨3, t * 4 + (evalE m 5 ix).1 % 4⟩])
    else if (evalE m 5 v).1 ≠ 0 then ((foldR (runS d) m b).1, (evalE m 5 v).2 ++ [⟨1, 1⟩] ++ (foldR (runS d) m b).2)
    else ((foldR (runS d) m e).1, (evalE m 5 v).2 ++ [⟨1, 0⟩] ++ (foldR (runS d) m e).2)
def runL (d : Nat) (m : Mm) (l : List St1) : Mm × List Ev := foldR (runS d) m l
theorem runL_succ (d : Nat) (m : Mm) (l : List St1) (i : Nat) (s : St1) (h : l[i]? = some s) :
    runL d m (l.take (i + 1)) = ((runS d (runL d m (l.take i)).1 s).1, (runL d m (l.take i)).2 ++ (runS d (runL d m (l.take i)).1 s).2) := by
  unfold runL; rw [List.take_add_one, h]; exact foldR_snoc _ _ _ _

theorem set_mem {l : List Int} {i : Nat} {x y : Int} (h : y ∈ l.set i x) : y ∈ l ∨ y = x := List.mem_or_eq_of_mem_set h
theorem MemFits.setV {p : Pg} {m : Mm} (hm : MemFits p m) {t x : Int} (hx : 0 ≤ x ∧ x ≤ 255) : MemFits p (setV m t x) where
  nv := by simp [CtR.setV, hm.nv]
  na := hm.na
  nv12 := hm.nv12
  na2 := hm.na2
  val := fun y hy => (set_mem hy).elim (hm.val y) fun h => by rw [h]; exact hx
  arr := hm.arr
theorem MemFits.setA {p : Pg} {m : Mm} (hm : MemFits p m) {t i x : Int} (ht : 0 ≤ t ∧ t < m.arrays.length) (hx : 0 ≤ x ∧ x ≤ 255) : MemFits p (setA m t i x) where
  nv := hm.nv
  na := by simp [CtR.setA, hm.na]
  nv12 := hm.nv12
  na2 := hm.na2
  val := hm.val
  arr := fun a ha => by
    have h4 := hm.arr _ (arrAt_mem ht.1 ht.2).2
    rcases List.mem_or_eq_of_mem_set ha with h | h
    · exact hm.arr a h
    · subst h
      exact ⟨by simp [h4.1], fun y hy => (set_mem hy).elim (h4.2 y) fun h => by rw [h]; exact hx⟩

/-- What a valid statement's fields tell. -/
theorem stmtOK_succ {p : Pg} {d : Nat} {k t : Int} {ix v : Ex} {c : Int} {b e : List St1} (h : stmtOK p (d + 1) (.mk k t ix v c b e) = true) :
    headOK p k t ix v c b.length e.length = true ∧ (∀ x ∈ b, stmtOK p d x = true) ∧ (∀ x ∈ e, stmtOK p d x = true) := by
  simp only [stmtOK, Bool.and_eq_true, List.all_eq_true] at h
  exact ⟨h.1.1, h.1.2, h.2⟩
theorem right_shape {p : Pg} {e : Ex} (h : right p e = true) : shape p 5 e = true ∧ cnt 5 e ≤ 15 := by
  simp only [right, Bool.and_eq_true, decide_eq_true_eq] at h
  exact ⟨h.1, by omega⟩
theorem head_kind {p : Pg} {k t : Int} {ix v : Ex} {c : Int} {bn en : Nat} (h : headOK p k t ix v c bn en = true) :
    (k = 1 ∨ k = 5) ∧ 0 ≤ t ∧ t < p.vars.length ∧ right p v = true ∨ k = 2 ∧ 0 ≤ t ∧ t < p.arrays.length ∧ right p ix = true ∧ atom ix = true ∧ right p v = true ∨ k = 3 ∧ right p v = true ∨ k = 4 ∧ 1 ≤ c ∧ c ≤ 3 := by
  unfold headOK parts blk at h
  by_cases h1 : k = 1 ∨ k = 5
  · left; simp only [if_pos h1] at h; grind
  · right
    by_cases h2 : k = 2
    · left; subst h2; simp at h; grind
    · right
      by_cases h3 : k = 3
      · left; subst h3; simp at h; grind
      · right
        have h4 : k = 4 := by grind
        subst h4; simp at h; grind

def wt (d : Nat) : Nat := 20 * 3 ^ d
theorem foldR_ok {p : Pg} {f : Mm → St1 → Mm × List Ev} {q : St1 → Bool} {w : St1 → Nat} (hf : ∀ m s, MemFits p m → q s = true → MemFits p (f m s).1 ∧ (f m s).2.length ≤ w s) :
    ∀ (l : List St1) (m : Mm), MemFits p m → (∀ s ∈ l, q s = true) → MemFits p (foldR f m l).1 ∧ (foldR f m l).2.length ≤ (l.map w).sum
  | [], m, hm, _ => ⟨hm, by simp [foldR]⟩
  | a :: r, m, hm, hq => by
    have h1 := hf m a hm (hq a (by simp))
    have h2 := foldR_ok hf r _ h1.1 fun s hs => hq s (by simp [hs])
    refine ⟨h2.1, ?_⟩
    simp only [foldR, List.length_append, List.map_cons, List.sum_cons]
    omega
theorem iterR_ok {p : Pg} {f : Mm → Mm × List Ev} {w : Nat} (hf : ∀ m, MemFits p m → MemFits p (f m).1 ∧ (f m).2.length ≤ w) : ∀ (n : Nat) (m : Mm), MemFits p m → MemFits p (iterR f n m).1 ∧ (iterR f n m).2.length ≤ n * w
  | 0, m, hm => ⟨hm, by simp [iterR]⟩
  | n + 1, m, hm => by
    have h1 := iterR_ok hf n m hm
    have h2 := hf _ h1.1
    refine ⟨h2.1, ?_⟩
    simp only [iterR, List.length_append, Nat.add_mul]
    omega
theorem sum_mul (f : St1 → Nat) (k : Nat) : ∀ l : List St1, (l.map fun s => k * f s).sum = k * (l.map f).sum
  | [] => by simp
  | a :: r => by simp only [List.map_cons, List.sum_cons, sum_mul f k r, Nat.mul_add]
theorem runS_ok {p : Pg} : ∀ (d : Nat) (m : Mm) (s : St1), MemFits p m → stmtOK p d s = true → MemFits p (runS d m s).1 ∧ (runS d m s).2.length ≤ wt d * tsize d s
  | 0, m, s, _, h => by simp [stmtOK] at h
  | d + 1, m, .mk k t ix v c b e, hm, h => by
    obtain ⟨hh, hb, he⟩ := stmtOK_succ h
    have fb := fun m' hm' => foldR_ok (fun m s hm hs => runS_ok d m s hm hs) b m' hm' hb
    have fe := fun m' hm' => foldR_ok (fun m s hm hs => runS_ok d m s hm hs) e m' hm' he
    simp only [sum_mul] at fb fe
    have hw : wt (d + 1) = 3 * wt d := by unfold wt; rw [Nat.pow_succ]; omega
    have hw1 : 20 ≤ wt d := by unfold wt; have : 0 < 3 ^ d := Nat.pow_pos (by decide); omega
    have hts : tsize (d + 1) (.mk k t ix v c b e) = 1 + (b.map (tsize d)).sum + (e.map (tsize d)).sum := rfl
    have hbig : wt (d + 1) * tsize (d + 1) (.mk k t ix v c b e) = 3 * wt d + 3 * (wt d * (b.map (tsize d)).sum) + 3 * (wt d * (e.map (tsize d)).sum) := by
      rw [hts, hw, Nat.mul_add, Nat.mul_add, Nat.mul_assoc, Nat.mul_assoc, Nat.mul_assoc]; omega
    rw [hbig]
    rcases head_kind hh with ⟨hk, ht0, ht1, hr⟩ | ⟨hk, ht0, ht1, hri, hai, hr⟩ | ⟨hk, hr⟩ | ⟨hk, hc1, hc3⟩
    · have hs := right_shape hr
      have he1 := evalE_range hm 5 v hs.1
      have he2 := evalE_len (m := m) 5 v hs.1
      have hk4 : k ≠ 4 := by omega
      rcases hk with hk | hk
      · subst hk
        simp only [runS, if_neg hk4, if_true]
        exact ⟨hm.setV he1, by omega⟩
      · subst hk
        simp only [runS, if_neg hk4, if_true, show ¬ ((5 : Int) = 1) by decide, if_false]
        exact ⟨hm.setV he1, by simp; omega⟩
    · have hs := right_shape hr
      have he1 := evalE_range hm 5 v hs.1
      have he2 := evalE_len (m := m) 5 v hs.1
      subst hk
      simp only [runS, show ¬ ((2 : Int) = 4) by decide, show ¬ ((2 : Int) = 1) by decide, show ¬ ((2 : Int) = 5) by decide, if_false, if_true]
      exact ⟨hm.setA ⟨ht0, by rw [hm.na]; exact ht1⟩ he1, by simp; omega⟩
    · have hs := right_shape hr
      have he2 := evalE_len (m := m) 5 v hs.1
      subst hk
      simp only [runS, show ¬ ((3 : Int) = 4) by decide, show ¬ ((3 : Int) = 1) by decide, show ¬ ((3 : Int) = 5) by decide, show ¬ ((3 : Int) = 2) by decide, if_false]
      have g1 := fb m hm
      have g2 := fe m hm
      split
      · exact ⟨g1.1, by simp; omega⟩
      · exact ⟨g2.1, by simp; omega⟩
    · subst hk
      simp only [runS, if_true]
      have := iterR_ok (f := fun m => foldR (runS d) m b) (fun m hm => fb m hm) c.toNat m hm
      refine ⟨this.1, Nat.le_trans this.2 ?_⟩
      have hc : c.toNat ≤ 3 := by omega
      have := Nat.mul_le_mul_right (wt d * (b.map (tsize d)).sum) hc
      omega
theorem runL_ok {p : Pg} {d : Nat} {m : Mm} {l : List St1} (hm : MemFits p m) (h : ∀ s ∈ l, stmtOK p d s = true) : MemFits p (runL d m l).1 ∧ (runL d m l).2.length ≤ wt d * lsize d l := by
  have := foldR_ok (fun m s hm hs => runS_ok d m s hm hs) l m hm h
  rw [sum_mul] at this
  exact this
end Go.Proofs.Ytclgjiffpijgmaa.CtR

namespace Go.Proofs.Ytclgjiffpijgmaa.CtR
open Go Go.CT CtF

theorem map_setV (m : Mm) (t x : Int) : (setV m t x).vals.map I64 = (m.vals.map I64).set t.toNat (.v (.int .i64 x)) := by
  unfold setV; exact List.map_set
theorem blk0_set0 (m : Mm) (i x : Int) (h : 0 < m.arrays.length) : blk0 (setA m 0 i x).arrays = (blk0 m.arrays).set i.toNat (.v (.int .i64 x)) := by
  have e : m.arrays[0]? = some (arrAt m 0) := (arrAt_mem (m := m) (v := 0) (by omega) (by omega)).1
  unfold blk0 setA
  simp only [Int.toNat_zero, List.getElem?_set_self h, Option.getD_some, e]
  exact List.map_set
theorem blk1_set0 (m : Mm) (i x : Int) : blk1 (setA m 0 i x).arrays = blk1 m.arrays := by
  unfold blk1 setA
  simp only [Int.toNat_zero]
  rw [List.getElem?_set_ne (by decide)]
theorem blk1_set1 (m : Mm) (i x : Int) (h : 1 < m.arrays.length) : blk1 (setA m 1 i x).arrays = (blk1 m.arrays).set i.toNat (.v (.int .i64 x)) := by
  have e : m.arrays[1]? = some (arrAt m 1) := (arrAt_mem (m := m) (v := 1) (by omega) (by omega)).1
  unfold blk1 setA
  simp only [show (1 : Int).toNat = 1 from rfl, List.getElem?_set_self h, Option.getD_some, e]
  exact List.map_set
theorem blk0_set1 (m : Mm) (i x : Int) : blk0 (setA m 1 i x).arrays = blk0 m.arrays := by
  unfold blk0 setA
  simp only [show (1 : Int).toNat = 1 from rfl]
  rw [List.getElem?_set_ne (by decide)]

theorem cells_kf (k t : Int) (ik iv : Int) (iks : List Ex) (vk vv : Int) (vks : List Ex) (c : Int) (b e : List St1) : ∀ x ∈ St1.cells (.mk k t (.mk ik iv iks) (.mk vk vv vks) c b e), kf x = true := by
  simp [St1.cells, Ex.cells, kf]

end Go.Proofs.Ytclgjiffpijgmaa.CtR

namespace Go.Proofs.Ytclgjiffpijgmaa.CtR
open Go Go.CT CtF

def stP' (p : Pg) (m : Mm) (tr : List Ev) : List (Option (List C)) := [some [.msl 2 1 0 p.vars.length, .msl 3 1 0 p.arrays.length, .msl 6 2 0 tr.length], none, some (m.vals.map I64), some (hdr 4 5 p.arrays.length), some (blk0 m.arrays), some (blk1 m.arrays), some (trC tr)]

theorem evalI2 (p : Pg) (m : Mm) (hm : MemFits p m) (e : Ex) (tr : List Ev) (hr : right p e = true) (htr : tr.length + 15 ≤ 1073741824) : DC Try.prog 103 [.c (.ptr 0 0), .agg e.cells] [some [.msl 2 1 0 p.vars.length, .msl 3 1 0 p.arrays.length, .msl 1 2 0 tr.length], some (trC tr), some (m.vals.map I64), some (hdr 4 5 p.arrays.length), some (blk0 m.arrays), some (blk1 m.arrays)]
    (fun r h => r = DI .i64 (evalE m 5 e).1 ∧ h = stP' p m (tr ++ (evalE m 5 e).2)) := by
  have hs := right_shape hr
  have h := evalI p m hm 5 e tr hs.1 (by omega)
  unfold stI stI' at h
  rw [hm.nv, hm.na] at h
  exact h
theorem event2 (p : Pg) (m : Mm) (hm : MemFits p m) (k0 v0 : Int) (tr : List Ev) (htr : tr.length + 1 ≤ 1073741824) : DC Try.prog 104 [.c (.ptr 0 0), DI .i64 k0, DI .i64 v0] [some [.msl 2 1 0 p.vars.length, .msl 3 1 0 p.arrays.length, .msl 1 2 0 tr.length], some (trC tr), some (m.vals.map I64), some (hdr 4 5 p.arrays.length), some (blk0 m.arrays), some (blk1 m.arrays)] (fun d h => d = .tup [] ∧ h = stP' p m (tr ++ [⟨k0, v0⟩])) := by
  have h := event m k0 v0 tr htr
  unfold stI stI' at h
  rw [hm.nv, hm.na] at h
  exact h

theorem mqRunI {S : Ms} {p : Pg} {l : List St1} {M : Mm} {T : List Ev} {i kt n : Nat} {cs c2 c4 c5 : List C} (h0 : S.hp 0 = some (some [.msl 2 1 0 p.vars.length, .msl 3 1 0 p.arrays.length, .msl kt 2 0 n])) (t0 : S.tm 0 = some (.c (.ptr 0 0))) (t8 : S.tm 8 = some (.c (.isl 11 (St1.cellsL l)))) (t9 : S.tm 9 = some (DI .i64 l.length)) (t10 : S.tm 10 = some (DI .i64 i))
    (h2 : S.hp 2 = some (some c2)) (h3 : S.hp 3 = some (some (hdr 4 5 p.arrays.length))) (h4 : S.hp 4 = some (some c4)) (h5 : S.hp 5 = some (some c5)) (hk : S.hp kt = some (some cs))
    (hkt : 6 ≤ kt) (e2 : c2 = M.vals.map I64) (e4 : c4 = blk0 M.arrays) (e5 : c5 = blk1 M.arrays) (hcs : cs = trC T) (hn : n = T.length) :
    Mq 6 (fun j => if j = 20 then some kt else some j) [] [(0, .c (.ptr 0 0)), (8, .c (.isl 11 (St1.cellsL l))), (9, DI .i64 l.length), (10, DI .i64 i)]
      [(0, some [.msl 2 1 0 p.vars.length, .msl 3 1 0 p.arrays.length, .msl 20 2 0 T.length]), (1, none), (2, some (M.vals.map I64)), (3, some (hdr 4 5 p.arrays.length)), (4, some (blk0 M.arrays)), (5, some (blk1 M.arrays)), (20, some (trC T))] S := by
  subst hcs hn e2 e4 e5
  simp [Mq, TmOK, t0, t8, t9, t10, h0, h2, h3, h4, h5, hk, DM, CM, CMs, HpOK, LowOK, hOf, upd, CMs_I, CMs_tr, CMs_hdr, CMs_b0, CMs_b1]
  omega
theorem mqRepI {S : Ms} {p : Pg} {l : List St1} {M : Mm} {T : List Ev} {i j0 kt ks n : Nat} {c : Int} {cs c2 c4 c5 ss : List C} (hss : ∀ c ∈ ss, kf c = true) (h0 : S.hp 0 = some (some [.msl 2 1 0 p.vars.length, .msl 3 1 0 p.arrays.length, .msl kt 2 0 n])) (t5 : S.tm 5 = some (.c (.ptr ks 0))) (t0 : S.tm 0 = some (.c (.ptr 0 0))) (t8 : S.tm 8 = some (.c (.isl 11 (St1.cellsL l)))) (t9 : S.tm 9 = some (DI .i64 l.length)) (t10 : S.tm 10 = some (DI .i64 i)) (t18 : S.tm 18 = some (DI .i64 c)) (t19 : S.tm 19 = some (DI .i64 j0))
    (h2 : S.hp 2 = some (some c2)) (h3 : S.hp 3 = some (some (hdr 4 5 p.arrays.length))) (h4 : S.hp 4 = some (some c4)) (h5 : S.hp 5 = some (some c5)) (hk : S.hp kt = some (some cs)) (hs : S.hp ks = some (some ss))
    (hkt : 6 ≤ kt ∧ 6 ≤ ks ∧ kt ≠ ks) (e2 : c2 = M.vals.map I64) (e4 : c4 = blk0 M.arrays) (e5 : c5 = blk1 M.arrays) (hcs : cs = trC T) (hn : n = T.length) :
    Mq 6 (fun j => if j = 20 then some kt else if j = 22 then some ks else some j) [] [(0, .c (.ptr 0 0)), (8, .c (.isl 11 (St1.cellsL l))), (9, DI .i64 l.length), (10, DI .i64 i), (5, .c (.ptr 22 0)), (18, DI .i64 c), (19, DI .i64 j0)]
      [(0, some [.msl 2 1 0 p.vars.length, .msl 3 1 0 p.arrays.length, .msl 20 2 0 T.length]), (1, none), (2, some (M.vals.map I64)), (3, some (hdr 4 5 p.arrays.length)), (4, some (blk0 M.arrays)), (5, some (blk1 M.arrays)), (20, some (trC T)), (22, some ss)] S := by
  subst hcs hn e2 e4 e5
  refine ⟨?_, ⟨?_, ?_, ?_, ?_, ?_, ?_, ?_, ?_, ?_⟩, ?_, ?_⟩
  all_goals simp [TmOK, t0, t5, t8, t9, t10, t18, t19, h0, h2, h3, h4, h5, hk, hs, DM, CM, CMs, HpOK, LowOK, hOf, upd, CMs_I, CMs_tr, CMs_hdr, CMs_b0, CMs_b1]
  · exact CMs.kf hss
  · omega

theorem runIOf (p : Pg) (d : Nat)
    (ih : ∀ d', d = d' + 1 → ∀ (m : Mm) (l : List St1) (tr : List Ev), MemFits p m → (∀ s ∈ l, stmtOK p d' s = true) → tr.length + wt d' * lsize d' l ≤ 1073741824 → DC Try.prog 61 [.c (.ptr 0 0), .c (.isl 11 (St1.cellsL l))] [some [.msl 2 1 0 p.vars.length, .msl 3 1 0 p.arrays.length, .msl 1 2 0 tr.length], some (trC tr), some (m.vals.map I64), some (hdr 4 5 p.arrays.length), some (blk0 m.arrays), some (blk1 m.arrays)] (fun r h => r = .tup [] ∧ h = stP' p (runL d' m l).1 (tr ++ (runL d' m l).2)))
    (m : Mm) (l : List St1) (tr : List Ev) (hm : MemFits p m) (hok : ∀ s ∈ l, stmtOK p d s = true) (htr : tr.length + wt d * lsize d l ≤ 1073741824) :
    DC Try.prog 61 [.c (.ptr 0 0), .c (.isl 11 (St1.cellsL l))] [some [.msl 2 1 0 p.vars.length, .msl 3 1 0 p.arrays.length, .msl 1 2 0 tr.length], some (trC tr), some (m.vals.map I64), some (hdr 4 5 p.arrays.length), some (blk0 m.arrays), some (blk1 m.arrays)] (fun r h => r = .tup [] ∧ h = stP' p (runL d m l).1 (tr ++ (runL d m l).2)) := by
  have hmx := mx_eq
  generalize hR : (fun (r : D) (h : List (Option (List C))) => r = .tup [] ∧ h = stP' p (runL d m l).1 (tr ++ (runL d m l).2)) = R
  have ret : ∀ (kt n : Nat) (cs : List C) (tr' : List Ev) (hp : Hp), tr' = tr ++ (runL d m l).2 → hp 0 = some (some [.msl 2 1 0 p.vars.length, .msl 3 1 0 p.arrays.length, .msl kt 2 0 n]) → hp 2 = some (some ((runL d m l).1.vals.map I64)) → hp 3 = some (some (hdr 4 5 p.arrays.length)) → hp 4 = some (some (blk0 (runL d m l).1.arrays)) → hp 5 = some (some (blk1 (runL d m l).1.arrays)) →
      hp kt = some (some cs) → 6 ≤ kt → cs = trC tr' → n = tr'.length → RetOb 6 R (.tup []) hp := by
    rintro kt n cs tr' hp rfl h0 h2 h3 h4 h5 hk hkt rfl rfl
    subst hR
    refine RetOb.ofQ (fun j => if j = 6 then some kt else some j) [] (.tup []) (stP' p (runL d m l).1 (tr ++ (runL d m l).2)) ?_ ⟨rfl, rfl⟩ (by simp [stP'])
    simp [stP', enumL, hOf, DM, DMs, CM, CMs, HpOK, LowOK, upd, CMs_I, CMs_tr, CMs_hdr, CMs_b0, CMs_b1, h0, h2, h3, h4, h5, hk]
    omega
  refine dcZ Try.func61 ?_
  simp (maxSteps := 9999999) only [go_sem]
  iterate 2 (try (refine drvZ Try.func61 ?_; simp (maxSteps := 9999999) only [go_sem]))
  refine Go.loopQ (fun i : Nat => [(0, .c (.ptr 0 0)), (8, .c (.isl 11 (St1.cellsL l))), (9, DI .i64 l.length), (10, DI .i64 i)])
    (fun i => [(0, some [.msl 2 1 0 p.vars.length, .msl 3 1 0 p.arrays.length, .msl 20 2 0 (tr ++ (runL d m (l.take i)).2).length]), (1, none), (2, some ((runL d m (l.take i)).1.vals.map I64)), (3, some (hdr 4 5 p.arrays.length)), (4, some (blk0 (runL d m (l.take i)).1.arrays)), (5, some (blk1 (runL d m (l.take i)).1.arrays)), (20, some (trC (tr ++ (runL d m (l.take i)).2)))])
    4096 (fun i => i ≤ l.length) (fun i => l.length - i) ?_ 0 (fun j => if j = 20 then some 1 else some j) [] _ (Nat.zero_le _) ?_
  · intro i hi again
    have hmi := (runL_ok (l := l.take i) hm (fun s hs => hok s (List.mem_of_mem_take hs))).1
    rcases Nat.lt_or_ge i l.length with hlt | hge
    · obtain ⟨⟨k, t, ⟨ik, iv, iks⟩, ⟨vk, vv, vks⟩, c, b, e⟩, hx⟩ : ∃ x, l[i]? = some x := ⟨l[i], by simp [hlt]⟩
      have hmem := List.mem_of_getElem? hx
      have hsk := hok _ hmem
      have hsucc := runL_succ d m l i _ hx
      have hlen : (runL d m (l.take i)).2.length + wt d * tsize d (.mk k t (.mk ik iv iks) (.mk vk vv vks) c b e) ≤ wt d * lsize d l := by
        have hbi := (runL_ok (l := l.take i) hm (fun s hs => hok s (List.mem_of_mem_take hs))).2
        have g2 := tsum_succ (tsize d) l i _ hx
        have g3 := tsum_le (tsize d) l (i + 1)
        unfold tsum at g2 g3
        have g4 : lsize d (l.take i) + tsize d (.mk k t (.mk ik iv iks) (.mk vk vv vks) c b e) ≤ lsize d l := by unfold lsize; omega
        have g5 := Nat.mul_le_mul_left (wt d) g4
        rw [Nat.mul_add] at g5
        omega
      generalize hmm : (runL d m (l.take i)).1 = mi at *
      generalize htt : tr ++ (runL d m (l.take i)).2 = ti at *
      have hn1 : (runL d m (l.take (i + 1))).1 = (runS d mi (.mk k t (.mk ik iv iks) (.mk vk vv vks) c b e)).1 := by rw [hsucc]
      have hn2 : tr ++ (runL d m (l.take (i + 1))).2 = ti ++ (runS d mi (.mk k t (.mk ik iv iks) (.mk vk vv vks) c b e)).2 := by rw [hsucc, ← htt, List.append_assoc]
      have htl : ti.length + wt d * tsize d (.mk k t (.mk ik iv iks) (.mk vk vv vks) c b e) ≤ 1073741824 := by rw [← htt, List.length_append]; omega
      obtain ⟨d', rfl⟩ : ∃ d', d = d' + 1 := by
        cases d with
        | zero => simp [stmtOK] at hsk
        | succ d' => exact ⟨d', rfl⟩
      have ih := ih d' rfl
      have hil := len_le_lsize (d := d') l
      have hwl : lsize (d' + 1) l ≤ wt (d' + 1) * lsize (d' + 1) l := Nat.le_mul_of_pos_left _ (by unfold wt; have : 0 < 3 ^ (d' + 1) := Nat.pow_pos (by decide); omega)
      obtain ⟨hh, hb, he⟩ := stmtOK_succ hsk
      rcases head_kind hh with ⟨hk, ht0, ht1, hr⟩ | ⟨hk, ht0, ht1, hri, hai, hr⟩ | ⟨hk, hr⟩ | ⟨hk, hc1, hc3⟩
      · have htv : t < mi.vals.length := by rw [hmi.nv]; exact ht1
        rcases hk with hk | hk
        · subst hk
          have hw1 : 20 ≤ wt (d' + 1) * tsize (d' + 1) (.mk 1 t (.mk ik iv iks) (.mk vk vv vks) c b e) := by
            have g1 := tsize_pos (d := d') (.mk 1 t (.mk ik iv iks) (.mk vk vv vks) c b e)
            have g2 : 20 ≤ wt (d' + 1) := by unfold wt; have : 0 < 3 ^ (d' + 1) := Nat.pow_pos (by decide); omega
            have g3 := Nat.mul_le_mul g2 g1
            omega
          have hs := right_shape hr
          have he1 := evalE_range hmi 5 (.mk vk vv vks) hs.1
          have he2 := evalE_len (m := mi) 5 (.mk vk vv vks) hs.1
          have htl2 := trC_len (ti ++ (evalE mi 5 (.mk vk vv vks)).2)
          have hll : (ti ++ (evalE mi 5 (.mk vk vv vks)).2).length = ti.length + (evalE mi 5 (.mk vk vv vks)).2.length := List.length_append
          have hrun : runS (d' + 1) mi (.mk 1 t (.mk ik iv iks) (.mk vk vv vks) c b e) = (setV mi t (evalE mi 5 (.mk vk vv vks)).1, (evalE mi 5 (.mk vk vv vks)).2) := rfl
          rw [hrun] at hn1 hn2
          refine drvL Try.func61 ?_
          simp (maxSteps := 9999999) only [go_sem, hx, hlt, renCs_I, renCs_hdr, renCs_b0, renCs_b1, renCs_tr]
          iterate 3 (try (refine drvZ Try.func61 ?_; simp (maxSteps := 9999999) only [go_sem, hx, hlt, renCs_I, renCs_hdr, renCs_b0, renCs_b1, renCs_tr]))
          refine XK.callG [0, 20, 2, 3, 4, 5] (evalI2 p mi hmi (.mk vk vv vks) ti hr (by omega)) ok103 (hhp6 (by simp [hOf, upd, renCs, renC, rk0]) (by simp [hOf, upd, renCs_tr, renCs, renC]) (by simp [hOf, upd, renCs_I]) (by simp [hOf, upd, renCs_hdr, rk0]) (by simp [hOf, upd, renCs_b0]) (by simp [hOf, upd, renCs_b1])) (hbT ()) (fun d h' ⟨_, e⟩ => by subst e; simp [stP']) ?_
          rintro _ _ ⟨rfl, rfl⟩ _
          unfold stP'
          iterate 4 (try (refine drvZ Try.func61 ?_; simp (maxSteps := 9999999) only [go_sem, hx, hlt, renCs_I, renCs_hdr, renCs_b0, renCs_b1, renCs_tr]))
          (repeat' with_reducible apply And.intro) <;> (try first | omega | (simp only [InK]; omega) | (intro k e; cases e; rfl) | (intro hguard; exact ⟨hguard, by simp only [InK]; omega⟩) | kernel_rfl)
          iterate 2 (try (refine drvZ Try.func61 ?_; simp (maxSteps := 9999999) only [go_sem, hx, hlt, renCs_I, renCs_hdr, renCs_b0, renCs_b1, renCs_tr]))
          (repeat' with_reducible apply And.intro) <;> (try first | omega | (simp only [InK]; omega) | (intro k e; cases e; rfl) | (intro hguard; exact ⟨hguard, by simp only [InK]; omega⟩) | kernel_rfl)
          have ag := again (i + 1)
          simp only [hn1, hn2] at ag
          exact ag _ [] _ hlt (by omega) (mqRunI rfl rfl rfl rfl rfl rfl rfl rfl rfl rfl (by decide) (map_setV _ _ _).symm rfl rfl rfl rfl)
        · subst hk
          have hw1 : 20 ≤ wt (d' + 1) * tsize (d' + 1) (.mk 5 t (.mk ik iv iks) (.mk vk vv vks) c b e) := by
            have g1 := tsize_pos (d := d') (.mk 5 t (.mk ik iv iks) (.mk vk vv vks) c b e)
            have g2 : 20 ≤ wt (d' + 1) := by unfold wt; have : 0 < 3 ^ (d' + 1) := Nat.pow_pos (by decide); omega
            have g3 := Nat.mul_le_mul g2 g1
            omega
          have hs := right_shape hr
          have he1 := evalE_range hmi 5 (.mk vk vv vks) hs.1
          have he2 := evalE_len (m := mi) 5 (.mk vk vv vks) hs.1
          have htl2 := trC_len (ti ++ (evalE mi 5 (.mk vk vv vks)).2)
          have hll : (ti ++ (evalE mi 5 (.mk vk vv vks)).2).length = ti.length + (evalE mi 5 (.mk vk vv vks)).2.length := List.length_append
          have hrun : runS (d' + 1) mi (.mk 5 t (.mk ik iv iks) (.mk vk vv vks) c b e) = (setV mi t (evalE mi 5 (.mk vk vv vks)).1, (evalE mi 5 (.mk vk vv vks)).2 ++ [⟨4, (evalE mi 5 (.mk vk vv vks)).1⟩]) := rfl
          rw [hrun] at hn1 hn2
          refine drvL Try.func61 ?_
          simp (maxSteps := 9999999) only [go_sem, hx, hlt, renCs_I, renCs_hdr, renCs_b0, renCs_b1, renCs_tr]
          iterate 3 (try (refine drvZ Try.func61 ?_; simp (maxSteps := 9999999) only [go_sem, hx, hlt, renCs_I, renCs_hdr, renCs_b0, renCs_b1, renCs_tr]))
          refine XK.callG [0, 20, 2, 3, 4, 5] (evalI2 p mi hmi (.mk vk vv vks) ti hr (by omega)) ok103 (hhp6 (by simp [hOf, upd, renCs, renC, rk0]) (by simp [hOf, upd, renCs_tr, renCs, renC]) (by simp [hOf, upd, renCs_I]) (by simp [hOf, upd, renCs_hdr, rk0]) (by simp [hOf, upd, renCs_b0]) (by simp [hOf, upd, renCs_b1])) (hbT ()) (fun d h' ⟨_, e⟩ => by subst e; simp [stP']) ?_
          rintro _ _ ⟨rfl, rfl⟩ _
          unfold stP'
          iterate 4 (try (refine drvZ Try.func61 ?_; simp (maxSteps := 9999999) only [go_sem, hx, hlt, renCs_I, renCs_hdr, renCs_b0, renCs_b1, renCs_tr]))
          (repeat' with_reducible apply And.intro) <;> (try first | omega | (simp only [InK]; omega) | (intro k e; cases e; rfl) | (intro hguard; exact ⟨hguard, by simp only [InK]; omega⟩) | kernel_rfl)
          iterate 2 (try (refine drvZ Try.func61 ?_; simp (maxSteps := 9999999) only [go_sem, hx, hlt, renCs_I, renCs_hdr, renCs_b0, renCs_b1, renCs_tr]))
          (repeat' with_reducible apply And.intro) <;> (try first | omega | (simp only [InK]; omega) | (intro k e; cases e; rfl) | (intro hguard; exact ⟨hguard, by simp only [InK]; omega⟩) | kernel_rfl)
          refine XK.callG [0, 4800, 2, 3, 4, 5] (event2 p mi hmi 4 (evalE mi 5 (.mk vk vv vks)).1 (ti ++ (evalE mi 5 (.mk vk vv vks)).2) (by omega)) ok104 (hhp6 (by simp [hOf, upd, renCs, renC, rk0]) (by simp [hOf, upd, renCs_tr, renCs, renC]) (by simp [hOf, upd, renCs_I]) (by simp [hOf, upd, renCs_hdr, rk0]) (by simp [hOf, upd, renCs_b0]) (by simp [hOf, upd, renCs_b1])) (hbT ()) (fun d h' ⟨_, e⟩ => by subst e; simp [stP']) ?_
          rintro _ _ ⟨rfl, rfl⟩ _
          unfold stP'
          iterate 3 (try (refine drvZ Try.func61 ?_; simp (maxSteps := 9999999) only [go_sem, hx, hlt, renCs_I, renCs_hdr, renCs_b0, renCs_b1, renCs_tr]))
          (repeat' with_reducible apply And.intro) <;> (try first | omega | (simp only [InK]; omega) | (intro k e; cases e; rfl) | (intro hguard; exact ⟨hguard, by simp only [InK]; omega⟩) | kernel_rfl)
          iterate 2 (try (refine drvZ Try.func61 ?_; simp (maxSteps := 9999999) only [go_sem, hx, hlt, renCs_I, renCs_hdr, renCs_b0, renCs_b1, renCs_tr]))
          (repeat' with_reducible apply And.intro) <;> (try first | omega | (simp only [InK]; omega) | (intro k e; cases e; rfl) | (intro hguard; exact ⟨hguard, by simp only [InK]; omega⟩) | kernel_rfl)
          have ag := again (i + 1)
          simp only [hn1, hn2] at ag
          exact ag _ [] _ hlt (by omega) (mqRunI rfl rfl rfl rfl rfl rfl rfl rfl rfl rfl (by decide) (map_setV _ _ _).symm rfl rfl (by rw [← List.append_assoc]) (by rw [← List.append_assoc]))
      · subst hk
        have htv : t < mi.arrays.length := by rw [hmi.na]; exact ht1
        have hw1 : 60 ≤ wt (d' + 1) * tsize (d' + 1) (.mk 2 t (.mk ik iv iks) (.mk vk vv vks) c b e) := by
          have g1 := tsize_pos (d := d') (.mk 2 t (.mk ik iv iks) (.mk vk vv vks) c b e)
          have g2 : 60 ≤ wt (d' + 1) := by unfold wt; rw [Nat.pow_succ]; have : 0 < 3 ^ d' := Nat.pow_pos (by decide); omega
          have g3 := Nat.mul_le_mul g2 g1
          omega
        have hs := right_shape hr
        have he1 := evalE_range hmi 5 (.mk vk vv vks) hs.1
        have he2 := evalE_len (m := mi) 5 (.mk vk vv vks) hs.1
        have htl2 := trC_len (ti ++ (evalE mi 5 (.mk vk vv vks)).2)
        have hll : (ti ++ (evalE mi 5 (.mk vk vv vks)).2).length = ti.length + (evalE mi 5 (.mk vk vv vks)).2.length := List.length_append
        have hsi := right_shape hri
        have hi1 := evalE_range hmi 5 (.mk ik iv iks) hsi.1
        have hi2 : (evalE mi 5 (.mk ik iv iks)).2 = [] := by
          simp only [atom, Ex.kind, Bool.or_eq_true, beq_iff_eq] at hai
          rcases hai with h | h
          · subst h; simp [evalE]
          · subst h; simp [evalE]
        refine drvL Try.func61 ?_
        simp (maxSteps := 9999999) only [go_sem, hx, hlt, renCs_I, renCs_hdr, renCs_b0, renCs_b1, renCs_tr]
        iterate 3 (try (refine drvZ Try.func61 ?_; simp (maxSteps := 9999999) only [go_sem, hx, hlt, renCs_I, renCs_hdr, renCs_b0, renCs_b1, renCs_tr]))
        refine XK.callG [0, 20, 2, 3, 4, 5] (evalI2 p mi hmi (.mk vk vv vks) ti hr (by omega)) ok103 (hhp6 (by simp [hOf, upd, renCs, renC, rk0]) (by simp [hOf, upd, renCs_tr, renCs, renC]) (by simp [hOf, upd, renCs_I]) (by simp [hOf, upd, renCs_hdr, rk0]) (by simp [hOf, upd, renCs_b0]) (by simp [hOf, upd, renCs_b1])) (hbT ()) (fun d h' ⟨_, e⟩ => by subst e; simp [stP']) ?_
        rintro _ _ ⟨rfl, rfl⟩ _
        unfold stP'
        iterate 4 (try (refine drvZ Try.func61 ?_; simp (maxSteps := 9999999) only [go_sem, hx, hlt, renCs_I, renCs_hdr, renCs_b0, renCs_b1, renCs_tr]))
        (repeat' with_reducible apply And.intro) <;> (try first | omega | (simp only [InK]; omega) | (intro k e; cases e; rfl) | (intro hguard; exact ⟨hguard, by simp only [InK]; omega⟩) | kernel_rfl)
        iterate 2 (try (refine drvZ Try.func61 ?_; simp (maxSteps := 9999999) only [go_sem, hx, hlt, renCs_I, renCs_hdr, renCs_b0, renCs_b1, renCs_tr]))
        (repeat' with_reducible apply And.intro) <;> (try first | omega | (simp only [InK]; omega) | (intro k e; cases e; rfl) | (intro hguard; exact ⟨hguard, by simp only [InK]; omega⟩) | kernel_rfl)
        refine XK.callG [0, 4800, 2, 3, 4, 5] (evalI2 p mi hmi (.mk ik iv iks) (ti ++ (evalE mi 5 (.mk vk vv vks)).2) hri (by omega)) ok103 (hhp6 (by simp [hOf, upd, renCs, renC, rk0]) (by simp [hOf, upd, renCs_tr, renCs, renC]) (by simp [hOf, upd, renCs_I]) (by simp [hOf, upd, renCs_hdr, rk0]) (by simp [hOf, upd, renCs_b0]) (by simp [hOf, upd, renCs_b1])) (hbT ()) (fun d h' ⟨_, e⟩ => by subst e; simp [stP']) ?_
        rintro _ _ ⟨rfl, rfl⟩ _
        unfold stP'
        rw [hi2, List.append_nil]
        have hv2 : t = 0 ∨ t = 1 := by have := hmi.na2; omega
        rcases hv2 with hv2 | hv2
        · subst hv2
          have hnap : 0 < mi.arrays.length := by omega
          have hh : (hdr 4 5 p.arrays.length)[0]? = some (.msl 4 1 0 4) := by
            rw [← hmi.na]; unfold hdr; match mi.arrays.length, hnap with | n + 1, _ => rfl
          have h4 := (hmi.arr _ (arrAt_mem (m := mi) (v := 0) (by omega) (by omega)).2).1
          have hbl : (blk0 mi.arrays).length = 4 := by
            have e : mi.arrays[0]? = some (arrAt mi 0) := (arrAt_mem (m := mi) (v := 0) (by omega) (by omega)).1
            unfold blk0; rw [e, Option.getD_some, List.length_map, h4]
          have hx1 := Int.emod_nonneg (evalE mi 5 (.mk ik iv iks)).1 (show (4 : Int) ≠ 0 by decide)
          have hx2 := Int.emod_lt_of_pos (evalE mi 5 (.mk ik iv iks)).1 (show (0 : Int) < 4 by decide)
          have hrun : runS (d' + 1) mi (.mk 2 0 (.mk ik iv iks) (.mk vk vv vks) c b e) = (setA mi 0 ((evalE mi 5 (.mk ik iv iks)).1 % 4) (evalE mi 5 (.mk vk vv vks)).1, (evalE mi 5 (.mk vk vv vks)).2 ++ [⟨3, 0 * 4 + (evalE mi 5 (.mk ik iv iks)).1 % 4⟩]) := rfl
          simp only [Int.zero_mul, Int.zero_add] at hrun
          rw [hrun] at hn1 hn2
          iterate 4 (try (refine drvZ Try.func61 ?_; simp (maxSteps := 9999999) only [go_sem, hx, hlt, renCs_I, renCs_hdr, renCs_b0, renCs_b1, renCs_tr, hh, hbl]))
          (repeat' with_reducible apply And.intro) <;> (try first | omega | (simp only [InK]; omega) | (intro k e; cases e; rfl) | (intro hguard; exact ⟨hguard, by simp only [InK]; omega⟩) | kernel_rfl)
          refine XK.plain (address 0 _ (by omega) hi1) ok105 ?_ (hbT ())
          iterate 2 (try (refine drvZ Try.func61 ?_; simp (maxSteps := 9999999) only [go_sem, hx, hlt, renCs_I, renCs_hdr, renCs_b0, renCs_b1, renCs_tr]))
          refine XK.callG [0, 5632, 2, 3, 4, 5] (event2 p mi hmi 3 ((evalE mi 5 (.mk ik iv iks)).1 % 4) (ti ++ (evalE mi 5 (.mk vk vv vks)).2) (by omega)) ok104 (hhp6 (by simp [hOf, upd, renCs, renC, rk0]) (by simp [hOf, upd, renCs_tr, renCs, renC]) (by simp [hOf, upd, renCs_I]) (by simp [hOf, upd, renCs_hdr, rk0]) (by simp [hOf, upd, renCs_b0]) (by simp [hOf, upd, renCs_b1])) (hbT ()) (fun d h' ⟨_, e⟩ => by subst e; simp [stP']) ?_
          rintro _ _ ⟨rfl, rfl⟩ _
          unfold stP'
          iterate 3 (try (refine drvZ Try.func61 ?_; simp (maxSteps := 9999999) only [go_sem, hx, hlt, renCs_I, renCs_hdr, renCs_b0, renCs_b1, renCs_tr, hh, hbl]))
          (repeat' with_reducible apply And.intro) <;> (try first | omega | (simp only [InK]; omega) | (intro k e; cases e; rfl) | (intro hguard; exact ⟨hguard, by simp only [InK]; omega⟩) | kernel_rfl)
          iterate 2 (try (refine drvZ Try.func61 ?_; simp (maxSteps := 9999999) only [go_sem, hx, hlt, renCs_I, renCs_hdr, renCs_b0, renCs_b1, renCs_tr, hh, hbl]))
          (repeat' with_reducible apply And.intro) <;> (try first | omega | (simp only [InK]; omega) | (intro k e; cases e; rfl) | (intro hguard; exact ⟨hguard, by simp only [InK]; omega⟩) | kernel_rfl)
          have ag := again (i + 1)
          simp only [hn1, hn2] at ag
          exact ag _ [] _ hlt (by omega) (mqRunI rfl rfl rfl rfl rfl rfl rfl rfl rfl rfl (by decide) rfl (blk0_set0 _ _ _ hnap).symm (blk1_set0 _ _ _).symm (by rw [← List.append_assoc]) (by rw [← List.append_assoc]))
        · subst hv2
          have hnap : 1 < mi.arrays.length := by omega
          have hh : (hdr 4 5 p.arrays.length)[1]? = some (.msl 5 1 0 4) := by
            rw [← hmi.na]; unfold hdr; match mi.arrays.length, hnap with | n + 2, _ => rfl
          have h4 := (hmi.arr _ (arrAt_mem (m := mi) (v := 1) (by omega) (by omega)).2).1
          have hbl : (blk1 mi.arrays).length = 4 := by
            have e : mi.arrays[1]? = some (arrAt mi 1) := (arrAt_mem (m := mi) (v := 1) (by omega) (by omega)).1
            unfold blk1; rw [e, Option.getD_some, List.length_map, h4]
          have hx1 := Int.emod_nonneg (evalE mi 5 (.mk ik iv iks)).1 (show (4 : Int) ≠ 0 by decide)
          have hx2 := Int.emod_lt_of_pos (evalE mi 5 (.mk ik iv iks)).1 (show (0 : Int) < 4 by decide)
          have hrun : runS (d' + 1) mi (.mk 2 1 (.mk ik iv iks) (.mk vk vv vks) c b e) = (setA mi 1 ((evalE mi 5 (.mk ik iv iks)).1 % 4) (evalE mi 5 (.mk vk vv vks)).1, (evalE mi 5 (.mk vk vv vks)).2 ++ [⟨3, 1 * 4 + (evalE mi 5 (.mk ik iv iks)).1 % 4⟩]) := rfl
          rw [hrun] at hn1 hn2
          iterate 4 (try (refine drvZ Try.func61 ?_; simp (maxSteps := 9999999) only [go_sem, hx, hlt, renCs_I, renCs_hdr, renCs_b0, renCs_b1, renCs_tr, hh, hbl]))
          (repeat' with_reducible apply And.intro) <;> (try first | omega | (simp only [InK]; omega) | (intro k e; cases e; rfl) | (intro hguard; exact ⟨hguard, by simp only [InK]; omega⟩) | kernel_rfl)
          refine XK.plain (address 1 _ (by omega) hi1) ok105 ?_ (hbT ())
          iterate 2 (try (refine drvZ Try.func61 ?_; simp (maxSteps := 9999999) only [go_sem, hx, hlt, renCs_I, renCs_hdr, renCs_b0, renCs_b1, renCs_tr]))
          refine XK.callG [0, 5632, 2, 3, 4, 5] (event2 p mi hmi 3 (1 * 4 + (evalE mi 5 (.mk ik iv iks)).1 % 4) (ti ++ (evalE mi 5 (.mk vk vv vks)).2) (by omega)) ok104 (hhp6 (by simp [hOf, upd, renCs, renC, rk0]) (by simp [hOf, upd, renCs_tr, renCs, renC]) (by simp [hOf, upd, renCs_I]) (by simp [hOf, upd, renCs_hdr, rk0]) (by simp [hOf, upd, renCs_b0]) (by simp [hOf, upd, renCs_b1])) (hbT ()) (fun d h' ⟨_, e⟩ => by subst e; simp [stP']) ?_
          rintro _ _ ⟨rfl, rfl⟩ _
          unfold stP'
          iterate 3 (try (refine drvZ Try.func61 ?_; simp (maxSteps := 9999999) only [go_sem, hx, hlt, renCs_I, renCs_hdr, renCs_b0, renCs_b1, renCs_tr, hh, hbl]))
          (repeat' with_reducible apply And.intro) <;> (try first | omega | (simp only [InK]; omega) | (intro k e; cases e; rfl) | (intro hguard; exact ⟨hguard, by simp only [InK]; omega⟩) | kernel_rfl)
          iterate 2 (try (refine drvZ Try.func61 ?_; simp (maxSteps := 9999999) only [go_sem, hx, hlt, renCs_I, renCs_hdr, renCs_b0, renCs_b1, renCs_tr, hh, hbl]))
          (repeat' with_reducible apply And.intro) <;> (try first | omega | (simp only [InK]; omega) | (intro k e; cases e; rfl) | (intro hguard; exact ⟨hguard, by simp only [InK]; omega⟩) | kernel_rfl)
          have ag := again (i + 1)
          simp only [hn1, hn2] at ag
          exact ag _ [] _ hlt (by omega) (mqRunI rfl rfl rfl rfl rfl rfl rfl rfl rfl rfl (by decide) rfl (blk0_set1 _ _ _).symm (blk1_set1 _ _ _ hnap).symm (by rw [← List.append_assoc]) (by rw [← List.append_assoc]))
      · subst hk
        have hw1 : 20 ≤ wt (d' + 1) * tsize (d' + 1) (.mk 3 t (.mk ik iv iks) (.mk vk vv vks) c b e) := by
          have g1 := tsize_pos (d := d') (.mk 3 t (.mk ik iv iks) (.mk vk vv vks) c b e)
          have g2 : 20 ≤ wt (d' + 1) := by unfold wt; have : 0 < 3 ^ (d' + 1) := Nat.pow_pos (by decide); omega
          have g3 := Nat.mul_le_mul g2 g1
          omega
        have hs := right_shape hr
        have he1 := evalE_range hmi 5 (.mk vk vv vks) hs.1
        have he2 := evalE_len (m := mi) 5 (.mk vk vv vks) hs.1
        have htl2 := trC_len (ti ++ (evalE mi 5 (.mk vk vv vks)).2)
        have hll : (ti ++ (evalE mi 5 (.mk vk vv vks)).2).length = ti.length + (evalE mi 5 (.mk vk vv vks)).2.length := List.length_append
        have hw3 : wt (d' + 1) = 3 * wt d' := by unfold wt; rw [Nat.pow_succ]; omega
        have hw4 : 20 ≤ wt d' := by unfold wt; have : 0 < 3 ^ d' := Nat.pow_pos (by decide); omega
        have hbig : wt (d' + 1) * tsize (d' + 1) (.mk 3 t (.mk ik iv iks) (.mk vk vv vks) c b e) = 3 * wt d' + 3 * (wt d' * lsize d' b) + 3 * (wt d' * lsize d' e) := by
          rw [show tsize (d' + 1) (.mk 3 t (.mk ik iv iks) (.mk vk vv vks) c b e) = 1 + lsize d' b + lsize d' e from rfl, hw3, Nat.mul_add, Nat.mul_add, Nat.mul_assoc, Nat.mul_assoc, Nat.mul_assoc]; omega
        refine drvL Try.func61 ?_
        simp (maxSteps := 9999999) only [go_sem, hx, hlt, renCs_I, renCs_hdr, renCs_b0, renCs_b1, renCs_tr]
        iterate 3 (try (refine drvZ Try.func61 ?_; simp (maxSteps := 9999999) only [go_sem, hx, hlt, renCs_I, renCs_hdr, renCs_b0, renCs_b1, renCs_tr]))
        refine XK.callG [0, 20, 2, 3, 4, 5] (evalI2 p mi hmi (.mk vk vv vks) ti hr (by omega)) ok103 (hhp6 (by simp [hOf, upd, renCs, renC, rk0]) (by simp [hOf, upd, renCs_tr, renCs, renC]) (by simp [hOf, upd, renCs_I]) (by simp [hOf, upd, renCs_hdr, rk0]) (by simp [hOf, upd, renCs_b0]) (by simp [hOf, upd, renCs_b1])) (hbT ()) (fun d h' ⟨_, e⟩ => by subst e; simp [stP']) ?_
        rintro _ _ ⟨rfl, rfl⟩ _
        unfold stP'
        iterate 4 (try (refine drvZ Try.func61 ?_; simp (maxSteps := 9999999) only [go_sem, hx, hlt, renCs_I, renCs_hdr, renCs_b0, renCs_b1, renCs_tr]))
        (repeat' with_reducible apply And.intro) <;> (try first | omega | (simp only [InK]; omega) | (intro k e; cases e; rfl) | (intro hguard; exact ⟨hguard, by simp only [InK]; omega⟩) | kernel_rfl)
        iterate 2 (try (refine drvZ Try.func61 ?_; simp (maxSteps := 9999999) only [go_sem, hx, hlt, renCs_I, renCs_hdr, renCs_b0, renCs_b1, renCs_tr]))
        (repeat' with_reducible apply And.intro) <;> (try first | omega | (simp only [InK]; omega) | (intro k e; cases e; rfl) | (intro hguard; exact ⟨hguard, by simp only [InK]; omega⟩) | kernel_rfl)
        by_cases h0 : (evalE mi 5 (.mk vk vv vks)).1 = 0
        · have hb0 : ((evalE mi 5 (.mk vk vv vks)).1 != 0) = false := by simp [h0]
          have hrun : runS (d' + 1) mi (.mk 3 t (.mk ik iv iks) (.mk vk vv vks) c b e) = ((runL d' mi e).1, (evalE mi 5 (.mk vk vv vks)).2 ++ [⟨1, 0⟩] ++ (runL d' mi e).2) := by
            simp only [runS, show ¬ ((3 : Int) = 4) by decide, show ¬ ((3 : Int) = 1) by decide, show ¬ ((3 : Int) = 5) by decide, show ¬ ((3 : Int) = 2) by decide, if_false]
            rw [if_neg (fun h => h h0)]; rfl
          rw [hrun] at hn1 hn2
          have hlen5 : (ti ++ (evalE mi 5 (.mk vk vv vks)).2 ++ [(⟨1, 0⟩ : Ev)]).length = (ti ++ (evalE mi 5 (.mk vk vv vks)).2).length + 1 := by simp; omega
          have hLb : (ti ++ (evalE mi 5 (.mk vk vv vks)).2 ++ [(⟨1, 0⟩ : Ev)]).length + wt d' * lsize d' e ≤ 1073741824 := by
            rw [hlen5]; omega
          refine XK.plain (truth _) ok71 ?_ (hbT ())
          iterate 2 (try (refine drvZ Try.func61 ?_; simp (maxSteps := 9999999) only [go_sem, hx, hlt, renCs_I, renCs_hdr, renCs_b0, renCs_b1, renCs_tr, hb0]))
          refine XK.callG [0, 4800, 2, 3, 4, 5] (event2 p mi hmi 1 0 (ti ++ (evalE mi 5 (.mk vk vv vks)).2) (by omega)) ok104 (hhp6 (by simp [hOf, upd, renCs, renC, rk0]) (by simp [hOf, upd, renCs_tr, renCs, renC]) (by simp [hOf, upd, renCs_I]) (by simp [hOf, upd, renCs_hdr, rk0]) (by simp [hOf, upd, renCs_b0]) (by simp [hOf, upd, renCs_b1])) (hbT ()) (fun d h' ⟨_, e⟩ => by subst e; simp [stP']) ?_
          rintro _ _ ⟨rfl, rfl⟩ _
          unfold stP'
          iterate 4 (try (refine drvZ Try.func61 ?_; simp (maxSteps := 9999999) only [go_sem, hx, hlt, renCs_I, renCs_hdr, renCs_b0, renCs_b1, renCs_tr, h0]))

          refine XK.callG [0, 5824, 2, 3, 4, 5] (ih mi e (ti ++ (evalE mi 5 (.mk vk vv vks)).2 ++ [⟨1, 0⟩]) hmi he hLb) ok61 (hhp6 (by simp [hOf, upd, renCs, renC, rk0]) (by simp [hOf, upd, renCs_tr, renCs, renC]) (by simp [hOf, upd, renCs_I]) (by simp [hOf, upd, renCs_hdr, rk0]) (by simp [hOf, upd, renCs_b0]) (by simp [hOf, upd, renCs_b1])) (hbT ()) (fun d h' ⟨_, e⟩ => by subst e; simp [stP']) ?_
          rintro _ _ ⟨rfl, rfl⟩ _
          unfold stP'
          iterate 4 (try (refine drvZ Try.func61 ?_; simp (maxSteps := 9999999) only [go_sem, hx, hlt, renCs_I, renCs_hdr, renCs_b0, renCs_b1, renCs_tr]))
          (repeat' with_reducible apply And.intro) <;> (try first | omega | (simp only [InK]; omega) | (intro k e; cases e; rfl) | (intro hguard; exact ⟨hguard, by simp only [InK]; omega⟩) | kernel_rfl)
          have ag := again (i + 1)
          simp only [hn1, hn2] at ag
          exact ag _ [] _ hlt (by omega) (mqRunI rfl rfl rfl rfl rfl rfl rfl rfl rfl rfl (by decide) rfl rfl rfl (by simp only [List.append_assoc]) (by simp only [List.append_assoc]))
        · have hb0 : ((evalE mi 5 (.mk vk vv vks)).1 != 0) = true := by simp [h0]
          have hrun : runS (d' + 1) mi (.mk 3 t (.mk ik iv iks) (.mk vk vv vks) c b e) = ((runL d' mi b).1, (evalE mi 5 (.mk vk vv vks)).2 ++ [⟨1, 1⟩] ++ (runL d' mi b).2) := by
            simp only [runS, show ¬ ((3 : Int) = 4) by decide, show ¬ ((3 : Int) = 1) by decide, show ¬ ((3 : Int) = 5) by decide, show ¬ ((3 : Int) = 2) by decide, if_false]
            rw [if_pos h0]; rfl
          rw [hrun] at hn1 hn2
          have hlen5 : (ti ++ (evalE mi 5 (.mk vk vv vks)).2 ++ [(⟨1, 1⟩ : Ev)]).length = (ti ++ (evalE mi 5 (.mk vk vv vks)).2).length + 1 := by simp; omega
          have hLb : (ti ++ (evalE mi 5 (.mk vk vv vks)).2 ++ [(⟨1, 1⟩ : Ev)]).length + wt d' * lsize d' b ≤ 1073741824 := by
            rw [hlen5]; omega
          refine XK.plain (truth _) ok71 ?_ (hbT ())
          iterate 2 (try (refine drvZ Try.func61 ?_; simp (maxSteps := 9999999) only [go_sem, hx, hlt, renCs_I, renCs_hdr, renCs_b0, renCs_b1, renCs_tr, hb0]))
          refine XK.callG [0, 4800, 2, 3, 4, 5] (event2 p mi hmi 1 1 (ti ++ (evalE mi 5 (.mk vk vv vks)).2) (by omega)) ok104 (hhp6 (by simp [hOf, upd, renCs, renC, rk0]) (by simp [hOf, upd, renCs_tr, renCs, renC]) (by simp [hOf, upd, renCs_I]) (by simp [hOf, upd, renCs_hdr, rk0]) (by simp [hOf, upd, renCs_b0]) (by simp [hOf, upd, renCs_b1])) (hbT ()) (fun d h' ⟨_, e⟩ => by subst e; simp [stP']) ?_
          rintro _ _ ⟨rfl, rfl⟩ _
          unfold stP'
          iterate 4 (try (refine drvZ Try.func61 ?_; simp (maxSteps := 9999999) only [go_sem, hx, hlt, renCs_I, renCs_hdr, renCs_b0, renCs_b1, renCs_tr, h0]))

          refine XK.callG [0, 5824, 2, 3, 4, 5] (ih mi b (ti ++ (evalE mi 5 (.mk vk vv vks)).2 ++ [⟨1, 1⟩]) hmi hb hLb) ok61 (hhp6 (by simp [hOf, upd, renCs, renC, rk0]) (by simp [hOf, upd, renCs_tr, renCs, renC]) (by simp [hOf, upd, renCs_I]) (by simp [hOf, upd, renCs_hdr, rk0]) (by simp [hOf, upd, renCs_b0]) (by simp [hOf, upd, renCs_b1])) (hbT ()) (fun d h' ⟨_, e⟩ => by subst e; simp [stP']) ?_
          rintro _ _ ⟨rfl, rfl⟩ _
          unfold stP'
          iterate 4 (try (refine drvZ Try.func61 ?_; simp (maxSteps := 9999999) only [go_sem, hx, hlt, renCs_I, renCs_hdr, renCs_b0, renCs_b1, renCs_tr]))
          (repeat' with_reducible apply And.intro) <;> (try first | omega | (simp only [InK]; omega) | (intro k e; cases e; rfl) | (intro hguard; exact ⟨hguard, by simp only [InK]; omega⟩) | kernel_rfl)
          have ag := again (i + 1)
          simp only [hn1, hn2] at ag
          exact ag _ [] _ hlt (by omega) (mqRunI rfl rfl rfl rfl rfl rfl rfl rfl rfl rfl (by decide) rfl rfl rfl (by simp only [List.append_assoc]) (by simp only [List.append_assoc]))
      · subst hk
        have hw : wt (d' + 1) = 3 * wt d' := by unfold wt; rw [Nat.pow_succ]; omega
        have hts : tsize (d' + 1) (.mk 4 t (.mk ik iv iks) (.mk vk vv vks) c b e) = 1 + lsize d' b + lsize d' e := rfl
        have hbig : 3 * (wt d' * lsize d' b) ≤ wt (d' + 1) * tsize (d' + 1) (.mk 4 t (.mk ik iv iks) (.mk vk vv vks) c b e) := by
          rw [hts, hw, Nat.mul_add, Nat.mul_add, Nat.mul_assoc, Nat.mul_assoc, Nat.mul_assoc]; omega
        have hit := fun n => iterR_ok (p := p) (f := fun m => foldR (runS d') m b) (w := wt d' * lsize d' b) (fun m hm => runL_ok hm hb) n mi hmi
        have hrun : runS (d' + 1) mi (.mk 4 t (.mk ik iv iks) (.mk vk vv vks) c b e) = iterR (fun m => foldR (runS d') m b) c.toNat mi := by simp only [runS, if_true]
        rw [hrun] at hn1 hn2
        refine drvL Try.func61 ?_
        simp (maxSteps := 9999999) only [go_sem, hx, hlt, renCs_I, renCs_hdr, renCs_b0, renCs_b1, renCs_tr]
        iterate 4 (try (refine drvZ Try.func61 ?_; simp (maxSteps := 9999999) only [go_sem, hx, hlt, renCs_I, renCs_hdr, renCs_b0, renCs_b1, renCs_tr]))
        refine Go.loopQ (fun n : Nat => [(0, .c (.ptr 0 0)), (8, .c (.isl 11 (St1.cellsL l))), (9, DI .i64 l.length), (10, DI .i64 i), (5, .c (.ptr 22 0)), (18, DI .i64 c), (19, DI .i64 n)])
          (fun n => [(0, some [.msl 2 1 0 p.vars.length, .msl 3 1 0 p.arrays.length, .msl 20 2 0 (ti ++ (iterR (fun m => foldR (runS d') m b) n mi).2).length]), (1, none), (2, some ((iterR (fun m => foldR (runS d') m b) n mi).1.vals.map I64)), (3, some (hdr 4 5 p.arrays.length)), (4, some (blk0 (iterR (fun m => foldR (runS d') m b) n mi).1.arrays)), (5, some (blk1 (iterR (fun m => foldR (runS d') m b) n mi).1.arrays)), (20, some (trC (ti ++ (iterR (fun m => foldR (runS d') m b) n mi).2))), (22, some (St1.cells (.mk 4 t (.mk ik iv iks) (.mk vk vv vks) c b e)))])
          8192 (fun n => n ≤ c.toNat) (fun n => c.toNat - n) ?_ 0 _ [] _ (Nat.zero_le _) (mqRepI (cells_kf _ _ _ _ _ _ _ _ _ _ _) rfl rfl rfl rfl rfl rfl rfl rfl rfl rfl rfl rfl rfl rfl (by decide) rfl rfl rfl (by simp [iterR]) (by simp [iterR]))
        intro n hn again2
        refine drvL Try.func61 ?_
        rcases Nat.lt_or_ge n c.toNat with hlt2 | hge2
        · have hnc : (n : Int) < c := by omega
          simp (maxSteps := 9999999) only [go_sem, hx, hlt, renCs_I, renCs_hdr, renCs_b0, renCs_b1, renCs_tr, hnc]
          iterate 3 (try (refine drvZ Try.func61 ?_; simp (maxSteps := 9999999) only [go_sem, hx, hlt, renCs_I, renCs_hdr, renCs_b0, renCs_b1, renCs_tr, hnc]))
          have hX : (ti ++ (iterR (fun m => foldR (runS d') m b) n mi).2).length + wt d' * lsize d' b ≤ 1073741824 := by
            have g1 := (hit n).2
            have hc3' : n + 1 ≤ 3 := by omega
            have g2 := Nat.mul_le_mul_right (wt d' * lsize d' b) hc3'
            rw [Nat.add_mul] at g2
            rw [List.length_append]
            omega
          refine XK.callG [0, 20, 2, 3, 4, 5] (ih (iterR (fun m => foldR (runS d') m b) n mi).1 b (ti ++ (iterR (fun m => foldR (runS d') m b) n mi).2) (hit n).1 hb hX) ok61 (hhp6 (by simp [hOf, upd, renCs, renC, rk0]) (by simp [hOf, upd, renCs_tr, renCs, renC]) (by simp [hOf, upd, renCs_I]) (by simp [hOf, upd, renCs_hdr, rk0]) (by simp [hOf, upd, renCs_b0]) (by simp [hOf, upd, renCs_b1])) (hbT ()) (fun d h' ⟨_, e⟩ => by subst e; simp [stP']) ?_
          rintro _ _ ⟨rfl, rfl⟩ _
          unfold stP'
          iterate 3 (try (refine drvZ Try.func61 ?_; simp (maxSteps := 9999999) only [go_sem, hx, hlt, renCs_I, renCs_hdr, renCs_b0, renCs_b1, renCs_tr]))
          (repeat' with_reducible apply And.intro) <;> (try first | omega | (simp only [InK]; omega) | (intro k e; cases e; rfl) | (intro hguard; exact ⟨hguard, by simp only [InK]; omega⟩) | kernel_rfl)
          exact again2 (n + 1) _ [] _ hlt2 (by omega) (mqRepI (cells_kf _ _ _ _ _ _ _ _ _ _ _) rfl rfl rfl rfl rfl rfl rfl rfl rfl rfl rfl rfl rfl rfl (by decide) rfl rfl rfl (by simp only [iterR, runL, List.append_assoc]) (by simp only [iterR, runL, List.append_assoc]))
        · have hnc : ¬ (n : Int) < c := by omega
          simp (maxSteps := 9999999) only [go_sem, hx, hlt, renCs_I, renCs_hdr, renCs_b0, renCs_b1, renCs_tr, hnc]
          iterate 3 (try (refine drvZ Try.func61 ?_; simp (maxSteps := 9999999) only [go_sem, hx, hlt, renCs_I, renCs_hdr, renCs_b0, renCs_b1, renCs_tr, hnc]))
          (repeat' with_reducible apply And.intro) <;> (try first | omega | (simp only [InK]; omega) | (intro k e; cases e; rfl) | (intro hguard; exact ⟨hguard, by simp only [InK]; omega⟩) | kernel_rfl)
          obtain rfl : n = c.toNat := by omega
          have ag := again (i + 1)
          simp only [hn1, hn2] at ag
          exact ag _ [] _ hlt (by omega) (mqRunI rfl rfl rfl rfl rfl rfl rfl rfl rfl rfl (by decide) rfl rfl rfl rfl rfl)
    · have hn : ¬ i < l.length := by omega
      obtain rfl : i = l.length := by omega
      refine drvL Try.func61 ?_
      simp (maxSteps := 9999999) only [go_sem, hn, List.take_length]
      iterate 2 (try (refine drvZ Try.func61 ?_; simp (maxSteps := 9999999) only [go_sem, hn, List.take_length]))
      exact ret _ _ _ _ _ rfl rfl rfl rfl rfl rfl rfl (by omega) rfl rfl
  · simp (maxSteps := 9999999) only [go_sem, TmOK, DM, DMs, CM, CMs, forall_eq, exists_eq_left, Mq, HpOK, LowOK, CMs_I, CMs_hdr, CMs_b0, CMs_b1, CMs_tr]
    simp [runL, foldR, CMs_tr, CMs_I, CMs_b0, CMs_b1]
end Go.Proofs.Ytclgjiffpijgmaa.CtR

namespace Go.Proofs.Ytclgjiffpijgmaa.CtR
open Go Go.CT CtF

theorem runImpl (p : Pg) : ∀ (d : Nat) (m : Mm) (l : List St1) (tr : List Ev), MemFits p m → (∀ s ∈ l, stmtOK p d s = true) → tr.length + wt d * lsize d l ≤ 1073741824 → DC Try.prog 61 [.c (.ptr 0 0), .c (.isl 11 (St1.cellsL l))]
      [some [.msl 2 1 0 p.vars.length, .msl 3 1 0 p.arrays.length, .msl 1 2 0 tr.length], some (trC tr), some (m.vals.map I64), some (hdr 4 5 p.arrays.length), some (blk0 m.arrays), some (blk1 m.arrays)] (fun r h => r = .tup [] ∧ h = stP' p (runL d m l).1 (tr ++ (runL d m l).2))
  | 0, m, l, tr, hm, hok, h => runIOf p 0 (fun d' e => by omega) m l tr hm hok h
  | d + 1, m, l, tr, hm, hok, h => runIOf p (d + 1) (fun d' e => by
      obtain rfl : d = d' := by omega
      exact runImpl p d) m l tr hm hok h

theorem memFits_of {p : Pg} {m : Mm} (h : (progOK p && memOK p.vars p.arrays m) = true) : MemFits p m := by
  simp only [progOK, memOK, headsOK, vals01, arrOK, Bool.and_eq_true, decide_eq_true_eq, List.all_eq_true] at h
  obtain ⟨⟨⟨⟨⟨⟨⟨h1, h2⟩, h3⟩, _⟩, _⟩, _⟩, _⟩, ⟨⟨g1, g2⟩, g3⟩, g4⟩ := h
  exact ⟨by omega, by omega, by omega, by omega, g3, fun a ha => ⟨by have := (g4 a ha).1; omega, (g4 a ha).2⟩⟩
theorem body_of {p : Pg} (h : progOK p = true) : (∀ s ∈ p.body, stmtOK p 5 s = true) ∧ lsize 5 p.body ≤ 60 := by
  simp only [progOK, Bool.and_eq_true, decide_eq_true_eq, List.all_eq_true] at h
  exact ⟨h.1.2, by omega⟩
theorem wt5 : wt 5 = 4860 := by decide

/-- What a run of a program answers. -/
def runP (p : Pg) (m : Mm) : Mm × List Ev × Bool := if progOK p && memOK p.vars p.arrays m then ((runL 5 m p.body).1, (runL 5 m p.body).2, true) else (⟨[], []⟩, [], false)
def trD (tr : List Ev) : C := .isl 2 (tr.map Ev.cells)

/-- A result that is taken for another one, its blocks too. -/
theorem RetOb.step {m : Nat} {R : D → List (Option (List C)) → Prop} {d : D} {hp : Hp} (r : Nat → Option Nat) (fz : List Nat) (d' : D) (hl : List (Nat × Option (List C)))
    (hM : DM (hOf hl) r hp fz d' d ∧ HpOK (hOf hl) r hp fz hl ∧ LowOK r (hOf hl) m ∧ ((hl.filterMap fun p => p.2.map fun _ => p.1).filterMap r).Nodup) (hn : RetOb m R d' (hOf hl)) : RetOb m R d hp := fun I w s v H hv => by
  have h : Mq m r fz [] hl ⟨fun _ => none, hp, 0⟩ := ⟨trivial, hM.2.1, hM.2.2.1, hM.2.2.2⟩
  obtain ⟨H', E'⟩ := h.subH.sim H
  obtain ⟨I', s', d2, h2, g1, g2, g3, g4, g5⟩ := hn _ w _ v H' (DM.rd H d' d hM.1 hv)
  exact ⟨I', s', d2, h2, g1, g2, g3, E'.trans g4, g5⟩

/-- A run's memory and trace, handed back as plain data. -/
theorem RetOb.run {R : D → List (Option (List C)) → Prop} {p : Pg} {m : Mm} {tr : List Ev} {ok : Bool} {hp : Hp} {k0 k1 k2 k3 kt n : Nat} {cs : List C} (hm : MemFits p m) (hR : R (.tup [.agg m.cells, .c (trD tr), DB ok]) [])
    (h0 : hp k0 = some (some (m.vals.map I64))) (h1 : hp k1 = some (some (hdr k2 k3 p.arrays.length))) (h2 : hp k2 = some (some (blk0 m.arrays))) (h3 : hp k3 = some (some (blk1 m.arrays))) (ht : hp kt = some (some cs)) (hcs : cs = trC tr) (hn : n = tr.length)
    (hne : k0 ≠ k1 ∧ k0 ≠ k2 ∧ k0 ≠ k3 ∧ k1 ≠ k2 ∧ k1 ≠ k3 ∧ k2 ≠ k3 ∧ kt ≠ k0 ∧ kt ≠ k1 ∧ kt ≠ k2 ∧ kt ≠ k3) : RetOb 0 R (.tup [.agg [.msl k0 1 0 p.vars.length, .msl k1 1 0 p.arrays.length], .c (.msl kt 2 0 n), DB ok]) hp := by
  subst hcs hn
  obtain ⟨va, arr⟩ := m
  have hnv : va.length = p.vars.length := hm.nv
  have hna : arr.length = p.arrays.length := hm.na
  have hna2 := hm.na2
  have h4 : ∀ a ∈ arr, a.length = 4 := fun a ha => (hm.arr a ha).1
  obtain ⟨n01, n02, n03, n12, n13, n23, nt0, nt1, nt2, nt3⟩ := hne
  rw [← hnv, ← hna]
  rw [← hna] at h1 hna2
  refine RetOb.step (fun j => if j = 0 then some k0 else if j = 1 then some k1 else if j = 2 then some kt else none) [k2, k3] (.tup [.agg [.msl 0 1 0 va.length, .msl 1 1 0 arr.length], .c (.msl 2 2 0 tr.length), DB ok]) [(0, some (va.map I64)), (1, some (arr.map isI)), (2, some (trC tr))] ?_ ?_
  · have e3 : ∀ a : List Int, (a.map fun n => [C.v (.int .i64 n)]).flatten = a.map I64 := fun a => flat1 _ a
    match arr, hna2, h4, h1, h2, h3 with
    | [], _, h4, h1, h2, h3 => simp [DM, DMs, CM, CMs, HpOK, LowOK, hOf, upd, h0, ht, CMs_I, CMs_tr, h1, hdr, n01, n02, n03, n12, n13, n23, nt0, nt1, nt2, nt3, Ne.symm n01, Ne.symm nt0, Ne.symm nt1, Ne.symm n23]
    | [a], _, h4, h1, h2, h3 =>
      have ha := h4 a (by simp)
      simp [DM, DMs, CM, CMs, HpOK, LowOK, hOf, upd, h0, ht, CMs_I, CMs_tr, h1, h2, hdr, n01, n02, n03, n12, n13, n23, nt0, nt1, nt2, nt3, Ne.symm n01, Ne.symm nt0, Ne.symm nt1, Ne.symm n23, e3, isI, ha, blk0, kf]
    | [a, b], _, h4, h1, h2, h3 =>
      have ha := h4 a (by simp)
      have hb := h4 b (by simp)
      simp [DM, DMs, CM, CMs, HpOK, LowOK, hOf, upd, h0, ht, CMs_I, CMs_tr, h1, h2, h3, hdr, n01, n02, n03, n12, n13, n23, nt0, nt1, nt2, nt3, Ne.symm n01, Ne.symm nt0, Ne.symm nt1, Ne.symm n23, e3, isI, ha, hb, blk0, blk1, kf]
  · refine RetOb.ofQ (fun _ => none) [0, 1, 2] _ [] ⟨?_, trivial, trivial, by simp [enumL]⟩ hR (Nat.zero_le _)
    have e4 : ∀ l : List (List Int), (l.map fun a => [C.isl 1 (a.map fun n => [I64 n])]).flatten = l.map isI := fun l => flat1 _ l
    have e5 : (tr.map Ev.cells).flatten = trC tr := rfl
    simp [DM, DMs, CM, CMs, hOf, upd, Mm.cells, isI, trD, flat_I, kf, e5]
    exact ⟨(flat1 isI arr).symm, fun a _ => rfl, fun a _ c hc => by
      simp only [Ev.cells, List.mem_cons, List.not_mem_nil, or_false] at hc
      rcases hc with rfl | rfl <;> rfl⟩

theorem runP_false {p : Pg} {m : Mm} (h : (progOK p && memOK p.vars p.arrays m) = false) : runP p m = (⟨[], []⟩, [], false) := by unfold runP; rw [h]; rfl
theorem runP_true {p : Pg} {m : Mm} (h : (progOK p && memOK p.vars p.arrays m) = true) : runP p m = ((runL 5 m p.body).1, (runL 5 m p.body).2, true) := by unfold runP; rw [h]; rfl
/-- A run that does not take place. -/
theorem RetOb.noRun {R : D → List (Option (List C)) → Prop} {hp : Hp} {c : C} (hR : R (.tup [.agg (Mm.cells ⟨[], []⟩), .c (trD []), DB false]) []) (hc : c = .v (.slice none 0 0) ∨ ∃ k, c = .msl k 2 0 0 ∧ hp k = some (some [])) : RetOb 0 R (.tup [.agg [.v (.slice none 0 0), .v (.slice none 0 0)], .c c, DB false]) hp := by
  rcases hc with rfl | ⟨k, rfl, hk⟩
  · refine RetOb.ofQ (fun _ => none) [] _ [] ⟨?_, trivial, trivial, by simp [enumL]⟩ hR (Nat.zero_le _)
    simp [DM, DMs, CM, CMs, Mm.cells, isI, trD]
  · refine RetOb.ofQ (fun _ => none) [k] _ [] ⟨?_, trivial, trivial, by simp [enumL]⟩ hR (Nat.zero_le _)
    simp [DM, DMs, CM, CMs, Mm.cells, isI, trD, hk]

theorem runProgI (p : Pg) (m : Mm) (hl : p.vars.length ≤ mx) (hl2 : p.arrays.length ≤ mx) : DC Try.prog 22 [.agg p.cells, .agg m.cells] [] (fun r h => r = .tup [.agg (runP p m).1.cells, .c (trD (runP p m).2.1), DB (runP p m).2.2] ∧ h = []) := by
  have hv := memoryValidI p m hl hl2
  generalize hR : (fun (r : D) (h : List (Option (List C))) => r = .tup [.agg (runP p m).1.cells, .c (trD (runP p m).2.1), DB (runP p m).2.2] ∧ h = []) = R
  have hmf := @memFits_of p m
  have hbo := @body_of p
  cases hq : (progOK p && memOK p.vars p.arrays m) with
  | false =>
    rw [hq] at hv
    have hr := runP_false hq
    obtain ⟨vs, ar, bd⟩ := p
    obtain ⟨va, arr⟩ := m
    refine dcZ Try.func22 ?_
    simp (maxSteps := 9999999) only [go_sem, Mm.cells]
    iterate 2 (try (refine drvZ Try.func22 ?_; simp (maxSteps := 9999999) only [go_sem, Mm.cells]))
    refine XK.plain hv ok31 ?_ (hbT ())
    iterate 3 (try (refine drvZ Try.func22 ?_; simp (maxSteps := 9999999) only [go_sem]))
    refine RetOb.noRun ?_ (.inl rfl)
    subst hR
    rw [hr]
    exact ⟨rfl, rfl⟩
  | true =>
    rw [hq] at hv
    have hr := runP_true hq
    have hm := hmf hq
    have hpo : progOK p = true := by simp only [Bool.and_eq_true] at hq; exact hq.1
    have hbd := hbo hpo
    have hcp := own m (by have := hm.nv; have := hm.nv12; omega) (by have := hm.na; have := hm.na2; omega) (fun a ha => (hm.arr a ha).1)
    unfold memB at hcp
    rw [hm.nv, hm.na] at hcp
    have hrn := runImpl p 5 m p.body [] hm hbd.1 (by rw [wt5]; simp only [List.length_nil]; omega)
    have hfin := (runL_ok hm hbd.1).1
    obtain ⟨vs, ar, bd⟩ := p
    obtain ⟨va, arr⟩ := m
    refine dcZ Try.func22 ?_
    simp (maxSteps := 9999999) only [go_sem, Mm.cells]
    iterate 2 (try (refine drvZ Try.func22 ?_; simp (maxSteps := 9999999) only [go_sem, Mm.cells]))
    refine XK.plain hv ok31 ?_ (hbT ())
    iterate 3 (try (refine drvZ Try.func22 ?_; simp (maxSteps := 9999999) only [go_sem]))
    refine XK.callG [] hcp ok60 (fun i' x h => by simp at h) (hbT ()) (fun d h' ⟨_, e⟩ => by subst e; simp) ?_
    rintro _ _ ⟨rfl, rfl⟩ _
    iterate 3 (try (refine drvZ Try.func22 ?_; simp (maxSteps := 9999999) only [go_sem, renCs_I, renCs_hdr, renCs_b0, renCs_b1, renCs_tr]))
    refine XK.subQ (r := fun j => if j = 0 then some 768 else if j = 1 then none else if j = 2 then some 640 else if j = 3 then some 641 else if j = 4 then some 642 else if j = 5 then some 643 else some 128) (fz := [])
      (tl := [(4, .c (.ptr 6 0)), (7, .c (.ptr 0 0)), (17, .c (.ptr 0 0)), (19, .c (.isl 11 (St1.cellsL bd)))])
      (hl := [(0, some [.msl 2 1 0 vs.length, .msl 3 1 0 ar.length, .msl 1 2 0 0]), (1, some []), (2, some (va.map I64)), (3, some (hdr 4 5 ar.length)), (4, some (blk0 arr)), (5, some (blk1 arr)), (6, some [.v (.slice none 0 0), .v (.slice none 0 0)])]) ?_ ?_
    · simp [Mq, TmOK, DM, CM, CMs, HpOK, LowOK, hOf, upd, CMs_I, CMs_hdr, CMs_b0, CMs_b1]
    refine XK.callG [0, 1, 2, 3, 4, 5] hrn ok61 (hhp6 (by simp [hOf, upd, renCs, renC, rk0]) (by simp [hOf, upd, renCs_tr, renCs, renC, trC]) (by simp [hOf, upd, renCs_I]) (by simp [hOf, upd, renCs_hdr, rk0]) (by simp [hOf, upd, renCs_b0]) (by simp [hOf, upd, renCs_b1])) (hbT ()) (fun d h' ⟨_, e⟩ => by subst e; simp [stP']) ?_
    rintro _ _ ⟨rfl, rfl⟩ _
    unfold stP'
    iterate 3 (try (refine drvZ Try.func22 ?_; simp (maxSteps := 9999999) only [go_sem, renCs_I, renCs_hdr, renCs_b0, renCs_b1, renCs_tr]))
    (repeat' with_reducible apply And.intro) <;> (try first | omega | (simp only [InK]; omega) | (intro k e; cases e; rfl) | (intro hguard; exact ⟨hguard, by simp only [InK]; omega⟩) | kernel_rfl)
    iterate 3 (try (refine drvZ Try.func22 ?_; simp (maxSteps := 9999999) only [go_sem, renCs_I, renCs_hdr, renCs_b0, renCs_b1, renCs_tr]))
    (repeat' with_reducible apply And.intro) <;> (try first | omega | (simp only [InK]; omega) | (intro k e; cases e; rfl) | (intro hguard; exact ⟨hguard, by simp only [InK]; omega⟩) | kernel_rfl)
    refine RetOb.run hfin ?_ rfl rfl rfl rfl rfl rfl rfl (by decide)
    subst hR
    rw [hr]
    exact ⟨rfl, rfl⟩
end Go.Proofs.Ytclgjiffpijgmaa.CtR

namespace Go.Proofs.Ytclgjiffpijgmaa.CtR
open Go Go.CT CtF

theorem equalI (xs ys : List Int) (hl : xs.length ≤ mx) : DC Try.prog 66 [ints xs, ints ys] [] (fun r h => r = DB (decide (xs = ys)) ∧ h = []) := by
  have hmx := mx_eq
  have ret : ∀ (b : Bool) (hp : Hp), b = decide (xs = ys) → RetOb 0 (fun r h => r = DB (decide (xs = ys)) ∧ h = []) (DB b) hp := fun b hp h => RetOb.plain (d := DB _) ⟨by rw [h], rfl⟩ rfl
  by_cases hlen : xs.length = ys.length
  · have hb : ((xs.length : Int) != ys.length) = false := by simp [hlen]
    have he : ((xs.length : Int) = ys.length) = True := eq_true (by omega)
    refine dc_of_go Try.func66 rfl (by simp) ?_
    refine drv_sound (n := 100) (rs := _) Try.func66 mo rfl none _ _ ?_
    simp (maxSteps := 9999999) only [go_sem, ints, hb, he]
    refine Go.loopL (fun i : Nat => [(0, ints xs), (1, ints ys), (12, DI .i64 xs.length), (13, DI .i64 i)]) (fun _ => []) 1024 (fun i => i ≤ xs.length ∧ decide (xs = ys) = decide (xs.drop i = ys.drop i)) (fun i => xs.length - i) ?_ 0 some [] _ ⟨Nat.zero_le _, rfl⟩ ?_
    · intro i hi again
      refine drv_sound (n := 100) (rs := _) Try.func66 mo rfl none _ _ ?_
      rcases Nat.lt_or_ge i xs.length with hlt | hge
      · obtain ⟨x, hx⟩ : ∃ x, xs[i]? = some x := ⟨xs[i], by simp [hlt]⟩
        obtain ⟨y, hy⟩ : ∃ y, ys[i]? = some y := ⟨ys[i]'(by omega), by simp⟩
        have hI := hi.2
        obtain ⟨_, ex⟩ := List.getElem?_eq_some_iff.1 hx
        obtain ⟨hyl, ey⟩ := List.getElem?_eq_some_iff.1 hy
        rw [List.drop_eq_getElem_cons hlt, List.drop_eq_getElem_cons hyl, ex, ey] at hI
        simp (maxSteps := 9999999) only [go_sem, ints, hx, hy, hlt]
        (repeat' with_reducible apply And.intro) <;> (try first | omega | (simp only [InK]; omega) | (intro k e; cases e; rfl) | (intro hguard; exact ⟨hguard, by simp only [InK]; omega⟩) | kernel_rfl)
        · intro hne; exact ret _ _ (by rw [hI]; simp [hne])
        · intro heq; exact ⟨by simp only [InK]; omega, again (i + 1) some [] _ ⟨by omega, by rw [hI]; simp [heq]⟩ (by omega) (Mt.slots (by
            simp (maxSteps := 9999999) only [go_sem, TmOK, DM, DMs, CM, CMs, forall_eq, exists_eq_left, ints]))⟩
      · have hn : ¬ i < xs.length := by omega
        simp (maxSteps := 9999999) only [go_sem, ints, hn]
        refine ret _ _ ?_
        rw [hi.2, List.drop_of_length_le hge, List.drop_of_length_le (by omega)]; rfl
    · refine Mt.slots ?_
      simp (maxSteps := 9999999) only [go_sem, TmOK, DM, DMs, CM, CMs, forall_eq, exists_eq_left, ints]
  · have hb : ((xs.length : Int) != ys.length) = true := by simp; omega
    have he : ((xs.length : Int) = ys.length) = False := eq_false (by omega)
    refine dc_of_go Try.func66 rfl (by simp) ?_
    refine drv_sound (n := 100) (rs := _) Try.func66 mo rfl none _ _ ?_
    simp (maxSteps := 9999999) only [go_sem, ints, hb, he]
    refine ret _ _ ?_
    symm; rw [decide_eq_false_iff_not]; intro h; exact hlen (by rw [h])
end Go.Proofs.Ytclgjiffpijgmaa.CtR

namespace Go.Proofs.Ytclgjiffpijgmaa.CtR
open Go Go.CT CtF

theorem Ev.eq_iff (a b : Ev) : a = b ↔ a.kind = b.kind ∧ a.value = b.value := by cases a; cases b; simp

def trSame (xs ys : List Ev) : Bool := xs.length == ys.length && (xs.zip ys).all fun q => q.1.kind == q.2.kind && q.1.value == q.2.value
theorem trSame_iff : ∀ xs ys : List Ev, trSame xs ys = true ↔ xs = ys
  | [], [] => by simp [trSame]
  | [], b :: r => by simp [trSame]
  | a :: r, [] => by simp [trSame]
  | a :: r, b :: r' => by
    have ih := trSame_iff r r'
    simp only [trSame, List.length_cons, List.zip_cons_cons, List.all_cons, Bool.and_eq_true, beq_iff_eq] at ih ⊢
    rw [List.cons.injEq, Ev.eq_iff, ← ih]
    constructor
    · rintro ⟨h1, ⟨h2, h3⟩, h4⟩; exact ⟨⟨h2, h3⟩, by omega, h4⟩
    · rintro ⟨⟨h2, h3⟩, h1, h4⟩; exact ⟨by omega, ⟨h2, h3⟩, h4⟩

theorem equalEv (xs ys : List Ev) (hl : xs.length ≤ mx) : DC Try.prog 62 [.c (trD xs), .c (trD ys)] [] (fun r h => r = DB (trSame xs ys) ∧ h = []) := by
  have hmx := mx_eq
  have ret : ∀ (b : Bool) (hp : Hp), b = trSame xs ys → RetOb 0 (fun r h => r = DB (trSame xs ys) ∧ h = []) (DB b) hp := fun b hp h => RetOb.plain (d := DB _) ⟨by rw [h], rfl⟩ rfl
  by_cases hlen : xs.length = ys.length
  · have hb : ((xs.length : Int) != ys.length) = false := by simp [hlen]
    have he : ((xs.length : Int) = ys.length) = True := eq_true (by omega)
    refine dc_of_go Try.func62 rfl (by simp) ?_
    refine drv_sound (n := 100) (rs := _) Try.func62 mo rfl none _ _ ?_
    simp (maxSteps := 9999999) only [go_sem, trD, hb, he]
    refine Go.loopL (fun i : Nat => [(0, .c (trD xs)), (1, .c (trD ys)), (12, DI .i64 xs.length), (13, DI .i64 i)]) (fun _ => []) 1024 (fun i => i ≤ xs.length ∧ trSame xs ys = trSame (xs.drop i) (ys.drop i)) (fun i => xs.length - i) ?_ 0 some [] _ ⟨Nat.zero_le _, rfl⟩ ?_
    · intro i hi again
      refine drv_sound (n := 100) (rs := _) Try.func62 mo rfl none _ _ ?_
      rcases Nat.lt_or_ge i xs.length with hlt | hge
      · obtain ⟨⟨k1, v1⟩, hx⟩ : ∃ x, xs[i]? = some x := ⟨xs[i], by simp [hlt]⟩
        obtain ⟨⟨k2, v2⟩, hy⟩ : ∃ y, ys[i]? = some y := ⟨ys[i]'(by omega), by simp⟩
        have hI := hi.2
        obtain ⟨_, ex⟩ := List.getElem?_eq_some_iff.1 hx
        obtain ⟨hyl, ey⟩ := List.getElem?_eq_some_iff.1 hy
        rw [List.drop_eq_getElem_cons hlt, List.drop_eq_getElem_cons hyl, ex, ey] at hI
        have hd : (xs.drop (i + 1)).length = (ys.drop (i + 1)).length := by simp; omega
        have hI2 : trSame xs ys = ((decide (k1 = k2) && decide (v1 = v2)) && trSame (xs.drop (i + 1)) (ys.drop (i + 1))) := by
          rw [hI]
          simp only [trSame, List.length_cons, hd, List.zip_cons_cons, List.all_cons, beq_self_eq_true, Bool.true_and]
          rfl
        simp (maxSteps := 9999999) only [go_sem, trD, hx, hy, hlt, Ev.cells, I64]
        (repeat' with_reducible apply And.intro) <;> (try first | omega | (simp only [InK]; omega) | (intro k e; cases e; rfl) | (intro hguard; exact ⟨hguard, by simp only [InK]; omega⟩) | kernel_rfl)
        · intro h; exact ret _ _ (by rw [hI2]; by_cases h1 : k1 = k2 <;> simp_all)
        · intro h; exact ⟨by simp only [InK]; omega, again (i + 1) some [] _ ⟨by omega, by rw [hI2]; simp [h.1, h.2]⟩ (by omega) (Mt.slots (by
            simp (maxSteps := 9999999) only [go_sem, TmOK, DM, DMs, CM, CMs, forall_eq, exists_eq_left, trD]))⟩
      · have hn : ¬ i < xs.length := by omega
        simp (maxSteps := 9999999) only [go_sem, trD, hn]
        refine ret _ _ ?_
        rw [hi.2, List.drop_of_length_le hge, List.drop_of_length_le (by omega)]; rfl
    · refine Mt.slots ?_
      simp (maxSteps := 9999999) only [go_sem, TmOK, DM, DMs, CM, CMs, forall_eq, exists_eq_left, trD]
  · have hb : ((xs.length : Int) != ys.length) = true := by simp; omega
    have he : ((xs.length : Int) = ys.length) = False := eq_false (by omega)
    refine dc_of_go Try.func62 rfl (by simp) ?_
    refine drv_sound (n := 100) (rs := _) Try.func62 mo rfl none _ _ ?_
    simp (maxSteps := 9999999) only [go_sem, trD, hb, he]
    refine ret _ _ ?_
    simp [trSame, hlen]

theorem traceSame (xs ys : List Ev) (hl : xs.length ≤ mx) : DC Try.prog 23 [.c (trD xs), .c (trD ys)] [] (fun r h => r = DB (trSame xs ys) ∧ h = []) := by
  refine dc_of_go Try.func23 rfl (by simp) ?_
  refine drv_sound (n := 100) (rs := _) Try.func23 mo rfl none _ _ ?_
  simp (maxSteps := 9999999) only [go_sem, trD]
  refine XK.plain (equalEv xs ys hl) ok62 ?_
  refine drv_sound (n := 100) (rs := _) Try.func23 mo rfl (some _) _ _ ?_
  simp (maxSteps := 9999999) only [go_sem, trD]
  exact RetOb.plain (d := DB _) ⟨rfl, rfl⟩ rfl

theorem equalFunc (xs ys : List (List Int)) (hl : xs.length ≤ mx) (hx4 : ∀ a ∈ xs, a.length ≤ mx) : DC Try.prog 67 [.c (.isl 1 (xs.map fun a => [isI a])), .c (.isl 1 (ys.map fun a => [isI a])), .c (.clo 66 [])] [] (fun r h => r = DB (decide (xs = ys)) ∧ h = []) := by
  have hmx := mx_eq
  have ret : ∀ (b : Bool) (hp : Hp), b = decide (xs = ys) → RetOb 0 (fun r h => r = DB (decide (xs = ys)) ∧ h = []) (DB b) hp := fun b hp h => RetOb.plain (d := DB _) ⟨by rw [h], rfl⟩ rfl
  by_cases hlen : xs.length = ys.length
  · have hb : ((xs.length : Int) != ys.length) = false := by simp [hlen]
    have he : ((xs.length : Int) = ys.length) = True := eq_true (by omega)
    refine dc_of_go Try.func67 rfl (by simp) ?_
    refine drv_sound (n := 100) (rs := _) Try.func67 mo rfl none _ _ ?_
    simp (maxSteps := 9999999) only [go_sem, isI, I64, hb, he]
    refine Go.loopL (fun i : Nat => [(1, .c (.isl 1 (ys.map fun a => [isI a]))), (2, .c (.clo 66 [])), (15, .c (.isl 1 (xs.map fun a => [isI a]))), (16, DI .i64 xs.length), (17, DI .i64 i)]) (fun _ => []) 1024 (fun i => i ≤ xs.length ∧ decide (xs = ys) = decide (xs.drop i = ys.drop i)) (fun i => xs.length - i) ?_ 0 some [] _ ⟨Nat.zero_le _, rfl⟩ ?_
    · intro i hi again
      refine drv_sound (n := 100) (rs := _) Try.func67 mo rfl none _ _ ?_
      rcases Nat.lt_or_ge i xs.length with hlt | hge
      · obtain ⟨x, hx⟩ : ∃ x, xs[i]? = some x := ⟨xs[i], by simp [hlt]⟩
        obtain ⟨y, hy⟩ : ∃ y, ys[i]? = some y := ⟨ys[i]'(by omega), by simp⟩
        have hI := hi.2
        obtain ⟨_, ex⟩ := List.getElem?_eq_some_iff.1 hx
        obtain ⟨hyl, ey⟩ := List.getElem?_eq_some_iff.1 hy
        rw [List.drop_eq_getElem_cons hlt, List.drop_eq_getElem_cons hyl, ex, ey] at hI
        simp (maxSteps := 9999999) only [go_sem, isI, I64, hx, hy, hlt]
        (repeat' with_reducible apply And.intro) <;> (try first | omega | (simp only [InK]; omega) | (intro k e; cases e; rfl) | (intro hguard; exact ⟨hguard, by simp only [InK]; omega⟩) | kernel_rfl)
        refine XK.plain (equalI x y (hx4 x (List.mem_of_getElem? hx))) ok66 ?_
        refine drv_sound (n := 100) (rs := _) Try.func67 mo rfl (some _) _ _ ?_
        simp (maxSteps := 9999999) only [go_sem, isI, I64]
        refine ⟨fun hne => ret _ _ (by rw [hI]; simp [hne]), fun heq => ⟨by simp only [InK]; omega, again (i + 1) some [] _ ⟨by omega, by rw [hI]; simp [heq]⟩ (by omega) (Mt.slots (by
            simp (maxSteps := 9999999) only [go_sem, TmOK, DM, DMs, CM, CMs, forall_eq, exists_eq_left, isI, I64]))⟩⟩
      · have hn : ¬ i < xs.length := by omega
        simp (maxSteps := 9999999) only [go_sem, isI, I64, hn]
        refine ret _ _ ?_
        rw [hi.2, List.drop_of_length_le hge, List.drop_of_length_le (by omega)]; rfl
    · refine Mt.slots ?_
      simp (maxSteps := 9999999) only [go_sem, TmOK, DM, DMs, CM, CMs, forall_eq, exists_eq_left, isI, I64]
  · have hb : ((xs.length : Int) != ys.length) = true := by simp; omega
    have he : ((xs.length : Int) = ys.length) = False := eq_false (by omega)
    refine dc_of_go Try.func67 rfl (by simp) ?_
    refine drv_sound (n := 100) (rs := _) Try.func67 mo rfl none _ _ ?_
    simp (maxSteps := 9999999) only [go_sem, isI, I64, hb, he]
    refine ret _ _ ?_
    symm; rw [decide_eq_false_iff_not]; intro h; exact hlen (by rw [h])

def memSame (a b : Mm) : Bool := decide (a.vals = b.vals) && decide (a.arrays = b.arrays)

theorem memorySame (a b : Mm) (h1 : a.vals.length ≤ mx) (h2 : a.arrays.length ≤ mx) (h3 : ∀ x ∈ a.arrays, x.length ≤ mx) : DC Try.prog 30 [.agg a.cells, .agg b.cells] [] (fun r h => r = DB (memSame a b) ∧ h = []) := by
  obtain ⟨va, arr⟩ := a
  obtain ⟨vb, brr⟩ := b
  refine dc_of_go Try.func30 rfl (by simp) ?_
  refine drv_sound (n := 100) (rs := _) Try.func30 mo rfl none _ _ ?_
  simp (maxSteps := 9999999) only [go_sem, Mm.cells, isI, I64]
  refine XK.plain (equalI va vb h1) ok66 ?_ (hbT ())
  refine drv_sound (n := 100) (rs := _) Try.func30 mo rfl (some _) _ _ ?_
  simp (maxSteps := 9999999) only [go_sem, Mm.cells, isI, I64]
  refine XK.gplain 5 true (decide (va = vb)) (fun _ => equalFunc arr brr h2 h3) ok67 ?_ (hbT ()) (hok := by intro hx; simp [okP, getCall, Call.operands, evT, upd, peelB, DB, DI, cst, one] at hx ⊢; first | done | exact hx | (simp_all; done) | omega)
  refine drv_sound (n := 100) (rs := _) Try.func30 mo rfl (some _) _ _ ?_
  simp (maxSteps := 9999999) only [go_sem, Mm.cells, isI, I64]
  exact RetOb.plain (d := DB _) ⟨rfl, rfl⟩ rfl
end Go.Proofs.Ytclgjiffpijgmaa.CtR
