/- Contracts of functions of the program, one behind the other, as plain data: what each call returns and which blocks it leaves. -/
import Derived.Test.YtmagbjbanpgmhaaFacts
import Derived.Test.YtmagbjbanpgmhaaAj
import Derived.Test.YtmagbjbanpgmhaaAk
import Derived.Test.YtmagbjbanpgmhaaAl
import Derived.Test.YtmagbjbanpgmhaaAn
import Derived.Test.YtmagbjbanpgmhaaAs
import Derived.Test.YtmagbjbanpgmhaaBa
import Derived.Test.YtmagbjbanpgmhaaAq
import Derived.Test.YtmagbjbanpgmhaaAo
import Derived.Test.YtmagbjbanpgmhaaAm
set_option linter.unusedVariables false
set_option linter.unusedSimpArgs false
set_option maxHeartbeats 16000000
set_option maxRecDepth 100000
namespace Go.Proofs.Ytmagbjbanpgmhaa.CtR
open Go Go.CT CtF
/-- The label of an expression. -/
def labB (vs ar : List Int) (k v : Int) : Nat := if k = 2 then (nth vs v).toNat else if k = 3 then (nth ar v).toNat else 0
def labN (vs ar : List Int) : Nat → Ex → Nat
  | 0, _ => 0
  | d + 1, .mk k v ks => (ks.map (labN vs ar d)).foldl (fun a b => a ||| b) (labB vs ar k v)
theorem or3 {a b : Nat} (ha : a ≤ 3) (hb : b ≤ 3) : a ||| b ≤ 3 := by
  have := Nat.or_lt_two_pow (x := a) (y := b) (n := 2) (by omega) (by omega)
  omega
theorem nth_lab {l : List Int} (h : lab3 l) (v : Int) : 0 ≤ nth l v ∧ nth l v ≤ 3 := by
  unfold nth
  rw [List.getD_eq_getElem?_getD]
  cases hx : l[v.toNat]? with
  | none => simp
  | some x => simpa using h x (List.mem_of_getElem? hx)
theorem foldl_or3 : ∀ (l : List Nat) (a : Nat), a ≤ 3 → (∀ x ∈ l, x ≤ 3) → l.foldl (fun a b => a ||| b) a ≤ 3
  | [], a, h, _ => h
  | x :: r, a, h, h2 => foldl_or3 r _ (or3 h (h2 x (by simp))) fun y hy => h2 y (by simp [hy])
theorem labN_le {vs ar : List Int} (h1 : lab3 vs) (h2 : lab3 ar) : ∀ (d : Nat) (e : Ex), labN vs ar d e ≤ 3
  | 0, _ => Nat.zero_le _
  | d + 1, .mk k v ks => by
    refine foldl_or3 _ _ ?_ fun x hx => ?_
    · unfold labB
      have := nth_lab h1 v
      have := nth_lab h2 v
      split
      · omega
      · split <;> omega
    · obtain ⟨y, _, rfl⟩ := List.mem_map.1 hx
      exact labN_le h1 h2 d y
theorem lab_succ (f : Ex → Nat) (a : Nat) (ks : List Ex) (i : Nat) (x : Ex) (h : ks[i]? = some x) : ((ks.take (i + 1)).map f).foldl (fun a b => a ||| b) a = ((ks.take i).map f).foldl (fun a b => a ||| b) a ||| f x := by
  rw [List.take_add_one, h]
  simp
theorem labs_of {p : Pg} (h : progOK p = true) : lab3 p.vars ∧ lab3 p.arrays := by
  simp only [progOK, headsOK, labs, Bool.and_eq_true, decide_eq_true_eq, List.all_eq_true] at h
  exact ⟨fun x hx => h.1.1.1.2 x hx, fun x hx => h.1.1.2 x hx⟩
theorem labelI (p : Pg) (hl : p.vars.length ≤ mx) (hl2 : p.arrays.length ≤ mx) (h1 : lab3 p.vars) (h2 : lab3 p.arrays) : ∀ (d : Nat) (e : Ex), shape p d e = true → DC Try.prog 71 [.agg p.cells, .agg e.cells] [] (fun r h => r = DI .i64 (labN p.vars p.arrays d e) ∧ h = []) := by
  have hmx := mx_eq
  intro d
  induction d with
  | zero => intro e h; simp [shape] at h
  | succ d ih =>
    intro e hsh
    obtain ⟨k, v, ks⟩ := e
    obtain ⟨g1, g2, g3⟩ := shape_succ hsh
    obtain ⟨hl3, hla, hv0, hv1⟩ := fits_len g1
    obtain ⟨vs, ar, bd⟩ := p
    have h1 : lab3 vs := h1
    have h2 : lab3 ar := h2
    generalize hR : (fun (r : D) (h : List (Option (List C))) => r = DI .i64 (labN vs ar (d + 1) (.mk k v ks)) ∧ h = []) = R
    have hle := fun e => labN_le h1 h2 d e
    have hacc : ∀ i, ((ks.take i).map (labN vs ar d)).foldl (fun a b => a ||| b) (labB vs ar k v) ≤ 3 := fun i => by
      have := labN_le h1 h2 (d + 1) (.mk k v (ks.take i))
      exact this
    have hlb : labB vs ar k v ≤ 3 := hacc 0
    have key : k = 2 ∨ k = 3 ∨ (k ≠ 2 ∧ k ≠ 3) := by omega
    rcases key with hk | hk | ⟨hk2, hk3⟩
    · have hv1' : v < vs.length := by subst hk; simpa [limit] using hv1
      have hx := (nth_mem (l := vs) hv0 hv1').1
      have hB : ((labB vs ar k v : Nat) : Int) = nth vs v := by have := nth_lab h1 v; simp [labB, hk]; omega
      have e2 : (k == 2) = true := by simp [hk]
      have e3 : (k == 3) = false := by simp [hk]
      have f2 : (k = 2) = True := by simp [hk]
      have f3 : (k = 3) = False := by simp [hk]
      refine dcZ Try.func71 ?_
      simp (maxSteps := 9999999) only [go_sem]
      iterate 4 ((try (refine drvZ Try.func71 ?_; simp (maxSteps := 9999999) only [go_sem, e2, e3, f2, f3, hx])); (try ((with_reducible refine And.intro ?_ ?_) <;> (repeat' with_reducible apply And.intro) <;> try exact sd)))
      refine Go.loopQ (fun i : Nat => [(2, .c (.ptr 0 0)), (5, DI .i64 (((ks.take i).map (labN vs ar d)).foldl (fun a b => a ||| b) (labB vs ar k v) : Nat)), (27, .c (.isl 3 (Ex.cellsL ks))), (28, DI .i64 ks.length), (29, DI .i64 i)]) (fun i => [(0, some (Pg.cells ⟨vs, ar, bd⟩))])
        4096 (fun i => i ≤ ks.length) (fun i => ks.length - i) ?_ 0 some [] _ (Nat.zero_le _) ?_
      · intro i hi again
        rcases Nat.lt_or_ge i ks.length with hlt | hge
        · obtain ⟨⟨k', v', ks'⟩, hx⟩ : ∃ x, ks[i]? = some x := ⟨ks[i], by simp [hlt]⟩
          have hsc := lab_succ (labN vs ar d) (labB vs ar k v) ks i _ hx
          have ha := hacc i
          have hb := hle (.mk k' v' ks')
          have hc := hacc (i + 1)
          rw [hsc] at hc
          generalize ((ks.take i).map (labN vs ar d)).foldl (fun a b => a ||| b) (labB vs ar k v) = acc at *
          refine drvL Try.func71 ?_
          simp (maxSteps := 9999999) only [go_sem, hx, hlt]
          iterate 2 ((try (refine drvZ Try.func71 ?_; simp (maxSteps := 9999999) only [go_sem, hx, hlt])); (try ((with_reducible refine And.intro ?_ ?_) <;> (repeat' with_reducible apply And.intro) <;> try exact sd)))
          refine XK.plain (ih (.mk k' v' ks') (g2 _ (List.mem_of_getElem? hx))) ok71 ?_ (hbT ())
          iterate 3 ((try (refine drvZ Try.func71 ?_; simp (maxSteps := 9999999) only [go_sem, hx, hlt])); (try ((with_reducible refine And.intro ?_ ?_) <;> (repeat' with_reducible apply And.intro) <;> try exact sd)))
          refine again (i + 1) some [] _ hlt (by omega) ?_
          simp (maxSteps := 9999999) only [go_sem, TmOK, DM, DMs, CM, CMs, forall_eq, exists_eq_left, Mq, HpOK, LowOK, hsc]
          simp
          rw [← List.map_take, hsc]
        · have hn : ¬ i < ks.length := by omega
          obtain rfl : i = ks.length := by omega
          refine drvL Try.func71 ?_
          simp (maxSteps := 9999999) only [go_sem, hn, List.take_length]
          iterate 2 ((try (refine drvZ Try.func71 ?_; simp (maxSteps := 9999999) only [go_sem, hn, List.take_length])); (try ((with_reducible refine And.intro ?_ ?_) <;> (repeat' with_reducible apply And.intro) <;> try exact sd)))
          exact RetOb.plain (d := DI .i64 _) (by rw [← hR]; exact ⟨rfl, rfl⟩) rfl
      · simp (maxSteps := 9999999) only [go_sem, TmOK, DM, DMs, CM, CMs, forall_eq, exists_eq_left, Mq, HpOK, LowOK, List.take_zero, List.map_nil, List.foldl_nil]
        simp [hB]
    · have hv1' : v < ar.length := by subst hk; simpa [limit] using hv1
      have hx := (nth_mem (l := ar) hv0 hv1').1
      have hB : ((labB vs ar k v : Nat) : Int) = nth ar v := by have := nth_lab h2 v; simp [labB, hk]; omega
      have e2 : (k == 2) = false := by simp [hk]
      have e3 : (k == 3) = true := by simp [hk]
      have f2 : (k = 2) = False := by simp [hk]
      have f3 : (k = 3) = True := by simp [hk]
      refine dcZ Try.func71 ?_
      simp (maxSteps := 9999999) only [go_sem]
      iterate 4 ((try (refine drvZ Try.func71 ?_; simp (maxSteps := 9999999) only [go_sem, e2, e3, f2, f3, hx])); (try ((with_reducible refine And.intro ?_ ?_) <;> (repeat' with_reducible apply And.intro) <;> try exact sd)))
      refine Go.loopQ (fun i : Nat => [(2, .c (.ptr 0 0)), (5, DI .i64 (((ks.take i).map (labN vs ar d)).foldl (fun a b => a ||| b) (labB vs ar k v) : Nat)), (27, .c (.isl 3 (Ex.cellsL ks))), (28, DI .i64 ks.length), (29, DI .i64 i)]) (fun i => [(0, some (Pg.cells ⟨vs, ar, bd⟩))])
        4096 (fun i => i ≤ ks.length) (fun i => ks.length - i) ?_ 0 some [] _ (Nat.zero_le _) ?_
      · intro i hi again
        rcases Nat.lt_or_ge i ks.length with hlt | hge
        · obtain ⟨⟨k', v', ks'⟩, hx⟩ : ∃ x, ks[i]? = some x := ⟨ks[i], by simp [hlt]⟩
          have hsc := lab_succ (labN vs ar d) (labB vs ar k v) ks i _ hx
          have ha := hacc i
          have hb := hle (.mk k' v' ks')
          have hc := hacc (i + 1)
          rw [hsc] at hc
          generalize ((ks.take i).map (labN vs ar d)).foldl (fun a b => a ||| b) (labB vs ar k v) = acc at *
          refine drvL Try.func71 ?_
          simp (maxSteps := 9999999) only [go_sem, hx, hlt]
          iterate 2 ((try (refine drvZ Try.func71 ?_; simp (maxSteps := 9999999) only [go_sem, hx, hlt])); (try ((with_reducible refine And.intro ?_ ?_) <;> (repeat' with_reducible apply And.intro) <;> try exact sd)))
          refine XK.plain (ih (.mk k' v' ks') (g2 _ (List.mem_of_getElem? hx))) ok71 ?_ (hbT ())
          iterate 3 ((try (refine drvZ Try.func71 ?_; simp (maxSteps := 9999999) only [go_sem, hx, hlt])); (try ((with_reducible refine And.intro ?_ ?_) <;> (repeat' with_reducible apply And.intro) <;> try exact sd)))
          refine again (i + 1) some [] _ hlt (by omega) ?_
          simp (maxSteps := 9999999) only [go_sem, TmOK, DM, DMs, CM, CMs, forall_eq, exists_eq_left, Mq, HpOK, LowOK, hsc]
          simp
          rw [← List.map_take, hsc]
        · have hn : ¬ i < ks.length := by omega
          obtain rfl : i = ks.length := by omega
          refine drvL Try.func71 ?_
          simp (maxSteps := 9999999) only [go_sem, hn, List.take_length]
          iterate 2 ((try (refine drvZ Try.func71 ?_; simp (maxSteps := 9999999) only [go_sem, hn, List.take_length])); (try ((with_reducible refine And.intro ?_ ?_) <;> (repeat' with_reducible apply And.intro) <;> try exact sd)))
          exact RetOb.plain (d := DI .i64 _) (by rw [← hR]; exact ⟨rfl, rfl⟩) rfl
      · simp (maxSteps := 9999999) only [go_sem, TmOK, DM, DMs, CM, CMs, forall_eq, exists_eq_left, Mq, HpOK, LowOK, List.take_zero, List.map_nil, List.foldl_nil]
        simp [hB]
    · have hB : labB vs ar k v = 0 := by simp [labB, hk2, hk3]
      have e2 : (k == 2) = false := by simp [hk2]
      have e3 : (k == 3) = false := by simp [hk3]
      refine dcZ Try.func71 ?_
      simp (maxSteps := 9999999) only [go_sem]
      iterate 4 ((try (refine drvZ Try.func71 ?_; simp (maxSteps := 9999999) only [go_sem, e2, e3, hk2, hk3])); (try ((with_reducible refine And.intro ?_ ?_) <;> (repeat' with_reducible apply And.intro) <;> try exact sd)))
      refine Go.loopQ (fun i : Nat => [(2, .c (.ptr 0 0)), (5, DI .i64 (((ks.take i).map (labN vs ar d)).foldl (fun a b => a ||| b) (labB vs ar k v) : Nat)), (27, .c (.isl 3 (Ex.cellsL ks))), (28, DI .i64 ks.length), (29, DI .i64 i)]) (fun i => [(0, some (Pg.cells ⟨vs, ar, bd⟩))])
        4096 (fun i => i ≤ ks.length) (fun i => ks.length - i) ?_ 0 some [] _ (Nat.zero_le _) ?_
      · intro i hi again
        rcases Nat.lt_or_ge i ks.length with hlt | hge
        · obtain ⟨⟨k', v', ks'⟩, hx⟩ : ∃ x, ks[i]? = some x := ⟨ks[i], by simp [hlt]⟩
          have hsc := lab_succ (labN vs ar d) (labB vs ar k v) ks i _ hx
          have ha := hacc i
          have hb := hle (.mk k' v' ks')
          have hc := hacc (i + 1)
          rw [hsc] at hc
          generalize ((ks.take i).map (labN vs ar d)).foldl (fun a b => a ||| b) (labB vs ar k v) = acc at *
          refine drvL Try.func71 ?_
          simp (maxSteps := 9999999) only [go_sem, hx, hlt]
          iterate 2 ((try (refine drvZ Try.func71 ?_; simp (maxSteps := 9999999) only [go_sem, hx, hlt])); (try ((with_reducible refine And.intro ?_ ?_) <;> (repeat' with_reducible apply And.intro) <;> try exact sd)))
          refine XK.plain (ih (.mk k' v' ks') (g2 _ (List.mem_of_getElem? hx))) ok71 ?_ (hbT ())
          iterate 3 ((try (refine drvZ Try.func71 ?_; simp (maxSteps := 9999999) only [go_sem, hx, hlt])); (try ((with_reducible refine And.intro ?_ ?_) <;> (repeat' with_reducible apply And.intro) <;> try exact sd)))
          refine again (i + 1) some [] _ hlt (by omega) ?_
          simp (maxSteps := 9999999) only [go_sem, TmOK, DM, DMs, CM, CMs, forall_eq, exists_eq_left, Mq, HpOK, LowOK, hsc]
          simp
          rw [← List.map_take, hsc]
        · have hn : ¬ i < ks.length := by omega
          obtain rfl : i = ks.length := by omega
          refine drvL Try.func71 ?_
          simp (maxSteps := 9999999) only [go_sem, hn, List.take_length]
          iterate 2 ((try (refine drvZ Try.func71 ?_; simp (maxSteps := 9999999) only [go_sem, hn, List.take_length])); (try ((with_reducible refine And.intro ?_ ?_) <;> (repeat' with_reducible apply And.intro) <;> try exact sd)))
          exact RetOb.plain (d := DI .i64 _) (by rw [← hR]; exact ⟨rfl, rfl⟩) rfl
      · simp (maxSteps := 9999999) only [go_sem, TmOK, DM, DMs, CM, CMs, forall_eq, exists_eq_left, Mq, HpOK, LowOK, List.take_zero, List.map_nil, List.foldl_nil]
        simp [hB]
end Go.Proofs.Ytmagbjbanpgmhaa.CtR

namespace Go.Proofs.Ytmagbjbanpgmhaa.CtR
open Go Go.CT CtF
def ctxI (vs ar : List Int) (s : St1) (c : Nat) : Nat := if s.kind = 3 then c ||| labN vs ar 5 s.value else c
/-- What telling of each statement makes of a state. -/
def eachF {X : Type} (vs ar : List Int) (step : X → St1 → Nat → X) : Nat → Nat → X → List St1 → X
  | 0, _, x, _ => x
  | d + 1, c, x, l => l.foldl (fun x s => eachF vs ar step d (ctxI vs ar s c) (eachF vs ar step d (ctxI vs ar s c) (step x s c) s.body) s.els) x
theorem prog_len2 {p : Pg} (h : progOK p = true) : 1 ≤ p.vars.length ∧ p.vars.length ≤ 12 ∧ p.arrays.length ≤ 2 := by
  simp only [progOK, headsOK, Bool.and_eq_true, decide_eq_true_eq] at h
  obtain ⟨⟨⟨⟨⟨_, h1⟩, h2⟩, h3⟩, _⟩, _⟩ := h
  omega
end Go.Proofs.Ytmagbjbanpgmhaa.CtR

namespace Go.Proofs.Ytmagbjbanpgmhaa.CtR
open Go Go.CT CtF

theorem hhp_each4 {hp : Hp} {r : Nat → Nat} {h0 h1 h2 h3 : Option (List C)} (e0 : hp 0 = some (h0.map (renCs r))) (e1 : hp 1 = some (h1.map (renCs r))) (e2 : hp 2 = some (h2.map (renCs r))) (e3 : hp 3 = some (h3.map (renCs r))) :
    ∀ i' x, [h0, h1, h2, h3][i']? = some x → hp ([0, 1, 2, 3].getD i' 0) = some (x.map (renCs r)) := by
  intro i' x hx
  match i', hx with
  | 0, hx => simp only [List.getElem?_cons_zero, List.getElem?_cons_succ, Option.some.injEq] at hx; subst hx; exact e0
  | 1, hx => simp only [List.getElem?_cons_zero, List.getElem?_cons_succ, Option.some.injEq] at hx; subst hx; exact e1
  | 2, hx => simp only [List.getElem?_cons_zero, List.getElem?_cons_succ, Option.some.injEq] at hx; subst hx; exact e2
  | 3, hx => simp only [List.getElem?_cons_zero, List.getElem?_cons_succ, Option.some.injEq] at hx; subst hx; exact e3
  | i' + 4, hx => simp at hx
theorem rkid_each4 (b : Nat) : ∀ k, k < 4 → rk0 [0, 1, 2, 3] b k = k := fun k hk => by
  match k, hk with
  | 0, _ => rfl
  | 1, _ => rfl
  | 2, _ => rfl
  | 3, _ => rfl
theorem rkey_each4 (b : Nat) : ∀ k, k < 4 → rkey [0, 1, 2, 3] b k = k := fun k hk => by
  match k, hk with
  | 0, _ => rfl
  | 1, _ => rfl
  | 2, _ => rfl
  | 3, _ => rfl

theorem each4 {X : Type} (p : Pg) (hl : p.vars.length ≤ mx) (hl2 : p.arrays.length ≤ mx) (h1 : lab3 p.vars) (h2 : lab3 p.arrays) (F : FuncId) (hF : fnOK Try.prog F = true)
    (b0 b1 b2 b3 : X → List C) (hr0 : ∀ x r, (∀ k, k < 4 → r k = k) → renCs r (b0 x) = b0 x) (hr1 : ∀ x r, (∀ k, k < 4 → r k = k) → renCs r (b1 x) = b1 x) (hr2 : ∀ x r, (∀ k, k < 4 → r k = k) → renCs r (b2 x) = b2 x) (hr3 : ∀ x r, (∀ k, k < 4 → r k = k) → renCs r (b3 x) = b3 x) (hc0 : ∀ x hT hS fz, (∀ k, k < 4 → hT k ≠ none) → CMs hT some hS fz (b0 x) (b0 x)) (hc1 : ∀ x hT hS fz, (∀ k, k < 4 → hT k ≠ none) → CMs hT some hS fz (b1 x) (b1 x)) (hc2 : ∀ x hT hS fz, (∀ k, k < 4 → hT k ≠ none) → CMs hT some hS fz (b2 x) (b2 x)) (hc3 : ∀ x hT hS fz, (∀ k, k < 4 → hT k ≠ none) → CMs hT some hS fz (b3 x) (b3 x)) (step : X → St1 → Nat → X) (Inv : Nat → X → Prop)
    (hcl : ∀ d x s (c q : Nat), q < 1000 → Inv q x → c ≤ 3 → stmtOK p d s = true → Inv (q + 1) (step x s c) ∧ DC Try.prog F [.agg s.cells, DI .i64 c, .c (.ptr 0 0), .c (.ptr 1 0)] [some (b0 x), some (b1 x), some (b2 x), some (b3 x)] (fun r h => r = .tup [] ∧ h = [some (b0 (step x s c)), some (b1 (step x s c)), some (b2 (step x s c)), some (b3 (step x s c))])) :
    ∀ (d : Nat) (l : List St1) (x : X) (c q : Nat), Inv q x → c ≤ 3 → (∀ s ∈ l, stmtOK p d s = true) → q + lsize d l ≤ 1000 →
      Inv (q + lsize d l) (eachF p.vars p.arrays step d c x l) ∧ DC Try.prog 39 [.agg p.cells, .c (.isl 11 (St1.cellsL l)), DI .i64 c, .c (.clo F [.ptr 0 0, .ptr 1 0])] [some (b0 x), some (b1 x), some (b2 x), some (b3 x)] (fun r h => r = .tup [] ∧ h = [some (b0 (eachF p.vars p.arrays step d c x l)), some (b1 (eachF p.vars p.arrays step d c x l)), some (b2 (eachF p.vars p.arrays step d c x l)), some (b3 (eachF p.vars p.arrays step d c x l))]) := by
  have hmx := mx_eq
  intro d
  induction d with
  | zero =>
    intro l x c q hx hc hok hsz
    have hnil : l = [] := by
      cases l with
      | nil => rfl
      | cons a r => have := hok a (by simp); simp [stmtOK] at this
    subst hnil
    refine ⟨by rw [lsize_zero]; exact hx, ?_⟩
    obtain ⟨vs, ar, bd⟩ := p
    simp only [eachF]
    generalize hR : (fun (r : D) (h : List (Option (List C))) => r = .tup [] ∧ h = [some (b0 x), some (b1 x), some (b2 x), some (b3 x)]) = R
    refine dcZ Try.func39 ?_
    simp (maxSteps := 9999999) only [go_sem, St1.cellsL, Int.natCast_zero]
    refine Go.loop ?_
    have hz : ((0 : Int) < 0) = False := eq_false (by omega)
    refine drvL Try.func39 ?_
    simp (maxSteps := 9999999) only [go_sem, St1.cellsL, Int.natCast_zero, hz]
    refine RetOb.ofQ some [] (.tup []) [some (b0 x), some (b1 x), some (b2 x), some (b3 x)] ?_ (by rw [← hR]; exact ⟨rfl, rfl⟩) (by simp)
    simp [enumL, DMs, DM, HpOK, LowOK, hOf, upd, hpL]
    refine ⟨hc0 _ _ _ _ ?_, hc1 _ _ _ _ ?_, hc2 _ _ _ _ ?_, hc3 _ _ _ _ ?_⟩
    all_goals (intro k hk; rcases (show k = 0 ∨ k = 1 ∨ k = 2 ∨ k = 3 by omega) with rfl | rfl | rfl | rfl <;> simp [upd])
  | succ d ih =>
    intro l x c q hx hc hok hsz
    have hsub := lsize_subs d l
    have hll : l.length ≤ 1000 := by omega
    let f : X → St1 → X := fun x s => eachF p.vars p.arrays step d (ctxI p.vars p.arrays s c) (eachF p.vars p.arrays step d (ctxI p.vars p.arrays s c) (step x s c) s.body) s.els
    have hfold : ∀ i s, l[i]? = some s → (l.take (i + 1)).foldl f x = f ((l.take i).foldl f x) s := fun i s h => by
      rw [List.take_add_one, h]; simp
    have hres : eachF p.vars p.arrays step (d + 1) c x l = l.foldl f x := rfl
    have hf : ∀ (x : X) (s : St1), f x s = eachF p.vars p.arrays step d (ctxI p.vars p.arrays s c) (eachF p.vars p.arrays step d (ctxI p.vars p.arrays s c) (step x s c) s.body) s.els := fun _ _ => rfl
    clear_value f
    have hlabI := fun e => labelI p hl hl2 h1 h2 5 e
    have hlabL := fun e => labN_le h1 h2 5 e
    have e0 : ∀ y b, renCs (rkey [0, 1, 2, 3] b) (b0 y) = b0 y := fun y b => hr0 y _ (rkey_each4 b)
    have e1 : ∀ y b, renCs (rkey [0, 1, 2, 3] b) (b1 y) = b1 y := fun y b => hr1 y _ (rkey_each4 b)
    have e2 : ∀ y b, renCs (rkey [0, 1, 2, 3] b) (b2 y) = b2 y := fun y b => hr2 y _ (rkey_each4 b)
    have e3 : ∀ y b, renCs (rkey [0, 1, 2, 3] b) (b3 y) = b3 y := fun y b => hr3 y _ (rkey_each4 b)
    generalize hR : (fun (r : D) (h : List (Option (List C))) => r = .tup [] ∧ h = [some (b0 (eachF p.vars p.arrays step (d + 1) c x l)), some (b1 (eachF p.vars p.arrays step (d + 1) c x l)), some (b2 (eachF p.vars p.arrays step (d + 1) c x l)), some (b3 (eachF p.vars p.arrays step (d + 1) c x l))]) = R
    rw [hres] at hR
    rw [hres]
    have hK : ∀ (i : Nat) (s : St1), l[i]? = some s → q + tsum (tsize (d + 1)) l i + 1 + lsize d s.body + lsize d s.els ≤ 1000 ∧ tsum (tsize (d + 1)) l (i + 1) = tsum (tsize (d + 1)) l i + 1 + lsize d s.body + lsize d s.els := fun i s hi => by
      have a1 := tsum_succ (tsize (d + 1)) l i s hi
      have a2 := tsum_le (tsize (d + 1)) l (i + 1)
      have a3 := tsize_subs d s
      have a4 : lsize (d + 1) l = (l.map (tsize (d + 1))).sum := rfl
      simp only [subs] at a3
      omega
    have hround : ∀ (i : Nat) (s : St1), l[i]? = some s → ∀ y, Inv (q + tsum (tsize (d + 1)) l i) y → ctxI p.vars p.arrays s c ≤ 3 ∧
        (Inv (q + tsum (tsize (d + 1)) l i + 1) (step y s c) ∧ DC Try.prog F [.agg s.cells, DI .i64 c, .c (.ptr 0 0), .c (.ptr 1 0)] [some (b0 y), some (b1 y), some (b2 y), some (b3 y)] (fun r h => r = .tup [] ∧ h = [some (b0 (step y s c)), some (b1 (step y s c)), some (b2 (step y s c)), some (b3 (step y s c))])) := fun i s hi y hy => by
      have hmem := List.mem_of_getElem? hi
      have := (hK i s hi).1
      refine ⟨?_, hcl (d + 1) y s c _ (by omega) hy hc (hok s hmem)⟩
      unfold ctxI
      split
      · exact or3 hc (hlabL _)
      · exact hc
    have hsok : ∀ (i : Nat) (s : St1), l[i]? = some s → (∀ t ∈ s.body, stmtOK p d t = true) ∧ (∀ t ∈ s.els, stmtOK p d t = true) ∧ (s.kind = 3 → shape p 5 s.value = true) := fun i s hi => by
      have hs := hok s (List.mem_of_getElem? hi)
      obtain ⟨k, t, ix, v, cc, b, e⟩ := s
      obtain ⟨g1, g2, g3⟩ := stmtOK_succ hs
      refine ⟨g2, g3, fun hk => ?_⟩
      have hk : k = 3 := hk
      subst hk
      rcases head_kind g1 with h | h | h | h
      · omega
      · omega
      · exact (right_shape h.2).1
      · omega
    have hinv : ∀ i, i ≤ l.length → Inv (q + tsum (tsize (d + 1)) l i) ((l.take i).foldl f x) := fun i => by
      induction i with
      | zero => intro _; simpa [tsum] using hx
      | succ i ihi =>
        intro hi
        have hs : l[i]? = some l[i] := by simp [show i < l.length from hi]
        rw [hfold i _ hs, hf, (hK i _ hs).2]
        have hk := (hK i _ hs).1
        have g := hround i _ hs _ (ihi (by omega))
        have g2 := hsok i _ hs
        have b1 := (ih _ _ _ _ g.2.1 g.1 g2.1 (by omega)).1
        have b2 := (ih _ _ _ _ b1 g.1 g2.2.1 (by omega)).1
        have e : q + (tsum (tsize (d + 1)) l i + 1 + lsize d l[i].body + lsize d l[i].els) = q + tsum (tsize (d + 1)) l i + 1 + lsize d l[i].body + lsize d l[i].els := by omega
        rw [e]
        exact b2
    refine ⟨by have := hinv l.length (Nat.le_refl _); rw [List.take_length] at this; rw [tsum_all _ _ (Nat.le_refl _)] at this; exact this, ?_⟩
    obtain ⟨vs, ar, bd⟩ := p
    have h1 : lab3 vs := h1
    have h2 : lab3 ar := h2
    refine dcZ Try.func39 ?_
    simp (maxSteps := 9999999) only [go_sem]
    refine Go.loopQ (fun i : Nat => [(2, DI .i64 c), (3, .c (.clo F [.ptr 0 0, .ptr 1 0])), (4, .c (.ptr 4 0)), (11, .c (.isl 11 (St1.cellsL l))), (12, DI .i64 l.length), (13, DI .i64 i)])
      (fun i => [(0, some (b0 ((l.take i).foldl f x))), (1, some (b1 ((l.take i).foldl f x))), (2, some (b2 ((l.take i).foldl f x))), (3, some (b3 ((l.take i).foldl f x))), (4, some (Pg.cells ⟨vs, ar, bd⟩))]) 4096 (fun i => i ≤ l.length) (fun i => l.length - i) ?_ 0 some [] _ (Nat.zero_le _) ?_
    · intro i hi again
      have hIi := hinv i hi
      rcases Nat.lt_or_ge i l.length with hlt | hge
      · obtain ⟨⟨k, t, ⟨ik, iv, iks⟩, ⟨vk, vv, vks⟩, cc, b, e⟩, hs⟩ : ∃ s, l[i]? = some s := ⟨l[i], by simp [hlt]⟩
        have hfi := hfold i _ hs
        obtain ⟨q1, q4, q5⟩ := hround i _ hs _ hIi
        obtain ⟨q6, q7, q8⟩ := hsok i _ hs
        have hk := (hK i _ hs).1
        simp only [St1.body, St1.els] at hk
        have ihb := ih b _ _ _ q4 q1 q6 (by omega)
        have ihe := ih e _ _ _ ihb.1 q1 q7 (by omega)
        have ihb2 := ihb.2
        have ihe2 := ihe.2
        have hll2 := hlabL (.mk vk vv vks)
        rw [hf] at hfi
        generalize (l.take i).foldl f x = y at *
        refine drvL Try.func39 ?_
        simp (maxSteps := 9999999) only [go_sem, hs, hlt]
        iterate 2 ((try (refine drvZ Try.func39 ?_; simp (maxSteps := 9999999) only [go_sem, hs, hlt])); (try ((with_reducible refine And.intro ?_ ?_) <;> (repeat' with_reducible apply And.intro) <;> try exact sd)))
        refine XK.callG [0, 1, 2, 3] q5 hF (hhp_each4 (by rw [Option.map_some, hr0 _ _ (rkid_each4 _)]; rfl) (by rw [Option.map_some, hr1 _ _ (rkid_each4 _)]; rfl) (by rw [Option.map_some, hr2 _ _ (rkid_each4 _)]; rfl) (by rw [Option.map_some, hr3 _ _ (rkid_each4 _)]; rfl)) (hbT ()) (fun d h' ⟨_, e⟩ => by subst e; simp) ?_
        rintro _ _ ⟨rfl, rfl⟩ _
        by_cases hk : k = 3
        · subst hk
          have hlb := hlabI (.mk vk vv vks) (q8 rfl)
          have hcx : ctxI vs ar (.mk 3 t (.mk ik iv iks) (.mk vk vv vks) cc b e) c = c ||| labN vs ar 5 (.mk vk vv vks) := by simp [ctxI, St1.kind, St1.value]
          iterate 4 ((try (refine drvZ Try.func39 ?_; simp (maxSteps := 9999999) only [go_sem, hs, hlt, e0, e1, e2, e3])); (try ((with_reducible refine And.intro ?_ ?_) <;> (repeat' with_reducible apply And.intro) <;> try exact sd)))
          refine XK.plain hlb ok71 ?_ (hbT ())
          rw [hcx] at ihb2 ihe2 hfi q1
          generalize labN vs ar 5 (.mk vk vv vks) = lb at *
          iterate 4 ((try (refine drvZ Try.func39 ?_; simp (maxSteps := 9999999) only [go_sem, hs, hlt, e0, e1, e2, e3])); (try ((with_reducible refine And.intro ?_ ?_) <;> (repeat' with_reducible apply And.intro) <;> try exact sd)))
          refine XK.callG [0, 1, 2, 3] ihb2 ok39 (hhp_each4 (by rw [Option.map_some, hr0 _ _ (rkid_each4 _)]; rfl) (by rw [Option.map_some, hr1 _ _ (rkid_each4 _)]; rfl) (by rw [Option.map_some, hr2 _ _ (rkid_each4 _)]; rfl) (by rw [Option.map_some, hr3 _ _ (rkid_each4 _)]; rfl)) (hbT ()) (fun d h' ⟨_, e⟩ => by subst e; simp) ?_
          rintro _ _ ⟨rfl, rfl⟩ _
          iterate 4 ((try (refine drvZ Try.func39 ?_; simp (maxSteps := 9999999) only [go_sem, hs, hlt, e0, e1, e2, e3])); (try ((with_reducible refine And.intro ?_ ?_) <;> (repeat' with_reducible apply And.intro) <;> try exact sd)))
          refine XK.callG [0, 1, 2, 3] ihe2 ok39 (hhp_each4 (by rw [Option.map_some, hr0 _ _ (rkid_each4 _)]; rfl) (by rw [Option.map_some, hr1 _ _ (rkid_each4 _)]; rfl) (by rw [Option.map_some, hr2 _ _ (rkid_each4 _)]; rfl) (by rw [Option.map_some, hr3 _ _ (rkid_each4 _)]; rfl)) (hbT ()) (fun d h' ⟨_, e⟩ => by subst e; simp) ?_
          rintro _ _ ⟨rfl, rfl⟩ _
          iterate 4 ((try (refine drvZ Try.func39 ?_; simp (maxSteps := 9999999) only [go_sem, hs, hlt, e0, e1, e2, e3])); (try ((with_reducible refine And.intro ?_ ?_) <;> (repeat' with_reducible apply And.intro) <;> try exact sd)))
          refine again (i + 1) some [] _ hlt (by omega) ?_
          simp (maxSteps := 9999999) only [go_sem, TmOK, DM, DMs, CM, CMs, forall_eq, exists_eq_left, Mq, HpOK, LowOK, hfi]
          simp
          refine ⟨hc0 _ _ _ _ ?_, hc1 _ _ _ _ ?_, hc2 _ _ _ _ ?_, hc3 _ _ _ _ ?_⟩
          all_goals (intro k hk; rcases (show k = 0 ∨ k = 1 ∨ k = 2 ∨ k = 3 by omega) with rfl | rfl | rfl | rfl <;> simp [upd])
        · have hkb : (k == 3) = false := by simp [hk]
          have hcx : ctxI vs ar (.mk k t (.mk ik iv iks) (.mk vk vv vks) cc b e) c = c := by simp [ctxI, St1.kind, hk]
          rw [hcx] at ihb2 ihe2 hfi
          iterate 4 ((try (refine drvZ Try.func39 ?_; simp (maxSteps := 9999999) only [go_sem, hs, hlt, e0, e1, e2, e3, hk, hkb])); (try ((with_reducible refine And.intro ?_ ?_) <;> (repeat' with_reducible apply And.intro) <;> try exact sd)))
          refine XK.callG [0, 1, 2, 3] ihb2 ok39 (hhp_each4 (by rw [Option.map_some, hr0 _ _ (rkid_each4 _)]; rfl) (by rw [Option.map_some, hr1 _ _ (rkid_each4 _)]; rfl) (by rw [Option.map_some, hr2 _ _ (rkid_each4 _)]; rfl) (by rw [Option.map_some, hr3 _ _ (rkid_each4 _)]; rfl)) (hbT ()) (fun d h' ⟨_, e⟩ => by subst e; simp) ?_
          rintro _ _ ⟨rfl, rfl⟩ _
          iterate 4 ((try (refine drvZ Try.func39 ?_; simp (maxSteps := 9999999) only [go_sem, hs, hlt, e0, e1, e2, e3])); (try ((with_reducible refine And.intro ?_ ?_) <;> (repeat' with_reducible apply And.intro) <;> try exact sd)))
          refine XK.callG [0, 1, 2, 3] ihe2 ok39 (hhp_each4 (by rw [Option.map_some, hr0 _ _ (rkid_each4 _)]; rfl) (by rw [Option.map_some, hr1 _ _ (rkid_each4 _)]; rfl) (by rw [Option.map_some, hr2 _ _ (rkid_each4 _)]; rfl) (by rw [Option.map_some, hr3 _ _ (rkid_each4 _)]; rfl)) (hbT ()) (fun d h' ⟨_, e⟩ => by subst e; simp) ?_
          rintro _ _ ⟨rfl, rfl⟩ _
          iterate 4 ((try (refine drvZ Try.func39 ?_; simp (maxSteps := 9999999) only [go_sem, hs, hlt, e0, e1, e2, e3])); (try ((with_reducible refine And.intro ?_ ?_) <;> (repeat' with_reducible apply And.intro) <;> try exact sd)))
          refine again (i + 1) some [] _ hlt (by omega) ?_
          simp (maxSteps := 9999999) only [go_sem, TmOK, DM, DMs, CM, CMs, forall_eq, exists_eq_left, Mq, HpOK, LowOK, hfi]
          simp
          refine ⟨hc0 _ _ _ _ ?_, hc1 _ _ _ _ ?_, hc2 _ _ _ _ ?_, hc3 _ _ _ _ ?_⟩
          all_goals (intro k hk; rcases (show k = 0 ∨ k = 1 ∨ k = 2 ∨ k = 3 by omega) with rfl | rfl | rfl | rfl <;> simp [upd])
      · have hn : ¬ i < l.length := by omega
        obtain rfl : i = l.length := by omega
        refine drvL Try.func39 ?_
        simp (maxSteps := 9999999) only [go_sem, hn, List.take_length]
        iterate 2 ((try (refine drvZ Try.func39 ?_; simp (maxSteps := 9999999) only [go_sem, hn, List.take_length])); (try ((with_reducible refine And.intro ?_ ?_) <;> (repeat' with_reducible apply And.intro) <;> try exact sd)))
        refine RetOb.ofQ some [] (.tup []) [some (b0 (l.foldl f x)), some (b1 (l.foldl f x)), some (b2 (l.foldl f x)), some (b3 (l.foldl f x))] ?_ (by rw [← hR]; exact ⟨rfl, rfl⟩) (by simp)
        simp [enumL, DMs, DM, HpOK, LowOK, hOf, upd, hpL]
        refine ⟨hc0 _ _ _ _ ?_, hc1 _ _ _ _ ?_, hc2 _ _ _ _ ?_, hc3 _ _ _ _ ?_⟩
        all_goals (intro k hk; rcases (show k = 0 ∨ k = 1 ∨ k = 2 ∨ k = 3 by omega) with rfl | rfl | rfl | rfl <;> simp [upd])
    · simp (maxSteps := 9999999) only [go_sem, TmOK, DM, DMs, CM, CMs, forall_eq, exists_eq_left, Mq, HpOK, LowOK, List.take_zero, List.foldl_nil]
      simp
      refine ⟨hc0 _ _ _ _ ?_, hc1 _ _ _ _ ?_, hc2 _ _ _ _ ?_, hc3 _ _ _ _ ?_⟩
      all_goals (intro k hk; rcases (show k = 0 ∨ k = 1 ∨ k = 2 ∨ k = 3 by omega) with rfl | rfl | rfl | rfl <;> simp [upd])
end Go.Proofs.Ytmagbjbanpgmhaa.CtR

namespace Go.Proofs.Ytmagbjbanpgmhaa.CtR
open Go Go.CT CtF
def wStep (x : List Bool × List Bool) (s : St1) (_ : Nat) : List Bool × List Bool :=
  if s.kind = 1 ∨ s.kind = 5 then (x.1.set s.target.toNat true, x.2) else if s.kind = 2 then (x.1, x.2.set s.target.toNat true) else x
def wB0 (x : List Bool × List Bool) : List C := [.msl 2 1 0 x.1.length]
def wB1 (x : List Bool × List Bool) : List C := [.msl 3 1 0 x.2.length]
def wB2 (x : List Bool × List Bool) : List C := boolsC x.1
def wB3 (x : List Bool × List Bool) : List C := boolsC x.2
theorem writes1 (x : List Bool × List Bool) (s : St1) (c : Nat) (ht1 : s.kind = 1 ∨ s.kind = 5 → 0 ≤ s.target ∧ s.target < x.1.length) (ht2 : s.kind = 2 → 0 ≤ s.target ∧ s.target < x.2.length) :
    DC Try.prog 40 [.agg s.cells, DI .i64 c, .c (.ptr 0 0), .c (.ptr 1 0)] [some (wB0 x), some (wB1 x), some (wB2 x), some (wB3 x)]
      (fun r h => r = .tup [] ∧ h = [some (wB0 (wStep x s c)), some (wB1 (wStep x s c)), some (wB2 (wStep x s c)), some (wB3 (wStep x s c))]) := by
  have hmx := mx_eq
  obtain ⟨k, t, ⟨ik, iv, iks⟩, ⟨vk, vv, vks⟩, cc, b, e⟩ := s
  obtain ⟨xv, xa⟩ := x
  simp only [St1.kind, St1.target] at ht1 ht2
  generalize hR : (fun (r : D) (h : List (Option (List C))) => r = .tup [] ∧ h = [some (wB0 (wStep (xv, xa) _ c)), some (wB1 (wStep (xv, xa) _ c)), some (wB2 (wStep (xv, xa) _ c)), some (wB3 (wStep (xv, xa) _ c))]) = R
  simp only [wB0, wB1, wB2, wB3, wStep, St1.kind, St1.target] at hR ⊢
  have hlv := boolsC_len xv
  have hla := boolsC_len xa
  have fin : ∀ (yv ya : List Bool) (hp : Hp), yv.length = xv.length → ya.length = xa.length → R (.tup []) [some [.msl 2 1 0 yv.length], some [.msl 3 1 0 ya.length], some (boolsC yv), some (boolsC ya)] → hp 0 = some (some [.msl 2 1 0 xv.length]) → hp 1 = some (some [.msl 3 1 0 xa.length]) → hp 2 = some (some (boolsC yv)) → hp 3 = some (some (boolsC ya)) → RetOb 4 R (.tup []) hp := fun yv ya hp g1 g2 g3 g4 g5 g6 g7 => by
    refine RetOb.ofQ some [] (.tup []) _ ?_ g3 (by simp)
    simp [enumL, DM, DMs, CM, CMs, HpOK, LowOK, hOf, upd, g4, g5, g6, g7, g1, g2]
    exact ⟨CMs.kf (boolsC_kf _), CMs.kf (boolsC_kf _)⟩
  have key : k = 1 ∨ k = 5 ∨ k = 2 ∨ (k ≠ 1 ∧ k ≠ 5 ∧ k ≠ 2) := by omega
  rcases key with rfl | rfl | rfl | ⟨h1, h5, h2⟩
  · have ht := ht1 (.inl rfl)
    refine dcZ Try.func40 ?_
    simp (maxSteps := 9999999) only [go_sem]
    iterate 4 ((try (refine drvZ Try.func40 ?_; simp (maxSteps := 9999999) only [go_sem, boolsC_set, boolsC_len])); (try ((with_reducible refine And.intro ?_ ?_) <;> (repeat' with_reducible apply And.intro) <;> try exact sd)))
    exact fin (xv.set t.toNat true) xa _ (by simp) rfl (by rw [← hR]; exact ⟨rfl, rfl⟩) rfl rfl rfl rfl
  · have ht := ht1 (.inr rfl)
    refine dcZ Try.func40 ?_
    simp (maxSteps := 9999999) only [go_sem]
    iterate 4 ((try (refine drvZ Try.func40 ?_; simp (maxSteps := 9999999) only [go_sem, boolsC_set, boolsC_len])); (try ((with_reducible refine And.intro ?_ ?_) <;> (repeat' with_reducible apply And.intro) <;> try exact sd)))
    exact fin (xv.set t.toNat true) xa _ (by simp) rfl (by rw [← hR]; exact ⟨rfl, rfl⟩) rfl rfl rfl rfl
  · have ht := ht2 rfl
    refine dcZ Try.func40 ?_
    simp (maxSteps := 9999999) only [go_sem]
    iterate 4 ((try (refine drvZ Try.func40 ?_; simp (maxSteps := 9999999) only [go_sem, boolsC_set, boolsC_len])); (try ((with_reducible refine And.intro ?_ ?_) <;> (repeat' with_reducible apply And.intro) <;> try exact sd)))
    exact fin xv (xa.set t.toNat true) _ rfl (by simp) (by rw [← hR]; exact ⟨rfl, rfl⟩) rfl rfl rfl rfl
  · have e1 : (k == 1) = false := by simp [h1]
    have e5 : (k == 5) = false := by simp [h5]
    have e2 : (k == 2) = false := by simp [h2]
    refine dcZ Try.func40 ?_
    simp (maxSteps := 9999999) only [go_sem, h1, h5, h2, e1, e5, e2]
    iterate 4 ((try (refine drvZ Try.func40 ?_; simp (maxSteps := 9999999) only [go_sem, h1, h5, h2, e1, e5, e2])); (try ((with_reducible refine And.intro ?_ ?_) <;> (repeat' with_reducible apply And.intro) <;> try exact sd)))
    exact fin xv xa _ rfl rfl (by rw [← hR]; simp [h1, h5, h2]) rfl rfl rfl rfl
end Go.Proofs.Ytmagbjbanpgmhaa.CtR

namespace Go.Proofs.Ytmagbjbanpgmhaa.CtR
open Go Go.CT CtF

def wrP (p : Pg) : List Bool × List Bool := if progOK p then eachF p.vars p.arrays wStep 5 0 (List.replicate p.vars.length false, List.replicate p.arrays.length false) p.body else ([], [])
theorem wkC0 (r : Nat → Nat) (k n : Nat) (h : r k = k) : renCs r [.msl k 1 0 n] = [.msl k 1 0 n] := by simp [renCs, renC, h]
theorem wCM (k n : Nat) {hT hS : Hp} {fz : List Nat} (h : hT k ≠ none) : CMs hT some hS fz [.msl k 1 0 n] [.msl k 1 0 n] := by simp [CMs, CM, h]

theorem programWrites (p : Pg) (hl : p.vars.length ≤ mx) (hl2 : p.arrays.length ≤ mx) : DC Try.prog 13 [.agg p.cells] [] (fun r h => r = .tup [.c (boolsD (wrP p).1), .c (boolsD (wrP p).2)] ∧ h = []) := by
  have hmx := mx_eq
  have hv := programValidI p hl hl2
  generalize hR : (fun (r : D) (h : List (Option (List C))) => r = .tup [.c (boolsD (wrP p).1), .c (boolsD (wrP p).2)] ∧ h = []) = R
  cases hq : progOK p with
  | false =>
    rw [hq] at hv
    have hw : wrP p = ([], []) := by unfold wrP; rw [hq]; rfl
    obtain ⟨vs, ar, bd⟩ := p
    refine dcZ Try.func13 ?_
    simp (maxSteps := 9999999) only [go_sem]
    ((try (refine drvZ Try.func13 ?_; simp (maxSteps := 9999999) only [go_sem])); (try ((with_reducible refine And.intro ?_ ?_) <;> (repeat' with_reducible apply And.intro) <;> try exact sd)))
    refine XK.plain hv ok31 ?_ (hbT ())
    iterate 3 ((try (refine drvZ Try.func13 ?_; simp (maxSteps := 9999999) only [go_sem])); (try ((with_reducible refine And.intro ?_ ?_) <;> (repeat' with_reducible apply And.intro) <;> try exact sd)))
    refine RetOb.ofQ (fun _ => none) [] (.tup [.c (boolsD []), .c (boolsD [])]) [] ?_ (by rw [← hR, hw]; exact ⟨rfl, rfl⟩) (by simp)
    simp [enumL, DM, DMs, CM, HpOK, LowOK, boolsD]
  | true =>
    rw [hq] at hv
    have hw : wrP p = eachF p.vars p.arrays wStep 5 0 (List.replicate p.vars.length false, List.replicate p.arrays.length false) p.body := by unfold wrP; rw [hq]; rfl
    have hlab := labs_of hq
    have hbo := body_of hq
    have hea := each4 p hl hl2 hlab.1 hlab.2 40 ok40 wB0 wB1 wB2 wB3
      (fun x r h => wkC0 r 2 _ (h 2 (by decide))) (fun x r h => wkC0 r 3 _ (h 3 (by decide))) (fun x r h => boolsC_ren r _) (fun x r h => boolsC_ren r _)
      (fun x hT hS fz h => wCM 2 _ (h 2 (by decide))) (fun x hT hS fz h => wCM 3 _ (h 3 (by decide))) (fun x hT hS fz h => CMs.kf (boolsC_kf _)) (fun x hT hS fz h => CMs.kf (boolsC_kf _)) wStep
      (fun _ x => x.1.length = p.vars.length ∧ x.2.length = p.arrays.length)
      (fun d x s c _ _ hx hc hs => by
        have hk : (s.kind = 1 ∨ s.kind = 5 → 0 ≤ s.target ∧ s.target < p.vars.length) ∧ (s.kind = 2 → 0 ≤ s.target ∧ s.target < p.arrays.length) := by
          cases d with
          | zero => simp [stmtOK] at hs
          | succ d =>
            obtain ⟨k, t, ix, v, cc, b, e⟩ := s
            have h := head_kind (stmtOK_succ hs).1
            simp only [St1.kind, St1.target]
            omega
        refine ⟨?_, writes1 x s c (by rw [hx.1]; exact hk.1) (by rw [hx.2]; exact hk.2)⟩
        unfold wStep
        split
        · exact ⟨by simpa using hx.1, hx.2⟩
        · split
          · exact ⟨hx.1, by simpa using hx.2⟩
          · exact hx) 5 p.body (List.replicate p.vars.length false, List.replicate p.arrays.length false) 0 0 ⟨by simp, by simp⟩ (by decide) hbo.1 (by have := hbo.2; omega)
    rw [← hw] at hea
    obtain ⟨⟨hi1, hi2⟩, hea⟩ := hea
    generalize wrP p = w at *
    obtain ⟨wv, wa⟩ := w
    have hp1 := (prog_len2 hq)
    obtain ⟨vs, ar, bd⟩ := p
    have hp1 : 1 ≤ vs.length ∧ vs.length ≤ 12 ∧ ar.length ≤ 2 := hp1
    have hi1 : wv.length = vs.length := hi1
    have hi2 : wa.length = ar.length := hi2
    simp only [wB0, wB1, wB2, wB3, List.length_replicate] at hea
    refine dcZ Try.func13 ?_
    simp (maxSteps := 9999999) only [go_sem]
    ((try (refine drvZ Try.func13 ?_; simp (maxSteps := 9999999) only [go_sem])); (try ((with_reducible refine And.intro ?_ ?_) <;> (repeat' with_reducible apply And.intro) <;> try exact sd)))
    refine XK.plain hv ok31 ?_ (hbT ())
    iterate 4 ((try (refine drvZ Try.func13 ?_; simp (maxSteps := 9999999) only [go_sem, boolsC_rep])); (try ((with_reducible refine And.intro ?_ ?_) <;> (repeat' with_reducible apply And.intro) <;> try exact sd)))
    refine XK.callG [896, 960, 576, 832] hea ok39 (hhp4 (by simp [upd, renCs, renC, rk0]) (by simp [upd, renCs, renC, rk0]) (by simp [upd, boolsC_ren]) (by simp [upd, boolsC_ren])) (hbT ()) (fun d h' ⟨_, e⟩ => by subst e; simp) ?_
    rintro _ _ ⟨rfl, rfl⟩ _
    iterate 4 ((try (refine drvZ Try.func13 ?_; simp (maxSteps := 9999999) only [go_sem, boolsC_rep, boolsC_ren])); (try ((with_reducible refine And.intro ?_ ?_) <;> (repeat' with_reducible apply And.intro) <;> try exact sd)))
    refine RetOb.ofQ (fun _ => none) [576, 832] (.tup [.c (boolsD wv), .c (boolsD wa)]) [] ?_ (by rw [← hR]; exact ⟨rfl, rfl⟩) (by simp)
    simp [enumL, DM, DMs, CM, HpOK, LowOK, boolsD, hOf, upd, boolsC_flat, kf]
    refine ⟨⟨?_, ?_⟩, ?_, ?_⟩ <;> (rintro x (⟨_, rfl⟩ | ⟨_, rfl⟩)) <;> simp
end Go.Proofs.Ytmagbjbanpgmhaa.CtR

namespace Go.Proofs.Ytmagbjbanpgmhaa.CtR
open Go Go.CT CtF

/-! What a program does not mark as written, it does not change. -/
def wvS (i : Nat) : Nat → St1 → Bool
  | 0, _ => false
  | d + 1, .mk k t _ _ _ b e => (decide (k = 1 ∨ k = 5) && t.toNat == i) || b.any (wvS i d) || e.any (wvS i d)
def waS (i : Nat) : Nat → St1 → Bool
  | 0, _ => false
  | d + 1, .mk k t _ _ _ b e => (decide (k = 2) && t.toNat == i) || b.any (waS i d) || e.any (waS i d)
theorem each_wv (vs ar : List Int) (i : Nat) : ∀ (d c : Nat) (x : List Bool × List Bool) (l : List St1), i < x.1.length →
    (eachF vs ar wStep d c x l).1.length = x.1.length ∧ (eachF vs ar wStep d c x l).1.getD i false = (x.1.getD i false || l.any (wvS i d)) := by
  intro d
  induction d with
  | zero =>
    intro c x l h
    refine ⟨rfl, ?_⟩
    have : l.any (wvS i 0) = false := by
      rw [List.any_eq_false]; intro s _; simp [wvS]
    simp only [eachF, this, Bool.or_false]
  | succ d ih =>
    intro c x l h
    simp only [eachF]
    induction l generalizing x with
    | nil => simp
    | cons s r ihl =>
      simp only [List.foldl_cons, List.any_cons]
      have hst : (wStep x s c).1.length = x.1.length := by unfold wStep; split <;> (try split) <;> simp
      have hb := ih (ctxI vs ar s c) (wStep x s c) s.body (by rw [hst]; exact h)
      have he := ih (ctxI vs ar s c) _ s.els (by rw [hb.1, hst]; exact h)
      have hr := ihl _ (by rw [he.1, hb.1, hst]; exact h)
      refine ⟨by rw [hr.1, he.1, hb.1, hst], ?_⟩
      rw [hr.2, he.2, hb.2]
      obtain ⟨k, t, ix, v, cc, b, e⟩ := s
      simp only [wvS, St1.body, St1.els]
      have hw : (wStep x (.mk k t ix v cc b e) c).1.getD i false = (x.1.getD i false || (decide (k = 1 ∨ k = 5) && t.toNat == i)) := by
        unfold wStep
        simp only [St1.kind, St1.target]
        by_cases hk : k = 1 ∨ k = 5
        · simp only [hk, if_true, decide_true, Bool.true_and]
          simp only [List.getD_eq_getElem?_getD, List.getElem?_set]
          by_cases ht : t.toNat = i
          · simp [ht, h]
          · simp [ht]
        · simp only [hk, if_false, decide_false, Bool.false_and, Bool.or_false]
          by_cases hk2 : k = 2 <;> simp [hk2]
      rw [hw]
      simp only [Bool.or_assoc]
theorem each_wa (vs ar : List Int) (i : Nat) : ∀ (d c : Nat) (x : List Bool × List Bool) (l : List St1), i < x.2.length →
    (eachF vs ar wStep d c x l).2.length = x.2.length ∧ (eachF vs ar wStep d c x l).2.getD i false = (x.2.getD i false || l.any (waS i d)) := by
  intro d
  induction d with
  | zero =>
    intro c x l h
    refine ⟨rfl, ?_⟩
    have : l.any (waS i 0) = false := by
      rw [List.any_eq_false]; intro s _; simp [waS]
    simp only [eachF, this, Bool.or_false]
  | succ d ih =>
    intro c x l h
    simp only [eachF]
    induction l generalizing x with
    | nil => simp
    | cons s r ihl =>
      simp only [List.foldl_cons, List.any_cons]
      have hst : (wStep x s c).2.length = x.2.length := by unfold wStep; split <;> (try split) <;> simp
      have hb := ih (ctxI vs ar s c) (wStep x s c) s.body (by rw [hst]; exact h)
      have he := ih (ctxI vs ar s c) _ s.els (by rw [hb.1, hst]; exact h)
      have hr := ihl _ (by rw [he.1, hb.1, hst]; exact h)
      refine ⟨by rw [hr.1, he.1, hb.1, hst], ?_⟩
      rw [hr.2, he.2, hb.2]
      obtain ⟨k, t, ix, v, cc, b, e⟩ := s
      simp only [waS, St1.body, St1.els]
      have hw : (wStep x (.mk k t ix v cc b e) c).2.getD i false = (x.2.getD i false || (decide (k = 2) && t.toNat == i)) := by
        unfold wStep
        simp only [St1.kind, St1.target]
        by_cases hk : k = 2
        · subst hk
          simp only [show ¬ ((2 : Int) = 1 ∨ (2 : Int) = 5) by decide, if_false, if_true, decide_true, Bool.true_and]
          simp only [List.getD_eq_getElem?_getD, List.getElem?_set]
          by_cases ht : t.toNat = i
          · simp [ht, h]
          · simp [ht]
        · simp only [hk, if_false, decide_false, Bool.false_and, Bool.or_false]
          by_cases hq : k = 1 ∨ k = 5 <;> simp [hq]
      rw [hw]
      simp only [Bool.or_assoc]
end Go.Proofs.Ytmagbjbanpgmhaa.CtR
