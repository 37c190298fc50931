/- Contracts of functions of the program, one behind the other, as plain data: what each call returns and which blocks it leaves. -/
import Derived.Test.YtehmajhoaibphaaGreatMFacts
import Derived.Test.YtehmajhoaibphaaGreatMAk
import Derived.Test.YtehmajhoaibphaaGreatMAl
import Derived.Test.YtehmajhoaibphaaGreatMAm
import Derived.Test.YtehmajhoaibphaaGreatMAn
import Derived.Test.YtehmajhoaibphaaGreatMAo
import Derived.Test.YtehmajhoaibphaaGreatMAq
import Derived.Test.YtehmajhoaibphaaGreatMAt
import Derived.Test.YtehmajhoaibphaaGreatMAj
import Derived.Test.YtehmajhoaibphaaGreatMAr
set_option linter.unusedVariables false
set_option linter.unusedSimpArgs false
set_option maxHeartbeats 16000000
set_option maxRecDepth 100000
namespace Go.Proofs.YtehmajhoaibphaaGreat.CtR
open Go Go.CT CtF

theorem shape_bd (vs ar : List Int) (b1 b2 : List St1) : ∀ (d : Nat) (e : Ex), shape ⟨vs, ar, b1⟩ d e = shape ⟨vs, ar, b2⟩ d e
  | 0, _ => rfl
  | d + 1, .mk k v ks => by
    have h : shape ⟨vs, ar, b1⟩ d = shape ⟨vs, ar, b2⟩ d := funext (shape_bd vs ar b1 b2 d)
    simp only [shape, h]
    rfl
theorem right_bd (vs ar : List Int) (b1 b2 : List St1) (e : Ex) : right ⟨vs, ar, b1⟩ e = right ⟨vs, ar, b2⟩ e := by simp only [right, shape_bd vs ar b1 b2]
theorem stmtOK_bd (vs ar : List Int) (b1 b2 : List St1) : ∀ (d : Nat) (s : St1), stmtOK ⟨vs, ar, b1⟩ d s = stmtOK ⟨vs, ar, b2⟩ d s
  | 0, _ => rfl
  | d + 1, .mk k t ix v c b e => by
    have h : stmtOK ⟨vs, ar, b1⟩ d = stmtOK ⟨vs, ar, b2⟩ d := funext (stmtOK_bd vs ar b1 b2 d)
    simp only [stmtOK, headOK, right_bd vs ar b1 b2, h]
theorem lsize_app (d : Nat) (a b : List St1) : lsize d (a ++ b) = lsize d a + lsize d b := by simp [lsize]
theorem progOK_sub {vs ar : List Int} {bd b2 : List St1} (h : progOK ⟨vs, ar, bd⟩ = true) (hs : ∀ s ∈ b2, s ∈ bd) (hl : lsize 5 b2 ≤ lsize 5 bd) : progOK ⟨vs, ar, b2⟩ = true := by
  simp only [progOK, Bool.and_eq_true, decide_eq_true_eq, List.all_eq_true] at h ⊢
  exact ⟨⟨h.1.1, fun s hx => by rw [stmtOK_bd vs ar b2 bd]; exact h.1.2 s (hs s hx)⟩, by omega⟩
end Go.Proofs.YtehmajhoaibphaaGreat.CtR

namespace Go.Proofs.YtehmajhoaibphaaGreat.CtR
open Go Go.CT CtF

/-- The label of an expression. -/
def labB (vs ar : List Int) (k v : Int) : Nat := if k = 2 then (nth vs v).toNat else if k = 3 then (nth ar v).toNat else 0
def labN (vs ar : List Int) : Nat → Ex → Nat
  | 0, _ => 0
  | d + 1, .mk k v ks => (ks.map (labN vs ar d)).foldl (fun a b => a ||| b) (labB vs ar k v)
def lab3 (l : List Int) : Prop := ∀ x ∈ l, 0 ≤ x ∧ x ≤ 3
theorem or3 {a b : Nat} (ha : a ≤ 3) (hb : b ≤ 3) : a ||| b ≤ 3 := by
  have := Nat.or_lt_two_pow (x := a) (y := b) (n := 2) (by omega) (by omega)
  omega
theorem nth_lab {l : List Int} (h : lab3 l) (v : Int) : 0 ≤ nth l v ∧ nth l v ≤ 3 := by
  unfold nth
  rw [List.getD_eq_getElem?_getD]
  cases hx : l[v.toNat]? with
  | none => simp
  | some x => simpa using h x (List.mem_of_getElem? hx)
theorem foldl_or3 : ∀ (l : List Nat) (a : Nat), a ≤ 3 → (∀ x ∈ l, x ≤ 3) → l.foldl (fun a b => a ||| b) a ≤ 3
  | [], a, h, _ => h
  | x :: r, a, h, h2 => foldl_or3 r _ (or3 h (h2 x (by simp))) fun y hy => h2 y (by simp [hy])
theorem labN_le {vs ar : List Int} (h1 : lab3 vs) (h2 : lab3 ar) : ∀ (d : Nat) (e : Ex), labN vs ar d e ≤ 3
  | 0, _ => Nat.zero_le _
  | d + 1, .mk k v ks => by
    refine foldl_or3 _ _ ?_ fun x hx => ?_
    · unfold labB
      have := nth_lab h1 v
      have := nth_lab h2 v
      split
      · omega
      · split <;> omega
    · obtain ⟨y, _, rfl⟩ := List.mem_map.1 hx
      exact labN_le h1 h2 d y
theorem lab_succ (f : Ex → Nat) (a : Nat) (ks : List Ex) (i : Nat) (x : Ex) (h : ks[i]? = some x) : ((ks.take (i + 1)).map f).foldl (fun a b => a ||| b) a = ((ks.take i).map f).foldl (fun a b => a ||| b) a ||| f x := by
  rw [List.take_add_one, h]
  simp
theorem labs_of {p : Pg} (h : progOK p = true) : lab3 p.vars ∧ lab3 p.arrays := by
  simp only [progOK, headsOK, labs, Bool.and_eq_true, decide_eq_true_eq, List.all_eq_true] at h
  exact ⟨fun x hx => h.1.1.1.2 x hx, fun x hx => h.1.1.2 x hx⟩

theorem labelI (p : Pg) (hl : p.vars.length ≤ mx) (hl2 : p.arrays.length ≤ mx) (h1 : lab3 p.vars) (h2 : lab3 p.arrays) : ∀ (d : Nat) (e : Ex), shape p d e = true → DC Tryz.prog 95 [.agg p.cells, .agg e.cells] [] (fun r h => r = DI .i64 (labN p.vars p.arrays d e) ∧ h = []) := by
  have hmx := mx_eq
  intro d
  induction d with
  | zero => intro e h; simp [shape] at h
  | succ d ih =>
    intro e hsh
    obtain ⟨k, v, ks⟩ := e
    obtain ⟨g1, g2, g3⟩ := shape_succ hsh
    obtain ⟨hl3, hla, hv0, hv1⟩ := fits_len g1
    obtain ⟨vs, ar, bd⟩ := p
    have h1 : lab3 vs := h1
    have h2 : lab3 ar := h2
    generalize hR : (fun (r : D) (h : List (Option (List C))) => r = DI .i64 (labN vs ar (d + 1) (.mk k v ks)) ∧ h = []) = R
    have hle := fun e => labN_le h1 h2 d e
    have hacc : ∀ i, ((ks.take i).map (labN vs ar d)).foldl (fun a b => a ||| b) (labB vs ar k v) ≤ 3 := fun i => by
      have := labN_le h1 h2 (d + 1) (.mk k v (ks.take i))
      exact this
    have hlb : labB vs ar k v ≤ 3 := hacc 0
    have key : k = 2 ∨ k = 3 ∨ (k ≠ 2 ∧ k ≠ 3) := by omega
    rcases key with hk | hk | ⟨hk2, hk3⟩
    · have hv1' : v < vs.length := by subst hk; simpa [limit] using hv1
      have hx := (nth_mem (l := vs) hv0 hv1').1
      have hB : ((labB vs ar k v : Nat) : Int) = nth vs v := by have := nth_lab h1 v; simp [labB, hk]; omega
      have e2 : (k == 2) = true := by simp [hk]
      have e3 : (k == 3) = false := by simp [hk]
      have f2 : (k = 2) = True := by simp [hk]
      have f3 : (k = 3) = False := by simp [hk]
      refine dcZ Tryz.func95 ?_
      simp (maxSteps := 9999999) only [go_sem]
      iterate 4 ((try (refine drvZ Tryz.func95 ?_; simp (maxSteps := 9999999) only [go_sem, e2, e3, f2, f3, hx])); (try ((with_reducible refine And.intro ?_ ?_) <;> (repeat' with_reducible apply And.intro) <;> try exact sd)))
      refine Go.loopQ (fun i : Nat => [(2, .c (.ptr 0 0)), (5, DI .i64 (((ks.take i).map (labN vs ar d)).foldl (fun a b => a ||| b) (labB vs ar k v) : Nat)), (27, .c (.isl 3 (Ex.cellsL ks))), (28, DI .i64 ks.length), (29, DI .i64 i)]) (fun i => [(0, some (Pg.cells ⟨vs, ar, bd⟩))])
        4096 (fun i => i ≤ ks.length) (fun i => ks.length - i) ?_ 0 some [] _ (Nat.zero_le _) ?_
      · intro i hi again
        rcases Nat.lt_or_ge i ks.length with hlt | hge
        · obtain ⟨⟨k', v', ks'⟩, hx⟩ : ∃ x, ks[i]? = some x := ⟨ks[i], by simp [hlt]⟩
          have hsc := lab_succ (labN vs ar d) (labB vs ar k v) ks i _ hx
          have ha := hacc i
          have hb := hle (.mk k' v' ks')
          have hc := hacc (i + 1)
          rw [hsc] at hc
          generalize ((ks.take i).map (labN vs ar d)).foldl (fun a b => a ||| b) (labB vs ar k v) = acc at *
          refine drvL Tryz.func95 ?_
          simp (maxSteps := 9999999) only [go_sem, hx, hlt]
          iterate 2 ((try (refine drvZ Tryz.func95 ?_; simp (maxSteps := 9999999) only [go_sem, hx, hlt])); (try ((with_reducible refine And.intro ?_ ?_) <;> (repeat' with_reducible apply And.intro) <;> try exact sd)))
          refine XK.plain (ih (.mk k' v' ks') (g2 _ (List.mem_of_getElem? hx))) ok95 ?_ (hbT ())
          iterate 3 ((try (refine drvZ Tryz.func95 ?_; simp (maxSteps := 9999999) only [go_sem, hx, hlt])); (try ((with_reducible refine And.intro ?_ ?_) <;> (repeat' with_reducible apply And.intro) <;> try exact sd)))
          refine again (i + 1) some [] _ hlt (by omega) ?_
          simp (maxSteps := 9999999) only [go_sem, TmOK, DM, DMs, CM, CMs, forall_eq, exists_eq_left, Mq, HpOK, LowOK, hsc]
          simp
          rw [← List.map_take, hsc]
        · have hn : ¬ i < ks.length := by omega
          obtain rfl : i = ks.length := by omega
          refine drvL Tryz.func95 ?_
          simp (maxSteps := 9999999) only [go_sem, hn, List.take_length]
          iterate 2 ((try (refine drvZ Tryz.func95 ?_; simp (maxSteps := 9999999) only [go_sem, hn, List.take_length])); (try ((with_reducible refine And.intro ?_ ?_) <;> (repeat' with_reducible apply And.intro) <;> try exact sd)))
          exact RetOb.plain (d := DI .i64 _) (by rw [← hR]; exact ⟨rfl, rfl⟩) rfl
      · simp (maxSteps := 9999999) only [go_sem, TmOK, DM, DMs, CM, CMs, forall_eq, exists_eq_left, Mq, HpOK, LowOK, List.take_zero, List.map_nil, List.foldl_nil]
        simp [hB]
    · have hv1' : v < ar.length := by subst hk; simpa [limit] using hv1
      have hx := (nth_mem (l := ar) hv0 hv1').1
      have hB : ((labB vs ar k v : Nat) : Int) = nth ar v := by have := nth_lab h2 v; simp [labB, hk]; omega
      have e2 : (k == 2) = false := by simp [hk]
      have e3 : (k == 3) = true := by simp [hk]
      have f2 : (k = 2) = False := by simp [hk]
      have f3 : (k = 3) = True := by simp [hk]
      refine dcZ Tryz.func95 ?_
      simp (maxSteps := 9999999) only [go_sem]
      iterate 4 ((try (refine drvZ Tryz.func95 ?_; simp (maxSteps := 9999999) only [go_sem, e2, e3, f2, f3, hx])); (try ((with_reducible refine And.intro ?_ ?_) <;> (repeat' with_reducible apply And.intro) <;> try exact sd)))
      refine Go.loopQ (fun i : Nat => [(2, .c (.ptr 0 0)), (5, DI .i64 (((ks.take i).map (labN vs ar d)).foldl (fun a b => a ||| b) (labB vs ar k v) : Nat)), (27, .c (.isl 3 (Ex.cellsL ks))), (28, DI .i64 ks.length), (29, DI .i64 i)]) (fun i => [(0, some (Pg.cells ⟨vs, ar, bd⟩))])
        4096 (fun i => i ≤ ks.length) (fun i => ks.length - i) ?_ 0 some [] _ (Nat.zero_le _) ?_
      · intro i hi again
        rcases Nat.lt_or_ge i ks.length with hlt | hge
        · obtain ⟨⟨k', v', ks'⟩, hx⟩ : ∃ x, ks[i]? = some x := ⟨ks[i], by simp [hlt]⟩
          have hsc := lab_succ (labN vs ar d) (labB vs ar k v) ks i _ hx
          have ha := hacc i
          have hb := hle (.mk k' v' ks')
          have hc := hacc (i + 1)
          rw [hsc] at hc
          generalize ((ks.take i).map (labN vs ar d)).foldl (fun a b => a ||| b) (labB vs ar k v) = acc at *
          refine drvL Tryz.func95 ?_
          simp (maxSteps := 9999999) only [go_sem, hx, hlt]
          iterate 2 ((try (refine drvZ Tryz.func95 ?_; simp (maxSteps := 9999999) only [go_sem, hx, hlt])); (try ((with_reducible refine And.intro ?_ ?_) <;> (repeat' with_reducible apply And.intro) <;> try exact sd)))
          refine XK.plain (ih (.mk k' v' ks') (g2 _ (List.mem_of_getElem? hx))) ok95 ?_ (hbT ())
          iterate 3 ((try (refine drvZ Tryz.func95 ?_; simp (maxSteps := 9999999) only [go_sem, hx, hlt])); (try ((with_reducible refine And.intro ?_ ?_) <;> (repeat' with_reducible apply And.intro) <;> try exact sd)))
          refine again (i + 1) some [] _ hlt (by omega) ?_
          simp (maxSteps := 9999999) only [go_sem, TmOK, DM, DMs, CM, CMs, forall_eq, exists_eq_left, Mq, HpOK, LowOK, hsc]
          simp
          rw [← List.map_take, hsc]
        · have hn : ¬ i < ks.length := by omega
          obtain rfl : i = ks.length := by omega
          refine drvL Tryz.func95 ?_
          simp (maxSteps := 9999999) only [go_sem, hn, List.take_length]
          iterate 2 ((try (refine drvZ Tryz.func95 ?_; simp (maxSteps := 9999999) only [go_sem, hn, List.take_length])); (try ((with_reducible refine And.intro ?_ ?_) <;> (repeat' with_reducible apply And.intro) <;> try exact sd)))
          exact RetOb.plain (d := DI .i64 _) (by rw [← hR]; exact ⟨rfl, rfl⟩) rfl
      · simp (maxSteps := 9999999) only [go_sem, TmOK, DM, DMs, CM, CMs, forall_eq, exists_eq_left, Mq, HpOK, LowOK, List.take_zero, List.map_nil, List.foldl_nil]
        simp [hB]
    · have hB : labB vs ar k v = 0 := by simp [labB, hk2, hk3]
      have e2 : (k == 2) = false := by simp [hk2]
      have e3 : (k == 3) = false := by simp [hk3]
      refine dcZ Tryz.func95 ?_
      simp (maxSteps := 9999999) only [go_sem]
      iterate 4 ((try (refine drvZ Tryz.func95 ?_; simp (maxSteps := 9999999) only [go_sem, e2, e3, hk2, hk3])); (try ((with_reducible refine And.intro ?_ ?_) <;> (repeat' with_reducible apply And.intro) <;> try exact sd)))
      refine Go.loopQ (fun i : Nat => [(2, .c (.ptr 0 0)), (5, DI .i64 (((ks.take i).map (labN vs ar d)).foldl (fun a b => a ||| b) (labB vs ar k v) : Nat)), (27, .c (.isl 3 (Ex.cellsL ks))), (28, DI .i64 ks.length), (29, DI .i64 i)]) (fun i => [(0, some (Pg.cells ⟨vs, ar, bd⟩))])
        4096 (fun i => i ≤ ks.length) (fun i => ks.length - i) ?_ 0 some [] _ (Nat.zero_le _) ?_
      · intro i hi again
        rcases Nat.lt_or_ge i ks.length with hlt | hge
        · obtain ⟨⟨k', v', ks'⟩, hx⟩ : ∃ x, ks[i]? = some x := ⟨ks[i], by simp [hlt]⟩
          have hsc := lab_succ (labN vs ar d) (labB vs ar k v) ks i _ hx
          have ha := hacc i
          have hb := hle (.mk k' v' ks')
          have hc := hacc (i + 1)
          rw [hsc] at hc
          generalize ((ks.take i).map (labN vs ar d)).foldl (fun a b => a ||| b) (labB vs ar k v) = acc at *
          refine drvL Tryz.func95 ?_
          simp (maxSteps := 9999999) only [go_sem, hx, hlt]
          iterate 2 ((try (refine drvZ Tryz.func95 ?_; simp (maxSteps := 9999999) only [go_sem, hx, hlt])); (try ((with_reducible refine And.intro ?_ ?_) <;> (repeat' with_reducible apply And.intro) <;> try exact sd)))
          refine XK.plain (ih (.mk k' v' ks') (g2 _ (List.mem_of_getElem? hx))) ok95 ?_ (hbT ())
          iterate 3 ((try (refine drvZ Tryz.func95 ?_; simp (maxSteps := 9999999) only [go_sem, hx, hlt])); (try ((with_reducible refine And.intro ?_ ?_) <;> (repeat' with_reducible apply And.intro) <;> try exact sd)))
          refine again (i + 1) some [] _ hlt (by omega) ?_
          simp (maxSteps := 9999999) only [go_sem, TmOK, DM, DMs, CM, CMs, forall_eq, exists_eq_left, Mq, HpOK, LowOK, hsc]
          simp
          rw [← List.map_take, hsc]
        · have hn : ¬ i < ks.length := by omega
          obtain rfl : i = ks.length := by omega
          refine drvL Tryz.func95 ?_
          simp (maxSteps := 9999999) only [go_sem, hn, List.take_length]
          iterate 2 ((try (refine drvZ Tryz.func95 ?_; simp (maxSteps := 9999999) only [go_sem, hn, List.take_length])); (try ((with_reducible refine And.intro ?_ ?_) <;> (repeat' with_reducible apply And.intro) <;> try exact sd)))
          exact RetOb.plain (d := DI .i64 _) (by rw [← hR]; exact ⟨rfl, rfl⟩) rfl
      · simp (maxSteps := 9999999) only [go_sem, TmOK, DM, DMs, CM, CMs, forall_eq, exists_eq_left, Mq, HpOK, LowOK, List.take_zero, List.map_nil, List.foldl_nil]
        simp [hB]
end Go.Proofs.YtehmajhoaibphaaGreat.CtR

namespace Go.Proofs.YtehmajhoaibphaaGreat.CtR
open Go Go.CT CtF

def ctxI (vs ar : List Int) (s : St1) (c : Nat) : Nat := if s.kind = 3 then c ||| labN vs ar 5 s.value else c
/-- What telling of each statement makes of a state. -/
def eachF {X : Type} (vs ar : List Int) (step : X → St1 → Nat → X) : Nat → Nat → X → List St1 → X
  | 0, _, x, _ => x
  | d + 1, c, x, l => l.foldl (fun x s => eachF vs ar step d (ctxI vs ar s c) (eachF vs ar step d (ctxI vs ar s c) (step x s c) s.body) s.els) x
theorem RetOb.two {R : D → List (Option (List C)) → Prop} {a b : Int} {hp : Hp} (h : R (.tup [DI .i64 a, DI .i64 b]) []) : RetOb 0 R (.tup [DI .i64 a, DI .i64 b]) hp :=
  RetOb.ofQ (fun _ => none) [] (.tup [DI .i64 a, DI .i64 b]) [] (by simp [enumL, DM, DMs, CM, HpOK, LowOK]) h (by simp)
theorem prog_len2 {p : Pg} (h : progOK p = true) : 1 ≤ p.vars.length ∧ p.vars.length ≤ 12 ∧ p.arrays.length ≤ 2 := by
  simp only [progOK, headsOK, Bool.and_eq_true, decide_eq_true_eq] at h
  obtain ⟨⟨⟨⟨⟨_, h1⟩, h2⟩, h3⟩, _⟩, _⟩ := h
  omega

end Go.Proofs.YtehmajhoaibphaaGreat.CtR

namespace Go.Proofs.YtehmajhoaibphaaGreat.CtR
open Go Go.CT CtF

theorem hhp_each1 {hp : Hp} {r : Nat → Nat} {h0 : Option (List C)} (e0 : hp 0 = some (h0.map (renCs r))) :
    ∀ i' x, [h0][i']? = some x → hp ([0].getD i' 0) = some (x.map (renCs r)) := by
  intro i' x hx
  match i', hx with
  | 0, hx => simp only [List.getElem?_cons_zero, List.getElem?_cons_succ, Option.some.injEq] at hx; subst hx; exact e0
  | i' + 1, hx => simp at hx
theorem rkid_each1 (b : Nat) : ∀ k, k < 1 → rk0 [0] b k = k := fun k hk => by
  match k, hk with
  | 0, _ => rfl
theorem rkey_each1 (b : Nat) : ∀ k, k < 1 → rkey [0] b k = k := fun k hk => by
  match k, hk with
  | 0, _ => rfl

theorem each1 {X : Type} (p : Pg) (hl : p.vars.length ≤ mx) (hl2 : p.arrays.length ≤ mx) (h1 : lab3 p.vars) (h2 : lab3 p.arrays) (F : FuncId) (hF : fnOK Tryz.prog F = true)
    (b0 : X → List C) (hr0 : ∀ x r, (∀ k, k < 1 → r k = k) → renCs r (b0 x) = b0 x) (hc0 : ∀ x hT hS fz, (∀ k, k < 1 → hT k ≠ none) → CMs hT some hS fz (b0 x) (b0 x)) (step : X → St1 → Nat → X) (Inv : Nat → X → Prop)
    (hcl : ∀ d x s (c q : Nat), q < 1000 → Inv q x → c ≤ 3 → stmtOK p d s = true → Inv (q + 1) (step x s c) ∧ DC Tryz.prog F [.agg s.cells, DI .i64 c, .c (.ptr 0 0)] [some (b0 x)] (fun r h => r = .tup [] ∧ h = [some (b0 (step x s c))])) :
    ∀ (d : Nat) (l : List St1) (x : X) (c q : Nat), Inv q x → c ≤ 3 → (∀ s ∈ l, stmtOK p d s = true) → q + lsize d l ≤ 1000 →
      Inv (q + lsize d l) (eachF p.vars p.arrays step d c x l) ∧ DC Tryz.prog 48 [.agg p.cells, .c (.isl 11 (St1.cellsL l)), DI .i64 c, .c (.clo F [.ptr 0 0])] [some (b0 x)] (fun r h => r = .tup [] ∧ h = [some (b0 (eachF p.vars p.arrays step d c x l))]) := by
  have hmx := mx_eq
  intro d
  induction d with
  | zero =>
    intro l x c q hx hc hok hsz
    have hnil : l = [] := by
      cases l with
      | nil => rfl
      | cons a r => have := hok a (by simp); simp [stmtOK] at this
    subst hnil
    refine ⟨by rw [lsize_zero]; exact hx, ?_⟩
    obtain ⟨vs, ar, bd⟩ := p
    simp only [eachF]
    generalize hR : (fun (r : D) (h : List (Option (List C))) => r = .tup [] ∧ h = [some (b0 x)]) = R
    refine dcZ Tryz.func48 ?_
    simp (maxSteps := 9999999) only [go_sem, St1.cellsL, Int.natCast_zero]
    refine Go.loop ?_
    have hz : ((0 : Int) < 0) = False := eq_false (by omega)
    refine drvL Tryz.func48 ?_
    simp (maxSteps := 9999999) only [go_sem, St1.cellsL, Int.natCast_zero, hz]
    refine RetOb.ofQ some [] (.tup []) [some (b0 x)] ?_ (by rw [← hR]; exact ⟨rfl, rfl⟩) (by simp)
    simp [enumL, DMs, DM, HpOK, LowOK, hOf, upd, hpL]
    refine hc0 _ _ _ _ ?_
    all_goals (intro k hk; rcases (show k = 0 by omega) with rfl <;> simp [upd])
  | succ d ih =>
    intro l x c q hx hc hok hsz
    have hsub := lsize_subs d l
    have hll : l.length ≤ 1000 := by omega
    let f : X → St1 → X := fun x s => eachF p.vars p.arrays step d (ctxI p.vars p.arrays s c) (eachF p.vars p.arrays step d (ctxI p.vars p.arrays s c) (step x s c) s.body) s.els
    have hfold : ∀ i s, l[i]? = some s → (l.take (i + 1)).foldl f x = f ((l.take i).foldl f x) s := fun i s h => by
      rw [List.take_add_one, h]; simp
    have hres : eachF p.vars p.arrays step (d + 1) c x l = l.foldl f x := rfl
    have hf : ∀ (x : X) (s : St1), f x s = eachF p.vars p.arrays step d (ctxI p.vars p.arrays s c) (eachF p.vars p.arrays step d (ctxI p.vars p.arrays s c) (step x s c) s.body) s.els := fun _ _ => rfl
    clear_value f
    have hlabI := fun e => labelI p hl hl2 h1 h2 5 e
    have hlabL := fun e => labN_le h1 h2 5 e
    have e0 : ∀ y b, renCs (rkey [0] b) (b0 y) = b0 y := fun y b => hr0 y _ (rkey_each1 b)
    generalize hR : (fun (r : D) (h : List (Option (List C))) => r = .tup [] ∧ h = [some (b0 (eachF p.vars p.arrays step (d + 1) c x l))]) = R
    rw [hres] at hR
    rw [hres]
    have hK : ∀ (i : Nat) (s : St1), l[i]? = some s → q + tsum (tsize (d + 1)) l i + 1 + lsize d s.body + lsize d s.els ≤ 1000 ∧ tsum (tsize (d + 1)) l (i + 1) = tsum (tsize (d + 1)) l i + 1 + lsize d s.body + lsize d s.els := fun i s hi => by
      have a1 := tsum_succ (tsize (d + 1)) l i s hi
      have a2 := tsum_le (tsize (d + 1)) l (i + 1)
      have a3 := tsize_subs d s
      have a4 : lsize (d + 1) l = (l.map (tsize (d + 1))).sum := rfl
      simp only [subs] at a3
      omega
    have hround : ∀ (i : Nat) (s : St1), l[i]? = some s → ∀ y, Inv (q + tsum (tsize (d + 1)) l i) y → ctxI p.vars p.arrays s c ≤ 3 ∧
        (Inv (q + tsum (tsize (d + 1)) l i + 1) (step y s c) ∧ DC Tryz.prog F [.agg s.cells, DI .i64 c, .c (.ptr 0 0)] [some (b0 y)] (fun r h => r = .tup [] ∧ h = [some (b0 (step y s c))])) := fun i s hi y hy => by
      have hmem := List.mem_of_getElem? hi
      have := (hK i s hi).1
      refine ⟨?_, hcl (d + 1) y s c _ (by omega) hy hc (hok s hmem)⟩
      unfold ctxI
      split
      · exact or3 hc (hlabL _)
      · exact hc
    have hsok : ∀ (i : Nat) (s : St1), l[i]? = some s → (∀ t ∈ s.body, stmtOK p d t = true) ∧ (∀ t ∈ s.els, stmtOK p d t = true) ∧ (s.kind = 3 → shape p 5 s.value = true) := fun i s hi => by
      have hs := hok s (List.mem_of_getElem? hi)
      obtain ⟨k, t, ix, v, cc, b, e⟩ := s
      obtain ⟨g1, g2, g3⟩ := stmtOK_succ hs
      refine ⟨g2, g3, fun hk => ?_⟩
      have hk : k = 3 := hk
      subst hk
      rcases head_kind g1 with h | h | h | h
      · omega
      · omega
      · exact (right_shape h.2).1
      · omega
    have hinv : ∀ i, i ≤ l.length → Inv (q + tsum (tsize (d + 1)) l i) ((l.take i).foldl f x) := fun i => by
      induction i with
      | zero => intro _; simpa [tsum] using hx
      | succ i ihi =>
        intro hi
        have hs : l[i]? = some l[i] := by simp [show i < l.length from hi]
        rw [hfold i _ hs, hf, (hK i _ hs).2]
        have hk := (hK i _ hs).1
        have g := hround i _ hs _ (ihi (by omega))
        have g2 := hsok i _ hs
        have b1 := (ih _ _ _ _ g.2.1 g.1 g2.1 (by omega)).1
        have b2 := (ih _ _ _ _ b1 g.1 g2.2.1 (by omega)).1
        have e : q + (tsum (tsize (d + 1)) l i + 1 + lsize d l[i].body + lsize d l[i].els) = q + tsum (tsize (d + 1)) l i + 1 + lsize d l[i].body + lsize d l[i].els := by omega
        rw [e]
        exact b2
    refine ⟨by have := hinv l.length (Nat.le_refl _); rw [List.take_length] at this; rw [tsum_all _ _ (Nat.le_refl _)] at this; exact this, ?_⟩
    obtain ⟨vs, ar, bd⟩ := p
    have h1 : lab3 vs := h1
    have h2 : lab3 ar := h2
    refine dcZ Tryz.func48 ?_
    simp (maxSteps := 9999999) only [go_sem]
    refine Go.loopQ (fun i : Nat => [(2, DI .i64 c), (3, .c (.clo F [.ptr 0 0])), (4, .c (.ptr 1 0)), (11, .c (.isl 11 (St1.cellsL l))), (12, DI .i64 l.length), (13, DI .i64 i)])
      (fun i => [(0, some (b0 ((l.take i).foldl f x))), (1, some (Pg.cells ⟨vs, ar, bd⟩))]) 4096 (fun i => i ≤ l.length) (fun i => l.length - i) ?_ 0 some [] _ (Nat.zero_le _) ?_
    · intro i hi again
      have hIi := hinv i hi
      rcases Nat.lt_or_ge i l.length with hlt | hge
      · obtain ⟨⟨k, t, ⟨ik, iv, iks⟩, ⟨vk, vv, vks⟩, cc, b, e⟩, hs⟩ : ∃ s, l[i]? = some s := ⟨l[i], by simp [hlt]⟩
        have hfi := hfold i _ hs
        obtain ⟨q1, q4, q5⟩ := hround i _ hs _ hIi
        obtain ⟨q6, q7, q8⟩ := hsok i _ hs
        have hk := (hK i _ hs).1
        simp only [St1.body, St1.els] at hk
        have ihb := ih b _ _ _ q4 q1 q6 (by omega)
        have ihe := ih e _ _ _ ihb.1 q1 q7 (by omega)
        have ihb2 := ihb.2
        have ihe2 := ihe.2
        have hll2 := hlabL (.mk vk vv vks)
        rw [hf] at hfi
        generalize (l.take i).foldl f x = y at *
        refine drvL Tryz.func48 ?_
        simp (maxSteps := 9999999) only [go_sem, hs, hlt]
        iterate 2 ((try (refine drvZ Tryz.func48 ?_; simp (maxSteps := 9999999) only [go_sem, hs, hlt])); (try ((with_reducible refine And.intro ?_ ?_) <;> (repeat' with_reducible apply And.intro) <;> try exact sd)))
        refine XK.callG [0] q5 hF (hhp_each1 (by rw [Option.map_some, hr0 _ _ (rkid_each1 _)]; rfl)) (hbT ()) (fun d h' ⟨_, e⟩ => by subst e; simp) ?_
        rintro _ _ ⟨rfl, rfl⟩ _
        by_cases hk : k = 3
        · subst hk
          have hlb := hlabI (.mk vk vv vks) (q8 rfl)
          have hcx : ctxI vs ar (.mk 3 t (.mk ik iv iks) (.mk vk vv vks) cc b e) c = c ||| labN vs ar 5 (.mk vk vv vks) := by simp [ctxI, St1.kind, St1.value]
          iterate 4 ((try (refine drvZ Tryz.func48 ?_; simp (maxSteps := 9999999) only [go_sem, hs, hlt, e0])); (try ((with_reducible refine And.intro ?_ ?_) <;> (repeat' with_reducible apply And.intro) <;> try exact sd)))
          refine XK.plain hlb ok95 ?_ (hbT ())
          rw [hcx] at ihb2 ihe2 hfi q1
          generalize labN vs ar 5 (.mk vk vv vks) = lb at *
          iterate 4 ((try (refine drvZ Tryz.func48 ?_; simp (maxSteps := 9999999) only [go_sem, hs, hlt, e0])); (try ((with_reducible refine And.intro ?_ ?_) <;> (repeat' with_reducible apply And.intro) <;> try exact sd)))
          refine XK.callG [0] ihb2 ok48 (hhp_each1 (by rw [Option.map_some, hr0 _ _ (rkid_each1 _)]; rfl)) (hbT ()) (fun d h' ⟨_, e⟩ => by subst e; simp) ?_
          rintro _ _ ⟨rfl, rfl⟩ _
          iterate 4 ((try (refine drvZ Tryz.func48 ?_; simp (maxSteps := 9999999) only [go_sem, hs, hlt, e0])); (try ((with_reducible refine And.intro ?_ ?_) <;> (repeat' with_reducible apply And.intro) <;> try exact sd)))
          refine XK.callG [0] ihe2 ok48 (hhp_each1 (by rw [Option.map_some, hr0 _ _ (rkid_each1 _)]; rfl)) (hbT ()) (fun d h' ⟨_, e⟩ => by subst e; simp) ?_
          rintro _ _ ⟨rfl, rfl⟩ _
          iterate 4 ((try (refine drvZ Tryz.func48 ?_; simp (maxSteps := 9999999) only [go_sem, hs, hlt, e0])); (try ((with_reducible refine And.intro ?_ ?_) <;> (repeat' with_reducible apply And.intro) <;> try exact sd)))
          refine again (i + 1) some [] _ hlt (by omega) ?_
          simp (maxSteps := 9999999) only [go_sem, TmOK, DM, DMs, CM, CMs, forall_eq, exists_eq_left, Mq, HpOK, LowOK, hfi]
          simp
          refine hc0 _ _ _ _ ?_
          all_goals (intro k hk; rcases (show k = 0 by omega) with rfl <;> simp [upd])
        · have hkb : (k == 3) = false := by simp [hk]
          have hcx : ctxI vs ar (.mk k t (.mk ik iv iks) (.mk vk vv vks) cc b e) c = c := by simp [ctxI, St1.kind, hk]
          rw [hcx] at ihb2 ihe2 hfi
          iterate 4 ((try (refine drvZ Tryz.func48 ?_; simp (maxSteps := 9999999) only [go_sem, hs, hlt, e0, hk, hkb])); (try ((with_reducible refine And.intro ?_ ?_) <;> (repeat' with_reducible apply And.intro) <;> try exact sd)))
          refine XK.callG [0] ihb2 ok48 (hhp_each1 (by rw [Option.map_some, hr0 _ _ (rkid_each1 _)]; rfl)) (hbT ()) (fun d h' ⟨_, e⟩ => by subst e; simp) ?_
          rintro _ _ ⟨rfl, rfl⟩ _
          iterate 4 ((try (refine drvZ Tryz.func48 ?_; simp (maxSteps := 9999999) only [go_sem, hs, hlt, e0])); (try ((with_reducible refine And.intro ?_ ?_) <;> (repeat' with_reducible apply And.intro) <;> try exact sd)))
          refine XK.callG [0] ihe2 ok48 (hhp_each1 (by rw [Option.map_some, hr0 _ _ (rkid_each1 _)]; rfl)) (hbT ()) (fun d h' ⟨_, e⟩ => by subst e; simp) ?_
          rintro _ _ ⟨rfl, rfl⟩ _
          iterate 4 ((try (refine drvZ Tryz.func48 ?_; simp (maxSteps := 9999999) only [go_sem, hs, hlt, e0])); (try ((with_reducible refine And.intro ?_ ?_) <;> (repeat' with_reducible apply And.intro) <;> try exact sd)))
          refine again (i + 1) some [] _ hlt (by omega) ?_
          simp (maxSteps := 9999999) only [go_sem, TmOK, DM, DMs, CM, CMs, forall_eq, exists_eq_left, Mq, HpOK, LowOK, hfi]
          simp
          refine hc0 _ _ _ _ ?_
          all_goals (intro k hk; rcases (show k = 0 by omega) with rfl <;> simp [upd])
      · have hn : ¬ i < l.length := by omega
        obtain rfl : i = l.length := by omega
        refine drvL Tryz.func48 ?_
        simp (maxSteps := 9999999) only [go_sem, hn, List.take_length]
        iterate 2 ((try (refine drvZ Tryz.func48 ?_; simp (maxSteps := 9999999) only [go_sem, hn, List.take_length])); (try ((with_reducible refine And.intro ?_ ?_) <;> (repeat' with_reducible apply And.intro) <;> try exact sd)))
        refine RetOb.ofQ some [] (.tup []) [some (b0 (l.foldl f x))] ?_ (by rw [← hR]; exact ⟨rfl, rfl⟩) (by simp)
        simp [enumL, DMs, DM, HpOK, LowOK, hOf, upd, hpL]
        refine hc0 _ _ _ _ ?_
        all_goals (intro k hk; rcases (show k = 0 by omega) with rfl <;> simp [upd])
    · simp (maxSteps := 9999999) only [go_sem, TmOK, DM, DMs, CM, CMs, forall_eq, exists_eq_left, Mq, HpOK, LowOK, List.take_zero, List.foldl_nil]
      simp
      refine hc0 _ _ _ _ ?_
      all_goals (intro k hk; rcases (show k = 0 by omega) with rfl <;> simp [upd])
end Go.Proofs.YtehmajhoaibphaaGreat.CtR

namespace Go.Proofs.YtehmajhoaibphaaGreat.CtR
open Go Go.CT CtF

abbrev BC (b : Bool) : C := .v (.bool b)
def boolsC (bs : List Bool) : List C := bs.map BC
def boolsD (bs : List Bool) : C := .isl 1 (bs.map fun b => [BC b])
theorem boolsC_kf (bs : List Bool) : ∀ c ∈ boolsC bs, kf c = true := by
  intro c hc; obtain ⟨x, _, rfl⟩ := List.mem_map.1 hc; rfl
theorem boolsC_len (bs : List Bool) : (boolsC bs).length = bs.length := by simp [boolsC]
theorem boolsC_flat (bs : List Bool) : (bs.map fun b => [BC b]).flatten = boolsC bs := flat1 _ _

end Go.Proofs.YtehmajhoaibphaaGreat.CtR

namespace Go.Proofs.YtehmajhoaibphaaGreat.CtD
open Go Go.CT CtF CtR

theorem ctInts (xs ys : List Int) (hl : xs.length ≤ mx) : DC Tryz.prog 17 [ints xs, ints ys] [] (fun r h => r = DB (decide (xs = ys)) ∧ h = []) := by
  have hmx := mx_eq
  have ret : ∀ (b : Bool) (hp : Hp), b = decide (xs = ys) → RetOb 0 (fun r h => r = DB (decide (xs = ys)) ∧ h = []) (DB b) hp := fun b hp h => RetOb.plain (d := DB _) ⟨by rw [h], rfl⟩ rfl
  by_cases hlen : xs.length = ys.length
  · have hb : ((xs.length : Int) != ys.length) = false := by simp [hlen]
    have he : ((xs.length : Int) = ys.length) = True := eq_true (by omega)
    refine dc_of_go Tryz.func17 rfl (by simp) ?_
    refine drv_sound (n := 100) (rs := _) Tryz.func17 mo rfl none _ _ ?_
    simp (maxSteps := 9999999) only [go_sem, ints, hb, he]
    refine Go.loopL (fun i : Nat => [(0, ints xs), (1, ints ys), (5, DI .i64 i)]) (fun _ => []) 1024 (fun i => i ≤ xs.length ∧ decide (xs = ys) = decide (xs.drop i = ys.drop i)) (fun i => xs.length - i) ?_ 0 some [] _ ⟨Nat.zero_le _, rfl⟩ ?_
    · intro i hi again
      refine drv_sound (n := 100) (rs := _) Tryz.func17 mo rfl none _ _ ?_
      rcases Nat.lt_or_ge i xs.length with hlt | hge
      · obtain ⟨x, hx⟩ : ∃ x, xs[i]? = some x := ⟨xs[i], by simp [hlt]⟩
        obtain ⟨y, hy⟩ : ∃ y, ys[i]? = some y := ⟨ys[i]'(by omega), by simp⟩
        have hI := hi.2
        obtain ⟨_, ex⟩ := List.getElem?_eq_some_iff.1 hx
        obtain ⟨hyl, ey⟩ := List.getElem?_eq_some_iff.1 hy
        rw [List.drop_eq_getElem_cons hlt, List.drop_eq_getElem_cons hyl, ex, ey] at hI
        simp (maxSteps := 9999999) only [go_sem, ints, hx, hy, hlt]
        (repeat' with_reducible apply And.intro) <;> (try first | omega | (simp only [InK]; omega) | (intro k e; cases e; rfl) | (intro hguard; exact ⟨hguard, by simp only [InK]; omega⟩) | kernel_rfl)
        · intro hne; exact ret _ _ (by rw [hI]; simp [hne])
        · intro heq; exact ⟨by simp only [InK]; omega, again (i + 1) some [] _ ⟨by omega, by rw [hI]; simp [heq]⟩ (by omega) (Mt.slots (by
            simp (maxSteps := 9999999) only [go_sem, TmOK, DM, DMs, CM, CMs, forall_eq, exists_eq_left, ints]))⟩
      · have hn : ¬ i < xs.length := by omega
        simp (maxSteps := 9999999) only [go_sem, ints, hn]
        refine ret _ _ ?_
        rw [hi.2, List.drop_of_length_le hge, List.drop_of_length_le (by omega)]; rfl
    · refine Mt.slots ?_
      simp (maxSteps := 9999999) only [go_sem, TmOK, DM, DMs, CM, CMs, forall_eq, exists_eq_left, ints]
  · have hb : ((xs.length : Int) != ys.length) = true := by simp; omega
    have he : ((xs.length : Int) = ys.length) = False := eq_false (by omega)
    refine dc_of_go Tryz.func17 rfl (by simp) ?_
    refine drv_sound (n := 100) (rs := _) Tryz.func17 mo rfl none _ _ ?_
    simp (maxSteps := 9999999) only [go_sem, ints, hb, he]
    refine ret _ _ ?_
    symm; rw [decide_eq_false_iff_not]; intro h; exact hlen (by rw [h])

end Go.Proofs.YtehmajhoaibphaaGreat.CtD

namespace Go.Proofs.YtehmajhoaibphaaGreat.CtR
open Go Go.CT CtF

theorem cellI (p : Pg) (a : Int) (hl : p.vars.length ≤ mx) (ha : 0 ≤ a ∧ a ≤ 1000) : DC Tryz.prog 165 [.agg p.cells, DI .i64 a] [] (fun r h => r = DI .i64 (p.vars.length + a) ∧ h = []) := by
  have hmx := mx_eq
  obtain ⟨vs, ar, bd⟩ := p
  have hl : vs.length ≤ mx := hl
  refine dcZ Tryz.func165 ?_
  simp (maxSteps := 9999999) only [go_sem]
  iterate 2 ((try (refine drvZ Tryz.func165 ?_; simp (maxSteps := 9999999) only [go_sem])); (try ((with_reducible refine And.intro ?_ ?_) <;> (repeat' with_reducible apply And.intro) <;> try exact sd)))
  exact RetOb.plain (d := DI .i64 _) ⟨rfl, rfl⟩ rfl
theorem cellsI (p : Pg) (hl : p.vars.length ≤ mx) (hl2 : p.arrays.length ≤ mx) : DC Tryz.prog 112 [.agg p.cells] [] (fun r h => r = DI .i64 ((p.vars.length + p.arrays.length : Nat) : Int) ∧ h = []) := by
  have hmx := mx_eq
  obtain ⟨vs, ar, bd⟩ := p
  have hl : vs.length ≤ mx := hl
  have hl2 : ar.length ≤ mx := hl2
  refine dcZ Tryz.func112 ?_
  simp (maxSteps := 9999999) only [go_sem]
  iterate 2 ((try (refine drvZ Tryz.func112 ?_; simp (maxSteps := 9999999) only [go_sem])); (try ((with_reducible refine And.intro ?_ ?_) <;> (repeat' with_reducible apply And.intro) <;> try exact sd)))
  exact RetOb.plain (d := DI .i64 _) ⟨rfl, rfl⟩ rfl
/-- The cells that an expression reads, as bits. -/
def occB (nv : Nat) (k v : Int) : Nat := if k = 2 then 2 ^ v.toNat else if k = 3 then 2 ^ (nv + v.toNat) else 0
def occN (nv : Nat) : Nat → Ex → Nat
  | 0, _ => 0
  | d + 1, .mk k v ks => (ks.map (occN nv d)).foldl (fun a b => a ||| b) (occB nv k v)
theorem pow14 {n : Nat} (h : n < 14) : 2 ^ n < 16384 := Nat.lt_of_lt_of_le (Nat.pow_lt_pow_right (by decide) h) (by decide)
end Go.Proofs.YtehmajhoaibphaaGreat.CtR

namespace Go.Proofs.YtehmajhoaibphaaGreat.CtD
open Go Go.CT CtF CtR

theorem none0_eq {e : Ex} (h : none0 e = true) : e = .mk 0 0 [] := by
  obtain ⟨k, v, ks⟩ := e
  simp only [none0, Ex.kind, Ex.value, Ex.kids, Bool.and_eq_true, beq_iff_eq, decide_eq_true_eq] at h
  obtain ⟨⟨rfl, rfl⟩, h3⟩ := h
  have : ks = [] := List.isEmpty_iff.1 h3
  rw [this]
theorem exprs_of {p : Pg} {d : Nat} {k t : Int} {ix v : Ex} {c : Int} {b e : List St1} (h : stmtOK p (d + 1) (.mk k t ix v c b e) = true) :
    (CtR.shape p 5 ix = true ∨ ix = .mk 0 0 []) ∧ (CtR.shape p 5 v = true ∨ v = .mk 0 0 []) := by
  have h1 := (stmtOK_succ h).1
  have hk := head_kind h1
  unfold headOK parts at h1
  rcases hk with ⟨hk, _, _, hr⟩ | ⟨rfl, _, _, hr, _, hr2⟩ | ⟨rfl, hr⟩ | ⟨rfl, _⟩
  · refine ⟨.inr (none0_eq ?_), .inl (right_shape hr).1⟩
    have hk4 : k ≠ 4 := by omega
    have hk2 : (k == 2) = false := by simp; omega
    simp [hk4, hk2] at h1
    exact h1.1.2.2
  · exact ⟨.inl (right_shape hr).1, .inl (right_shape hr2).1⟩
  · refine ⟨.inr (none0_eq ?_), .inl (right_shape hr).1⟩
    simp at h1
    exact h1.1.2.2
  · simp at h1
    refine ⟨.inr (none0_eq ?_), .inr (none0_eq ?_)⟩ <;> grind
theorem val_none {p : Pg} {d : Nat} {t : Int} {ix v : Ex} {c : Int} {b e : List St1} (h : stmtOK p (d + 1) (.mk 4 t ix v c b e) = true) : ix = .mk 0 0 [] ∧ v = .mk 0 0 [] := by
  have h1 := (stmtOK_succ h).1
  unfold headOK parts at h1
  simp at h1
  exact ⟨none0_eq (by grind), none0_eq (by grind)⟩
end Go.Proofs.YtehmajhoaibphaaGreat.CtD

namespace Go.Proofs.YtehmajhoaibphaaGreat.CtD
open Go Go.CT CtF CtR

/-- A statement of a slice, the wanted cells given as a predicate. -/
def cutS (q : Nat → Bool) (nv : Nat) (f : List St1 → List St1) : St1 → Option St1
  | .mk k t ix v c b e =>
    if k = 5 then some (.mk k t ix v c b e) else if k = 1 then (if q t.toNat then some (.mk k t ix v c b e) else none) else if k = 2 then (if q (nv + t.toNat) then some (.mk k t ix v c b e) else none)
    else if 0 < (f b).length + (f e).length then some (.mk k t ix v c (f b) (f e)) else none
def cutL (q : Nat → Bool) (nv : Nat) : Nat → List St1 → List St1
  | 0, _ => []
  | d + 1, l => l.filterMap (cutS q nv (cutL q nv d))
/-- The cells that the statements of a slice read, added to a set. -/
def addS (q : Nat → Bool) (nv : Nat) (f : List St1 → List St1) (g : List St1 → Nat) (a : Nat) : St1 → Nat
  | .mk k t ix v c b e =>
    let a1 := if k = 5 ∨ k = 1 ∨ k = 2 then a else a ||| (g b ||| g e)
    if (cutS q nv f (.mk k t ix v c b e)).isSome then a1 ||| (occN nv 5 v ||| occN nv 5 ix) else a1
def setN (q : Nat → Bool) (nv : Nat) : Nat → List St1 → Nat
  | 0, _ => 0
  | d + 1, l => l.foldl (addS q nv (cutL q nv d) (setN q nv d)) 0

theorem tbit (N k : Nat) : ((((N : Int) / 2 ^ k).toNat &&& 1 : Nat) : Int) = if N.testBit k then 1 else 0 := by
  have e : ((N : Int) / 2 ^ k).toNat = N / 2 ^ k := by
    have : ((2 : Int) ^ k) = ((2 ^ k : Nat) : Int) := by rw [Int.natCast_pow]; rfl
    rw [this, ← Int.natCast_ediv]; rfl
  rw [e, Nat.and_one_is_mod, Nat.testBit_eq_decide_div_mod_eq]
  by_cases h : N / 2 ^ k % 2 = 1
  · simp [h]
  · have : N / 2 ^ k % 2 = 0 := by omega
    simp [this]
end Go.Proofs.YtehmajhoaibphaaGreat.CtD

namespace Go.Proofs.YtehmajhoaibphaaGreat.CtD
open Go Go.CT CtF CtR

/-! Slices, plain: the least closed set. -/
def subB (a : Nat) (q : Nat → Bool) : Prop := ∀ i, a.testBit i = true → q i = true
theorem subB_or {a b : Nat} {q : Nat → Bool} : subB (a ||| b) q ↔ subB a q ∧ subB b q := by
  unfold subB
  constructor
  · intro h
    exact ⟨fun i hi => h i (by rw [Nat.testBit_or, hi, Bool.true_or]), fun i hi => h i (by rw [Nat.testBit_or, hi, Bool.or_true])⟩
  · rintro ⟨h1, h2⟩ i hi
    rw [Nat.testBit_or, Bool.or_eq_true] at hi
    exact hi.elim (h1 i) (h2 i)
theorem subB_zero (q : Nat → Bool) : subB 0 q := fun i h => by simp at h
def leB (q q' : Nat → Bool) : Prop := ∀ i, q i = true → q' i = true
/-- With more cells, a slice keeps more, and reads more. -/
theorem cut_mono (nv : Nat) {q q' : Nat → Bool} (h : leB q q') : ∀ (d : Nat) (l : List St1), (0 < (cutL q nv d l).length → 0 < (cutL q' nv d l).length) ∧ ∀ r, subB (setN q' nv d l) r → subB (setN q nv d l) r := by
  intro d
  induction d with
  | zero => intro l; exact ⟨fun h => h, fun r h => h⟩
  | succ d ih =>
    have hS : ∀ s, (cutS q nv (cutL q nv d) s).isSome = true → (cutS q' nv (cutL q' nv d) s).isSome = true := fun s => by
      obtain ⟨k, t, ix, v, c, b, e⟩ := s
      simp only [cutS]
      by_cases h5 : k = 5
      · simp [h5]
      · by_cases h1 : k = 1
        · simp only [h5, h1, if_false, if_true]
          cases hq : q t.toNat with
          | false => simp
          | true => simp [h _ hq]
        · by_cases h2 : k = 2
          · simp only [h5, h1, h2, if_false, if_true]
            cases hq : q (nv + t.toNat) with
            | false => simp
            | true => simp [h _ hq]
          · simp only [h5, h1, h2, if_false]
            intro hh
            have : 0 < (cutL q nv d b).length + (cutL q nv d e).length := by
              by_cases h0 : 0 < (cutL q nv d b).length + (cutL q nv d e).length
              · exact h0
              · rw [if_neg h0] at hh; simp at hh
            have h3 := (ih b).1
            have h4 := (ih e).1
            rw [if_pos (by omega)]; rfl
    have hA : ∀ s r a a', (subB a' r → subB a r) → subB (addS q' nv (cutL q' nv d) (setN q' nv d) a' s) r → subB (addS q nv (cutL q nv d) (setN q nv d) a s) r := fun s r a a' haa => by
      have hss := hS s
      obtain ⟨k, t, ix, v, c, b, e⟩ := s
      simp only [addS]
      have hb := (ih b).2 r
      have he := (ih e).2 r
      have h1 : subB (if k = 5 ∨ k = 1 ∨ k = 2 then a' else a' ||| (setN q' nv d b ||| setN q' nv d e)) r → subB (if k = 5 ∨ k = 1 ∨ k = 2 then a else a ||| (setN q nv d b ||| setN q nv d e)) r := by
        split
        · exact haa
        · intro hh
          rw [subB_or, subB_or] at hh ⊢
          exact ⟨haa hh.1, hb hh.2.1, he hh.2.2⟩
      intro hh
      cases hc : (cutS q nv (cutL q nv d) (.mk k t ix v c b e)).isSome with
      | true =>
        rw [hss hc] at hh
        simp only [if_true] at hh ⊢
        rw [subB_or] at hh ⊢
        exact ⟨h1 hh.1, hh.2⟩
      | false =>
        simp only [Bool.false_eq_true, if_false]
        apply h1
        split at hh
        · exact (subB_or.1 hh).1
        · exact hh
    intro l
    refine ⟨fun hl => ?_, fun r => ?_⟩
    · simp only [cutL] at hl ⊢
      obtain ⟨x, hx⟩ := List.exists_mem_of_length_pos hl
      obtain ⟨s, hs, he⟩ := List.mem_filterMap.1 hx
      have := hS s (by rw [he]; rfl)
      obtain ⟨y, hy⟩ := Option.isSome_iff_exists.1 this
      exact List.length_pos_of_mem (List.mem_filterMap.2 ⟨s, hs, hy⟩)
    · simp only [setN]
      have gen : ∀ (l : List St1) (a a' : Nat), (subB a' r → subB a r) → subB (l.foldl (addS q' nv (cutL q' nv d) (setN q' nv d)) a') r → subB (l.foldl (addS q nv (cutL q nv d) (setN q nv d)) a) r := fun l => by
        induction l with
        | nil => intro a a' h; exact h
        | cons s t iht => intro a a' h; exact iht _ _ (hA s r a a' h)
      exact gen l 0 0 (fun h => h)

structure Least (p : Pg) (ws : List Bool) (q : Nat → Bool) : Prop where
  want : ∀ i, ws.getD i false = true → q i = true
  closed : subB (setN q p.vars.length 5 p.body) q
  least : ∀ q' : Nat → Bool, (∀ i, ws.getD i false = true → q' i = true) → subB (setN q' p.vars.length 5 p.body) q' → leB q q'
theorem Least.eq {p : Pg} {ws : List Bool} {q q' : Nat → Bool} (h : Least p ws q) (h' : Least p ws q') : q = q' := funext fun i => by
  have h1 := h.least q' h'.want h'.closed i
  have h2 := h'.least q h.want h.closed i
  cases ha : q i <;> cases hb : q' i <;> simp_all

end Go.Proofs.YtehmajhoaibphaaGreat.CtD

namespace Go.Proofs.YtehmajhoaibphaaGreat.CtD
open Go Go.CT CtF CtR

def slP (p : Pg) (q : Nat → Bool) : Pg := ⟨p.vars, p.arrays, cutL q p.vars.length 5 p.body⟩
end Go.Proofs.YtehmajhoaibphaaGreat.CtD

namespace Go.Proofs.YtehmajhoaibphaaGreat.CtD
open Go Go.CT CtF CtR

def usesL (nv : Nat) : Nat → Ex → List Bool → List Bool
  | 0, _, L => L
  | d + 1, .mk k v ks, L => ks.foldl (fun L x => usesL nv d x L) (if k = 2 then L.set v.toNat true else if k = 3 then L.set (nv + v.toNat) true else L)
theorem usesL_len (nv : Nat) : ∀ (d : Nat) (e : Ex) (L : List Bool), (usesL nv d e L).length = L.length
  | 0, _, L => rfl
  | d + 1, .mk k v ks, L => by
    have gen : ∀ (ks : List Ex) (L : List Bool), (ks.foldl (fun L x => usesL nv d x L) L).length = L.length := fun ks => by
      induction ks with
      | nil => intro L; rfl
      | cons a r ih => intro L; rw [List.foldl_cons, ih, usesL_len nv d a L]
    simp only [usesL]
    rw [gen]
    split
    · simp
    · split <;> simp

end Go.Proofs.YtehmajhoaibphaaGreat.CtD

namespace Go.Proofs.YtehmajhoaibphaaGreat.CtD
open Go Go.CT CtF CtR

def needS (nv : Nat) (f : List St1 → List Bool → Bool × List Bool) (L : List Bool) : St1 → Bool × List Bool
  | .mk k t ix v c b e =>
    let y := if k = 1 then (L.getD t.toNat false, L) else if k = 2 then (L.getD (nv + t.toNat) false, L) else if k = 5 then (true, L) else ((f b L).1 || (f e (f b L).2).1, (f e (f b L).2).2)
    (y.1, if y.1 then usesL nv 5 ix (usesL nv 5 v y.2) else y.2)
def needL (nv : Nat) : Nat → List St1 → List Bool → Bool × List Bool
  | 0, _, L => (false, L)
  | d + 1, l, L => l.foldl (fun x s => (x.1 || (needS nv (needL nv d) x.2 s).1, (needS nv (needL nv d) x.2 s).2)) (false, L)
end Go.Proofs.YtehmajhoaibphaaGreat.CtD

namespace Go.Proofs.YtehmajhoaibphaaGreat.CtD
open Go Go.CT CtF CtR

end Go.Proofs.YtehmajhoaibphaaGreat.CtD

namespace Go.Proofs.YtehmajhoaibphaaGreat.CtD
open Go Go.CT CtF CtR

theorem cutL_nil (q : Nat → Bool) (nv d : Nat) : cutL q nv d [] = [] := by cases d <;> simp [cutL]
end Go.Proofs.YtehmajhoaibphaaGreat.CtD
