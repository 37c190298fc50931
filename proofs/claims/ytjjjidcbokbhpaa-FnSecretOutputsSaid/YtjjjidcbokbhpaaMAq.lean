/- Contracts of functions of the program, one behind the other, as plain data: what each call returns and which blocks it leaves. -/
import Derived.Test.YtjjjidcbokbhpaaMFacts
import Derived.Test.YtjjjidcbokbhpaaMAhX
import Derived.Test.YtjjjidcbokbhpaaMAj
import Derived.Test.YtjjjidcbokbhpaaMAk
import Derived.Test.YtjjjidcbokbhpaaMAl
import Derived.Test.YtjjjidcbokbhpaaMAn
import Derived.Test.YtjjjidcbokbhpaaMAo
import Derived.Test.YtjjjidcbokbhpaaMAi
import Derived.Test.YtjjjidcbokbhpaaMAp
set_option linter.unusedVariables false
set_option linter.unusedSimpArgs false
set_option maxHeartbeats 16000000
set_option maxRecDepth 100000
namespace Go.Proofs.Ytjjjidcbokbhpaa.CtR
open Go Go.CT CtF

theorem hhp_each44 {hp : Hp} {r : Nat → Nat} {h0 h1 h2 h3 : Option (List C)} (e0 : hp 0 = some (h0.map (renCs r))) (e1 : hp 1 = some (h1.map (renCs r))) (e2 : hp 2 = some (h2.map (renCs r))) (e3 : hp 3 = some (h3.map (renCs r))) :
    ∀ i' x, [h0, h1, h2, h3][i']? = some x → hp ([0, 1, 2, 3].getD i' 0) = some (x.map (renCs r)) := by
  intro i' x hx
  match i', hx with
  | 0, hx => simp only [List.getElem?_cons_zero, List.getElem?_cons_succ, Option.some.injEq] at hx; subst hx; exact e0
  | 1, hx => simp only [List.getElem?_cons_zero, List.getElem?_cons_succ, Option.some.injEq] at hx; subst hx; exact e1
  | 2, hx => simp only [List.getElem?_cons_zero, List.getElem?_cons_succ, Option.some.injEq] at hx; subst hx; exact e2
  | 3, hx => simp only [List.getElem?_cons_zero, List.getElem?_cons_succ, Option.some.injEq] at hx; subst hx; exact e3
  | i' + 4, hx => simp at hx
theorem rkid_each44 (b : Nat) : ∀ k, k < 4 → rk0 [0, 1, 2, 3] b k = k := fun k hk => by
  match k, hk with
  | 0, _ => rfl
  | 1, _ => rfl
  | 2, _ => rfl
  | 3, _ => rfl
theorem rkey_each44 (b : Nat) : ∀ k, k < 4 → rkey [0, 1, 2, 3] b k = k := fun k hk => by
  match k, hk with
  | 0, _ => rfl
  | 1, _ => rfl
  | 2, _ => rfl
  | 3, _ => rfl

theorem each44 {X : Type} (p : Pg) (hl : p.vars.length ≤ mx) (hl2 : p.arrays.length ≤ mx) (h1 : lab3 p.vars) (h2 : lab3 p.arrays) (F : FuncId) (hF : fnOK Try.prog F = true)
    (b0 b1 b2 b3 : X → List C) (hr0 : ∀ x r, (∀ k, k < 4 → r k = k) → renCs r (b0 x) = b0 x) (hr1 : ∀ x r, (∀ k, k < 4 → r k = k) → renCs r (b1 x) = b1 x) (hr2 : ∀ x r, (∀ k, k < 4 → r k = k) → renCs r (b2 x) = b2 x) (hr3 : ∀ x r, (∀ k, k < 4 → r k = k) → renCs r (b3 x) = b3 x) (hc0 : ∀ x hT hS fz, (∀ k, k < 4 → hT k ≠ none) → CMs hT some hS fz (b0 x) (b0 x)) (hc1 : ∀ x hT hS fz, (∀ k, k < 4 → hT k ≠ none) → CMs hT some hS fz (b1 x) (b1 x)) (hc2 : ∀ x hT hS fz, (∀ k, k < 4 → hT k ≠ none) → CMs hT some hS fz (b2 x) (b2 x)) (hc3 : ∀ x hT hS fz, (∀ k, k < 4 → hT k ≠ none) → CMs hT some hS fz (b3 x) (b3 x)) (step : X → St1 → Nat → X) (Inv : Nat → X → Prop)
    (hcl : ∀ d x s (c q : Nat), q < 1000 → Inv q x → c ≤ 3 → stmtOK p d s = true → Inv (q + 1) (step x s c) ∧ DC Try.prog F [.agg s.cells, DI .i64 c, .c (.ptr 0 0), .c (.ptr 1 0), .c (.ptr 2 0), .c (.ptr 3 0)] [some (b0 x), some (b1 x), some (b2 x), some (b3 x)] (fun r h => r = .tup [] ∧ h = [some (b0 (step x s c)), some (b1 (step x s c)), some (b2 (step x s c)), some (b3 (step x s c))])) :
    ∀ (d : Nat) (l : List St1) (x : X) (c q : Nat), Inv q x → c ≤ 3 → (∀ s ∈ l, stmtOK p d s = true) → q + lsize d l ≤ 1000 →
      Inv (q + lsize d l) (eachF p.vars p.arrays step d c x l) ∧ DC Try.prog 57 [.agg p.cells, .c (.isl 11 (St1.cellsL l)), DI .i64 c, .c (.clo F [.ptr 0 0, .ptr 1 0, .ptr 2 0, .ptr 3 0])] [some (b0 x), some (b1 x), some (b2 x), some (b3 x)] (fun r h => r = .tup [] ∧ h = [some (b0 (eachF p.vars p.arrays step d c x l)), some (b1 (eachF p.vars p.arrays step d c x l)), some (b2 (eachF p.vars p.arrays step d c x l)), some (b3 (eachF p.vars p.arrays step d c x l))]) := by
  have hmx := mx_eq
  intro d
  induction d with
  | zero =>
    intro l x c q hx hc hok hsz
    have hnil : l = [] := by
      cases l with
      | nil => rfl
      | cons a r => have := hok a (by simp); simp [stmtOK] at this
    subst hnil
    refine ⟨by rw [lsize_zero]; exact hx, ?_⟩
    obtain ⟨vs, ar, bd⟩ := p
    simp only [eachF]
    generalize hR : (fun (r : D) (h : List (Option (List C))) => r = .tup [] ∧ h = [some (b0 x), some (b1 x), some (b2 x), some (b3 x)]) = R
    refine dcZ Try.func57 ?_
    simp (maxSteps := 9999999) only [go_sem, St1.cellsL, Int.natCast_zero]
    refine Go.loop ?_
    have hz : ((0 : Int) < 0) = False := eq_false (by omega)
    refine drvL Try.func57 ?_
    simp (maxSteps := 9999999) only [go_sem, St1.cellsL, Int.natCast_zero, hz]
    refine RetOb.ofQ some [] (.tup []) [some (b0 x), some (b1 x), some (b2 x), some (b3 x)] ?_ (by rw [← hR]; exact ⟨rfl, rfl⟩) (by simp)
    simp [enumL, DMs, DM, HpOK, LowOK, hOf, upd, hpL]
    refine ⟨hc0 _ _ _ _ ?_, hc1 _ _ _ _ ?_, hc2 _ _ _ _ ?_, hc3 _ _ _ _ ?_⟩
    all_goals (intro k hk; rcases (show k = 0 ∨ k = 1 ∨ k = 2 ∨ k = 3 by omega) with rfl | rfl | rfl | rfl <;> simp [upd])
  | succ d ih =>
    intro l x c q hx hc hok hsz
    have hsub := lsize_subs d l
    have hll : l.length ≤ 1000 := by omega
    let f : X → St1 → X := fun x s => eachF p.vars p.arrays step d (ctxI p.vars p.arrays s c) (eachF p.vars p.arrays step d (ctxI p.vars p.arrays s c) (step x s c) s.body) s.els
    have hfold : ∀ i s, l[i]? = some s → (l.take (i + 1)).foldl f x = f ((l.take i).foldl f x) s := fun i s h => by
      rw [List.take_add_one, h]; simp
    have hres : eachF p.vars p.arrays step (d + 1) c x l = l.foldl f x := rfl
    have hf : ∀ (x : X) (s : St1), f x s = eachF p.vars p.arrays step d (ctxI p.vars p.arrays s c) (eachF p.vars p.arrays step d (ctxI p.vars p.arrays s c) (step x s c) s.body) s.els := fun _ _ => rfl
    clear_value f
    have hlabI := fun e => labelI p hl hl2 h1 h2 5 e
    have hlabL := fun e => labN_le h1 h2 5 e
    have e0 : ∀ y b, renCs (rkey [0, 1, 2, 3] b) (b0 y) = b0 y := fun y b => hr0 y _ (rkey_each44 b)
    have e1 : ∀ y b, renCs (rkey [0, 1, 2, 3] b) (b1 y) = b1 y := fun y b => hr1 y _ (rkey_each44 b)
    have e2 : ∀ y b, renCs (rkey [0, 1, 2, 3] b) (b2 y) = b2 y := fun y b => hr2 y _ (rkey_each44 b)
    have e3 : ∀ y b, renCs (rkey [0, 1, 2, 3] b) (b3 y) = b3 y := fun y b => hr3 y _ (rkey_each44 b)
    generalize hR : (fun (r : D) (h : List (Option (List C))) => r = .tup [] ∧ h = [some (b0 (eachF p.vars p.arrays step (d + 1) c x l)), some (b1 (eachF p.vars p.arrays step (d + 1) c x l)), some (b2 (eachF p.vars p.arrays step (d + 1) c x l)), some (b3 (eachF p.vars p.arrays step (d + 1) c x l))]) = R
    rw [hres] at hR
    rw [hres]
    have hK : ∀ (i : Nat) (s : St1), l[i]? = some s → q + tsum (tsize (d + 1)) l i + 1 + lsize d s.body + lsize d s.els ≤ 1000 ∧ tsum (tsize (d + 1)) l (i + 1) = tsum (tsize (d + 1)) l i + 1 + lsize d s.body + lsize d s.els := fun i s hi => by
      have a1 := tsum_succ (tsize (d + 1)) l i s hi
      have a2 := tsum_le (tsize (d + 1)) l (i + 1)
      have a3 := tsize_subs d s
      have a4 : lsize (d + 1) l = (l.map (tsize (d + 1))).sum := rfl
      simp only [subs] at a3
      omega
    have hround : ∀ (i : Nat) (s : St1), l[i]? = some s → ∀ y, Inv (q + tsum (tsize (d + 1)) l i) y → ctxI p.vars p.arrays s c ≤ 3 ∧
        (Inv (q + tsum (tsize (d + 1)) l i + 1) (step y s c) ∧ DC Try.prog F [.agg s.cells, DI .i64 c, .c (.ptr 0 0), .c (.ptr 1 0), .c (.ptr 2 0), .c (.ptr 3 0)] [some (b0 y), some (b1 y), some (b2 y), some (b3 y)] (fun r h => r = .tup [] ∧ h = [some (b0 (step y s c)), some (b1 (step y s c)), some (b2 (step y s c)), some (b3 (step y s c))])) := fun i s hi y hy => by
      have hmem := List.mem_of_getElem? hi
      have := (hK i s hi).1
      refine ⟨?_, hcl (d + 1) y s c _ (by omega) hy hc (hok s hmem)⟩
      unfold ctxI
      split
      · exact or3 hc (hlabL _)
      · exact hc
    have hsok : ∀ (i : Nat) (s : St1), l[i]? = some s → (∀ t ∈ s.body, stmtOK p d t = true) ∧ (∀ t ∈ s.els, stmtOK p d t = true) ∧ (s.kind = 3 → shape p 5 s.value = true) := fun i s hi => by
      have hs := hok s (List.mem_of_getElem? hi)
      obtain ⟨k, t, ix, v, cc, b, e⟩ := s
      obtain ⟨g1, g2, g3⟩ := stmtOK_succ hs
      refine ⟨g2, g3, fun hk => ?_⟩
      have hk : k = 3 := hk
      subst hk
      rcases head_kind g1 with h | h | h | h
      · omega
      · omega
      · exact (right_shape h.2).1
      · omega
    have hinv : ∀ i, i ≤ l.length → Inv (q + tsum (tsize (d + 1)) l i) ((l.take i).foldl f x) := fun i => by
      induction i with
      | zero => intro _; simpa [tsum] using hx
      | succ i ihi =>
        intro hi
        have hs : l[i]? = some l[i] := by simp [show i < l.length from hi]
        rw [hfold i _ hs, hf, (hK i _ hs).2]
        have hk := (hK i _ hs).1
        have g := hround i _ hs _ (ihi (by omega))
        have g2 := hsok i _ hs
        have b1 := (ih _ _ _ _ g.2.1 g.1 g2.1 (by omega)).1
        have b2 := (ih _ _ _ _ b1 g.1 g2.2.1 (by omega)).1
        have e : q + (tsum (tsize (d + 1)) l i + 1 + lsize d l[i].body + lsize d l[i].els) = q + tsum (tsize (d + 1)) l i + 1 + lsize d l[i].body + lsize d l[i].els := by omega
        rw [e]
        exact b2
    refine ⟨by have := hinv l.length (Nat.le_refl _); rw [List.take_length] at this; rw [tsum_all _ _ (Nat.le_refl _)] at this; exact this, ?_⟩
    obtain ⟨vs, ar, bd⟩ := p
    have h1 : lab3 vs := h1
    have h2 : lab3 ar := h2
    refine dcZ Try.func57 ?_
    simp (maxSteps := 9999999) only [go_sem]
    refine Go.loopQ (fun i : Nat => [(2, DI .i64 c), (3, .c (.clo F [.ptr 0 0, .ptr 1 0, .ptr 2 0, .ptr 3 0])), (4, .c (.ptr 4 0)), (11, .c (.isl 11 (St1.cellsL l))), (12, DI .i64 l.length), (13, DI .i64 i)])
      (fun i => [(0, some (b0 ((l.take i).foldl f x))), (1, some (b1 ((l.take i).foldl f x))), (2, some (b2 ((l.take i).foldl f x))), (3, some (b3 ((l.take i).foldl f x))), (4, some (Pg.cells ⟨vs, ar, bd⟩))]) 4096 (fun i => i ≤ l.length) (fun i => l.length - i) ?_ 0 some [] _ (Nat.zero_le _) ?_
    · intro i hi again
      have hIi := hinv i hi
      rcases Nat.lt_or_ge i l.length with hlt | hge
      · obtain ⟨⟨k, t, ⟨ik, iv, iks⟩, ⟨vk, vv, vks⟩, cc, b, e⟩, hs⟩ : ∃ s, l[i]? = some s := ⟨l[i], by simp [hlt]⟩
        have hfi := hfold i _ hs
        obtain ⟨q1, q4, q5⟩ := hround i _ hs _ hIi
        obtain ⟨q6, q7, q8⟩ := hsok i _ hs
        have hk := (hK i _ hs).1
        simp only [St1.body, St1.els] at hk
        have ihb := ih b _ _ _ q4 q1 q6 (by omega)
        have ihe := ih e _ _ _ ihb.1 q1 q7 (by omega)
        have ihb2 := ihb.2
        have ihe2 := ihe.2
        have hll2 := hlabL (.mk vk vv vks)
        rw [hf] at hfi
        generalize (l.take i).foldl f x = y at *
        refine drvL Try.func57 ?_
        simp (maxSteps := 9999999) only [go_sem, hs, hlt]
        iterate 2 ((try (refine drvZ Try.func57 ?_; simp (maxSteps := 9999999) only [go_sem, hs, hlt])); (try ((with_reducible refine And.intro ?_ ?_) <;> (repeat' with_reducible apply And.intro) <;> try exact sd)))
        refine XK.callG [0, 1, 2, 3] q5 hF (hhp_each44 (by rw [Option.map_some, hr0 _ _ (rkid_each44 _)]; rfl) (by rw [Option.map_some, hr1 _ _ (rkid_each44 _)]; rfl) (by rw [Option.map_some, hr2 _ _ (rkid_each44 _)]; rfl) (by rw [Option.map_some, hr3 _ _ (rkid_each44 _)]; rfl)) (hbT ()) (fun d h' ⟨_, e⟩ => by subst e; simp) ?_
        rintro _ _ ⟨rfl, rfl⟩ _
        by_cases hk : k = 3
        · subst hk
          have hlb := hlabI (.mk vk vv vks) (q8 rfl)
          have hcx : ctxI vs ar (.mk 3 t (.mk ik iv iks) (.mk vk vv vks) cc b e) c = c ||| labN vs ar 5 (.mk vk vv vks) := by simp [ctxI, St1.kind, St1.value]
          iterate 4 ((try (refine drvZ Try.func57 ?_; simp (maxSteps := 9999999) only [go_sem, hs, hlt, e0, e1, e2, e3])); (try ((with_reducible refine And.intro ?_ ?_) <;> (repeat' with_reducible apply And.intro) <;> try exact sd)))
          refine XK.plain hlb ok99 ?_ (hbT ())
          rw [hcx] at ihb2 ihe2 hfi q1
          generalize labN vs ar 5 (.mk vk vv vks) = lb at *
          iterate 4 ((try (refine drvZ Try.func57 ?_; simp (maxSteps := 9999999) only [go_sem, hs, hlt, e0, e1, e2, e3])); (try ((with_reducible refine And.intro ?_ ?_) <;> (repeat' with_reducible apply And.intro) <;> try exact sd)))
          refine XK.callG [0, 1, 2, 3] ihb2 ok57 (hhp_each44 (by rw [Option.map_some, hr0 _ _ (rkid_each44 _)]; rfl) (by rw [Option.map_some, hr1 _ _ (rkid_each44 _)]; rfl) (by rw [Option.map_some, hr2 _ _ (rkid_each44 _)]; rfl) (by rw [Option.map_some, hr3 _ _ (rkid_each44 _)]; rfl)) (hbT ()) (fun d h' ⟨_, e⟩ => by subst e; simp) ?_
          rintro _ _ ⟨rfl, rfl⟩ _
          iterate 4 ((try (refine drvZ Try.func57 ?_; simp (maxSteps := 9999999) only [go_sem, hs, hlt, e0, e1, e2, e3])); (try ((with_reducible refine And.intro ?_ ?_) <;> (repeat' with_reducible apply And.intro) <;> try exact sd)))
          refine XK.callG [0, 1, 2, 3] ihe2 ok57 (hhp_each44 (by rw [Option.map_some, hr0 _ _ (rkid_each44 _)]; rfl) (by rw [Option.map_some, hr1 _ _ (rkid_each44 _)]; rfl) (by rw [Option.map_some, hr2 _ _ (rkid_each44 _)]; rfl) (by rw [Option.map_some, hr3 _ _ (rkid_each44 _)]; rfl)) (hbT ()) (fun d h' ⟨_, e⟩ => by subst e; simp) ?_
          rintro _ _ ⟨rfl, rfl⟩ _
          iterate 4 ((try (refine drvZ Try.func57 ?_; simp (maxSteps := 9999999) only [go_sem, hs, hlt, e0, e1, e2, e3])); (try ((with_reducible refine And.intro ?_ ?_) <;> (repeat' with_reducible apply And.intro) <;> try exact sd)))
          refine again (i + 1) some [] _ hlt (by omega) ?_
          simp (maxSteps := 9999999) only [go_sem, TmOK, DM, DMs, CM, CMs, forall_eq, exists_eq_left, Mq, HpOK, LowOK, hfi]
          simp
          refine ⟨hc0 _ _ _ _ ?_, hc1 _ _ _ _ ?_, hc2 _ _ _ _ ?_, hc3 _ _ _ _ ?_⟩
          all_goals (intro k hk; rcases (show k = 0 ∨ k = 1 ∨ k = 2 ∨ k = 3 by omega) with rfl | rfl | rfl | rfl <;> simp [upd])
        · have hkb : (k == 3) = false := by simp [hk]
          have hcx : ctxI vs ar (.mk k t (.mk ik iv iks) (.mk vk vv vks) cc b e) c = c := by simp [ctxI, St1.kind, hk]
          rw [hcx] at ihb2 ihe2 hfi
          iterate 4 ((try (refine drvZ Try.func57 ?_; simp (maxSteps := 9999999) only [go_sem, hs, hlt, e0, e1, e2, e3, hk, hkb])); (try ((with_reducible refine And.intro ?_ ?_) <;> (repeat' with_reducible apply And.intro) <;> try exact sd)))
          refine XK.callG [0, 1, 2, 3] ihb2 ok57 (hhp_each44 (by rw [Option.map_some, hr0 _ _ (rkid_each44 _)]; rfl) (by rw [Option.map_some, hr1 _ _ (rkid_each44 _)]; rfl) (by rw [Option.map_some, hr2 _ _ (rkid_each44 _)]; rfl) (by rw [Option.map_some, hr3 _ _ (rkid_each44 _)]; rfl)) (hbT ()) (fun d h' ⟨_, e⟩ => by subst e; simp) ?_
          rintro _ _ ⟨rfl, rfl⟩ _
          iterate 4 ((try (refine drvZ Try.func57 ?_; simp (maxSteps := 9999999) only [go_sem, hs, hlt, e0, e1, e2, e3])); (try ((with_reducible refine And.intro ?_ ?_) <;> (repeat' with_reducible apply And.intro) <;> try exact sd)))
          refine XK.callG [0, 1, 2, 3] ihe2 ok57 (hhp_each44 (by rw [Option.map_some, hr0 _ _ (rkid_each44 _)]; rfl) (by rw [Option.map_some, hr1 _ _ (rkid_each44 _)]; rfl) (by rw [Option.map_some, hr2 _ _ (rkid_each44 _)]; rfl) (by rw [Option.map_some, hr3 _ _ (rkid_each44 _)]; rfl)) (hbT ()) (fun d h' ⟨_, e⟩ => by subst e; simp) ?_
          rintro _ _ ⟨rfl, rfl⟩ _
          iterate 4 ((try (refine drvZ Try.func57 ?_; simp (maxSteps := 9999999) only [go_sem, hs, hlt, e0, e1, e2, e3])); (try ((with_reducible refine And.intro ?_ ?_) <;> (repeat' with_reducible apply And.intro) <;> try exact sd)))
          refine again (i + 1) some [] _ hlt (by omega) ?_
          simp (maxSteps := 9999999) only [go_sem, TmOK, DM, DMs, CM, CMs, forall_eq, exists_eq_left, Mq, HpOK, LowOK, hfi]
          simp
          refine ⟨hc0 _ _ _ _ ?_, hc1 _ _ _ _ ?_, hc2 _ _ _ _ ?_, hc3 _ _ _ _ ?_⟩
          all_goals (intro k hk; rcases (show k = 0 ∨ k = 1 ∨ k = 2 ∨ k = 3 by omega) with rfl | rfl | rfl | rfl <;> simp [upd])
      · have hn : ¬ i < l.length := by omega
        obtain rfl : i = l.length := by omega
        refine drvL Try.func57 ?_
        simp (maxSteps := 9999999) only [go_sem, hn, List.take_length]
        iterate 2 ((try (refine drvZ Try.func57 ?_; simp (maxSteps := 9999999) only [go_sem, hn, List.take_length])); (try ((with_reducible refine And.intro ?_ ?_) <;> (repeat' with_reducible apply And.intro) <;> try exact sd)))
        refine RetOb.ofQ some [] (.tup []) [some (b0 (l.foldl f x)), some (b1 (l.foldl f x)), some (b2 (l.foldl f x)), some (b3 (l.foldl f x))] ?_ (by rw [← hR]; exact ⟨rfl, rfl⟩) (by simp)
        simp [enumL, DMs, DM, HpOK, LowOK, hOf, upd, hpL]
        refine ⟨hc0 _ _ _ _ ?_, hc1 _ _ _ _ ?_, hc2 _ _ _ _ ?_, hc3 _ _ _ _ ?_⟩
        all_goals (intro k hk; rcases (show k = 0 ∨ k = 1 ∨ k = 2 ∨ k = 3 by omega) with rfl | rfl | rfl | rfl <;> simp [upd])
    · simp (maxSteps := 9999999) only [go_sem, TmOK, DM, DMs, CM, CMs, forall_eq, exists_eq_left, Mq, HpOK, LowOK, List.take_zero, List.foldl_nil]
      simp
      refine ⟨hc0 _ _ _ _ ?_, hc1 _ _ _ _ ?_, hc2 _ _ _ _ ?_, hc3 _ _ _ _ ?_⟩
      all_goals (intro k hk; rcases (show k = 0 ∨ k = 1 ∨ k = 2 ∨ k = 3 by omega) with rfl | rfl | rfl | rfl <;> simp [upd])
end Go.Proofs.Ytjjjidcbokbhpaa.CtR

namespace Go.Proofs.Ytjjjidcbokbhpaa.CtR
open Go Go.CT CtF

theorem first1 (p : Pg) (G : FuncId) (hG : fnOK Try.prog G = true) (res : St1 → Nat → Int) (x : Fst) (hx : 0 ≤ x.n ∧ x.n < 1000) (s : St1) (c : Nat)
    (hres : DC Try.prog G [.agg p.cells, .agg s.cells, DI .i64 c] [] (fun r h => r = DI .i64 (res s c) ∧ h = [])) :
    DC Try.prog 95 [.agg s.cells, DI .i64 c, .c (.ptr 0 0), .c (.ptr 1 0), .c (.ptr 2 0), .c (.ptr 3 0)] [some [I64 x.code], some [.met G p.cells], some [I64 x.n], some [I64 x.at_]]
      (fun r h => r = .tup [] ∧ h = [some [I64 (fstStep res x s c).code], some [.met G p.cells], some [I64 (fstStep res x s c).n], some [I64 (fstStep res x s c).at_]]) := by
  have h1 : x.code = 0 → fstStep res x s c = ⟨res s c, if res s c ≠ 0 then x.n else x.at_, x.n + 1⟩ := fun h => by unfold fstStep; rw [if_pos h]
  have h2 : x.code ≠ 0 → fstStep res x s c = ⟨x.code, x.at_, x.n + 1⟩ := fun h => by unfold fstStep; rw [if_neg h]
  generalize fstStep res x s c = y at *
  generalize res s c = ro at *
  obtain ⟨code, at_, n⟩ := x
  simp only at h1 h2 hx
  obtain ⟨vs, ar, bd⟩ := p
  obtain ⟨k, t, ⟨ik, iv, iks⟩, ⟨vk, vv, vks⟩, cc, b, e⟩ := s
  have fin : ∀ (a b c' : Int) (hp : Hp), y = ⟨a, b, c'⟩ → hp 0 = some (some [I64 a]) → hp 1 = some (some [.met G [isI vs, isI ar, .isl 11 (St1.cellsL bd)]]) → hp 2 = some (some [I64 c']) → hp 3 = some (some [I64 b]) →
      RetOb 4 (fun r h => r = .tup [] ∧ h = [some [I64 y.code], some [.met G (Pg.cells ⟨vs, ar, bd⟩)], some [I64 y.n], some [I64 y.at_]]) (.tup []) hp := fun a b c' hp hy g0 g1 g2 g3 => by
    subst hy
    refine RetOb.ofQ some [] (.tup []) _ ?_ ⟨rfl, rfl⟩ (by simp)
    simp [enumL, DMs, DM, HpOK, LowOK, hOf, upd, CM, CMs, g0, g1, g2, g3, Pg.cells]
  generalize hR : (fun (r : D) (h : List (Option (List C))) => r = .tup [] ∧ h = [some [I64 y.code], some [.met G (Pg.cells ⟨vs, ar, bd⟩)], some [I64 y.n], some [I64 y.at_]]) = R at fin ⊢
  by_cases hc : code = 0
  · subst hc
    have h1 := h1 rfl
    by_cases hr : ro = 0
    · subst hr
      refine dcZ Try.func95 ?_
      simp (maxSteps := 9999999) only [go_sem]
      iterate 8 ((try (refine drvZ Try.func95 ?_; simp (maxSteps := 9999999) only [go_sem, bne_self_eq_false])); (try ((with_reducible refine And.intro ?_ ?_) <;> (repeat' with_reducible apply And.intro) <;> try exact sd)); (try first | refine XK.p hres hG ?_ | refine XK.gp hres hG ?_))
      exact fin 0 at_ (n + 1) _ (by rw [h1, if_neg (by simp)]) rfl rfl rfl rfl
    · have g1 : (ro = 0) = False := eq_false hr
      have g2 : (ro != 0) = true := by simp [hr]
      refine dcZ Try.func95 ?_
      simp (maxSteps := 9999999) only [go_sem]
      iterate 8 ((try (refine drvZ Try.func95 ?_; simp (maxSteps := 9999999) only [go_sem, g1, g2])); (try ((with_reducible refine And.intro ?_ ?_) <;> (repeat' with_reducible apply And.intro) <;> try exact sd)); (try first | refine XK.p hres hG ?_ | refine XK.gp hres hG ?_))
      exact fin ro n (n + 1) _ (by rw [h1, if_pos hr]) rfl rfl rfl rfl
  · have g1 : (code = 0) = False := eq_false hc
    have g2 : (code == 0) = false := by simp [hc]
    refine dcZ Try.func95 ?_
    simp (maxSteps := 9999999) only [go_sem, g1, g2]
    iterate 8 ((try (refine drvZ Try.func95 ?_; simp (maxSteps := 9999999) only [go_sem, g1, g2])); (try ((with_reducible refine And.intro ?_ ?_) <;> (repeat' with_reducible apply And.intro) <;> try exact sd)); (try first | refine XK.p hres hG ?_ | refine XK.gp hres hG ?_))
    exact fin code at_ (n + 1) _ (h2 hc) rfl rfl rfl rfl

def fB0 (x : Fst) : List C := [I64 x.code]
def fB2 (x : Fst) : List C := [I64 x.n]
def fB3 (x : Fst) : List C := [I64 x.at_]
def fB1 (G : FuncId) (p : Pg) (_ : Fst) : List C := [.met G p.cells]
def firR (res : List Int → List Int → St1 → Nat → Int) (p : Pg) : Int × Int :=
  ((walkR (res p.vars p.arrays) p.vars p.arrays 5 0 p.body 0).1, if (walkR (res p.vars p.arrays) p.vars p.arrays 5 0 p.body 0).1 = 0 then -1 else (walkR (res p.vars p.arrays) p.vars p.arrays 5 0 p.body 0).2)
theorem chk_fir (res : List Int → List Int → St1 → Nat → Int) {p : Pg} (h : progOK p = true) : chkR res p = firR res p := by unfold chkR; rw [if_pos h]; rfl

theorem firstOf (p : Pg) (hok : progOK p = true) (G : FuncId) (hG : fnOK Try.prog G = true) (res : List Int → List Int → St1 → Nat → Int)
    (hres : ∀ d s c, c ≤ 3 → stmtOK p (d + 1) s = true → DC Try.prog G [.agg p.cells, .agg s.cells, DI .i64 (c : Nat)] [] (fun r h => r = DI .i64 (res p.vars p.arrays s c) ∧ h = [])) :
    DC Try.prog 55 [.agg p.cells, .c (.met G p.cells)] [] (fun r h => r = .tup [DI .i64 (firR res p).1, DI .i64 (firR res p).2] ∧ h = []) := by
  have hmx := mx_eq
  have hlen := prog_len2 hok
  have hlab := labs_of hok
  have hbo := body_of hok
  have hea := (each44 p (by omega) (by omega) hlab.1 hlab.2 95 ok95 fB0 (fB1 G p) fB2 fB3
    (fun x r h => by simp [fB0, renCs, renC]) (fun x r h => by simp [fB1, renCs, renC]) (fun x r h => by simp [fB2, renCs, renC]) (fun x r h => by simp [fB3, renCs, renC])
    (fun x hT hS fz h => by simp [fB0, CMs, CM]) (fun x hT hS fz h => by simp [fB1, CMs, CM]) (fun x hT hS fz h => by simp [fB2, CMs, CM]) (fun x hT hS fz h => by simp [fB3, CMs, CM])
    (fstStep (res p.vars p.arrays)) (fun q x => x.n = q) (fun d x s c q hq hx hc hs => by
      refine ⟨?_, ?_⟩
      · have : (fstStep (res p.vars p.arrays) x s c).n = x.n + 1 := by unfold fstStep; split <;> rfl
        rw [this, hx]; push_cast; rfl
      · cases d with
        | zero => simp [stmtOK] at hs
        | succ d => exact first1 p G hG (res p.vars p.arrays) x (by omega) s c (hres d s c hc hs)) 5 p.body ⟨0, -1, 0⟩ 0 0 rfl (by decide) hbo.1 (by have := hbo.2; omega)).2
  obtain ⟨w1, w2, w3⟩ := each_walk (res p.vars p.arrays) p.vars p.arrays 5 0 p.body ⟨0, -1, 0⟩
  obtain ⟨w4, w5, w6⟩ := w3 rfl
  have hfi : firR res p = ((eachF p.vars p.arrays (fstStep (res p.vars p.arrays)) 5 0 ⟨0, -1, 0⟩ p.body).code, (eachF p.vars p.arrays (fstStep (res p.vars p.arrays)) 5 0 ⟨0, -1, 0⟩ p.body).at_) := by
    rw [w4, w5]; rfl
  rw [hfi]
  generalize eachF p.vars p.arrays (fstStep (res p.vars p.arrays)) 5 0 ⟨0, -1, 0⟩ p.body = y at *
  obtain ⟨code, at_, n⟩ := y
  obtain ⟨vs, ar, bd⟩ := p
  simp only [fB0, fB1, fB2, fB3] at hea ⊢
  generalize hR : (fun (r : D) (h : List (Option (List C))) => r = .tup [DI .i64 code, DI .i64 at_] ∧ h = []) = R
  refine dcZ Try.func55 ?_
  simp (maxSteps := 9999999) only [go_sem]
  iterate 3 ((try (refine drvZ Try.func55 ?_; simp (maxSteps := 9999999) only [go_sem])); (try ((with_reducible refine And.intro ?_ ?_) <;> (repeat' with_reducible apply And.intro) <;> try exact sd)))
  refine XK.callG [256, 64, 384, 320] hea ok57 (hhpG (by simp [HH, upd, renCs, renC, Pg.cells, isI])) (hbT ()) (fun d h' ⟨_, e⟩ => by subst e; simp) ?_
  rintro _ _ ⟨rfl, rfl⟩ _
  iterate 4 ((try (refine drvZ Try.func55 ?_; simp (maxSteps := 9999999) only [go_sem])); (try ((with_reducible refine And.intro ?_ ?_) <;> (repeat' with_reducible apply And.intro) <;> try exact sd)))
  subst hR
  exact RetOb.two ⟨rfl, rfl⟩
end Go.Proofs.Ytjjjidcbokbhpaa.CtR

namespace Go.Proofs.Ytjjjidcbokbhpaa.CtR
open Go Go.CT CtF

theorem checkFlowI (p : Pg) (hl : p.vars.length ≤ mx) (hl2 : p.arrays.length ≤ mx) : DC Try.prog 22 [.agg p.cells] [] (fun r h => r = .tup [DI .i64 (chkR flowR p).1, DI .i64 (chkR flowR p).2] ∧ h = []) := by
  have hmx := mx_eq
  have hv := programValidI p hl hl2
  have ret : ∀ (x : Int × Int) (hp : Hp), x = chkR flowR p → RetOb 0 (fun r h => r = .tup [DI .i64 (chkR flowR p).1, DI .i64 (chkR flowR p).2] ∧ h = []) (.tup [DI .i64 x.1, DI .i64 x.2]) hp := fun x hp h => by
    subst h
    exact RetOb.two ⟨rfl, rfl⟩
  generalize hR : (fun (r : D) (h : List (Option (List C))) => r = .tup [DI .i64 (chkR flowR p).1, DI .i64 (chkR flowR p).2] ∧ h = []) = R at ret ⊢
  clear hR
  cases hq : progOK p with
  | false =>
    rw [hq] at hv
    have he : chkR flowR p = (5, -1) := by unfold chkR; rw [hq]; rfl
    obtain ⟨vs, ar, bd⟩ := p
    refine dcZ Try.func22 ?_
    simp (maxSteps := 9999999) only [go_sem]
    iterate 4 ((try (refine drvZ Try.func22 ?_; simp (maxSteps := 9999999) only [go_sem])); (try ((with_reducible refine And.intro ?_ ?_) <;> (repeat' with_reducible apply And.intro) <;> try exact sd)); (try first | refine XK.p hv ok49 ?_ | refine XK.gp hv ok49 ?_))
    exact ret (5, -1) _ he.symm
  | true =>
    rw [hq] at hv
    have hlab := labs_of hq
    have hf := firstOf p hq 56 ok56 flowR (fun d s c hc hs => flowI p hl hl2 hlab.1 hlab.2 d s hs c hc)
    have he := chk_fir flowR hq
    generalize firR flowR p = x at *
    obtain ⟨vs, ar, bd⟩ := p
    refine dcZ Try.func22 ?_
    simp (maxSteps := 9999999) only [go_sem]
    iterate 6 ((try (refine drvZ Try.func22 ?_; simp (maxSteps := 9999999) only [go_sem])); (try ((with_reducible refine And.intro ?_ ?_) <;> (repeat' with_reducible apply And.intro) <;> try exact sd)); (try first | refine XK.p hv ok49 ?_ | refine XK.gp hv ok49 ?_ | refine XK.p hf ok55 ?_ | refine XK.gp hf ok55 ?_))
    exact ret x _ he.symm

/-! ### ReleaseFree -/
def rfB (x : Bool) : List C := [.v (.bool x)]
def rfStep (x : Bool) (s : St1) (_ : Nat) : Bool := x || s.kind == 5
theorem eachF_free (vs ar : List Int) : ∀ (d c : Nat) (l : List St1) (x : Bool), eachF vs ar rfStep d c x l = (x || !freeL d l)
  | 0, c, l, x => by simp [eachF, freeL]
  | d + 1, c, l, x => by
    have key : ∀ (l : List St1) (x : Bool), l.foldl (fun x s => eachF vs ar rfStep d (ctxI vs ar s c) (eachF vs ar rfStep d (ctxI vs ar s c) (rfStep x s c) s.body) s.els) x = (x || !freeL (d + 1) l) := by
      intro l
      induction l with
      | nil => intro x; simp [freeL]
      | cons a r ih =>
        intro x
        rw [List.foldl_cons, ih, eachF_free vs ar d, eachF_free vs ar d]
        simp only [rfStep, freeL, List.all_cons]
        cases x <;> cases hk : a.kind == 5 <;> cases freeL d a.body <;> cases freeL d a.els <;> simp_all [bne]
    exact key l x
def freeP (p : Pg) : Bool := progOK p && freeL 5 p.body
theorem free1 (x : Bool) (s : St1) (c : Nat) : DC Try.prog 58 [.agg s.cells, DI .i64 c, .c (.ptr 0 0)] [some (rfB x)] (fun r h => r = .tup [] ∧ h = [some (rfB (rfStep x s c))]) := by
  obtain ⟨k, t, ⟨ik, iv, iks⟩, ⟨vk, vv, vks⟩, cc, b, e⟩ := s
  have fin : ∀ (y : Bool) (hp : Hp), y = (x || k == 5) → hp 0 = some (some [.v (.bool y)]) → RetOb 1 (fun r h => r = .tup [] ∧ h = [some [.v (.bool (x || k == 5))]]) (.tup []) hp := fun y hp hy g0 => by
    subst hy
    refine RetOb.ofQ some [] (.tup []) _ ?_ ⟨rfl, rfl⟩ (by simp)
    simp [enumL, DMs, DM, HpOK, LowOK, hOf, upd, CM, CMs, g0]
  have he : rfB (rfStep x (.mk k t (.mk ik iv iks) (.mk vk vv vks) cc b e) c) = [.v (.bool (x || k == 5))] := rfl
  simp only [he]
  simp only [rfB]
  generalize hR : (fun (r : D) (h : List (Option (List C))) => r = .tup [] ∧ h = [some [.v (.bool (x || k == 5))]]) = R at fin ⊢
  cases x
  all_goals
    refine dcZ Try.func58 ?_
    simp (maxSteps := 9999999) only [go_sem]
    iterate 3 ((try (refine drvZ Try.func58 ?_; simp (maxSteps := 9999999) only [go_sem])); (try ((with_reducible refine And.intro ?_ ?_) <;> (repeat' with_reducible apply And.intro) <;> try exact sd)))
    refine fin _ _ ?_ rfl
    simp

theorem releaseFree (p : Pg) (hl : p.vars.length ≤ mx) (hl2 : p.arrays.length ≤ mx) : DC Try.prog 23 [.agg p.cells] [] (fun r h => r = DB (freeP p) ∧ h = []) := by
  have hmx := mx_eq
  have hv := programValidI p hl hl2
  generalize hR : (fun (r : D) (h : List (Option (List C))) => r = DB (freeP p) ∧ h = []) = R
  cases hq : progOK p with
  | false =>
    rw [hq] at hv
    have hw : freeP p = false := by unfold freeP; rw [hq]; rfl
    rw [hw] at hR
    obtain ⟨vs, ar, bd⟩ := p
    refine dcZ Try.func23 ?_
    simp (maxSteps := 9999999) only [go_sem]
    iterate 3 ((try (refine drvZ Try.func23 ?_; simp (maxSteps := 9999999) only [go_sem])); (try ((with_reducible refine And.intro ?_ ?_) <;> (repeat' with_reducible apply And.intro) <;> try exact sd)); (try first | refine XK.p hv ok49 ?_ | refine XK.gp hv ok49 ?_))
    subst hR
    exact RetOb.plain (d := DB _) ⟨rfl, rfl⟩ rfl
  | true =>
    rw [hq] at hv
    have hlab := labs_of hq
    have hbo := body_of hq
    have hea := (each1 p hl hl2 hlab.1 hlab.2 58 ok58 rfB (fun x r h => by simp [rfB, renCs, renC]) (fun x hT hS fz h => by simp [rfB, CMs, CM]) rfStep
      (fun q x => True) (fun d x s c q hq hx _ _ => ⟨trivial, free1 x s c⟩) 5 p.body false 0 0 trivial (by decide) hbo.1 (by have := hbo.2; omega)).2
    rw [eachF_free, Bool.false_or] at hea
    have hw : freeP p = freeL 5 p.body := by unfold freeP; rw [hq]; rfl
    rw [hw] at hR
    generalize freeL 5 p.body = w at *
    obtain ⟨vs, ar, bd⟩ := p
    simp only [rfB] at hea
    refine dcZ Try.func23 ?_
    simp (maxSteps := 9999999) only [go_sem]
    iterate 4 ((try (refine drvZ Try.func23 ?_; simp (maxSteps := 9999999) only [go_sem])); (try ((with_reducible refine And.intro ?_ ?_) <;> (repeat' with_reducible apply And.intro) <;> try exact sd)); (try first | refine XK.p hv ok49 ?_ | refine XK.gp hv ok49 ?_))
    refine XK.callG [320] hea ok57 (hhpG (by simp [HH, upd, renCs, renC])) (hbT ()) (fun d h' ⟨_, e⟩ => by subst e; simp) ?_
    rintro _ _ ⟨rfl, rfl⟩ _
    iterate 4 ((try (refine drvZ Try.func23 ?_; simp (maxSteps := 9999999) only [go_sem, Bool.not_not])); (try ((with_reducible refine And.intro ?_ ?_) <;> (repeat' with_reducible apply And.intro) <;> try exact sd)))
    subst hR
    exact RetOb.plain (d := DB _) ⟨rfl, rfl⟩ rfl
end Go.Proofs.Ytjjjidcbokbhpaa.CtR

namespace Go.Proofs.Ytjjjidcbokbhpaa.CtR
open Go Go.CT CtF

theorem l2Ints (xs ys : List Int) (hl : xs.length ≤ mx) : DC Try.prog 150 [ints xs, ints ys] [] (fun r h => r = DB (decide (xs = ys)) ∧ h = []) := by
  have hmx := mx_eq
  have ret : ∀ (b : Bool) (hp : Hp), b = decide (xs = ys) → RetOb 0 (fun r h => r = DB (decide (xs = ys)) ∧ h = []) (DB b) hp := fun b hp h => RetOb.plain (d := DB _) ⟨by rw [h], rfl⟩ rfl
  by_cases hlen : xs.length = ys.length
  · have hb : ((xs.length : Int) != ys.length) = false := by simp [hlen]
    have he : ((xs.length : Int) = ys.length) = True := eq_true (by omega)
    refine dc_of_go Try.func150 rfl (by simp) ?_
    refine drv_sound (n := 100) (rs := _) Try.func150 mo rfl none _ _ ?_
    simp (maxSteps := 9999999) only [go_sem, ints, hb, he]
    refine Go.loopL (fun i : Nat => [(0, ints xs), (1, ints ys), (5, DI .i64 i)]) (fun _ => []) 1024 (fun i => i ≤ xs.length ∧ decide (xs = ys) = decide (xs.drop i = ys.drop i)) (fun i => xs.length - i) ?_ 0 some [] _ ⟨Nat.zero_le _, rfl⟩ ?_
    · intro i hi again
      refine drv_sound (n := 100) (rs := _) Try.func150 mo rfl none _ _ ?_
      rcases Nat.lt_or_ge i xs.length with hlt | hge
      · obtain ⟨x, hx⟩ : ∃ x, xs[i]? = some x := ⟨xs[i], by simp [hlt]⟩
        obtain ⟨y, hy⟩ : ∃ y, ys[i]? = some y := ⟨ys[i]'(by omega), by simp⟩
        have hI := hi.2
        obtain ⟨_, ex⟩ := List.getElem?_eq_some_iff.1 hx
        obtain ⟨hyl, ey⟩ := List.getElem?_eq_some_iff.1 hy
        rw [List.drop_eq_getElem_cons hlt, List.drop_eq_getElem_cons hyl, ex, ey] at hI
        simp (maxSteps := 9999999) only [go_sem, ints, hx, hy, hlt]
        (repeat' with_reducible apply And.intro) <;> (try first | omega | (simp only [InK]; omega) | (intro k e; cases e; rfl) | (intro hguard; exact ⟨hguard, by simp only [InK]; omega⟩) | kernel_rfl)
        · intro hne; exact ret _ _ (by rw [hI]; simp [hne])
        · intro heq; exact ⟨by simp only [InK]; omega, again (i + 1) some [] _ ⟨by omega, by rw [hI]; simp [heq]⟩ (by omega) (Mt.slots (by
            simp (maxSteps := 9999999) only [go_sem, TmOK, DM, DMs, CM, CMs, forall_eq, exists_eq_left, ints]))⟩
      · have hn : ¬ i < xs.length := by omega
        simp (maxSteps := 9999999) only [go_sem, ints, hn]
        refine ret _ _ ?_
        rw [hi.2, List.drop_of_length_le hge, List.drop_of_length_le (by omega)]; rfl
    · refine Mt.slots ?_
      simp (maxSteps := 9999999) only [go_sem, TmOK, DM, DMs, CM, CMs, forall_eq, exists_eq_left, ints]
  · have hb : ((xs.length : Int) != ys.length) = true := by simp; omega
    have he : ((xs.length : Int) = ys.length) = False := eq_false (by omega)
    refine dc_of_go Try.func150 rfl (by simp) ?_
    refine drv_sound (n := 100) (rs := _) Try.func150 mo rfl none _ _ ?_
    simp (maxSteps := 9999999) only [go_sem, ints, hb, he]
    refine ret _ _ ?_
    symm; rw [decide_eq_false_iff_not]; intro h; exact hlen (by rw [h])

theorem exprSameS (e : Ex) (hl : e.kids.length ≤ 1000) (hk : ∀ x ∈ e.kids, DC Try.prog 176 [.agg x.cells, .agg x.cells] [] (fun r h => r = DB true ∧ h = [])) :
    DC Try.prog 176 [.agg e.cells, .agg e.cells] [] (fun r h => r = DB true ∧ h = []) := by
  have hmx := mx_eq
  obtain ⟨k, v, ks⟩ := e
  have hl : ks.length ≤ 1000 := hl
  simp only [Ex.kids] at hk
  have ret : ∀ (hp : Hp), RetOb 0 (fun r h => r = DB true ∧ h = []) (DB true) hp := fun hp => RetOb.plain (d := DB _) ⟨rfl, rfl⟩ rfl
  generalize hR : (fun (r : D) (h : List (Option (List C))) => r = DB true ∧ h = []) = R at ret ⊢
  refine dcZ Try.func176 ?_
  simp (maxSteps := 9999999) only [go_sem]
  iterate 4 ((try (refine drvZ Try.func176 ?_; simp (maxSteps := 9999999) only [go_sem, bne_self_eq_false])); (try ((with_reducible refine And.intro ?_ ?_) <;> (repeat' with_reducible apply And.intro) <;> try exact sd)))
  refine Go.loopQ (fun i : Nat => [(2, .c (.ptr 0 0)), (3, .c (.ptr 64 0)), (5, DI .i64 i)]) (fun i => [(0, some (Ex.cells (.mk k v ks))), (64, some (Ex.cells (.mk k v ks)))]) 4096 (fun i => i ≤ ks.length) (fun i => ks.length - i) ?_ 0 some [] _ (Nat.zero_le _) ?_
  · intro i hi again
    rcases Nat.lt_or_ge i ks.length with hlt | hge
    · obtain ⟨⟨k', v', s'⟩, hx⟩ : ∃ x, ks[i]? = some x := ⟨ks[i], by simp [hlt]⟩
      have hf := hk _ (List.mem_of_getElem? hx)
      rw [← hR] at ret again ⊢
      refine drvL Try.func176 ?_
      simp (maxSteps := 9999999) only [go_sem, hx, hlt]
      iterate 5 ((try (refine drvZ Try.func176 ?_; simp (maxSteps := 9999999) only [go_sem, hx, hlt])); (try ((with_reducible refine And.intro ?_ ?_) <;> (repeat' with_reducible apply And.intro) <;> try exact sd)); (try first | refine XK.p hf ok176 ?_ | refine XK.gp hf ok176 ?_))
      refine again (i + 1) some [] _ hlt (by omega) ?_
      simp (maxSteps := 9999999) only [go_sem, TmOK, DM, DMs, CM, CMs, forall_eq, exists_eq_left, Mq, HpOK, LowOK]
      simp
    · have hn : ¬ i < ks.length := by omega
      refine drvL Try.func176 ?_
      simp (maxSteps := 9999999) only [go_sem, hn]
      iterate 3 ((try (refine drvZ Try.func176 ?_; simp (maxSteps := 9999999) only [go_sem, hn])); (try ((with_reducible refine And.intro ?_ ?_) <;> (repeat' with_reducible apply And.intro) <;> try exact sd)))
      exact ret _
  · simp (maxSteps := 9999999) only [go_sem, TmOK, DM, DMs, CM, CMs, forall_eq, exists_eq_left, Mq, HpOK, LowOK]
    simp
theorem exprSameP (p : Pg) : ∀ (d : Nat) (e : Ex), shape p d e = true → DC Try.prog 176 [.agg e.cells, .agg e.cells] [] (fun r h => r = DB true ∧ h = [])
  | 0, e, h => by simp [shape] at h
  | d + 1, .mk k v ks, h => by
    obtain ⟨g1, g2, _⟩ := shape_succ h
    exact exprSameS _ (by have := (fits_len g1).1; simp only [Ex.kids]; omega) fun x hx => exprSameP p d x (g2 x hx)
theorem exprSameX {p : Pg} {e : Ex} (h : shape p 5 e = true ∨ e = .mk 0 0 []) : DC Try.prog 176 [.agg e.cells, .agg e.cells] [] (fun r h => r = DB true ∧ h = []) := by
  rcases h with h | rfl
  · exact exprSameP p 5 e h
  · exact exprSameS _ (by simp [Ex.kids]) fun x hx => by simp [Ex.kids] at hx

theorem sameBlockOf (l : List St1) (hl : l.length ≤ 1000) (hk : ∀ s ∈ l, DC Try.prog 168 [.agg s.cells, .agg s.cells] [] (fun r h => r = DB true ∧ h = [])) :
    DC Try.prog 151 [.c (.isl 11 (St1.cellsL l)), .c (.isl 11 (St1.cellsL l))] [] (fun r h => r = DB true ∧ h = []) := by
  have hmx := mx_eq
  have ret : ∀ (hp : Hp), RetOb 0 (fun r h => r = DB true ∧ h = []) (DB true) hp := fun hp => RetOb.plain (d := DB _) ⟨rfl, rfl⟩ rfl
  generalize hR : (fun (r : D) (h : List (Option (List C))) => r = DB true ∧ h = []) = R at ret ⊢
  refine dcZ Try.func151 ?_
  simp (maxSteps := 9999999) only [go_sem, bne_self_eq_false]
  iterate 4 ((try (refine drvZ Try.func151 ?_; simp (maxSteps := 9999999) only [go_sem, bne_self_eq_false])); (try ((with_reducible refine And.intro ?_ ?_) <;> (repeat' with_reducible apply And.intro) <;> try exact sd)))
  refine Go.loopQ (fun i : Nat => [(0, .c (.isl 11 (St1.cellsL l))), (1, .c (.isl 11 (St1.cellsL l))), (5, DI .i64 i)]) (fun i => []) 4096 (fun i => i ≤ l.length) (fun i => l.length - i) ?_ 0 some [] _ (Nat.zero_le _) ?_
  · intro i hi again
    rcases Nat.lt_or_ge i l.length with hlt | hge
    · obtain ⟨⟨k, t, ⟨ik, iv, iks⟩, ⟨vk, vv, vks⟩, cc, b, e⟩, hx⟩ : ∃ x, l[i]? = some x := ⟨l[i], by simp [hlt]⟩
      have hf := hk _ (List.mem_of_getElem? hx)
      rw [← hR] at ret again ⊢
      refine drvL Try.func151 ?_
      simp (maxSteps := 9999999) only [go_sem, hx, hlt]
      iterate 5 ((try (refine drvZ Try.func151 ?_; simp (maxSteps := 9999999) only [go_sem, hx, hlt])); (try ((with_reducible refine And.intro ?_ ?_) <;> (repeat' with_reducible apply And.intro) <;> try exact sd)); (try first | refine XK.p hf ok168 ?_ | refine XK.gp hf ok168 ?_))
      refine again (i + 1) some [] _ hlt (by omega) ?_
      simp (maxSteps := 9999999) only [go_sem, TmOK, DM, DMs, CM, CMs, forall_eq, exists_eq_left, Mq, HpOK, LowOK]
      simp
    · have hn : ¬ i < l.length := by omega
      refine drvL Try.func151 ?_
      simp (maxSteps := 9999999) only [go_sem, hn]
      iterate 3 ((try (refine drvZ Try.func151 ?_; simp (maxSteps := 9999999) only [go_sem, hn])); (try ((with_reducible refine And.intro ?_ ?_) <;> (repeat' with_reducible apply And.intro) <;> try exact sd)))
      exact ret _
  · simp (maxSteps := 9999999) only [go_sem, TmOK, DM, DMs, CM, CMs, forall_eq, exists_eq_left, Mq, HpOK, LowOK]
    simp

theorem sameStmtOf (s : St1) (hi : DC Try.prog 176 [.agg s.index.cells, .agg s.index.cells] [] (fun r h => r = DB true ∧ h = [])) (hv : DC Try.prog 176 [.agg s.value.cells, .agg s.value.cells] [] (fun r h => r = DB true ∧ h = []))
    (hb : DC Try.prog 151 [.c (.isl 11 (St1.cellsL s.body)), .c (.isl 11 (St1.cellsL s.body))] [] (fun r h => r = DB true ∧ h = [])) (he : DC Try.prog 151 [.c (.isl 11 (St1.cellsL s.els)), .c (.isl 11 (St1.cellsL s.els))] [] (fun r h => r = DB true ∧ h = [])) :
    DC Try.prog 168 [.agg s.cells, .agg s.cells] [] (fun r h => r = DB true ∧ h = []) := by
  obtain ⟨k, t, ⟨ik, iv, iks⟩, ⟨vk, vv, vks⟩, cc, b, e⟩ := s
  simp only [St1.index, St1.value, St1.body, St1.els] at hi hv hb he
  have ret : ∀ (hp : Hp), RetOb 0 (fun r h => r = DB true ∧ h = []) (DB true) hp := fun hp => RetOb.plain (d := DB _) ⟨rfl, rfl⟩ rfl
  generalize hR : (fun (r : D) (h : List (Option (List C))) => r = DB true ∧ h = []) = R at ret ⊢
  refine dcZ Try.func168 ?_
  simp (maxSteps := 9999999) only [go_sem]
  rw [← hR] at ret ⊢
  iterate 9 ((try (refine drvZ Try.func168 ?_; simp (maxSteps := 9999999) only [go_sem])); (try ((with_reducible refine And.intro ?_ ?_) <;> (repeat' with_reducible apply And.intro) <;> try exact sd)); (try first | refine XK.p hi ok176 ?_ | refine XK.gp hi ok176 ?_ | refine XK.p hv ok176 ?_ | refine XK.gp hv ok176 ?_ | refine XK.p hb ok151 ?_ | refine XK.gp hb ok151 ?_ | refine XK.p he ok151 ?_ | refine XK.gp he ok151 ?_))
  exact ret _
theorem sameBlockS (p : Pg) : ∀ (d : Nat) (l : List St1), (∀ s ∈ l, stmtOK p d s = true) → lsize d l ≤ 1000 → DC Try.prog 151 [.c (.isl 11 (St1.cellsL l)), .c (.isl 11 (St1.cellsL l))] [] (fun r h => r = DB true ∧ h = [])
  | 0, l, hok, _ => by
    have hnil : l = [] := by
      cases l with
      | nil => rfl
      | cons a r => have := hok a (by simp); simp [stmtOK] at this
    subst hnil
    exact sameBlockOf [] (by simp) fun s hs => by simp at hs
  | d + 1, l, hok, hsz => by
    have hll : l.length ≤ 1000 := by have := lsize_subs d l; omega
    refine sameBlockOf l hll fun s hs => ?_
    have hso := hok s hs
    have hts := mem_le_lsize (d := d + 1) hs
    have hsub := tsize_subs d s
    simp only [subs] at hsub
    obtain ⟨k, t, ix, v, cc, b, e⟩ := s
    have hx := CtD.exprs_of hso
    have hbo := stmtOK_succ hso
    simp only [St1.body, St1.els] at hsub
    exact sameStmtOf _ (exprSameX hx.1) (exprSameX hx.2) (sameBlockS p d b hbo.2.1 (by omega)) (sameBlockS p d e hbo.2.2 (by omega))

/-- Programs of one body. -/
theorem programSameS (q : Pg) (vs vs' ar ar' : List Int) (bd : List St1) (hl : vs.length ≤ mx) (hl2 : ar.length ≤ mx) (hok : ∀ s ∈ bd, stmtOK q 5 s = true) (hsz : lsize 5 bd ≤ 1000) :
    DC Try.prog 121 [.agg (Pg.cells ⟨vs, ar, bd⟩), .agg (Pg.cells ⟨vs', ar', bd⟩)] [] (fun r h => r = DB (decide (vs = vs') && decide (ar = ar')) ∧ h = []) := by
  have h1 := l2Ints vs vs' hl
  have h2 := l2Ints ar ar' hl2
  have h3 := sameBlockS q 5 bd hok hsz
  unfold ints at h1 h2
  generalize decide (vs = vs') = b1 at *
  generalize decide (ar = ar') = b2 at *
  generalize hR : (fun (r : D) (h : List (Option (List C))) => r = DB (b1 && b2) ∧ h = []) = R
  cases b1
  · refine dcZ Try.func121 ?_
    simp (maxSteps := 9999999) only [go_sem]
    iterate 5 ((try (refine drvZ Try.func121 ?_; simp (maxSteps := 9999999) only [go_sem])); (try ((with_reducible refine And.intro ?_ ?_) <;> (repeat' with_reducible apply And.intro) <;> try exact sd)); (try first | refine XK.p h1 ok150 ?_ | refine XK.gp h1 ok150 ?_ | refine XK.gs (DB false) ?_))
    subst hR
    exact RetOb.plain (d := DB _) ⟨rfl, rfl⟩ rfl
  · cases b2
    all_goals
      refine dcZ Try.func121 ?_
      simp (maxSteps := 9999999) only [go_sem]
      iterate 5 ((try (refine drvZ Try.func121 ?_; simp (maxSteps := 9999999) only [go_sem])); (try ((with_reducible refine And.intro ?_ ?_) <;> (repeat' with_reducible apply And.intro) <;> try exact sd)); (try first | refine XK.p h1 ok150 ?_ | refine XK.gp h1 ok150 ?_ | refine XK.p h2 ok150 ?_ | refine XK.gp h2 ok150 ?_ | refine XK.p h3 ok151 ?_ | refine XK.gp h3 ok151 ?_ | refine XK.gs (DB false) ?_))
      subst hR
      exact RetOb.plain (d := DB _) ⟨rfl, rfl⟩ rfl
end Go.Proofs.Ytjjjidcbokbhpaa.CtR

namespace Go.Proofs.Ytjjjidcbokbhpaa.CtR
open Go Go.CT CtF

theorem labelO (vs ar : List Int) (bd : List St1) (q : Pg) (hqv : q.vars.length = vs.length) (hqa : q.arrays.length = ar.length) (hl : vs.length ≤ mx) (hl2 : ar.length ≤ mx) (h1 : lab3 vs) (h2 : lab3 ar) : ∀ (d : Nat) (e : Ex), shape q d e = true →
    DC Try.prog 149 [.agg [.msl 0 1 0 vs.length, .msl 1 1 0 ar.length, .isl 11 (St1.cellsL bd)], .agg e.cells] [some (vs.map I64), some (ar.map I64)]
      (fun r h => r = DI .i64 (labN vs ar d e) ∧ h = [some (vs.map I64), some (ar.map I64)]) := by
  have hmx := mx_eq
  intro d
  induction d with
  | zero => intro e h; simp [shape] at h
  | succ d ih =>
    intro e hsh
    obtain ⟨k, v, ks⟩ := e
    obtain ⟨g1, g2, g3⟩ := shape_succ hsh
    obtain ⟨hl3, hla, hv0, hv1⟩ := fits_len g1
    generalize hR : (fun (r : D) (h : List (Option (List C))) => r = DI .i64 (labN vs ar (d + 1) (.mk k v ks)) ∧ h = [some (vs.map I64), some (ar.map I64)]) = R
    have hle := fun e => labN_le h1 h2 d e
    have hacc : ∀ i, ((ks.take i).map (labN vs ar d)).foldl (fun a b => a ||| b) (labB vs ar k v) ≤ 3 := fun i => by
      have := labN_le h1 h2 (d + 1) (.mk k v (ks.take i))
      exact this
    have hlb : labB vs ar k v ≤ 3 := hacc 0
    have key : k = 2 ∨ k = 3 ∨ (k ≠ 2 ∧ k ≠ 3) := by omega
    rcases key with hk | hk | hk
    case' inl =>
      have hv1' : v < vs.length := by subst hk; simpa [limit, hqv, hqa] using hv1
      have hx := (nth_mem (l := vs) hv0 hv1').1
      have hB : ((labB vs ar k v : Nat) : Int) = nth vs v := by have := nth_lab h1 v; simp [labB, hk]; omega
      have e2 : (k == 2) = true := by simp [hk]
      refine dcZ Try.func149 ?_
      simp (maxSteps := 9999999) only [go_sem]
      iterate 4 ((try (refine drvZ Try.func149 ?_; simp (maxSteps := 9999999) only [go_sem, hx, e2, eq_true hk])); (try ((with_reducible refine And.intro ?_ ?_) <;> (repeat' with_reducible apply And.intro) <;> try exact sd)))
    case' inr.inl =>
      have hv1' : v < ar.length := by subst hk; simpa [limit, hqv, hqa] using hv1
      have hx := (nth_mem (l := ar) hv0 hv1').1
      have hB : ((labB vs ar k v : Nat) : Int) = nth ar v := by have := nth_lab h2 v; simp [labB, hk]; omega
      have e2 : (k == 2) = false := by simp [hk]
      have e3 : (k == 3) = true := by simp [hk]
      have f2 : (k = 2) = False := by simp [hk]
      refine dcZ Try.func149 ?_
      simp (maxSteps := 9999999) only [go_sem]
      iterate 4 ((try (refine drvZ Try.func149 ?_; simp (maxSteps := 9999999) only [go_sem, hx, e2, e3, f2, eq_true hk])); (try ((with_reducible refine And.intro ?_ ?_) <;> (repeat' with_reducible apply And.intro) <;> try exact sd)))
    case' inr.inr =>
      have hB : ((labB vs ar k v : Nat) : Int) = 0 := by simp [labB, hk.1, hk.2]
      have e2 : (k == 2) = false := by simp [hk.1]
      have e3 : (k == 3) = false := by simp [hk.2]
      have hk2 := hk.1
      have hk3 := hk.2
      refine dcZ Try.func149 ?_
      simp (maxSteps := 9999999) only [go_sem]
      iterate 4 ((try (refine drvZ Try.func149 ?_; simp (maxSteps := 9999999) only [go_sem, e2, e3, hk2, hk3])); (try ((with_reducible refine And.intro ?_ ?_) <;> (repeat' with_reducible apply And.intro) <;> try exact sd)))
    all_goals
      clear hk
      refine Go.loopQ (fun i : Nat => [(2, .c (.ptr 2 0)), (3, .c (.ptr 66 0)), (5, DI .i64 (((ks.take i).map (labN vs ar d)).foldl (fun a b => a ||| b) (labB vs ar k v) : Nat)), (6, DI .i64 i)]) (fun i => [(0, some (vs.map I64)), (1, some (ar.map I64)), (2, some [.msl 0 1 0 vs.length, .msl 1 1 0 ar.length, .isl 11 (St1.cellsL bd)]), (66, some (Ex.cells (.mk k v ks)))])
        4096 (fun i => i ≤ ks.length) (fun i => ks.length - i) ?_ 0 some [] _ (Nat.zero_le _) ?_
      · intro i hi again
        rcases Nat.lt_or_ge i ks.length with hlt | hge
        · obtain ⟨⟨k', v', ks'⟩, hx⟩ : ∃ x, ks[i]? = some x := ⟨ks[i], by simp [hlt]⟩
          have hsc := lab_succ (labN vs ar d) (labB vs ar k v) ks i _ hx
          have ha := hacc i
          have hb := hle (.mk k' v' ks')
          have hc := hacc (i + 1)
          rw [hsc] at hc
          have hi := ih (.mk k' v' ks') (g2 _ (List.mem_of_getElem? hx))
          generalize ((ks.take i).map (labN vs ar d)).foldl (fun a b => a ||| b) (labB vs ar k v) = acc at *
          refine drvL Try.func149 ?_
          simp (maxSteps := 9999999) only [go_sem, hx, hlt]
          iterate 3 ((try (refine drvZ Try.func149 ?_; simp (maxSteps := 9999999) only [go_sem, hx, hlt])); (try ((with_reducible refine And.intro ?_ ?_) <;> (repeat' with_reducible apply And.intro) <;> try exact sd)))
          refine XK.callG [0, 1] hi ok149 (hhpG (by simp [HH, upd, renCs_I])) (hbT ()) (fun d h' ⟨_, e⟩ => by subst e; simp) ?_ (fun _ => ⟨by kernel_rfl, _, _, ⟨rfl, rfl⟩, by simp⟩)
          rintro _ _ ⟨rfl, rfl⟩ _
          iterate 4 ((try (refine drvZ Try.func149 ?_; simp (maxSteps := 9999999) only [go_sem, hx, hlt, renCs_I])); (try ((with_reducible refine And.intro ?_ ?_) <;> (repeat' with_reducible apply And.intro) <;> try exact sd)))
          refine again (i + 1) some [] _ hlt (by omega) ?_
          simp (maxSteps := 9999999) only [go_sem, TmOK, DM, DMs, CM, CMs, forall_eq, exists_eq_left, Mq, HpOK, LowOK, hsc]
          simp [CMs_I]
          rw [← List.map_take, hsc]
        · have hn : ¬ i < ks.length := by omega
          obtain rfl : i = ks.length := by omega
          refine drvL Try.func149 ?_
          simp (maxSteps := 9999999) only [go_sem, hn, List.take_length]
          iterate 2 ((try (refine drvZ Try.func149 ?_; simp (maxSteps := 9999999) only [go_sem, hn, List.take_length])); (try ((with_reducible refine And.intro ?_ ?_) <;> (repeat' with_reducible apply And.intro) <;> try exact sd)))
          refine RetOb.ofQ some [] (DI .i64 _) _ ?_ (by rw [← hR]; exact ⟨rfl, rfl⟩) (by simp)
          simp [enumL, DM, DMs, CM, HpOK, LowOK, hOf, upd, CMs_I]
          rfl
      · simp (maxSteps := 9999999) only [go_sem, TmOK, DM, DMs, CM, CMs, forall_eq, exists_eq_left, Mq, HpOK, LowOK, List.take_zero, List.map_nil, List.foldl_nil]
        simp [hB, CMs_I]
end Go.Proofs.Ytjjjidcbokbhpaa.CtR
