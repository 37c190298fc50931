/- Contracts of functions of the program, one behind the other, as plain data: what each call returns and which blocks it leaves. -/
import Derived.Test.YtclgjiffpijgmaaFacts
import Derived.Test.YtclgjiffpijgmaaAd
import Derived.Test.YtclgjiffpijgmaaAe
import Derived.Test.YtclgjiffpijgmaaAf
import Derived.Test.YtclgjiffpijgmaaAh
import Derived.Test.YtclgjiffpijgmaaAi
import Derived.Test.YtclgjiffpijgmaaAj
set_option linter.unusedVariables false
set_option linter.unusedSimpArgs false
set_option maxHeartbeats 16000000
set_option maxRecDepth 100000
namespace Go.Proofs.Ytclgjiffpijgmaa.CtR
open Go Go.CT CtF

def wkF (res : St1 → Nat → Int) (vs ar : List Int) (d c : Nat) (x : Int × Int) (s : St1) : Int × Int :=
  if x.1 ≠ 0 then x else if res s c ≠ 0 then (res s c, x.2) else
      if (walkR res vs ar d (ctxI vs ar s c) s.body (x.2 + 1)).1 ≠ 0 then walkR res vs ar d (ctxI vs ar s c) s.body (x.2 + 1)
      else walkR res vs ar d (ctxI vs ar s c) s.els (walkR res vs ar d (ctxI vs ar s c) s.body (x.2 + 1)).2
theorem wk_succ (res : St1 → Nat → Int) (vs ar : List Int) (d c : Nat) (l : List St1) (n : Int) : walkR res vs ar (d + 1) c l n = l.foldl (wkF res vs ar d c) (0, n) := rfl
theorem wkF_stop (res : St1 → Nat → Int) (vs ar : List Int) (d c : Nat) : ∀ (l : List St1) (x : Int × Int), x.1 ≠ 0 → l.foldl (wkF res vs ar d c) x = x
  | [], _, _ => rfl
  | a :: r, x, h => by
    have : wkF res vs ar d c x a = x := by unfold wkF; rw [if_pos h]
    rw [List.foldl_cons, this, wkF_stop res vs ar d c r x h]
theorem wkF_len (res : St1 → Nat → Int) (vs ar : List Int) : ∀ (d c : Nat) (l : List St1) (n : Int), n ≤ (walkR res vs ar d c l n).2 ∧ (walkR res vs ar d c l n).2 ≤ n + lsize d l
  | 0, c, l, n => by simp [walkR, lsize_zero]
  | d + 1, c, l, n => by
    have hone : ∀ (x : Int × Int) (s : St1), x.2 ≤ (wkF res vs ar d c x s).2 ∧ (wkF res vs ar d c x s).2 ≤ x.2 + tsize (d + 1) s := fun x s => by
      have hs := tsize_subs d s
      simp only [subs] at hs
      have h1 := wkF_len res vs ar d (ctxI vs ar s c) s.body (x.2 + 1)
      have h2 := wkF_len res vs ar d (ctxI vs ar s c) s.els (walkR res vs ar d (ctxI vs ar s c) s.body (x.2 + 1)).2
      unfold wkF
      split
      · omega
      · split
        · simp only; omega
        · split <;> omega
    have key : ∀ (l : List St1) (x : Int × Int), x.2 ≤ (l.foldl (wkF res vs ar d c) x).2 ∧ (l.foldl (wkF res vs ar d c) x).2 ≤ x.2 + lsize (d + 1) l := by
      intro l
      induction l with
      | nil => intro x; simp [lsize]
      | cons a r ih =>
        intro x
        have h1 := hone x a
        have h2 := ih (wkF res vs ar d c x a)
        have hsz : lsize (d + 1) (a :: r) = tsize (d + 1) a + lsize (d + 1) r := by simp [lsize]
        rw [List.foldl_cons, hsz]
        push_cast
        omega
    exact key l (0, n)

theorem blockS (p : Pg) (hl : p.vars.length ≤ mx) (hl2 : p.arrays.length ≤ mx) (h1 : lab3 p.vars) (h2 : lab3 p.arrays) (strict : Bool) : ∀ (d : Nat) (l : List St1) (c : Nat) (n : Int), c ≤ 3 → (∀ s ∈ l, stmtOK p d s = true) → 0 ≤ n → n + lsize d l ≤ 1000 →
    DC Try.prog 128 [.agg p.cells, .c (.isl 11 (St1.cellsL l)), DI .i64 c, DI .i64 n, DB strict] [] (fun r h => r = .tup [DI .i64 (walkR (ownR strict p.vars p.arrays) p.vars p.arrays d c l n).1, DI .i64 (walkR (ownR strict p.vars p.arrays) p.vars p.arrays d c l n).2] ∧ h = []) := by
  have hmx := mx_eq
  intro d
  induction d with
  | zero =>
    intro l c n hc hok hn hsz
    have hnil : l = [] := by
      cases l with
      | nil => rfl
      | cons a r => have := hok a (by simp); simp [stmtOK] at this
    subst hnil
    obtain ⟨vs, ar, bd⟩ := p
    simp only [walkR]
    have ret : ∀ hp : Hp, RetOb 0 (fun r h => r = .tup [DI .i64 0, DI .i64 n] ∧ h = []) (.tup [DI .i64 0, DI .i64 n]) hp := fun hp => RetOb.ofQ (fun _ => none) [] (.tup [DI .i64 0, DI .i64 n]) [] (by simp [enumL, DM, DMs, CM, HpOK, LowOK]) ⟨rfl, rfl⟩ (by simp)
    generalize hR : (fun (r : D) (h : List (Option (List C))) => r = .tup [DI .i64 0, DI .i64 n] ∧ h = []) = R at ret ⊢
    have hz : ((0 : Int) < 0) = False := eq_false (by omega)
    refine dcZ Try.func128 ?_
    simp (maxSteps := 9999999) only [go_sem, St1.cellsL, Int.natCast_zero]
    refine Go.loop ?_
    refine drvL Try.func128 ?_
    simp (maxSteps := 9999999) only [go_sem, St1.cellsL, Int.natCast_zero, hz]
    iterate 2 ((try (refine drvZ Try.func128 ?_; simp (maxSteps := 9999999) only [go_sem, St1.cellsL, Int.natCast_zero, hz])); (try ((with_reducible refine And.intro ?_ ?_) <;> (repeat' with_reducible apply And.intro) <;> try exact sd)))
    exact ret _
  | succ d ih =>
    intro l c n hc hok hn hsz
    have hlab := labelS p hl hl2 h1 h2 5
    have hown := fun s h => ownS p hl hl2 h1 h2 d s h c hc strict
    have hle := labN_le h1 h2 5
    have hll : l.length ≤ 1000 := by have := lsize_subs d l; omega
    have hwl := wkF_len (ownR strict p.vars p.arrays) p.vars p.arrays d
    rw [wk_succ]
    have hstop := wkF_stop (ownR strict p.vars p.arrays) p.vars p.arrays d c
    have hFd : ∀ (a : Int) (k t : Int) (ix v : Ex) (cc : Int) (b e : List St1), (ownR strict p.vars p.arrays (.mk k t ix v cc b e) c ≠ 0 → wkF (ownR strict p.vars p.arrays) p.vars p.arrays d c (0, a) (.mk k t ix v cc b e) = (ownR strict p.vars p.arrays (.mk k t ix v cc b e) c, a)) ∧
        (ownR strict p.vars p.arrays (.mk k t ix v cc b e) c = 0 → (walkR (ownR strict p.vars p.arrays) p.vars p.arrays d (ctxI p.vars p.arrays (.mk k t ix v cc b e) c) b (a + 1)).1 ≠ 0 → wkF (ownR strict p.vars p.arrays) p.vars p.arrays d c (0, a) (.mk k t ix v cc b e) = walkR (ownR strict p.vars p.arrays) p.vars p.arrays d (ctxI p.vars p.arrays (.mk k t ix v cc b e) c) b (a + 1)) ∧
        (ownR strict p.vars p.arrays (.mk k t ix v cc b e) c = 0 → (walkR (ownR strict p.vars p.arrays) p.vars p.arrays d (ctxI p.vars p.arrays (.mk k t ix v cc b e) c) b (a + 1)).1 = 0 → wkF (ownR strict p.vars p.arrays) p.vars p.arrays d c (0, a) (.mk k t ix v cc b e) =
          walkR (ownR strict p.vars p.arrays) p.vars p.arrays d (ctxI p.vars p.arrays (.mk k t ix v cc b e) c) e (walkR (ownR strict p.vars p.arrays) p.vars p.arrays d (ctxI p.vars p.arrays (.mk k t ix v cc b e) c) b (a + 1)).2) := fun a k t ix v cc b e => by
      refine ⟨fun h => ?_, fun h h' => ?_, fun h h' => ?_⟩
      · unfold wkF; rw [if_neg (by simp), if_pos h]
      · unfold wkF; rw [if_neg (by simp), if_neg (by simpa using h)]; exact if_pos h'
      · unfold wkF; rw [if_neg (by simp), if_neg (by simpa using h)]; exact if_neg fun hn => hn h'
    generalize wkF (ownR strict p.vars p.arrays) p.vars p.arrays d c = F at *
    have hfold : ∀ i s, l[i]? = some s → (l.take (i + 1)).foldl F (0, n) = F ((l.take i).foldl F (0, n)) s := fun i s h => by rw [List.take_add_one, h]; simp
    have hend : ∀ i s a, l[i]? = some s → (l.take i).foldl F (0, n) = (0, a) → (F (0, a) s).1 ≠ 0 → l.foldl F (0, n) = F (0, a) s := fun i s a hs h0 h1 => by
      have e : l = l.take (i + 1) ++ l.drop (i + 1) := (List.take_append_drop _ _).symm
      rw [e, List.foldl_append, hfold i s hs, h0]
      exact hstop _ _ h1
    have hctx : ∀ s, ctxI p.vars p.arrays s c ≤ 3 := fun s => by
      unfold ctxI
      split
      · exact or3 hc (hle _)
      · exact hc
    have hK : ∀ (i : Nat) (s : St1), l[i]? = some s → tsum (tsize (d + 1)) l (i + 1) = tsum (tsize (d + 1)) l i + 1 + lsize d s.body + lsize d s.els ∧ tsum (tsize (d + 1)) l (i + 1) ≤ lsize (d + 1) l := fun i s hi => by
      have a1 := tsum_succ (tsize (d + 1)) l i s hi
      have a2 := tsum_le (tsize (d + 1)) l (i + 1)
      have a3 := tsize_subs d s
      have a4 : lsize (d + 1) l = (l.map (tsize (d + 1))).sum := rfl
      simp only [subs] at a3
      omega
    have ret : ∀ (x : Int × Int) (hp : Hp), x = l.foldl F (0, n) → RetOb 0 (fun r h => r = .tup [DI .i64 (l.foldl F (0, n)).1, DI .i64 (l.foldl F (0, n)).2] ∧ h = []) (.tup [DI .i64 x.1, DI .i64 x.2]) hp := fun x hp h => by
      subst h
      exact RetOb.ofQ (fun _ => none) [] (.tup [DI .i64 (l.foldl F (0, n)).1, DI .i64 (l.foldl F (0, n)).2]) [] (by simp [enumL, DM, DMs, CM, HpOK, LowOK]) ⟨rfl, rfl⟩ (by simp)
    generalize hR : (fun (r : D) (h : List (Option (List C))) => r = .tup [DI .i64 (l.foldl F (0, n)).1, DI .i64 (l.foldl F (0, n)).2] ∧ h = []) = R at ret ⊢
    clear hR hstop
    obtain ⟨vs, ar, bd⟩ := p
    refine dcZ Try.func128 ?_
    simp (maxSteps := 9999999) only [go_sem]
    refine Go.loopQ (fun σ : Nat × Int => [(1, .c (.isl 11 (St1.cellsL l))), (2, DI .i64 c), (3, DI .i64 σ.2), (4, DB strict), (5, .c (.ptr 0 0)), (12, DI .i64 σ.1)])
      (fun σ => [(0, some (Pg.cells ⟨vs, ar, bd⟩))]) 4096 (fun σ => σ.1 ≤ l.length ∧ (l.take σ.1).foldl F (0, n) = (0, σ.2) ∧ n ≤ σ.2 ∧ σ.2 ≤ n + tsum (tsize (d + 1)) l σ.1) (fun σ => l.length - σ.1) ?_ (0, n) some [] _ ⟨Nat.zero_le _, rfl, Int.le_refl _, by simp [tsum]⟩ ?_
    · rintro ⟨i, a⟩ ⟨hi, hia, hna, han⟩ again
      simp only at hi hia hna han
      rcases Nat.lt_or_ge i l.length with hlt | hge
      · obtain ⟨⟨k, t, ⟨ik, iv, iks⟩, ⟨vk, vv, vks⟩, cc, b, e⟩, hs⟩ : ∃ s, l[i]? = some s := ⟨l[i], by simp [hlt]⟩
        have hso := hok _ (List.mem_of_getElem? hs)
        have hbo := stmtOK_succ hso
        have hkk := hK i _ hs
        have hw := hown _ hso
        have hfi := hfold i _ hs
        rw [hia] at hfi
        have hen := hend i _ a hs hia
        obtain ⟨hF1, hF2, hF3⟩ := hFd a k t (.mk ik iv iks) (.mk vk vv vks) cc b e
        have hcx := hctx (.mk k t (.mk ik iv iks) (.mk vk vv vks) cc b e)
        have hsh : k = 3 → shape ⟨vs, ar, bd⟩ 5 (.mk vk vv vks) = true := fun h => (shapeV hso).1 (by omega)
        simp only [St1.body, St1.els] at hkk
        have hb := ih b (ctxI vs ar (.mk k t (.mk ik iv iks) (.mk vk vv vks) cc b e) c) (a + 1) hcx hbo.2.1 (by omega) (by omega)
        have hbw := hwl (ctxI vs ar (.mk k t (.mk ik iv iks) (.mk vk vv vks) cc b e) c) b (a + 1)
        have he := fun n h1 h2 => ih e (ctxI vs ar (.mk k t (.mk ik iv iks) (.mk vk vv vks) cc b e) c) n hcx hbo.2.2 h1 h2
        have hew := fun n => hwl (ctxI vs ar (.mk k t (.mk ik iv iks) (.mk vk vv vks) cc b e) c) e n
        have hcd : k = 3 → ctxI vs ar (.mk k t (.mk ik iv iks) (.mk vk vv vks) cc b e) c = c ||| labN vs ar 5 (.mk vk vv vks) := fun h => by subst h; rfl
        have hcn : k ≠ 3 → ctxI vs ar (.mk k t (.mk ik iv iks) (.mk vk vv vks) cc b e) c = c := fun h => by unfold ctxI; exact if_neg h
        have hlk := fun h => hlab (.mk vk vv vks) (hsh h)
        have hlvl := hle (.mk vk vv vks)
        simp only at hw hb hbw he hew hF1 hF2 hF3 hlk hlvl hcx
        generalize hF : F (0, a) (.mk k t (.mk ik iv iks) (.mk vk vv vks) cc b e) = Fs at *
        generalize labN vs ar 5 (.mk vk vv vks) = lv at *
        generalize ownR strict vs ar (.mk k t (.mk ik iv iks) (.mk vk vv vks) cc b e) c = ro at *
        generalize ctxI vs ar (.mk k t (.mk ik iv iks) (.mk vk vv vks) cc b e) c = cx at *
        generalize walkR (ownR strict vs ar) vs ar d cx b (a + 1) = wb at *
        obtain ⟨r1, a1⟩ := wb
        simp only at hbw hF2 hF3 hb
        have he := he a1 (by omega) (by omega)
        have hew := hew a1
        generalize walkR (ownR strict vs ar) vs ar d cx e a1 = we at *
        obtain ⟨r2, a2⟩ := we
        simp only at hew he
        clear hwl hFd hlab hown hK hend hfold hF
        by_cases hro : ro = 0
        · subst hro
          clear hF1
          have hF2 := hF2 rfl
          have hF3 := hF3 rfl
          by_cases hk : k = 3
          case' pos =>
            have hcx2 := hcd hk
            subst hcx2
            have hlk := hlk hk
            have hk := eq_true hk
            have ek : (k == 3) = true := by simp [hk]
          case' neg =>
            have hcx2 := hcn hk
            subst hcx2
            have hlk := ()
            have ek : (k == 3) = false := by simp [hk]
          all_goals
            by_cases hr1 : r1 = 0
            · subst hr1
              have hF3 := hF3 rfl
              subst hF3
              by_cases hr2 : r2 = 0
              · subst hr2
                refine drvL Try.func128 ?_
                simp (maxSteps := 9999999) only [go_sem, hs, hlt]
                iterate 14 ((try (refine drvZ Try.func128 ?_; simp (maxSteps := 9999999) only [go_sem, hs, hlt, hk, ek, bne_self_eq_false])); (try ((with_reducible refine And.intro ?_ ?_) <;> (repeat' with_reducible apply And.intro) <;> try exact sd)); (try first | refine XK.p hw ok149 ?_ | refine XK.gp hw ok149 ?_ | refine XK.p hlk ok150 ?_ | refine XK.gp hlk ok150 ?_ | refine XK.p hb ok128 ?_ | refine XK.gp hb ok128 ?_ | refine XK.p he ok128 ?_ | refine XK.gp he ok128 ?_))
                refine again (i + 1, a2) some [] _ ⟨hlt, hfi, (show n ≤ a2 by omega), (show a2 ≤ n + tsum (tsize (d + 1)) l (i + 1) by omega)⟩ (show l.length - (i + 1) < l.length - i by omega) ?_
                simp (maxSteps := 9999999) only [go_sem, TmOK, DM, DMs, CM, CMs, forall_eq, exists_eq_left, Mq, HpOK, LowOK]
                try simp
              · have g1 : (r2 = 0) = False := eq_false hr2
                have g2 : (r2 != 0) = true := by simp [hr2]
                refine drvL Try.func128 ?_
                simp (maxSteps := 9999999) only [go_sem, hs, hlt]
                iterate 14 ((try (refine drvZ Try.func128 ?_; simp (maxSteps := 9999999) only [go_sem, hs, hlt, hk, ek, g1, g2, bne_self_eq_false])); (try ((with_reducible refine And.intro ?_ ?_) <;> (repeat' with_reducible apply And.intro) <;> try exact sd)); (try first | refine XK.p hw ok149 ?_ | refine XK.gp hw ok149 ?_ | refine XK.p hlk ok150 ?_ | refine XK.gp hlk ok150 ?_ | refine XK.p hb ok128 ?_ | refine XK.gp hb ok128 ?_ | refine XK.p he ok128 ?_ | refine XK.gp he ok128 ?_))
                exact ret (r2, a2) _ (hen hr2).symm
            · have g1 : (r1 = 0) = False := eq_false hr1
              have g2 : (r1 != 0) = true := by simp [hr1]
              have g3 : (r1 == 0) = false := by simp [hr1]
              have hF2 := hF2 hr1
              subst hF2
              refine drvL Try.func128 ?_
              simp (maxSteps := 9999999) only [go_sem, hs, hlt]
              iterate 14 ((try (refine drvZ Try.func128 ?_; simp (maxSteps := 9999999) only [go_sem, hs, hlt, hk, ek, g1, g2, g3, bne_self_eq_false])); (try ((with_reducible refine And.intro ?_ ?_) <;> (repeat' with_reducible apply And.intro) <;> try exact sd)); (try first | refine XK.p hw ok149 ?_ | refine XK.gp hw ok149 ?_ | refine XK.p hlk ok150 ?_ | refine XK.gp hlk ok150 ?_ | refine XK.p hb ok128 ?_ | refine XK.gp hb ok128 ?_ | refine XK.p he ok128 ?_ | refine XK.gp he ok128 ?_))
              exact ret (r1, a1) _ (hen hr1).symm
        · have hFs := hF1 hro
          have g1 : (ro = 0) = False := eq_false hro
          have g2 : (ro != 0) = true := by simp [hro]
          refine drvL Try.func128 ?_
          simp (maxSteps := 9999999) only [go_sem, hs, hlt]
          iterate 6 ((try (refine drvZ Try.func128 ?_; simp (maxSteps := 9999999) only [go_sem, hs, hlt, g1, g2])); (try ((with_reducible refine And.intro ?_ ?_) <;> (repeat' with_reducible apply And.intro) <;> try exact sd)); (try first | refine XK.p hw ok149 ?_ | refine XK.gp hw ok149 ?_))
          subst hFs
          exact ret (ro, a) _ (hen hro).symm
      · have hn : ¬ i < l.length := by omega
        obtain rfl : i = l.length := by omega
        rw [List.take_length] at hia
        refine drvL Try.func128 ?_
        simp (maxSteps := 9999999) only [go_sem, hn]
        iterate 3 ((try (refine drvZ Try.func128 ?_; simp (maxSteps := 9999999) only [go_sem, hn])); (try ((with_reducible refine And.intro ?_ ?_) <;> (repeat' with_reducible apply And.intro) <;> try exact sd)))
        exact ret (0, a) _ hia.symm
    · simp (maxSteps := 9999999) only [go_sem, TmOK, DM, DMs, CM, CMs, forall_eq, exists_eq_left, Mq, HpOK, LowOK]
      try simp
end Go.Proofs.Ytclgjiffpijgmaa.CtR

namespace Go.Proofs.Ytclgjiffpijgmaa.CtR
open Go Go.CT CtF

theorem checkS (p : Pg) (hl : p.vars.length ≤ mx) (hl2 : p.arrays.length ≤ mx) (hb : lsize 5 p.body ≤ 1099511627776) (strict : Bool) : DC Try.prog 83 [.agg p.cells, DB strict] [] (fun r h => r = .tup [DI .i64 (chkR (ownR strict) p).1, DI .i64 (chkR (ownR strict) p).2] ∧ h = []) := by
  have hmx := mx_eq
  have hv := programValidS p hl hl2 hb
  have ret : ∀ (x : Int × Int) (hp : Hp), x = chkR (ownR strict) p → RetOb 0 (fun r h => r = .tup [DI .i64 (chkR (ownR strict) p).1, DI .i64 (chkR (ownR strict) p).2] ∧ h = []) (.tup [DI .i64 x.1, DI .i64 x.2]) hp := fun x hp h => by
    subst h
    exact RetOb.two ⟨rfl, rfl⟩
  generalize hR : (fun (r : D) (h : List (Option (List C))) => r = .tup [DI .i64 (chkR (ownR strict) p).1, DI .i64 (chkR (ownR strict) p).2] ∧ h = []) = R at ret ⊢
  clear hR
  cases hq : progOK p with
  | false =>
    rw [hq] at hv
    have he : chkR (ownR strict) p = (5, -1) := by unfold chkR; rw [hq]; rfl
    obtain ⟨vs, ar, bd⟩ := p
    refine dcZ Try.func83 ?_
    simp (maxSteps := 9999999) only [go_sem]
    iterate 4 ((try (refine drvZ Try.func83 ?_; simp (maxSteps := 9999999) only [go_sem])); (try ((with_reducible refine And.intro ?_ ?_) <;> (repeat' with_reducible apply And.intro) <;> try exact sd)); (try first | refine XK.p hv ok48 ?_ | refine XK.gp hv ok48 ?_))
    exact ret (5, -1) _ he.symm
  | true =>
    rw [hq] at hv
    have hlab := labs_of hq
    have hbo := body_of hq
    have hbl := blockS p hl hl2 hlab.1 hlab.2 strict 5 p.body 0 0 (by decide) hbo.1 (by omega) (by have := hbo.2; omega)
    have he : chkR (ownR strict) p = ((walkR (ownR strict p.vars p.arrays) p.vars p.arrays 5 0 p.body 0).1, if (walkR (ownR strict p.vars p.arrays) p.vars p.arrays 5 0 p.body 0).1 = 0 then -1 else (walkR (ownR strict p.vars p.arrays) p.vars p.arrays 5 0 p.body 0).2) := by
      unfold chkR; rw [if_pos hq]
    generalize walkR (ownR strict p.vars p.arrays) p.vars p.arrays 5 0 p.body 0 = w at *
    obtain ⟨r1, a1⟩ := w
    simp only at he hbl
    obtain ⟨vs, ar, bd⟩ := p
    by_cases hr : r1 = 0
    · subst hr
      rw [if_pos rfl] at he
      refine dcZ Try.func83 ?_
      simp (maxSteps := 9999999) only [go_sem]
      iterate 6 ((try (refine drvZ Try.func83 ?_; simp (maxSteps := 9999999) only [go_sem])); (try ((with_reducible refine And.intro ?_ ?_) <;> (repeat' with_reducible apply And.intro) <;> try exact sd)); (try first | refine XK.p hv ok48 ?_ | refine XK.gp hv ok48 ?_ | refine XK.p hbl ok128 ?_ | refine XK.gp hbl ok128 ?_))
      exact ret (0, -1) _ he.symm
    · have g1 : (r1 = 0) = False := eq_false hr
      have g2 : (r1 == 0) = false := by simp [hr]
      rw [if_neg hr] at he
      refine dcZ Try.func83 ?_
      simp (maxSteps := 9999999) only [go_sem]
      iterate 6 ((try (refine drvZ Try.func83 ?_; simp (maxSteps := 9999999) only [go_sem, g1, g2])); (try ((with_reducible refine And.intro ?_ ?_) <;> (repeat' with_reducible apply And.intro) <;> try exact sd)); (try first | refine XK.p hv ok48 ?_ | refine XK.gp hv ok48 ?_ | refine XK.p hbl ok128 ?_ | refine XK.gp hbl ok128 ?_))
      exact ret (r1, a1) _ he.symm

theorem checkFlowS (p : Pg) (hl : p.vars.length ≤ mx) (hl2 : p.arrays.length ≤ mx) (hb : lsize 5 p.body ≤ 1099511627776) : DC Try.prog 38 [.agg p.cells] [] (fun r h => r = .tup [DI .i64 (chkR flowR p).1, DI .i64 (chkR flowR p).2] ∧ h = []) := by
  have hc := checkS p hl hl2 hb false
  rw [own_flow] at hc
  generalize chkR flowR p = x at *
  generalize hR : (fun (r : D) (h : List (Option (List C))) => r = .tup [DI .i64 x.1, DI .i64 x.2] ∧ h = []) = R
  obtain ⟨vs, ar, bd⟩ := p
  refine dcZ Try.func38 ?_
  simp (maxSteps := 9999999) only [go_sem]
  rw [hR] at hc
  subst hR
  iterate 4 ((try (refine drvZ Try.func38 ?_; simp (maxSteps := 9999999) only [go_sem])); (try ((with_reducible refine And.intro ?_ ?_) <;> (repeat' with_reducible apply And.intro) <;> try exact sd)); (try first | refine XK.p hc ok83 ?_ | refine XK.gp hc ok83 ?_))
  exact RetOb.two ⟨rfl, rfl⟩

end Go.Proofs.Ytclgjiffpijgmaa.CtR

namespace Go.Proofs.Ytclgjiffpijgmaa.CtR
open Go Go.CT CtF

theorem storedI (p : Pg) (hl : p.vars.length ≤ mx) (hl2 : p.arrays.length ≤ mx) (h1 : lab3 p.vars) (h2 : lab3 p.arrays) (s : St1) (hv : shape p 5 s.value = true) (hi : s.kind = 2 → shape p 5 s.index = true) (c : Nat) (hc : c ≤ 3) :
    DC Try.prog 127 [.agg p.cells, .agg s.cells, DI .i64 c] [] (fun r h => r = DI .i64 (storedN p.vars p.arrays s c) ∧ h = []) := by
  have hmx := mx_eq
  have hlv := labelI p hl hl2 h1 h2 5 s.value hv
  have hli := fun h => labelI p hl hl2 h1 h2 5 s.index (hi h)
  have hle := labN_le h1 h2 5
  obtain ⟨vs, ar, bd⟩ := p
  have hlvl := hle s.value
  have hlil := hle s.index
  by_cases hk : s.kind = 2
  · have he : storedN vs ar s c = labN vs ar 5 s.value ||| c ||| labN vs ar 5 s.index := by unfold storedN; rw [if_pos hk]
    have hli := hli hk
    simp only at he hli hlv hlvl hlil ⊢
    rw [he]
    generalize labN vs ar 5 s.value = lv at *
    generalize labN vs ar 5 s.index = li at *
    have ho := or3 hlvl hc
    obtain ⟨k, t, ⟨ik, iv, iks⟩, ⟨vk, vv, vks⟩, cc, b, e⟩ := s
    have hk : k = 2 := hk
    subst hk
    generalize hR : (fun (r : D) (h : List (Option (List C))) => r = DI .i64 ((lv ||| c ||| li : Nat) : Int) ∧ h = []) = R
    refine dcZ Try.func127 ?_
    simp (maxSteps := 9999999) only [go_sem]
    iterate 6 ((try (refine drvZ Try.func127 ?_; simp (maxSteps := 9999999) only [go_sem])); (try ((with_reducible refine And.intro ?_ ?_) <;> (repeat' with_reducible apply And.intro) <;> try exact sd)); (try first | refine XK.p hlv ok99 ?_ | refine XK.gp hlv ok99 ?_ | refine XK.p hli ok99 ?_ | refine XK.gp hli ok99 ?_))
    subst hR
    exact RetOb.plain (d := DI .i64 _) ⟨rfl, rfl⟩ rfl
  · have he : storedN vs ar s c = labN vs ar 5 s.value ||| c := by unfold storedN; rw [if_neg hk]
    simp only at he hlv hlvl ⊢
    rw [he]
    generalize labN vs ar 5 s.value = lv at *
    obtain ⟨k, t, ⟨ik, iv, iks⟩, ⟨vk, vv, vks⟩, cc, b, e⟩ := s
    have hk : k ≠ 2 := hk
    have g1 : (k = 2) = False := eq_false hk
    have g2 : (k == 2) = false := by simp [hk]
    generalize hR : (fun (r : D) (h : List (Option (List C))) => r = DI .i64 ((lv ||| c : Nat) : Int) ∧ h = []) = R
    refine dcZ Try.func127 ?_
    simp (maxSteps := 9999999) only [go_sem]
    iterate 6 ((try (refine drvZ Try.func127 ?_; simp (maxSteps := 9999999) only [go_sem, g1, g2])); (try ((with_reducible refine And.intro ?_ ?_) <;> (repeat' with_reducible apply And.intro) <;> try exact sd)); (try first | refine XK.p hlv ok99 ?_ | refine XK.gp hlv ok99 ?_))
    subst hR
    exact RetOb.plain (d := DI .i64 _) ⟨rfl, rfl⟩ rfl

theorem flowI (p : Pg) (hl : p.vars.length ≤ mx) (hl2 : p.arrays.length ≤ mx) (h1 : lab3 p.vars) (h2 : lab3 p.arrays) (d : Nat) (s : St1) (hs : stmtOK p (d + 1) s = true) (c : Nat) (hc : c ≤ 3) :
    DC Try.prog 82 [.agg p.cells, .agg s.cells, DI .i64 c] [] (fun r h => r = DI .i64 (flowR p.vars p.arrays s c) ∧ h = []) := by
  have hmx := mx_eq
  have hlab := labelI p hl hl2 h1 h2 5
  have hsto := storedI p hl hl2 h1 h2
  have hle := labN_le h1 h2 5
  obtain ⟨vs, ar, bd⟩ := p
  have h1 : lab3 vs := h1
  have h2 : lab3 ar := h2
  have ret : ∀ (n : Int) (hp : Hp), n = flowR vs ar s c → RetOb 0 (fun r h => r = DI .i64 (flowR vs ar s c) ∧ h = []) (DI .i64 n) hp := fun n hp h => RetOb.plain (d := DI .i64 _) ⟨by rw [h], rfl⟩ rfl
  simp only at ret hle ⊢
  generalize hR : (fun (r : D) (h : List (Option (List C))) => r = DI .i64 (flowR vs ar s c) ∧ h = []) = R at ret ⊢
  clear hR
  obtain ⟨k, t, ⟨ik, iv, iks⟩, ⟨vk, vv, vks⟩, cc, b, e⟩ := s
  have hh := head_kind (stmtOK_succ hs).1
  obtain ⟨sv, si⟩ := shapeV hs
  have hst : k = 1 ∨ k = 2 → storedN vs ar (.mk k t (.mk ik iv iks) (.mk vk vv vks) cc b e) c ≤ 3 := fun _ => by
    unfold storedN; split
    · exact or3 (or3 (hle _) hc) (hle _)
    · exact or3 (hle _) hc
  rcases hh with ⟨hk, ht0, ht1, hr⟩ | ⟨rfl, ht0, ht1, hri, hat, hr⟩ | ⟨rfl, hr⟩ | ⟨rfl, _, _⟩
  · obtain ⟨T, hT, hTe, htt⟩ := lab_at h1 ht0 ht1
    rcases hk with rfl | rfl
    · have hsv := hsto (.mk 1 t (.mk ik iv iks) (.mk vk vv vks) cc b e) (sv (by decide)) (fun h => by simp [St1.kind] at h) c hc
      have hfl := flowsI _ T (hst (.inl rfl)) hT
      have he : flowR vs ar (.mk 1 t (.mk ik iv iks) (.mk vk vv vks) cc b e) c = if subL (storedN vs ar (.mk 1 t (.mk ik iv iks) (.mk vk vv vks) cc b e) c) (nth vs t).toNat = true then 0 else 1 := rfl
      rw [he, hTe] at ret
      simp only at hsv
      generalize storedN vs ar (.mk 1 t (.mk ik iv iks) (.mk vk vv vks) cc b e) c = st at *
      generalize subL st T = sub at *
      rcases hx : ar[t.toNat]? with _ | y <;> cases sub
      all_goals
        refine dcZ Try.func82 ?_
        simp (maxSteps := 9999999) only [go_sem]
        iterate 12 ((try (refine drvZ Try.func82 ?_; simp (maxSteps := 9999999) only [go_sem, htt, hx])); (try ((with_reducible refine And.intro ?_ ?_) <;> (repeat' with_reducible apply And.intro) <;> try exact sd)); (try first | refine XK.p hsv ok127 ?_ | refine XK.gp hsv ok127 ?_ | refine XK.p hfl ok126 ?_ | refine XK.gp hfl ok126 ?_ | refine XK.gs (DB false) ?_ | refine XK.gs (DI .i64 0) ?_))
      all_goals exact ret _ _ (by rfl)
    · have hlv := hlab _ (right_shape hr).1
      have hlvl := hle (.mk vk vv vks)
      have he : flowR vs ar (.mk 5 t (.mk ik iv iks) (.mk vk vv vks) cc b e) c = if trustL (labN vs ar 5 (.mk vk vv vks)) && c == 0 then 0 else 2 := rfl
      rw [he] at ret
      simp only at hlv
      generalize labN vs ar 5 (.mk vk vv vks) = lv at *
      have htr := labelTrustedI lv hlvl
      generalize trustL lv = tr at *
      have hcz : c = 0 ∨ (c ≠ 0 ∧ ((c : Int) = 0) = False ∧ ((c : Int) != 0) = true) := by
        rcases Nat.eq_zero_or_pos c with h | h
        · exact .inl h
        · exact .inr ⟨by omega, eq_false (by omega), by simp; omega⟩
      rcases hcz with rfl | ⟨hc1, hc2, hc3⟩
      · rcases hx : ar[t.toNat]? with _ | y <;> cases tr
        all_goals
          refine dcZ Try.func82 ?_
          simp (maxSteps := 9999999) only [go_sem]
          iterate 12 ((try (refine drvZ Try.func82 ?_; simp (maxSteps := 9999999) only [go_sem, htt, hx, Int.natCast_zero])); (try ((with_reducible refine And.intro ?_ ?_) <;> (repeat' with_reducible apply And.intro) <;> try exact sd)); (try first | refine XK.p hlv ok99 ?_ | refine XK.gp hlv ok99 ?_ | refine XK.p htr ok87 ?_ | refine XK.gp htr ok87 ?_ | refine XK.gs (DB false) ?_ | refine XK.gs (DI .i64 0) ?_))
        all_goals exact ret _ _ (by rfl)
      · have hce : (c == 0) = false := by simp [hc1]
        rw [hce] at ret
        rcases hx : ar[t.toNat]? with _ | y <;> cases tr
        all_goals
          refine dcZ Try.func82 ?_
          simp (maxSteps := 9999999) only [go_sem]
          iterate 12 ((try (refine drvZ Try.func82 ?_; simp (maxSteps := 9999999) only [go_sem, htt, hx, hc2, hc3])); (try ((with_reducible refine And.intro ?_ ?_) <;> (repeat' with_reducible apply And.intro) <;> try exact sd)); (try first | refine XK.p hlv ok99 ?_ | refine XK.gp hlv ok99 ?_ | refine XK.p htr ok87 ?_ | refine XK.gp htr ok87 ?_ | refine XK.gs (DB false) ?_ | refine XK.gs (DI .i64 0) ?_))
        all_goals exact ret _ _ (by rfl)
  · obtain ⟨T, hT, hTe, htt⟩ := lab_at h2 ht0 ht1
    have hsv := hsto (.mk 2 t (.mk ik iv iks) (.mk vk vv vks) cc b e) (sv (by decide)) (fun h => si rfl) c hc
    have hfl := flowsI _ T (hst (.inr rfl)) hT
    have he : flowR vs ar (.mk 2 t (.mk ik iv iks) (.mk vk vv vks) cc b e) c = if subL (storedN vs ar (.mk 2 t (.mk ik iv iks) (.mk vk vv vks) cc b e) c) (nth ar t).toNat = true then 0 else 1 := rfl
    rw [he, hTe] at ret
    simp only at hsv
    generalize storedN vs ar (.mk 2 t (.mk ik iv iks) (.mk vk vv vks) cc b e) c = st at *
    generalize subL st T = sub at *
    rcases hx : vs[t.toNat]? with _ | y <;> cases sub
    all_goals
      refine dcZ Try.func82 ?_
      simp (maxSteps := 9999999) only [go_sem]
      iterate 12 ((try (refine drvZ Try.func82 ?_; simp (maxSteps := 9999999) only [go_sem, htt, hx])); (try ((with_reducible refine And.intro ?_ ?_) <;> (repeat' with_reducible apply And.intro) <;> try exact sd)); (try first | refine XK.p hsv ok127 ?_ | refine XK.gp hsv ok127 ?_ | refine XK.p hfl ok126 ?_ | refine XK.gp hfl ok126 ?_ | refine XK.gs (DB false) ?_ | refine XK.gs (DI .i64 0) ?_))
    all_goals exact ret _ _ (by rfl)
  · rcases hx : vs[t.toNat]? with _ | y <;> rcases hy : ar[t.toNat]? with _ | y2
    all_goals
      refine dcZ Try.func82 ?_
      simp (maxSteps := 9999999) only [go_sem]
      iterate 12 ((try (refine drvZ Try.func82 ?_; simp (maxSteps := 9999999) only [go_sem, hx, hy])); (try ((with_reducible refine And.intro ?_ ?_) <;> (repeat' with_reducible apply And.intro) <;> try exact sd)); (try first | refine XK.gs (DB false) ?_ | refine XK.gs (DI .i64 0) ?_))
    all_goals exact ret _ _ (by rfl)
  · rcases hx : vs[t.toNat]? with _ | y <;> rcases hy : ar[t.toNat]? with _ | y2
    all_goals
      refine dcZ Try.func82 ?_
      simp (maxSteps := 9999999) only [go_sem]
      iterate 12 ((try (refine drvZ Try.func82 ?_; simp (maxSteps := 9999999) only [go_sem, hx, hy])); (try ((with_reducible refine And.intro ?_ ?_) <;> (repeat' with_reducible apply And.intro) <;> try exact sd)); (try first | refine XK.gs (DB false) ?_ | refine XK.gs (DI .i64 0) ?_))
    all_goals exact ret _ _ (by rfl)
end Go.Proofs.Ytclgjiffpijgmaa.CtR

namespace Go.Proofs.Ytclgjiffpijgmaa.CtR
open Go Go.CT CtF

theorem hhp_each44 {hp : Hp} {r : Nat → Nat} {h0 h1 h2 h3 : Option (List C)} (e0 : hp 0 = some (h0.map (renCs r))) (e1 : hp 1 = some (h1.map (renCs r))) (e2 : hp 2 = some (h2.map (renCs r))) (e3 : hp 3 = some (h3.map (renCs r))) :
    ∀ i' x, [h0, h1, h2, h3][i']? = some x → hp ([0, 1, 2, 3].getD i' 0) = some (x.map (renCs r)) := by
  intro i' x hx
  match i', hx with
  | 0, hx => simp only [List.getElem?_cons_zero, List.getElem?_cons_succ, Option.some.injEq] at hx; subst hx; exact e0
  | 1, hx => simp only [List.getElem?_cons_zero, List.getElem?_cons_succ, Option.some.injEq] at hx; subst hx; exact e1
  | 2, hx => simp only [List.getElem?_cons_zero, List.getElem?_cons_succ, Option.some.injEq] at hx; subst hx; exact e2
  | 3, hx => simp only [List.getElem?_cons_zero, List.getElem?_cons_succ, Option.some.injEq] at hx; subst hx; exact e3
  | i' + 4, hx => simp at hx
theorem rkid_each44 (b : Nat) : ∀ k, k < 4 → rk0 [0, 1, 2, 3] b k = k := fun k hk => by
  match k, hk with
  | 0, _ => rfl
  | 1, _ => rfl
  | 2, _ => rfl
  | 3, _ => rfl
theorem rkey_each44 (b : Nat) : ∀ k, k < 4 → rkey [0, 1, 2, 3] b k = k := fun k hk => by
  match k, hk with
  | 0, _ => rfl
  | 1, _ => rfl
  | 2, _ => rfl
  | 3, _ => rfl

theorem each44 {X : Type} (p : Pg) (hl : p.vars.length ≤ mx) (hl2 : p.arrays.length ≤ mx) (h1 : lab3 p.vars) (h2 : lab3 p.arrays) (F : FuncId) (hF : fnOK Try.prog F = true)
    (b0 b1 b2 b3 : X → List C) (hr0 : ∀ x r, (∀ k, k < 4 → r k = k) → renCs r (b0 x) = b0 x) (hr1 : ∀ x r, (∀ k, k < 4 → r k = k) → renCs r (b1 x) = b1 x) (hr2 : ∀ x r, (∀ k, k < 4 → r k = k) → renCs r (b2 x) = b2 x) (hr3 : ∀ x r, (∀ k, k < 4 → r k = k) → renCs r (b3 x) = b3 x) (hc0 : ∀ x hT hS fz, (∀ k, k < 4 → hT k ≠ none) → CMs hT some hS fz (b0 x) (b0 x)) (hc1 : ∀ x hT hS fz, (∀ k, k < 4 → hT k ≠ none) → CMs hT some hS fz (b1 x) (b1 x)) (hc2 : ∀ x hT hS fz, (∀ k, k < 4 → hT k ≠ none) → CMs hT some hS fz (b2 x) (b2 x)) (hc3 : ∀ x hT hS fz, (∀ k, k < 4 → hT k ≠ none) → CMs hT some hS fz (b3 x) (b3 x)) (step : X → St1 → Nat → X) (Inv : Nat → X → Prop)
    (hcl : ∀ d x s (c q : Nat), q < 1000 → Inv q x → c ≤ 3 → stmtOK p d s = true → Inv (q + 1) (step x s c) ∧ DC Try.prog F [.agg s.cells, DI .i64 c, .c (.ptr 0 0), .c (.ptr 1 0), .c (.ptr 2 0), .c (.ptr 3 0)] [some (b0 x), some (b1 x), some (b2 x), some (b3 x)] (fun r h => r = .tup [] ∧ h = [some (b0 (step x s c)), some (b1 (step x s c)), some (b2 (step x s c)), some (b3 (step x s c))])) :
    ∀ (d : Nat) (l : List St1) (x : X) (c q : Nat), Inv q x → c ≤ 3 → (∀ s ∈ l, stmtOK p d s = true) → q + lsize d l ≤ 1000 →
      Inv (q + lsize d l) (eachF p.vars p.arrays step d c x l) ∧ DC Try.prog 52 [.agg p.cells, .c (.isl 11 (St1.cellsL l)), DI .i64 c, .c (.clo F [.ptr 0 0, .ptr 1 0, .ptr 2 0, .ptr 3 0])] [some (b0 x), some (b1 x), some (b2 x), some (b3 x)] (fun r h => r = .tup [] ∧ h = [some (b0 (eachF p.vars p.arrays step d c x l)), some (b1 (eachF p.vars p.arrays step d c x l)), some (b2 (eachF p.vars p.arrays step d c x l)), some (b3 (eachF p.vars p.arrays step d c x l))]) := by
  have hmx := mx_eq
  intro d
  induction d with
  | zero =>
    intro l x c q hx hc hok hsz
    have hnil : l = [] := by
      cases l with
      | nil => rfl
      | cons a r => have := hok a (by simp); simp [stmtOK] at this
    subst hnil
    refine ⟨by rw [lsize_zero]; exact hx, ?_⟩
    obtain ⟨vs, ar, bd⟩ := p
    simp only [eachF]
    generalize hR : (fun (r : D) (h : List (Option (List C))) => r = .tup [] ∧ h = [some (b0 x), some (b1 x), some (b2 x), some (b3 x)]) = R
    refine dcZ Try.func52 ?_
    simp (maxSteps := 9999999) only [go_sem, St1.cellsL, Int.natCast_zero]
    refine Go.loop ?_
    have hz : ((0 : Int) < 0) = False := eq_false (by omega)
    refine drvL Try.func52 ?_
    simp (maxSteps := 9999999) only [go_sem, St1.cellsL, Int.natCast_zero, hz]
    refine RetOb.ofQ some [] (.tup []) [some (b0 x), some (b1 x), some (b2 x), some (b3 x)] ?_ (by rw [← hR]; exact ⟨rfl, rfl⟩) (by simp)
    simp [enumL, DMs, DM, HpOK, LowOK, hOf, upd, hpL]
    refine ⟨hc0 _ _ _ _ ?_, hc1 _ _ _ _ ?_, hc2 _ _ _ _ ?_, hc3 _ _ _ _ ?_⟩
    all_goals (intro k hk; rcases (show k = 0 ∨ k = 1 ∨ k = 2 ∨ k = 3 by omega) with rfl | rfl | rfl | rfl <;> simp [upd])
  | succ d ih =>
    intro l x c q hx hc hok hsz
    have hsub := lsize_subs d l
    have hll : l.length ≤ 1000 := by omega
    let f : X → St1 → X := fun x s => eachF p.vars p.arrays step d (ctxI p.vars p.arrays s c) (eachF p.vars p.arrays step d (ctxI p.vars p.arrays s c) (step x s c) s.body) s.els
    have hfold : ∀ i s, l[i]? = some s → (l.take (i + 1)).foldl f x = f ((l.take i).foldl f x) s := fun i s h => by
      rw [List.take_add_one, h]; simp
    have hres : eachF p.vars p.arrays step (d + 1) c x l = l.foldl f x := rfl
    have hf : ∀ (x : X) (s : St1), f x s = eachF p.vars p.arrays step d (ctxI p.vars p.arrays s c) (eachF p.vars p.arrays step d (ctxI p.vars p.arrays s c) (step x s c) s.body) s.els := fun _ _ => rfl
    clear_value f
    have hlabI := fun e => labelI p hl hl2 h1 h2 5 e
    have hlabL := fun e => labN_le h1 h2 5 e
    have e0 : ∀ y b, renCs (rkey [0, 1, 2, 3] b) (b0 y) = b0 y := fun y b => hr0 y _ (rkey_each44 b)
    have e1 : ∀ y b, renCs (rkey [0, 1, 2, 3] b) (b1 y) = b1 y := fun y b => hr1 y _ (rkey_each44 b)
    have e2 : ∀ y b, renCs (rkey [0, 1, 2, 3] b) (b2 y) = b2 y := fun y b => hr2 y _ (rkey_each44 b)
    have e3 : ∀ y b, renCs (rkey [0, 1, 2, 3] b) (b3 y) = b3 y := fun y b => hr3 y _ (rkey_each44 b)
    generalize hR : (fun (r : D) (h : List (Option (List C))) => r = .tup [] ∧ h = [some (b0 (eachF p.vars p.arrays step (d + 1) c x l)), some (b1 (eachF p.vars p.arrays step (d + 1) c x l)), some (b2 (eachF p.vars p.arrays step (d + 1) c x l)), some (b3 (eachF p.vars p.arrays step (d + 1) c x l))]) = R
    rw [hres] at hR
    rw [hres]
    have hK : ∀ (i : Nat) (s : St1), l[i]? = some s → q + tsum (tsize (d + 1)) l i + 1 + lsize d s.body + lsize d s.els ≤ 1000 ∧ tsum (tsize (d + 1)) l (i + 1) = tsum (tsize (d + 1)) l i + 1 + lsize d s.body + lsize d s.els := fun i s hi => by
      have a1 := tsum_succ (tsize (d + 1)) l i s hi
      have a2 := tsum_le (tsize (d + 1)) l (i + 1)
      have a3 := tsize_subs d s
      have a4 : lsize (d + 1) l = (l.map (tsize (d + 1))).sum := rfl
      simp only [subs] at a3
      omega
    have hround : ∀ (i : Nat) (s : St1), l[i]? = some s → ∀ y, Inv (q + tsum (tsize (d + 1)) l i) y → ctxI p.vars p.arrays s c ≤ 3 ∧
        (Inv (q + tsum (tsize (d + 1)) l i + 1) (step y s c) ∧ DC Try.prog F [.agg s.cells, DI .i64 c, .c (.ptr 0 0), .c (.ptr 1 0), .c (.ptr 2 0), .c (.ptr 3 0)] [some (b0 y), some (b1 y), some (b2 y), some (b3 y)] (fun r h => r = .tup [] ∧ h = [some (b0 (step y s c)), some (b1 (step y s c)), some (b2 (step y s c)), some (b3 (step y s c))])) := fun i s hi y hy => by
      have hmem := List.mem_of_getElem? hi
      have := (hK i s hi).1
      refine ⟨?_, hcl (d + 1) y s c _ (by omega) hy hc (hok s hmem)⟩
      unfold ctxI
      split
      · exact or3 hc (hlabL _)
      · exact hc
    have hsok : ∀ (i : Nat) (s : St1), l[i]? = some s → (∀ t ∈ s.body, stmtOK p d t = true) ∧ (∀ t ∈ s.els, stmtOK p d t = true) ∧ (s.kind = 3 → shape p 5 s.value = true) := fun i s hi => by
      have hs := hok s (List.mem_of_getElem? hi)
      obtain ⟨k, t, ix, v, cc, b, e⟩ := s
      obtain ⟨g1, g2, g3⟩ := stmtOK_succ hs
      refine ⟨g2, g3, fun hk => ?_⟩
      have hk : k = 3 := hk
      subst hk
      rcases head_kind g1 with h | h | h | h
      · omega
      · omega
      · exact (right_shape h.2).1
      · omega
    have hinv : ∀ i, i ≤ l.length → Inv (q + tsum (tsize (d + 1)) l i) ((l.take i).foldl f x) := fun i => by
      induction i with
      | zero => intro _; simpa [tsum] using hx
      | succ i ihi =>
        intro hi
        have hs : l[i]? = some l[i] := by simp [show i < l.length from hi]
        rw [hfold i _ hs, hf, (hK i _ hs).2]
        have hk := (hK i _ hs).1
        have g := hround i _ hs _ (ihi (by omega))
        have g2 := hsok i _ hs
        have b1 := (ih _ _ _ _ g.2.1 g.1 g2.1 (by omega)).1
        have b2 := (ih _ _ _ _ b1 g.1 g2.2.1 (by omega)).1
        have e : q + (tsum (tsize (d + 1)) l i + 1 + lsize d l[i].body + lsize d l[i].els) = q + tsum (tsize (d + 1)) l i + 1 + lsize d l[i].body + lsize d l[i].els := by omega
        rw [e]
        exact b2
    refine ⟨by have := hinv l.length (Nat.le_refl _); rw [List.take_length] at this; rw [tsum_all _ _ (Nat.le_refl _)] at this; exact this, ?_⟩
    obtain ⟨vs, ar, bd⟩ := p
    have h1 : lab3 vs := h1
    have h2 : lab3 ar := h2
    refine dcZ Try.func52 ?_
    simp (maxSteps := 9999999) only [go_sem]
    refine Go.loopQ (fun i : Nat => [(2, DI .i64 c), (3, .c (.clo F [.ptr 0 0, .ptr 1 0, .ptr 2 0, .ptr 3 0])), (4, .c (.ptr 4 0)), (11, .c (.isl 11 (St1.cellsL l))), (12, DI .i64 l.length), (13, DI .i64 i)])
      (fun i => [(0, some (b0 ((l.take i).foldl f x))), (1, some (b1 ((l.take i).foldl f x))), (2, some (b2 ((l.take i).foldl f x))), (3, some (b3 ((l.take i).foldl f x))), (4, some (Pg.cells ⟨vs, ar, bd⟩))]) 4096 (fun i => i ≤ l.length) (fun i => l.length - i) ?_ 0 some [] _ (Nat.zero_le _) ?_
    · intro i hi again
      have hIi := hinv i hi
      rcases Nat.lt_or_ge i l.length with hlt | hge
      · obtain ⟨⟨k, t, ⟨ik, iv, iks⟩, ⟨vk, vv, vks⟩, cc, b, e⟩, hs⟩ : ∃ s, l[i]? = some s := ⟨l[i], by simp [hlt]⟩
        have hfi := hfold i _ hs
        obtain ⟨q1, q4, q5⟩ := hround i _ hs _ hIi
        obtain ⟨q6, q7, q8⟩ := hsok i _ hs
        have hk := (hK i _ hs).1
        simp only [St1.body, St1.els] at hk
        have ihb := ih b _ _ _ q4 q1 q6 (by omega)
        have ihe := ih e _ _ _ ihb.1 q1 q7 (by omega)
        have ihb2 := ihb.2
        have ihe2 := ihe.2
        have hll2 := hlabL (.mk vk vv vks)
        rw [hf] at hfi
        generalize (l.take i).foldl f x = y at *
        refine drvL Try.func52 ?_
        simp (maxSteps := 9999999) only [go_sem, hs, hlt]
        iterate 2 ((try (refine drvZ Try.func52 ?_; simp (maxSteps := 9999999) only [go_sem, hs, hlt])); (try ((with_reducible refine And.intro ?_ ?_) <;> (repeat' with_reducible apply And.intro) <;> try exact sd)))
        refine XK.callG [0, 1, 2, 3] q5 hF (hhp_each44 (by rw [Option.map_some, hr0 _ _ (rkid_each44 _)]; rfl) (by rw [Option.map_some, hr1 _ _ (rkid_each44 _)]; rfl) (by rw [Option.map_some, hr2 _ _ (rkid_each44 _)]; rfl) (by rw [Option.map_some, hr3 _ _ (rkid_each44 _)]; rfl)) (hbT ()) (fun d h' ⟨_, e⟩ => by subst e; simp) ?_
        rintro _ _ ⟨rfl, rfl⟩ _
        by_cases hk : k = 3
        · subst hk
          have hlb := hlabI (.mk vk vv vks) (q8 rfl)
          have hcx : ctxI vs ar (.mk 3 t (.mk ik iv iks) (.mk vk vv vks) cc b e) c = c ||| labN vs ar 5 (.mk vk vv vks) := by simp [ctxI, St1.kind, St1.value]
          iterate 4 ((try (refine drvZ Try.func52 ?_; simp (maxSteps := 9999999) only [go_sem, hs, hlt, e0, e1, e2, e3])); (try ((with_reducible refine And.intro ?_ ?_) <;> (repeat' with_reducible apply And.intro) <;> try exact sd)))
          refine XK.plain hlb ok99 ?_ (hbT ())
          rw [hcx] at ihb2 ihe2 hfi q1
          generalize labN vs ar 5 (.mk vk vv vks) = lb at *
          iterate 4 ((try (refine drvZ Try.func52 ?_; simp (maxSteps := 9999999) only [go_sem, hs, hlt, e0, e1, e2, e3])); (try ((with_reducible refine And.intro ?_ ?_) <;> (repeat' with_reducible apply And.intro) <;> try exact sd)))
          refine XK.callG [0, 1, 2, 3] ihb2 ok52 (hhp_each44 (by rw [Option.map_some, hr0 _ _ (rkid_each44 _)]; rfl) (by rw [Option.map_some, hr1 _ _ (rkid_each44 _)]; rfl) (by rw [Option.map_some, hr2 _ _ (rkid_each44 _)]; rfl) (by rw [Option.map_some, hr3 _ _ (rkid_each44 _)]; rfl)) (hbT ()) (fun d h' ⟨_, e⟩ => by subst e; simp) ?_
          rintro _ _ ⟨rfl, rfl⟩ _
          iterate 4 ((try (refine drvZ Try.func52 ?_; simp (maxSteps := 9999999) only [go_sem, hs, hlt, e0, e1, e2, e3])); (try ((with_reducible refine And.intro ?_ ?_) <;> (repeat' with_reducible apply And.intro) <;> try exact sd)))
          refine XK.callG [0, 1, 2, 3] ihe2 ok52 (hhp_each44 (by rw [Option.map_some, hr0 _ _ (rkid_each44 _)]; rfl) (by rw [Option.map_some, hr1 _ _ (rkid_each44 _)]; rfl) (by rw [Option.map_some, hr2 _ _ (rkid_each44 _)]; rfl) (by rw [Option.map_some, hr3 _ _ (rkid_each44 _)]; rfl)) (hbT ()) (fun d h' ⟨_, e⟩ => by subst e; simp) ?_
          rintro _ _ ⟨rfl, rfl⟩ _
          iterate 4 ((try (refine drvZ Try.func52 ?_; simp (maxSteps := 9999999) only [go_sem, hs, hlt, e0, e1, e2, e3])); (try ((with_reducible refine And.intro ?_ ?_) <;> (repeat' with_reducible apply And.intro) <;> try exact sd)))
          refine again (i + 1) some [] _ hlt (by omega) ?_
          simp (maxSteps := 9999999) only [go_sem, TmOK, DM, DMs, CM, CMs, forall_eq, exists_eq_left, Mq, HpOK, LowOK, hfi]
          simp
          refine ⟨hc0 _ _ _ _ ?_, hc1 _ _ _ _ ?_, hc2 _ _ _ _ ?_, hc3 _ _ _ _ ?_⟩
          all_goals (intro k hk; rcases (show k = 0 ∨ k = 1 ∨ k = 2 ∨ k = 3 by omega) with rfl | rfl | rfl | rfl <;> simp [upd])
        · have hkb : (k == 3) = false := by simp [hk]
          have hcx : ctxI vs ar (.mk k t (.mk ik iv iks) (.mk vk vv vks) cc b e) c = c := by simp [ctxI, St1.kind, hk]
          rw [hcx] at ihb2 ihe2 hfi
          iterate 4 ((try (refine drvZ Try.func52 ?_; simp (maxSteps := 9999999) only [go_sem, hs, hlt, e0, e1, e2, e3, hk, hkb])); (try ((with_reducible refine And.intro ?_ ?_) <;> (repeat' with_reducible apply And.intro) <;> try exact sd)))
          refine XK.callG [0, 1, 2, 3] ihb2 ok52 (hhp_each44 (by rw [Option.map_some, hr0 _ _ (rkid_each44 _)]; rfl) (by rw [Option.map_some, hr1 _ _ (rkid_each44 _)]; rfl) (by rw [Option.map_some, hr2 _ _ (rkid_each44 _)]; rfl) (by rw [Option.map_some, hr3 _ _ (rkid_each44 _)]; rfl)) (hbT ()) (fun d h' ⟨_, e⟩ => by subst e; simp) ?_
          rintro _ _ ⟨rfl, rfl⟩ _
          iterate 4 ((try (refine drvZ Try.func52 ?_; simp (maxSteps := 9999999) only [go_sem, hs, hlt, e0, e1, e2, e3])); (try ((with_reducible refine And.intro ?_ ?_) <;> (repeat' with_reducible apply And.intro) <;> try exact sd)))
          refine XK.callG [0, 1, 2, 3] ihe2 ok52 (hhp_each44 (by rw [Option.map_some, hr0 _ _ (rkid_each44 _)]; rfl) (by rw [Option.map_some, hr1 _ _ (rkid_each44 _)]; rfl) (by rw [Option.map_some, hr2 _ _ (rkid_each44 _)]; rfl) (by rw [Option.map_some, hr3 _ _ (rkid_each44 _)]; rfl)) (hbT ()) (fun d h' ⟨_, e⟩ => by subst e; simp) ?_
          rintro _ _ ⟨rfl, rfl⟩ _
          iterate 4 ((try (refine drvZ Try.func52 ?_; simp (maxSteps := 9999999) only [go_sem, hs, hlt, e0, e1, e2, e3])); (try ((with_reducible refine And.intro ?_ ?_) <;> (repeat' with_reducible apply And.intro) <;> try exact sd)))
          refine again (i + 1) some [] _ hlt (by omega) ?_
          simp (maxSteps := 9999999) only [go_sem, TmOK, DM, DMs, CM, CMs, forall_eq, exists_eq_left, Mq, HpOK, LowOK, hfi]
          simp
          refine ⟨hc0 _ _ _ _ ?_, hc1 _ _ _ _ ?_, hc2 _ _ _ _ ?_, hc3 _ _ _ _ ?_⟩
          all_goals (intro k hk; rcases (show k = 0 ∨ k = 1 ∨ k = 2 ∨ k = 3 by omega) with rfl | rfl | rfl | rfl <;> simp [upd])
      · have hn : ¬ i < l.length := by omega
        obtain rfl : i = l.length := by omega
        refine drvL Try.func52 ?_
        simp (maxSteps := 9999999) only [go_sem, hn, List.take_length]
        iterate 2 ((try (refine drvZ Try.func52 ?_; simp (maxSteps := 9999999) only [go_sem, hn, List.take_length])); (try ((with_reducible refine And.intro ?_ ?_) <;> (repeat' with_reducible apply And.intro) <;> try exact sd)))
        refine RetOb.ofQ some [] (.tup []) [some (b0 (l.foldl f x)), some (b1 (l.foldl f x)), some (b2 (l.foldl f x)), some (b3 (l.foldl f x))] ?_ (by rw [← hR]; exact ⟨rfl, rfl⟩) (by simp)
        simp [enumL, DMs, DM, HpOK, LowOK, hOf, upd, hpL]
        refine ⟨hc0 _ _ _ _ ?_, hc1 _ _ _ _ ?_, hc2 _ _ _ _ ?_, hc3 _ _ _ _ ?_⟩
        all_goals (intro k hk; rcases (show k = 0 ∨ k = 1 ∨ k = 2 ∨ k = 3 by omega) with rfl | rfl | rfl | rfl <;> simp [upd])
    · simp (maxSteps := 9999999) only [go_sem, TmOK, DM, DMs, CM, CMs, forall_eq, exists_eq_left, Mq, HpOK, LowOK, List.take_zero, List.foldl_nil]
      simp
      refine ⟨hc0 _ _ _ _ ?_, hc1 _ _ _ _ ?_, hc2 _ _ _ _ ?_, hc3 _ _ _ _ ?_⟩
      all_goals (intro k hk; rcases (show k = 0 ∨ k = 1 ∨ k = 2 ∨ k = 3 by omega) with rfl | rfl | rfl | rfl <;> simp [upd])
end Go.Proofs.Ytclgjiffpijgmaa.CtR

namespace Go.Proofs.Ytclgjiffpijgmaa.CtR
open Go Go.CT CtF

theorem first1 (p : Pg) (G : FuncId) (hG : fnOK Try.prog G = true) (res : St1 → Nat → Int) (x : Fst) (hx : 0 ≤ x.n ∧ x.n < 1000) (s : St1) (c : Nat)
    (hres : DC Try.prog G [.agg p.cells, .agg s.cells, DI .i64 c] [] (fun r h => r = DI .i64 (res s c) ∧ h = [])) :
    DC Try.prog 125 [.agg s.cells, DI .i64 c, .c (.ptr 0 0), .c (.ptr 1 0), .c (.ptr 2 0), .c (.ptr 3 0)] [some [I64 x.code], some [.met G p.cells], some [I64 x.n], some [I64 x.at_]]
      (fun r h => r = .tup [] ∧ h = [some [I64 (fstStep res x s c).code], some [.met G p.cells], some [I64 (fstStep res x s c).n], some [I64 (fstStep res x s c).at_]]) := by
  have h1 : x.code = 0 → fstStep res x s c = ⟨res s c, if res s c ≠ 0 then x.n else x.at_, x.n + 1⟩ := fun h => by unfold fstStep; rw [if_pos h]
  have h2 : x.code ≠ 0 → fstStep res x s c = ⟨x.code, x.at_, x.n + 1⟩ := fun h => by unfold fstStep; rw [if_neg h]
  generalize fstStep res x s c = y at *
  generalize res s c = ro at *
  obtain ⟨code, at_, n⟩ := x
  simp only at h1 h2 hx
  obtain ⟨vs, ar, bd⟩ := p
  obtain ⟨k, t, ⟨ik, iv, iks⟩, ⟨vk, vv, vks⟩, cc, b, e⟩ := s
  have fin : ∀ (a b c' : Int) (hp : Hp), y = ⟨a, b, c'⟩ → hp 0 = some (some [I64 a]) → hp 1 = some (some [.met G [isI vs, isI ar, .isl 11 (St1.cellsL bd)]]) → hp 2 = some (some [I64 c']) → hp 3 = some (some [I64 b]) →
      RetOb 4 (fun r h => r = .tup [] ∧ h = [some [I64 y.code], some [.met G (Pg.cells ⟨vs, ar, bd⟩)], some [I64 y.n], some [I64 y.at_]]) (.tup []) hp := fun a b c' hp hy g0 g1 g2 g3 => by
    subst hy
    refine RetOb.ofQ some [] (.tup []) _ ?_ ⟨rfl, rfl⟩ (by simp)
    simp [enumL, DMs, DM, HpOK, LowOK, hOf, upd, CM, CMs, g0, g1, g2, g3, Pg.cells]
  generalize hR : (fun (r : D) (h : List (Option (List C))) => r = .tup [] ∧ h = [some [I64 y.code], some [.met G (Pg.cells ⟨vs, ar, bd⟩)], some [I64 y.n], some [I64 y.at_]]) = R at fin ⊢
  by_cases hc : code = 0
  · subst hc
    have h1 := h1 rfl
    by_cases hr : ro = 0
    · subst hr
      refine dcZ Try.func125 ?_
      simp (maxSteps := 9999999) only [go_sem]
      iterate 8 ((try (refine drvZ Try.func125 ?_; simp (maxSteps := 9999999) only [go_sem, bne_self_eq_false])); (try ((with_reducible refine And.intro ?_ ?_) <;> (repeat' with_reducible apply And.intro) <;> try exact sd)); (try first | refine XK.p hres hG ?_ | refine XK.gp hres hG ?_))
      exact fin 0 at_ (n + 1) _ (by rw [h1, if_neg (by simp)]) rfl rfl rfl rfl
    · have g1 : (ro = 0) = False := eq_false hr
      have g2 : (ro != 0) = true := by simp [hr]
      refine dcZ Try.func125 ?_
      simp (maxSteps := 9999999) only [go_sem]
      iterate 8 ((try (refine drvZ Try.func125 ?_; simp (maxSteps := 9999999) only [go_sem, g1, g2])); (try ((with_reducible refine And.intro ?_ ?_) <;> (repeat' with_reducible apply And.intro) <;> try exact sd)); (try first | refine XK.p hres hG ?_ | refine XK.gp hres hG ?_))
      exact fin ro n (n + 1) _ (by rw [h1, if_pos hr]) rfl rfl rfl rfl
  · have g1 : (code = 0) = False := eq_false hc
    have g2 : (code == 0) = false := by simp [hc]
    refine dcZ Try.func125 ?_
    simp (maxSteps := 9999999) only [go_sem, g1, g2]
    iterate 8 ((try (refine drvZ Try.func125 ?_; simp (maxSteps := 9999999) only [go_sem, g1, g2])); (try ((with_reducible refine And.intro ?_ ?_) <;> (repeat' with_reducible apply And.intro) <;> try exact sd)); (try first | refine XK.p hres hG ?_ | refine XK.gp hres hG ?_))
    exact fin code at_ (n + 1) _ (h2 hc) rfl rfl rfl rfl

def fB0 (x : Fst) : List C := [I64 x.code]
def fB2 (x : Fst) : List C := [I64 x.n]
def fB3 (x : Fst) : List C := [I64 x.at_]
def fB1 (G : FuncId) (p : Pg) (_ : Fst) : List C := [.met G p.cells]
def firR (res : List Int → List Int → St1 → Nat → Int) (p : Pg) : Int × Int :=
  ((walkR (res p.vars p.arrays) p.vars p.arrays 5 0 p.body 0).1, if (walkR (res p.vars p.arrays) p.vars p.arrays 5 0 p.body 0).1 = 0 then -1 else (walkR (res p.vars p.arrays) p.vars p.arrays 5 0 p.body 0).2)
theorem chk_fir (res : List Int → List Int → St1 → Nat → Int) {p : Pg} (h : progOK p = true) : chkR res p = firR res p := by unfold chkR; rw [if_pos h]; rfl

theorem firstOf (p : Pg) (hok : progOK p = true) (G : FuncId) (hG : fnOK Try.prog G = true) (res : List Int → List Int → St1 → Nat → Int)
    (hres : ∀ d s c, c ≤ 3 → stmtOK p (d + 1) s = true → DC Try.prog G [.agg p.cells, .agg s.cells, DI .i64 (c : Nat)] [] (fun r h => r = DI .i64 (res p.vars p.arrays s c) ∧ h = [])) :
    DC Try.prog 81 [.agg p.cells, .c (.met G p.cells)] [] (fun r h => r = .tup [DI .i64 (firR res p).1, DI .i64 (firR res p).2] ∧ h = []) := by
  have hmx := mx_eq
  have hlen := prog_len2 hok
  have hlab := labs_of hok
  have hbo := body_of hok
  have hea := (each44 p (by omega) (by omega) hlab.1 hlab.2 125 ok125 fB0 (fB1 G p) fB2 fB3
    (fun x r h => by simp [fB0, renCs, renC]) (fun x r h => by simp [fB1, renCs, renC]) (fun x r h => by simp [fB2, renCs, renC]) (fun x r h => by simp [fB3, renCs, renC])
    (fun x hT hS fz h => by simp [fB0, CMs, CM]) (fun x hT hS fz h => by simp [fB1, CMs, CM]) (fun x hT hS fz h => by simp [fB2, CMs, CM]) (fun x hT hS fz h => by simp [fB3, CMs, CM])
    (fstStep (res p.vars p.arrays)) (fun q x => x.n = q) (fun d x s c q hq hx hc hs => by
      refine ⟨?_, ?_⟩
      · have : (fstStep (res p.vars p.arrays) x s c).n = x.n + 1 := by unfold fstStep; split <;> rfl
        rw [this, hx]; push_cast; rfl
      · cases d with
        | zero => simp [stmtOK] at hs
        | succ d => exact first1 p G hG (res p.vars p.arrays) x (by omega) s c (hres d s c hc hs)) 5 p.body ⟨0, -1, 0⟩ 0 0 rfl (by decide) hbo.1 (by have := hbo.2; omega)).2
  obtain ⟨w1, w2, w3⟩ := each_walk (res p.vars p.arrays) p.vars p.arrays 5 0 p.body ⟨0, -1, 0⟩
  obtain ⟨w4, w5, w6⟩ := w3 rfl
  have hfi : firR res p = ((eachF p.vars p.arrays (fstStep (res p.vars p.arrays)) 5 0 ⟨0, -1, 0⟩ p.body).code, (eachF p.vars p.arrays (fstStep (res p.vars p.arrays)) 5 0 ⟨0, -1, 0⟩ p.body).at_) := by
    rw [w4, w5]; rfl
  rw [hfi]
  generalize eachF p.vars p.arrays (fstStep (res p.vars p.arrays)) 5 0 ⟨0, -1, 0⟩ p.body = y at *
  obtain ⟨code, at_, n⟩ := y
  obtain ⟨vs, ar, bd⟩ := p
  simp only [fB0, fB1, fB2, fB3] at hea ⊢
  generalize hR : (fun (r : D) (h : List (Option (List C))) => r = .tup [DI .i64 code, DI .i64 at_] ∧ h = []) = R
  refine dcZ Try.func81 ?_
  simp (maxSteps := 9999999) only [go_sem]
  iterate 3 ((try (refine drvZ Try.func81 ?_; simp (maxSteps := 9999999) only [go_sem])); (try ((with_reducible refine And.intro ?_ ?_) <;> (repeat' with_reducible apply And.intro) <;> try exact sd)))
  refine XK.callG [256, 64, 384, 320] hea ok52 (hhpG (by simp [HH, upd, renCs, renC, Pg.cells, isI])) (hbT ()) (fun d h' ⟨_, e⟩ => by subst e; simp) ?_
  rintro _ _ ⟨rfl, rfl⟩ _
  iterate 4 ((try (refine drvZ Try.func81 ?_; simp (maxSteps := 9999999) only [go_sem])); (try ((with_reducible refine And.intro ?_ ?_) <;> (repeat' with_reducible apply And.intro) <;> try exact sd)))
  subst hR
  exact RetOb.two ⟨rfl, rfl⟩
end Go.Proofs.Ytclgjiffpijgmaa.CtR

namespace Go.Proofs.Ytclgjiffpijgmaa.CtR
open Go Go.CT CtF

theorem checkFlowI (p : Pg) (hl : p.vars.length ≤ mx) (hl2 : p.arrays.length ≤ mx) : DC Try.prog 37 [.agg p.cells] [] (fun r h => r = .tup [DI .i64 (chkR flowR p).1, DI .i64 (chkR flowR p).2] ∧ h = []) := by
  have hmx := mx_eq
  have hv := programValidI p hl hl2
  have ret : ∀ (x : Int × Int) (hp : Hp), x = chkR flowR p → RetOb 0 (fun r h => r = .tup [DI .i64 (chkR flowR p).1, DI .i64 (chkR flowR p).2] ∧ h = []) (.tup [DI .i64 x.1, DI .i64 x.2]) hp := fun x hp h => by
    subst h
    exact RetOb.two ⟨rfl, rfl⟩
  generalize hR : (fun (r : D) (h : List (Option (List C))) => r = .tup [DI .i64 (chkR flowR p).1, DI .i64 (chkR flowR p).2] ∧ h = []) = R at ret ⊢
  clear hR
  cases hq : progOK p with
  | false =>
    rw [hq] at hv
    have he : chkR flowR p = (5, -1) := by unfold chkR; rw [hq]; rfl
    obtain ⟨vs, ar, bd⟩ := p
    refine dcZ Try.func37 ?_
    simp (maxSteps := 9999999) only [go_sem]
    iterate 4 ((try (refine drvZ Try.func37 ?_; simp (maxSteps := 9999999) only [go_sem])); (try ((with_reducible refine And.intro ?_ ?_) <;> (repeat' with_reducible apply And.intro) <;> try exact sd)); (try first | refine XK.p hv ok44 ?_ | refine XK.gp hv ok44 ?_))
    exact ret (5, -1) _ he.symm
  | true =>
    rw [hq] at hv
    have hlab := labs_of hq
    have hf := firstOf p hq 82 ok82 flowR (fun d s c hc hs => flowI p hl hl2 hlab.1 hlab.2 d s hs c hc)
    have he := chk_fir flowR hq
    generalize firR flowR p = x at *
    obtain ⟨vs, ar, bd⟩ := p
    refine dcZ Try.func37 ?_
    simp (maxSteps := 9999999) only [go_sem]
    iterate 6 ((try (refine drvZ Try.func37 ?_; simp (maxSteps := 9999999) only [go_sem])); (try ((with_reducible refine And.intro ?_ ?_) <;> (repeat' with_reducible apply And.intro) <;> try exact sd)); (try first | refine XK.p hv ok44 ?_ | refine XK.gp hv ok44 ?_ | refine XK.p hf ok81 ?_ | refine XK.gp hf ok81 ?_))
    exact ret x _ he.symm

/-! ### ReleaseFree -/
def rfB (x : Bool) : List C := [.v (.bool x)]
def rfStep (x : Bool) (s : St1) (_ : Nat) : Bool := x || s.kind == 5
theorem eachF_free (vs ar : List Int) : ∀ (d c : Nat) (l : List St1) (x : Bool), eachF vs ar rfStep d c x l = (x || !freeL d l)
  | 0, c, l, x => by simp [eachF, freeL]
  | d + 1, c, l, x => by
    have key : ∀ (l : List St1) (x : Bool), l.foldl (fun x s => eachF vs ar rfStep d (ctxI vs ar s c) (eachF vs ar rfStep d (ctxI vs ar s c) (rfStep x s c) s.body) s.els) x = (x || !freeL (d + 1) l) := by
      intro l
      induction l with
      | nil => intro x; simp [freeL]
      | cons a r ih =>
        intro x
        rw [List.foldl_cons, ih, eachF_free vs ar d, eachF_free vs ar d]
        simp only [rfStep, freeL, List.all_cons]
        cases x <;> cases hk : a.kind == 5 <;> cases freeL d a.body <;> cases freeL d a.els <;> simp_all [bne]
    exact key l x
def freeP (p : Pg) : Bool := progOK p && freeL 5 p.body
theorem free1 (x : Bool) (s : St1) (c : Nat) : DC Try.prog 84 [.agg s.cells, DI .i64 c, .c (.ptr 0 0)] [some (rfB x)] (fun r h => r = .tup [] ∧ h = [some (rfB (rfStep x s c))]) := by
  obtain ⟨k, t, ⟨ik, iv, iks⟩, ⟨vk, vv, vks⟩, cc, b, e⟩ := s
  have fin : ∀ (y : Bool) (hp : Hp), y = (x || k == 5) → hp 0 = some (some [.v (.bool y)]) → RetOb 1 (fun r h => r = .tup [] ∧ h = [some [.v (.bool (x || k == 5))]]) (.tup []) hp := fun y hp hy g0 => by
    subst hy
    refine RetOb.ofQ some [] (.tup []) _ ?_ ⟨rfl, rfl⟩ (by simp)
    simp [enumL, DMs, DM, HpOK, LowOK, hOf, upd, CM, CMs, g0]
  have he : rfB (rfStep x (.mk k t (.mk ik iv iks) (.mk vk vv vks) cc b e) c) = [.v (.bool (x || k == 5))] := rfl
  simp only [he]
  simp only [rfB]
  generalize hR : (fun (r : D) (h : List (Option (List C))) => r = .tup [] ∧ h = [some [.v (.bool (x || k == 5))]]) = R at fin ⊢
  cases x
  all_goals
    refine dcZ Try.func84 ?_
    simp (maxSteps := 9999999) only [go_sem]
    iterate 3 ((try (refine drvZ Try.func84 ?_; simp (maxSteps := 9999999) only [go_sem])); (try ((with_reducible refine And.intro ?_ ?_) <;> (repeat' with_reducible apply And.intro) <;> try exact sd)))
    refine fin _ _ ?_ rfl
    simp

theorem releaseFree (p : Pg) (hl : p.vars.length ≤ mx) (hl2 : p.arrays.length ≤ mx) : DC Try.prog 39 [.agg p.cells] [] (fun r h => r = DB (freeP p) ∧ h = []) := by
  have hmx := mx_eq
  have hv := programValidI p hl hl2
  generalize hR : (fun (r : D) (h : List (Option (List C))) => r = DB (freeP p) ∧ h = []) = R
  cases hq : progOK p with
  | false =>
    rw [hq] at hv
    have hw : freeP p = false := by unfold freeP; rw [hq]; rfl
    rw [hw] at hR
    obtain ⟨vs, ar, bd⟩ := p
    refine dcZ Try.func39 ?_
    simp (maxSteps := 9999999) only [go_sem]
    iterate 3 ((try (refine drvZ Try.func39 ?_; simp (maxSteps := 9999999) only [go_sem])); (try ((with_reducible refine And.intro ?_ ?_) <;> (repeat' with_reducible apply And.intro) <;> try exact sd)); (try first | refine XK.p hv ok44 ?_ | refine XK.gp hv ok44 ?_))
    subst hR
    exact RetOb.plain (d := DB _) ⟨rfl, rfl⟩ rfl
  | true =>
    rw [hq] at hv
    have hlab := labs_of hq
    have hbo := body_of hq
    have hea := (each1 p hl hl2 hlab.1 hlab.2 84 ok84 rfB (fun x r h => by simp [rfB, renCs, renC]) (fun x hT hS fz h => by simp [rfB, CMs, CM]) rfStep
      (fun q x => True) (fun d x s c q hq hx _ _ => ⟨trivial, free1 x s c⟩) 5 p.body false 0 0 trivial (by decide) hbo.1 (by have := hbo.2; omega)).2
    rw [eachF_free, Bool.false_or] at hea
    have hw : freeP p = freeL 5 p.body := by unfold freeP; rw [hq]; rfl
    rw [hw] at hR
    generalize freeL 5 p.body = w at *
    obtain ⟨vs, ar, bd⟩ := p
    simp only [rfB] at hea
    refine dcZ Try.func39 ?_
    simp (maxSteps := 9999999) only [go_sem]
    iterate 4 ((try (refine drvZ Try.func39 ?_; simp (maxSteps := 9999999) only [go_sem])); (try ((with_reducible refine And.intro ?_ ?_) <;> (repeat' with_reducible apply And.intro) <;> try exact sd)); (try first | refine XK.p hv ok44 ?_ | refine XK.gp hv ok44 ?_))
    refine XK.callG [320] hea ok52 (hhpG (by simp [HH, upd, renCs, renC])) (hbT ()) (fun d h' ⟨_, e⟩ => by subst e; simp) ?_
    rintro _ _ ⟨rfl, rfl⟩ _
    iterate 4 ((try (refine drvZ Try.func39 ?_; simp (maxSteps := 9999999) only [go_sem, Bool.not_not])); (try ((with_reducible refine And.intro ?_ ?_) <;> (repeat' with_reducible apply And.intro) <;> try exact sd)))
    subst hR
    exact RetOb.plain (d := DB _) ⟨rfl, rfl⟩ rfl
end Go.Proofs.Ytclgjiffpijgmaa.CtR

namespace Go.Proofs.Ytclgjiffpijgmaa.CtR
open Go Go.CT CtF

def clS (q : Int → Bool) (vs vals : List Int) : Nat → List Int
  | 0 => vals
  | i + 1 => if q (vs.getD i 0) then (clS q vs vals i).set i 0 else clS q vs vals i
def clA (q : Int → Bool) : List Int → List (List Int) → List (List Int)
  | l :: r, a :: s => (if q l then [0, 0, 0, 0] else a) :: clA q r s
  | _, s => s
def clrM (q : Int → Bool) (vs ar : List Int) (m : Mm) : Mm := ⟨clS q vs m.vals vs.length, clA q ar m.arrays⟩
theorem clS_len (q : Int → Bool) (vs vals : List Int) : ∀ i, (clS q vs vals i).length = vals.length
  | 0 => rfl
  | i + 1 => by unfold clS; split <;> simp [clS_len q vs vals i]
theorem len4 {a : List Int} (h : a.length = 4) : ∃ x y z w, a = [x, y, z, w] := by
  match a, h with
  | [x, y, z, w], _ => exact ⟨x, y, z, w, rfl⟩
theorem clS_succ {q : Int → Bool} {vs vals : List Int} {i : Nat} {x : Int} (h : vs[i]? = some x) : clS q vs vals (i + 1) = if q x then (clS q vs vals i).set i 0 else clS q vs vals i := by
  have : vs.getD i 0 = x := by rw [List.getD_eq_getElem?_getD, h]; rfl
  rw [clS, this]

/-- An owned memory handed back as plain data. -/
theorem RetOb.mem0 {R : D → List (Option (List C)) → Prop} {m : Mm} {hp : Hp} {k0 k1 k2 k3 nv na : Nat} (hna : m.arrays.length ≤ 2) (h4 : ∀ a ∈ m.arrays, a.length = 4) (hR : R (.agg m.cells) [])
    (h0 : hp k0 = some (some (m.vals.map I64))) (h1 : hp k1 = some (some (hdr k2 k3 m.arrays.length))) (h2 : hp k2 = some (some (blk0 m.arrays))) (h3 : hp k3 = some (some (blk1 m.arrays))) (hv : nv = m.vals.length) (hn : na = m.arrays.length)
    (hne : k0 ≠ k1 ∧ k0 ≠ k2 ∧ k0 ≠ k3 ∧ k1 ≠ k2 ∧ k1 ≠ k3 ∧ k2 ≠ k3) : RetOb 0 R (.agg [.msl k0 1 0 nv, .msl k1 1 0 na]) hp := by
  subst hv hn
  obtain ⟨va, arr⟩ := m
  obtain ⟨n01, n02, n03, n12, n13, n23⟩ := hne
  refine RetOb.step (fun j => if j = 0 then some k0 else if j = 1 then some k1 else none) [k2, k3] (.agg [.msl 0 1 0 va.length, .msl 1 1 0 arr.length]) [(0, some (va.map I64)), (1, some (arr.map isI))] ?_ ?_
  · have e3 : ∀ a : List Int, (a.map fun n => [C.v (.int .i64 n)]).flatten = a.map I64 := fun a => flat1 _ a
    match arr, hna, h4, h1, h2, h3 with
    | [], _, h4, h1, h2, h3 => simp [DM, DMs, CM, CMs, HpOK, LowOK, hOf, upd, h0, CMs_I, h1, hdr, n01, n02, n03, n12, n13, n23, Ne.symm n01, Ne.symm n23]
    | [a], _, h4, h1, h2, h3 =>
      have ha := h4 a (by simp)
      simp [DM, DMs, CM, CMs, HpOK, LowOK, hOf, upd, h0, CMs_I, h1, h2, hdr, n01, n02, n03, n12, n13, n23, Ne.symm n01, Ne.symm n23, e3, isI, ha, blk0, kf]
    | [a, b], _, h4, h1, h2, h3 =>
      have ha := h4 a (by simp)
      have hb := h4 b (by simp)
      simp [DM, DMs, CM, CMs, HpOK, LowOK, hOf, upd, h0, CMs_I, h1, h2, h3, hdr, n01, n02, n03, n12, n13, n23, Ne.symm n01, Ne.symm n23, e3, isI, ha, hb, blk0, blk1, kf]
  · refine RetOb.ofQ (fun _ => none) [0, 1] _ [] ⟨?_, trivial, trivial, by simp [enumL]⟩ hR (Nat.zero_le _)
    simp [DM, DMs, CM, CMs, hOf, upd, Mm.cells, isI, flat_I, kf]
    exact (flat1 isI arr).symm

theorem cleared (vs ar : List Int) (m : Mm) (hv : m.vals.length = vs.length) (ha : m.arrays.length = ar.length) (hv1 : vs.length ≤ 1000) (ha1 : ar.length ≤ 2) (h4 : ∀ a ∈ m.arrays, a.length = 4) (F : FuncId) (hF : fnOK Try.prog F = true) (q : Int → Bool)
    (hq : ∀ x, x ∈ vs ∨ x ∈ ar → DC Try.prog F [DI .i64 x] [] (fun r h => r = DB (q x) ∧ h = [])) :
    DC Try.prog 85 [ints vs, ints ar, .agg m.cells, .c (.clo F [])] [] (fun r h => r = .agg (clrM q vs ar m).cells ∧ h = []) := by
  have hmx := mx_eq
  have hown := own m (by omega) (by omega) h4
  have hlen := clS_len q vs m.vals
  have hsucc := fun i x h => @clS_succ q vs m.vals i x h
  unfold memB at hown
  obtain ⟨va, arr⟩ := m
  simp only at hv ha h4 hlen hsucc
  unfold ints
  generalize hR : (fun (r : D) (h : List (Option (List C))) => r = .agg (clrM q vs ar ⟨va, arr⟩).cells ∧ h = []) = R
  refine dcZ Try.func85 ?_
  simp (maxSteps := 9999999) only [go_sem, Mm.cells]
  ((try (refine drvZ Try.func85 ?_; simp (maxSteps := 9999999) only [go_sem, Mm.cells])); (try ((with_reducible refine And.intro ?_ ?_) <;> (repeat' with_reducible apply And.intro) <;> try exact sd)))
  refine XK.callG [] hown ok60 (fun i' x h => by simp at h) (hbT ()) (fun d h' ⟨_, e⟩ => by subst e; simp) ?_
  rintro _ _ ⟨rfl, rfl⟩ _
  iterate 3 ((try (refine drvZ Try.func85 ?_; simp (maxSteps := 9999999) only [go_sem, renCs_I, renCs_hdr, renCs_b0, renCs_b1])); (try ((with_reducible refine And.intro ?_ ?_) <;> (repeat' with_reducible apply And.intro) <;> try exact sd)))
  refine Go.loopQ (fun i : Nat => [(1, .c (isI ar)), (3, .c (.clo F [])), (8, .c (.ptr 64 0)), (9, .c (.ptr 256 0)), (16, .c (isI vs)), (17, DI .i64 vs.length), (18, DI .i64 i)])
    (fun i => [(64, some [.v (.slice none 0 0), .v (.slice none 0 0)]), (192, some ((clS q vs va i).map I64)), (193, some (hdr 194 195 arr.length)), (194, some (blk0 arr)), (195, some (blk1 arr)), (256, some [.msl 192 1 0 va.length, .msl 193 1 0 arr.length])])
    4096 (fun i => i ≤ vs.length) (fun i => vs.length - i) ?_ 0 some [] _ (Nat.zero_le _) ?_
  · intro i hi again
    have hli := hlen i
    rcases Nat.lt_or_ge i vs.length with hlt | hge
    · obtain ⟨x, hx⟩ : ∃ x, vs[i]? = some x := ⟨vs[i], by simp [hlt]⟩
      have hfx := hq x (.inl (List.mem_of_getElem? hx))
      have hs := hsucc i x hx
      generalize clS q vs va i = S at *
      generalize q x = b at *
      cases b with
      | true =>
        rw [if_pos rfl] at hs
        have hset : (S.map I64).set i (.v (.int .i64 0)) = (S.set i 0).map I64 := by rw [List.map_set]
        refine drvL Try.func85 ?_
        simp (maxSteps := 9999999) only [go_sem, hx, hlt]
        iterate 6 ((try (refine drvZ Try.func85 ?_; simp (maxSteps := 9999999) only [go_sem, hx, hlt, hset])); (try ((with_reducible refine And.intro ?_ ?_) <;> (repeat' with_reducible apply And.intro) <;> try exact sd)); (try first | refine XK.p hfx hF ?_ | refine XK.gp hfx hF ?_))
        refine again (i + 1) some [] _ hlt (by omega) ?_
        simp (maxSteps := 9999999) only [go_sem, TmOK, DM, DMs, CM, CMs, forall_eq, exists_eq_left, Mq, HpOK, LowOK, hs]
        simp [CMs_hdr, CMs_b0, CMs_b1, upd]
        exact CMs.kf (by rw [hset]; exact kf_I _)
      | false =>
        rw [if_neg (by simp)] at hs
        refine drvL Try.func85 ?_
        simp (maxSteps := 9999999) only [go_sem, hx, hlt]
        iterate 6 ((try (refine drvZ Try.func85 ?_; simp (maxSteps := 9999999) only [go_sem, hx, hlt])); (try ((with_reducible refine And.intro ?_ ?_) <;> (repeat' with_reducible apply And.intro) <;> try exact sd)); (try first | refine XK.p hfx hF ?_ | refine XK.gp hfx hF ?_))
        refine again (i + 1) some [] _ hlt (by omega) ?_
        simp (maxSteps := 9999999) only [go_sem, TmOK, DM, DMs, CM, CMs, forall_eq, exists_eq_left, Mq, HpOK, LowOK, hs]
        simp [CMs_I, CMs_hdr, CMs_b0, CMs_b1, upd]
    · have hn : ¬ i < vs.length := by omega
      obtain rfl : i = vs.length := by omega
      generalize hS : clS q vs va vs.length = S at *
      refine drvL Try.func85 ?_
      simp (maxSteps := 9999999) only [go_sem, hn]
      iterate 3 ((try (refine drvZ Try.func85 ?_; simp (maxSteps := 9999999) only [go_sem, hn])); (try ((with_reducible refine And.intro ?_ ?_) <;> (repeat' with_reducible apply And.intro) <;> try exact sd)))
      have hz : ∀ n : Nat, ((n : Int) < (n : Int)) = False := fun n => eq_false (by omega)
      have hz0 : ((0 : Int) < 0) = False := eq_false (by omega)
      have fin : ∀ (A : List (List Int)) (hp : Hp), A = clA q ar arr → A.length = arr.length → (∀ a ∈ A, a.length = 4) → hp 192 = some (some (S.map I64)) → hp 193 = some (some (hdr 194 195 arr.length)) → hp 194 = some (some (blk0 A)) → hp 195 = some (some (blk1 A)) → RetOb 0 R (.agg [.msl 192 1 0 va.length, .msl 193 1 0 arr.length]) hp := fun A hp e1 e2 e3 g1 g2 g3 g4 =>
        RetOb.mem0 (m := ⟨S, A⟩) (k2 := 194) (k3 := 195) (by simp only; omega) e3 (by subst hR; exact ⟨by rw [e1, ← hS]; rfl, rfl⟩) g1 (by rw [e2]; exact g2) g3 g4 (by simp only; omega) (by simp only; omega) (by decide)
      have hrp : (List.replicate 4 [C.v (.int .i64 0)]).flatten = [I64 0, I64 0, I64 0, I64 0] := rfl
      have e11 : ((1 : Int) < 1) = False := eq_false (by omega)
      have e22 : ((2 : Int) < 2) = False := eq_false (by omega)
      clear hown hlen hsucc again hi hge
      rcases arr with _ | ⟨a, _ | ⟨a', _ | ⟨c, r⟩⟩⟩ <;> rcases ar with _ | ⟨l, _ | ⟨l', _ | ⟨l3, r2⟩⟩⟩ <;> simp only [List.length_cons, List.length_nil] at ha ha1 <;> (try (exfalso; omega))
      · refine Go.loop ?_
        refine drvL Try.func85 ?_
        simp (maxSteps := 9999999) only [go_sem, hz0, Int.natCast_zero]
        iterate 3 ((try (refine drvZ Try.func85 ?_; simp (maxSteps := 9999999) only [go_sem, hz0, Int.natCast_zero])); (try ((with_reducible refine And.intro ?_ ?_) <;> (repeat' with_reducible apply And.intro) <;> try exact sd)))
        exact fin [] _ rfl rfl (by simp) rfl rfl rfl rfl
      · have hfl := hq l (.inr (by simp))
        obtain ⟨x0, x1, x2, x3, rfl⟩ := len4 (h4 a (by simp))
        have hb0 : blk0 [[x0, x1, x2, x3]] = [I64 x0, I64 x1, I64 x2, I64 x3] := rfl
        have hb1 : blk1 [[x0, x1, x2, x3]] = [] := rfl
        have hcl : clA q [l] [[x0, x1, x2, x3]] = [if q l then [0, 0, 0, 0] else [x0, x1, x2, x3]] := rfl
        rw [hcl] at fin
        rw [hb0, hb1]
        generalize q l = b at *
        cases b
        all_goals
          refine Go.loop ?_
          refine drvL Try.func85 ?_
          simp (maxSteps := 9999999) only [go_sem, hdr, List.take]
          iterate 6 ((try (refine drvZ Try.func85 ?_; simp (maxSteps := 9999999) only [go_sem, hz0, hrp, putCells, hdr, List.take, Int.natCast_zero])); (try ((with_reducible refine And.intro ?_ ?_) <;> (repeat' with_reducible apply And.intro) <;> try exact sd)); (try first | refine XK.p hfl hF ?_ | refine XK.gp hfl hF ?_))
          refine Go.inLoop ?_
          refine drvL Try.func85 ?_
          simp (maxSteps := 9999999) only [go_sem, e11]
          iterate 3 ((try (refine drvZ Try.func85 ?_; simp (maxSteps := 9999999) only [go_sem, e11])); (try ((with_reducible refine And.intro ?_ ?_) <;> (repeat' with_reducible apply And.intro) <;> try exact sd)))
          exact fin _ _ rfl rfl (by simp) rfl rfl rfl rfl
      · have hfl := hq l (.inr (by simp))
        have hfl2 := hq l' (.inr (by simp))
        obtain ⟨x0, x1, x2, x3, rfl⟩ := len4 (h4 a (by simp))
        obtain ⟨y0, y1, y2, y3, rfl⟩ := len4 (h4 a' (by simp))
        have hb0 : blk0 [[x0, x1, x2, x3], [y0, y1, y2, y3]] = [I64 x0, I64 x1, I64 x2, I64 x3] := rfl
        have hb1 : blk1 [[x0, x1, x2, x3], [y0, y1, y2, y3]] = [I64 y0, I64 y1, I64 y2, I64 y3] := rfl
        have hcl : clA q [l, l'] [[x0, x1, x2, x3], [y0, y1, y2, y3]] = [if q l then [0, 0, 0, 0] else [x0, x1, x2, x3], if q l' then [0, 0, 0, 0] else [y0, y1, y2, y3]] := rfl
        rw [hcl] at fin
        rw [hb0, hb1]
        generalize q l = b at *
        generalize q l' = b' at *
        cases b <;> cases b'
        all_goals
          refine Go.loop ?_
          refine drvL Try.func85 ?_
          simp (maxSteps := 9999999) only [go_sem, hdr, List.take]
          iterate 6 ((try (refine drvZ Try.func85 ?_; simp (maxSteps := 9999999) only [go_sem, hz0, hrp, putCells, hdr, List.take, Int.natCast_zero])); (try ((with_reducible refine And.intro ?_ ?_) <;> (repeat' with_reducible apply And.intro) <;> try exact sd)); (try first | refine XK.p hfl hF ?_ | refine XK.gp hfl hF ?_))
          refine Go.inLoop ?_
          refine drvL Try.func85 ?_
          simp (maxSteps := 9999999) only [go_sem, hrp, putCells, hdr, List.take, Int.natCast_zero]
          iterate 6 ((try (refine drvZ Try.func85 ?_; simp (maxSteps := 9999999) only [go_sem, hrp, putCells, hdr, List.take, Int.natCast_zero])); (try ((with_reducible refine And.intro ?_ ?_) <;> (repeat' with_reducible apply And.intro) <;> try exact sd)); (try first | refine XK.p hfl2 hF ?_ | refine XK.gp hfl2 hF ?_))
          refine Go.inLoop ?_
          refine drvL Try.func85 ?_
          simp (maxSteps := 9999999) only [go_sem, e22]
          iterate 3 ((try (refine drvZ Try.func85 ?_; simp (maxSteps := 9999999) only [go_sem, e22])); (try ((with_reducible refine And.intro ?_ ?_) <;> (repeat' with_reducible apply And.intro) <;> try exact sd)))
          exact fin _ _ rfl rfl (by simp) rfl rfl rfl rfl
  · simp (maxSteps := 9999999) only [go_sem, TmOK, DM, DMs, CM, CMs, forall_eq, exists_eq_left, Mq, HpOK, LowOK]
    simp [CMs_I, clS, CMs_hdr, CMs_b0, CMs_b1, upd]
end Go.Proofs.Ytclgjiffpijgmaa.CtR

namespace Go.Proofs.Ytclgjiffpijgmaa.CtR
open Go Go.CT CtF

def secQ (x : Int) : Bool := secL x.toNat
def untQ (x : Int) : Bool := !trustL x.toNat
def partP (q : Int → Bool) (p : Pg) (m : Mm) : Mm × Bool := if progOK p && memOK p.vars p.arrays m then (clrM q p.vars p.arrays m, true) else (⟨[], []⟩, false)
theorem labX {l : List Int} (h : lab3 l) {x : Int} (hx : x ∈ l) : ∃ a : Nat, a ≤ 3 ∧ x = (a : Int) := by
  have := h x hx
  exact ⟨x.toNat, by omega, by omega⟩
theorem untI (a : Nat) (ha : a ≤ 3) : DC Try.prog 86 [DI .i64 a] [] (fun r h => r = DB (!trustL a) ∧ h = []) := by
  have h1 := labelTrustedI a ha
  generalize trustL a = t at *
  generalize hR : (fun (r : D) (h : List (Option (List C))) => r = DB (!t) ∧ h = []) = R
  refine dcZ Try.func86 ?_
  simp (maxSteps := 9999999) only [go_sem]
  iterate 3 ((try (refine drvZ Try.func86 ?_; simp (maxSteps := 9999999) only [go_sem])); (try ((with_reducible refine And.intro ?_ ?_) <;> (repeat' with_reducible apply And.intro) <;> try exact sd)); (try first | refine XK.p h1 ok87 ?_ | refine XK.gp h1 ok87 ?_))
  subst hR
  exact RetOb.plain (d := DB _) ⟨rfl, rfl⟩ rfl

theorem publicPart (p : Pg) (m : Mm) (hl : p.vars.length ≤ mx) (hl2 : p.arrays.length ≤ mx) : DC Try.prog 41 [.agg p.cells, .agg m.cells] [] (fun r h => r = .tup [.agg (partP secQ p m).1.cells, DB (partP secQ p m).2] ∧ h = []) := by
  have hmx := mx_eq
  have hv := memoryValidI p m hl hl2
  cases hq : (progOK p && memOK p.vars p.arrays m) with
  | false =>
    have he : partP secQ p m = (⟨[], []⟩, false) := by unfold partP; rw [hq]; rfl
    rw [hq] at hv
    rw [he]
    generalize hR : (fun (r : D) (h : List (Option (List C))) => r = .tup [.agg (Mm.cells ⟨[], []⟩), DB false] ∧ h = []) = R
    obtain ⟨vs, ar, bd⟩ := p
    obtain ⟨va, arr⟩ := m
    refine dcZ Try.func41 ?_
    simp (maxSteps := 9999999) only [go_sem, Mm.cells]
    iterate 4 ((try (refine drvZ Try.func41 ?_; simp (maxSteps := 9999999) only [go_sem, Mm.cells])); (try ((with_reducible refine And.intro ?_ ?_) <;> (repeat' with_reducible apply And.intro) <;> try exact sd)); (try first | refine XK.p hv ok31 ?_ | refine XK.gp hv ok31 ?_))
    subst hR
    refine RetOb.ofQ (fun _ => none) [] (.tup [.agg (Mm.cells ⟨[], []⟩), DB false]) [] ?_ ⟨rfl, rfl⟩ (by simp)
    simp [enumL, DM, DMs, CM, CMs, HpOK, LowOK, Mm.cells, isI]
  | true =>
    have he : partP secQ p m = (clrM secQ p.vars p.arrays m, true) := by unfold partP; rw [hq]; rfl
    have hmf := memFits_of hq
    have hlab := labs_of (p := p) (by rw [Bool.and_eq_true] at hq; exact hq.1)
    rw [hq] at hv
    rw [he]
    have hcl := cleared p.vars p.arrays m hmf.nv hmf.na (by have := hmf.nv12; omega) hmf.na2 (fun a h => (hmf.arr a h).1) 88 ok88 secQ (fun x hx => by
      obtain ⟨a, ha, rfl⟩ : ∃ a : Nat, a ≤ 3 ∧ x = (a : Int) := hx.elim (labX hlab.1) (labX hlab.2)
      exact labelSecretI a ha)
    unfold ints at hcl
    generalize clrM secQ p.vars p.arrays m = y at *
    obtain ⟨ya, yr⟩ := y
    generalize hR : (fun (r : D) (h : List (Option (List C))) => r = .tup [.agg (Mm.cells ⟨ya, yr⟩), DB true] ∧ h = []) = R
    obtain ⟨vs, ar, bd⟩ := p
    obtain ⟨va, arr⟩ := m
    refine dcZ Try.func41 ?_
    simp (maxSteps := 9999999) only [go_sem, Mm.cells]
    iterate 5 ((try (refine drvZ Try.func41 ?_; simp (maxSteps := 9999999) only [go_sem, Mm.cells])); (try ((with_reducible refine And.intro ?_ ?_) <;> (repeat' with_reducible apply And.intro) <;> try exact sd)); (try first | refine XK.p hv ok31 ?_ | refine XK.gp hv ok31 ?_ | refine XK.p hcl ok85 ?_ | refine XK.gp hcl ok85 ?_))
    subst hR
    refine RetOb.ofQ (fun _ => none) [] (.tup [.agg (Mm.cells ⟨ya, yr⟩), DB true]) [] ?_ ⟨rfl, rfl⟩ (by simp)
    simp [enumL, DM, DMs, CM, CMs, HpOK, LowOK, Mm.cells, isI]

theorem trustedPart (p : Pg) (m : Mm) (hl : p.vars.length ≤ mx) (hl2 : p.arrays.length ≤ mx) : DC Try.prog 40 [.agg p.cells, .agg m.cells] [] (fun r h => r = .tup [.agg (partP untQ p m).1.cells, DB (partP untQ p m).2] ∧ h = []) := by
  have hmx := mx_eq
  have hv := memoryValidI p m hl hl2
  cases hq : (progOK p && memOK p.vars p.arrays m) with
  | false =>
    have he : partP untQ p m = (⟨[], []⟩, false) := by unfold partP; rw [hq]; rfl
    rw [hq] at hv
    rw [he]
    generalize hR : (fun (r : D) (h : List (Option (List C))) => r = .tup [.agg (Mm.cells ⟨[], []⟩), DB false] ∧ h = []) = R
    obtain ⟨vs, ar, bd⟩ := p
    obtain ⟨va, arr⟩ := m
    refine dcZ Try.func40 ?_
    simp (maxSteps := 9999999) only [go_sem, Mm.cells]
    iterate 4 ((try (refine drvZ Try.func40 ?_; simp (maxSteps := 9999999) only [go_sem, Mm.cells])); (try ((with_reducible refine And.intro ?_ ?_) <;> (repeat' with_reducible apply And.intro) <;> try exact sd)); (try first | refine XK.p hv ok31 ?_ | refine XK.gp hv ok31 ?_))
    subst hR
    refine RetOb.ofQ (fun _ => none) [] (.tup [.agg (Mm.cells ⟨[], []⟩), DB false]) [] ?_ ⟨rfl, rfl⟩ (by simp)
    simp [enumL, DM, DMs, CM, CMs, HpOK, LowOK, Mm.cells, isI]
  | true =>
    have he : partP untQ p m = (clrM untQ p.vars p.arrays m, true) := by unfold partP; rw [hq]; rfl
    have hmf := memFits_of hq
    have hlab := labs_of (p := p) (by rw [Bool.and_eq_true] at hq; exact hq.1)
    rw [hq] at hv
    rw [he]
    have hcl := cleared p.vars p.arrays m hmf.nv hmf.na (by have := hmf.nv12; omega) hmf.na2 (fun a h => (hmf.arr a h).1) 86 ok86 untQ (fun x hx => by
      obtain ⟨a, ha, rfl⟩ : ∃ a : Nat, a ≤ 3 ∧ x = (a : Int) := hx.elim (labX hlab.1) (labX hlab.2)
      exact untI a ha)
    unfold ints at hcl
    generalize clrM untQ p.vars p.arrays m = y at *
    obtain ⟨ya, yr⟩ := y
    generalize hR : (fun (r : D) (h : List (Option (List C))) => r = .tup [.agg (Mm.cells ⟨ya, yr⟩), DB true] ∧ h = []) = R
    obtain ⟨vs, ar, bd⟩ := p
    obtain ⟨va, arr⟩ := m
    refine dcZ Try.func40 ?_
    simp (maxSteps := 9999999) only [go_sem, Mm.cells]
    iterate 5 ((try (refine drvZ Try.func40 ?_; simp (maxSteps := 9999999) only [go_sem, Mm.cells])); (try ((with_reducible refine And.intro ?_ ?_) <;> (repeat' with_reducible apply And.intro) <;> try exact sd)); (try first | refine XK.p hv ok31 ?_ | refine XK.gp hv ok31 ?_ | refine XK.p hcl ok85 ?_ | refine XK.gp hcl ok85 ?_))
    subst hR
    refine RetOb.ofQ (fun _ => none) [] (.tup [.agg (Mm.cells ⟨ya, yr⟩), DB true]) [] ?_ ⟨rfl, rfl⟩ (by simp)
    simp [enumL, DM, DMs, CM, CMs, HpOK, LowOK, Mm.cells, isI]
end Go.Proofs.Ytclgjiffpijgmaa.CtR

namespace Go.Proofs.Ytclgjiffpijgmaa.CtR
open Go Go.CT CtF

theorem l2Ints (xs ys : List Int) (hl : xs.length ≤ mx) : DC Try.prog 162 [ints xs, ints ys] [] (fun r h => r = DB (decide (xs = ys)) ∧ h = []) := by
  have hmx := mx_eq
  have ret : ∀ (b : Bool) (hp : Hp), b = decide (xs = ys) → RetOb 0 (fun r h => r = DB (decide (xs = ys)) ∧ h = []) (DB b) hp := fun b hp h => RetOb.plain (d := DB _) ⟨by rw [h], rfl⟩ rfl
  by_cases hlen : xs.length = ys.length
  · have hb : ((xs.length : Int) != ys.length) = false := by simp [hlen]
    have he : ((xs.length : Int) = ys.length) = True := eq_true (by omega)
    refine dc_of_go Try.func162 rfl (by simp) ?_
    refine drv_sound (n := 100) (rs := _) Try.func162 mo rfl none _ _ ?_
    simp (maxSteps := 9999999) only [go_sem, ints, hb, he]
    refine Go.loopL (fun i : Nat => [(0, ints xs), (1, ints ys), (5, DI .i64 i)]) (fun _ => []) 1024 (fun i => i ≤ xs.length ∧ decide (xs = ys) = decide (xs.drop i = ys.drop i)) (fun i => xs.length - i) ?_ 0 some [] _ ⟨Nat.zero_le _, rfl⟩ ?_
    · intro i hi again
      refine drv_sound (n := 100) (rs := _) Try.func162 mo rfl none _ _ ?_
      rcases Nat.lt_or_ge i xs.length with hlt | hge
      · obtain ⟨x, hx⟩ : ∃ x, xs[i]? = some x := ⟨xs[i], by simp [hlt]⟩
        obtain ⟨y, hy⟩ : ∃ y, ys[i]? = some y := ⟨ys[i]'(by omega), by simp⟩
        have hI := hi.2
        obtain ⟨_, ex⟩ := List.getElem?_eq_some_iff.1 hx
        obtain ⟨hyl, ey⟩ := List.getElem?_eq_some_iff.1 hy
        rw [List.drop_eq_getElem_cons hlt, List.drop_eq_getElem_cons hyl, ex, ey] at hI
        simp (maxSteps := 9999999) only [go_sem, ints, hx, hy, hlt]
        (repeat' with_reducible apply And.intro) <;> (try first | omega | (simp only [InK]; omega) | (intro k e; cases e; rfl) | (intro hguard; exact ⟨hguard, by simp only [InK]; omega⟩) | kernel_rfl)
        · intro hne; exact ret _ _ (by rw [hI]; simp [hne])
        · intro heq; exact ⟨by simp only [InK]; omega, again (i + 1) some [] _ ⟨by omega, by rw [hI]; simp [heq]⟩ (by omega) (Mt.slots (by
            simp (maxSteps := 9999999) only [go_sem, TmOK, DM, DMs, CM, CMs, forall_eq, exists_eq_left, ints]))⟩
      · have hn : ¬ i < xs.length := by omega
        simp (maxSteps := 9999999) only [go_sem, ints, hn]
        refine ret _ _ ?_
        rw [hi.2, List.drop_of_length_le hge, List.drop_of_length_le (by omega)]; rfl
    · refine Mt.slots ?_
      simp (maxSteps := 9999999) only [go_sem, TmOK, DM, DMs, CM, CMs, forall_eq, exists_eq_left, ints]
  · have hb : ((xs.length : Int) != ys.length) = true := by simp; omega
    have he : ((xs.length : Int) = ys.length) = False := eq_false (by omega)
    refine dc_of_go Try.func162 rfl (by simp) ?_
    refine drv_sound (n := 100) (rs := _) Try.func162 mo rfl none _ _ ?_
    simp (maxSteps := 9999999) only [go_sem, ints, hb, he]
    refine ret _ _ ?_
    symm; rw [decide_eq_false_iff_not]; intro h; exact hlen (by rw [h])

theorem exprSameS (e : Ex) (hl : e.kids.length ≤ 1000) (hk : ∀ x ∈ e.kids, DC Try.prog 178 [.agg x.cells, .agg x.cells] [] (fun r h => r = DB true ∧ h = [])) :
    DC Try.prog 178 [.agg e.cells, .agg e.cells] [] (fun r h => r = DB true ∧ h = []) := by
  have hmx := mx_eq
  obtain ⟨k, v, ks⟩ := e
  have hl : ks.length ≤ 1000 := hl
  simp only [Ex.kids] at hk
  have ret : ∀ (hp : Hp), RetOb 0 (fun r h => r = DB true ∧ h = []) (DB true) hp := fun hp => RetOb.plain (d := DB _) ⟨rfl, rfl⟩ rfl
  generalize hR : (fun (r : D) (h : List (Option (List C))) => r = DB true ∧ h = []) = R at ret ⊢
  refine dcZ Try.func178 ?_
  simp (maxSteps := 9999999) only [go_sem]
  iterate 4 ((try (refine drvZ Try.func178 ?_; simp (maxSteps := 9999999) only [go_sem, bne_self_eq_false])); (try ((with_reducible refine And.intro ?_ ?_) <;> (repeat' with_reducible apply And.intro) <;> try exact sd)))
  refine Go.loopQ (fun i : Nat => [(2, .c (.ptr 0 0)), (3, .c (.ptr 64 0)), (5, DI .i64 i)]) (fun i => [(0, some (Ex.cells (.mk k v ks))), (64, some (Ex.cells (.mk k v ks)))]) 4096 (fun i => i ≤ ks.length) (fun i => ks.length - i) ?_ 0 some [] _ (Nat.zero_le _) ?_
  · intro i hi again
    rcases Nat.lt_or_ge i ks.length with hlt | hge
    · obtain ⟨⟨k', v', s'⟩, hx⟩ : ∃ x, ks[i]? = some x := ⟨ks[i], by simp [hlt]⟩
      have hf := hk _ (List.mem_of_getElem? hx)
      rw [← hR] at ret again ⊢
      refine drvL Try.func178 ?_
      simp (maxSteps := 9999999) only [go_sem, hx, hlt]
      iterate 5 ((try (refine drvZ Try.func178 ?_; simp (maxSteps := 9999999) only [go_sem, hx, hlt])); (try ((with_reducible refine And.intro ?_ ?_) <;> (repeat' with_reducible apply And.intro) <;> try exact sd)); (try first | refine XK.p hf ok178 ?_ | refine XK.gp hf ok178 ?_))
      refine again (i + 1) some [] _ hlt (by omega) ?_
      simp (maxSteps := 9999999) only [go_sem, TmOK, DM, DMs, CM, CMs, forall_eq, exists_eq_left, Mq, HpOK, LowOK]
      simp
    · have hn : ¬ i < ks.length := by omega
      refine drvL Try.func178 ?_
      simp (maxSteps := 9999999) only [go_sem, hn]
      iterate 3 ((try (refine drvZ Try.func178 ?_; simp (maxSteps := 9999999) only [go_sem, hn])); (try ((with_reducible refine And.intro ?_ ?_) <;> (repeat' with_reducible apply And.intro) <;> try exact sd)))
      exact ret _
  · simp (maxSteps := 9999999) only [go_sem, TmOK, DM, DMs, CM, CMs, forall_eq, exists_eq_left, Mq, HpOK, LowOK]
    simp
theorem exprSameP (p : Pg) : ∀ (d : Nat) (e : Ex), shape p d e = true → DC Try.prog 178 [.agg e.cells, .agg e.cells] [] (fun r h => r = DB true ∧ h = [])
  | 0, e, h => by simp [shape] at h
  | d + 1, .mk k v ks, h => by
    obtain ⟨g1, g2, _⟩ := shape_succ h
    exact exprSameS _ (by have := (fits_len g1).1; simp only [Ex.kids]; omega) fun x hx => exprSameP p d x (g2 x hx)
theorem exprSameX {p : Pg} {e : Ex} (h : shape p 5 e = true ∨ e = .mk 0 0 []) : DC Try.prog 178 [.agg e.cells, .agg e.cells] [] (fun r h => r = DB true ∧ h = []) := by
  rcases h with h | rfl
  · exact exprSameP p 5 e h
  · exact exprSameS _ (by simp [Ex.kids]) fun x hx => by simp [Ex.kids] at hx

theorem sameBlockOf (l : List St1) (hl : l.length ≤ 1000) (hk : ∀ s ∈ l, DC Try.prog 174 [.agg s.cells, .agg s.cells] [] (fun r h => r = DB true ∧ h = [])) :
    DC Try.prog 163 [.c (.isl 11 (St1.cellsL l)), .c (.isl 11 (St1.cellsL l))] [] (fun r h => r = DB true ∧ h = []) := by
  have hmx := mx_eq
  have ret : ∀ (hp : Hp), RetOb 0 (fun r h => r = DB true ∧ h = []) (DB true) hp := fun hp => RetOb.plain (d := DB _) ⟨rfl, rfl⟩ rfl
  generalize hR : (fun (r : D) (h : List (Option (List C))) => r = DB true ∧ h = []) = R at ret ⊢
  refine dcZ Try.func163 ?_
  simp (maxSteps := 9999999) only [go_sem, bne_self_eq_false]
  iterate 4 ((try (refine drvZ Try.func163 ?_; simp (maxSteps := 9999999) only [go_sem, bne_self_eq_false])); (try ((with_reducible refine And.intro ?_ ?_) <;> (repeat' with_reducible apply And.intro) <;> try exact sd)))
  refine Go.loopQ (fun i : Nat => [(0, .c (.isl 11 (St1.cellsL l))), (1, .c (.isl 11 (St1.cellsL l))), (5, DI .i64 i)]) (fun i => []) 4096 (fun i => i ≤ l.length) (fun i => l.length - i) ?_ 0 some [] _ (Nat.zero_le _) ?_
  · intro i hi again
    rcases Nat.lt_or_ge i l.length with hlt | hge
    · obtain ⟨⟨k, t, ⟨ik, iv, iks⟩, ⟨vk, vv, vks⟩, cc, b, e⟩, hx⟩ : ∃ x, l[i]? = some x := ⟨l[i], by simp [hlt]⟩
      have hf := hk _ (List.mem_of_getElem? hx)
      rw [← hR] at ret again ⊢
      refine drvL Try.func163 ?_
      simp (maxSteps := 9999999) only [go_sem, hx, hlt]
      iterate 5 ((try (refine drvZ Try.func163 ?_; simp (maxSteps := 9999999) only [go_sem, hx, hlt])); (try ((with_reducible refine And.intro ?_ ?_) <;> (repeat' with_reducible apply And.intro) <;> try exact sd)); (try first | refine XK.p hf ok174 ?_ | refine XK.gp hf ok174 ?_))
      refine again (i + 1) some [] _ hlt (by omega) ?_
      simp (maxSteps := 9999999) only [go_sem, TmOK, DM, DMs, CM, CMs, forall_eq, exists_eq_left, Mq, HpOK, LowOK]
      simp
    · have hn : ¬ i < l.length := by omega
      refine drvL Try.func163 ?_
      simp (maxSteps := 9999999) only [go_sem, hn]
      iterate 3 ((try (refine drvZ Try.func163 ?_; simp (maxSteps := 9999999) only [go_sem, hn])); (try ((with_reducible refine And.intro ?_ ?_) <;> (repeat' with_reducible apply And.intro) <;> try exact sd)))
      exact ret _
  · simp (maxSteps := 9999999) only [go_sem, TmOK, DM, DMs, CM, CMs, forall_eq, exists_eq_left, Mq, HpOK, LowOK]
    simp

theorem sameStmtOf (s : St1) (hi : DC Try.prog 178 [.agg s.index.cells, .agg s.index.cells] [] (fun r h => r = DB true ∧ h = [])) (hv : DC Try.prog 178 [.agg s.value.cells, .agg s.value.cells] [] (fun r h => r = DB true ∧ h = []))
    (hb : DC Try.prog 163 [.c (.isl 11 (St1.cellsL s.body)), .c (.isl 11 (St1.cellsL s.body))] [] (fun r h => r = DB true ∧ h = [])) (he : DC Try.prog 163 [.c (.isl 11 (St1.cellsL s.els)), .c (.isl 11 (St1.cellsL s.els))] [] (fun r h => r = DB true ∧ h = [])) :
    DC Try.prog 174 [.agg s.cells, .agg s.cells] [] (fun r h => r = DB true ∧ h = []) := by
  obtain ⟨k, t, ⟨ik, iv, iks⟩, ⟨vk, vv, vks⟩, cc, b, e⟩ := s
  simp only [St1.index, St1.value, St1.body, St1.els] at hi hv hb he
  have ret : ∀ (hp : Hp), RetOb 0 (fun r h => r = DB true ∧ h = []) (DB true) hp := fun hp => RetOb.plain (d := DB _) ⟨rfl, rfl⟩ rfl
  generalize hR : (fun (r : D) (h : List (Option (List C))) => r = DB true ∧ h = []) = R at ret ⊢
  refine dcZ Try.func174 ?_
  simp (maxSteps := 9999999) only [go_sem]
  rw [← hR] at ret ⊢
  iterate 9 ((try (refine drvZ Try.func174 ?_; simp (maxSteps := 9999999) only [go_sem])); (try ((with_reducible refine And.intro ?_ ?_) <;> (repeat' with_reducible apply And.intro) <;> try exact sd)); (try first | refine XK.p hi ok178 ?_ | refine XK.gp hi ok178 ?_ | refine XK.p hv ok178 ?_ | refine XK.gp hv ok178 ?_ | refine XK.p hb ok163 ?_ | refine XK.gp hb ok163 ?_ | refine XK.p he ok163 ?_ | refine XK.gp he ok163 ?_))
  exact ret _
theorem sameBlockS (p : Pg) : ∀ (d : Nat) (l : List St1), (∀ s ∈ l, stmtOK p d s = true) → lsize d l ≤ 1000 → DC Try.prog 163 [.c (.isl 11 (St1.cellsL l)), .c (.isl 11 (St1.cellsL l))] [] (fun r h => r = DB true ∧ h = [])
  | 0, l, hok, _ => by
    have hnil : l = [] := by
      cases l with
      | nil => rfl
      | cons a r => have := hok a (by simp); simp [stmtOK] at this
    subst hnil
    exact sameBlockOf [] (by simp) fun s hs => by simp at hs
  | d + 1, l, hok, hsz => by
    have hll : l.length ≤ 1000 := by have := lsize_subs d l; omega
    refine sameBlockOf l hll fun s hs => ?_
    have hso := hok s hs
    have hts := mem_le_lsize (d := d + 1) hs
    have hsub := tsize_subs d s
    simp only [subs] at hsub
    obtain ⟨k, t, ix, v, cc, b, e⟩ := s
    have hx := CtD.exprs_of hso
    have hbo := stmtOK_succ hso
    simp only [St1.body, St1.els] at hsub
    exact sameStmtOf _ (exprSameX hx.1) (exprSameX hx.2) (sameBlockS p d b hbo.2.1 (by omega)) (sameBlockS p d e hbo.2.2 (by omega))

/-- Programs of one body. -/
theorem programSameS (q : Pg) (vs vs' ar ar' : List Int) (bd : List St1) (hl : vs.length ≤ mx) (hl2 : ar.length ≤ mx) (hok : ∀ s ∈ bd, stmtOK q 5 s = true) (hsz : lsize 5 bd ≤ 1000) :
    DC Try.prog 148 [.agg (Pg.cells ⟨vs, ar, bd⟩), .agg (Pg.cells ⟨vs', ar', bd⟩)] [] (fun r h => r = DB (decide (vs = vs') && decide (ar = ar')) ∧ h = []) := by
  have h1 := l2Ints vs vs' hl
  have h2 := l2Ints ar ar' hl2
  have h3 := sameBlockS q 5 bd hok hsz
  unfold ints at h1 h2
  generalize decide (vs = vs') = b1 at *
  generalize decide (ar = ar') = b2 at *
  generalize hR : (fun (r : D) (h : List (Option (List C))) => r = DB (b1 && b2) ∧ h = []) = R
  cases b1
  · refine dcZ Try.func148 ?_
    simp (maxSteps := 9999999) only [go_sem]
    iterate 5 ((try (refine drvZ Try.func148 ?_; simp (maxSteps := 9999999) only [go_sem])); (try ((with_reducible refine And.intro ?_ ?_) <;> (repeat' with_reducible apply And.intro) <;> try exact sd)); (try first | refine XK.p h1 ok162 ?_ | refine XK.gp h1 ok162 ?_ | refine XK.gs (DB false) ?_))
    subst hR
    exact RetOb.plain (d := DB _) ⟨rfl, rfl⟩ rfl
  · cases b2
    all_goals
      refine dcZ Try.func148 ?_
      simp (maxSteps := 9999999) only [go_sem]
      iterate 5 ((try (refine drvZ Try.func148 ?_; simp (maxSteps := 9999999) only [go_sem])); (try ((with_reducible refine And.intro ?_ ?_) <;> (repeat' with_reducible apply And.intro) <;> try exact sd)); (try first | refine XK.p h1 ok162 ?_ | refine XK.gp h1 ok162 ?_ | refine XK.p h2 ok162 ?_ | refine XK.gp h2 ok162 ?_ | refine XK.p h3 ok163 ?_ | refine XK.gp h3 ok163 ?_ | refine XK.gs (DB false) ?_))
      subst hR
      exact RetOb.plain (d := DB _) ⟨rfl, rfl⟩ rfl
end Go.Proofs.Ytclgjiffpijgmaa.CtR

namespace Go.Proofs.Ytclgjiffpijgmaa.CtR
open Go Go.CT CtF

theorem labelO (vs ar : List Int) (bd : List St1) (q : Pg) (hqv : q.vars.length = vs.length) (hqa : q.arrays.length = ar.length) (hl : vs.length ≤ mx) (hl2 : ar.length ≤ mx) (h1 : lab3 vs) (h2 : lab3 ar) : ∀ (d : Nat) (e : Ex), shape q d e = true →
    DC Try.prog 150 [.agg [.msl 0 1 0 vs.length, .msl 1 1 0 ar.length, .isl 11 (St1.cellsL bd)], .agg e.cells] [some (vs.map I64), some (ar.map I64)]
      (fun r h => r = DI .i64 (labN vs ar d e) ∧ h = [some (vs.map I64), some (ar.map I64)]) := by
  have hmx := mx_eq
  intro d
  induction d with
  | zero => intro e h; simp [shape] at h
  | succ d ih =>
    intro e hsh
    obtain ⟨k, v, ks⟩ := e
    obtain ⟨g1, g2, g3⟩ := shape_succ hsh
    obtain ⟨hl3, hla, hv0, hv1⟩ := fits_len g1
    generalize hR : (fun (r : D) (h : List (Option (List C))) => r = DI .i64 (labN vs ar (d + 1) (.mk k v ks)) ∧ h = [some (vs.map I64), some (ar.map I64)]) = R
    have hle := fun e => labN_le h1 h2 d e
    have hacc : ∀ i, ((ks.take i).map (labN vs ar d)).foldl (fun a b => a ||| b) (labB vs ar k v) ≤ 3 := fun i => by
      have := labN_le h1 h2 (d + 1) (.mk k v (ks.take i))
      exact this
    have hlb : labB vs ar k v ≤ 3 := hacc 0
    have key : k = 2 ∨ k = 3 ∨ (k ≠ 2 ∧ k ≠ 3) := by omega
    rcases key with hk | hk | hk
    case' inl =>
      have hv1' : v < vs.length := by subst hk; simpa [limit, hqv, hqa] using hv1
      have hx := (nth_mem (l := vs) hv0 hv1').1
      have hB : ((labB vs ar k v : Nat) : Int) = nth vs v := by have := nth_lab h1 v; simp [labB, hk]; omega
      have e2 : (k == 2) = true := by simp [hk]
      refine dcZ Try.func150 ?_
      simp (maxSteps := 9999999) only [go_sem]
      iterate 4 ((try (refine drvZ Try.func150 ?_; simp (maxSteps := 9999999) only [go_sem, hx, e2, eq_true hk])); (try ((with_reducible refine And.intro ?_ ?_) <;> (repeat' with_reducible apply And.intro) <;> try exact sd)))
    case' inr.inl =>
      have hv1' : v < ar.length := by subst hk; simpa [limit, hqv, hqa] using hv1
      have hx := (nth_mem (l := ar) hv0 hv1').1
      have hB : ((labB vs ar k v : Nat) : Int) = nth ar v := by have := nth_lab h2 v; simp [labB, hk]; omega
      have e2 : (k == 2) = false := by simp [hk]
      have e3 : (k == 3) = true := by simp [hk]
      have f2 : (k = 2) = False := by simp [hk]
      refine dcZ Try.func150 ?_
      simp (maxSteps := 9999999) only [go_sem]
      iterate 4 ((try (refine drvZ Try.func150 ?_; simp (maxSteps := 9999999) only [go_sem, hx, e2, e3, f2, eq_true hk])); (try ((with_reducible refine And.intro ?_ ?_) <;> (repeat' with_reducible apply And.intro) <;> try exact sd)))
    case' inr.inr =>
      have hB : ((labB vs ar k v : Nat) : Int) = 0 := by simp [labB, hk.1, hk.2]
      have e2 : (k == 2) = false := by simp [hk.1]
      have e3 : (k == 3) = false := by simp [hk.2]
      have hk2 := hk.1
      have hk3 := hk.2
      refine dcZ Try.func150 ?_
      simp (maxSteps := 9999999) only [go_sem]
      iterate 4 ((try (refine drvZ Try.func150 ?_; simp (maxSteps := 9999999) only [go_sem, e2, e3, hk2, hk3])); (try ((with_reducible refine And.intro ?_ ?_) <;> (repeat' with_reducible apply And.intro) <;> try exact sd)))
    all_goals
      clear hk
      refine Go.loopQ (fun i : Nat => [(2, .c (.ptr 2 0)), (3, .c (.ptr 66 0)), (5, DI .i64 (((ks.take i).map (labN vs ar d)).foldl (fun a b => a ||| b) (labB vs ar k v) : Nat)), (6, DI .i64 i)]) (fun i => [(0, some (vs.map I64)), (1, some (ar.map I64)), (2, some [.msl 0 1 0 vs.length, .msl 1 1 0 ar.length, .isl 11 (St1.cellsL bd)]), (66, some (Ex.cells (.mk k v ks)))])
        4096 (fun i => i ≤ ks.length) (fun i => ks.length - i) ?_ 0 some [] _ (Nat.zero_le _) ?_
      · intro i hi again
        rcases Nat.lt_or_ge i ks.length with hlt | hge
        · obtain ⟨⟨k', v', ks'⟩, hx⟩ : ∃ x, ks[i]? = some x := ⟨ks[i], by simp [hlt]⟩
          have hsc := lab_succ (labN vs ar d) (labB vs ar k v) ks i _ hx
          have ha := hacc i
          have hb := hle (.mk k' v' ks')
          have hc := hacc (i + 1)
          rw [hsc] at hc
          have hi := ih (.mk k' v' ks') (g2 _ (List.mem_of_getElem? hx))
          generalize ((ks.take i).map (labN vs ar d)).foldl (fun a b => a ||| b) (labB vs ar k v) = acc at *
          refine drvL Try.func150 ?_
          simp (maxSteps := 9999999) only [go_sem, hx, hlt]
          iterate 3 ((try (refine drvZ Try.func150 ?_; simp (maxSteps := 9999999) only [go_sem, hx, hlt])); (try ((with_reducible refine And.intro ?_ ?_) <;> (repeat' with_reducible apply And.intro) <;> try exact sd)))
          refine XK.callG [0, 1] hi ok150 (hhpG (by simp [HH, upd, renCs_I])) (hbT ()) (fun d h' ⟨_, e⟩ => by subst e; simp) ?_ (fun _ => ⟨by kernel_rfl, _, _, ⟨rfl, rfl⟩, by simp⟩)
          rintro _ _ ⟨rfl, rfl⟩ _
          iterate 4 ((try (refine drvZ Try.func150 ?_; simp (maxSteps := 9999999) only [go_sem, hx, hlt, renCs_I])); (try ((with_reducible refine And.intro ?_ ?_) <;> (repeat' with_reducible apply And.intro) <;> try exact sd)))
          refine again (i + 1) some [] _ hlt (by omega) ?_
          simp (maxSteps := 9999999) only [go_sem, TmOK, DM, DMs, CM, CMs, forall_eq, exists_eq_left, Mq, HpOK, LowOK, hsc]
          simp [CMs_I]
          rw [← List.map_take, hsc]
        · have hn : ¬ i < ks.length := by omega
          obtain rfl : i = ks.length := by omega
          refine drvL Try.func150 ?_
          simp (maxSteps := 9999999) only [go_sem, hn, List.take_length]
          iterate 2 ((try (refine drvZ Try.func150 ?_; simp (maxSteps := 9999999) only [go_sem, hn, List.take_length])); (try ((with_reducible refine And.intro ?_ ?_) <;> (repeat' with_reducible apply And.intro) <;> try exact sd)))
          refine RetOb.ofQ some [] (DI .i64 _) _ ?_ (by rw [← hR]; exact ⟨rfl, rfl⟩) (by simp)
          simp [enumL, DM, DMs, CM, HpOK, LowOK, hOf, upd, CMs_I]
          rfl
      · simp (maxSteps := 9999999) only [go_sem, TmOK, DM, DMs, CM, CMs, forall_eq, exists_eq_left, Mq, HpOK, LowOK, List.take_zero, List.map_nil, List.foldl_nil]
        simp [hB, CMs_I]
end Go.Proofs.Ytclgjiffpijgmaa.CtR

namespace Go.Proofs.Ytclgjiffpijgmaa.CtR
open Go Go.CT CtF

theorem i_set (l : List Int) (j : Nat) (x : Int) : (l.map I64).set j (.v (.int .i64 x)) = (l.set j x).map I64 := by rw [List.map_set]
/-- Labels raised. -/
structure Up (l l' : List Int) : Prop where
  len : l'.length = l.length
  lab : lab3 l'
  le : ∀ (i : Nat) (x x' : Int), l[i]? = some x → l'[i]? = some x' → x ≤ x'
theorem Up.refl {l : List Int} (h : lab3 l) : Up l l := ⟨rfl, h, fun i x x' a b => by rw [a] at b; cases b; exact Int.le_refl _⟩
theorem Up.trans {a b c : List Int} (h : Up a b) (h' : Up b c) : Up a c :=
  ⟨h'.len.trans h.len, h'.lab, fun i x x' h1 h2 => by
    have hi : i < b.length := by have := (List.getElem?_eq_some_iff.1 h1).1; rw [h.len]; exact this
    exact Int.le_trans (h.le i x b[i] h1 (by simp [hi])) (h'.le i b[i] x' (by simp [hi]) h2)⟩
theorem Up.set {l l' : List Int} (h : Up l l') {i T n : Nat} (ht : l'[i]? = some (T : Int)) (hn : n ≤ 3) (hT : T ≤ n) : Up l (l'.set i (n : Int)) :=
  ⟨by rw [List.length_set, h.len], fun x hx => by
    rcases List.mem_or_eq_of_mem_set hx with h1 | rfl
    · exact h.lab x h1
    · omega, fun j x x' h1 h2 => by
    rw [List.getElem?_set] at h2
    by_cases e : i = j
    · subst e
      have hlt := (List.getElem?_eq_some_iff.1 ht).1
      rw [if_pos rfl, if_pos hlt] at h2
      cases h2
      have := h.le i x T h1 ht
      omega
    · rw [if_neg e] at h2; exact h.le j x x' h1 h2⟩
def raR (vs ar : List Int) (r : D) (h : List (Option (List C))) : Prop := ∃ vs' ar', r = .tup [] ∧ Up vs vs' ∧ Up ar ar' ∧ h = [some (vs'.map I64), some (ar'.map I64)]

theorem raise (q : Pg) (bd : List St1) (hl : q.vars.length ≤ 1000) (hl2 : q.arrays.length ≤ 1000) : ∀ (d : Nat) (l : List St1) (vs ar : List Int) (c : Nat), vs.length = q.vars.length → ar.length = q.arrays.length → lab3 vs → lab3 ar → c ≤ 3 → (∀ s ∈ l, stmtOK q d s = true) → l.length ≤ 1000 →
    (∀ s ∈ l, lsize d l ≤ 1000) →
    DC Try.prog 147 [.agg [.msl 0 1 0 vs.length, .msl 1 1 0 ar.length, .isl 11 (St1.cellsL bd)], .c (.isl 11 (St1.cellsL l)), DI .i64 c] [some (vs.map I64), some (ar.map I64)] (raR vs ar) := by
  have hmx := mx_eq
  intro d
  induction d with
  | zero =>
    intro l vs ar c hv ha h1 h2 hc hok hll hsz
    have hnil : l = [] := by
      cases l with
      | nil => rfl
      | cons a r => have := hok a (by simp); simp [stmtOK] at this
    subst hnil
    generalize hR : raR vs ar = R
    have hz : ((0 : Int) < 0) = False := eq_false (by omega)
    refine dcZ Try.func147 ?_
    simp (maxSteps := 9999999) only [go_sem, St1.cellsL, Int.natCast_zero]
    refine Go.loop ?_
    refine drvL Try.func147 ?_
    simp (maxSteps := 9999999) only [go_sem, St1.cellsL, Int.natCast_zero, hz]
    iterate 2 ((try (refine drvZ Try.func147 ?_; simp (maxSteps := 9999999) only [go_sem, St1.cellsL, Int.natCast_zero, hz])); (try ((with_reducible refine And.intro ?_ ?_) <;> (repeat' with_reducible apply And.intro) <;> try exact sd)))
    refine RetOb.ofQ some [] (.tup []) [some (vs.map I64), some (ar.map I64)] ?_ (by rw [← hR]; exact ⟨vs, ar, rfl, .refl h1, .refl h2, rfl⟩) (by simp)
    simp [enumL, DM, DMs, CM, HpOK, LowOK, hOf, upd, CMs_I, hpL]
  | succ d ih =>
    intro l vs ar c hv ha h1 h2 hc hok hll hsz
    generalize hR : raR vs ar = R
    refine dcZ Try.func147 ?_
    simp (maxSteps := 9999999) only [go_sem]
    refine Go.loopQ (fun σ : Nat × List Int × List Int => [(1, .c (.isl 11 (St1.cellsL l))), (2, DI .i64 c), (3, .c (.ptr 2 0)), (6, DI .i64 σ.1)])
      (fun σ => [(0, some (σ.2.1.map I64)), (1, some (σ.2.2.map I64)), (2, some [.msl 0 1 0 vs.length, .msl 1 1 0 ar.length, .isl 11 (St1.cellsL bd)])]) 4096 (fun σ => σ.1 ≤ l.length ∧ Up vs σ.2.1 ∧ Up ar σ.2.2) (fun σ => l.length - σ.1) ?_ (0, vs, ar) some [] _ ⟨Nat.zero_le _, .refl h1, .refl h2⟩ ?_
    · rintro ⟨i, xs, ys⟩ ⟨hi, hux, huy⟩ again
      simp only at hi hux huy
      have hxl := hux.len
      have hyl := huy.len
      rcases Nat.lt_or_ge i l.length with hlt | hge
      · obtain ⟨⟨k, t, ⟨ik, iv, iks⟩, ⟨vk, vv, vks⟩, cc, b, e⟩, hs⟩ : ∃ s, l[i]? = some s := ⟨l[i], by simp [hlt]⟩
        have hmem := List.mem_of_getElem? hs
        have hso := hok _ hmem
        have hsz := hsz _ hmem
        have hts := mem_le_lsize (d := d + 1) hmem
        have hsub := tsize_subs d (.mk k t (.mk ik iv iks) (.mk vk vv vks) cc b e)
        simp only [subs, St1.body, St1.els] at hsub
        have hbo := stmtOK_succ hso
        obtain ⟨s1, s2⟩ := shapeV hso
        have hlabv := fun h => labelO xs ys bd q (by omega) (by omega) (by omega) (by omega) hux.lab huy.lab 5 (.mk vk vv vks) (s1 h)
        have hlabi := fun h => labelO xs ys bd q (by omega) (by omega) (by omega) (by omega) hux.lab huy.lab 5 (.mk ik iv iks) (s2 h)
        have hlev := labN_le hux.lab huy.lab 5 (.mk vk vv vks)
        have hlei := labN_le hux.lab huy.lab 5 (.mk ik iv iks)
        have hbl : ∀ bl : List St1, lsize d bl ≤ 1000 → (∀ s ∈ bl, stmtOK q d s = true) → bl.length ≤ 1000 := fun bl h hk => by
          cases d with
          | zero =>
            cases bl with
            | nil => simp
            | cons a r => have := hk a (by simp); simp [stmtOK] at this
          | succ d => have := lsize_subs d bl; omega
        have hrb := fun c' hc' vs' ar' h1 h2 h3 h4 => ih b vs' ar' c' h1 h2 h3 h4 hc' hbo.2.1 (hbl b (by omega) hbo.2.1) (fun _ _ => by omega)
        have hre := fun c' hc' vs' ar' h1 h2 h3 h4 => ih e vs' ar' c' h1 h2 h3 h4 hc' hbo.2.2 (hbl e (by omega) hbo.2.2) (fun _ _ => by omega)
        generalize labN xs ys 5 (.mk vk vv vks) = lv at *
        generalize labN xs ys 5 (.mk ik iv iks) = li at *
        rw [hxl, hyl] at hlabv hlabi
        rcases head_kind hbo.1 with ⟨hk, ht0, ht1, hr⟩ | ⟨rfl, ht0, ht1, hri, hat, hr⟩ | ⟨rfl, hr⟩ | ⟨rfl, _, _⟩
        · rcases hk with rfl | rfl
          · have hlabv := hlabv (by decide)
            obtain ⟨T, hT, hTe, htt⟩ := lab_at hux.lab ht0 (by omega)
            have hor := or3 hT hlev
            have hor2 := or3 hor hc
            refine drvL Try.func147 ?_
            simp (maxSteps := 9999999) only [go_sem, hs, hlt]
            iterate 4 ((try (refine drvZ Try.func147 ?_; simp (maxSteps := 9999999) only [go_sem, hs, hlt, htt])); (try ((with_reducible refine And.intro ?_ ?_) <;> (repeat' with_reducible apply And.intro) <;> try exact sd)))
            refine XK.rp [0, 1] hlabv ok150 (by simp [HH, upd, hOf, renCs_I]) ⟨kfs_mapI _ (kf_I _), kfs_mapI _ (kf_I _), trivial⟩ ?_
            iterate 4 ((try (refine drvZ Try.func147 ?_; simp (maxSteps := 9999999) only [go_sem, hs, hlt, renCs_I, i_set, htt])); (try ((with_reducible refine And.intro ?_ ?_) <;> (repeat' with_reducible apply And.intro) <;> try exact sd)))
            refine again (i + 1, xs.set t.toNat (T ||| lv ||| c : Nat), ys) some [] _ ⟨hlt, hux.set htt hor2 (Nat.le_trans Nat.left_le_or Nat.left_le_or), huy⟩ (show l.length - (i + 1) < l.length - i by omega) ?_
            simp (maxSteps := 9999999) only [go_sem, TmOK, DM, DMs, CM, CMs, forall_eq, exists_eq_left, Mq, HpOK, LowOK]
            simp [CMs_I]
            try exact CMs.kf (by rw [← List.map_set]; exact kf_I _)
          · refine drvL Try.func147 ?_
            simp (maxSteps := 9999999) only [go_sem, hs, hlt, renCs_I, i_set]
            iterate 5 ((try (refine drvZ Try.func147 ?_; simp (maxSteps := 9999999) only [go_sem, hs, hlt, renCs_I, i_set])); (try ((with_reducible refine And.intro ?_ ?_) <;> (repeat' with_reducible apply And.intro) <;> try exact sd)))
            refine again (i + 1, xs, ys) some [] _ ⟨hlt, hux, huy⟩ (show l.length - (i + 1) < l.length - i by omega) ?_
            simp (maxSteps := 9999999) only [go_sem, TmOK, DM, DMs, CM, CMs, forall_eq, exists_eq_left, Mq, HpOK, LowOK]
            simp [CMs_I]
            try exact CMs.kf (by rw [← List.map_set]; exact kf_I _)
        · have hlabv := hlabv (by decide)
          have hlabi := hlabi rfl
          obtain ⟨T, hT, hTe, htt⟩ := lab_at huy.lab ht0 (by omega)
          have hor := or3 hT hlev
          have hor1 := or3 hor hlei
          have hor2 := or3 hor1 hc
          · refine drvL Try.func147 ?_
            simp (maxSteps := 9999999) only [go_sem, hs, hlt, renCs_I, i_set]
            iterate 5 ((try (refine drvZ Try.func147 ?_; simp (maxSteps := 9999999) only [go_sem, hs, hlt, renCs_I, i_set, htt])); (try ((with_reducible refine And.intro ?_ ?_) <;> (repeat' with_reducible apply And.intro) <;> try exact sd)))
            refine XK.rp [0, 1] hlabv ok150 (by simp [HH, upd, hOf, renCs_I]) ⟨kfs_mapI _ (kf_I _), kfs_mapI _ (kf_I _), trivial⟩ ?_
            iterate 3 ((try (refine drvZ Try.func147 ?_; simp (maxSteps := 9999999) only [go_sem, hs, hlt, renCs_I, i_set, htt])); (try ((with_reducible refine And.intro ?_ ?_) <;> (repeat' with_reducible apply And.intro) <;> try exact sd)))
            refine XK.rp [0, 1] hlabi ok150 (by simp [HH, upd, hOf, renCs_I]) ⟨kfs_mapI _ (kf_I _), kfs_mapI _ (kf_I _), trivial⟩ ?_
            iterate 4 ((try (refine drvZ Try.func147 ?_; simp (maxSteps := 9999999) only [go_sem, hs, hlt, renCs_I, i_set, htt])); (try ((with_reducible refine And.intro ?_ ?_) <;> (repeat' with_reducible apply And.intro) <;> try exact sd)))
            refine again (i + 1, xs, ys.set t.toNat (T ||| lv ||| li ||| c : Nat)) some [] _ ⟨hlt, hux, huy.set htt hor2 (Nat.le_trans Nat.left_le_or (Nat.le_trans Nat.left_le_or Nat.left_le_or))⟩ (show l.length - (i + 1) < l.length - i by omega) ?_
            simp (maxSteps := 9999999) only [go_sem, TmOK, DM, DMs, CM, CMs, forall_eq, exists_eq_left, Mq, HpOK, LowOK]
            simp [CMs_I]
            try exact CMs.kf (by rw [← List.map_set]; exact kf_I _)
        · have hlabv := hlabv (by decide)
          have hor := or3 hc hlev
          have hA := hux.lab
          have hB := huy.lab
          have hrb := hrb _ hor xs ys (by omega) (by omega) hA hB
          rw [hxl, hyl] at hrb
          · refine drvL Try.func147 ?_
            simp (maxSteps := 9999999) only [go_sem, hs, hlt, renCs_I, i_set]
            iterate 5 ((try (refine drvZ Try.func147 ?_; simp (maxSteps := 9999999) only [go_sem, hs, hlt, renCs_I, i_set])); (try ((with_reducible refine And.intro ?_ ?_) <;> (repeat' with_reducible apply And.intro) <;> try exact sd)))
            refine XK.rp [0, 1] hlabv ok150 (by simp [HH, upd, hOf, renCs_I]) ⟨kfs_mapI _ (kf_I _), kfs_mapI _ (kf_I _), trivial⟩ ?_
            iterate 3 ((try (refine drvZ Try.func147 ?_; simp (maxSteps := 9999999) only [go_sem, hs, hlt, renCs_I, i_set])); (try ((with_reducible refine And.intro ?_ ?_) <;> (repeat' with_reducible apply And.intro) <;> try exact sd)))
            refine XK.callG [0, 1] hrb ok147 (hhpG (by simp [HH, upd, hOf, renCs_I])) (hbT ()) (fun d h' ⟨_, _, _, _, _, e⟩ => by subst e; simp) ?_ (fun _ => ⟨by kernel_rfl, _, _, ⟨xs, ys, rfl, .refl hA, .refl hB, rfl⟩, by simp⟩)
            rintro _ _ ⟨xs2, ys2, rfl, u1, u2, rfl⟩ _
            have hxl2 := u1.len
            have hyl2 := u2.len
            have hlab2 := labelO xs2 ys2 bd q (by omega) (by omega) (by omega) (by omega) u1.lab u2.lab 5 (.mk vk vv vks) (s1 (by decide))
            have hlev2 := labN_le u1.lab u2.lab 5 (.mk vk vv vks)
            generalize labN xs2 ys2 5 (.mk vk vv vks) = lv2 at *
            have hor2 := or3 hc hlev2
            have hA := u1.lab
            have hB := u2.lab
            have hre := hre _ hor2 xs2 ys2 (by omega) (by omega) hA hB
            rw [hxl2, hyl2, hxl, hyl] at hre hlab2
            iterate 5 ((try (refine drvZ Try.func147 ?_; simp (maxSteps := 9999999) only [go_sem, hs, hlt, renCs_I, i_set])); (try ((with_reducible refine And.intro ?_ ?_) <;> (repeat' with_reducible apply And.intro) <;> try exact sd)))
            refine XK.rp [0, 1] hlab2 ok150 (by simp [HH, upd, hOf, renCs_I]) ⟨kfs_mapI _ (kf_I _), kfs_mapI _ (kf_I _), trivial⟩ ?_
            iterate 3 ((try (refine drvZ Try.func147 ?_; simp (maxSteps := 9999999) only [go_sem, hs, hlt, renCs_I, i_set])); (try ((with_reducible refine And.intro ?_ ?_) <;> (repeat' with_reducible apply And.intro) <;> try exact sd)))
            refine XK.callG [0, 1] hre ok147 (hhpG (by simp [HH, upd, hOf, renCs_I])) (hbT ()) (fun d h' ⟨_, _, _, _, _, e⟩ => by subst e; simp) ?_ (fun _ => ⟨by kernel_rfl, _, _, ⟨xs2, ys2, rfl, .refl hA, .refl hB, rfl⟩, by simp⟩)
            rintro _ _ ⟨xs3, ys3, rfl, u3, u4, rfl⟩ _
            iterate 5 ((try (refine drvZ Try.func147 ?_; simp (maxSteps := 9999999) only [go_sem, hs, hlt, renCs_I, i_set])); (try ((with_reducible refine And.intro ?_ ?_) <;> (repeat' with_reducible apply And.intro) <;> try exact sd)))
            refine again (i + 1, xs3, ys3) some [] _ ⟨hlt, (hux.trans u1).trans u3, (huy.trans u2).trans u4⟩ (show l.length - (i + 1) < l.length - i by omega) ?_
            simp (maxSteps := 9999999) only [go_sem, TmOK, DM, DMs, CM, CMs, forall_eq, exists_eq_left, Mq, HpOK, LowOK]
            simp [CMs_I]
            try exact CMs.kf (by rw [← List.map_set]; exact kf_I _)
        · have hrb := hrb c hc xs ys (by omega) (by omega) hux.lab huy.lab
          rw [hxl, hyl] at hrb
          · refine drvL Try.func147 ?_
            simp (maxSteps := 9999999) only [go_sem, hs, hlt, renCs_I, i_set]
            iterate 5 ((try (refine drvZ Try.func147 ?_; simp (maxSteps := 9999999) only [go_sem, hs, hlt, renCs_I, i_set])); (try ((with_reducible refine And.intro ?_ ?_) <;> (repeat' with_reducible apply And.intro) <;> try exact sd)))
            refine XK.callG [0, 1] hrb ok147 (hhpG (by simp [HH, upd, hOf, renCs_I])) (hbT ()) (fun d h' ⟨_, _, _, _, _, e⟩ => by subst e; simp) ?_
            rintro _ _ ⟨xs2, ys2, rfl, u1, u2, rfl⟩ _
            iterate 5 ((try (refine drvZ Try.func147 ?_; simp (maxSteps := 9999999) only [go_sem, hs, hlt, renCs_I, i_set])); (try ((with_reducible refine And.intro ?_ ?_) <;> (repeat' with_reducible apply And.intro) <;> try exact sd)))
            refine again (i + 1, xs2, ys2) some [] _ ⟨hlt, hux.trans u1, huy.trans u2⟩ (show l.length - (i + 1) < l.length - i by omega) ?_
            simp (maxSteps := 9999999) only [go_sem, TmOK, DM, DMs, CM, CMs, forall_eq, exists_eq_left, Mq, HpOK, LowOK]
            simp [CMs_I]
            try exact CMs.kf (by rw [← List.map_set]; exact kf_I _)
      · have hn : ¬ i < l.length := by omega
        refine drvL Try.func147 ?_
        simp (maxSteps := 9999999) only [go_sem, hn]
        iterate 3 ((try (refine drvZ Try.func147 ?_; simp (maxSteps := 9999999) only [go_sem, hn])); (try ((with_reducible refine And.intro ?_ ?_) <;> (repeat' with_reducible apply And.intro) <;> try exact sd)))
        refine RetOb.ofQ some [] (.tup []) [some (xs.map I64), some (ys.map I64)] ?_ (by rw [← hR]; exact ⟨xs, ys, rfl, hux, huy, rfl⟩) (by simp)
        simp [enumL, DM, DMs, CM, HpOK, LowOK, hOf, upd, CMs_I]
    · simp (maxSteps := 9999999) only [go_sem, TmOK, DM, DMs, CM, CMs, forall_eq, exists_eq_left, Mq, HpOK, LowOK]
      simp [CMs_I]
end Go.Proofs.Ytclgjiffpijgmaa.CtR
