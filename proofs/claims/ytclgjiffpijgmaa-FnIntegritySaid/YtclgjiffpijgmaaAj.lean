/- For every list of bytes, the Go function FnSliceProgram returns true, and its arguments read afterwards as before: the statement FnSliceProgramSaid. -/
import Derived.Test.YtclgjiffpijgmaaRows
import Derived.WalkKit
import Derived.ProofKit
import Derived.OpenShut
import Derived.ShutString
import Derived.ChangeOld
import Derived.Below
import Derived.SizedLaws
import Derived.Test.YtclgjiffpijgmaaFacts
import Derived.Test.YtclgjiffpijgmaaAd
import Derived.Test.YtclgjiffpijgmaaAe
import Derived.Test.YtclgjiffpijgmaaAf
import Derived.Test.YtclgjiffpijgmaaAg
import Derived.Test.YtclgjiffpijgmaaAh
import Derived.Test.YtclgjiffpijgmaaAi
set_option linter.unusedVariables false
set_option linter.unusedSimpArgs false
set_option maxHeartbeats 16000000
set_option maxRecDepth 100000
namespace Go.Proofs.Ytclgjiffpijgmaa.CtD
open Go Go.CT CtF CtR

theorem eqFE (ks : List Ex) (hl : ks.length ≤ 1000) (h : ∀ e ∈ ks, DC Try.prog 123 [.agg e.cells, .agg e.cells] [] (fun r h => r = DB true ∧ h = [])) :
    DC Try.prog 146 [.c (.isl 3 (Ex.cellsL ks)), .c (.isl 3 (Ex.cellsL ks)), .c (.clo 123 [])] [] (fun r h => r = DB true ∧ h = []) := by
  have hmx := mx_eq
  generalize hR : (fun (r : D) (h : List (Option (List C))) => r = DB true ∧ h = []) = R at h ⊢
  have hb : ((ks.length : Int) != ks.length) = false := by simp
  have he : ((ks.length : Int) = ks.length) = True := eq_true rfl
  refine dcZ Try.func146 ?_
  simp (maxSteps := 9999999) only [go_sem, hb, he]
  iterate 2 ((try (refine drvZ Try.func146 ?_; simp (maxSteps := 9999999) only [go_sem, hb, he])); (try ((with_reducible refine And.intro ?_ ?_) <;> (repeat' with_reducible apply And.intro) <;> try exact sd)))
  refine Go.loopQ (fun i : Nat => [(1, .c (.isl 3 (Ex.cellsL ks))), (2, .c (.clo 123 [])), (15, .c (.isl 3 (Ex.cellsL ks))), (16, DI .i64 ks.length), (17, DI .i64 i)]) (fun _ => [])
    4096 (fun i => i ≤ ks.length) (fun i => ks.length - i) ?_ 0 some [] _ (Nat.zero_le _) ?_
  · intro i hi again
    rcases Nat.lt_or_ge i ks.length with hlt | hge
    · obtain ⟨⟨k', v', ks'⟩, hx⟩ : ∃ x, ks[i]? = some x := ⟨ks[i], by simp [hlt]⟩
      have hc := h _ (List.mem_of_getElem? hx)
      rw [← hR] at hc
      refine drvL Try.func146 ?_
      simp (maxSteps := 9999999) only [go_sem, hx, hlt]
      iterate 3 ((try (refine drvZ Try.func146 ?_; simp (maxSteps := 9999999) only [go_sem, hx, hlt])); (try ((with_reducible refine And.intro ?_ ?_) <;> (repeat' with_reducible apply And.intro) <;> try exact sd)))
      refine XK.plain hc ok123 ?_ (hbT ())
      iterate 3 ((try (refine drvZ Try.func146 ?_; simp (maxSteps := 9999999) only [go_sem, hx, hlt])); (try ((with_reducible refine And.intro ?_ ?_) <;> (repeat' with_reducible apply And.intro) <;> try exact sd)))
      refine again (i + 1) some [] _ hlt (by omega) ?_
      simp (maxSteps := 9999999) only [go_sem, TmOK, DM, DMs, CM, CMs, forall_eq, exists_eq_left, Mq, HpOK, LowOK]
      try simp
    · have hn : ¬ i < ks.length := by omega
      refine drvL Try.func146 ?_
      simp (maxSteps := 9999999) only [go_sem, hn]
      iterate 2 ((try (refine drvZ Try.func146 ?_; simp (maxSteps := 9999999) only [go_sem, hn])); (try ((with_reducible refine And.intro ?_ ?_) <;> (repeat' with_reducible apply And.intro) <;> try exact sd)))
      exact RetOb.plain (d := DB true) (by rw [← hR]; exact ⟨rfl, rfl⟩) rfl
  · simp (maxSteps := 9999999) only [go_sem, TmOK, DM, DMs, CM, CMs, forall_eq, exists_eq_left, Mq, HpOK, LowOK]
    try simp

theorem exprSame (e : Ex) (he : SmE e) : DC Try.prog 123 [.agg e.cells, .agg e.cells] [] (fun r h => r = DB true ∧ h = []) := by
  have hmx := mx_eq
  induction he with
  | mk k v ks h3 hs ih =>
    have hq := eqFE ks (by omega) ih
    have e1 : (k == k) = true := by simp
    have e2 : (v == v) = true := by simp
    refine dcZ Try.func123 ?_
    simp (maxSteps := 9999999) only [go_sem, e1, e2]
    iterate 2 ((try (refine drvZ Try.func123 ?_; simp (maxSteps := 9999999) only [go_sem, e1, e2])); (try ((with_reducible refine And.intro ?_ ?_) <;> (repeat' with_reducible apply And.intro) <;> try exact sd)))
    refine XK.gplain 12 true true (fun _ => hq) ok146 ?_ (hbT ())
    iterate 2 ((try (refine drvZ Try.func123 ?_; simp (maxSteps := 9999999) only [go_sem])); (try ((with_reducible refine And.intro ?_ ?_) <;> (repeat' with_reducible apply And.intro) <;> try exact sd)))
    exact RetOb.plain (d := DB true) ⟨rfl, rfl⟩ rfl

theorem eqFS (l : List St1) (hl : l.length ≤ 1000) (h : ∀ s ∈ l, DC Try.prog 122 [.agg s.cells, .agg s.cells] [] (fun r h => r = DB true ∧ h = [])) :
    DC Try.prog 121 [.c (.isl 11 (St1.cellsL l)), .c (.isl 11 (St1.cellsL l)), .c (.clo 122 [])] [] (fun r h => r = DB true ∧ h = []) := by
  have hmx := mx_eq
  generalize hR : (fun (r : D) (h : List (Option (List C))) => r = DB true ∧ h = []) = R at h ⊢
  have hb : ((l.length : Int) != l.length) = false := by simp
  have he : ((l.length : Int) = l.length) = True := eq_true rfl
  refine dcZ Try.func121 ?_
  simp (maxSteps := 9999999) only [go_sem, hb, he]
  iterate 2 ((try (refine drvZ Try.func121 ?_; simp (maxSteps := 9999999) only [go_sem, hb, he])); (try ((with_reducible refine And.intro ?_ ?_) <;> (repeat' with_reducible apply And.intro) <;> try exact sd)))
  refine Go.loopQ (fun i : Nat => [(1, .c (.isl 11 (St1.cellsL l))), (2, .c (.clo 122 [])), (15, .c (.isl 11 (St1.cellsL l))), (16, DI .i64 l.length), (17, DI .i64 i)]) (fun _ => [])
    4096 (fun i => i ≤ l.length) (fun i => l.length - i) ?_ 0 some [] _ (Nat.zero_le _) ?_
  · intro i hi again
    rcases Nat.lt_or_ge i l.length with hlt | hge
    · obtain ⟨⟨k, t, ⟨ik, iv, iks⟩, ⟨vk, vv, vks⟩, c, b, e⟩, hx⟩ : ∃ x, l[i]? = some x := ⟨l[i], by simp [hlt]⟩
      have hc := h _ (List.mem_of_getElem? hx)
      rw [← hR] at hc
      refine drvL Try.func121 ?_
      simp (maxSteps := 9999999) only [go_sem, hx, hlt]
      iterate 3 ((try (refine drvZ Try.func121 ?_; simp (maxSteps := 9999999) only [go_sem, hx, hlt])); (try ((with_reducible refine And.intro ?_ ?_) <;> (repeat' with_reducible apply And.intro) <;> try exact sd)))
      refine XK.plain hc ok122 ?_ (hbT ())
      iterate 3 ((try (refine drvZ Try.func121 ?_; simp (maxSteps := 9999999) only [go_sem, hx, hlt])); (try ((with_reducible refine And.intro ?_ ?_) <;> (repeat' with_reducible apply And.intro) <;> try exact sd)))
      refine again (i + 1) some [] _ hlt (by omega) ?_
      simp (maxSteps := 9999999) only [go_sem, TmOK, DM, DMs, CM, CMs, forall_eq, exists_eq_left, Mq, HpOK, LowOK, List.cons_append, List.nil_append]
      try simp
    · have hn : ¬ i < l.length := by omega
      refine drvL Try.func121 ?_
      simp (maxSteps := 9999999) only [go_sem, hn]
      iterate 2 ((try (refine drvZ Try.func121 ?_; simp (maxSteps := 9999999) only [go_sem, hn])); (try ((with_reducible refine And.intro ?_ ?_) <;> (repeat' with_reducible apply And.intro) <;> try exact sd)))
      exact RetOb.plain (d := DB true) (by rw [← hR]; exact ⟨rfl, rfl⟩) rfl
  · simp (maxSteps := 9999999) only [go_sem, TmOK, DM, DMs, CM, CMs, forall_eq, exists_eq_left, Mq, HpOK, LowOK]
    try simp

theorem sameStmts (l : List St1) (hl : l.length ≤ 1000) (h : ∀ s ∈ l, DC Try.prog 122 [.agg s.cells, .agg s.cells] [] (fun r h => r = DB true ∧ h = [])) :
    DC Try.prog 78 [.c (.isl 11 (St1.cellsL l)), .c (.isl 11 (St1.cellsL l))] [] (fun r h => r = DB true ∧ h = []) := by
  refine dcZ Try.func78 ?_
  simp (maxSteps := 9999999) only [go_sem]
  ((try (refine drvZ Try.func78 ?_; simp (maxSteps := 9999999) only [go_sem])); (try ((with_reducible refine And.intro ?_ ?_) <;> (repeat' with_reducible apply And.intro) <;> try exact sd)))
  refine XK.plain (eqFS l hl h) ok121 ?_ (hbT ())
  ((try (refine drvZ Try.func78 ?_; simp (maxSteps := 9999999) only [go_sem])); (try ((with_reducible refine And.intro ?_ ?_) <;> (repeat' with_reducible apply And.intro) <;> try exact sd)))
  exact RetOb.plain (d := DB true) ⟨rfl, rfl⟩ rfl

theorem sameStmt (p : Pg) : ∀ (d : Nat) (s : St1), stmtOK p d s = true → tsize d s ≤ 1000 → DC Try.prog 122 [.agg s.cells, .agg s.cells] [] (fun r h => r = DB true ∧ h = [])
  | 0, s, h, _ => by simp [stmtOK] at h
  | d + 1, ⟨k, t, ⟨ik, iv, iks⟩, ⟨vk, vv, vks⟩, c, b, e⟩, h, hsz => by
    have hmx := mx_eq
    have hex := exprs_of h
    have hbe := stmtOK_succ h
    have hs1 := lsize_subs d b
    have hs2 := lsize_subs d e
    have hz : tsize (d + 1) (.mk k t (.mk ik iv iks) (.mk vk vv vks) c b e) = 1 + (b.map (tsize d)).sum + (e.map (tsize d)).sum := rfl
    have hlen : ∀ l : List St1, (∀ s ∈ l, stmtOK p d s = true) → l.length ≤ (l.map (tsize d)).sum := fun l hl => by
      induction l with
      | nil => simp
      | cons a r ih =>
        have := ih (fun s hs => hl s (by simp [hs]))
        have h1 : 1 ≤ tsize d a := by
          cases d with
          | zero => have := hl a (by simp); simp [stmtOK] at this
          | succ d => obtain ⟨k, t, ix, v, c, b, e⟩ := a; simp only [tsize]; omega
        simp only [List.length_cons, List.map_cons, List.sum_cons]; omega
    have hmem : ∀ (l : List St1), (∀ s ∈ l, tsize d s ≤ (l.map (tsize d)).sum) := fun l => by
      induction l with
      | nil => simp
      | cons a r ih =>
        intro s hs
        simp only [List.map_cons, List.sum_cons]
        rcases List.mem_cons.1 hs with rfl | hs
        · omega
        · have := ih s hs; omega
    have hb := sameStmts b (by have := hlen b hbe.2.1; omega) (fun s hs => sameStmt p d s (hbe.2.1 s hs) (by have := hmem b s hs; omega))
    have he := sameStmts e (by have := hlen e hbe.2.2; omega) (fun s hs => sameStmt p d s (hbe.2.2 s hs) (by have := hmem e s hs; omega))
    have x1 := exprSame _ (SmE_of hex.1)
    have x2 := exprSame _ (SmE_of hex.2)
    have e1 : (k == k) = true := by simp
    have e2 : (t == t) = true := by simp
    have e3 : (c == c) = true := by simp
    refine dcZ Try.func122 ?_
    simp (maxSteps := 9999999) only [go_sem, e1, e2, e3]
    iterate 2 ((try (refine drvZ Try.func122 ?_; simp (maxSteps := 9999999) only [go_sem, e1, e2, e3])); (try ((with_reducible refine And.intro ?_ ?_) <;> (repeat' with_reducible apply And.intro) <;> try exact sd)))
    refine XK.gplain 12 true true (fun _ => x1) ok123 ?_ (hbT ())
    iterate 2 ((try (refine drvZ Try.func122 ?_; simp (maxSteps := 9999999) only [go_sem, e1, e2, e3])); (try ((with_reducible refine And.intro ?_ ?_) <;> (repeat' with_reducible apply And.intro) <;> try exact sd)))
    refine XK.gplain 19 true true (fun _ => x2) ok123 ?_ (hbT ())
    iterate 3 ((try (refine drvZ Try.func122 ?_; simp (maxSteps := 9999999) only [go_sem, e1, e2, e3])); (try ((with_reducible refine And.intro ?_ ?_) <;> (repeat' with_reducible apply And.intro) <;> try exact sd)))
    refine XK.gplain 33 true true (fun _ => hb) ok78 ?_ (hbT ())
    iterate 2 ((try (refine drvZ Try.func122 ?_; simp (maxSteps := 9999999) only [go_sem, e1, e2, e3])); (try ((with_reducible refine And.intro ?_ ?_) <;> (repeat' with_reducible apply And.intro) <;> try exact sd)))
    refine XK.gplain 40 true true (fun _ => he) ok78 ?_ (hbT ())
    iterate 2 ((try (refine drvZ Try.func122 ?_; simp (maxSteps := 9999999) only [go_sem, e1, e2, e3])); (try ((with_reducible refine And.intro ?_ ?_) <;> (repeat' with_reducible apply And.intro) <;> try exact sd)))
    exact RetOb.plain (d := DB true) ⟨rfl, rfl⟩ rfl

theorem programSame (p : Pg) (hl : p.vars.length ≤ mx) (hl2 : p.arrays.length ≤ mx) (hb : p.body.length ≤ 1000) (h : ∀ s ∈ p.body, DC Try.prog 122 [.agg s.cells, .agg s.cells] [] (fun r h => r = DB true ∧ h = [])) :
    DC Try.prog 35 [.agg p.cells, .agg p.cells] [] (fun r h => r = DB true ∧ h = []) := by
  have hmx := mx_eq
  have h1 := equalI p.vars p.vars hl
  have h2 := equalI p.arrays p.arrays hl2
  rw [show decide (p.vars = p.vars) = true by simp] at h1
  rw [show decide (p.arrays = p.arrays) = true by simp] at h2
  have h3 := sameStmts p.body hb h
  obtain ⟨vs, ar, bd⟩ := p
  refine dcZ Try.func35 ?_
  simp (maxSteps := 9999999) only [go_sem]
  ((try (refine drvZ Try.func35 ?_; simp (maxSteps := 9999999) only [go_sem])); (try ((with_reducible refine And.intro ?_ ?_) <;> (repeat' with_reducible apply And.intro) <;> try exact sd)))
  refine XK.plain h1 ok66 ?_ (hbT ())
  iterate 2 ((try (refine drvZ Try.func35 ?_; simp (maxSteps := 9999999) only [go_sem])); (try ((with_reducible refine And.intro ?_ ?_) <;> (repeat' with_reducible apply And.intro) <;> try exact sd)))
  refine XK.gplain 5 true true (fun _ => h2) ok66 ?_ (hbT ())
  iterate 2 ((try (refine drvZ Try.func35 ?_; simp (maxSteps := 9999999) only [go_sem])); (try ((with_reducible refine And.intro ?_ ?_) <;> (repeat' with_reducible apply And.intro) <;> try exact sd)))
  refine XK.gplain 12 true true (fun _ => h3) ok78 ?_ (hbT ())
  iterate 2 ((try (refine drvZ Try.func35 ?_; simp (maxSteps := 9999999) only [go_sem])); (try ((with_reducible refine And.intro ?_ ?_) <;> (repeat' with_reducible apply And.intro) <;> try exact sd)))
  exact RetOb.plain (d := DB true) ⟨rfl, rfl⟩ rfl
end Go.Proofs.Ytclgjiffpijgmaa.CtD

namespace Go.Proofs.Ytclgjiffpijgmaa.CtD
open Go Go.CT CtF CtR

theorem dcMono {P : Program} {F : FuncId} {args : List D} {h : List (Option (List C))} {R R' : D → List (Option (List C)) → Prop} (hD : DC P F args h R) (hR : ∀ d h', R d h' → R' d h') : DC P F args h R' :=
  fun I w s vs H hv => (hD I w s vs H hv).mono fun e w' ⟨v, I', s', d, h', he, hr, k⟩ => ⟨v, I', s', d, h', he, hR d h' hr, k⟩
theorem sameBody {p : Pg} (h : progOK p = true) : ∀ s ∈ p.body, DC Try.prog 122 [.agg s.cells, .agg s.cells] [] (fun r h => r = DB true ∧ h = []) := fun s hs => by
  have hb := body_of h
  refine sameStmt p 5 s (hb.1 s hs) ?_
  have : ∀ l : List St1, s ∈ l → tsize 5 s ≤ (l.map (tsize 5)).sum := fun l => by
    induction l with
    | nil => simp
    | cons a r ih =>
      intro hs
      simp only [List.map_cons, List.sum_cons]
      rcases List.mem_cons.1 hs with rfl | hs
      · omega
      · have := ih hs; omega
  have h1 := this p.body hs
  have h2 : (p.body.map (tsize 5)).sum = lsize 5 p.body := rfl
  omega

end Go.Proofs.Ytclgjiffpijgmaa.CtD

namespace Go.Proofs.Ytclgjiffpijgmaa.CtD
open Go Go.CT CtF CtR

/-! Plain: a slice answers as the program does. -/
structure AgM (q : Nat → Bool) (nv : Nat) (m m' : Mm) : Prop where
  lv : m.vals.length = m'.vals.length
  la : m.arrays.length = m'.arrays.length
  val : ∀ i, i < nv → q i = true → m.vals[i]? = m'.vals[i]?
  arr : ∀ j, q (nv + j) = true → m.arrays[j]? = m'.arrays[j]?
theorem AgM.refl (q : Nat → Bool) (nv : Nat) (m : Mm) : AgM q nv m m := ⟨rfl, rfl, fun _ _ _ => rfl, fun _ _ => rfl⟩
theorem AgM.setV {q : Nat → Bool} {nv : Nat} {m m' : Mm} (h : AgM q nv m m') (t x : Int) : AgM q nv (setV m t x) (setV m' t x) := by
  refine ⟨by simp [CtR.setV, h.lv], h.la, fun i hi hq => ?_, h.arr⟩
  have := h.val i hi hq
  have := h.lv
  simp only [CtR.setV, List.getElem?_set]
  split <;> simp_all
theorem AgM.setVl {q : Nat → Bool} {nv : Nat} {m m' : Mm} (h : AgM q nv m m') {t : Int} (x : Int) (ht : q t.toNat = false) : AgM q nv (CtR.setV m t x) m' := by
  refine ⟨by simp [CtR.setV, h.lv], h.la, fun i hi hq => ?_, h.arr⟩
  have h1 := h.val i hi hq
  simp only [CtR.setV, List.getElem?_set]
  by_cases e : t.toNat = i
  · subst e; rw [ht] at hq; cases hq
  · simp [e, h1]
theorem AgM.setA {q : Nat → Bool} {nv : Nat} {m m' : Mm} (h : AgM q nv m m') {t : Int} (i x : Int) (ht : q (nv + t.toNat) = true) : AgM q nv (CtR.setA m t i x) (CtR.setA m' t i x) := by
  have ha : arrAt m t = arrAt m' t := by unfold arrAt; rw [List.getD_eq_getElem?_getD, List.getD_eq_getElem?_getD, h.arr _ ht]
  refine ⟨h.lv, by simp [CtR.setA, h.la], h.val, fun j hq => ?_⟩
  have h1 := h.arr j hq
  have h2 := h.la
  simp only [CtR.setA, List.getElem?_set, ha]
  split <;> simp_all
theorem AgM.setAl {q : Nat → Bool} {nv : Nat} {m m' : Mm} (h : AgM q nv m m') {t : Int} (i x : Int) (ht : q (nv + t.toNat) = false) : AgM q nv (CtR.setA m t i x) m' := by
  refine ⟨h.lv, by simp [CtR.setA, h.la], h.val, fun j hq => ?_⟩
  have h1 := h.arr j hq
  simp only [CtR.setA, List.getElem?_set]
  by_cases e : t.toNat = j
  · subst e; rw [ht] at hq; cases hq
  · simp [e, h1]
theorem subB_fold {q : Nat → Bool} : ∀ (l : List Nat) (a : Nat), subB (l.foldl (fun a b => a ||| b) a) q ↔ subB a q ∧ ∀ x ∈ l, subB x q
  | [], a => by simp
  | x :: r, a => by
    rw [List.foldl_cons, subB_fold r, subB_or]
    simp only [List.mem_cons, forall_eq_or_imp]
    exact and_assoc
theorem evalE_ag {p : Pg} {q : Nat → Bool} {m m' : Mm} (h : AgM q p.vars.length m m') : ∀ (d : Nat) (e : Ex), CtR.shape p d e = true → subB (occN p.vars.length d e) q → evalE m d e = evalE m' d e
  | 0, e, _, _ => rfl
  | d + 1, .mk k v ks, hs, hq => by
    obtain ⟨g1, g2, g3⟩ := shape_succ hs
    obtain ⟨hl3, hla, hv0, hv1⟩ := fits_len g1
    simp only [occN] at hq
    obtain ⟨q1, q2⟩ := (subB_fold _ _).1 hq
    have hk : ∀ x ∈ ks, evalE m d x = evalE m' d x := fun x hx => evalE_ag h d x (g2 x hx) (q2 _ (List.mem_map.2 ⟨x, hx, rfl⟩))
    have e1 : (ks.map fun e => (evalE m d e).1) = ks.map fun e => (evalE m' d e).1 := List.map_congr_left fun x hx => by rw [hk x hx]
    have e2 : (ks.map fun e => (evalE m d e).2) = ks.map fun e => (evalE m' d e).2 := List.map_congr_left fun x hx => by rw [hk x hx]
    simp only [evalE, e1, e2]
    by_cases k1 : k = 1
    · simp [k1]
    by_cases k2 : k = 2
    · subst k2
      have hlim : v < p.vars.length := by simpa [limit] using hv1
      have hqv : q v.toNat = true := q1 _ (by simp [occB, Nat.testBit_two_pow])
      have := h.val v.toNat (by omega) hqv
      simp only [Int.reduceEq, if_false, if_true, nth, List.getD_eq_getElem?_getD, this]
    by_cases k3 : k = 3
    · subst k3
      have hqv : q (p.vars.length + v.toNat) = true := q1 _ (by simp [occB, Nat.testBit_two_pow])
      have := h.arr v.toNat hqv
      have ha : arrAt m v = arrAt m' v := by unfold arrAt; rw [List.getD_eq_getElem?_getD, List.getD_eq_getElem?_getD, this]
      simp only [Int.reduceEq, if_false, if_true, ha]
    · simp only [k1, k2, k3, if_false]
theorem evalX_ag {p : Pg} {q : Nat → Bool} {m m' : Mm} (h : AgM q p.vars.length m m') {e : Ex} (hs : CtR.shape p 5 e = true ∨ e = .mk 0 0 []) (hq : subB (occN p.vars.length 5 e) q) : evalE m 5 e = evalE m' 5 e := by
  rcases hs with hs | rfl
  · exact evalE_ag h 5 e hs hq
  · simp [evalE]
/-- The releases of a trace. -/
def rel (l : List Ev) : List Ev := l.filter fun e => e.kind == 4
theorem rel_app (a b : List Ev) : rel (a ++ b) = rel a ++ rel b := by simp [rel]
theorem rel_nil : rel [] = [] := rfl
theorem evalE_no4 (m : Mm) : ∀ (d : Nat) (e : Ex), ∀ x ∈ (evalE m d e).2, x.kind ≠ 4
  | 0, e => by simp [evalE]
  | d + 1, .mk k v ks => by
    have hf : ∀ x ∈ (ks.map fun e => (evalE m d e).2).flatten, x.kind ≠ 4 := fun x hx => by
      obtain ⟨l, hl, hxl⟩ := List.mem_flatten.1 hx
      obtain ⟨e, _, rfl⟩ := List.mem_map.1 hl
      exact evalE_no4 m d e x hxl
    intro x hx
    simp only [evalE] at hx
    split at hx
    · cases hx
    split at hx
    · cases hx
    split at hx
    · rcases List.mem_append.1 hx with hx | hx
      · exact hf x hx
      · rw [List.mem_singleton.1 hx]; simp
    split at hx
    · exact hf x hx
    · exact hf x hx
theorem rel_eval (m : Mm) (d : Nat) (e : Ex) : rel (evalE m d e).2 = [] := by
  unfold rel
  rw [List.filter_eq_nil_iff]
  intro x hx
  simpa using evalE_no4 m d e x hx
theorem iter_ag {q : Nat → Bool} {nv : Nat} {f f' : Mm → Mm × List Ev} (hf : ∀ m m', AgM q nv m m' → AgM q nv (f m).1 (f' m').1 ∧ rel (f m).2 = rel (f' m').2) : ∀ (n : Nat) (m m' : Mm), AgM q nv m m' →
    AgM q nv (iterR f n m).1 (iterR f' n m').1 ∧ rel (iterR f n m).2 = rel (iterR f' n m').2
  | 0, m, m', h => ⟨h, rfl⟩
  | n + 1, m, m', h => by
    have h1 := iter_ag hf n m m' h
    have h2 := hf _ _ h1.1
    simp only [iterR, rel_app]
    exact ⟨h2.1, by rw [h1.2, h2.2]⟩
theorem iter_nil : ∀ (n : Nat) (m : Mm), iterR (fun m => (m, [])) n m = (m, [])
  | 0, m => rfl
  | n + 1, m => by simp [iterR, iter_nil n m]
def runO (d : Nat) (m : Mm) : Option St1 → Mm × List Ev
  | none => (m, [])
  | some s => runS d m s
theorem addS_sub {q r : Nat → Bool} {nv : Nat} {f : List St1 → List St1} {g : List St1 → Nat} : ∀ (l : List St1) (a : Nat), subB (l.foldl (addS q nv f g) a) r ↔ subB a r ∧ ∀ s ∈ l, subB (addS q nv f g 0 s) r
  | [], a => by simp
  | s :: t, a => by
    rw [List.foldl_cons, addS_sub t, addS_or, subB_or]
    simp only [List.mem_cons, forall_eq_or_imp]
    exact and_assoc
theorem len0 {l : List St1} (h : ¬ 0 < l.length) : l = [] := List.eq_nil_of_length_eq_zero (by omega)
theorem run_cut (p : Pg) (q : Nat → Bool) : ∀ (d : Nat) (l : List St1), (∀ s ∈ l, stmtOK p d s = true) → subB (setN q p.vars.length d l) q → ∀ m m', AgM q p.vars.length m m' →
    AgM q p.vars.length (foldR (runS d) m l).1 (foldR (runS d) m' (cutL q p.vars.length d l)).1 ∧ rel (foldR (runS d) m l).2 = rel (foldR (runS d) m' (cutL q p.vars.length d l)).2
  | 0, l, hok, _, m, m', h => by
    cases l with
    | nil => exact ⟨h, rfl⟩
    | cons a r => have := hok a (by simp); simp [stmtOK] at this
  | d + 1, l, hok, hq, m, m', h => by
    have hone : ∀ s, stmtOK p (d + 1) s = true → subB (addS q p.vars.length (cutL q p.vars.length d) (setN q p.vars.length d) 0 s) q → ∀ m m', AgM q p.vars.length m m' →
        AgM q p.vars.length (runS (d + 1) m s).1 (runO (d + 1) m' (cutS q p.vars.length (cutL q p.vars.length d) s)).1 ∧ rel (runS (d + 1) m s).2 = rel (runO (d + 1) m' (cutS q p.vars.length (cutL q p.vars.length d) s)).2 := fun s hs hq m m' h => by
      obtain ⟨k, t, ix, v, c, b, e⟩ := s
      have hbe := stmtOK_succ hs
      have hex := exprs_of hs
      have hk := head_kind hbe.1
      by_cases h5 : k = 5
      · subst h5
        have ec : cutS q p.vars.length (cutL q p.vars.length d) (.mk 5 t ix v c b e) = some (.mk 5 t ix v c b e) := by simp [cutS]
        simp only [addS, ec, Option.isSome_some, if_true] at hq
        have hv := evalX_ag h hex.2 (subB_or.1 (subB_or.1 hq).2).1
        rw [ec]
        simp only [runO, runS, hv, Int.reduceEq, if_false, if_true, and_true]
        exact h.setV _ _
      by_cases h1 : k = 1
      · subst h1
        cases hqt : q t.toNat with
        | true =>
          have ec : cutS q p.vars.length (cutL q p.vars.length d) (.mk 1 t ix v c b e) = some (.mk 1 t ix v c b e) := by simp [cutS, hqt]
          simp only [addS, ec, Option.isSome_some, if_true] at hq
          have hv := evalX_ag h hex.2 (subB_or.1 (subB_or.1 hq).2).1
          rw [ec]
          simp only [runO, runS, hv, Int.reduceEq, if_false, if_true, and_true]
          exact h.setV _ _
        | false =>
          have ec : cutS q p.vars.length (cutL q p.vars.length d) (.mk 1 t ix v c b e) = none := by simp [cutS, hqt]
          rw [ec]
          simp only [runO, runS, Int.reduceEq, if_false, if_true, rel_eval, rel_nil, and_true]
          exact h.setVl _ hqt
      by_cases h2 : k = 2
      · subst h2
        cases hqt : q (p.vars.length + t.toNat) with
        | true =>
          have ec : cutS q p.vars.length (cutL q p.vars.length d) (.mk 2 t ix v c b e) = some (.mk 2 t ix v c b e) := by simp [cutS, hqt]
          simp only [addS, ec, Option.isSome_some, if_true] at hq
          have hv := evalX_ag h hex.2 (subB_or.1 (subB_or.1 hq).2).1
          have hi := evalX_ag h hex.1 (subB_or.1 (subB_or.1 hq).2).2
          rw [ec]
          simp only [runO, runS, hv, hi, Int.reduceEq, if_false, if_true, and_true]
          exact h.setA _ _ hqt
        | false =>
          have ec : cutS q p.vars.length (cutL q p.vars.length d) (.mk 2 t ix v c b e) = none := by simp [cutS, hqt]
          rw [ec]
          simp only [runO, runS, Int.reduceEq, if_false, if_true, rel_app, rel_eval, rel_nil, List.nil_append]
          exact ⟨h.setAl _ _ hqt, rfl⟩
      have hkk : k = 3 ∨ k = 4 := by omega
      have hqs : subB (setN q p.vars.length d b) q ∧ subB (setN q p.vars.length d e) q := by
        simp only [addS, show ¬ (k = 5 ∨ k = 1 ∨ k = 2) by omega, if_false] at hq
        split at hq
        · exact subB_or.1 (subB_or.1 (subB_or.1 hq).1).2
        · exact subB_or.1 (subB_or.1 hq).2
      have fb := fun m m' h => run_cut p q d b hbe.2.1 hqs.1 m m' h
      have fe := fun m m' h => run_cut p q d e hbe.2.2 hqs.2 m m' h
      have ecs : cutS q p.vars.length (cutL q p.vars.length d) (.mk k t ix v c b e) = if 0 < (cutL q p.vars.length d b).length + (cutL q p.vars.length d e).length then some (.mk k t ix v c (cutL q p.vars.length d b) (cutL q p.vars.length d e)) else none := by simp [cutS, h5, h1, h2]
      by_cases hp : 0 < (cutL q p.vars.length d b).length + (cutL q p.vars.length d e).length
      · rw [if_pos hp] at ecs
        rw [ecs]
        simp only [addS, ecs, Option.isSome_some, if_true] at hq
        have hv := evalX_ag h hex.2 (subB_or.1 (subB_or.1 hq).2).1
        rcases hkk with rfl | rfl
        · simp only [runO, runS, hv, Int.reduceEq, if_false]
          by_cases hne : (evalE m' 5 v).1 ≠ 0
          · simp only [if_pos hne, rel_app]
            have := fb m m' h
            exact ⟨this.1, by rw [this.2]⟩
          · simp only [if_neg hne, rel_app]
            have := fe m m' h
            exact ⟨this.1, by rw [this.2]⟩
        · simp only [runO, runS, if_true]
          exact iter_ag fb _ m m' h
      · rw [if_neg hp] at ecs
        have hb0 := len0 (show ¬ 0 < (cutL q p.vars.length d b).length by omega)
        have he0 := len0 (show ¬ 0 < (cutL q p.vars.length d e).length by omega)
        rw [hb0] at fb
        rw [he0] at fe
        rw [ecs]
        rcases hkk with rfl | rfl
        · simp only [runO, runS, Int.reduceEq, if_false]
          by_cases hne : (evalE m 5 v).1 ≠ 0
          · simp only [if_pos hne, rel_app, rel_eval, rel_nil]
            have := fb m m' h
            simp only [foldR, rel_nil] at this
            exact ⟨this.1, by rw [this.2]; rfl⟩
          · simp only [if_neg hne, rel_app, rel_eval, rel_nil]
            have := fe m m' h
            simp only [foldR, rel_nil] at this
            exact ⟨this.1, by rw [this.2]; rfl⟩
        · simp only [runO, runS, if_true]
          have := iter_ag (f' := fun m => (m, [])) (fun m m' h => fb m m' h) c.toNat m m' h
          rw [iter_nil] at this
          exact this
    simp only [setN] at hq
    have hq2 := ((addS_sub l 0).1 hq).2
    clear hq
    induction l generalizing m m' with
    | nil => exact ⟨h, rfl⟩
    | cons s r ih =>
      have h1 := hone s (hok s (by simp)) (hq2 s (by simp)) m m' h
      simp only [cutL, List.filterMap_cons]
      have ih2 := fun m m' h => ih (fun x hx => hok x (by simp [hx])) m m' h (fun x hx => hq2 x (by simp [hx]))
      simp only [cutL] at ih2
      cases hc : cutS q p.vars.length (cutL q p.vars.length d) s with
      | none =>
        rw [hc] at h1
        simp only [runO, rel_nil] at h1
        have h2 := ih2 _ _ h1.1
        simp only [foldR, rel_app, h1.2, List.nil_append]
        exact h2
      | some s' =>
        rw [hc] at h1
        simp only [runO] at h1
        have h2 := ih2 _ _ h1.1
        simp only [foldR, rel_app, h1.2, h2.2, and_true]
        exact h2.1

/-- With fewer cells, a slice of a slice is the slice. -/
theorem cut_cut {p : Pg} {q q' : Nat → Bool} (hle : leB q' q) : ∀ (d : Nat) (l : List St1), (∀ s ∈ l, stmtOK p d s = true) →
    cutL q' p.vars.length d (cutL q p.vars.length d l) = cutL q' p.vars.length d l ∧ setN q' p.vars.length d (cutL q p.vars.length d l) = setN q' p.vars.length d l
  | 0, l, _ => ⟨rfl, rfl⟩
  | d + 1, l, hok => by
    have hone : ∀ s, stmtOK p (d + 1) s = true → (match cutS q p.vars.length (cutL q p.vars.length d) s with
        | none => cutS q' p.vars.length (cutL q' p.vars.length d) s = none ∧ addS q' p.vars.length (cutL q' p.vars.length d) (setN q' p.vars.length d) 0 s = 0
        | some s' => cutS q' p.vars.length (cutL q' p.vars.length d) s' = cutS q' p.vars.length (cutL q' p.vars.length d) s ∧ addS q' p.vars.length (cutL q' p.vars.length d) (setN q' p.vars.length d) 0 s' = addS q' p.vars.length (cutL q' p.vars.length d) (setN q' p.vars.length d) 0 s) := fun s hs => by
      obtain ⟨k, t, ix, v, c, b, e⟩ := s
      have hbe := stmtOK_succ hs
      by_cases h5 : k = 5
      · have ec : cutS q p.vars.length (cutL q p.vars.length d) (.mk k t ix v c b e) = some (.mk k t ix v c b e) := by simp [cutS, h5]
        rw [ec]; exact ⟨rfl, rfl⟩
      by_cases h1 : k = 1
      · cases hqt : q t.toNat with
        | true =>
          have ec : cutS q p.vars.length (cutL q p.vars.length d) (.mk k t ix v c b e) = some (.mk k t ix v c b e) := by simp [cutS, h1, hqt]
          rw [ec]; exact ⟨rfl, rfl⟩
        | false =>
          have hq2 : q' t.toNat = false := by
            cases hx : q' t.toNat with
            | false => rfl
            | true => rw [hle _ hx] at hqt; cases hqt
          have ec : cutS q p.vars.length (cutL q p.vars.length d) (.mk k t ix v c b e) = none := by simp [cutS, h1, hqt]
          have ec2 : cutS q' p.vars.length (cutL q' p.vars.length d) (.mk k t ix v c b e) = none := by simp [cutS, h1, hq2]
          rw [ec]
          refine ⟨ec2, ?_⟩
          simp only [addS]
          rw [ec2]
          simp [h1]
      by_cases h2 : k = 2
      · cases hqt : q (p.vars.length + t.toNat) with
        | true =>
          have ec : cutS q p.vars.length (cutL q p.vars.length d) (.mk k t ix v c b e) = some (.mk k t ix v c b e) := by simp [cutS, h2, hqt]
          rw [ec]; exact ⟨rfl, rfl⟩
        | false =>
          have hq2 : q' (p.vars.length + t.toNat) = false := by
            cases hx : q' (p.vars.length + t.toNat) with
            | false => rfl
            | true => rw [hle _ hx] at hqt; cases hqt
          have ec : cutS q p.vars.length (cutL q p.vars.length d) (.mk k t ix v c b e) = none := by simp [cutS, h2, hqt]
          have ec2 : cutS q' p.vars.length (cutL q' p.vars.length d) (.mk k t ix v c b e) = none := by simp [cutS, h2, hq2]
          rw [ec]
          refine ⟨ec2, ?_⟩
          simp only [addS]
          rw [ec2]
          simp [h2]
      have ib := cut_cut hle d b hbe.2.1
      have ie := cut_cut hle d e hbe.2.2
      have ecs : ∀ q (b e : List St1), cutS q p.vars.length (cutL q p.vars.length d) (.mk k t ix v c b e) = if 0 < (cutL q p.vars.length d b).length + (cutL q p.vars.length d e).length then some (.mk k t ix v c (cutL q p.vars.length d b) (cutL q p.vars.length d e)) else none := fun q b e => by simp [cutS, h5, h1, h2]
      have eas : ∀ (b e : List St1), addS q' p.vars.length (cutL q' p.vars.length d) (setN q' p.vars.length d) 0 (.mk k t ix v c b e) = if 0 < (cutL q' p.vars.length d b).length + (cutL q' p.vars.length d e).length then (setN q' p.vars.length d b ||| setN q' p.vars.length d e) ||| (occN p.vars.length 5 v ||| occN p.vars.length 5 ix) else setN q' p.vars.length d b ||| setN q' p.vars.length d e := fun b e => by
        simp only [addS, ecs, show ¬ (k = 5 ∨ k = 1 ∨ k = 2) by omega, if_false, Nat.zero_or]
        split <;> simp
      rw [ecs q b e]
      by_cases hp : 0 < (cutL q p.vars.length d b).length + (cutL q p.vars.length d e).length
      · rw [if_pos hp]
        simp only [ecs, eas, ib.1, ib.2, ie.1, ie.2, and_self]
      · rw [if_neg hp]
        have hb0 := len0 (show ¬ 0 < (cutL q p.vars.length d b).length by omega)
        have he0 := len0 (show ¬ 0 < (cutL q p.vars.length d e).length by omega)
        rw [hb0] at ib
        rw [he0] at ie
        have z1 : setN q' p.vars.length d [] = 0 := by cases d <;> simp [setN]
        simp only [ecs, eas, ← ib.1, ← ib.2, ← ie.1, ← ie.2, cutL_nil, z1]
        simp
    have gen : ∀ (l : List St1), (∀ s ∈ l, stmtOK p (d + 1) s = true) → ∀ a, (l.filterMap (cutS q p.vars.length (cutL q p.vars.length d))).filterMap (cutS q' p.vars.length (cutL q' p.vars.length d)) = l.filterMap (cutS q' p.vars.length (cutL q' p.vars.length d)) ∧
        (l.filterMap (cutS q p.vars.length (cutL q p.vars.length d))).foldl (addS q' p.vars.length (cutL q' p.vars.length d) (setN q' p.vars.length d)) a = l.foldl (addS q' p.vars.length (cutL q' p.vars.length d) (setN q' p.vars.length d)) a := fun l => by
      induction l with
      | nil => intro _ a; exact ⟨rfl, rfl⟩
      | cons s r ih =>
        intro hok a
        have h1 := hone s (hok s (by simp))
        have ih := ih fun x hx => hok x (by simp [hx])
        rw [List.filterMap_cons]
        cases hc : cutS q p.vars.length (cutL q p.vars.length d) s with
        | none =>
          rw [hc] at h1
          simp only at h1
          simp only [List.filterMap_cons, List.foldl_cons, h1.1]
          rw [addS_or, h1.2, Nat.or_zero]
          exact ih a
        | some s' =>
          rw [hc] at h1
          simp only at h1
          simp only [List.filterMap_cons, List.foldl_cons, h1.1]
          rw [addS_or _ _ _ _ a s', addS_or _ _ _ _ a s, h1.2]
          refine ⟨?_, (ih _).2⟩
          rw [(ih 0).1]
    simp only [cutL, setN]
    exact gen l hok 0
/-- The least closed set of a program is the least closed set of its slice. -/
theorem Least.slice {p : Pg} {ws : List Bool} {q : Nat → Bool} (hok : ∀ s ∈ p.body, stmtOK p 5 s = true) (h : Least p ws q) : Least (slP p q) ws q := by
  refine ⟨h.want, ?_, fun q' h1 h2 i hi => ?_⟩
  · have := (cut_cut (q := q) (q' := q) (fun i h => h) 5 p.body hok).2
    simp only [slP]
    rw [this]
    exact h.closed
  · have hle : leB (fun i => q' i && q i) q := fun i h => by simp only [Bool.and_eq_true] at h; exact h.2
    have hle' : leB (fun i => q' i && q i) q' := fun i h => by simp only [Bool.and_eq_true] at h; exact h.1
    have e := (cut_cut hle 5 p.body hok).2
    simp only [slP] at h2
    have m1 := (cut_mono p.vars.length hle' 5 (cutL q p.vars.length 5 p.body)).2 q' h2
    rw [e] at m1
    have m2 := (cut_mono p.vars.length hle 5 p.body).2 q h.closed
    have := h.least (fun i => q' i && q i) (fun i hw => by simp only [Bool.and_eq_true]; exact ⟨h1 i hw, h.want i hw⟩) (fun i hb => by simp only [Bool.and_eq_true]; exact ⟨m1 i hb, m2 i hb⟩) i hi
    simp only [Bool.and_eq_true] at this
    exact this.1
end Go.Proofs.Ytclgjiffpijgmaa.CtD

namespace Go.Proofs.Ytclgjiffpijgmaa.CtD
open Go Go.CT CtF CtR

theorem rel_snoc (a : List Ev) (e : Ev) : rel (a ++ [e]) = if e.kind == 4 then rel a ++ [e] else rel a := by
  rw [rel_app]; simp only [rel, List.filter_cons, List.filter_nil]; split <;> simp

theorem ctReleases (tr : List Ev) (hl : tr.length ≤ 2000000) : DC Try.prog 26 [.c (trD tr)] [] (fun r h => r = .c (trD (rel tr)) ∧ h = []) := by
  have hmx := mx_eq
  have hle : ∀ i, (rel (tr.take i)).length ≤ i := fun i => Nat.le_trans (List.length_filter_le _ _) (by simp; omega)
  generalize hR : (fun (r : D) (h : List (Option (List C))) => r = .c (trD (rel tr)) ∧ h = []) = R
  refine dcZ Try.func26 ?_
  simp (maxSteps := 9999999) only [go_sem, trD]
  iterate 2 ((try (refine drvZ Try.func26 ?_; simp (maxSteps := 9999999) only [go_sem, trD])); (try ((with_reducible refine And.intro ?_ ?_) <;> (repeat' with_reducible apply And.intro) <;> try exact sd)))
  refine Go.loopQ (fun i : Nat => [(0, .c (trD tr)), (3, .c (.msl 67 2 0 (rel (tr.take i)).length)), (4, DI .i64 i)]) (fun i => [(67, some (trC (rel (tr.take i))))])
    4096 (fun i => i ≤ tr.length) (fun i => tr.length - i) ?_ 0 (fun j => if j = 67 then some 64 else some j) [] _ (Nat.zero_le _) ?_
  · intro i hi again
    have hli := hle i
    rcases Nat.lt_or_ge i tr.length with hlt | hge
    · obtain ⟨⟨k, v⟩, hx⟩ : ∃ x, tr[i]? = some x := ⟨tr[i], by simp [hlt]⟩
      have hs : rel (tr.take (i + 1)) = if k == 4 then rel (tr.take i) ++ [⟨k, v⟩] else rel (tr.take i) := by rw [List.take_add_one, hx]; exact rel_snoc _ _
      have hel := trC_len (rel (tr.take i))
      generalize rel (tr.take i) = T at *
      by_cases hk : k = 4
      · subst hk
        simp only [beq_self_eq_true, if_true] at hs
        refine drvL Try.func26 ?_
        simp (maxSteps := 9999999) only [go_sem, trD, Ev.cells, I64, hx, hlt]
        iterate 4 ((try (refine drvZ Try.func26 ?_; simp (maxSteps := 9999999) only [go_sem, trD, Ev.cells, I64, hx, hlt, hel])); (try ((with_reducible refine And.intro ?_ ?_) <;> (repeat' with_reducible apply And.intro) <;> try exact sd)))
        refine again (i + 1) (fun j => if j = 67 then some 5120 else some j) [] _ hlt (by omega) ?_
        simp (maxSteps := 9999999) only [go_sem, TmOK, DM, DMs, CM, CMs, forall_eq, exists_eq_left, Mq, HpOK, LowOK, trD, hs, trC_snoc, List.length_append]
        simp
        exact CMs.kf (kf_app (trC_kf _) (by simp [kf]))
      · have e1 : (k == 4) = false := by simp [hk]
        simp only [e1, Bool.false_eq_true, if_false] at hs
        refine drvL Try.func26 ?_
        simp (maxSteps := 9999999) only [go_sem, trD, Ev.cells, I64, hx, hlt, e1, hk]
        iterate 4 ((try (refine drvZ Try.func26 ?_; simp (maxSteps := 9999999) only [go_sem, trD, Ev.cells, I64, hx, hlt, hel, e1, hk])); (try ((with_reducible refine And.intro ?_ ?_) <;> (repeat' with_reducible apply And.intro) <;> try exact sd)))
        refine again (i + 1) some [] _ hlt (by omega) ?_
        simp (maxSteps := 9999999) only [go_sem, TmOK, DM, DMs, CM, CMs, forall_eq, exists_eq_left, Mq, HpOK, LowOK, trD, hs]
        simp
        exact CMs.kf (trC_kf _)
    · have hn : ¬ i < tr.length := by omega
      obtain rfl : i = tr.length := by omega
      refine drvL Try.func26 ?_
      simp (maxSteps := 9999999) only [go_sem, trD, hn, List.take_length]
      iterate 2 ((try (refine drvZ Try.func26 ?_; simp (maxSteps := 9999999) only [go_sem, trD, hn, List.take_length])); (try ((with_reducible refine And.intro ?_ ?_) <;> (repeat' with_reducible apply And.intro) <;> try exact sd)))
      refine RetOb.ofQ (fun j => none) [67] (.c (trD (rel tr))) [] ?_ (by rw [← hR]; exact ⟨rfl, rfl⟩) (by simp)
      simp [enumL, hOf, DM, DMs, CM, CMs, HpOK, LowOK, upd, trD, trC, kf, Ev.cells]
  · simp (maxSteps := 9999999) only [go_sem, TmOK, DM, DMs, CM, CMs, forall_eq, exists_eq_left, Mq, HpOK, LowOK, trD]
    simp [trC, rel, CMs]
end Go.Proofs.Ytclgjiffpijgmaa.CtD

namespace Go.Proofs.Ytclgjiffpijgmaa.CtR
open Go Go.CT CtF

def cntB (x : Nat) : List C := [I64 x]
theorem count1 (x : Nat) (hx : x < 1000) (s : St1) (c : Nat) : DC Try.prog 89 [.agg s.cells, DI .i64 c, .c (.ptr 0 0)] [some (cntB x)] (fun r h => r = .tup [] ∧ h = [some (cntB (x + 1))]) := by
  generalize hR : (fun (r : D) (h : List (Option (List C))) => r = .tup [] ∧ h = [some (cntB (x + 1))]) = R
  obtain ⟨k, t, ⟨ik, iv, iks⟩, ⟨vk, vv, vks⟩, cc, b, e⟩ := s
  simp only [cntB] at hR ⊢
  refine dcZ Try.func89 ?_
  simp (maxSteps := 9999999) only [go_sem]
  iterate 2 ((try (refine drvZ Try.func89 ?_; simp (maxSteps := 9999999) only [go_sem])); (try ((with_reducible refine And.intro ?_ ?_) <;> (repeat' with_reducible apply And.intro) <;> try exact sd)))
  refine RetOb.ofQ some [] (.tup []) [some [I64 ((x : Int) + 1)]] ?_ (by rw [← hR]; exact ⟨rfl, rfl⟩) (by simp)
  simp [enumL, DMs, DM, HpOK, LowOK, hOf, upd, CM, CMs, hpL]
theorem eachF_cnt (vs ar : List Int) : ∀ (d c x : Nat) (l : List St1), eachF vs ar (fun x _ _ => x + 1) d c x l = x + lsize d l
  | 0, c, x, l => by rw [lsize_zero]; rfl
  | d + 1, c, x, l => by
    have key : ∀ (l : List St1) (x : Nat), l.foldl (fun x s => eachF vs ar (fun x _ _ => x + 1) d (ctxI vs ar s c) (eachF vs ar (fun x _ _ => x + 1) d (ctxI vs ar s c) (x + 1) s.body) s.els) x = x + lsize (d + 1) l := by
      intro l
      induction l with
      | nil => intro x; rfl
      | cons a r ih =>
        intro x
        rw [List.foldl_cons, ih, eachF_cnt vs ar d, eachF_cnt vs ar d]
        have := tsize_subs d a
        simp only [subs] at this
        simp only [lsize, List.map_cons, List.sum_cons] at this ⊢
        omega
    exact key l x
def cntP (p : Pg) : Nat := if progOK p then lsize 5 p.body else 0

theorem countStmts (p : Pg) (hl : p.vars.length ≤ mx) (hl2 : p.arrays.length ≤ mx) : DC Try.prog 42 [.agg p.cells] [] (fun r h => r = DI .i64 (cntP p) ∧ h = []) := by
  have hmx := mx_eq
  have hv := programValidI p hl hl2
  generalize hR : (fun (r : D) (h : List (Option (List C))) => r = DI .i64 (cntP p) ∧ h = []) = R
  cases hq : progOK p with
  | false =>
    rw [hq] at hv
    have hw : cntP p = 0 := by unfold cntP; rw [hq]; rfl
    obtain ⟨vs, ar, bd⟩ := p
    refine dcZ Try.func42 ?_
    simp (maxSteps := 9999999) only [go_sem]
    ((try (refine drvZ Try.func42 ?_; simp (maxSteps := 9999999) only [go_sem])); (try ((with_reducible refine And.intro ?_ ?_) <;> (repeat' with_reducible apply And.intro) <;> try exact sd)))
    refine XK.plain hv ok44 ?_ (hbT ())
    iterate 3 ((try (refine drvZ Try.func42 ?_; simp (maxSteps := 9999999) only [go_sem])); (try ((with_reducible refine And.intro ?_ ?_) <;> (repeat' with_reducible apply And.intro) <;> try exact sd)))
    refine RetOb.ofQ (fun _ => none) [] (DI .i64 0) [] ?_ (by rw [← hR, hw]; exact ⟨rfl, rfl⟩) (by simp)
    simp [enumL, DM, DMs, CM, HpOK, LowOK]
  | true =>
    rw [hq] at hv
    have hlab := labs_of hq
    have hbo := body_of hq
    have hea := (each1 p hl hl2 hlab.1 hlab.2 89 ok89 cntB (fun x r h => by simp [cntB, renCs, renC]) (fun x hT hS fz h => by simp [cntB, CMs, CM]) (fun x _ _ => x + 1)
      (fun q x => x = q) (fun d x s c q hq hx _ _ => ⟨by omega, count1 x (by omega) s c⟩) 5 p.body 0 0 0 rfl (by decide) hbo.1 (by have := hbo.2; omega)).2
    rw [eachF_cnt, Nat.zero_add] at hea
    have hw : cntP p = lsize 5 p.body := by unfold cntP; rw [hq]; rfl
    rw [← hw] at hea
    generalize cntP p = w at *
    obtain ⟨vs, ar, bd⟩ := p
    simp only [cntB] at hea
    refine dcZ Try.func42 ?_
    simp (maxSteps := 9999999) only [go_sem]
    ((try (refine drvZ Try.func42 ?_; simp (maxSteps := 9999999) only [go_sem])); (try ((with_reducible refine And.intro ?_ ?_) <;> (repeat' with_reducible apply And.intro) <;> try exact sd)))
    refine XK.plain hv ok44 ?_ (hbT ())
    iterate 4 ((try (refine drvZ Try.func42 ?_; simp (maxSteps := 9999999) only [go_sem])); (try ((with_reducible refine And.intro ?_ ?_) <;> (repeat' with_reducible apply And.intro) <;> try exact sd)))
    refine XK.callG [320] hea ok52 (hhp_one (by simp [upd, renCs, renC])) (hbT ()) (fun d h' ⟨_, e⟩ => by subst e; simp) ?_
    rintro _ _ ⟨rfl, rfl⟩ _
    iterate 4 ((try (refine drvZ Try.func42 ?_; simp (maxSteps := 9999999) only [go_sem])); (try ((with_reducible refine And.intro ?_ ?_) <;> (repeat' with_reducible apply And.intro) <;> try exact sd)))
    exact RetOb.plain (d := DI .i64 _) (by rw [← hR]; exact ⟨rfl, rfl⟩) rfl
end Go.Proofs.Ytclgjiffpijgmaa.CtR

namespace Go.Proofs.Ytclgjiffpijgmaa.CtD
open Go Go.CT CtF CtR

/-- A slice's run: the same on the set's cells, with the same releases. -/
theorem slice_same {p : Pg} {q : Nat → Bool} (hok : progOK p = true) (hc : subB (setN q p.vars.length 5 p.body) q) (m : Mm) :
    (runP (slP p q) m).2.2 = (runP p m).2.2 ∧ ((runP p m).2.2 = true → (AgM q p.vars.length (runP p m).1 (runP (slP p q) m).1 ∧ rel (runP p m).2.1 = rel (runP (slP p q) m).2.1) ∧ MemFits p (runP p m).1) := by
  have h2 := slP_ok q hok
  cases hm : memOK p.vars p.arrays m with
  | false =>
    have e1 : (progOK p && memOK p.vars p.arrays m) = false := by rw [hm]; simp
    have e2 : (progOK (slP p q) && memOK (slP p q).vars (slP p q).arrays m) = false := by
      rw [show memOK (slP p q).vars (slP p q).arrays m = memOK p.vars p.arrays m from rfl, hm]; simp
    rw [runP_false e1, runP_false e2]
    exact ⟨rfl, fun h => by cases h⟩
  | true =>
    rw [runP_of hok hm, runP_of h2 (show memOK (slP p q).vars (slP p q).arrays m = true from hm)]
    have hr := run_cut p q 5 p.body (body_of hok).1 hc m m (AgM.refl _ _ _)
    have ho := memFits_of (p := p) (by rw [hok, runP_out hok hm]; rfl)
    exact ⟨rfl, fun _ => ⟨hr, ho⟩⟩
theorem cnt_le {p : Pg} (q : Nat → Bool) (hok : progOK p = true) : cntP (slP p q) ≤ cntP p := by
  unfold cntP
  rw [slP_ok q hok, hok]
  exact (cut_ok (nv := p.vars.length) (q := q) 5 p.body (body_of hok).1).2 5

theorem lawSP (bs : List Int) (hb : Fits .u8 bs) (hl : bs.length ≤ mx) : DC Try.prog 12 [bytesD bs] [] (fun d h => d = DB true ∧ h = []) := by
  have hmx := mx_eq
  have hds := drawSliceProgram bs hb hl
  have hdm := drawRunProgram bs hb hl
  unfold bytesD
  unfold bytesD at hdm hds
  have ret : ∀ hp : Hp, RetOb 0 (fun d h => d = DB true ∧ h = []) (DB true) hp := fun hp => RetOb.plain (d := DB true) ⟨rfl, rfl⟩ rfl
  have hps0 := programSame ⟨[], [], []⟩ (by simp) (by simp) (by simp) (by simp)
  generalize hRR : (fun (d : D) (h : List (Option (List C))) => d = DB true ∧ h = []) = R at ret ⊢
  by_cases hbig : 1048576 < bs.length
  · have hz : ((1048576 : Int) < (bs.length : Int)) = True := eq_true (by omega)
    refine dcZ Try.func12 ?_
    simp (maxSteps := 9999999) only [go_sem, hz]
    iterate 2 ((try (refine drvZ Try.func12 ?_; simp (maxSteps := 9999999) only [go_sem, hz])); (try ((with_reducible refine And.intro ?_ ?_) <;> (repeat' with_reducible apply And.intro) <;> try exact sd)))
    exact ret _
  have hz : ((1048576 : Int) < (bs.length : Int)) = False := eq_false (by omega)
  refine dcZ Try.func12 ?_
  simp (maxSteps := 9999999) only [go_sem, hz]
  iterate 2 ((try (refine drvZ Try.func12 ?_; simp (maxSteps := 9999999) only [go_sem, hz])); (try ((with_reducible refine And.intro ?_ ?_) <;> (repeat' with_reducible apply And.intro) <;> try exact sd)))
  refine XK.callG [] hds ok32 (fun i' x h => by simp at h) (hbT ()) (fun d h' ⟨_, _, _, _, _, e⟩ => by subst e; simp) ?_
  rintro _ _ ⟨p, ws, rfl, hp, hw, rfl⟩ _
  have hv1 : p.vars.length ≤ 13 := hp.nv
  have ha1 : p.arrays.length ≤ 2 := hp.na
  have hI := sliceProgI p ws (by omega) (by omega) (by omega)
  have hS := sliceProgS p ws (by omega) (by omega) (by have := hp.sz 5; omega) (by omega)
  have hrI := fun m => runProgI p m (by omega) (by omega)
  have hcs := countStmts p (by omega) (by omega)
  cases hq : (progOK p && decide (ws.length = p.vars.length + p.arrays.length)) with
  | false =>
    have cv : ∀ F, DC Try.prog F [.agg p.cells, .c (boolsD ws)] [] (sliR p ws) → DC Try.prog F [.agg p.cells, .c (boolsD ws)] [] (fun r h => r = .tup [.agg (Pg.cells ⟨[], [], []⟩), DB false] ∧ h = []) := fun F h0 => dcMono h0 fun r h ⟨h1, h2⟩ => by
      rcases h2 with ⟨hc, _⟩ | ⟨_, e⟩
      · rw [hq] at hc; cases hc
      · exact ⟨e, h1⟩
    have hI := cv _ hI
    have hS := cv _ hS
    clear cv
    obtain ⟨vs, ar, bd⟩ := p
    iterate 3 ((try (refine drvZ Try.func12 ?_; simp (maxSteps := 9999999) only [go_sem, boolsD])); (try ((with_reducible refine And.intro ?_ ?_) <;> (repeat' with_reducible apply And.intro) <;> try exact sd)))
    refine XK.callG [] hdm ok28 (fun i' x h => by simp at h) (hbT ()) (fun d h' ⟨_, _, _, _, _, e⟩ => by subst e; simp) ?_
    rintro _ _ ⟨⟨vs2, ar2, bd2⟩, ⟨va, arr⟩, rfl, hp2, hm2, rfl⟩ _
    iterate 3 ((try (refine drvZ Try.func12 ?_; simp (maxSteps := 9999999) only [go_sem, boolsD, Mm.cells])); (try ((with_reducible refine And.intro ?_ ?_) <;> (repeat' with_reducible apply And.intro) <;> try exact sd)))
    refine XK.callG [] hI ok33 (fun i' x h => by simp at h) (hbT ()) (fun d h' ⟨_, e⟩ => by subst e; simp) ?_
    rintro _ _ ⟨rfl, rfl⟩ _
    iterate 3 ((try (refine drvZ Try.func12 ?_; simp (maxSteps := 9999999) only [go_sem, boolsD, Mm.cells])); (try ((with_reducible refine And.intro ?_ ?_) <;> (repeat' with_reducible apply And.intro) <;> try exact sd)))
    refine XK.callG [] hS ok34 (fun i' x h => by simp at h) (hbT ()) (fun d h' ⟨_, e⟩ => by subst e; simp) ?_
    rintro _ _ ⟨rfl, rfl⟩ _
    iterate 3 ((try (refine drvZ Try.func12 ?_; simp (maxSteps := 9999999) only [go_sem, boolsD, Mm.cells])); (try ((with_reducible refine And.intro ?_ ?_) <;> (repeat' with_reducible apply And.intro) <;> try exact sd)))
    refine XK.gplain 3 false true (fun _ => hps0) ok35 ?_ (hbT ())
    iterate 4 ((try (refine drvZ Try.func12 ?_; simp (maxSteps := 9999999) only [go_sem, boolsD, Mm.cells])); (try ((with_reducible refine And.intro ?_ ?_) <;> (repeat' with_reducible apply And.intro) <;> try exact sd)))
    refine XK.gplain 3 true true (fun _ => hps0) ok35 ?_ (hbT ())
    iterate 3 ((try (refine drvZ Try.func12 ?_; simp (maxSteps := 9999999) only [go_sem, boolsD, Mm.cells])); (try ((with_reducible refine And.intro ?_ ?_) <;> (repeat' with_reducible apply And.intro) <;> try exact sd)))
    exact ret _
  | true =>
    have hq2 : progOK p = true ∧ ws.length = p.vars.length + p.arrays.length := by simpa using hq
    obtain ⟨hok, hwl⟩ := hq2
    have cv : ∀ F, DC Try.prog F [.agg p.cells, .c (boolsD ws)] [] (sliR p ws) → DC Try.prog F [.agg p.cells, .c (boolsD ws)] [] (fun r h => (∃ q, Least p ws q ∧ r = .tup [.agg (Pg.cells (slP p q)), DB true]) ∧ h = []) := fun F h0 => dcMono h0 fun r h ⟨h1, h2⟩ => by
      rcases h2 with ⟨_, q, hl, e⟩ | ⟨hc, _⟩
      · exact ⟨⟨q, hl, e⟩, h1⟩
      · rw [hq] at hc; cases hc
    have hI := cv _ hI
    have hS := cv _ hS
    clear cv
    have hslok := fun q => slP_ok (p := p) q hok
    have hps := fun q => programSame (slP p q) (show p.vars.length ≤ mx by omega) (show p.arrays.length ≤ mx by omega) (by have h1 := (body_of (hslok q)).2; have h2 : lsize 5 (slP p q).body = _ := lsize_subs 4 (slP p q).body; omega) (sameBody (hslok q))
    have hsame := fun q h m => slice_same (p := p) (q := q) hok h m
    have hrS := fun q m => runProgI (slP p q) m (show p.vars.length ≤ mx by omega) (show p.arrays.length ≤ mx by omega)
    have hsm := fun m => runP_sm p m
    have hsm2 := fun q m => runP_sm (slP p q) m
    have hclo := fun q => @Least.closed p ws q
    have hwan := fun q => @Least.want p ws q
    have heq := fun q q' => @Least.eq p ws q q'
    have hcs2 := fun q => countStmts (slP p q) (show p.vars.length ≤ mx by omega) (show p.arrays.length ≤ mx by omega)
    have hcle := fun q => cnt_le (p := p) q hok
    have hv := hv1
    have ha := ha1
    clear hslok hq
    generalize hLw : Least p ws = Lw at *
    generalize hCp : cntP p = cp at *
    obtain ⟨vs, ar, bd⟩ := p
    have hslv : ∀ q, slP ⟨vs, ar, bd⟩ q = ⟨vs, ar, cutL q vs.length 5 bd⟩ := fun _ => rfl
    simp only [hslv] at *
    have hmx := mx_eq
    iterate 3 ((try (refine drvZ Try.func12 ?_; simp (maxSteps := 9999999) only [go_sem, boolsD])); (try ((with_reducible refine And.intro ?_ ?_) <;> (repeat' with_reducible apply And.intro) <;> try exact sd)))
    refine XK.callG [] hdm ok28 (fun i' x h => by simp at h) (hbT ()) (fun d h' ⟨_, _, _, _, _, e⟩ => by subst e; simp) ?_
    rintro _ _ ⟨⟨vs2, ar2, bd2⟩, m, rfl, hp2, hm2, rfl⟩ _
    have hrI := hrI m
    have hsm := hsm m
    have hsame := fun q h => hsame q h m
    have hrS := fun q => hrS q m
    have hsm2 := fun q => hsm2 q m
    obtain ⟨va, arr⟩ := m
    iterate 3 ((try (refine drvZ Try.func12 ?_; simp (maxSteps := 9999999) only [go_sem, boolsD, Mm.cells])); (try ((with_reducible refine And.intro ?_ ?_) <;> (repeat' with_reducible apply And.intro) <;> try exact sd)))
    refine XK.callG [] hI ok33 (fun i' x h => by simp at h) (hbT ()) (fun d h' ⟨_, e⟩ => by subst e; simp) ?_
    rintro _ _ ⟨⟨q, hLq, rfl⟩, rfl⟩ _
    iterate 3 ((try (refine drvZ Try.func12 ?_; simp (maxSteps := 9999999) only [go_sem, boolsD, Mm.cells])); (try ((with_reducible refine And.intro ?_ ?_) <;> (repeat' with_reducible apply And.intro) <;> try exact sd)))
    refine XK.callG [] hS ok34 (fun i' x h => by simp at h) (hbT ()) (fun d h' ⟨_, e⟩ => by subst e; simp) ?_
    rintro _ _ ⟨⟨q', hLq', rfl⟩, rfl⟩ _
    obtain rfl := heq _ _ hLq hLq'
    have hps := hps q
    have hrS := hrS q
    have hsm2 := hsm2 q
    have hcs2 := hcs2 q
    have hcle := hcle q
    have hsame := hsame q (hclo q hLq)
    have hwan := hwan q hLq
    generalize cutL q vs.length 5 bd = cb at *
    generalize cntP ⟨vs, ar, cb⟩ = cc at *
    generalize runP ⟨vs, ar, bd⟩ ⟨va, arr⟩ = r1 at *
    generalize runP ⟨vs, ar, cb⟩ ⟨va, arr⟩ = r2 at *
    obtain ⟨⟨vx, ax⟩, t1, o1⟩ := r1
    obtain ⟨⟨vy, ay⟩, t2, o2⟩ := r2
    simp only at hsame hsm hsm2
    obtain ⟨rfl, hsame⟩ := hsame
    iterate 3 ((try (refine drvZ Try.func12 ?_; simp (maxSteps := 9999999) only [go_sem, boolsD, Mm.cells])); (try ((with_reducible refine And.intro ?_ ?_) <;> (repeat' with_reducible apply And.intro) <;> try exact sd)))
    refine XK.gplain 3 false true (fun _ => hps) ok35 ?_ (hbT ())
    iterate 4 ((try (refine drvZ Try.func12 ?_; simp (maxSteps := 9999999) only [go_sem, boolsD, Mm.cells, bne_self_eq_false, Bool.not_false])); (try ((with_reducible refine And.intro ?_ ?_) <;> (repeat' with_reducible apply And.intro) <;> try exact sd)))
    refine XK.callG [] hrI ok22 (fun i' x h => by simp at h) (hbT ()) (fun d h' ⟨_, e⟩ => by subst e; simp) ?_
    rintro _ _ ⟨rfl, rfl⟩ _
    iterate 3 ((try (refine drvZ Try.func12 ?_; simp (maxSteps := 9999999) only [go_sem, Mm.cells, trD])); (try ((with_reducible refine And.intro ?_ ?_) <;> (repeat' with_reducible apply And.intro) <;> try exact sd)))
    refine XK.callG [] hrS ok22 (fun i' x h => by simp at h) (hbT ()) (fun d h' ⟨_, e⟩ => by subst e; simp) ?_
    rintro _ _ ⟨rfl, rfl⟩ _
    cases o2 with
    | false =>
      iterate 4 ((try (refine drvZ Try.func12 ?_; simp (maxSteps := 9999999) only [go_sem, Mm.cells, trD])); (try ((with_reducible refine And.intro ?_ ?_) <;> (repeat' with_reducible apply And.intro) <;> try exact sd)))
      exact ret _
    | true =>
      obtain ⟨⟨hag, hrel⟩, hfit⟩ := hsame rfl
      have n1 : vx.length = vs.length := hfit.nv
      have n2 : vy.length = vs.length := hag.lv.symm.trans n1
      have n3 : ax.length = ar.length := hfit.na
      have n4 : ay.length = ar.length := hag.la.symm.trans n3
      have n5 : ∀ a ∈ ax, a.length = 4 := fun a h => (hfit.arr a h).1
      have hv5 := hag.val
      have ha5 := hag.arr
      simp only at hv5 ha5
      have hr1 := ctReleases t1 (by omega)
      have hr2 := ctReleases t2 (by omega)
      rw [← hrel] at hr2
      have hts := traceSame (rel t1) (rel t1) (by have := List.length_filter_le (fun e => e.kind == 4) t1; unfold rel; omega)
      rw [trSame_refl] at hts
      generalize rel t1 = rt at *
      clear hdm hds hI hS hrI hrS hps hps0 hsame hag hfit
      iterate 4 ((try (refine drvZ Try.func12 ?_; simp (maxSteps := 9999999) only [go_sem, Mm.cells, trD])); (try ((with_reducible refine And.intro ?_ ?_) <;> (repeat' with_reducible apply And.intro) <;> try exact sd)))
      refine Go.loopQ (fun i : Nat => [(3, .c (.ptr 576 0)), (4, .c (boolsD ws)), (7, .c (.ptr 1728 0)), (11, .c (.ptr 3776 0)), (12, .c (trD t1)), (14, .c (.ptr 4480 0)), (15, .c (trD t2)), (17, DI .i64 i)])
        (fun _ => [(576, some (Pg.cells ⟨vs, ar, bd⟩)), (1728, some (Pg.cells ⟨vs, ar, cb⟩)), (3776, some (Mm.cells ⟨vx, ax⟩)), (4480, some (Mm.cells ⟨vy, ay⟩))]) 8192 (fun i => i ≤ ws.length) (fun i => ws.length - i) ?_ 0 some [] _ (Nat.zero_le _) ?_
      · intro i hi again
        rcases Nat.lt_or_ge i ws.length with hlt | hge
        · obtain ⟨b, hbx⟩ : ∃ b, ws[i]? = some b := ⟨ws[i], by simp [hlt]⟩
          have hqi := fun h => hwan i h
          have hgd : ws.getD i false = b := by rw [List.getD_eq_getElem?_getD, hbx]; rfl
          cases b with
          | false =>
            refine drvL Try.func12 ?_
            simp (maxSteps := 9999999) only [go_sem, Mm.cells, boolsD, BC, hbx, hlt]
            iterate 4 ((try (refine drvZ Try.func12 ?_; simp (maxSteps := 9999999) only [go_sem, Mm.cells, boolsD, BC, hbx, hlt])); (try ((with_reducible refine And.intro ?_ ?_) <;> (repeat' with_reducible apply And.intro) <;> try exact sd)))
            refine again (i + 1) some [] _ hlt (by omega) ?_
            simp (maxSteps := 9999999) only [go_sem, TmOK, DM, DMs, CM, CMs, forall_eq, exists_eq_left, Mq, HpOK, LowOK, Mm.cells, boolsD, BC, trD]
            try simp
          | true =>
            have hqi := hqi hgd
            rcases Nat.lt_or_ge i vs.length with hv | hv
            · obtain ⟨u, hu⟩ : ∃ u, vx[i]? = some u := ⟨vx[i]'(by omega), by simp⟩
              have hu2 : vy[i]? = some u := by rw [← hv5 i hv hqi]; exact hu
              have e0 : ((i : Int) - (vs.length : Int)).toNat = 0 := by omega
              have hz : ((vs.length : Int) ≤ (i : Int)) = False := eq_false (by omega)
              rcases hax : ax[0]? with _ | w1 <;> rcases hay : ay[0]? with _ | w2
              all_goals
                refine drvL Try.func12 ?_
                simp (maxSteps := 9999999) only [go_sem, Mm.cells, boolsD, BC, hbx, hlt]
                iterate 9 ((try (refine drvZ Try.func12 ?_; simp (maxSteps := 9999999) only [go_sem, Mm.cells, boolsD, BC, hbx, hlt, hv, hu, hu2, e0, hax, hay, hz, bne_self_eq_false])); (try ((with_reducible refine And.intro ?_ ?_) <;> (repeat' with_reducible apply And.intro) <;> try exact sd)); (try first | refine XK.gs (DB true) ?_))
                refine again (i + 1) some [] _ hlt (by omega) ?_
                simp (maxSteps := 9999999) only [go_sem, TmOK, DM, DMs, CM, CMs, forall_eq, exists_eq_left, Mq, HpOK, LowOK, Mm.cells, boolsD, BC, trD]
                try simp
            · have hn : ¬ i < vs.length := by omega
              have hja : i - vs.length < ax.length := by omega
              obtain ⟨u, hu⟩ : ∃ u, ax[i - vs.length]? = some u := ⟨ax[i - vs.length], by simp [hja]⟩
              have hu2 : ay[i - vs.length]? = some u := by rw [← ha5 (i - vs.length) (by rw [show vs.length + (i - vs.length) = i from by omega]; exact hqi)]; exact hu
              have hu4 := n5 u (List.mem_of_getElem? hu)
              have hct := ctInts u u (by omega)
              simp only [decide_true] at hct
              have e0 : ((i : Int) - (vs.length : Int)).toNat = i - vs.length := by omega
              have hz : ((vs.length : Int) ≤ (i : Int)) = True := eq_true (by omega)
              have m1 : vx[i]? = none := List.getElem?_eq_none (by omega)
              have m2 : vy[i]? = none := List.getElem?_eq_none (by omega)
              have tb3 : tbool Try.prog 3 = false := by kernel_rfl
              refine drvL Try.func12 ?_
              simp (maxSteps := 9999999) only [go_sem, Mm.cells, boolsD, BC, hbx, hlt]
              iterate 9 ((try (refine drvZ Try.func12 ?_; simp (maxSteps := 9999999) only [go_sem, Mm.cells, boolsD, BC, hbx, hlt, hn, hu, hu2, e0, hz, m1, m2, tb3, bne_self_eq_false])); (try ((with_reducible refine And.intro ?_ ?_) <;> (repeat' with_reducible apply And.intro) <;> try exact sd)); (try first | refine XK.p hct ok27 ?_ | refine XK.gp hct ok27 ?_))
              refine again (i + 1) some [] _ hlt (by omega) ?_
              simp (maxSteps := 9999999) only [go_sem, TmOK, DM, DMs, CM, CMs, forall_eq, exists_eq_left, Mq, HpOK, LowOK, Mm.cells, boolsD, BC, trD]
              try simp
        · have hn : ¬ i < ws.length := by omega
          have hc2 : ((cc : Int) ≤ (cp : Int)) = True := eq_true (by omega)
          refine drvL Try.func12 ?_
          simp (maxSteps := 9999999) only [go_sem, Mm.cells, boolsD, BC, hn, trD]
          iterate 6 ((try (refine drvZ Try.func12 ?_; simp (maxSteps := 9999999) only [go_sem, Mm.cells, boolsD, BC, hn, trD])); (try ((with_reducible refine And.intro ?_ ?_) <;> (repeat' with_reducible apply And.intro) <;> try exact sd)); (try first | refine XK.p hr1 ok26 ?_ | refine XK.gp hr1 ok26 ?_ | refine XK.p hr2 ok26 ?_ | refine XK.gp hr2 ok26 ?_ | refine XK.p hts ok23 ?_ | refine XK.gp hts ok23 ?_ | refine XK.p hcs2 ok42 ?_ | refine XK.gp hcs2 ok42 ?_ | refine XK.p hcs ok42 ?_ | refine XK.gp hcs ok42 ?_))
          iterate 2 ((try (refine drvZ Try.func12 ?_; simp (maxSteps := 9999999) only [go_sem, Mm.cells, boolsD, BC, hn, trD, hc2])); (try ((with_reducible refine And.intro ?_ ?_) <;> (repeat' with_reducible apply And.intro) <;> try exact sd)))
          exact ret _
      · simp (maxSteps := 9999999) only [go_sem, TmOK, DM, DMs, CM, CMs, forall_eq, exists_eq_left, Mq, HpOK, LowOK, Mm.cells, boolsD, BC, trD]
        try simp
end Go.Proofs.Ytclgjiffpijgmaa.CtD

namespace Go.Proofs.Ytclgjiffpijgmaa.fnSliceProgram
open Go.ChangeShapes Go.WideShapes Go.ChangeAt Go.RowKit
open Go.ChangeMaps (open_string shut_string)

theorem own : ownKnob Try.prog.godebug = none := by kernel_rfl
theorem laidOut : laidOutB Try.prog = true := by kernel_rfl
theorem bytes5 : Try.prog.bytesOf 5 = 1 := by kernel_rfl

theorem lifted (os : Os) (started : os.Started) (H : Type) (enc : TypeId × Value → H) :
    ReturnsInHanded {} Try.checked os 12 .any (Rows.fnSliceProgramSpec.pre6 enc Try.prog Try.f12 Rows.fnSliceProgramRow.domain false) (Rows.fnSliceProgramSpec.post enc Try.prog Try.f12 false true false false) := by
  refine returnsInHanded_of_change_sized (C := Try.checked) own started (by kernel_rfl) Try.func12
    (ChangeSpec.witness6 (enc := enc) (C := Try.checked) false ⟨#[], #[.slice none 0 0], []⟩ 8 (by kernel_rfl) (by kernel_rfl) (by kernel_rfl) (by kernel_rfl)) ?_
  intro W base args ds gs before hval0 hW hcnd hsz0 _
  have hval : ∀ (j : Nat) t v, Try.f12.params[j]? = some t → args[j]? = some v → Value.okWide Try.prog W .any base t v := hval0
  have hsz : (DataW.weightsEach Try.prog (Try.f12.params.toList ++ Rows.fnSliceProgramSpec.plain.varTypes Try.prog) (ds ++ gs)).all (· ≤ reachBytes) = true := hsz0
  have hW' := hW
  obtain ⟨p, q, hA0, hV, rfl, hfz, hnd⟩ := hW
  have hA : DataW.TrodAll enc Try.prog W 0 (fun _ => true) true Try.f12.params.toList args.toList ds p := hA0
  rw [Try.params12] at hA hval hsz
  obtain ⟨v0, vs0, d0, ds0, p0, q0, hargs, rfl, rfl, h0, r0⟩ := trodAll_cons hA
  obtain ⟨rfl, rfl, rfl⟩ := trodAll_nil r0
  obtain rfl : args = #[v0] := by cases args; simp_all
  obtain ⟨rfl, rfl⟩ := trodVars_none hV
  obtain ⟨a0, len0, cap0, rfl⟩ := okWide_slice Try.underlying22 (hval 0 22 v0 rfl rfl)
  have k0 := h0
  have lt0 : ∀ x ∈ p0, x.block < W.heap.size := by obtain ⟨m, hm⟩ := k0; exact DataW.trod_lt m _ _ _ hm
  obtain ⟨z0, w0, m0⟩ : ∃ zs, Go.CT.IsRow .u8 W a0 len0 cap0 zs ∧ len0 ≤ Go.CT.mx := by
    obtain ⟨fuel, hf⟩ := h0
    rcases open_ints Try.underlying22 Try.underlying5 (by kernel_rfl) hf with ⟨hcs, _⟩ | ⟨x, l, c, zs, hcs, _, hl, hm, hz, hx, hcell, hwz⟩
    · simp [Value.cells] at hcs
      obtain ⟨rfl, rfl, rfl⟩ := hcs
      exact ⟨[], .inl ⟨rfl, rfl, rfl, rfl⟩, Nat.zero_le _⟩
    · simp [Value.cells] at hcs
      obtain ⟨rfl, rfl, rfl⟩ := hcs
      simp only [Prod.mk.injEq] at hx
      obtain ⟨rfl, rfl⟩ := hx
      have hz' : zs.length = cap0 := by simpa using hz
      have := sized_slice hsz (j := 0) (t := 22) (e := 5) rfl rfl Try.underlying22
      rw [bytes5] at this
      simp only [lits, List.length_map, List.length_take, List.length_drop, reachBytes] at this
      have hmx := Go.CT.mx_eq
      exact ⟨zs, .inr ⟨_, rfl, hl, hz', hcell, hwz⟩, by omega⟩
  clear hA0 hval0 hsz0
  have hr0 := fun s => w0.rd (s := s) m0
  refine (Go.CT.DC.below (CtD.lawSP (z0.take len0) (hr0 fun _ => none).2.1 (by rw [(hr0 fun _ => none).2.2]; exact m0)) fun s => .one (hr0 s).1).mono fun e W' ⟨he, bel⟩ => ?_
  subst he
  exact ⟨_, rfl, _, _, _, [], _, [], hW', trodAll_mk1 (shut_bool Try.underlying4 _), (trodAll_cons_mk (Below.trod laidOut (by kernel_rfl) (of_decide_eq_true (by kernel_rfl)) k0 bel lt0) trodAll_mk0), rfl, bel.frame _, fun h => by cases h⟩

theorem over : Rows.fnSliceProgramRow.holds Try.pinned (OpenSpec.ofChange Rows.fnSliceProgramSpec) :=
  OpenClaim.holds_of_wide 12 Try.f12 rfl rfl rfl rfl rfl rfl rfl ⟨rfl, rfl, rfl, rfl, rfl⟩ rfl rfl rfl rfl rfl (by kernel_rfl) Try.func12 (by kernel_rfl)
    (of_decide_eq_true (by kernel_rfl)) (by unfold Func.isWrapper; first | (rw [if_pos (by decide +kernel)]; kernel_rfl) | (rw [if_neg (by decide +kernel)]; exact ⟨rfl, rfl⟩))
    (fun os started H enc _ => lifted os started H enc)

theorem proved : Rows.FnSliceProgramSaid := over
#print axioms proved
end Go.Proofs.Ytclgjiffpijgmaa.fnSliceProgram

namespace Go.Proofs.Ytclgjiffpijgmaa.CtR
open Go Go.CT CtF

/-- A label is secret; one flows to another. -/
def secL (l : Nat) : Bool := l.testBit 0
def trustL (l : Nat) : Bool := !l.testBit 1
def subL (a b : Nat) : Bool := a ||| b == b
def kid0 : List Ex → Ex
  | [] => .mk 0 0 []
  | e :: _ => e
/-- An expression reads at a secret index. -/
def secE (vs ar : List Int) : Nat → Ex → Bool
  | 0, _ => false
  | d + 1, .mk k v ks => (k == 3 && secL (labN vs ar d (kid0 ks))) || ks.any (secE vs ar d)
/-- What the label of a statement's writing is. -/
def storedN (vs ar : List Int) (s : St1) (c : Nat) : Nat := if s.kind = 2 then labN vs ar 5 s.value ||| c ||| labN vs ar 5 s.index else labN vs ar 5 s.value ||| c
def flowR (vs ar : List Int) (s : St1) (c : Nat) : Int :=
  if s.kind = 1 then (if subL (storedN vs ar s c) (nth vs s.target).toNat then 0 else 1)
  else if s.kind = 2 then (if subL (storedN vs ar s c) (nth ar s.target).toNat then 0 else 1)
  else if s.kind = 5 then (if trustL (labN vs ar 5 s.value) && c == 0 then 0 else 2) else 0
def leakR (vs ar : List Int) (s : St1) (_ : Nat) : Int :=
  if s.kind = 3 ∧ secL (labN vs ar 5 s.value) = true then 3
  else if (s.kind = 2 ∧ secL (labN vs ar 5 s.index) = true) ∨ secE vs ar 5 s.value = true then 4 else 0
def ownR (strict : Bool) (vs ar : List Int) (s : St1) (c : Nat) : Int :=
  if flowR vs ar s c ≠ 0 then flowR vs ar s c else if strict then leakR vs ar s c else 0

/-- The first result of a statement, and its number, or the next number. -/
def walkR (res : St1 → Nat → Int) (vs ar : List Int) : Nat → Nat → List St1 → Int → Int × Int
  | 0, _, _, n => (0, n)
  | d + 1, c, l, n => l.foldl (fun (x : Int × Int) s => if x.1 ≠ 0 then x else if res s c ≠ 0 then (res s c, x.2) else
      if (walkR res vs ar d (ctxI vs ar s c) s.body (x.2 + 1)).1 ≠ 0 then walkR res vs ar d (ctxI vs ar s c) s.body (x.2 + 1)
      else walkR res vs ar d (ctxI vs ar s c) s.els (walkR res vs ar d (ctxI vs ar s c) s.body (x.2 + 1)).2) (0, n)
/-- No statement has a result. -/
def fineL (res : St1 → Nat → Int) (vs ar : List Int) : Nat → Nat → List St1 → Bool
  | 0, _, _ => true
  | d + 1, c, l => l.all fun s => res s c == 0 && fineL res vs ar d (ctxI vs ar s c) s.body && fineL res vs ar d (ctxI vs ar s c) s.els

theorem walk_fine (res : St1 → Nat → Int) (vs ar : List Int) : ∀ (d c : Nat) (l : List St1) (n : Int), (walkR res vs ar d c l n).1 = 0 ↔ fineL res vs ar d c l = true
  | 0, _, _, _ => by simp [walkR, fineL]
  | d + 1, c, l, n => by
    have key : ∀ (l : List St1) (x : Int × Int), (l.foldl (fun (x : Int × Int) s => if x.1 ≠ 0 then x else if res s c ≠ 0 then (res s c, x.2) else
      if (walkR res vs ar d (ctxI vs ar s c) s.body (x.2 + 1)).1 ≠ 0 then walkR res vs ar d (ctxI vs ar s c) s.body (x.2 + 1)
      else walkR res vs ar d (ctxI vs ar s c) s.els (walkR res vs ar d (ctxI vs ar s c) s.body (x.2 + 1)).2) x).1 = 0 ↔ x.1 = 0 ∧ fineL res vs ar (d + 1) c l = true := by
      intro l
      induction l with
      | nil => intro x; simp [fineL]
      | cons a r ih =>
        intro x
        rw [List.foldl_cons, ih]
        have h1 := walk_fine res vs ar d (ctxI vs ar a c) a.body (x.2 + 1)
        have h2 := walk_fine res vs ar d (ctxI vs ar a c) a.els (walkR res vs ar d (ctxI vs ar a c) a.body (x.2 + 1)).2
        simp only [fineL, List.all_cons, Bool.and_eq_true, beq_iff_eq] at h1 h2 ⊢
        by_cases hx : x.1 = 0
        · by_cases hr : res a c = 0
          · by_cases hb : (walkR res vs ar d (ctxI vs ar a c) a.body (x.2 + 1)).1 = 0
            · have hb2 := h1.1 hb
              simp only [hx, hr, hb, hb2, ne_eq, not_true_eq_false, if_false, true_and]
              rw [h2]
            · have hb2 : ¬ fineL res vs ar d (ctxI vs ar a c) a.body = true := fun h => hb (h1.2 h)
              simp only [hx, hr, ne_eq, not_true_eq_false, if_false, true_and]
              rw [if_pos hb]
              simp [hb, hb2]
          · simp [hx, hr]
        · simp [hx]
    have := key l (0, n)
    simpa [walkR] using this

/-- What telling of statements in order makes of the first result. -/
structure Fst where
  code : Int
  at_ : Int
  n : Int
def fstStep (res : St1 → Nat → Int) (x : Fst) (s : St1) (c : Nat) : Fst :=
  if x.code = 0 then ⟨res s c, if res s c ≠ 0 then x.n else x.at_, x.n + 1⟩ else ⟨x.code, x.at_, x.n + 1⟩
theorem each_walk (res : St1 → Nat → Int) (vs ar : List Int) : ∀ (d c : Nat) (l : List St1) (x : Fst),
    (eachF vs ar (fstStep res) d c x l).n = x.n + lsize d l ∧
    (x.code ≠ 0 → (eachF vs ar (fstStep res) d c x l).code = x.code ∧ (eachF vs ar (fstStep res) d c x l).at_ = x.at_) ∧
    (x.code = 0 → (eachF vs ar (fstStep res) d c x l).code = (walkR res vs ar d c l x.n).1 ∧
      (eachF vs ar (fstStep res) d c x l).at_ = (if (walkR res vs ar d c l x.n).1 = 0 then x.at_ else (walkR res vs ar d c l x.n).2) ∧
      ((walkR res vs ar d c l x.n).1 = 0 → (walkR res vs ar d c l x.n).2 = x.n + lsize d l))
  | 0, c, l, x => by simp [eachF, walkR, lsize_zero]
  | d + 1, c, l, x => by
    let F := fun (x : Int × Int) s => if x.1 ≠ 0 then x else if res s c ≠ 0 then (res s c, x.2) else
      if (walkR res vs ar d (ctxI vs ar s c) s.body (x.2 + 1)).1 ≠ 0 then walkR res vs ar d (ctxI vs ar s c) s.body (x.2 + 1)
      else walkR res vs ar d (ctxI vs ar s c) s.els (walkR res vs ar d (ctxI vs ar s c) s.body (x.2 + 1)).2
    let G := fun x s => eachF vs ar (fstStep res) d (ctxI vs ar s c) (eachF vs ar (fstStep res) d (ctxI vs ar s c) (fstStep res x s c) s.body) s.els
    have hone : ∀ (s : St1) (x : Fst), (G x s).n = x.n + tsize (d + 1) s ∧ (x.code ≠ 0 → (G x s).code = x.code ∧ (G x s).at_ = x.at_) ∧
        (x.code = 0 → (G x s).code = (F (0, x.n) s).1 ∧ (G x s).at_ = (if (F (0, x.n) s).1 = 0 then x.at_ else (F (0, x.n) s).2) ∧ ((F (0, x.n) s).1 = 0 → (F (0, x.n) s).2 = x.n + tsize (d + 1) s)) := by
      intro s x
      have hs := tsize_subs d s
      simp only [subs] at hs
      obtain ⟨a1, a2, a3⟩ := each_walk res vs ar d (ctxI vs ar s c) s.body (fstStep res x s c)
      obtain ⟨b1, b2, b3⟩ := each_walk res vs ar d (ctxI vs ar s c) s.els (eachF vs ar (fstStep res) d (ctxI vs ar s c) (fstStep res x s c) s.body)
      have hn : (fstStep res x s c).n = x.n + 1 := by unfold fstStep; split <;> rfl
      refine ⟨by simp only [G]; rw [b1, a1, hn, hs]; push_cast; omega, fun hx => ?_, fun hx => ?_⟩
      · have e1 : (fstStep res x s c).code = x.code := by unfold fstStep; rw [if_neg hx]
        have e2 : (fstStep res x s c).at_ = x.at_ := by unfold fstStep; rw [if_neg hx]
        obtain ⟨c1, c2⟩ := a2 (by rw [e1]; exact hx)
        obtain ⟨d1, d2⟩ := b2 (by rw [c1, e1]; exact hx)
        exact ⟨d1.trans (c1.trans e1), d2.trans (c2.trans e2)⟩
      · have e1 : (fstStep res x s c).code = res s c := by unfold fstStep; rw [if_pos hx]
        have e2 : (fstStep res x s c).at_ = if res s c ≠ 0 then x.n else x.at_ := by unfold fstStep; rw [if_pos hx]
        by_cases hr : res s c = 0
        · rw [e1, hn] at a3
          obtain ⟨c1, c2, c3⟩ := a3 hr
          by_cases hb : (walkR res vs ar d (ctxI vs ar s c) s.body (x.n + 1)).1 = 0
          · have hm : (eachF vs ar (fstStep res) d (ctxI vs ar s c) (fstStep res x s c) s.body).n = (walkR res vs ar d (ctxI vs ar s c) s.body (x.n + 1)).2 := by rw [a1, hn, c3 hb]
            rw [hm] at b3
            obtain ⟨d1, d2, d3⟩ := b3 (by rw [c1]; exact hb)
            have hF : F (0, x.n) s = walkR res vs ar d (ctxI vs ar s c) s.els (walkR res vs ar d (ctxI vs ar s c) s.body (x.n + 1)).2 := by
              simp only [F, hr, hb, ne_eq, not_true_eq_false, if_false]
            rw [hF]
            refine ⟨d1, ?_, fun h => ?_⟩
            · simp only [G]
              rw [d2, c2, e2, if_pos hb]
              simp [hr]
            · rw [d3 h, c3 hb, hs]; push_cast; omega
          · have hF : F (0, x.n) s = walkR res vs ar d (ctxI vs ar s c) s.body (x.n + 1) := by
              simp only [F, hr, ne_eq, not_true_eq_false, if_false]
              rw [if_pos hb]
            rw [hF]
            obtain ⟨d1, d2⟩ := b2 (by rw [c1]; exact hb)
            refine ⟨d1.trans c1, ?_, fun h => absurd h hb⟩
            simp only [G]
            rw [d2, c2, if_neg hb, if_neg hb]
        · have hF : F (0, x.n) s = (res s c, x.n) := by simp only [F, ne_eq, not_true_eq_false, if_false]; rw [if_pos hr]
          rw [hF]
          obtain ⟨c1, c2⟩ := a2 (by rw [e1]; exact hr)
          obtain ⟨d1, d2⟩ := b2 (by rw [c1, e1]; exact hr)
          refine ⟨d1.trans (c1.trans e1), ?_, fun h => absurd h hr⟩
          simp only [G]
          rw [d2, c2, e2, if_neg hr, if_pos hr]
    have hF1 : ∀ (y : Int × Int) (s : St1), y.1 ≠ 0 → F y s = y := fun y s h => by simp only [F]; rw [if_pos h]
    have hFn : ∀ (l : List St1) (y : Int × Int), y.1 ≠ 0 → l.foldl F y = y := by
      intro l
      induction l with
      | nil => intro y _; rfl
      | cons a r ih => intro y h; rw [List.foldl_cons, hF1 y a h, ih y h]
    have eG : eachF vs ar (fstStep res) (d + 1) c x l = l.foldl G x := rfl
    have eF : walkR res vs ar (d + 1) c l x.n = l.foldl F (0, x.n) := rfl
    rw [eG, eF]
    clear_value F G
    clear eG eF
    have key : ∀ (l : List St1) (x : Fst), (l.foldl G x).n = x.n + lsize (d + 1) l ∧ (x.code ≠ 0 → (l.foldl G x).code = x.code ∧ (l.foldl G x).at_ = x.at_) ∧
        (x.code = 0 → (l.foldl G x).code = (l.foldl F (0, x.n)).1 ∧ (l.foldl G x).at_ = (if (l.foldl F (0, x.n)).1 = 0 then x.at_ else (l.foldl F (0, x.n)).2) ∧ ((l.foldl F (0, x.n)).1 = 0 → (l.foldl F (0, x.n)).2 = x.n + lsize (d + 1) l)) := by
      intro l
      induction l with
      | nil => intro x; simp [lsize]
      | cons a r ih =>
        intro x
        obtain ⟨h1, h2, h3⟩ := hone a x
        obtain ⟨g1, g2, g3⟩ := ih (G x a)
        have hsz : lsize (d + 1) (a :: r) = tsize (d + 1) a + lsize (d + 1) r := by simp [lsize]
        rw [show (a :: r).foldl G x = r.foldl G (G x a) from rfl, show (a :: r).foldl F (0, x.n) = r.foldl F (F (0, x.n) a) from rfl]
        refine ⟨by rw [g1, h1, hsz]; push_cast; omega, fun hx => ?_, fun hx => ?_⟩
        · obtain ⟨c1, c2⟩ := h2 hx
          obtain ⟨d1, d2⟩ := g2 (by rw [c1]; exact hx)
          exact ⟨d1.trans c1, d2.trans c2⟩
        · obtain ⟨c1, c2, c3⟩ := h3 hx
          by_cases hb : (F (0, x.n) a).1 = 0
          · have e : F (0, x.n) a = (0, (G x a).n) := Prod.ext hb (by rw [c3 hb, h1])
            obtain ⟨d1, d2, d3⟩ := g3 (by rw [c1]; exact hb)
            rw [e]
            refine ⟨d1, by rw [d2, c2, if_pos hb], fun h => by rw [d3 h, h1, hsz]; push_cast; omega⟩
          · rw [hFn r _ hb]
            obtain ⟨d1, d2⟩ := g2 (by rw [c1]; exact hb)
            refine ⟨d1.trans c1, by rw [d2, c2], fun h => absurd h hb⟩
    exact key l x

/-- The result of a check, and the number of a statement or -1. -/
def chkR (res : List Int → List Int → St1 → Nat → Int) (p : Pg) : Int × Int :=
  if progOK p = true then ((walkR (res p.vars p.arrays) p.vars p.arrays 5 0 p.body 0).1, if (walkR (res p.vars p.arrays) p.vars p.arrays 5 0 p.body 0).1 = 0 then -1 else (walkR (res p.vars p.arrays) p.vars p.arrays 5 0 p.body 0).2) else (5, -1)
def fineP (res : List Int → List Int → St1 → Nat → Int) (p : Pg) : Bool := progOK p && fineL (res p.vars p.arrays) p.vars p.arrays 5 0 p.body
theorem chk_fine (res : List Int → List Int → St1 → Nat → Int) (p : Pg) : (chkR res p).1 = 0 ↔ fineP res p = true := by
  unfold chkR fineP
  cases h : progOK p with
  | false => simp
  | true => simp only [if_true, Bool.true_and]; exact walk_fine _ _ _ _ _ _ _
theorem own_flow (p : Pg) : chkR (ownR false) p = chkR flowR p := by
  have : (ownR false) = flowR := by
    funext vs ar s c
    simp only [ownR]
    split
    · rfl
    · rename_i h; simp only [ne_eq, Classical.not_not] at h; simp [h]
  rw [this]
end Go.Proofs.Ytclgjiffpijgmaa.CtR

namespace Go.Proofs.Ytclgjiffpijgmaa.CtR
open Go Go.CT CtF

/-- Two memories agree where labels lack a bit. -/
structure LowM (β : Nat) (p : Pg) (m m' : Mm) : Prop where
  lv : m.vals.length = m'.vals.length
  la : m.arrays.length = m'.arrays.length
  val : ∀ (i : Nat) (x : Int), p.vars[i]? = some x → x.toNat.testBit β = false → m.vals[i]? = m'.vals[i]?
  arr : ∀ (i : Nat) (x : Int), p.arrays[i]? = some x → x.toNat.testBit β = false → m.arrays[i]? = m'.arrays[i]?
theorem LowM.refl (β : Nat) (p : Pg) (m : Mm) : LowM β p m m := ⟨rfl, rfl, fun _ _ _ _ => rfl, fun _ _ _ _ => rfl⟩
theorem LowM.symm {β : Nat} {p : Pg} {m m' : Mm} (h : LowM β p m m') : LowM β p m' m := ⟨h.lv.symm, h.la.symm, fun i x a b => (h.val i x a b).symm, fun i x a b => (h.arr i x a b).symm⟩
theorem LowM.trans {β : Nat} {p : Pg} {a b c : Mm} (h : LowM β p a b) (h' : LowM β p b c) : LowM β p a c :=
  ⟨h.lv.trans h'.lv, h.la.trans h'.la, fun i x u v => (h.val i x u v).trans (h'.val i x u v), fun i x u v => (h.arr i x u v).trans (h'.arr i x u v)⟩
theorem or_bit {β : Nat} : ∀ (l : List Nat) (a : Nat), (l.foldl (fun a b => a ||| b) a).testBit β = false ↔ a.testBit β = false ∧ ∀ x ∈ l, x.testBit β = false
  | [], a => by simp
  | b :: r, a => by rw [List.foldl_cons, or_bit r, Nat.testBit_or]; simp [and_assoc]
theorem nth_get {l : List Int} {v : Int} (h : 0 ≤ v) (h2 : v < l.length) : l[v.toNat]? = some (nth l v) := (nth_mem h h2).1
theorem nth_eq {l l' : List Int} {v : Int} (h : l[v.toNat]? = l'[v.toNat]?) : nth l v = nth l' v := by
  unfold nth; rw [List.getD_eq_getElem?_getD, List.getD_eq_getElem?_getD, h]
theorem arrAt_eq {m m' : Mm} {v : Int} (h : m.arrays[v.toNat]? = m'.arrays[v.toNat]?) : arrAt m v = arrAt m' v := by
  unfold arrAt; rw [List.getD_eq_getElem?_getD, List.getD_eq_getElem?_getD, h]

theorem evalE_low {β : Nat} {p : Pg} {m m' : Mm} (h : LowM β p m m') : ∀ (d : Nat) (e : Ex), shape p d e = true → (labN p.vars p.arrays d e).testBit β = false → evalE m d e = evalE m' d e
  | 0, _, _, _ => rfl
  | d + 1, .mk k v ks, hs, hb => by
    obtain ⟨g1, g2, g3⟩ := shape_succ hs
    obtain ⟨_, _, hv0, hv1⟩ := fits_len g1
    simp only [labN, or_bit, List.mem_map] at hb
    have hk : ∀ e ∈ ks, evalE m d e = evalE m' d e := fun e he => evalE_low h d e (g2 e he) (hb.2 _ ⟨e, he, rfl⟩)
    have hxs : (ks.map fun e => (evalE m d e).1) = ks.map fun e => (evalE m' d e).1 := List.map_congr_left fun e he => by rw [hk e he]
    have hev : (ks.map fun e => (evalE m d e).2) = ks.map fun e => (evalE m' d e).2 := List.map_congr_left fun e he => by rw [hk e he]
    simp only [evalE, hxs, hev]
    by_cases k2 : k = 2
    · subst k2
      have hx := nth_get (l := p.vars) hv0 (by simpa [limit] using hv1)
      have := nth_eq (h.val _ _ hx (by have := hb.1; simpa [labB] using this))
      simp [this]
    · by_cases k3 : k = 3
      · subst k3
        have hx := nth_get (l := p.arrays) hv0 (by simpa [limit] using hv1)
        have := arrAt_eq (h.arr _ _ hx (by have := hb.1; simpa [labB] using this))
        simp [this]
      · simp [k2, k3]

theorem LowM.setV {β : Nat} {p : Pg} {m m' : Mm} (h : LowM β p m m') {t x y : Int} (hx : x = y ∨ (nth p.vars t).toNat.testBit β = true) : LowM β p (setV m t x) (setV m' t y) where
  lv := by simp [CtR.setV, h.lv]
  la := h.la
  val := fun i z hz hb => by
    simp only [CtR.setV, List.getElem?_set, h.lv]
    by_cases e : t.toNat = i
    · subst e
      rcases hx with rfl | hx
      · simp [h.val _ z hz hb]
      · have : nth p.vars t = z := by unfold nth; rw [List.getD_eq_getElem?_getD, hz]; rfl
        rw [this, hb] at hx
        cases hx
    · simp only [e, if_false]; exact h.val i z hz hb
  arr := h.arr
theorem LowM.setV1 {β : Nat} {p : Pg} {m m' : Mm} (h : LowM β p m m') {t y : Int} (hx : (nth p.vars t).toNat.testBit β = true) : LowM β p m (CtR.setV m' t y) where
  lv := by simp [CtR.setV, h.lv]
  la := h.la
  val := fun i z hz hb => by
    simp only [CtR.setV, List.getElem?_set]
    by_cases e : t.toNat = i
    · subst e
      have : nth p.vars t = z := by unfold nth; rw [List.getD_eq_getElem?_getD, hz]; rfl
      rw [this, hb] at hx
      cases hx
    · simp only [e, if_false]; exact h.val i z hz hb
  arr := h.arr
theorem LowM.setA {β : Nat} {p : Pg} {m m' : Mm} (h : LowM β p m m') {t i j x y : Int} (hx : (i = j ∧ x = y) ∨ (nth p.arrays t).toNat.testBit β = true) : LowM β p (setA m t i x) (setA m' t j y) where
  lv := h.lv
  la := by simp [CtR.setA, h.la]
  val := h.val
  arr := fun k z hz hb => by
    simp only [CtR.setA, List.getElem?_set, h.la]
    by_cases e : t.toNat = k
    · subst e
      rcases hx with ⟨rfl, rfl⟩ | hx
      · rw [arrAt_eq (h.arr _ z hz hb), h.arr _ z hz hb]
      · have : nth p.arrays t = z := by unfold nth; rw [List.getD_eq_getElem?_getD, hz]; rfl
        rw [this, hb] at hx
        cases hx
    · simp only [e, if_false]; exact h.arr k z hz hb
theorem LowM.setA1 {β : Nat} {p : Pg} {m m' : Mm} (h : LowM β p m m') {t j y : Int} (hx : (nth p.arrays t).toNat.testBit β = true) : LowM β p m (CtR.setA m' t j y) where
  lv := h.lv
  la := by simp [CtR.setA, h.la]
  val := h.val
  arr := fun k z hz hb => by
    simp only [CtR.setA, List.getElem?_set]
    by_cases e : t.toNat = k
    · subst e
      have : nth p.arrays t = z := by unfold nth; rw [List.getD_eq_getElem?_getD, hz]; rfl
      rw [this, hb] at hx
      cases hx
    · simp only [e, if_false]; exact h.arr k z hz hb

/-- No release. -/
def freeL : Nat → List St1 → Bool
  | 0, _ => true
  | d + 1, l => l.all fun s => s.kind != 5 && freeL d s.body && freeL d s.els
theorem subL_bit {a b β : Nat} (h : subL a b = true) (ha : a.testBit β = true) : b.testBit β = true := by
  have h : a ||| b = b := by simpa [subL] using h
  rw [← h, Nat.testBit_or, ha]; rfl
theorem runS_4 (d : Nat) (m : Mm) (t : Int) (ix v : Ex) (c : Int) (b e : List St1) : runS (d + 1) m (.mk 4 t ix v c b e) = iterR (fun m => foldR (runS d) m b) c.toNat m := by simp [runS]
theorem runS_1 (d : Nat) (m : Mm) (t : Int) (ix v : Ex) (c : Int) (b e : List St1) : runS (d + 1) m (.mk 1 t ix v c b e) = (setV m t (evalE m 5 v).1, (evalE m 5 v).2) := by simp [runS]
theorem runS_2 (d : Nat) (m : Mm) (t : Int) (ix v : Ex) (c : Int) (b e : List St1) : runS (d + 1) m (.mk 2 t ix v c b e) = (setA m t ((evalE m 5 ix).1 % 4) (evalE m 5 v).1, (evalE m 5 v).2 ++ [⟨3, t * 4 + (evalE m 5 ix).1 % 4⟩]) := by simp [runS]
theorem runS_if {d : Nat} {m : Mm} {k t : Int} {ix v : Ex} {c : Int} {b e : List St1} (h4 : k ≠ 4) (h1 : k ≠ 1) (h5 : k ≠ 5) (h2 : k ≠ 2) :
    ((evalE m 5 v).1 ≠ 0 → runS (d + 1) m (.mk k t ix v c b e) = ((foldR (runS d) m b).1, (evalE m 5 v).2 ++ [⟨1, 1⟩] ++ (foldR (runS d) m b).2)) ∧
    ((evalE m 5 v).1 = 0 → runS (d + 1) m (.mk k t ix v c b e) = ((foldR (runS d) m e).1, (evalE m 5 v).2 ++ [⟨1, 0⟩] ++ (foldR (runS d) m e).2)) := by
  constructor <;> intro h <;> simp [runS, h4, h1, h5, h2, h]
theorem foldR_conf {f : Mm → St1 → Mm × List Ev} {Q : Mm → Prop} : ∀ (l : List St1) (m : Mm), Q m → (∀ s ∈ l, ∀ m, Q m → Q (f m s).1) → Q (foldR f m l).1
  | [], _, h, _ => h
  | s :: r, m, h, hf => foldR_conf r _ (hf s (by simp) m h) fun t ht => hf t (by simp [ht])
theorem iterR_conf {f : Mm → Mm × List Ev} {Q : Mm → Prop} (hf : ∀ m, Q m → Q (f m).1) : ∀ (n : Nat) (m : Mm), Q m → Q (iterR f n m).1
  | 0, _, h => h
  | n + 1, m, h => hf _ (iterR_conf hf n m h)
theorem flow_assign {vs ar : List Int} {s : St1} {c : Nat} (h : flowR vs ar s c = 0) (hk : s.kind = 1) : subL (storedN vs ar s c) (nth vs s.target).toNat = true := by
  unfold flowR at h
  rw [if_pos hk] at h
  cases hs : subL (storedN vs ar s c) (nth vs s.target).toNat with
  | true => rfl
  | false => rw [hs] at h; simp at h
theorem flow_store {vs ar : List Int} {s : St1} {c : Nat} (h : flowR vs ar s c = 0) (hk : s.kind = 2) : subL (storedN vs ar s c) (nth ar s.target).toNat = true := by
  unfold flowR at h
  rw [if_neg (by omega), if_pos hk] at h
  cases hs : subL (storedN vs ar s c) (nth ar s.target).toNat with
  | true => rfl
  | false => rw [hs] at h; simp at h

theorem stored_c {β : Nat} {vs ar : List Int} {s : St1} {c : Nat} (h : c.testBit β = true) : (storedN vs ar s c).testBit β = true := by
  unfold storedN; split <;> simp [Nat.testBit_or, h]
theorem stored_v {β : Nat} {vs ar : List Int} {s : St1} {c : Nat} (h : (labN vs ar 5 s.value).testBit β = true) : (storedN vs ar s c).testBit β = true := by
  unfold storedN; split <;> simp [Nat.testBit_or, h]
theorem stored_i {β : Nat} {vs ar : List Int} {s : St1} {c : Nat} (hk : s.kind = 2) (h : (labN vs ar 5 s.index).testBit β = true) : (storedN vs ar s c).testBit β = true := by
  unfold storedN; rw [if_pos hk]; simp [Nat.testBit_or, h]

theorem run_conf {β : Nat} {p : Pg} {m0 : Mm} : ∀ (d c : Nat) (l : List St1), fineL (flowR p.vars p.arrays) p.vars p.arrays d c l = true → freeL d l = true → c.testBit β = true → ∀ m, LowM β p m0 m → LowM β p m0 (foldR (runS d) m l).1
  | 0, c, l, _, _, _, m, h => by
    refine foldR_conf (Q := LowM β p m0) l m h fun s _ m h => ?_
    exact h
  | d + 1, c, l, hf, hr, hc, m, h => by
    refine foldR_conf (Q := LowM β p m0) l m h fun s hs m h => ?_
    simp only [fineL, freeL, List.all_eq_true, Bool.and_eq_true, beq_iff_eq, bne_iff_ne] at hf hr
    obtain ⟨⟨f1, f2⟩, f3⟩ := hf s hs
    obtain ⟨⟨r1, r2⟩, r3⟩ := hr s hs
    have hci : (ctxI p.vars p.arrays s c).testBit β = true := by
      unfold ctxI; split
      · rw [Nat.testBit_or, hc]; rfl
      · exact hc
    have hst := stored_c (vs := p.vars) (ar := p.arrays) (s := s) hc
    have hb := fun m h => run_conf (β := β) (m0 := m0) d _ s.body f2 r2 hci m h
    have he := fun m h => run_conf (β := β) (m0 := m0) d _ s.els f3 r3 hci m h
    have h1 := fun hk => subL_bit (flow_assign f1 hk) hst
    have h2 := fun hk => subL_bit (flow_store f1 hk) hst
    obtain ⟨k, t, ix, v, cc, b, e⟩ := s
    simp only [St1.kind, St1.target, St1.body, St1.els] at r1 hb he h1 h2
    by_cases k4 : k = 4
    · subst k4; rw [runS_4]; exact iterR_conf (Q := LowM β p m0) (fun m h => hb m h) _ m h
    by_cases k1 : k = 1
    · subst k1; rw [runS_1]; exact h.setV1 (h1 rfl)
    by_cases k2 : k = 2
    · subst k2; rw [runS_2]; exact h.setA1 (h2 rfl)
    have hi := runS_if (d := d) (m := m) (t := t) (ix := ix) (v := v) (c := cc) (b := b) (e := e) k4 k1 r1 k2
    by_cases hv : (evalE m 5 v).1 = 0
    · rw [hi.2 hv]; exact he m h
    · rw [hi.1 hv]; exact hb m h

theorem foldR_two {f : Mm → St1 → Mm × List Ev} {Q : Mm → Mm → Prop} : ∀ (l : List St1) (m m' : Mm), Q m m' → (∀ s ∈ l, ∀ m m', Q m m' → Q (f m s).1 (f m' s).1) → Q (foldR f m l).1 (foldR f m' l).1
  | [], _, _, h, _ => h
  | s :: r, m, m', h, hf => foldR_two r _ _ (hf s (by simp) m m' h) fun t ht => hf t (by simp [ht])
theorem iterR_two {f : Mm → Mm × List Ev} {Q : Mm → Mm → Prop} (hf : ∀ m m', Q m m' → Q (f m).1 (f m').1) : ∀ (n : Nat) (m m' : Mm), Q m m' → Q (iterR f n m).1 (iterR f n m').1
  | 0, _, _, h => h
  | n + 1, m, m', h => hf _ _ (iterR_two hf n m m' h)
theorem shapeV {p : Pg} {d : Nat} {k t : Int} {ix v : Ex} {c : Int} {b e : List St1} (h : stmtOK p (d + 1) (.mk k t ix v c b e) = true) : (k ≠ 4 → shape p 5 v = true) ∧ (k = 2 → shape p 5 ix = true) := by
  have hk := head_kind (stmtOK_succ h).1
  constructor
  · intro h4
    rcases hk with h | h | h | h
    · exact (right_shape h.2.2.2).1
    · exact (right_shape h.2.2.2.2.2).1
    · exact (right_shape h.2).1
    · exact absurd h.1 h4
  · intro h2
    rcases hk with h | h | h | h
    · exact absurd h.1 (by omega)
    · exact (right_shape h.2.2.2.1).1
    · exact absurd h.1 (by omega)
    · exact absurd h.1 (by omega)

/-- Runs of memories that agree where labels lack a bit end in such memories. -/
theorem run_low {β : Nat} {p : Pg} : ∀ (d c : Nat) (l : List St1), (∀ s ∈ l, stmtOK p d s = true) → fineL (flowR p.vars p.arrays) p.vars p.arrays d c l = true → freeL d l = true → ∀ m m', LowM β p m m' → LowM β p (foldR (runS d) m l).1 (foldR (runS d) m' l).1
  | 0, c, l, _, _, _, m, m', h => foldR_two (Q := LowM β p) l m m' h fun s _ m m' h => h
  | d + 1, c, l, hok, hf, hr, m, m', h => by
    refine foldR_two (Q := LowM β p) l m m' h fun s hs m m' h => ?_
    simp only [fineL, freeL, List.all_eq_true, Bool.and_eq_true, beq_iff_eq, bne_iff_ne] at hf hr
    obtain ⟨⟨f1, f2⟩, f3⟩ := hf s hs
    obtain ⟨⟨r1, r2⟩, r3⟩ := hr s hs
    have hso := hok s hs
    have h1 := fun hk => flow_assign f1 hk
    have h2 := fun hk => flow_store f1 hk
    have hsv := fun h => stored_v (β := β) (vs := p.vars) (ar := p.arrays) (s := s) (c := c) h
    have hsi := fun hk h => stored_i (β := β) (vs := p.vars) (ar := p.arrays) (s := s) (c := c) hk h
    generalize storedN p.vars p.arrays s c = sto at *
    obtain ⟨k, t, ix, v, cc, b, e⟩ := s
    have hbo := stmtOK_succ hso
    obtain ⟨s1, s2⟩ := shapeV hso
    have hb := fun m m' h => run_low (β := β) d _ b hbo.2.1 f2 r2 m m' h
    have he := fun m m' h => run_low (β := β) d _ e hbo.2.2 f3 r3 m m' h
    simp only [St1.kind, St1.target, St1.body, St1.els, St1.value, St1.index] at r1 h1 h2 f2 f3 hsv hsi
    have r1 : k ≠ 5 := r1
    by_cases k4 : k = 4
    · subst k4; rw [runS_4, runS_4]; exact iterR_two (Q := LowM β p) (fun m m' h => hb m m' h) _ m m' h
    have hv := fun hb => evalE_low (β := β) h 5 v (s1 k4) hb
    by_cases k1 : k = 1
    · subst k1; rw [runS_1, runS_1]
      refine h.setV ?_
      cases hl : (labN p.vars p.arrays 5 v).testBit β with
      | false => exact .inl (by rw [hv hl])
      | true => exact .inr (subL_bit (h1 rfl) (hsv hl))
    by_cases k2 : k = 2
    · subst k2; rw [runS_2, runS_2]
      refine h.setA ?_
      cases hl : (labN p.vars p.arrays 5 v).testBit β with
      | true => exact .inr (subL_bit (h2 rfl) (hsv hl))
      | false =>
        cases hli : (labN p.vars p.arrays 5 ix).testBit β with
        | true => exact .inr (subL_bit (h2 rfl) (hsi rfl hli))
        | false => exact .inl ⟨by rw [evalE_low h 5 ix (s2 rfl) hli], by rw [hv hl]⟩
    have k3 : k = 3 := by
      have := head_kind hbo.1
      omega
    have hi := fun m => runS_if (d := d) (m := m) (t := t) (ix := ix) (v := v) (c := cc) (b := b) (e := e) k4 k1 r1 k2
    subst k3
    cases hl : (labN p.vars p.arrays 5 v).testBit β with
    | false =>
      by_cases hz : (evalE m 5 v).1 = 0
      · rw [(hi m).2 hz, (hi m').2 (by rw [← hv hl]; exact hz)]; exact he m m' h
      · rw [(hi m).1 hz, (hi m').1 (by rw [← hv hl]; exact hz)]; exact hb m m' h
    | true =>
      have hci : (ctxI p.vars p.arrays (.mk 3 t ix v cc b e) c).testBit β = true := by
        have : ctxI p.vars p.arrays (.mk 3 t ix v cc b e) c = c ||| labN p.vars p.arrays 5 v := rfl
        rw [this, Nat.testBit_or, hl]; simp
      have side : ∀ (m : Mm), LowM β p m (runS (d + 1) m (.mk 3 t ix v cc b e)).1 := fun m => by
        by_cases hz : (evalE m 5 v).1 = 0
        · rw [(hi m).2 hz]; exact run_conf (β := β) (m0 := m) d _ e f3 r3 hci m (.refl _ _ _)
        · rw [(hi m).1 hz]; exact run_conf (β := β) (m0 := m) d _ b f2 r2 hci m (.refl _ _ _)
      exact ((side m).symm.trans h).trans (side m')
end Go.Proofs.Ytclgjiffpijgmaa.CtR

namespace Go.Proofs.Ytclgjiffpijgmaa.CtR
open Go Go.CT CtF

theorem le3 {a : Nat} (h : a ≤ 3) : a = 0 ∨ a = 1 ∨ a = 2 ∨ a = 3 := by omega
theorem subI (a b : Nat) (ha : a ≤ 3) (hb : b ≤ 3) : decide (((a ||| b : Nat) : Int) = (b : Int)) = subL a b := by
  rcases le3 ha with rfl | rfl | rfl | rfl <;> rcases le3 hb with rfl | rfl | rfl | rfl <;> decide
theorem subA (a b : Nat) (ha : a ≤ 3) (hb : b ≤ 3) : decide (((a ^^^ (a &&& b) : Nat) : Int) = 0) = subL a b := by
  rcases le3 ha with rfl | rfl | rfl | rfl <;> rcases le3 hb with rfl | rfl | rfl | rfl <;> decide
theorem secI (a : Nat) (ha : a ≤ 3) : decide (((a &&& 1 : Nat) : Int) = 1) = secL a := by
  rcases le3 ha with rfl | rfl | rfl | rfl <;> decide
theorem secI' (a : Nat) (ha : a ≤ 3) : decide (((a &&& 1 : Nat) : Int) ≠ 0) = secL a := by
  rcases le3 ha with rfl | rfl | rfl | rfl <;> decide
theorem truI (a : Nat) (ha : a ≤ 3) : decide (((a &&& 2 : Nat) : Int) = 0) = trustL a := by
  rcases le3 ha with rfl | rfl | rfl | rfl <;> decide

theorem labelFlowsS (a b : Nat) (ha : a ≤ 3) (hb : b ≤ 3) : DC Try.prog 164 [DI .i64 a, DI .i64 b] [] (fun r h => r = DB (subL a b) ∧ h = []) := by
  have h1 := labelValidS a
  have h2 := labelValidS b
  have ha' : (decide (0 ≤ (a : Int)) && decide ((a : Int) ≤ 3)) = true := by simp; omega
  have hb' : (decide (0 ≤ (b : Int)) && decide ((b : Int) ≤ 3)) = true := by simp; omega
  rw [ha'] at h1
  rw [hb'] at h2
  have hs := subI a b ha hb
  generalize hR : (fun (r : D) (h : List (Option (List C))) => r = DB (subL a b) ∧ h = []) = R
  refine dcZ Try.func164 ?_
  simp (maxSteps := 9999999) only [go_sem]
  iterate 6 ((try (refine drvZ Try.func164 ?_; simp (maxSteps := 9999999) only [go_sem])); (try ((with_reducible refine And.intro ?_ ?_) <;> (repeat' with_reducible apply And.intro) <;> try exact sd)); (try first | refine XK.p h1 ok136 ?_ | refine XK.gp h1 ok136 ?_ | refine XK.p h2 ok136 ?_ | refine XK.gp h2 ok136 ?_))
  refine RetOb.plain (d := DB _) ?_ rfl
  rw [← hR, ← hs]
  exact ⟨rfl, rfl⟩
theorem labelSecretS (a : Nat) (ha : a ≤ 3) : DC Try.prog 166 [DI .i64 a] [] (fun r h => r = DB (secL a) ∧ h = []) := by
  have h1 := labelValidS a
  have ha' : (decide (0 ≤ (a : Int)) && decide ((a : Int) ≤ 3)) = true := by simp; omega
  rw [ha'] at h1
  have hs := secI a ha
  generalize hR : (fun (r : D) (h : List (Option (List C))) => r = DB (secL a) ∧ h = []) = R
  refine dcZ Try.func166 ?_
  simp (maxSteps := 9999999) only [go_sem]
  iterate 4 ((try (refine drvZ Try.func166 ?_; simp (maxSteps := 9999999) only [go_sem])); (try ((with_reducible refine And.intro ?_ ?_) <;> (repeat' with_reducible apply And.intro) <;> try exact sd)); (try first | refine XK.p h1 ok136 ?_ | refine XK.gp h1 ok136 ?_))
  refine RetOb.plain (d := DB _) ?_ rfl
  rw [← hR, ← hs]
  exact ⟨rfl, rfl⟩
theorem labelTrustedS (a : Nat) (ha : a ≤ 3) : DC Try.prog 165 [DI .i64 a] [] (fun r h => r = DB (trustL a) ∧ h = []) := by
  have h1 := labelValidS a
  have ha' : (decide (0 ≤ (a : Int)) && decide ((a : Int) ≤ 3)) = true := by simp; omega
  rw [ha'] at h1
  have hs := truI a ha
  generalize hR : (fun (r : D) (h : List (Option (List C))) => r = DB (trustL a) ∧ h = []) = R
  refine dcZ Try.func165 ?_
  simp (maxSteps := 9999999) only [go_sem]
  iterate 4 ((try (refine drvZ Try.func165 ?_; simp (maxSteps := 9999999) only [go_sem])); (try ((with_reducible refine And.intro ?_ ?_) <;> (repeat' with_reducible apply And.intro) <;> try exact sd)); (try first | refine XK.p h1 ok136 ?_ | refine XK.gp h1 ok136 ?_))
  refine RetOb.plain (d := DB _) ?_ rfl
  rw [← hR, ← hs]
  exact ⟨rfl, rfl⟩
theorem flowsI (a b : Nat) (ha : a ≤ 3) (hb : b ≤ 3) : DC Try.prog 126 [DI .i64 a, DI .i64 b] [] (fun r h => r = DB (subL a b) ∧ h = []) := by
  have hs := subA a b ha hb
  generalize hR : (fun (r : D) (h : List (Option (List C))) => r = DB (subL a b) ∧ h = []) = R
  refine dcZ Try.func126 ?_
  simp (maxSteps := 9999999) only [go_sem]
  iterate 2 ((try (refine drvZ Try.func126 ?_; simp (maxSteps := 9999999) only [go_sem])); (try ((with_reducible refine And.intro ?_ ?_) <;> (repeat' with_reducible apply And.intro) <;> try exact sd)))
  refine RetOb.plain (d := DB _) ?_ rfl
  rw [← hR, ← hs]
  exact ⟨rfl, rfl⟩
theorem labelTrustedI (a : Nat) (ha : a ≤ 3) : DC Try.prog 87 [DI .i64 a] [] (fun r h => r = DB (trustL a) ∧ h = []) := by
  have h1 := labelValidI a
  have ha' : (decide (0 ≤ (a : Int)) && decide ((a : Int) ≤ 3)) = true := by simp; omega
  rw [ha'] at h1
  have hs := truI a ha
  generalize hR : (fun (r : D) (h : List (Option (List C))) => r = DB (trustL a) ∧ h = []) = R
  refine dcZ Try.func87 ?_
  simp (maxSteps := 9999999) only [go_sem]
  iterate 4 ((try (refine drvZ Try.func87 ?_; simp (maxSteps := 9999999) only [go_sem])); (try ((with_reducible refine And.intro ?_ ?_) <;> (repeat' with_reducible apply And.intro) <;> try exact sd)); (try first | refine XK.p h1 ok129 ?_ | refine XK.gp h1 ok129 ?_))
  refine RetOb.plain (d := DB _) ?_ rfl
  rw [← hR, ← hs]
  exact ⟨rfl, rfl⟩
theorem labelSecretI (a : Nat) (ha : a ≤ 3) : DC Try.prog 88 [DI .i64 a] [] (fun r h => r = DB (secL a) ∧ h = []) := by
  have h1 := labelValidI a
  have ha' : (decide (0 ≤ (a : Int)) && decide ((a : Int) ≤ 3)) = true := by simp; omega
  rw [ha'] at h1
  have hs := secI' a ha
  generalize hR : (fun (r : D) (h : List (Option (List C))) => r = DB (secL a) ∧ h = []) = R
  refine dcZ Try.func88 ?_
  simp (maxSteps := 9999999) only [go_sem]
  iterate 4 ((try (refine drvZ Try.func88 ?_; simp (maxSteps := 9999999) only [go_sem])); (try ((with_reducible refine And.intro ?_ ?_) <;> (repeat' with_reducible apply And.intro) <;> try exact sd)); (try first | refine XK.p h1 ok129 ?_ | refine XK.gp h1 ok129 ?_))
  refine RetOb.plain (d := DB _) ?_ rfl
  rw [← hR, ← hs]
  refine ⟨?_, rfl⟩
  rcases le3 ha with rfl | rfl | rfl | rfl <;> rfl
end Go.Proofs.Ytclgjiffpijgmaa.CtR

namespace Go.Proofs.Ytclgjiffpijgmaa.CtR
open Go Go.CT CtF

theorem labelS (p : Pg) (hl : p.vars.length ≤ mx) (hl2 : p.arrays.length ≤ mx) (h1 : lab3 p.vars) (h2 : lab3 p.arrays) : ∀ (d : Nat) (e : Ex), shape p d e = true → DC Try.prog 150 [.agg p.cells, .agg e.cells] [] (fun r h => r = DI .i64 (labN p.vars p.arrays d e) ∧ h = []) := by
  have hmx := mx_eq
  intro d
  induction d with
  | zero => intro e h; simp [shape] at h
  | succ d ih =>
    intro e hsh
    obtain ⟨k, v, ks⟩ := e
    obtain ⟨g1, g2, g3⟩ := shape_succ hsh
    obtain ⟨hl3, hla, hv0, hv1⟩ := fits_len g1
    obtain ⟨vs, ar, bd⟩ := p
    have h1 : lab3 vs := h1
    have h2 : lab3 ar := h2
    generalize hR : (fun (r : D) (h : List (Option (List C))) => r = DI .i64 (labN vs ar (d + 1) (.mk k v ks)) ∧ h = []) = R
    have hle := fun e => labN_le h1 h2 d e
    have hacc : ∀ i, ((ks.take i).map (labN vs ar d)).foldl (fun a b => a ||| b) (labB vs ar k v) ≤ 3 := fun i => by
      have := labN_le h1 h2 (d + 1) (.mk k v (ks.take i))
      exact this
    have hlb : labB vs ar k v ≤ 3 := hacc 0
    have key : k = 2 ∨ k = 3 ∨ (k ≠ 2 ∧ k ≠ 3) := by omega
    rcases key with hk | hk | hk
    case' inl =>
      have hv1' : v < vs.length := by subst hk; simpa [limit] using hv1
      have hx := (nth_mem (l := vs) hv0 hv1').1
      have hB : ((labB vs ar k v : Nat) : Int) = nth vs v := by have := nth_lab h1 v; simp [labB, hk]; omega
      have e2 : (k == 2) = true := by simp [hk]
      refine dcZ Try.func150 ?_
      simp (maxSteps := 9999999) only [go_sem]
      iterate 4 ((try (refine drvZ Try.func150 ?_; simp (maxSteps := 9999999) only [go_sem, hx, e2, eq_true hk])); (try ((with_reducible refine And.intro ?_ ?_) <;> (repeat' with_reducible apply And.intro) <;> try exact sd)))
    case' inr.inl =>
      have hv1' : v < ar.length := by subst hk; simpa [limit] using hv1
      have hx := (nth_mem (l := ar) hv0 hv1').1
      have hB : ((labB vs ar k v : Nat) : Int) = nth ar v := by have := nth_lab h2 v; simp [labB, hk]; omega
      have e2 : (k == 2) = false := by simp [hk]
      have e3 : (k == 3) = true := by simp [hk]
      have f2 : (k = 2) = False := by simp [hk]
      refine dcZ Try.func150 ?_
      simp (maxSteps := 9999999) only [go_sem]
      iterate 4 ((try (refine drvZ Try.func150 ?_; simp (maxSteps := 9999999) only [go_sem, hx, e2, e3, f2, eq_true hk])); (try ((with_reducible refine And.intro ?_ ?_) <;> (repeat' with_reducible apply And.intro) <;> try exact sd)))
    case' inr.inr =>
      have hB : ((labB vs ar k v : Nat) : Int) = 0 := by simp [labB, hk.1, hk.2]
      have e2 : (k == 2) = false := by simp [hk.1]
      have e3 : (k == 3) = false := by simp [hk.2]
      have hk2 := hk.1
      have hk3 := hk.2
      refine dcZ Try.func150 ?_
      simp (maxSteps := 9999999) only [go_sem]
      iterate 4 ((try (refine drvZ Try.func150 ?_; simp (maxSteps := 9999999) only [go_sem, e2, e3, hk2, hk3])); (try ((with_reducible refine And.intro ?_ ?_) <;> (repeat' with_reducible apply And.intro) <;> try exact sd)))
    all_goals
      clear hk
      refine Go.loopQ (fun i : Nat => [(2, .c (.ptr 0 0)), (3, .c (.ptr 64 0)), (5, DI .i64 (((ks.take i).map (labN vs ar d)).foldl (fun a b => a ||| b) (labB vs ar k v) : Nat)), (6, DI .i64 i)]) (fun i => [(0, some (Pg.cells ⟨vs, ar, bd⟩)), (64, some (Ex.cells (.mk k v ks)))])
        4096 (fun i => i ≤ ks.length) (fun i => ks.length - i) ?_ 0 some [] _ (Nat.zero_le _) ?_
      · intro i hi again
        rcases Nat.lt_or_ge i ks.length with hlt | hge
        · obtain ⟨⟨k', v', ks'⟩, hx⟩ : ∃ x, ks[i]? = some x := ⟨ks[i], by simp [hlt]⟩
          have hsc := lab_succ (labN vs ar d) (labB vs ar k v) ks i _ hx
          have ha := hacc i
          have hb := hle (.mk k' v' ks')
          have hc := hacc (i + 1)
          rw [hsc] at hc
          have hi := ih (.mk k' v' ks') (g2 _ (List.mem_of_getElem? hx))
          generalize ((ks.take i).map (labN vs ar d)).foldl (fun a b => a ||| b) (labB vs ar k v) = acc at *
          refine drvL Try.func150 ?_
          simp (maxSteps := 9999999) only [go_sem, hx, hlt]
          iterate 5 ((try (refine drvZ Try.func150 ?_; simp (maxSteps := 9999999) only [go_sem, hx, hlt])); (try ((with_reducible refine And.intro ?_ ?_) <;> (repeat' with_reducible apply And.intro) <;> try exact sd)); (try first | refine XK.p hi ok150 ?_ | refine XK.gp hi ok150 ?_))
          refine again (i + 1) some [] _ hlt (by omega) ?_
          simp (maxSteps := 9999999) only [go_sem, TmOK, DM, DMs, CM, CMs, forall_eq, exists_eq_left, Mq, HpOK, LowOK, hsc]
          simp
          rw [← List.map_take, hsc]
        · have hn : ¬ i < ks.length := by omega
          obtain rfl : i = ks.length := by omega
          refine drvL Try.func150 ?_
          simp (maxSteps := 9999999) only [go_sem, hn, List.take_length]
          iterate 2 ((try (refine drvZ Try.func150 ?_; simp (maxSteps := 9999999) only [go_sem, hn, List.take_length])); (try ((with_reducible refine And.intro ?_ ?_) <;> (repeat' with_reducible apply And.intro) <;> try exact sd)))
          exact RetOb.plain (d := DI .i64 _) (by rw [← hR]; exact ⟨rfl, rfl⟩) rfl
      · simp (maxSteps := 9999999) only [go_sem, TmOK, DM, DMs, CM, CMs, forall_eq, exists_eq_left, Mq, HpOK, LowOK, List.take_zero, List.map_nil, List.foldl_nil]
        simp [hB]
end Go.Proofs.Ytclgjiffpijgmaa.CtR

namespace Go.Proofs.Ytclgjiffpijgmaa.CtR
open Go Go.CT CtF

theorem any_succ (f : Ex → Bool) (ks : List Ex) (i : Nat) (x : Ex) (h : ks[i]? = some x) : (ks.take (i + 1)).any f = ((ks.take i).any f || f x) := by
  rw [List.take_add_one, h]; simp

theorem secretS (p : Pg) (hl : p.vars.length ≤ mx) (hl2 : p.arrays.length ≤ mx) (h1 : lab3 p.vars) (h2 : lab3 p.arrays) : ∀ (d : Nat) (e : Ex), shape p d e = true → DC Try.prog 167 [.agg p.cells, .agg e.cells] [] (fun r h => r = DB (secE p.vars p.arrays d e) ∧ h = []) := by
  have hmx := mx_eq
  intro d
  induction d with
  | zero => intro e h; simp [shape] at h
  | succ d ih =>
    intro e hsh
    have hlab := labelS p hl hl2 h1 h2 d
    obtain ⟨k, v, ks⟩ := e
    obtain ⟨g1, g2, g3⟩ := shape_succ hsh
    obtain ⟨hl3, hla, hv0, hv1⟩ := fits_len g1
    obtain ⟨vs, ar, bd⟩ := p
    have h1 : lab3 vs := h1
    have h2 : lab3 ar := h2
    have hE : secE vs ar (d + 1) (.mk k v ks) = ((k == 3 && secL (labN vs ar d (kid0 ks))) || ks.any (secE vs ar d)) := rfl
    have ret : ∀ (b : Bool) (hp : Hp), b = secE vs ar (d + 1) (.mk k v ks) → RetOb 0 (fun r h => r = DB (secE vs ar (d + 1) (.mk k v ks)) ∧ h = []) (DB b) hp := fun b hp h => RetOb.plain (d := DB _) ⟨by rw [h], rfl⟩ rfl
    simp only at ret ⊢
    generalize hR : (fun (r : D) (h : List (Option (List C))) => r = DB (secE vs ar (d + 1) (.mk k v ks)) ∧ h = []) = R at ret ⊢
    rw [hE] at ret
    clear hE hR
    have hany : ∀ i, i ≤ ks.length → (ks.take i).any (secE vs ar d) = true → ks.any (secE vs ar d) = true := fun i _ h => by
      obtain ⟨x, hx, hb⟩ := List.any_eq_true.1 h
      exact List.any_eq_true.2 ⟨x, List.mem_of_mem_take hx, hb⟩
    by_cases hk : k = 3
    case' pos =>
      have e3 : (k == 3) = true := by simp [hk]
      have hk := eq_true hk
      obtain ⟨⟨k0, v0, s0⟩, rfl⟩ : ∃ a, ks = [a] := by
        have : ks.length = 1 := by rw [of_eq_true hk] at hla; simp [arity] at hla; omega
        match ks, this with
        | [a], _ => exact ⟨a, rfl⟩
      have hla0 := hlab (.mk k0 v0 s0) (g2 _ (by simp))
      have hle := labN_le h1 h2 d (.mk k0 v0 s0)
      rw [e3] at ret
      simp only [Bool.true_and, kid0] at ret
      generalize hl0 : labN vs ar d (.mk k0 v0 s0) = l0 at *
      have hse := labelSecretS l0 hle
      generalize hb0 : secL l0 = b0 at *
      generalize hks : [Ex.mk k0 v0 s0] = ks at *
      have hx0 : ks[0]? = some (.mk k0 v0 s0) := by rw [← hks]; rfl
      refine dcZ Try.func167 ?_
      simp (maxSteps := 9999999) only [go_sem]
      iterate 5 ((try (refine drvZ Try.func167 ?_; simp (maxSteps := 9999999) only [go_sem, hx0, hk, e3])); (try ((with_reducible refine And.intro ?_ ?_) <;> (repeat' with_reducible apply And.intro) <;> try exact sd)); (try first | refine XK.p hla0 ok150 ?_ | refine XK.gp hla0 ok150 ?_ | refine XK.p hse ok166 ?_ | refine XK.gp hse ok166 ?_))
      · intro hbt; exact ret true _ (by rw [hbt]; rfl)
      intro hbf
      rw [hbf]
    case' neg =>
      obtain ⟨b0, hb0⟩ : ∃ b : Bool, b = (k == 3 && secL (labN vs ar d (kid0 ks))) := ⟨_, rfl⟩
      rw [← hb0] at ret
      have hbf : b0 = false := by rw [hb0]; simp [hk]
      clear hb0
      have e3 : (k == 3) = false := by simp [hk]
      rcases hx0 : ks[0]? with _ | ⟨k0, v0, s0⟩
      all_goals
        refine dcZ Try.func167 ?_
        simp (maxSteps := 9999999) only [go_sem]
        iterate 5 ((try (refine drvZ Try.func167 ?_; simp (maxSteps := 9999999) only [go_sem, hx0, hk, e3])); (try ((with_reducible refine And.intro ?_ ?_) <;> (repeat' with_reducible apply And.intro) <;> try exact sd)); (try first | refine XK.gs (DB false) ?_ | refine XK.gs (DI .i64 0) ?_))
    all_goals
      rw [hbf] at ret
      simp only [Bool.false_or] at ret
      clear hk e3
      refine Go.loopQ (fun i : Nat => [(2, .c (.ptr 0 0)), (3, .c (.ptr 64 0)), (5, DI .i64 i)]) (fun i => [(0, some (Pg.cells ⟨vs, ar, bd⟩)), (64, some (Ex.cells (.mk k v ks)))])
        4096 (fun i => i ≤ ks.length ∧ (ks.take i).any (secE vs ar d) = false) (fun i => ks.length - i) ?_ 0 some [] _ ⟨Nat.zero_le _, rfl⟩ ?_
      · rintro i ⟨hi, hai⟩ again
        rcases Nat.lt_or_ge i ks.length with hlt | hge
        · obtain ⟨⟨k', v', ks'⟩, hx⟩ : ∃ x, ks[i]? = some x := ⟨ks[i], by simp [hlt]⟩
          have hsc := any_succ (secE vs ar d) ks i _ hx
          have hi2 := ih (.mk k' v' ks') (g2 _ (List.mem_of_getElem? hx))
          have hay := hany (i + 1) hlt
          rw [hsc, hai, Bool.false_or] at hay
          rw [hai, Bool.false_or] at hsc
          simp only at hi2
          generalize hbi : secE vs ar d (.mk k' v' ks') = bi at *
          refine drvL Try.func167 ?_
          simp (maxSteps := 9999999) only [go_sem, hx, hlt]
          iterate 5 ((try (refine drvZ Try.func167 ?_; simp (maxSteps := 9999999) only [go_sem, hx, hlt])); (try ((with_reducible refine And.intro ?_ ?_) <;> (repeat' with_reducible apply And.intro) <;> try exact sd)); (try first | refine XK.p hi2 ok167 ?_ | refine XK.gp hi2 ok167 ?_))
          · intro hbt; exact ret true _ (hay hbt).symm
          · intro hbt
            iterate 3 ((try (refine drvZ Try.func167 ?_; simp (maxSteps := 9999999) only [go_sem, hx, hlt])); (try ((with_reducible refine And.intro ?_ ?_) <;> (repeat' with_reducible apply And.intro) <;> try exact sd)))
            refine again (i + 1) some [] _ ⟨hlt, by rw [hsc, hbt]⟩ (by omega) ?_
            simp (maxSteps := 9999999) only [go_sem, TmOK, DM, DMs, CM, CMs, forall_eq, exists_eq_left, Mq, HpOK, LowOK]
            simp
        · have hn : ¬ i < ks.length := by omega
          obtain rfl : i = ks.length := by omega
          rw [List.take_length] at hai
          refine drvL Try.func167 ?_
          simp (maxSteps := 9999999) only [go_sem, hn]
          iterate 3 ((try (refine drvZ Try.func167 ?_; simp (maxSteps := 9999999) only [go_sem, hn])); (try ((with_reducible refine And.intro ?_ ?_) <;> (repeat' with_reducible apply And.intro) <;> try exact sd)))
          exact ret false _ hai.symm
      · simp (maxSteps := 9999999) only [go_sem, TmOK, DM, DMs, CM, CMs, forall_eq, exists_eq_left, Mq, HpOK, LowOK]
        simp
end Go.Proofs.Ytclgjiffpijgmaa.CtR

namespace Go.Proofs.Ytclgjiffpijgmaa.CtR
open Go Go.CT CtF

theorem lab_at {l : List Int} (h : lab3 l) {t : Int} (h0 : 0 ≤ t) (h1 : t < l.length) : ∃ T : Nat, T ≤ 3 ∧ (nth l t).toNat = T ∧ l[t.toNat]? = some (T : Int) := by
  have h2 := nth_lab h t
  have h3 := (nth_mem h0 h1).1
  exact ⟨(nth l t).toNat, by omega, rfl, by rw [h3]; congr 1; omega⟩
theorem own1 (vs ar : List Int) (strict : Bool) (t : Int) (ix v : Ex) (cc : Int) (b e : List St1) (c : Nat) :
    ownR strict vs ar (.mk 1 t ix v cc b e) c = if subL (labN vs ar 5 v ||| c) (nth vs t).toNat = true then (if strict = true then (if secE vs ar 5 v = true then 4 else 0) else 0) else 1 := by
  have hf : flowR vs ar (.mk 1 t ix v cc b e) c = if subL (labN vs ar 5 v ||| c) (nth vs t).toNat = true then 0 else 1 := rfl
  have hk : leakR vs ar (.mk 1 t ix v cc b e) c = if secE vs ar 5 v = true then 4 else 0 := by
    cases hse : secE vs ar 5 v <;> simp [leakR, St1.kind, St1.value, St1.index, hse]
  unfold ownR
  rw [hf, hk]
  cases subL (labN vs ar 5 v ||| c) (nth vs t).toNat <;> simp
theorem own2 (vs ar : List Int) (strict : Bool) (t : Int) (ix v : Ex) (cc : Int) (b e : List St1) (c : Nat) :
    ownR strict vs ar (.mk 2 t ix v cc b e) c = if subL (labN vs ar 5 v ||| labN vs ar 5 ix ||| c) (nth ar t).toNat = true then (if strict = true then (if secE vs ar 5 v || secL (labN vs ar 5 ix) then 4 else 0) else 0) else 1 := by
  have hst : storedN vs ar (.mk 2 t ix v cc b e) c = labN vs ar 5 v ||| labN vs ar 5 ix ||| c := by
    have : storedN vs ar (.mk 2 t ix v cc b e) c = labN vs ar 5 v ||| c ||| labN vs ar 5 ix := rfl
    rw [this, Nat.or_assoc, Nat.or_comm c, ← Nat.or_assoc]
  have hf : flowR vs ar (.mk 2 t ix v cc b e) c = if subL (labN vs ar 5 v ||| labN vs ar 5 ix ||| c) (nth ar t).toNat = true then 0 else 1 := by
    rw [← hst]; rfl
  unfold ownR
  rw [hf]
  have hk : leakR vs ar (.mk 2 t ix v cc b e) c = if secE vs ar 5 v || secL (labN vs ar 5 ix) then 4 else 0 := by
    cases hse : secE vs ar 5 v <;> cases hsl : secL (labN vs ar 5 ix) <;> simp [leakR, St1.kind, St1.value, St1.index, hse, hsl]
  rw [hk]
  cases subL (labN vs ar 5 v ||| labN vs ar 5 ix ||| c) (nth ar t).toNat <;> simp
theorem own3 (vs ar : List Int) (strict : Bool) (t : Int) (ix v : Ex) (cc : Int) (b e : List St1) (c : Nat) :
    ownR strict vs ar (.mk 3 t ix v cc b e) c = if strict = true then (if secL (labN vs ar 5 v) = true then 3 else if secE vs ar 5 v = true then 4 else 0) else 0 := by
  simp only [ownR, flowR, leakR, St1.kind, St1.value]
  cases strict <;> simp
theorem own4 (vs ar : List Int) (strict : Bool) (t : Int) (ix : Ex) (cc : Int) (b e : List St1) (c : Nat) :
    ownR strict vs ar (.mk 4 t ix (.mk 0 0 []) cc b e) c = 0 := by
  simp only [ownR, flowR, leakR, St1.kind, St1.value, secE]
  cases strict <;> simp
theorem own5 (vs ar : List Int) (strict : Bool) (t : Int) (ix v : Ex) (cc : Int) (b e : List St1) (c : Nat) :
    ownR strict vs ar (.mk 5 t ix v cc b e) c = if trustL (labN vs ar 5 v) && c == 0 then (if strict = true then (if secE vs ar 5 v = true then 4 else 0) else 0) else 2 := by
  have hf : flowR vs ar (.mk 5 t ix v cc b e) c = if trustL (labN vs ar 5 v) && c == 0 then 0 else 2 := rfl
  have hk : leakR vs ar (.mk 5 t ix v cc b e) c = if secE vs ar 5 v = true then 4 else 0 := by
    cases hse : secE vs ar 5 v <;> simp [leakR, St1.kind, St1.value, St1.index, hse]
  unfold ownR
  rw [hf, hk]
  cases (trustL (labN vs ar 5 v) && c == 0) <;> simp

theorem ownS (p : Pg) (hl : p.vars.length ≤ mx) (hl2 : p.arrays.length ≤ mx) (h1 : lab3 p.vars) (h2 : lab3 p.arrays) (d : Nat) (s : St1) (hs : stmtOK p (d + 1) s = true) (c : Nat) (hc : c ≤ 3) (strict : Bool) :
    DC Try.prog 149 [.agg p.cells, .agg s.cells, DI .i64 c, DB strict] [] (fun r h => r = DI .i64 (ownR strict p.vars p.arrays s c) ∧ h = []) := by
  have hmx := mx_eq
  have hlab := labelS p hl hl2 h1 h2 5
  have hsec := secretS p hl hl2 h1 h2 5
  have hle := labN_le h1 h2 5
  obtain ⟨vs, ar, bd⟩ := p
  have h1 : lab3 vs := h1
  have h2 : lab3 ar := h2
  have ret : ∀ (n : Int) (hp : Hp), n = ownR strict vs ar s c → RetOb 0 (fun r h => r = DI .i64 (ownR strict vs ar s c) ∧ h = []) (DI .i64 n) hp := fun n hp h => RetOb.plain (d := DI .i64 _) ⟨by rw [h], rfl⟩ rfl
  simp only at ret hle ⊢
  generalize hR : (fun (r : D) (h : List (Option (List C))) => r = DI .i64 (ownR strict vs ar s c) ∧ h = []) = R at ret ⊢
  clear hR
  obtain ⟨k, t, ⟨ik, iv, iks⟩, ⟨vk, vv, vks⟩, cc, b, e⟩ := s
  have hh := head_kind (stmtOK_succ hs).1
  rcases hh with ⟨hk, ht0, ht1, hr⟩ | ⟨rfl, ht0, ht1, hri, hat, hr⟩ | ⟨rfl, hr⟩ | ⟨rfl, _, _⟩
  · have hlv := hlab _ (right_shape hr).1
    have hsv := hsec _ (right_shape hr).1
    have hlvl := hle (.mk vk vv vks)
    obtain ⟨T, hT, hTe, htt⟩ := lab_at h1 ht0 ht1
    rcases hk with rfl | rfl
    · rw [own1, hTe] at ret
      generalize labN vs ar 5 (.mk vk vv vks) = lv at *
      have hor := or3 hlvl hc
      have hfl := labelFlowsS (lv ||| c) T hor hT
      generalize subL (lv ||| c) T = sub at *
      simp only at hsv
      generalize secE vs ar 5 (.mk vk vv vks) = sv at *
      cases sub <;> cases strict <;> cases sv
      all_goals
        refine dcZ Try.func149 ?_
        simp (maxSteps := 9999999) only [go_sem]
        iterate 9 ((try (refine drvZ Try.func149 ?_; simp (maxSteps := 9999999) only [go_sem, htt])); (try ((with_reducible refine And.intro ?_ ?_) <;> (repeat' with_reducible apply And.intro) <;> try exact sd)); (try first | refine XK.p hlv ok150 ?_ | refine XK.gp hlv ok150 ?_ | refine XK.p hfl ok164 ?_ | refine XK.gp hfl ok164 ?_ | refine XK.p hsv ok167 ?_ | refine XK.gp hsv ok167 ?_ | refine XK.gs (DB false) ?_ | refine XK.gs (DI .i64 0) ?_))
      all_goals exact ret _ _ (by rfl)
    · rw [own5] at ret
      have hc0 : (c == 0) = decide (c = 0) := rfl
      generalize labN vs ar 5 (.mk vk vv vks) = lv at *
      have htr := labelTrustedS lv hlvl
      generalize trustL lv = tr at *
      simp only at hsv
      generalize secE vs ar 5 (.mk vk vv vks) = sv at *
      have hcz : c = 0 ∨ (c ≠ 0 ∧ ((c : Int) = 0) = False ∧ ((c : Int) != 0) = true) := by
        rcases Nat.eq_zero_or_pos c with h | h
        · exact .inl h
        · exact .inr ⟨by omega, eq_false (by omega), by simp; omega⟩
      rcases hcz with rfl | ⟨hc1, hc2, hc3⟩
      · cases tr <;> cases strict <;> cases sv
        all_goals
          refine dcZ Try.func149 ?_
          simp (maxSteps := 9999999) only [go_sem]
          iterate 9 ((try (refine drvZ Try.func149 ?_; simp (maxSteps := 9999999) only [go_sem, Int.natCast_zero])); (try ((with_reducible refine And.intro ?_ ?_) <;> (repeat' with_reducible apply And.intro) <;> try exact sd)); (try first | refine XK.p hlv ok150 ?_ | refine XK.gp hlv ok150 ?_ | refine XK.p htr ok165 ?_ | refine XK.gp htr ok165 ?_ | refine XK.p hsv ok167 ?_ | refine XK.gp hsv ok167 ?_ | refine XK.gs (DB false) ?_ | refine XK.gs (DI .i64 0) ?_))
        all_goals exact ret _ _ (by rfl)
      · have hce : (c == 0) = false := by simp [hc1]
        rw [hce] at ret
        cases tr <;> cases strict <;> cases sv
        all_goals
          refine dcZ Try.func149 ?_
          simp (maxSteps := 9999999) only [go_sem]
          iterate 9 ((try (refine drvZ Try.func149 ?_; simp (maxSteps := 9999999) only [go_sem, hc2, hc3])); (try ((with_reducible refine And.intro ?_ ?_) <;> (repeat' with_reducible apply And.intro) <;> try exact sd)); (try first | refine XK.p hlv ok150 ?_ | refine XK.gp hlv ok150 ?_ | refine XK.p htr ok165 ?_ | refine XK.gp htr ok165 ?_ | refine XK.p hsv ok167 ?_ | refine XK.gp hsv ok167 ?_ | refine XK.gs (DB false) ?_ | refine XK.gs (DI .i64 0) ?_))
        all_goals exact ret _ _ (by rfl)
  · have hlv := hlab _ (right_shape hr).1
    have hli := hlab _ (right_shape hri).1
    have hsv := hsec _ (right_shape hr).1
    have hlvl := hle (.mk vk vv vks)
    have hlil := hle (.mk ik iv iks)
    obtain ⟨T, hT, hTe, htt⟩ := lab_at h2 ht0 ht1
    rw [own2, hTe] at ret
    generalize labN vs ar 5 (.mk vk vv vks) = lv at *
    generalize labN vs ar 5 (.mk ik iv iks) = li at *
    have hvi := or3 hlvl hlil
    have hor := or3 hvi hc
    have hfl := labelFlowsS (lv ||| li ||| c) T hor hT
    have hsl := labelSecretS li hlil
    generalize subL (lv ||| li ||| c) T = sub at *
    generalize secL li = sl at *
    simp only at hsv
    generalize secE vs ar 5 (.mk vk vv vks) = sv at *
    cases sub <;> cases strict <;> cases sv <;> cases sl
    all_goals
      refine dcZ Try.func149 ?_
      simp (maxSteps := 9999999) only [go_sem]
      iterate 9 ((try (refine drvZ Try.func149 ?_; simp (maxSteps := 9999999) only [go_sem, htt])); (try ((with_reducible refine And.intro ?_ ?_) <;> (repeat' with_reducible apply And.intro) <;> try exact sd)); (try first | refine XK.p hlv ok150 ?_ | refine XK.gp hlv ok150 ?_ | refine XK.p hli ok150 ?_ | refine XK.gp hli ok150 ?_ | refine XK.p hfl ok164 ?_ | refine XK.gp hfl ok164 ?_ | refine XK.p hsv ok167 ?_ | refine XK.gp hsv ok167 ?_ | refine XK.p hsl ok166 ?_ | refine XK.gp hsl ok166 ?_ | refine XK.gs (DB false) ?_ | refine XK.gs (DI .i64 0) ?_))
    all_goals exact ret _ _ (by rfl)
  · have hlv := hlab _ (right_shape hr).1
    have hsv := hsec _ (right_shape hr).1
    have hlvl := hle (.mk vk vv vks)
    rw [own3] at ret
    generalize labN vs ar 5 (.mk vk vv vks) = lv at *
    have hsl := labelSecretS lv hlvl
    generalize secL lv = sl at *
    simp only at hsv
    generalize secE vs ar 5 (.mk vk vv vks) = sv at *
    cases strict <;> cases sv <;> cases sl
    all_goals
      refine dcZ Try.func149 ?_
      simp (maxSteps := 9999999) only [go_sem]
      iterate 9 ((try (refine drvZ Try.func149 ?_; simp (maxSteps := 9999999) only [go_sem])); (try ((with_reducible refine And.intro ?_ ?_) <;> (repeat' with_reducible apply And.intro) <;> try exact sd)); (try first | refine XK.p hlv ok150 ?_ | refine XK.gp hlv ok150 ?_ | refine XK.p hsv ok167 ?_ | refine XK.gp hsv ok167 ?_ | refine XK.p hsl ok166 ?_ | refine XK.gp hsl ok166 ?_ | refine XK.gs (DB false) ?_ | refine XK.gs (DI .i64 0) ?_))
    all_goals exact ret _ _ (by rfl)
  · obtain ⟨hv1, hv2⟩ := CtD.val_none hs
    cases hv2
    rw [own4] at ret
    cases strict
    all_goals
      refine dcZ Try.func149 ?_
      simp (maxSteps := 9999999) only [go_sem]
      iterate 9 ((try (refine drvZ Try.func149 ?_; simp (maxSteps := 9999999) only [go_sem])); (try ((with_reducible refine And.intro ?_ ?_) <;> (repeat' with_reducible apply And.intro) <;> try exact sd)); (try first | refine XK.gs (DB false) ?_ | refine XK.gs (DI .i64 0) ?_))
    all_goals exact ret _ _ (by rfl)
end Go.Proofs.Ytclgjiffpijgmaa.CtR
