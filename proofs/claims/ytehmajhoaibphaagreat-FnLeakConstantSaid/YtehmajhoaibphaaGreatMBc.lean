/- Contracts of functions of the program, one behind the other, as plain data: what each call returns and which blocks it leaves. -/
import Derived.Test.YtehmajhoaibphaaGreatMFacts
import Derived.Test.YtehmajhoaibphaaGreatMAj
import Derived.Test.YtehmajhoaibphaaGreatMAk
import Derived.Test.YtehmajhoaibphaaGreatMAu
import Derived.Test.YtehmajhoaibphaaGreatMAv
import Derived.Test.YtehmajhoaibphaaGreatMAy
import Derived.Test.YtehmajhoaibphaaGreatMAz
import Derived.Test.YtehmajhoaibphaaGreatMBa
import Derived.Test.YtehmajhoaibphaaGreatMAl
import Derived.Test.YtehmajhoaibphaaGreatMAn
import Derived.Test.YtehmajhoaibphaaGreatMBb
import Derived.Test.YtehmajhoaibphaaGreatMAm
import Derived.Test.YtehmajhoaibphaaGreatMAq
import Derived.Test.YtehmajhoaibphaaGreatMAt
import Derived.Test.YtehmajhoaibphaaGreatMAw
import Derived.Test.YtehmajhoaibphaaGreatMAo
import Derived.Test.YtehmajhoaibphaaGreatMAs
import Derived.Test.YtehmajhoaibphaaGreatMAr
set_option linter.unusedVariables false
set_option linter.unusedSimpArgs false
set_option maxHeartbeats 16000000
set_option maxRecDepth 100000
namespace Go.Proofs.YtehmajhoaibphaaGreat.CtD
open Go Go.CT CtF CtR

/-- A set as a list of bools. -/
def bl (n N : Nat) : List Bool := (List.range n).map fun i => N.testBit i
theorem bl_len (n N : Nat) : (bl n N).length = n := by simp [bl]
theorem bl_succ (n N : Nat) : bl (n + 1) N = bl n N ++ [N.testBit n] := by simp [bl, List.range_succ]
theorem elementsI (p : Pg) {w : Nat} (hw : p.vars.length + p.arrays.length = w) (hw14 : w ≤ 14) (N : Nat) (hN : N < 2 ^ w) : DC Tryz.prog 69 [.agg p.cells, DI .i64 (N : Int)] [] (fun r h => r = .c (boolsD (bl w N)) ∧ h = []) := by
  have hmx := mx_eq
  have hce := cellsI p (by omega) (by omega)
  rw [hw] at hce
  have hN14 := pow14 hw14 hN
  obtain ⟨vs, ar, bd⟩ := p
  generalize hR : (fun (r : D) (h : List (Option (List C))) => r = .c (boolsD (bl w N)) ∧ h = []) = R
  refine dcZ Tryz.func69 ?_
  simp (maxSteps := 9999999) only [go_sem]
  iterate 3 ((try (refine drvZ Tryz.func69 ?_; simp (maxSteps := 9999999) only [go_sem])); (try ((with_reducible refine And.intro ?_ ?_) <;> (repeat' with_reducible apply And.intro) <;> try exact sd)); (try first | refine XK.p hce ok112 ?_ | refine XK.gp hce ok112 ?_))
  refine Go.loopQ (fun i : Nat => [(1, DI .i64 N), (5, .c (.msl 64 1 0 i)), (8, DI .i64 w), (9, DI .i64 i)]) (fun i => [(64, some (boolsC (bl i N)))]) 4096 (fun i => i ≤ w) (fun i => w - i) ?_ 0 (fun j => if j = 64 then none else some j) [] _ (Nat.zero_le _) ?_
  · intro i hi again
    have hbl := bl_len i N
    have hbc := boolsC_len (bl i N)
    have hsn := boolsC_snoc (bl i N) (N.testBit i)
    rw [← bl_succ] at hsn
    rcases Nat.lt_or_ge i w with hlt | hge
    · have htb := tbit N i
      have hd0 : 0 ≤ (N : Int) / 2 ^ i := Int.ediv_nonneg (by omega) (by exact Int.pow_nonneg (by omega))
      have hd1 : (N : Int) / 2 ^ i ≤ N := Int.ediv_le_self _ (by omega)
      have hdK : InK .i64 ((N : Int) / 2 ^ i) := by
        generalize (N : Int) / 2 ^ i = q at *
        simp only [InK]; omega
      have hbit : (if N.testBit i = true then (1 : Int) else 0) = 1 ↔ N.testBit i = true := by cases N.testBit i <;> simp
      generalize bl i N = L at *
      generalize N.testBit i = tb at *
      cases tb
      all_goals
        simp only [if_true, Bool.false_eq_true, if_false] at htb
        refine drvL Tryz.func69 ?_
        simp (maxSteps := 9999999) only [go_sem, hlt]
        iterate 6 ((try (refine drvZ Tryz.func69 ?_; simp (maxSteps := 9999999) only [go_sem, hlt, htb, hd0, hdK, hbc, and_self])); (try ((with_reducible refine And.intro ?_ ?_) <;> (repeat' with_reducible apply And.intro) <;> try exact sd)); (try first | refine XK.p hce ok112 ?_ | refine XK.gp hce ok112 ?_))
      all_goals
        refine again (i + 1) (fun j => if j = 64 then some 4736 else none) [] _ hlt (by omega) ?_
        simp (maxSteps := 9999999) only [go_sem, TmOK, DM, DMs, CM, CMs, forall_eq, exists_eq_left, Mq, HpOK, LowOK, hsn]
        simp
        rw [← hsn]
        exact CMs.kf (boolsC_kf _)
    · have hn : ¬ i < w := by omega
      obtain rfl : i = w := by omega
      refine drvL Tryz.func69 ?_
      simp (maxSteps := 9999999) only [go_sem, hn]
      iterate 4 ((try (refine drvZ Tryz.func69 ?_; simp (maxSteps := 9999999) only [go_sem, hn])); (try ((with_reducible refine And.intro ?_ ?_) <;> (repeat' with_reducible apply And.intro) <;> try exact sd)); (try first | refine XK.p hce ok112 ?_ | refine XK.gp hce ok112 ?_))
      refine RetOb.frozen (xs := (bl i N).map fun b => [BC b]) (by rw [← hR]; exact ⟨rfl, rfl⟩) ?_ ?_ ?_ ?_
      · rw [boolsC_flat]; simp [hOf, upd]
      · simp [hbl]
      · intro x hx
        obtain ⟨b, _, rfl⟩ := List.mem_map.1 hx
        rfl
      · intro x hx c hc
        obtain ⟨b, _, rfl⟩ := List.mem_map.1 hx
        simp only [List.mem_singleton] at hc
        subst hc; rfl
  · simp (maxSteps := 9999999) only [go_sem, TmOK, DM, DMs, CM, CMs, forall_eq, exists_eq_left, Mq, HpOK, LowOK]
    simp [bl, boolsC]
end Go.Proofs.YtehmajhoaibphaaGreat.CtD

namespace Go.Proofs.YtehmajhoaibphaaGreat.CtD
open Go Go.CT CtF CtR

def pws (i : Nat) : List Nat := (List.range i).map fun i => 2 ^ i
theorem pws_len (i : Nat) : (pws i).length = i := by simp [pws]
theorem pws_succ (i : Nat) : pws (i + 1) = pws i ++ [2 ^ i] := by simp [pws, List.range_succ]
theorem start_ok {w : Nat} (hw : w ≤ 14) : Okd w (startD w) :=
  ⟨by simp [startD], hw, fun a ha => by
    obtain ⟨i, hi, rfl⟩ := List.mem_map.1 ha
    exact Nat.pow_lt_pow_right (by omega) (List.mem_range.1 hi), Nat.two_pow_pos w, Nat.two_pow_pos w⟩
theorem nI_snoc (S : List Nat) (x : Nat) : (nI (S ++ [x])).map I64 = (nI S).map I64 ++ [.v (.int .i64 (x : Int))] := by simp [nI]
theorem analysedI (p : Pg) {w : Nat} (hw : p.vars.length + p.arrays.length = w) (hw14 : w ≤ 14) (w0 : 0 < w) (hok : ∀ s ∈ p.body, stmtOK p 5 s = true) (hsz : lsize 5 p.body ≤ 1000) : DC Tryz.prog 68 [.agg p.cells] []
    (fun r h => r = .tup [.c (.ptr 0 0), .c (.msl 1 1 0 w)] ∧ h = [some (dpB p (depP p).tr (depP p).re), some ((nI (depP p).sets).map I64)]) := by
  have hmx := mx_eq
  have hce := cellsI p (by omega) (by omega)
  rw [hw] at hce
  have hrun := runDI p hw hw14 w0 5 p.body (startD w) 0 (start_ok hw14) (Nat.two_pow_pos w) hok hsz
  have hdp : foldD p.vars.length 5 0 p.body (startD w) = depP p := by unfold depP; rw [hw]
  rw [hdp] at hrun
  have hst : (startD w).sets = pws w := rfl
  have hst2 : (startD w).tr = 0 := rfl
  have hst3 : (startD w).re = 0 := rfl
  rw [hst, hst2, hst3] at hrun
  generalize depP p = X at *
  obtain ⟨xs, xt, xr⟩ := X
  obtain ⟨vs, ar, bd⟩ := p
  simp only at hrun
  generalize hR : (fun (r : D) (h : List (Option (List C))) => r = .tup [.c (.ptr 0 0), .c (.msl 1 1 0 w)] ∧ h = _) = R
  refine dcZ Tryz.func68 ?_
  simp (maxSteps := 9999999) only [go_sem]
  iterate 4 ((try (refine drvZ Tryz.func68 ?_; simp (maxSteps := 9999999) only [go_sem])); (try ((with_reducible refine And.intro ?_ ?_) <;> (repeat' with_reducible apply And.intro) <;> try exact sd)); (try first | refine XK.p hce ok112 ?_ | refine XK.gp hce ok112 ?_))
  refine Go.loopQ (fun i : Nat => [(1, .c (.ptr 0 0)), (4, .c (.ptr 320 0)), (5, .c (.msl 64 1 0 i)), (11, DI .i64 w), (12, DI .i64 i)])
    (fun i => [(0, some (Pg.cells ⟨vs, ar, bd⟩)), (320, some (dpB ⟨vs, ar, bd⟩ 0 0)), (64, some ((nI (pws i)).map I64))]) 4096 (fun i => i ≤ w) (fun i => w - i) ?_ 0 (fun j => if j = 64 then none else some j) [] _ (Nat.zero_le _) ?_
  · intro i hi again
    have hsn := nI_snoc (pws i) (2 ^ i)
    rw [← pws_succ] at hsn
    have hpl := pws_len i
    have hnl := nI_len (pws i)
    rcases Nat.lt_or_ge i w with hlt | hge
    · have h2 : 2 ^ i < 2 ^ w := Nat.pow_lt_pow_right (by omega) hlt
      have h3 := pow14 hw14 h2
      have hsh : (1 : Int) * 2 ^ i = ((2 ^ i : Nat) : Int) := by rw [Int.one_mul, Int.natCast_pow]; rfl
      have hsh2 : (2 : Int) ^ i = ((2 ^ i : Nat) : Int) := by rw [Int.natCast_pow]; rfl
      have hi14 : i < 14 := by omega
      generalize 2 ^ i = q at *
      refine drvL Tryz.func68 ?_
      simp (maxSteps := 9999999) only [go_sem, hlt]
      iterate 6 ((try (refine drvZ Tryz.func68 ?_; simp (maxSteps := 9999999) only [go_sem, hlt, hsh, hsh2, Int.one_mul, hnl, hpl])); (try ((with_reducible refine And.intro ?_ ?_) <;> (repeat' with_reducible apply And.intro) <;> try exact sd)); (try first | refine XK.p hce ok112 ?_ | refine XK.gp hce ok112 ?_))
      refine again (i + 1) (fun j => if j = 64 then some 4544 else some j) [] _ hlt (by omega) ?_
      simp (maxSteps := 9999999) only [go_sem, TmOK, DM, DMs, CM, CMs, forall_eq, exists_eq_left, Mq, HpOK, LowOK, hsn, dpB_eq]
      simp
      rw [← hsn]
      exact CMs.kf (kf_I _)
    · have hn : ¬ i < w := by omega
      obtain rfl : i = w := by omega
      refine drvL Tryz.func68 ?_
      simp (maxSteps := 9999999) only [go_sem, hn]
      iterate 2 ((try (refine drvZ Tryz.func68 ?_; simp (maxSteps := 9999999) only [go_sem, hn])); (try ((with_reducible refine And.intro ?_ ?_) <;> (repeat' with_reducible apply And.intro) <;> try exact sd)); (try first | refine XK.p hce ok112 ?_ | refine XK.gp hce ok112 ?_))
      refine XK.callG [320, 64] hrun ok113 (hhpG (by simp [HH, renCs_I, dpB_ren, upd, hOf])) (hbT ()) (fun d h' ⟨_, e⟩ => by subst e; simp) ?_
      rintro _ _ ⟨rfl, rfl⟩ _
      iterate 3 ((try (refine drvZ Tryz.func68 ?_; simp (maxSteps := 9999999) only [go_sem, renCs_I, dpB_ren])); (try ((with_reducible refine And.intro ?_ ?_) <;> (repeat' with_reducible apply And.intro) <;> try exact sd)))
      refine RetOb.ofQ (fun j => if j = 0 then some 320 else if j = 1 then some 4480 else none) [] (.tup [.c (.ptr 0 0), .c (.msl 1 1 0 i)]) [some (dpB ⟨vs, ar, bd⟩ xt xr), some ((nI xs).map I64)] ?_ (by rw [← hR]; exact ⟨rfl, rfl⟩) (by simp)
      simp [enumL, DM, DMs, CM, HpOK, LowOK, hOf, upd, hpL]
      repeat' with_reducible apply And.intro
      all_goals first | exact CMs.kf (kf_I _) | exact CMs.kf (dpB_all ⟨vs, ar, bd⟩ _ _)
  · simp (maxSteps := 9999999) only [go_sem, TmOK, DM, DMs, CM, CMs, forall_eq, exists_eq_left, Mq, HpOK, LowOK, dpB_eq]
    simp [pws, nI, hpL]
end Go.Proofs.YtehmajhoaibphaaGreat.CtD

namespace Go.Proofs.YtehmajhoaibphaaGreat.CtD
open Go Go.CT CtF CtR

theorem depP_ok (p : Pg) {w : Nat} (hw : p.vars.length + p.arrays.length = w) (hw14 : w ≤ 14) : Okd w (depP p) := by
  unfold depP; rw [hw]; exact foldl_ok (Nat.two_pow_pos w) _ (start_ok hw14)
theorem traceDependsI (p : Pg) {w : Nat} (hw : p.vars.length + p.arrays.length = w) (hw14 : w ≤ 14) (w0 : 0 < w) (hok : progOK p = true) : DC Tryz.prog 24 [.agg p.cells] []
    (fun r h => r = .c (boolsD (bl w (depP p).tr)) ∧ h = []) := by
  have hmx := mx_eq
  have hv := programValidI p (by omega) (by omega)
  rw [hok] at hv
  have han := analysedI p hw hw14 w0 (body_of hok).1 (by have := (body_of hok).2; omega)
  have hX := depP_ok p hw hw14
  have hel := elementsI p hw hw14 (depP p).tr hX.tr
  generalize depP p = X at *
  obtain ⟨xs, xt, xr⟩ := X
  obtain ⟨vs, ar, bd⟩ := p
  simp only at hel
  generalize hR : (fun (r : D) (h : List (Option (List C))) => r = .c (boolsD (bl w xt)) ∧ h = []) = R
  refine dcZ Tryz.func24 ?_
  simp (maxSteps := 9999999) only [go_sem]
  iterate 3 ((try (refine drvZ Tryz.func24 ?_; simp (maxSteps := 9999999) only [go_sem])); (try ((with_reducible refine And.intro ?_ ?_) <;> (repeat' with_reducible apply And.intro) <;> try exact sd)); (try first | refine XK.p hv ok46 ?_ | refine XK.gp hv ok46 ?_))
  refine XK.callG [] han ok68 (fun i' x h => by simp at h) (hbT ()) (fun d h' ⟨_, e⟩ => by subst e; simp) ?_
  rintro _ _ ⟨rfl, rfl⟩ _
  iterate 5 ((try (refine drvZ Tryz.func24 ?_; simp (maxSteps := 9999999) only [go_sem, renCs_I, dpB_eq, boolsD])); (try ((with_reducible refine And.intro ?_ ?_) <;> (repeat' with_reducible apply And.intro) <;> try exact sd)); (try first | refine XK.p hel ok69 ?_ | refine XK.gp hel ok69 ?_))
  subst hR
  exact RetOb.plain (d := .c (boolsD (bl w xt))) ⟨rfl, rfl⟩ rfl
end Go.Proofs.YtehmajhoaibphaaGreat.CtD

namespace Go.Proofs.YtehmajhoaibphaaGreat.CtR
open Go Go.CT CtF

def idxE (q : Ex → Bool) : List Ex → Int → Int
  | [], _ => -1
  | x :: r, i => if q x then i else idxE q r (i + 1)
theorem idxE_any (q : Ex → Bool) : ∀ (xs : List Ex) (i : Int), 0 ≤ i → decide (0 ≤ idxE q xs i) = xs.any q
  | [], i, _ => by simp [idxE]
  | x :: r, i, h => by
    unfold idxE
    by_cases hq : q x = true
    · simp [hq, h]
    · simp only [hq, Bool.false_eq_true, if_false, List.any_cons, Bool.not_eq_true] at *
      rw [idxE_any q r (i + 1) (by omega)]; simp [hq]
theorem indexFuncE (g : Nat) (q : Ex → Bool) (p : Pg) (xs : List Ex) (hl : xs.length ≤ 3) (hok : fnOK Tryz.prog g = true) (hg : ∀ e ∈ xs, DC Tryz.prog g [.agg p.cells, .agg e.cells] [] (fun d h => d = DB (q e) ∧ h = [])) :
    DC Tryz.prog 184 [.c (.isl 3 (Ex.cellsL xs)), .c (.met g p.cells)] [] (fun d h => d = DI .i64 (idxE q xs 0) ∧ h = []) := by
  have hmx := mx_eq
  have ret : ∀ (n : Int) (hp : Hp), n = idxE q xs 0 → RetOb 0 (fun d h => d = DI .i64 (idxE q xs 0) ∧ h = []) (DI .i64 n) hp := fun n hp h => RetOb.plain (d := DI .i64 _) ⟨by rw [h], rfl⟩ rfl
  generalize hR : (fun (d : D) (h : List (Option (List C))) => d = DI .i64 (idxE q xs 0) ∧ h = []) = R at ret ⊢
  clear hR
  obtain ⟨vs, ar, bd⟩ := p
  refine dcZ Tryz.func184 ?_
  simp (maxSteps := 9999999) only [go_sem]
  ((try (refine drvZ Tryz.func184 ?_; simp (maxSteps := 9999999) only [go_sem])); (try ((with_reducible refine And.intro ?_ ?_) <;> (repeat' with_reducible apply And.intro) <;> try exact sd)))
  refine Go.loopQ (fun i : Nat => [(0, .c (.isl 3 (Ex.cellsL xs))), (1, .c (.met g (Pg.cells ⟨vs, ar, bd⟩))), (7, DI .i64 xs.length), (8, DI .i64 i)]) (fun _ => []) 1024 (fun i => i ≤ xs.length ∧ idxE q (xs.drop i) i = idxE q xs 0) (fun i => xs.length - i) ?_ 0 some [] _ ⟨Nat.zero_le _, rfl⟩ ?_
  · intro i hi again
    rcases Nat.lt_or_ge i xs.length with hlt | hge
    · obtain ⟨⟨k, v, ks⟩, hx⟩ : ∃ x, xs[i]? = some x := ⟨xs[i], by simp [hlt]⟩
      have hgx := hg _ (List.mem_of_getElem? hx)
      have hdrop : xs.drop i = .mk k v ks :: xs.drop (i + 1) := by
        obtain ⟨_, e⟩ := List.getElem?_eq_some_iff.1 hx
        rw [List.drop_eq_getElem_cons hlt, e]
      have hI := hi.2
      rw [hdrop] at hI
      simp only [idxE] at hI
      cases hq : q (.mk k v ks) with
      | true =>
        rw [hq] at hgx hI
        refine drvL Tryz.func184 ?_
        simp (maxSteps := 9999999) only [go_sem, hx, hlt]
        iterate 3 ((try (refine drvZ Tryz.func184 ?_; simp (maxSteps := 9999999) only [go_sem, hx, hlt])); (try ((with_reducible refine And.intro ?_ ?_) <;> (repeat' with_reducible apply And.intro) <;> try exact sd)); (try first | refine XK.p hgx hok ?_ | refine XK.gp hgx hok ?_))
        exact ret _ _ (by simpa using hI)
      | false =>
        rw [hq] at hgx hI
        refine drvL Tryz.func184 ?_
        simp (maxSteps := 9999999) only [go_sem, hx, hlt]
        iterate 4 ((try (refine drvZ Tryz.func184 ?_; simp (maxSteps := 9999999) only [go_sem, hx, hlt])); (try ((with_reducible refine And.intro ?_ ?_) <;> (repeat' with_reducible apply And.intro) <;> try exact sd)); (try first | refine XK.p hgx hok ?_ | refine XK.gp hgx hok ?_))
        refine again (i + 1) some [] _ ⟨hlt, by simpa using hI⟩ (by omega) ?_
        simp (maxSteps := 9999999) only [go_sem, TmOK, DM, DMs, CM, CMs, forall_eq, exists_eq_left, Mq, HpOK, LowOK]
        try simp
    · have hn : ¬ i < xs.length := by omega
      refine drvL Tryz.func184 ?_
      simp (maxSteps := 9999999) only [go_sem, hn]
      iterate 3 ((try (refine drvZ Tryz.func184 ?_; simp (maxSteps := 9999999) only [go_sem, hn])); (try ((with_reducible refine And.intro ?_ ?_) <;> (repeat' with_reducible apply And.intro) <;> try exact sd)))
      refine ret _ _ ?_
      rw [← hi.2, List.drop_of_length_le hge]; rfl
  · simp (maxSteps := 9999999) only [go_sem, TmOK, DM, DMs, CM, CMs, forall_eq, exists_eq_left, Mq, HpOK, LowOK]
    try simp
theorem containsFuncE (g : Nat) (q : Ex → Bool) (p : Pg) (xs : List Ex) (hl : xs.length ≤ 3) (hok : fnOK Tryz.prog g = true) (hg : ∀ e ∈ xs, DC Tryz.prog g [.agg p.cells, .agg e.cells] [] (fun d h => d = DB (q e) ∧ h = [])) :
    DC Tryz.prog 166 [.c (.isl 3 (Ex.cellsL xs)), .c (.met g p.cells)] [] (fun d h => d = DB (xs.any q) ∧ h = []) := by
  have hif := indexFuncE g q p xs hl hok hg
  have hia := idxE_any q xs 0 (by omega)
  rw [← hia]
  generalize idxE q xs 0 = n at *
  obtain ⟨vs, ar, bd⟩ := p
  refine dcZ Tryz.func166 ?_
  simp (maxSteps := 9999999) only [go_sem]
  iterate 3 ((try (refine drvZ Tryz.func166 ?_; simp (maxSteps := 9999999) only [go_sem])); (try ((with_reducible refine And.intro ?_ ?_) <;> (repeat' with_reducible apply And.intro) <;> try exact sd)); (try first | refine XK.p hif ok184 ?_ | refine XK.gp hif ok184 ?_))
  exact RetOb.plain (d := DB _) ⟨rfl, rfl⟩ rfl
theorem secretReadI (p : Pg) (hl : p.vars.length ≤ mx) (hl2 : p.arrays.length ≤ mx) (h1 : lab3 p.vars) (h2 : lab3 p.arrays) : ∀ (d : Nat) (e : Ex), shape p d e = true →
    DC Tryz.prog 115 [.agg p.cells, .agg e.cells] [] (fun r h => r = DB (secE p.vars p.arrays d e) ∧ h = []) := by
  have hmx := mx_eq
  intro d
  induction d with
  | zero => intro e h; simp [shape] at h
  | succ d ih =>
    intro e hsh
    obtain ⟨k, v, ks⟩ := e
    obtain ⟨g1, g2, g3⟩ := shape_succ hsh
    obtain ⟨hl3, hla, hv0, hv1⟩ := fits_len g1
    have hcf := containsFuncE 115 (secE p.vars p.arrays d) p ks hl3 ok115 (fun e he => ih e (g2 e he))
    have hlb := labelI p hl hl2 h1 h2 d
    have hle := labN_le h1 h2 d
    have ret : ∀ (b : Bool) (hp : Hp), b = secE p.vars p.arrays (d + 1) (.mk k v ks) → RetOb 0 (fun r h => r = DB (secE p.vars p.arrays (d + 1) (.mk k v ks)) ∧ h = []) (DB b) hp := fun b hp h => RetOb.plain (d := DB _) ⟨by rw [h], rfl⟩ rfl
    generalize hR : (fun (r : D) (h : List (Option (List C))) => r = DB (secE p.vars p.arrays (d + 1) (.mk k v ks)) ∧ h = []) = R at ret ⊢
    clear hR
    simp only [secE] at ret
    generalize hany : ks.any (secE p.vars p.arrays d) = an at *
    obtain ⟨vs, ar, bd⟩ := p
    by_cases hk : k = 3
    · subst hk
      have h1' : ks.length = 1 := by simp [arity] at hla; omega
      match ks, h1' with
      | [a], _ =>
        have hlv := hlb a (g2 a (by simp))
        have hlvl := hle a
        simp only [kid0, beq_self_eq_true, Bool.true_and] at ret
        generalize labN vs ar d a = lv at *
        have hse := labelSecretI lv hlvl
        generalize secL lv = s at *
        obtain ⟨ak, av, aks⟩ := a
        simp only [Ex.cellsL, List.length_cons, List.length_nil] at hcf
        cases s with
        | true =>
          refine dcZ Tryz.func115 ?_
          simp (maxSteps := 9999999) only [go_sem, Ex.cellsL]
          iterate 6 ((try (refine drvZ Tryz.func115 ?_; simp (maxSteps := 9999999) only [go_sem, Ex.cellsL, beq_self_eq_true])); (try ((with_reducible refine And.intro ?_ ?_) <;> (repeat' with_reducible apply And.intro) <;> try exact sd)); (try first | refine XK.p hlv ok95 ?_ | refine XK.gp hlv ok95 ?_ | refine XK.p hse ok27 ?_ | refine XK.gp hse ok27 ?_ | refine XK.gs (DB false) ?_))
          exact ret _ _ (by simp)
        | false =>
          refine dcZ Tryz.func115 ?_
          simp (maxSteps := 9999999) only [go_sem, Ex.cellsL]
          iterate 6 ((try (refine drvZ Tryz.func115 ?_; simp (maxSteps := 9999999) only [go_sem, Ex.cellsL, beq_self_eq_true])); (try ((with_reducible refine And.intro ?_ ?_) <;> (repeat' with_reducible apply And.intro) <;> try exact sd)); (try first | refine XK.p hlv ok95 ?_ | refine XK.gp hlv ok95 ?_ | refine XK.p hse ok27 ?_ | refine XK.gp hse ok27 ?_ | refine XK.p hcf ok166 ?_ | refine XK.gp hcf ok166 ?_))
          exact ret _ _ (by simp)
    · have ek : (k == 3) = false := by simp [hk]
      have fk : (k = 3) = False := eq_false hk
      rw [ek] at ret
      cases ks with
      | nil =>
        refine dcZ Tryz.func115 ?_
        simp (maxSteps := 9999999) only [go_sem, Ex.cellsL, ek, fk]
        iterate 6 ((try (refine drvZ Tryz.func115 ?_; simp (maxSteps := 9999999) only [go_sem, Ex.cellsL, ek, fk])); (try ((with_reducible refine And.intro ?_ ?_) <;> (repeat' with_reducible apply And.intro) <;> try exact sd)); (try first | refine XK.p hcf ok166 ?_ | refine XK.gp hcf ok166 ?_ | refine XK.gs (DB false) ?_ | refine XK.gs (DI .i64 0) ?_))
        exact ret _ _ (by simp)
      | cons a r =>
        obtain ⟨ak, av, aks⟩ := a
        refine dcZ Tryz.func115 ?_
        simp (maxSteps := 9999999) only [go_sem, Ex.cellsL, ek, fk]
        iterate 6 ((try (refine drvZ Tryz.func115 ?_; simp (maxSteps := 9999999) only [go_sem, Ex.cellsL, ek, fk])); (try ((with_reducible refine And.intro ?_ ?_) <;> (repeat' with_reducible apply And.intro) <;> try exact sd)); (try first | refine XK.p hcf ok166 ?_ | refine XK.gp hcf ok166 ?_ | refine XK.gs (DB false) ?_ | refine XK.gs (DI .i64 0) ?_))
        exact ret _ _ (by simp)
end Go.Proofs.YtehmajhoaibphaaGreat.CtR

namespace Go.Proofs.YtehmajhoaibphaaGreat.CtR
open Go Go.CT CtF

theorem secretRead0 (p : Pg) : DC Tryz.prog 115 [.agg p.cells, .agg (Ex.cells (.mk 0 0 []))] [] (fun r h => r = DB false ∧ h = []) := by
  have hmx := mx_eq
  have hcf := containsFuncE 115 (fun _ => false) p [] (by simp) ok115 (fun e he => by simp at he)
  simp only [List.any_nil, Ex.cellsL] at hcf
  have ret : ∀ (hp : Hp), RetOb 0 (fun r h => r = DB false ∧ h = []) (DB false) hp := fun hp => RetOb.plain (d := DB _) ⟨rfl, rfl⟩ rfl
  generalize hR : (fun (r : D) (h : List (Option (List C))) => r = DB false ∧ h = []) = R at ret ⊢
  clear hR
  obtain ⟨vs, ar, bd⟩ := p
  have ek : ((0 : Int) == 3) = false := by decide
  have fk : ((0 : Int) = 3) = False := by simp
  refine dcZ Tryz.func115 ?_
  simp (maxSteps := 9999999) only [go_sem, Ex.cellsL, ek, fk]
  iterate 6 ((try (refine drvZ Tryz.func115 ?_; simp (maxSteps := 9999999) only [go_sem, Ex.cellsL, ek, fk])); (try ((with_reducible refine And.intro ?_ ?_) <;> (repeat' with_reducible apply And.intro) <;> try exact sd)); (try first | refine XK.p hcf ok166 ?_ | refine XK.gp hcf ok166 ?_ | refine XK.gs (DB false) ?_ | refine XK.gs (DI .i64 0) ?_))
  exact ret _
theorem leakI (p : Pg) (hl : p.vars.length ≤ mx) (hl2 : p.arrays.length ≤ mx) (h1 : lab3 p.vars) (h2 : lab3 p.arrays) (d : Nat) (s : St1) (hs : stmtOK p (d + 1) s = true) (c : Nat) :
    DC Tryz.prog 71 [.agg p.cells, .agg s.cells, DI .i64 c] [] (fun r h => r = DI .i64 (leakR p.vars p.arrays s c) ∧ h = []) := by
  have hmx := mx_eq
  have hlab := labelI p hl hl2 h1 h2 5
  have hsec := secretReadI p hl hl2 h1 h2 5
  have hs0 := secretRead0 p
  have hle := labN_le h1 h2 5
  obtain ⟨vs, ar, bd⟩ := p
  have ret : ∀ (n : Int) (hp : Hp), n = leakR vs ar s c → RetOb 0 (fun r h => r = DI .i64 (leakR vs ar s c) ∧ h = []) (DI .i64 n) hp := fun n hp h => RetOb.plain (d := DI .i64 _) ⟨by rw [h], rfl⟩ rfl
  simp only at ret hle ⊢
  generalize hR : (fun (r : D) (h : List (Option (List C))) => r = DI .i64 (leakR vs ar s c) ∧ h = []) = R at ret ⊢
  clear hR
  obtain ⟨k, t, ⟨ik, iv, iks⟩, ⟨vk, vv, vks⟩, cc, b, e⟩ := s
  have hho := (stmtOK_succ hs).1
  have hh := head_kind hho
  obtain ⟨sv, si⟩ := shapeV hs
  have hkey : k = 4 ∨ k = 3 ∨ k = 2 ∨ (k = 1 ∨ k = 5) := by omega
  rcases hkey with hk | hk | hk | hk
  · subst hk
    have hz : vk = 0 ∧ vv = 0 ∧ vks = [] := by
      unfold headOK parts at hho
      simp [none0, Ex.kind, Ex.value, Ex.kids] at hho
      grind
    obtain ⟨rfl, rfl, rfl⟩ := hz
    simp only [Ex.cells, Ex.cellsL] at hs0
    refine dcZ Tryz.func71 ?_
    simp (maxSteps := 9999999) only [go_sem, Ex.cellsL]
    iterate 10 ((try (refine drvZ Tryz.func71 ?_; simp (maxSteps := 9999999) only [go_sem, Ex.cellsL])); (try ((with_reducible refine And.intro ?_ ?_) <;> (repeat' with_reducible apply And.intro) <;> try exact sd)); (try first | refine XK.p hs0 ok115 ?_ | refine XK.gp hs0 ok115 ?_ | refine XK.gs (DB false) ?_ | refine XK.gs (DI .i64 0) ?_))
    exact ret _ _ (by simp [leakR, St1.kind, St1.value, St1.index, secE])
  · subst hk
    have hlv := hlab _ (sv (by decide))
    have hlvl := hle (.mk vk vv vks)
    have hse := hsec _ (sv (by decide))
    simp only at hlv hse
    have hls := labelSecretI _ hlvl
    cases hs1 : secL (labN vs ar 5 (.mk vk vv vks)) <;> cases hs2 : secE vs ar 5 (.mk vk vv vks)
    all_goals
      rw [hs1] at hls
      rw [hs2] at hse
      refine dcZ Tryz.func71 ?_
      simp (maxSteps := 9999999) only [go_sem]
      iterate 10 ((try (refine drvZ Tryz.func71 ?_; simp (maxSteps := 9999999) only [go_sem])); (try ((with_reducible refine And.intro ?_ ?_) <;> (repeat' with_reducible apply And.intro) <;> try exact sd)); (try first | refine XK.p hlv ok95 ?_ | refine XK.gp hlv ok95 ?_ | refine XK.p hls ok27 ?_ | refine XK.gp hls ok27 ?_ | refine XK.p hse ok115 ?_ | refine XK.gp hse ok115 ?_ | refine XK.gs (DB false) ?_ | refine XK.gs (DI .i64 0) ?_))
    all_goals exact ret _ _ (by simp [leakR, St1.kind, St1.value, St1.index, hs1, hs2])
  · subst hk
    have hlv := hlab _ (si rfl)
    have hlvl := hle (.mk ik iv iks)
    have hse := hsec _ (sv (by decide))
    simp only at hlv hse
    have hls := labelSecretI _ hlvl
    cases hs1 : secL (labN vs ar 5 (.mk ik iv iks)) <;> cases hs2 : secE vs ar 5 (.mk vk vv vks)
    all_goals
      rw [hs1] at hls
      rw [hs2] at hse
      refine dcZ Tryz.func71 ?_
      simp (maxSteps := 9999999) only [go_sem]
      iterate 10 ((try (refine drvZ Tryz.func71 ?_; simp (maxSteps := 9999999) only [go_sem])); (try ((with_reducible refine And.intro ?_ ?_) <;> (repeat' with_reducible apply And.intro) <;> try exact sd)); (try first | refine XK.p hlv ok95 ?_ | refine XK.gp hlv ok95 ?_ | refine XK.p hls ok27 ?_ | refine XK.gp hls ok27 ?_ | refine XK.p hse ok115 ?_ | refine XK.gp hse ok115 ?_ | refine XK.gs (DB false) ?_ | refine XK.gs (DI .i64 0) ?_))
    all_goals exact ret _ _ (by simp [leakR, St1.kind, St1.value, St1.index, hs1, hs2])
  · have e3 : (k == 3) = false := by rcases hk with rfl | rfl <;> decide
    have f3 : (k = 3) = False := by rcases hk with rfl | rfl <;> simp
    have e2 : (k == 2) = false := by rcases hk with rfl | rfl <;> decide
    have f2 : (k = 2) = False := by rcases hk with rfl | rfl <;> simp
    have hse := hsec _ (sv (by omega))
    simp only at hse
    cases hs2 : secE vs ar 5 (.mk vk vv vks)
    all_goals
      rw [hs2] at hse
      refine dcZ Tryz.func71 ?_
      simp (maxSteps := 9999999) only [go_sem, e3, f3, e2, f2]
      iterate 10 ((try (refine drvZ Tryz.func71 ?_; simp (maxSteps := 9999999) only [go_sem, e3, f3, e2, f2])); (try ((with_reducible refine And.intro ?_ ?_) <;> (repeat' with_reducible apply And.intro) <;> try exact sd)); (try first | refine XK.p hse ok115 ?_ | refine XK.gp hse ok115 ?_ | refine XK.gs (DB false) ?_ | refine XK.gs (DI .i64 0) ?_))
    all_goals exact ret _ _ (by simp [leakR, St1.kind, St1.value, St1.index, hs2, f3, f2])
theorem checkCTI (p : Pg) (hl : p.vars.length ≤ mx) (hl2 : p.arrays.length ≤ mx) : DC Tryz.prog 26 [.agg p.cells] [] (fun r h => r = .tup [DI .i64 (strictR p).1, DI .i64 (strictR p).2] ∧ h = []) := by
  have hmx := mx_eq
  have hc := checkFlowI p hl hl2
  have ret : ∀ (x : Int × Int) (hp : Hp), x = strictR p → RetOb 0 (fun r h => r = .tup [DI .i64 (strictR p).1, DI .i64 (strictR p).2] ∧ h = []) (.tup [DI .i64 x.1, DI .i64 x.2]) hp := fun x hp h => by
    subst h
    exact RetOb.two ⟨rfl, rfl⟩
  generalize hR : (fun (r : D) (h : List (Option (List C))) => r = .tup [DI .i64 (strictR p).1, DI .i64 (strictR p).2] ∧ h = []) = R at ret ⊢
  clear hR
  by_cases hf : (chkR flowR p).1 = 0
  · have hq : progOK p = true := by
      have := (chk_fine flowR p).1 hf
      unfold fineP at this
      simp only [Bool.and_eq_true] at this
      exact this.1
    have he : strictR p = chkR leakR p := by unfold strictR; rw [if_neg (by simpa using hf)]
    rw [he, chk_fir leakR hq] at ret
    have hlab := labs_of hq
    have hfo := firstOf p hq 71 ok71 leakR (fun d s c hc hs => leakI p hl hl2 hlab.1 hlab.2 d s hs c)
    rw [hf] at hc
    generalize (chkR flowR p).2 = y at *
    generalize firR leakR p = x at *
    obtain ⟨vs, ar, bd⟩ := p
    refine dcZ Tryz.func26 ?_
    simp (maxSteps := 9999999) only [go_sem]
    iterate 6 ((try (refine drvZ Tryz.func26 ?_; simp (maxSteps := 9999999) only [go_sem, bne_self_eq_false])); (try ((with_reducible refine And.intro ?_ ?_) <;> (repeat' with_reducible apply And.intro) <;> try exact sd)); (try first | refine XK.p hc ok43 ?_ | refine XK.gp hc ok43 ?_ | refine XK.p hfo ok70 ?_ | refine XK.gp hfo ok70 ?_))
    exact ret x _ rfl
  · have he : strictR p = chkR flowR p := by unfold strictR; rw [if_pos hf]
    rw [he] at ret
    generalize chkR flowR p = x at *
    obtain ⟨x1, x2⟩ := x
    simp only at hf hc
    have g1 : (x1 = 0) = False := eq_false hf
    have g2 : (x1 != 0) = true := by simp [hf]
    obtain ⟨vs, ar, bd⟩ := p
    refine dcZ Tryz.func26 ?_
    simp (maxSteps := 9999999) only [go_sem]
    iterate 6 ((try (refine drvZ Tryz.func26 ?_; simp (maxSteps := 9999999) only [go_sem, g1, g2])); (try ((with_reducible refine And.intro ?_ ?_) <;> (repeat' with_reducible apply And.intro) <;> try exact sd)); (try first | refine XK.p hc ok43 ?_ | refine XK.gp hc ok43 ?_))
    exact ret (x1, x2) _ rfl
end Go.Proofs.YtehmajhoaibphaaGreat.CtR

namespace Go.Proofs.YtehmajhoaibphaaGreat.CtD
open Go Go.CT CtF CtR

/-- What the traces of a program that is found constant-time are. -/
theorem ct_traces {p : Pg} {m m' : Mm} (hok : progOK p = true) (hm : MemFits p m) (hm' : MemFits p m') (hlo : LowM 0 p m m') (hc : (strictR p).1 = 0) :
    (runL 5 m p.body).2 = (runL 5 m' p.body).2 ∨ (freeP p = false ∧ DivT (runL 5 m p.body).2 (runL 5 m' p.body).2) := by
  have hf : (chkR flowR p).1 = 0 := by
    unfold strictR at hc
    by_cases h : (chkR flowR p).1 = 0
    · exact h
    · rw [if_pos h] at hc; exact hc
  have hk : (chkR leakR p).1 = 0 := by
    unfold strictR at hc
    rw [if_neg (by simpa using hf)] at hc; exact hc
  have h1 := (chk_fine flowR p).1 hf
  have h2 := (chk_fine leakR p).1 hk
  unfold fineP at h1 h2
  simp only [Bool.and_eq_true] at h1 h2
  have := run_ct 5 0 p.body (body_of hok).1 h1.2 h2.2 m m' hlo
  rcases this with ⟨_, e⟩ | hd
  · exact .inl e
  · refine .inr ⟨?_, hd⟩
    cases hfr : freeP p with
    | false => rfl
    | true =>
      exfalso
      unfold freeP at hfr
      simp only [Bool.and_eq_true] at hfr
      obtain ⟨pre, v, v', r, r', _, e1, _⟩ := hd
      exact free_ev 5 p.body hfr.2 m ⟨4, v⟩ (by rw [e1]; simp) rfl
end Go.Proofs.YtehmajhoaibphaaGreat.CtD

namespace Go.Proofs.YtehmajhoaibphaaGreat.CtR
open Go Go.CT CtF

theorem bt_start {w k i : Nat} (hk : k < w) : bt k (startD w).sets i = false → i ≠ k := fun h e => by
  subst e
  unfold bt dat startD at h
  rw [List.getD_eq_getElem?_getD] at h
  simp [hk] at h
/-- What differs in one cell only. -/
structure OneM (k nv : Nat) (a b : Mm) : Prop where
  lv : a.vals.length = b.vals.length
  la : a.arrays.length = b.arrays.length
  val : ∀ i, i < nv → i ≠ k → a.vals[i]? = b.vals[i]?
  arr : ∀ i, nv + i ≠ k → a.arrays[i]? = b.arrays[i]?
theorem OneM.ag {k nv w : Nat} {a b : Mm} (h : OneM k nv a b) (hk : k < w) : AgD k nv (startD w).sets a b :=
  ⟨h.lv, h.la, fun i hi hb => h.val i hi (bt_start hk hb), fun i hb => h.arr i (bt_start hk hb)⟩
/-- Runs of a valid program from memories that differ in one cell. -/
theorem dep_run {k w : Nat} {p : Pg} {a b : Mm} (hw : p.vars.length + p.arrays.length = w) (hw14 : w ≤ 14) (hok : progOK p = true) (hk : k < w) (h : OneM k p.vars.length a b) :
    AgD k p.vars.length (depP p).sets (runL 5 a p.body).1 (runL 5 b p.body).1 ∧ ((depP p).tr.testBit k = false → (runL 5 a p.body).2 = (runL 5 b p.body).2) := by
  have h0 := Nat.two_pow_pos w
  have hbo := (body_of hok).1
  subst hw
  have key : ∀ (l : List St1), (∀ x ∈ l, stmtOK p 5 x = true) → ∀ (s : Dp) (m m' : Mm), Okd (p.vars.length + p.arrays.length) s → AgD k p.vars.length s.sets m m' →
      AgD k p.vars.length (l.foldl (depS p.vars.length 5 0) s).sets (foldR (runS 5) m l).1 (foldR (runS 5) m' l).1 ∧ ((l.foldl (depS p.vars.length 5 0) s).tr.testBit k = false → (foldR (runS 5) m l).2 = (foldR (runS 5) m' l).2) := by
    intro l hl s m m' hs ha
    have h3 : ∀ x ∈ l, ∀ s m m', Okd (p.vars.length + p.arrays.length) s → AgD k p.vars.length s.sets m m' → AgD k p.vars.length (depS p.vars.length 5 0 s x).sets (runS 5 m x).1 (runS 5 m' x).1 ∧ ((depS p.vars.length 5 0 s x).tr.testBit k = false → (runS 5 m x).2 = (runS 5 m' x).2) :=
      fun x hx s m m' hs ha => dep_two rfl 5 0 s x m m' h0 (by simp) hs (hl x hx) ha
    exact agree_list l s m m' hs (fun x _ s hs => dep_ok 5 0 s x h0 hs) (fun x _ s hs => dep_le 5 0 s x h0 hs) h3 ha
  exact key p.body hbo (startD _) a b (CtD.start_ok hw14) (h.ag hk)
end Go.Proofs.YtehmajhoaibphaaGreat.CtR

namespace Go.Proofs.YtehmajhoaibphaaGreat.CtD
open Go Go.CT CtF CtR

theorem fitsV {p : Pg} {va : List Int} {arr : List (List Int)} (h : MemFits p ⟨va, arr⟩) (k : Nat) {v : Int} (hv : 0 ≤ v ∧ v ≤ 255) : MemFits p ⟨va.set k v, arr⟩ :=
  ⟨by have := h.nv; simpa using this, h.na, h.nv12, h.na2, fun x hx => by
    rcases List.mem_or_eq_of_mem_set hx with h1 | rfl
    · exact h.val x h1
    · exact hv, h.arr⟩
end Go.Proofs.YtehmajhoaibphaaGreat.CtD

namespace Go.Proofs.YtehmajhoaibphaaGreat.CtR
open Go Go.CT CtF

/-! A checked program's dependencies keep to its labels. -/
/-- A cell's label has a bit. -/
def hiC (β : Nat) (vs ar : List Int) (i : Nat) : Bool := if i < vs.length then (nth vs (i : Nat)).toNat.testBit β else (nth ar ((i - vs.length : Nat) : Int)).toNat.testBit β
/-- A set has no cell whose label has the bit. -/
def LoN (β : Nat) (vs ar : List Int) (a : Nat) : Prop := ∀ k, hiC β vs ar k = true → a.testBit k = false
theorem LoN.or {β : Nat} {vs ar : List Int} {a b : Nat} (h : LoN β vs ar a) (h' : LoN β vs ar b) : LoN β vs ar (a ||| b) := fun k hk => by
  rw [Nat.testBit_or, h k hk, h' k hk]; rfl
theorem LoN.orL {β : Nat} {vs ar : List Int} {l : List Nat} (h : ∀ x ∈ l, LoN β vs ar x) : LoN β vs ar (CtR.orL l) := fun k hk => by
  unfold CtR.orL; rw [or_bit]; exact ⟨by simp, fun x hx => h x hx k hk⟩
theorem LoN.zero {β : Nat} {vs ar : List Int} : LoN β vs ar 0 := fun k _ => by simp
def Sec (β : Nat) (vs ar : List Int) (s : List Nat) : Prop := ∀ i, hiC β vs ar i = false → LoN β vs ar (dat s i)
theorem Sec.set {β : Nat} {vs ar : List Int} {s : List Nat} (h : Sec β vs ar s) {i x : Nat} (hx : hiC β vs ar i = false → LoN β vs ar x) : Sec β vs ar (s.set i x) := fun j hj => by
  rw [dat_set]
  by_cases e : i = j ∧ i < s.length
  · rw [if_pos e]; obtain ⟨rfl, _⟩ := e; exact hx hj
  · rw [if_neg e]; exact h j hj
theorem Sec.unite {β : Nat} {vs ar : List Int} {s t : List Nat} (h : Sec β vs ar s) (h' : Sec β vs ar t) (hl : t.length = s.length) : Sec β vs ar (CtR.unite s t) := fun i hi => by
  rw [dat_unite hl]; exact (h i hi).or (h' i hi)
end Go.Proofs.YtehmajhoaibphaaGreat.CtR

namespace Go.Proofs.YtehmajhoaibphaaGreat.CtD
open Go Go.CT CtF CtR

theorem hi_var {vs ar : List Int} (h : lab3 vs) {i : Nat} (hi : i < vs.length) : ∃ T : Nat, T ≤ 3 ∧ vs[i]? = some (T : Int) ∧ hiC 0 vs ar i = secL T := by
  have hx : vs[i]? = some vs[i] := by simp [hi]
  have hl := h vs[i] (List.getElem_mem hi)
  refine ⟨vs[i].toNat, by omega, by rw [hx]; congr 1; omega, ?_⟩
  unfold hiC secL
  rw [if_pos hi]
  unfold nth
  simp [List.getD_eq_getElem?_getD, hx]
end Go.Proofs.YtehmajhoaibphaaGreat.CtD

namespace Go.Proofs.YtehmajhoaibphaaGreat.CtR
open Go Go.CT CtF

theorem fdif_iff : ∀ (xs ys : List Ev) (n : Int), 0 ≤ n → (fdif xs ys n = -1 ↔ xs = ys)
  | [], [], n, _ => by simp [fdif]
  | [], b :: r, n, h => by simp [fdif]; omega
  | a :: r, [], n, h => by simp [fdif]; omega
  | a :: r, b :: s, n, h => by
    obtain ⟨ak, av⟩ := a
    obtain ⟨bk, bv⟩ := b
    simp only [fdif]
    split
    · rename_i he
      obtain ⟨rfl, rfl⟩ := he
      rw [fdif_iff r s (n + 1) (by omega)]; simp
    · rename_i he
      constructor
      · intro h1; omega
      · intro h1; simp at h1; exact absurd ⟨h1.1.1, h1.1.2⟩ he
theorem firstDifferenceS (xs ys : List Ev) (hl : xs.length ≤ mx) (hlen : xs.length = ys.length) : DC Tryz.prog 111 [.c (trD xs), .c (trD ys)] [] (fun r h => r = DI .i64 (fdif xs ys 0) ∧ h = []) := by
  have hmx := mx_eq
  have ret : ∀ (n : Int) (hp : Hp), n = fdif xs ys 0 → RetOb 0 (fun r h => r = DI .i64 (fdif xs ys 0) ∧ h = []) (DI .i64 n) hp := fun n hp h => RetOb.plain (d := DI .i64 _) ⟨by rw [h], rfl⟩ rfl
  generalize hR : (fun (r : D) (h : List (Option (List C))) => r = DI .i64 (fdif xs ys 0) ∧ h = []) = R at ret ⊢
  clear hR
  refine dcZ Tryz.func111 ?_
  simp (maxSteps := 9999999) only [go_sem, trD]
  ((try (refine drvZ Tryz.func111 ?_; simp (maxSteps := 9999999) only [go_sem, trD])); (try ((with_reducible refine And.intro ?_ ?_) <;> (repeat' with_reducible apply And.intro) <;> try exact sd)))
  refine Go.loopQ (fun i : Nat => [(0, .c (trD xs)), (1, .c (trD ys)), (5, DI .i64 i)]) (fun _ => []) 1024 (fun i => i ≤ xs.length ∧ fdif (xs.drop i) (ys.drop i) i = fdif xs ys 0) (fun i => xs.length - i) ?_ 0 some [] _ ⟨Nat.zero_le _, rfl⟩ ?_
  · intro i hi again
    have hI := hi.2
    rcases Nat.lt_or_ge i xs.length with hlt | hge
    · have hlt2 : i < ys.length := by omega
      obtain ⟨x, hxx⟩ : ∃ x, xs[i]? = some x := ⟨xs[i], by simp [hlt]⟩
      obtain ⟨y, hyy⟩ : ∃ y, ys[i]? = some y := ⟨ys[i], by simp [hlt2]⟩
      rw [List.drop_eq_getElem_cons hlt, List.drop_eq_getElem_cons hlt2, (List.getElem?_eq_some_iff.1 hxx).2, (List.getElem?_eq_some_iff.1 hyy).2] at hI
      obtain ⟨xk, xv⟩ := x
      obtain ⟨yk, yv⟩ := y
      simp only [fdif] at hI
      by_cases he : xk = yk ∧ xv = yv
      · obtain ⟨rfl, rfl⟩ := he
        rw [if_pos ⟨rfl, rfl⟩] at hI
        refine drvL Tryz.func111 ?_
        simp (maxSteps := 9999999) only [go_sem, trD, hlt, hlt2]
        iterate 4 ((try (refine drvZ Tryz.func111 ?_; simp (maxSteps := 9999999) only [go_sem, trD, hlt, hlt2, hxx, hyy, Ev.cells])); (try ((with_reducible refine And.intro ?_ ?_) <;> (repeat' with_reducible apply And.intro) <;> try exact sd)))
        refine again (i + 1) some [] _ ⟨hlt, by rw [← hI]; rfl⟩ (by omega) ?_
        simp (maxSteps := 9999999) only [go_sem, TmOK, DM, DMs, CM, CMs, forall_eq, exists_eq_left, Mq, HpOK, LowOK, trD]
        try simp
      · rw [if_neg he] at hI
        have hd : (decide (xk = yk) && decide (xv = yv)) = false := by
          cases h1 : decide (xk = yk) with
          | false => rfl
          | true =>
            cases h2 : decide (xv = yv) with
            | false => rfl
            | true => exact absurd ⟨of_decide_eq_true h1, of_decide_eq_true h2⟩ he
        refine drvL Tryz.func111 ?_
        simp (maxSteps := 9999999) only [go_sem, trD, hlt, hlt2]
        iterate 4 ((try (refine drvZ Tryz.func111 ?_; simp (maxSteps := 9999999) only [go_sem, trD, hlt, hlt2, hxx, hyy, Ev.cells, hd])); (try ((with_reducible refine And.intro ?_ ?_) <;> (repeat' with_reducible apply And.intro) <;> try exact sd)))
        exact ret _ _ hI
    · have hn : ¬ i < xs.length := by omega
      have hn2 : ¬ xs.length < ys.length := by omega
      have hn3 : ¬ ys.length < xs.length := by omega
      refine drvL Tryz.func111 ?_
      simp (maxSteps := 9999999) only [go_sem, trD, hn, hn2, hn3]
      iterate 3 ((try (refine drvZ Tryz.func111 ?_; simp (maxSteps := 9999999) only [go_sem, trD, hn, hn2, hn3])); (try ((with_reducible refine And.intro ?_ ?_) <;> (repeat' with_reducible apply And.intro) <;> try exact sd)))
      have e1 : xs.drop i = [] := List.drop_of_length_le (by omega)
      have e2 : ys.drop i = [] := List.drop_of_length_le (by omega)
      exact ret _ _ (by rw [← hI, e1, e2]; rfl)
  · simp (maxSteps := 9999999) only [go_sem, TmOK, DM, DMs, CM, CMs, forall_eq, exists_eq_left, Mq, HpOK, LowOK, trD]
    try simp
theorem traceSameS (xs ys : List Ev) (hl : xs.length ≤ mx) : DC Tryz.prog 67 [.c (trD xs), .c (trD ys)] [] (fun r h => r = DB (trSame xs ys) ∧ h = []) := by
  have hmx := mx_eq
  have ret : ∀ (b : Bool) (hp : Hp), b = trSame xs ys → RetOb 0 (fun r h => r = DB (trSame xs ys) ∧ h = []) (DB b) hp := fun b hp h => RetOb.plain (d := DB _) ⟨by rw [h], rfl⟩ rfl
  generalize hR : (fun (r : D) (h : List (Option (List C))) => r = DB (trSame xs ys) ∧ h = []) = R at ret ⊢
  clear hR
  by_cases hlen : xs.length = ys.length
  · have hfd := firstDifferenceS xs ys hl hlen
    have hfi := fdif_iff xs ys 0 (by omega)
    generalize fdif xs ys 0 = n at *
    have he : ((xs.length : Int) = (ys.length : Int)) = True := eq_true (by omega)
    have hb : ((xs.length : Int) == (ys.length : Int)) = true := by simp [hlen]
    refine dcZ Tryz.func67 ?_
    simp (maxSteps := 9999999) only [go_sem, trD, he, hb]
    iterate 3 ((try (refine drvZ Tryz.func67 ?_; simp (maxSteps := 9999999) only [go_sem, trD, he, hb])); (try ((with_reducible refine And.intro ?_ ?_) <;> (repeat' with_reducible apply And.intro) <;> try exact sd)); (try first | refine XK.p hfd ok111 ?_ | refine XK.gp hfd ok111 ?_))
    refine ret _ _ ?_
    rw [Bool.eq_iff_iff, trSame_iff, ← hfi]
    simp
  · have he : ((xs.length : Int) = (ys.length : Int)) = False := eq_false (by omega)
    have hb : ((xs.length : Int) == (ys.length : Int)) = false := by simp; omega
    refine dcZ Tryz.func67 ?_
    simp (maxSteps := 9999999) only [go_sem, trD, he, hb]
    iterate 3 ((try (refine drvZ Tryz.func67 ?_; simp (maxSteps := 9999999) only [go_sem, trD, he, hb])); (try ((with_reducible refine And.intro ?_ ?_) <;> (repeat' with_reducible apply And.intro) <;> try exact sd)); (try first | refine XK.gs (DI .i64 0) ?_))
    refine ret _ _ ?_
    cases h : trSame xs ys with
    | false => rfl
    | true => exact absurd (by rw [(trSame_iff xs ys).1 h]) hlen
end Go.Proofs.YtehmajhoaibphaaGreat.CtR
