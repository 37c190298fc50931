/- Contracts of functions of the program, one behind the other, as plain data: what each call returns and which blocks it leaves. -/
import Derived.Test.YtmagbjbanpgmhaaGreatFacts
import Derived.Test.YtmagbjbanpgmhaaGreatAj
import Derived.Test.YtmagbjbanpgmhaaGreatAk
import Derived.Test.YtmagbjbanpgmhaaGreatAl
import Derived.Test.YtmagbjbanpgmhaaGreatAo
import Derived.Test.YtmagbjbanpgmhaaGreatAt
import Derived.Test.YtmagbjbanpgmhaaGreatAu
import Derived.Test.YtmagbjbanpgmhaaGreatAv
import Derived.Test.YtmagbjbanpgmhaaGreatAx
import Derived.Test.YtmagbjbanpgmhaaGreatBb
import Derived.Test.YtmagbjbanpgmhaaGreatAq
import Derived.Test.YtmagbjbanpgmhaaGreatAn
import Derived.Test.YtmagbjbanpgmhaaGreatAs
import Derived.Test.YtmagbjbanpgmhaaGreatAy
set_option linter.unusedVariables false
set_option linter.unusedSimpArgs false
set_option maxHeartbeats 16000000
set_option maxRecDepth 100000
namespace Go.Proofs.YtmagbjbanpgmhaaGreat.CtR
open Go Go.CT CtF

theorem secretRead0 (p : Pg) : DC Tryz.prog 82 [.agg p.cells, .agg (Ex.cells (.mk 0 0 []))] [] (fun r h => r = DB false ∧ h = []) := by
  have hmx := mx_eq
  have hcf := containsFuncE 82 (fun _ => false) p [] (by simp) ok82 (fun e he => by simp at he)
  simp only [List.any_nil, Ex.cellsL] at hcf
  have ret : ∀ (hp : Hp), RetOb 0 (fun r h => r = DB false ∧ h = []) (DB false) hp := fun hp => RetOb.plain (d := DB _) ⟨rfl, rfl⟩ rfl
  generalize hR : (fun (r : D) (h : List (Option (List C))) => r = DB false ∧ h = []) = R at ret ⊢
  clear hR
  obtain ⟨vs, ar, bd⟩ := p
  have ek : ((0 : Int) == 3) = false := by decide
  have fk : ((0 : Int) = 3) = False := by simp
  refine dcZ Tryz.func82 ?_
  simp (maxSteps := 9999999) only [go_sem, Ex.cellsL, ek, fk]
  iterate 6 ((try (refine drvZ Tryz.func82 ?_; simp (maxSteps := 9999999) only [go_sem, Ex.cellsL, ek, fk])); (try ((with_reducible refine And.intro ?_ ?_) <;> (repeat' with_reducible apply And.intro) <;> try exact sd)); (try first | refine XK.p hcf ok120 ?_ | refine XK.gp hcf ok120 ?_ | refine XK.gs (DB false) ?_ | refine XK.gs (DI .i64 0) ?_))
  exact ret _
theorem leakI (p : Pg) (hl : p.vars.length ≤ mx) (hl2 : p.arrays.length ≤ mx) (h1 : lab3 p.vars) (h2 : lab3 p.arrays) (d : Nat) (s : St1) (hs : stmtOK p (d + 1) s = true) (c : Nat) :
    DC Tryz.prog 36 [.agg p.cells, .agg s.cells, DI .i64 c] [] (fun r h => r = DI .i64 (leakR p.vars p.arrays s c) ∧ h = []) := by
  have hmx := mx_eq
  have hlab := labelI p hl hl2 h1 h2 5
  have hsec := secretReadI p hl hl2 h1 h2 5
  have hs0 := secretRead0 p
  have hle := labN_le h1 h2 5
  obtain ⟨vs, ar, bd⟩ := p
  have ret : ∀ (n : Int) (hp : Hp), n = leakR vs ar s c → RetOb 0 (fun r h => r = DI .i64 (leakR vs ar s c) ∧ h = []) (DI .i64 n) hp := fun n hp h => RetOb.plain (d := DI .i64 _) ⟨by rw [h], rfl⟩ rfl
  simp only at ret hle ⊢
  generalize hR : (fun (r : D) (h : List (Option (List C))) => r = DI .i64 (leakR vs ar s c) ∧ h = []) = R at ret ⊢
  clear hR
  obtain ⟨k, t, ⟨ik, iv, iks⟩, ⟨vk, vv, vks⟩, cc, b, e⟩ := s
  have hho := (stmtOK_succ hs).1
  have hh := head_kind hho
  obtain ⟨sv, si⟩ := shapeV hs
  have hkey : k = 4 ∨ k = 3 ∨ k = 2 ∨ (k = 1 ∨ k = 5) := by omega
  rcases hkey with hk | hk | hk | hk
  · subst hk
    have hz : vk = 0 ∧ vv = 0 ∧ vks = [] := by
      unfold headOK parts at hho
      simp [none0, Ex.kind, Ex.value, Ex.kids] at hho
      grind
    obtain ⟨rfl, rfl, rfl⟩ := hz
    simp only [Ex.cells, Ex.cellsL] at hs0
    refine dcZ Tryz.func36 ?_
    simp (maxSteps := 9999999) only [go_sem, Ex.cellsL]
    iterate 10 ((try (refine drvZ Tryz.func36 ?_; simp (maxSteps := 9999999) only [go_sem, Ex.cellsL])); (try ((with_reducible refine And.intro ?_ ?_) <;> (repeat' with_reducible apply And.intro) <;> try exact sd)); (try first | refine XK.p hs0 ok82 ?_ | refine XK.gp hs0 ok82 ?_ | refine XK.gs (DB false) ?_ | refine XK.gs (DI .i64 0) ?_))
    exact ret _ _ (by simp [leakR, St1.kind, St1.value, St1.index, secE])
  · subst hk
    have hlv := hlab _ (sv (by decide))
    have hlvl := hle (.mk vk vv vks)
    have hse := hsec _ (sv (by decide))
    simp only at hlv hse
    have hls := labelSecretI _ hlvl
    cases hs1 : secL (labN vs ar 5 (.mk vk vv vks)) <;> cases hs2 : secE vs ar 5 (.mk vk vv vks)
    all_goals
      rw [hs1] at hls
      rw [hs2] at hse
      refine dcZ Tryz.func36 ?_
      simp (maxSteps := 9999999) only [go_sem]
      iterate 10 ((try (refine drvZ Tryz.func36 ?_; simp (maxSteps := 9999999) only [go_sem])); (try ((with_reducible refine And.intro ?_ ?_) <;> (repeat' with_reducible apply And.intro) <;> try exact sd)); (try first | refine XK.p hlv ok81 ?_ | refine XK.gp hlv ok81 ?_ | refine XK.p hls ok24 ?_ | refine XK.gp hls ok24 ?_ | refine XK.p hse ok82 ?_ | refine XK.gp hse ok82 ?_ | refine XK.gs (DB false) ?_ | refine XK.gs (DI .i64 0) ?_))
    all_goals exact ret _ _ (by simp [leakR, St1.kind, St1.value, St1.index, hs1, hs2])
  · subst hk
    have hlv := hlab _ (si rfl)
    have hlvl := hle (.mk ik iv iks)
    have hse := hsec _ (sv (by decide))
    simp only at hlv hse
    have hls := labelSecretI _ hlvl
    cases hs1 : secL (labN vs ar 5 (.mk ik iv iks)) <;> cases hs2 : secE vs ar 5 (.mk vk vv vks)
    all_goals
      rw [hs1] at hls
      rw [hs2] at hse
      refine dcZ Tryz.func36 ?_
      simp (maxSteps := 9999999) only [go_sem]
      iterate 10 ((try (refine drvZ Tryz.func36 ?_; simp (maxSteps := 9999999) only [go_sem])); (try ((with_reducible refine And.intro ?_ ?_) <;> (repeat' with_reducible apply And.intro) <;> try exact sd)); (try first | refine XK.p hlv ok81 ?_ | refine XK.gp hlv ok81 ?_ | refine XK.p hls ok24 ?_ | refine XK.gp hls ok24 ?_ | refine XK.p hse ok82 ?_ | refine XK.gp hse ok82 ?_ | refine XK.gs (DB false) ?_ | refine XK.gs (DI .i64 0) ?_))
    all_goals exact ret _ _ (by simp [leakR, St1.kind, St1.value, St1.index, hs1, hs2])
  · have e3 : (k == 3) = false := by rcases hk with rfl | rfl <;> decide
    have f3 : (k = 3) = False := by rcases hk with rfl | rfl <;> simp
    have e2 : (k == 2) = false := by rcases hk with rfl | rfl <;> decide
    have f2 : (k = 2) = False := by rcases hk with rfl | rfl <;> simp
    have hse := hsec _ (sv (by omega))
    simp only at hse
    cases hs2 : secE vs ar 5 (.mk vk vv vks)
    all_goals
      rw [hs2] at hse
      refine dcZ Tryz.func36 ?_
      simp (maxSteps := 9999999) only [go_sem, e3, f3, e2, f2]
      iterate 10 ((try (refine drvZ Tryz.func36 ?_; simp (maxSteps := 9999999) only [go_sem, e3, f3, e2, f2])); (try ((with_reducible refine And.intro ?_ ?_) <;> (repeat' with_reducible apply And.intro) <;> try exact sd)); (try first | refine XK.p hse ok82 ?_ | refine XK.gp hse ok82 ?_ | refine XK.gs (DB false) ?_ | refine XK.gs (DI .i64 0) ?_))
    all_goals exact ret _ _ (by simp [leakR, St1.kind, St1.value, St1.index, hs2, f3, f2])
theorem checkCTI (p : Pg) (hl : p.vars.length ≤ mx) (hl2 : p.arrays.length ≤ mx) : DC Tryz.prog 10 [.agg p.cells] [] (fun r h => r = .tup [DI .i64 (strictR p).1, DI .i64 (strictR p).2] ∧ h = []) := by
  have hmx := mx_eq
  have hc := checkFlowI p hl hl2
  have ret : ∀ (x : Int × Int) (hp : Hp), x = strictR p → RetOb 0 (fun r h => r = .tup [DI .i64 (strictR p).1, DI .i64 (strictR p).2] ∧ h = []) (.tup [DI .i64 x.1, DI .i64 x.2]) hp := fun x hp h => by
    subst h
    exact RetOb.two ⟨rfl, rfl⟩
  generalize hR : (fun (r : D) (h : List (Option (List C))) => r = .tup [DI .i64 (strictR p).1, DI .i64 (strictR p).2] ∧ h = []) = R at ret ⊢
  clear hR
  by_cases hf : (chkR flowR p).1 = 0
  · have hq : progOK p = true := by
      have := (chk_fine flowR p).1 hf
      unfold fineP at this
      simp only [Bool.and_eq_true] at this
      exact this.1
    have he : strictR p = chkR leakR p := by unfold strictR; rw [if_neg (by simpa using hf)]
    rw [he, chk_fir leakR hq] at ret
    have hlab := labs_of hq
    have hfo := firstOf p hq 36 ok36 leakR (fun d s c hc hs => leakI p hl hl2 hlab.1 hlab.2 d s hs c)
    rw [hf] at hc
    generalize (chkR flowR p).2 = y at *
    generalize firR leakR p = x at *
    obtain ⟨vs, ar, bd⟩ := p
    refine dcZ Tryz.func10 ?_
    simp (maxSteps := 9999999) only [go_sem]
    iterate 6 ((try (refine drvZ Tryz.func10 ?_; simp (maxSteps := 9999999) only [go_sem, bne_self_eq_false])); (try ((with_reducible refine And.intro ?_ ?_) <;> (repeat' with_reducible apply And.intro) <;> try exact sd)); (try first | refine XK.p hc ok20 ?_ | refine XK.gp hc ok20 ?_ | refine XK.p hfo ok35 ?_ | refine XK.gp hfo ok35 ?_))
    exact ret x _ rfl
  · have he : strictR p = chkR flowR p := by unfold strictR; rw [if_pos hf]
    rw [he] at ret
    generalize chkR flowR p = x at *
    obtain ⟨x1, x2⟩ := x
    simp only at hf hc
    have g1 : (x1 = 0) = False := eq_false hf
    have g2 : (x1 != 0) = true := by simp [hf]
    obtain ⟨vs, ar, bd⟩ := p
    refine dcZ Tryz.func10 ?_
    simp (maxSteps := 9999999) only [go_sem]
    iterate 6 ((try (refine drvZ Tryz.func10 ?_; simp (maxSteps := 9999999) only [go_sem, g1, g2])); (try ((with_reducible refine And.intro ?_ ?_) <;> (repeat' with_reducible apply And.intro) <;> try exact sd)); (try first | refine XK.p hc ok20 ?_ | refine XK.gp hc ok20 ?_))
    exact ret (x1, x2) _ rfl
end Go.Proofs.YtmagbjbanpgmhaaGreat.CtR

namespace Go.Proofs.YtmagbjbanpgmhaaGreat.CtR
open Go Go.CT CtF

theorem firstDifference (xs ys : List Ev) (hl : xs.length ≤ mx) (hl2 : ys.length ≤ mx) : DC Tryz.prog 13 [.c (trD xs), .c (trD ys)] [] (fun r h => r = DI .i64 (fdif xs ys 0) ∧ h = []) := by
  have hmx := mx_eq
  have ret : ∀ (n : Int) (hp : Hp), n = fdif xs ys 0 → RetOb 0 (fun r h => r = DI .i64 (fdif xs ys 0) ∧ h = []) (DI .i64 n) hp := fun n hp h => RetOb.plain (d := DI .i64 _) ⟨by rw [h], rfl⟩ rfl
  generalize hR : (fun (r : D) (h : List (Option (List C))) => r = DI .i64 (fdif xs ys 0) ∧ h = []) = R at ret ⊢
  clear hR
  refine dcZ Tryz.func13 ?_
  simp (maxSteps := 9999999) only [go_sem, trD]
  ((try (refine drvZ Tryz.func13 ?_; simp (maxSteps := 9999999) only [go_sem, trD])); (try ((with_reducible refine And.intro ?_ ?_) <;> (repeat' with_reducible apply And.intro) <;> try exact sd)))
  obtain ⟨M, hM, hM1, hM2, hM3⟩ : ∃ M : Nat, (if (xs.length : Int) < (ys.length : Int) then (ys.length : Int) else (xs.length : Int)) = (M : Int) ∧ xs.length ≤ M ∧ ys.length ≤ M ∧ M ≤ mx ∧ (M ≤ xs.length ∨ M ≤ ys.length) := by
    by_cases h : (xs.length : Int) < (ys.length : Int)
    · exact ⟨ys.length, if_pos h, by omega, by omega, by omega, by omega⟩
    · exact ⟨xs.length, if_neg h, by omega, by omega, by omega, by omega⟩
  try simp only [Int.ofNat_lt] at hM
  try rw [hM]
  refine Go.loopQ (fun i : Nat => [(0, .c (trD xs)), (1, .c (trD ys)), (10, DI .i64 M), (11, DI .i64 i)]) (fun _ => []) 1024 (fun i => i ≤ M ∧ fdif (xs.drop i) (ys.drop i) i = fdif xs ys 0) (fun i => M - i) ?_ 0 some [] _ ⟨Nat.zero_le _, rfl⟩ ?_
  · intro i hi again
    have hI := hi.2
    rcases Nat.lt_or_ge i M with hlt | hge
    · have hcs : (xs.length ≤ i) ∨ (i < xs.length ∧ ys.length ≤ i) ∨ (i < xs.length ∧ i < ys.length) := by omega
      rcases hcs with hx | ⟨hx, hy⟩ | ⟨hx, hy⟩
      · have hdx : xs.drop i = [] := List.drop_of_length_le hx
        have hy : i < ys.length := by omega
        rw [hdx, List.drop_eq_getElem_cons hy] at hI
        have hn : ((xs.length : Int) ≤ (i : Int)) = True := eq_true (by omega)
        have hxn : xs[i]? = none := List.getElem?_eq_none hx
        obtain ⟨y, hyy⟩ : ∃ y, ys[i]? = some y := ⟨ys[i], by simp [hy]⟩
        obtain ⟨yk, yv⟩ := y
        refine drvL Tryz.func13 ?_
        simp (maxSteps := 9999999) only [go_sem, trD, hlt]
        iterate 4 ((try (refine drvZ Tryz.func13 ?_; simp (maxSteps := 9999999) only [go_sem, trD, hlt, hn, hxn, hyy, Ev.cells])); (try ((with_reducible refine And.intro ?_ ?_) <;> (repeat' with_reducible apply And.intro) <;> try exact sd)))
        exact ret _ _ (by rw [← hI]; rfl)
      · have hdy : ys.drop i = [] := List.drop_of_length_le hy
        rw [hdy, List.drop_eq_getElem_cons hx] at hI
        have hn : ((xs.length : Int) ≤ (i : Int)) = False := eq_false (by omega)
        have hn2 : ((ys.length : Int) ≤ (i : Int)) = True := eq_true (by omega)
        have hyn : ys[i]? = none := List.getElem?_eq_none hy
        obtain ⟨x, hxx⟩ : ∃ x, xs[i]? = some x := ⟨xs[i], by simp [hx]⟩
        obtain ⟨xk, xv⟩ := x
        refine drvL Tryz.func13 ?_
        simp (maxSteps := 9999999) only [go_sem, trD, hlt]
        iterate 4 ((try (refine drvZ Tryz.func13 ?_; simp (maxSteps := 9999999) only [go_sem, trD, hlt, hn, hn2, hyn, hxx, Ev.cells])); (try ((with_reducible refine And.intro ?_ ?_) <;> (repeat' with_reducible apply And.intro) <;> try exact sd)))
        exact ret _ _ (by rw [← hI]; rfl)
      · have hn : ((xs.length : Int) ≤ (i : Int)) = False := eq_false (by omega)
        have hn2 : ((ys.length : Int) ≤ (i : Int)) = False := eq_false (by omega)
        obtain ⟨x, hxx⟩ : ∃ x, xs[i]? = some x := ⟨xs[i], by simp [hx]⟩
        obtain ⟨y, hyy⟩ : ∃ y, ys[i]? = some y := ⟨ys[i], by simp [hy]⟩
        rw [List.drop_eq_getElem_cons hx, List.drop_eq_getElem_cons hy, (List.getElem?_eq_some_iff.1 hxx).2, (List.getElem?_eq_some_iff.1 hyy).2] at hI
        obtain ⟨xk, xv⟩ := x
        obtain ⟨yk, yv⟩ := y
        simp only [fdif] at hI
        by_cases he : xk = yk ∧ xv = yv
        · obtain ⟨rfl, rfl⟩ := he
          rw [if_pos ⟨rfl, rfl⟩] at hI
          refine drvL Tryz.func13 ?_
          simp (maxSteps := 9999999) only [go_sem, trD, hlt]
          iterate 4 ((try (refine drvZ Tryz.func13 ?_; simp (maxSteps := 9999999) only [go_sem, trD, hlt, hn, hn2, hxx, hyy, Ev.cells])); (try ((with_reducible refine And.intro ?_ ?_) <;> (repeat' with_reducible apply And.intro) <;> try exact sd)))
          refine again (i + 1) some [] _ ⟨hlt, by rw [← hI]; rfl⟩ (by omega) ?_
          simp (maxSteps := 9999999) only [go_sem, TmOK, DM, DMs, CM, CMs, forall_eq, exists_eq_left, Mq, HpOK, LowOK, trD]
          try simp
        · rw [if_neg he] at hI
          have hd : (decide (xk = yk) && decide (xv = yv)) = false := by
            cases h1 : decide (xk = yk) with
            | false => rfl
            | true =>
              cases h2 : decide (xv = yv) with
              | false => rfl
              | true => exact absurd ⟨of_decide_eq_true h1, of_decide_eq_true h2⟩ he
          refine drvL Tryz.func13 ?_
          simp (maxSteps := 9999999) only [go_sem, trD, hlt]
          iterate 4 ((try (refine drvZ Tryz.func13 ?_; simp (maxSteps := 9999999) only [go_sem, trD, hlt, hn, hn2, hxx, hyy, Ev.cells, hd])); (try ((with_reducible refine And.intro ?_ ?_) <;> (repeat' with_reducible apply And.intro) <;> try exact sd)))
          exact ret _ _ hI
    · have hn : ¬ i < M := by omega
      refine drvL Tryz.func13 ?_
      simp (maxSteps := 9999999) only [go_sem, trD, hn]
      iterate 2 ((try (refine drvZ Tryz.func13 ?_; simp (maxSteps := 9999999) only [go_sem, trD, hn])); (try ((with_reducible refine And.intro ?_ ?_) <;> (repeat' with_reducible apply And.intro) <;> try exact sd)))
      have e1 : xs.drop i = [] := List.drop_of_length_le (by omega)
      have e2 : ys.drop i = [] := List.drop_of_length_le (by omega)
      exact ret _ _ (by rw [← hI, e1, e2]; rfl)
  · simp (maxSteps := 9999999) only [go_sem, TmOK, DM, DMs, CM, CMs, forall_eq, exists_eq_left, Mq, HpOK, LowOK, trD]
    try simp
end Go.Proofs.YtmagbjbanpgmhaaGreat.CtR

namespace Go.Proofs.YtmagbjbanpgmhaaGreat.CtD
open Go Go.CT CtF CtR

/-- What the traces of a program that is found constant-time are. -/
theorem ct_traces {p : Pg} {m m' : Mm} (hok : progOK p = true) (hm : MemFits p m) (hm' : MemFits p m') (hlo : LowM 0 p m m') (hc : (strictR p).1 = 0) :
    (runL 5 m p.body).2 = (runL 5 m' p.body).2 ∨ (freeP p = false ∧ DivT (runL 5 m p.body).2 (runL 5 m' p.body).2) := by
  have hf : (chkR flowR p).1 = 0 := by
    unfold strictR at hc
    by_cases h : (chkR flowR p).1 = 0
    · exact h
    · rw [if_pos h] at hc; exact hc
  have hk : (chkR leakR p).1 = 0 := by
    unfold strictR at hc
    rw [if_neg (by simpa using hf)] at hc; exact hc
  have h1 := (chk_fine flowR p).1 hf
  have h2 := (chk_fine leakR p).1 hk
  unfold fineP at h1 h2
  simp only [Bool.and_eq_true] at h1 h2
  have := run_ct 5 0 p.body (body_of hok).1 h1.2 h2.2 m m' hlo
  rcases this with ⟨_, e⟩ | hd
  · exact .inl e
  · refine .inr ⟨?_, hd⟩
    cases hfr : freeP p with
    | false => rfl
    | true =>
      exfalso
      unfold freeP at hfr
      simp only [Bool.and_eq_true] at hfr
      obtain ⟨pre, v, v', r, r', _, e1, _⟩ := hd
      exact free_ev 5 p.body hfr.2 m ⟨4, v⟩ (by rw [e1]; simp) rfl
theorem lawCT (bs : List Int) (hb : Fits .u8 bs) (hl : bs.length ≤ mx) : DC Tryz.prog 3 [bytesD bs] [] (fun d h => d = DB true ∧ h = []) := by
  have hmx := mx_eq
  have hdr := drawTypedRuns bs hb hl 0 1 (by decide)
  unfold bytesD
  unfold bytesD at hdr
  have ret : ∀ hp : Hp, RetOb 0 (fun d h => d = DB true ∧ h = []) (DB true) hp := fun hp => RetOb.plain (d := DB true) ⟨rfl, rfl⟩ rfl
  generalize hRR : (fun (d : D) (h : List (Option (List C))) => d = DB true ∧ h = []) = R at ret ⊢
  by_cases hbig : 1048576 < bs.length
  · have hz : ((1048576 : Int) < (bs.length : Int)) = True := eq_true (by omega)
    refine dcZ Tryz.func3 ?_
    simp (maxSteps := 9999999) only [go_sem, hz]
    iterate 2 ((try (refine drvZ Tryz.func3 ?_; simp (maxSteps := 9999999) only [go_sem, hz])); (try ((with_reducible refine And.intro ?_ ?_) <;> (repeat' with_reducible apply And.intro) <;> try exact sd)))
    exact ret _
  have hz : ((1048576 : Int) < (bs.length : Int)) = False := eq_false (by omega)
  refine dcZ Tryz.func3 ?_
  simp (maxSteps := 9999999) only [go_sem, hz]
  iterate 2 ((try (refine drvZ Tryz.func3 ?_; simp (maxSteps := 9999999) only [go_sem, hz])); (try ((with_reducible refine And.intro ?_ ?_) <;> (repeat' with_reducible apply And.intro) <;> try exact sd)))
  refine XK.callG [] hdr ok9 (fun i' x h => by simp at h) (hbT ()) (fun d h' ⟨_, _, _, _, _, _, _, _, e⟩ => by subst e; simp) ?_
  rintro _ _ ⟨p, m, m', rfl, hp, hm, hm', hlo, rfl⟩ _
  have hln := prog_len hp.ok
  have hci := checkCTI p (by omega) (by omega)
  have hcs := checkCTS p (by omega) (by omega) (by have := (body_of hp.ok).2; omega)
  have hfr := releaseFree p (by omega) (by omega)
  have hra := runProgI p m (by omega) (by omega)
  have hrb := runProgI p m' (by omega) (by omega)
  have hsa := runP_sm p m
  have hsb := runP_sm p m'
  have hpl := ct_traces hp.ok hm hm' hlo
  have hpa := runP_of (p := p) (m := m) hp.ok (memOK_of hm)
  have hpb := runP_of (p := p) (m := m') hp.ok (memOK_of hm')
  rw [hpa] at hra hsa
  rw [hpb] at hrb hsb
  simp only at hra hrb hsa hsb
  generalize strictR p = x at *
  obtain ⟨code, at_⟩ := x
  simp only at hpl
  generalize freeP p = fe at *
  generalize runL 5 m p.body = r1 at *
  generalize runL 5 m' p.body = r2 at *
  obtain ⟨⟨vx, ax⟩, t1⟩ := r1
  obtain ⟨⟨vy, ay⟩, t2⟩ := r2
  simp only at hra hrb hsa hsb hpl
  obtain ⟨vs, ar, bd⟩ := p
  obtain ⟨va, arr⟩ := m
  obtain ⟨va', arr'⟩ := m'
  clear hdr
  by_cases hz0 : code = 0
  · subst hz0
    rcases hpl rfl with rfl | ⟨rfl, pre, v, v', r, r', hne, rfl, rfl⟩
    · have hfd := firstDifference t1 t1 (by omega) (by omega)
      rw [fdif_same] at hfd
      iterate 16 ((try (refine drvZ Tryz.func3 ?_; simp (maxSteps := 9999999) only [go_sem, Mm.cells, trD, bne_self_eq_false])); (try ((with_reducible refine And.intro ?_ ?_) <;> (repeat' with_reducible apply And.intro) <;> try exact sd)); (try first | refine XK.p hci ok10 ?_ | refine XK.gp hci ok10 ?_ | refine XK.p hcs ok11 ?_ | refine XK.gp hcs ok11 ?_ | refine XK.p hra ok12 ?_ | refine XK.gp hra ok12 ?_ | refine XK.p hrb ok12 ?_ | refine XK.gp hrb ok12 ?_ | refine XK.p hfd ok13 ?_ | refine XK.gp hfd ok13 ?_))
      exact ret _
    · have hfd := firstDifference (pre ++ ⟨4, v⟩ :: r) (pre ++ ⟨4, v'⟩ :: r') (by omega) (by omega)
      rw [fdif_div pre v v' r r' 0 hne, Int.zero_add] at hfd
      have hx1 : (pre ++ ⟨4, v⟩ :: r : List Ev)[pre.length]? = some ⟨4, v⟩ := by simp
      have hx2 : (pre ++ ⟨4, v'⟩ :: r' : List Ev)[pre.length]? = some ⟨4, v'⟩ := by simp
      have hl1 : pre.length < (pre ++ ⟨4, v⟩ :: r : List Ev).length := by simp
      have hl2 : pre.length < (pre ++ ⟨4, v'⟩ :: r' : List Ev).length := by simp
      generalize hk : pre.length = k at *
      generalize (pre ++ ⟨4, v⟩ :: r : List Ev) = t1 at *
      generalize (pre ++ ⟨4, v'⟩ :: r' : List Ev) = t2 at *
      have hk0 : ((k : Int) < 0) = False := eq_false (by omega)
      iterate 20 ((try (refine drvZ Tryz.func3 ?_; simp (maxSteps := 9999999) only [go_sem, Mm.cells, trD, Ev.cells, bne_self_eq_false, hk0, hx1, hx2, hl1, hl2])); (try ((with_reducible refine And.intro ?_ ?_) <;> (repeat' with_reducible apply And.intro) <;> try exact sd)); (try first | refine XK.p hci ok10 ?_ | refine XK.gp hci ok10 ?_ | refine XK.p hcs ok11 ?_ | refine XK.gp hcs ok11 ?_ | refine XK.p hra ok12 ?_ | refine XK.gp hra ok12 ?_ | refine XK.p hrb ok12 ?_ | refine XK.gp hrb ok12 ?_ | refine XK.p hfd ok13 ?_ | refine XK.gp hfd ok13 ?_ | refine XK.p hfr ok14 ?_ | refine XK.gp hfr ok14 ?_))
      exact ret _
  · have g1 : (code = 0) = False := eq_false hz0
    have g2 : (code != 0) = true := by simp [hz0]
    iterate 12 ((try (refine drvZ Tryz.func3 ?_; simp (maxSteps := 9999999) only [go_sem, Mm.cells, bne_self_eq_false, g1, g2])); (try ((with_reducible refine And.intro ?_ ?_) <;> (repeat' with_reducible apply And.intro) <;> try exact sd)); (try first | refine XK.p hci ok10 ?_ | refine XK.gp hci ok10 ?_ | refine XK.p hcs ok11 ?_ | refine XK.gp hcs ok11 ?_))
    exact ret _
end Go.Proofs.YtmagbjbanpgmhaaGreat.CtD
