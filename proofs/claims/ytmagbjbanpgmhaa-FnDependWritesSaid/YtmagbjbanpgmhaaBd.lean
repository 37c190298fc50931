/- Contracts of functions of the program, one behind the other, as plain data: what each call returns and which blocks it leaves. -/
import Derived.Test.YtmagbjbanpgmhaaBa
import Derived.Test.YtmagbjbanpgmhaaBb
import Derived.Test.YtmagbjbanpgmhaaBc
import Derived.Test.YtmagbjbanpgmhaaFacts
import Derived.Test.YtmagbjbanpgmhaaAj
import Derived.Test.YtmagbjbanpgmhaaAk
import Derived.Test.YtmagbjbanpgmhaaAl
import Derived.Test.YtmagbjbanpgmhaaAn
import Derived.Test.YtmagbjbanpgmhaaAs
import Derived.Test.YtmagbjbanpgmhaaAt
import Derived.Test.YtmagbjbanpgmhaaAv
import Derived.Test.YtmagbjbanpgmhaaAw
import Derived.Test.YtmagbjbanpgmhaaAy
set_option linter.unusedVariables false
set_option linter.unusedSimpArgs false
set_option maxHeartbeats 16000000
set_option maxRecDepth 100000
namespace Go.Proofs.Ytmagbjbanpgmhaa.CtD
set_option pp.maxSteps 300000
set_option pp.deepTerms true
open Go Go.CT CtF CtR

theorem lawDW (bs : List Int) (hb : Fits .u8 bs) (hl : bs.length ≤ mx) : DC Try.prog 4 [bytesD bs] [] (fun d h => d = DB true ∧ h = []) := by
  have hmx := mx_eq
  have hdr := drawDependsOn bs hb hl
  unfold bytesD
  unfold bytesD at hdr
  have ret : ∀ hp : Hp, RetOb 0 (fun d h => d = DB true ∧ h = []) (DB true) hp := fun hp => RetOb.plain (d := DB true) ⟨rfl, rfl⟩ rfl
  generalize hRR : (fun (d : D) (h : List (Option (List C))) => d = DB true ∧ h = []) = R at ret ⊢
  by_cases hbig : 1048576 < bs.length
  · have hz : ((1048576 : Int) < (bs.length : Int)) = True := eq_true (by omega)
    refine dcZ Try.func4 ?_
    simp (maxSteps := 9999999) only [go_sem, hz]
    iterate 2 ((try (refine drvZ Try.func4 ?_; simp (maxSteps := 9999999) only [go_sem, hz])); (try ((with_reducible refine And.intro ?_ ?_) <;> (repeat' with_reducible apply And.intro) <;> try exact sd)))
    exact ret _
  have hz : ((1048576 : Int) < (bs.length : Int)) = False := eq_false (by omega)
  refine dcZ Try.func4 ?_
  simp (maxSteps := 9999999) only [go_sem, hz]
  iterate 2 ((try (refine drvZ Try.func4 ?_; simp (maxSteps := 9999999) only [go_sem, hz])); (try ((with_reducible refine And.intro ?_ ?_) <;> (repeat' with_reducible apply And.intro) <;> try exact sd)))
  refine XK.callG [] hdr ok9 (fun i' x h => by simp at h) (hbT ()) (fun d h' ⟨_, _, _, e⟩ => by subst e; simp) ?_
  rintro _ _ ⟨p, rfl, hp, rfl⟩ _
  have hnv := hp.nv
  have hna := hp.na
  have hr0 := ctRowsR 0 [] (by omega) (by simp)
  simp only [rowsD, List.map_nil] at hr0
  cases hok : progOK p with
  | false =>
    have hdi := dependsOnI0 p (by omega) (by omega) hok
    have hds := dependsOnS0 p hp hok
    obtain ⟨vs, ar, bd⟩ := p
    iterate 8 ((try (refine drvZ Try.func4 ?_; simp (maxSteps := 9999999) only [go_sem, Int.natCast_zero])); (try ((with_reducible refine And.intro ?_ ?_) <;> (repeat' with_reducible apply And.intro) <;> try exact sd)); (try first | refine XK.p hdi ok10 ?_ | refine XK.gp hdi ok10 ?_ | refine XK.p hds ok12 ?_ | refine XK.gp hds ok12 ?_ | refine XK.p hr0 ok11 ?_ | refine XK.gp hr0 ok11 ?_))
    exact ret _
  | true =>
    have hln := prog_len hok
    obtain ⟨w, hw⟩ : ∃ w, p.vars.length + p.arrays.length = w := ⟨_, rfl⟩
    have hw14 : w ≤ 14 := by omega
    have hdi := dependsOnI p hw hw14 (by omega) hok
    have hds := dependsOnS p hw hw14 (by omega) hp hok
    have hXl := (depP_ok p hw hw14).len
    have hcr := ctRowsR w (depP p).sets hw14 (by rw [hXl]; omega)
    have hpw := programWrites p (by omega) (by omega)
    obtain ⟨hWl, hWr⟩ := dep_writes hw hw14 hok
    generalize wrP p = W at *
    obtain ⟨W1, W2⟩ := W
    simp only at hWl hWr hpw
    generalize (depP p).sets = xs at *
    have hw0 : 0 < w := by omega
    obtain ⟨vs, ar, bd⟩ := p
    have hw0' : ((w : Int) = 0) = False := eq_false (by omega)
    have hw0b : ((w : Int) == 0) = false := by simp; omega
    have hc1 := boolsC_len W1
    have hc2 := boolsC_len W2
    have hf1 := boolsC_flat W1
    have hf2 := boolsC_flat W2
    have hWl2 : W1.length + W2.length = w := by simpa using hWl
    clear hdr
    iterate 10 ((try (refine drvZ Try.func4 ?_; simp (maxSteps := 9999999) only [go_sem, rowsD, hXl, hw0', hw0b, boolsD, hc1, hc2, hf1, hf2])); (try ((with_reducible refine And.intro ?_ ?_) <;> (repeat' with_reducible apply And.intro) <;> try exact sd)); (try first | refine XK.p hdi ok10 ?_ | refine XK.gp hdi ok10 ?_ | refine XK.p hds ok12 ?_ | refine XK.gp hds ok12 ?_ | refine XK.p hcr ok11 ?_ | refine XK.gp hcr ok11 ?_ | refine XK.p hpw ok13 ?_ | refine XK.gp hpw ok13 ?_))
    have happ : boolsC W1 ++ boolsC W2 = boolsC (W1 ++ W2) := by simp [boolsC]
    rw [hWl2, happ]
    generalize W1 ++ W2 = W at *
    clear hc1 hc2 hf1 hf2 hpw
    refine Go.loopQ (fun i : Nat => [(4, .c (rowsD w xs)), (7, .c (.msl 64 1 0 w)), (8, DI .i64 i)]) (fun i => [(64, some (boolsC W))]) 8192 (fun i => i ≤ w) (fun i => w - i) ?_ 0 (fun j => if j = 64 then some 2048 else none) [] _ (Nat.zero_le _) ?_
    · intro i hi again
      rcases Nat.lt_or_ge i w with hlt | hge
      · have hr : (xs.map fun N => [boolsD (bl w N)])[i]? = some [.isl 1 ((bl w (dat xs i)).map fun b => [BC b])] := rows_at (by omega)
        obtain ⟨g, hg⟩ : ∃ g, W[i]? = some g := ⟨W[i]'(by omega), by simp⟩
        have hgC : (boolsC W)[i]? = some (.v (.bool g)) := by unfold boolsC; rw [List.getElem?_map, hg]; rfl
        have hbl : ∀ n, n < w → (bl w (dat xs i))[n]? = some ((dat xs i).testBit n) := fun n h => by simp [bl, h]
        have hbln := bl_len w (dat xs i)
        have hq : g = false → dat xs i = 2 ^ i := fun h => hWr i hlt (by rw [List.getD_eq_getElem?_getD, hg, h]; rfl)
        generalize dat xs i = q at *
        refine drvL Try.func4 ?_
        simp (maxSteps := 9999999) only [go_sem, rowsD, hXl, hlt]
        ((try (refine drvZ Try.func4 ?_; simp (maxSteps := 9999999) only [go_sem, rowsD, hXl, hlt])); (try ((with_reducible refine And.intro ?_ ?_) <;> (repeat' with_reducible apply And.intro) <;> try exact sd)))
        refine Go.loopQ (fun n : Nat => [(4, .c (rowsD w xs)), (7, .c (.msl 64 1 0 w)), (8, DI .i64 i), (9, DI .i64 n)]) (fun n => [(64, some (boolsC W))]) 16384 (fun n => n ≤ w) (fun n => w - n) ?_ 0 some [] _ (Nat.zero_le _) ?_
        · intro n hn again2
          rcases Nat.lt_or_ge n w with hnl | hnge
          · have hbl := hbl n hnl
            have key : ∃ x y : Bool, q.testBit n = x ∧ (((i : Int) = (n : Int)) = (y = true)) ∧ ((i : Int) == (n : Int)) = y ∧ (g = false → x = y) := by
              refine ⟨_, decide (i = n), rfl, ?_, ?_, fun h => ?_⟩
              · simp; omega
              · rw [Bool.eq_iff_iff]; simp; omega
              · rw [hq h, Nat.testBit_two_pow]
            obtain ⟨x, y, k1, k2, k3, k4⟩ := key
            rw [k1] at hbl
            cases g with
            | true =>
              refine drvL Try.func4 ?_
              simp (maxSteps := 9999999) only [go_sem, rowsD, hXl, hnl]
              iterate 4 ((try (refine drvZ Try.func4 ?_; simp (maxSteps := 9999999) only [go_sem, rowsD, hXl, hnl, hr, hgC, hbl, hbln, hlt, k2, k3])); (try ((with_reducible refine And.intro ?_ ?_) <;> (repeat' with_reducible apply And.intro) <;> try exact sd)))
              refine again2 (n + 1) some [] _ hnl (by omega) ?_
              simp (maxSteps := 9999999) only [go_sem, TmOK, DM, DMs, CM, CMs, forall_eq, exists_eq_left, Mq, HpOK, LowOK, rowsD]
              simp
              exact CMs.kf (boolsC_kf _)
            | false =>
              obtain rfl := k4 rfl
              refine drvL Try.func4 ?_
              simp (maxSteps := 9999999) only [go_sem, rowsD, hXl, hnl]
              iterate 4 ((try (refine drvZ Try.func4 ?_; simp (maxSteps := 9999999) only [go_sem, rowsD, hXl, hnl, hr, hgC, hbl, hbln, hlt, k2, k3, bne_self_eq_false])); (try ((with_reducible refine And.intro ?_ ?_) <;> (repeat' with_reducible apply And.intro) <;> try exact sd)))
              refine again2 (n + 1) some [] _ hnl (by omega) ?_
              simp (maxSteps := 9999999) only [go_sem, TmOK, DM, DMs, CM, CMs, forall_eq, exists_eq_left, Mq, HpOK, LowOK, rowsD]
              simp
              exact CMs.kf (boolsC_kf _)
          · have hnn : ¬ n < w := by omega
            refine drvL Try.func4 ?_
            simp (maxSteps := 9999999) only [go_sem, rowsD, hXl, hnn]
            iterate 3 ((try (refine drvZ Try.func4 ?_; simp (maxSteps := 9999999) only [go_sem, rowsD, hXl, hnn])); (try ((with_reducible refine And.intro ?_ ?_) <;> (repeat' with_reducible apply And.intro) <;> try exact sd)))
            refine again (i + 1) some [] _ hlt (by omega) ?_
            simp (maxSteps := 9999999) only [go_sem, TmOK, DM, DMs, CM, CMs, forall_eq, exists_eq_left, Mq, HpOK, LowOK, rowsD]
            simp
            exact CMs.kf (boolsC_kf _)
        · simp (maxSteps := 9999999) only [go_sem, TmOK, DM, DMs, CM, CMs, forall_eq, exists_eq_left, Mq, HpOK, LowOK, rowsD]
          simp
          exact CMs.kf (boolsC_kf _)
      · have hn : ¬ i < w := by omega
        refine drvL Try.func4 ?_
        simp (maxSteps := 9999999) only [go_sem, rowsD, hXl, hn, beq_self_eq_true]
        iterate 3 ((try (refine drvZ Try.func4 ?_; simp (maxSteps := 9999999) only [go_sem, rowsD, hXl, hn, beq_self_eq_true])); (try ((with_reducible refine And.intro ?_ ?_) <;> (repeat' with_reducible apply And.intro) <;> try exact sd)))
        exact ret _
    · simp (maxSteps := 9999999) only [go_sem, TmOK, DM, DMs, CM, CMs, forall_eq, exists_eq_left, Mq, HpOK, LowOK, rowsD]
      simp
      exact ⟨fun a _ => rfl, CMs.kf (boolsC_kf _)⟩
end Go.Proofs.Ytmagbjbanpgmhaa.CtD
