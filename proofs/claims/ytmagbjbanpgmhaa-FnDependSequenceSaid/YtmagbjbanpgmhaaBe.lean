/- Contracts of functions of the program, one behind the other, as plain data: what each call returns and which blocks it leaves. -/
import Derived.Test.YtmagbjbanpgmhaaBa
import Derived.Test.YtmagbjbanpgmhaaBb
import Derived.Test.YtmagbjbanpgmhaaBc
import Derived.Test.YtmagbjbanpgmhaaFacts
import Derived.Test.YtmagbjbanpgmhaaAj
import Derived.Test.YtmagbjbanpgmhaaAk
import Derived.Test.YtmagbjbanpgmhaaAl
import Derived.Test.YtmagbjbanpgmhaaAn
import Derived.Test.YtmagbjbanpgmhaaAr
import Derived.Test.YtmagbjbanpgmhaaAs
import Derived.Test.YtmagbjbanpgmhaaAt
import Derived.Test.YtmagbjbanpgmhaaAv
import Derived.Test.YtmagbjbanpgmhaaAw
import Derived.Test.YtmagbjbanpgmhaaAy
set_option linter.unusedVariables false
set_option linter.unusedSimpArgs false
set_option maxHeartbeats 16000000
set_option maxRecDepth 100000
namespace Go.Proofs.Ytmagbjbanpgmhaa.CtD
set_option pp.maxSteps 300000
set_option pp.deepTerms true
open Go Go.CT CtF CtR

theorem cellsL_tk (l : List St1) (k : Nat) : (St1.cellsL l).take k = St1.cellsL (l.take k) := by simp only [St1.cellsL_eq, List.map_take]
theorem cellsL_dp (l : List St1) (k : Nat) : (St1.cellsL l).drop k = St1.cellsL (l.drop k) := by simp only [St1.cellsL_eq, List.map_drop]
theorem tk_all (l : List St1) (k : Nat) : (l.drop k).take (l.length - k) = l.drop k := List.take_of_length_le (by simp)
def accD (Y X : List Nat) (i n : Nat) (j : Nat) : Bool := (List.range j).any fun j => (dat Y i).testBit j && (dat X j).testBit n
theorem accD_succ (Y X : List Nat) (i n j : Nat) : accD Y X i n (j + 1) = (accD Y X i n j || ((dat Y i).testBit j && (dat X j).testBit n)) := by
  unfold accD; rw [List.range_succ, List.any_append]; simp
theorem lawDS (bs ms : List Int) (hb : Fits .u8 bs) (hb2 : Fits .u8 ms) (hl : bs.length ≤ mx) (hl2 : ms.length ≤ mx) : DC Try.prog 3 [bytesD bs, bytesD ms] [] (fun d h => d = DB true ∧ h = []) := by
  have hmx := mx_eq
  have hdr := drawDependsOn bs hb hl
  unfold bytesD
  unfold bytesD at hdr
  have ret : ∀ hp : Hp, RetOb 0 (fun d h => d = DB true ∧ h = []) (DB true) hp := fun hp => RetOb.plain (d := DB true) ⟨rfl, rfl⟩ rfl
  generalize hRR : (fun (d : D) (h : List (Option (List C))) => d = DB true ∧ h = []) = R at ret ⊢
  by_cases hbig : 1048576 < bs.length
  · have hz : ((1048576 : Int) < (bs.length : Int)) = True := eq_true (by omega)
    refine dcZ Try.func3 ?_
    simp (maxSteps := 9999999) only [go_sem, hz]
    iterate 2 ((try (refine drvZ Try.func3 ?_; simp (maxSteps := 9999999) only [go_sem, hz])); (try ((with_reducible refine And.intro ?_ ?_) <;> (repeat' with_reducible apply And.intro) <;> try exact sd)))
    exact ret _
  have hz : ((1048576 : Int) < (bs.length : Int)) = False := eq_false (by omega)
  by_cases hbig2 : 1048576 < ms.length
  · have hz2 : ((1048576 : Int) < (ms.length : Int)) = True := eq_true (by omega)
    refine dcZ Try.func3 ?_
    simp (maxSteps := 9999999) only [go_sem, hz, hz2]
    iterate 2 ((try (refine drvZ Try.func3 ?_; simp (maxSteps := 9999999) only [go_sem, hz, hz2])); (try ((with_reducible refine And.intro ?_ ?_) <;> (repeat' with_reducible apply And.intro) <;> try exact sd)))
    exact ret _
  have hz2 : ((1048576 : Int) < (ms.length : Int)) = False := eq_false (by omega)
  refine dcZ Try.func3 ?_
  simp (maxSteps := 9999999) only [go_sem, hz, hz2]
  iterate 2 ((try (refine drvZ Try.func3 ?_; simp (maxSteps := 9999999) only [go_sem, hz, hz2])); (try ((with_reducible refine And.intro ?_ ?_) <;> (repeat' with_reducible apply And.intro) <;> try exact sd)))
  refine XK.callG [] hdr ok9 (fun i' x h => by simp at h) (hbT ()) (fun d h' ⟨_, _, _, e⟩ => by subst e; simp) ?_
  rintro _ _ ⟨p, rfl, hp, rfl⟩ _
  have hnv := hp.nv
  have hna := hp.na
  have hnb := hp.nb
  have hr0 := ctRowsR 0 [] (by omega) (by simp)
  simp only [rowsD, List.map_nil] at hr0
  cases hok : progOK p with
  | false =>
    have hdi := dependsOnI0 p (by omega) (by omega) hok
    have hds := dependsOnS0 p hp hok
    obtain ⟨vs, ar, bd⟩ := p
    iterate 8 ((try (refine drvZ Try.func3 ?_; simp (maxSteps := 9999999) only [go_sem, Int.natCast_zero])); (try ((with_reducible refine And.intro ?_ ?_) <;> (repeat' with_reducible apply And.intro) <;> try exact sd)); (try first | refine XK.p hdi ok10 ?_ | refine XK.gp hdi ok10 ?_ | refine XK.p hds ok12 ?_ | refine XK.gp hds ok12 ?_ | refine XK.p hr0 ok11 ?_ | refine XK.gp hr0 ok11 ?_))
    exact ret _
  | true =>
    have hln := prog_len hok
    obtain ⟨w, hw⟩ : ∃ w, p.vars.length + p.arrays.length = w := ⟨_, rfl⟩
    have hw14 : w ≤ 14 := by omega
    have hdi := dependsOnI p hw hw14 (by omega) hok
    have hds := dependsOnS p hw hw14 (by omega) hp hok
    have hXl := (depP_ok p hw hw14).len
    have hcr := ctRowsR w (depP p).sets hw14 (by rw [hXl]; omega)
    have hw0 : 0 < w := by omega
    obtain ⟨vs, ar, bd⟩ := p
    simp only at hnb hnv hna hw hln
    have hkk : ((ms.length : Int) % ((bd.length : Int) + 1)) = ((ms.length % (bd.length + 1) : Nat) : Int) := by rw [Int.natCast_emod]; rfl
    have hkb : ms.length % (bd.length + 1) ≤ bd.length := by have := Nat.mod_lt ms.length (show 0 < bd.length + 1 by omega); omega
    have hta := tk_all bd (ms.length % (bd.length + 1))
    generalize ms.length % (bd.length + 1) = k at *
    have hll := lsize_app 5 (bd.take k) (bd.drop k)
    rw [List.take_append_drop] at hll
    have hot : progOK ⟨vs, ar, bd.take k⟩ = true := progOK_sub hok (fun s hs => List.mem_of_mem_take hs) (by omega)
    have hod : progOK ⟨vs, ar, bd.drop k⟩ = true := progOK_sub hok (fun s hs => List.mem_of_mem_drop hs) (by omega)
    have hdx := dependsOnI ⟨vs, ar, bd.take k⟩ hw hw14 hw0 hot
    have hdy := dependsOnI ⟨vs, ar, bd.drop k⟩ hw hw14 hw0 hod
    have hX1 := (depP_ok ⟨vs, ar, bd.take k⟩ hw hw14).len
    have hY1 := (depP_ok ⟨vs, ar, bd.drop k⟩ hw hw14).len
    have hseq := dep_seq (w := w) (nv := vs.length) (bd.take k) (bd.drop k) (depP ⟨vs, ar, bd.take k⟩) (depP ⟨vs, ar, bd.drop k⟩) (by rw [← hw]; rfl) (by rw [← hw]; rfl) hX1
    rw [List.take_append_drop] at hseq
    have hZ : bd.foldl (depS vs.length 5 0) (startD w) = depP ⟨vs, ar, bd⟩ := by rw [← hw]; rfl
    rw [hZ] at hseq
    generalize (depP ⟨vs, ar, bd⟩).sets = Z at *
    generalize (depP ⟨vs, ar, bd.take k⟩).sets = X at *
    generalize (depP ⟨vs, ar, bd.drop k⟩).sets = Y at *
    have hw0' : ((w : Int) = 0) = False := eq_false (by omega)
    have hw0b : ((w : Int) == 0) = false := by simp; omega
    clear hdr hZ hot hod
    iterate 12 ((try (refine drvZ Try.func3 ?_; simp (maxSteps := 9999999) only [go_sem, rowsD, hXl, hw0', hw0b, hkk, cellsL_tk, cellsL_dp, hta])); (try ((with_reducible refine And.intro ?_ ?_) <;> (repeat' with_reducible apply And.intro) <;> try exact sd)); (try first | refine XK.p hdi ok10 ?_ | refine XK.gp hdi ok10 ?_ | refine XK.p hds ok12 ?_ | refine XK.gp hds ok12 ?_ | refine XK.p hcr ok11 ?_ | refine XK.gp hcr ok11 ?_ | refine XK.p hdx ok10 ?_ | refine XK.gp hdx ok10 ?_ | refine XK.p hdy ok10 ?_ | refine XK.gp hdy ok10 ?_))
    clear hdi hds hcr hdx hdy hta
    refine Go.loopQ (fun i : Nat => [(6, .c (rowsD w Z)), (8, .c (rowsD w X)), (9, .c (rowsD w Y)), (10, DI .i64 i)]) (fun _ => []) 8192 (fun i => i ≤ w) (fun i => w - i) ?_ 0 some [] _ (Nat.zero_le _) ?_
    · intro i hi again
      rcases Nat.lt_or_ge i w with hlt | hge
      · have hrz : (Z.map fun N => [boolsD (bl w N)])[i]? = some [.isl 1 ((bl w (dat Z i)).map fun b => [BC b])] := rows_at (by omega)
        have hry : (Y.map fun N => [boolsD (bl w N)])[i]? = some [.isl 1 ((bl w (dat Y i)).map fun b => [BC b])] := rows_at (by omega)
        have hzl := bl_len w (dat Z i)
        have hyl := bl_len w (dat Y i)
        refine drvL Try.func3 ?_
        simp (maxSteps := 9999999) only [go_sem, rowsD, hXl, hlt]
        ((try (refine drvZ Try.func3 ?_; simp (maxSteps := 9999999) only [go_sem, rowsD, hXl, hlt])); (try ((with_reducible refine And.intro ?_ ?_) <;> (repeat' with_reducible apply And.intro) <;> try exact sd)))
        refine Go.loopQ (fun n : Nat => [(6, .c (rowsD w Z)), (8, .c (rowsD w X)), (9, .c (rowsD w Y)), (10, DI .i64 i), (11, DI .i64 n)]) (fun _ => []) 16384 (fun n => n ≤ w) (fun n => w - n) ?_ 0 some [] _ (Nat.zero_le _) ?_
        · intro n hn again2
          rcases Nat.lt_or_ge n w with hnl | hnge
          · have hbz : (bl w (dat Z i))[n]? = some (accD Y X i n w) := by simp [bl, hnl, hseq, accD]
            refine drvL Try.func3 ?_
            simp (maxSteps := 9999999) only [go_sem, rowsD, hXl, hnl]
            ((try (refine drvZ Try.func3 ?_; simp (maxSteps := 9999999) only [go_sem, rowsD, hXl, hnl])); (try ((with_reducible refine And.intro ?_ ?_) <;> (repeat' with_reducible apply And.intro) <;> try exact sd)))
            refine Go.loopQ (fun j : Nat => [(6, .c (rowsD w Z)), (8, .c (rowsD w X)), (9, .c (rowsD w Y)), (10, DI .i64 i), (11, DI .i64 n), (12, DB (accD Y X i n j)), (13, DI .i64 j)]) (fun _ => []) 32768 (fun j => j ≤ w) (fun j => w - j) ?_ 0 some [] _ (Nat.zero_le _) ?_
            · intro j hj again3
              rcases Nat.lt_or_ge j w with hjl | hjge
              · have hrx : (X.map fun N => [boolsD (bl w N)])[j]? = some [.isl 1 ((bl w (dat X j)).map fun b => [BC b])] := rows_at (by omega)
                have hxl := bl_len w (dat X j)
                have hby : (bl w (dat Y i))[j]? = some ((dat Y i).testBit j) := by simp [bl, hjl]
                have hbx : (bl w (dat X j))[n]? = some ((dat X j).testBit n) := by simp [bl, hnl]
                have hac := accD_succ Y X i n j
                generalize accD Y X i n j = a at *
                generalize (dat Y i).testBit j = b1 at *
                generalize (dat X j).testBit n = b2 at *
                cases a <;> cases b1
                all_goals
                  simp only [Bool.true_or, Bool.false_or, Bool.true_and, Bool.false_and] at hac
                  refine drvL Try.func3 ?_
                  simp (maxSteps := 9999999) only [go_sem, rowsD, hXl, hjl]
                  iterate 4 ((try (refine drvZ Try.func3 ?_; simp (maxSteps := 9999999) only [go_sem, rowsD, hXl, hjl, hlt, hnl, hrx, hry, hxl, hyl, hby, hbx, hY1, hX1])); (try ((with_reducible refine And.intro ?_ ?_) <;> (repeat' with_reducible apply And.intro) <;> try exact sd)))
                  refine again3 (j + 1) some [] _ hjl (by omega) ?_
                  simp (maxSteps := 9999999) only [go_sem, TmOK, DM, DMs, CM, CMs, forall_eq, exists_eq_left, Mq, HpOK, LowOK, rowsD, hac]
                  try simp
              · have hjn : ¬ j < w := by omega
                obtain rfl : w = j := by omega
                refine drvL Try.func3 ?_
                simp (maxSteps := 9999999) only [go_sem, rowsD, hXl, hjn, bne_self_eq_false]
                iterate 4 ((try (refine drvZ Try.func3 ?_; simp (maxSteps := 9999999) only [go_sem, rowsD, hXl, hjn, hlt, hnl, hrz, hzl, hbz, bne_self_eq_false])); (try ((with_reducible refine And.intro ?_ ?_) <;> (repeat' with_reducible apply And.intro) <;> try exact sd)))
                refine again2 (n + 1) some [] _ hnl (by omega) ?_
                simp (maxSteps := 9999999) only [go_sem, TmOK, DM, DMs, CM, CMs, forall_eq, exists_eq_left, Mq, HpOK, LowOK, rowsD]
                try simp
            · simp (maxSteps := 9999999) only [go_sem, TmOK, DM, DMs, CM, CMs, forall_eq, exists_eq_left, Mq, HpOK, LowOK, rowsD]
              try simp [accD]
          · have hnn : ¬ n < w := by omega
            refine drvL Try.func3 ?_
            simp (maxSteps := 9999999) only [go_sem, rowsD, hXl, hnn]
            iterate 3 ((try (refine drvZ Try.func3 ?_; simp (maxSteps := 9999999) only [go_sem, rowsD, hXl, hnn])); (try ((with_reducible refine And.intro ?_ ?_) <;> (repeat' with_reducible apply And.intro) <;> try exact sd)))
            refine again (i + 1) some [] _ hlt (by omega) ?_
            simp (maxSteps := 9999999) only [go_sem, TmOK, DM, DMs, CM, CMs, forall_eq, exists_eq_left, Mq, HpOK, LowOK, rowsD]
            try simp
        · simp (maxSteps := 9999999) only [go_sem, TmOK, DM, DMs, CM, CMs, forall_eq, exists_eq_left, Mq, HpOK, LowOK, rowsD]
          try simp
      · have hn : ¬ i < w := by omega
        refine drvL Try.func3 ?_
        simp (maxSteps := 9999999) only [go_sem, rowsD, hXl, hn]
        iterate 3 ((try (refine drvZ Try.func3 ?_; simp (maxSteps := 9999999) only [go_sem, rowsD, hXl, hn])); (try ((with_reducible refine And.intro ?_ ?_) <;> (repeat' with_reducible apply And.intro) <;> try exact sd)))
        exact ret _
    · simp (maxSteps := 9999999) only [go_sem, TmOK, DM, DMs, CM, CMs, forall_eq, exists_eq_left, Mq, HpOK, LowOK, rowsD]
      try simp
end Go.Proofs.Ytmagbjbanpgmhaa.CtD
