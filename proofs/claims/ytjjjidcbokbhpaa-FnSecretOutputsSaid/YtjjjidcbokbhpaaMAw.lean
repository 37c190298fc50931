/- Contracts of functions of the program, one behind the other, as plain data: what each call returns and which blocks it leaves. -/
import Derived.Test.YtjjjidcbokbhpaaMFacts
import Derived.Test.YtjjjidcbokbhpaaMAi
import Derived.Test.YtjjjidcbokbhpaaMAj
import Derived.Test.YtjjjidcbokbhpaaMAk
import Derived.Test.YtjjjidcbokbhpaaMAl
import Derived.Test.YtjjjidcbokbhpaaMAn
import Derived.Test.YtjjjidcbokbhpaaMAo
import Derived.Test.YtjjjidcbokbhpaaMAq
import Derived.Test.YtjjjidcbokbhpaaMAr
import Derived.Test.YtjjjidcbokbhpaaMAs
import Derived.Test.YtjjjidcbokbhpaaMAv
import Derived.Test.YtjjjidcbokbhpaaMAt
set_option linter.unusedVariables false
set_option linter.unusedSimpArgs false
set_option maxHeartbeats 16000000
set_option maxRecDepth 100000
namespace Go.Proofs.Ytjjjidcbokbhpaa.CtD
open Go Go.CT CtF CtR

/-- The answer of SecretOutputs. -/
def soL (p : Pg) (w : Nat) : List Bool := (depP p).sets.map fun N => soB (hiC 0 p.vars p.arrays) N w
theorem soL_len {p : Pg} {w : Nat} (hw : p.vars.length + p.arrays.length = w) (hw14 : w ≤ 14) : (soL p w).length = w := by
  simp [soL, (depP_ok p hw hw14).len]
theorem so_low {p : Pg} {w : Nat} (hw : p.vars.length + p.arrays.length = w) (hw14 : w ≤ 14) (hok : progOK p = true) (hc : (chkR flowR p).1 = 0) (hfr : freeP p = true) (i : Nat) (hi : i < w) (h : hiC 0 p.vars p.arrays i = false) : (soL p w)[i]? = some false := by
  have hl := (depP_ok p hw hw14).len
  have hx : (depP p).sets[i]? = some (dat (depP p).sets i) := dat_get (by omega)
  unfold soL
  rw [List.getElem?_map, hx, Option.map_some, sec_so (fl_sec hw hw14 hok hc hfr) i w h]
theorem hi_cell {vs ar : List Int} (h : lab3 vs) (h2 : lab3 ar) {i : Nat} (hi : i < vs.length + ar.length) : ∃ T : Nat, T ≤ 3 ∧ (vs ++ ar)[i]? = some (T : Int) ∧ hiC 0 vs ar i = secL T := by
  by_cases hv : i < vs.length
  · have hx : vs[i]? = some vs[i] := by simp [hv]
    have hl := h vs[i] (List.getElem_mem hv)
    refine ⟨vs[i].toNat, by omega, by rw [List.getElem?_append_left hv, hx]; congr 1; omega, ?_⟩
    unfold hiC secL
    rw [if_pos hv]
    unfold nth
    simp [List.getD_eq_getElem?_getD, hx]
  · have hj : i - vs.length < ar.length := by omega
    have hx : ar[i - vs.length]? = some ar[i - vs.length] := by simp [hj]
    have hl := h2 ar[i - vs.length] (List.getElem_mem hj)
    refine ⟨ar[i - vs.length].toNat, by omega, by rw [List.getElem?_append_right (by omega), hx]; congr 1; omega, ?_⟩
    unfold hiC secL
    rw [if_neg hv]
    unfold nth
    simp [List.getD_eq_getElem?_getD, hx]
theorem secretOutputsI (p : Pg) {w : Nat} (hw : p.vars.length + p.arrays.length = w) (hw14 : w ≤ 14) (w0 : 0 < w) (hok : progOK p = true) : DC Try.prog 19 [.agg p.cells] []
    (fun r h => r = .c (boolsD (soL p w)) ∧ h = []) := by
  have hmx := mx_eq
  have hv := programValidI p (by omega) (by omega)
  rw [hok] at hv
  have han := analysedI p hw hw14 w0 (body_of hok).1 (by have := (body_of hok).2; omega)
  have hX := depP_ok p hw hw14
  have hcc := concatD [p.vars, p.arrays] (by simp) (by simp; omega)
  have hlab := labs_of hok
  have hand := soB_and (hiC 0 p.vars p.arrays)
  have hcell := fun i (h : i < p.vars.length + p.arrays.length) => hi_cell hlab.1 hlab.2 h
  have hso : soL p w = (depP p).sets.map fun N => soB (hiC 0 p.vars p.arrays) N w := rfl
  generalize soL p w = so at *
  generalize depP p = X at *
  obtain ⟨xs, xt, xr⟩ := X
  obtain ⟨vs, ar, bd⟩ := p
  have hxl : xs.length = w := hX.len
  have hrow : ∀ a ∈ xs, a < 2 ^ w := hX.row
  have hnl := nI_len xs
  simp only at hand hcell hso hw
  generalize hiC 0 vs ar = f at *
  have hsl : so.length = w := by rw [hso, List.length_map, hxl]
  simp only [List.flatten_cons, List.flatten_nil, List.append_nil, List.map_cons, List.map_nil, List.length_cons, List.length_nil] at hcc
  generalize hvl : vs ++ ar = vl at *
  have hvll : vl.length = w := by rw [← hvl, List.length_append]; exact hw
  generalize hR : (fun (r : D) (h : List (Option (List C))) => r = .c (boolsD so) ∧ h = []) = R
  refine dcZ Try.func19 ?_
  simp (maxSteps := 9999999) only [go_sem]
  iterate 6 ((try (refine drvZ Try.func19 ?_; simp (maxSteps := 9999999) only [go_sem])); (try ((with_reducible refine And.intro ?_ ?_) <;> (repeat' with_reducible apply And.intro) <;> try exact sd)); (try first | refine XK.p hv ok49 ?_ | refine XK.gp hv ok49 ?_))
  refine XK.callG [640] hcc ok50 (hhpG (by simp [HH, upd, hpL, renCs, renC, isI])) (hbT ()) (fun d h' ⟨_, e⟩ => by subst e; simp) ?_ (fun _ => ⟨by kernel_rfl, _, _, ⟨rfl, rfl⟩, by simp⟩)
  rintro _ _ ⟨rfl, rfl⟩ _
  iterate 2 ((try (refine drvZ Try.func19 ?_; simp (maxSteps := 9999999) only [go_sem, renCs, renC])); (try ((with_reducible refine And.intro ?_ ?_) <;> (repeat' with_reducible apply And.intro) <;> try exact sd)))
  refine Go.loopQ (fun i : Nat => [(1, .c (.ptr 0 0)), (3, DI .i64 (smk f i)), (19, .c (isI vl)), (20, DI .i64 w), (21, DI .i64 i)]) (fun _ => [(0, some (Pg.cells ⟨vs, ar, bd⟩))]) 4096 (fun i => i ≤ w) (fun i => w - i) ?_ 0 some [] _ (Nat.zero_le _) ?_
  · intro i hi again
    rcases Nat.lt_or_ge i w with hlt | hge
    · obtain ⟨T, hT, hxv, hhi⟩ := hcell i (by omega)
      have hls := labelSecretI T hT
      have hac : smk f (i + 1) = smk f i ||| (if f i then 2 ^ i else 0) := rfl
      have hal : smk f i < 16384 := Nat.lt_of_lt_of_le (smk_lt f i) (Nat.pow_le_pow_right (by decide) (show i ≤ 14 by omega))
      have hp14 : 2 ^ i < 16384 := Nat.lt_of_lt_of_le (Nat.pow_lt_pow_right (by decide) (show i < 14 by omega)) (by decide)
      have hpp : (0 : Int) < 2 ^ i := Int.pow_pos (by decide)
      have hbits : ((IntKind.i64).bits : Int) = 64 := rfl
      have hcast : (2 : Int) ^ i = ((2 ^ i : Nat) : Int) := by rw [Int.natCast_pow]; rfl
      have hp14i : (2 : Int) ^ i < 16384 := by rw [hcast]; omega
      have h1 : ((2 : Int) ^ i).toNat = 2 ^ i := by rw [hcast]; rfl
      rw [hhi] at hac
      generalize secL T = b at *
      generalize smk f i = ac at *
      have htr := truth b
      refine drvL Try.func19 ?_
      simp (maxSteps := 9999999) only [go_sem, hlt, hvll, hxv]
      iterate 3 ((try (refine drvZ Try.func19 ?_; simp (maxSteps := 9999999) only [go_sem, hlt, hvll, hxv])); (try ((with_reducible refine And.intro ?_ ?_) <;> (repeat' with_reducible apply And.intro) <;> try exact sd)); (try first | refine XK.p hls ok24 ?_ | refine XK.gp hls ok24 ?_))
      refine XK.plain htr ok51 ?_ (hbT ())
      cases b with
      | true =>
        simp only [if_true] at hac
        iterate 3 ((try (refine drvZ Try.func19 ?_; simp (maxSteps := 9999999) only [go_sem, hbits, if_true, Int.one_mul, h1])); (try ((with_reducible refine And.intro ?_ ?_) <;> (repeat' with_reducible apply And.intro) <;> try exact sd)))
        refine again (i + 1) some [] _ hlt (by omega) ?_
        simp (maxSteps := 9999999) only [go_sem, TmOK, DM, DMs, CM, CMs, forall_eq, exists_eq_left, Mq, HpOK, LowOK, hac]
        try simp
      | false =>
        simp only [Bool.false_eq_true, if_false, Nat.or_zero] at hac
        iterate 3 ((try (refine drvZ Try.func19 ?_; simp (maxSteps := 9999999) only [go_sem, hbits, Bool.false_eq_true, if_false, Int.zero_mul, Nat.or_zero])); (try ((with_reducible refine And.intro ?_ ?_) <;> (repeat' with_reducible apply And.intro) <;> try exact sd)))
        refine again (i + 1) some [] _ hlt (by omega) ?_
        simp (maxSteps := 9999999) only [go_sem, TmOK, DM, DMs, CM, CMs, forall_eq, exists_eq_left, Mq, HpOK, LowOK, hac]
        try simp
    · have hn : ¬ i < w := by omega
      obtain rfl : i = w := by omega
      clear again
      have hsm : smk f i < 16384 := Nat.lt_of_lt_of_le (smk_lt f i) (Nat.pow_le_pow_right (by decide) hw14)
      have hand := fun N => hand N i
      generalize smk f i = M at *
      refine drvL Try.func19 ?_
      simp (maxSteps := 9999999) only [go_sem, hn]
      ((try (refine drvZ Try.func19 ?_; simp (maxSteps := 9999999) only [go_sem, hn])); (try ((with_reducible refine And.intro ?_ ?_) <;> (repeat' with_reducible apply And.intro) <;> try exact sd)))
      refine XK.callG [] han ok52 (fun i' x h => by simp at h) (hbT ()) (fun d h' ⟨_, e⟩ => by subst e; simp) ?_
      rintro _ _ ⟨rfl, rfl⟩ _
      iterate 5 ((try (refine drvZ Try.func19 ?_; simp (maxSteps := 9999999) only [go_sem, renCs_I, dpB_ren])); (try ((with_reducible refine And.intro ?_ ?_) <;> (repeat' with_reducible apply And.intro) <;> try exact sd)))
      refine Go.loopQ (fun j : Nat => [(1, .c (.ptr 0 0)), (3, DI .i64 M), (8, .c (.msl 64 1 0 j)), (39, .c (.msl 4225 1 0 i)), (40, DI .i64 i), (41, DI .i64 j)])
        (fun j => [(0, some (Pg.cells ⟨vs, ar, bd⟩)), (64, some (boolsC (so.take j))), (4225, some ((nI xs).map I64))]) 8192 (fun j => j ≤ i) (fun j => i - j) ?_ 0 (fun j => if j = 64 then none else some j) [] _ (Nat.zero_le _) ?_
      · intro j hj again
        have hcl := boolsC_len (so.take j)
        rw [List.length_take, hsl, Nat.min_eq_left hj] at hcl
        rcases Nat.lt_or_ge j i with hlt | hge
        · have hx : (nI xs)[j]? = some ((dat xs j : Nat) : Int) := nI_at (by omega)
          have hsx : so[j]? = some (soB f (dat xs j) i) := by rw [hso, List.getElem?_map, dat_get (by omega)]; rfl
          have hsn : boolsC (so.take (j + 1)) = boolsC (so.take j) ++ [.v (.bool (soB f (dat xs j) i))] := by rw [List.take_add_one, hsx]; simp [boolsC, BC]
          have hq := dat_lt hrow j
          have hq2 : dat xs j < 16384 := Nat.lt_of_lt_of_le hq (Nat.pow_le_pow_right (by decide) hw14)
          have hand : (((dat xs j &&& M : Nat) : Int) != 0) = soB f (dat xs j) i := by rw [← hand (dat xs j), Bool.eq_iff_iff]; simp
          generalize soB f (dat xs j) i = g at *
          generalize dat xs j = q at *
          refine drvL Try.func19 ?_
          simp (maxSteps := 9999999) only [go_sem, hlt, hx]
          iterate 3 ((try (refine drvZ Try.func19 ?_; simp (maxSteps := 9999999) only [go_sem, hlt, hx, hcl])); (try ((with_reducible refine And.intro ?_ ?_) <;> (repeat' with_reducible apply And.intro) <;> try exact sd)))
          refine again (j + 1) (fun t => if t = 64 then some 8832 else some t) [] _ hlt (by omega) ?_
          simp (maxSteps := 9999999) only [go_sem, TmOK, DM, DMs, CM, CMs, forall_eq, exists_eq_left, Mq, HpOK, LowOK, hsn, hand, dpB_eq]
          simp
          refine ⟨?_, CMs.kf (kf_I _)⟩
          rw [← hsn]
          exact CMs.kf (boolsC_kf _)
        · have hn : ¬ j < i := by omega
          obtain rfl : j = i := by omega
          refine drvL Try.func19 ?_
          simp (maxSteps := 9999999) only [go_sem, hn]
          iterate 2 ((try (refine drvZ Try.func19 ?_; simp (maxSteps := 9999999) only [go_sem, hn])); (try ((with_reducible refine And.intro ?_ ?_) <;> (repeat' with_reducible apply And.intro) <;> try exact sd)))
          rw [List.take_of_length_le (by omega)]
          refine RetOb.frozen (xs := so.map fun b => [BC b]) (by rw [← hR]; exact ⟨rfl, rfl⟩) ?_ ?_ ?_ ?_
          · rw [show (so.map fun b => [BC b]).flatten = boolsC so from flat1 _ _]; simp [hOf, upd]
          · simp [hsl]
          · intro x hx
            obtain ⟨b, _, rfl⟩ := List.mem_map.1 hx
            rfl
          · intro x hx c hc
            obtain ⟨b, _, rfl⟩ := List.mem_map.1 hx
            simp only [List.mem_singleton] at hc
            subst hc; rfl
      · simp (maxSteps := 9999999) only [go_sem, TmOK, DM, DMs, CM, CMs, forall_eq, exists_eq_left, Mq, HpOK, LowOK, dpB_eq]
        simp [boolsC]
        exact CMs.kf (kf_I _)
  · simp (maxSteps := 9999999) only [go_sem, TmOK, DM, DMs, CM, CMs, forall_eq, exists_eq_left, Mq, HpOK, LowOK, smk, hvll]
    try simp
theorem secretOutputsI0 (p : Pg) (hl : p.vars.length ≤ mx) (hl2 : p.arrays.length ≤ mx) (hok : progOK p = false) : DC Try.prog 19 [.agg p.cells] [] (fun r h => r = .c (.isl 1 []) ∧ h = []) := by
  have hmx := mx_eq
  have hv := programValidI p hl hl2
  rw [hok] at hv
  obtain ⟨vs, ar, bd⟩ := p
  generalize hR : (fun (r : D) (h : List (Option (List C))) => r = .c (.isl 1 []) ∧ h = []) = R
  refine dcZ Try.func19 ?_
  simp (maxSteps := 9999999) only [go_sem]
  iterate 4 ((try (refine drvZ Try.func19 ?_; simp (maxSteps := 9999999) only [go_sem])); (try ((with_reducible refine And.intro ?_ ?_) <;> (repeat' with_reducible apply And.intro) <;> try exact sd)); (try first | refine XK.p hv ok49 ?_ | refine XK.gp hv ok49 ?_))
  refine RetOb.ofQ (fun j => none) [] (.c (.isl 1 [])) [] ?_ (by rw [← hR]; exact ⟨rfl, rfl⟩) (by simp)
  simp [enumL, DM, CM, HpOK, LowOK]
end Go.Proofs.Ytjjjidcbokbhpaa.CtD

namespace Go.Proofs.Ytjjjidcbokbhpaa.CtD
open Go Go.CT CtF CtR

theorem secretOutputsS (p : Pg) {w : Nat} (hw : p.vars.length + p.arrays.length = w) (hw14 : w ≤ 14) (w0 : 0 < w) (hp : SmP p) (hok : progOK p = true) : DC Try.prog 21 [.agg p.cells] []
    (fun r h => r = .c (boolsD (soL p w)) ∧ h = []) := by
  have hmx := mx_eq
  have hds := dependsOnS p hw hw14 w0 hp hok
  have hX := depP_ok p hw hw14
  have hlab := labs_of hok
  have hcell := fun i (h : i < p.vars.length + p.arrays.length) => hi_cell hlab.1 hlab.2 h
  have hso : soL p w = (depP p).sets.map fun N => soB (hiC 0 p.vars p.arrays) N w := rfl
  generalize soL p w = so at *
  generalize depP p = X at *
  obtain ⟨xs, xt, xr⟩ := X
  obtain ⟨vs, ar, bd⟩ := p
  have hxl : xs.length = w := hX.len
  simp only at hcell hso hw hds
  generalize hiC 0 vs ar = f at *
  have hsl : so.length = w := by rw [hso, List.length_map, hxl]
  generalize hR : (fun (r : D) (h : List (Option (List C))) => r = .c (boolsD so) ∧ h = []) = R
  refine dcZ Try.func21 ?_
  simp (maxSteps := 9999999) only [go_sem]
  iterate 6 ((try (refine drvZ Try.func21 ?_; simp (maxSteps := 9999999) only [go_sem])); (try ((with_reducible refine And.intro ?_ ?_) <;> (repeat' with_reducible apply And.intro) <;> try exact sd)); (try first | refine XK.p hds ok53 ?_ | refine XK.gp hds ok53 ?_))
  refine Go.loopQ (fun i : Nat => [(1, .c (.ptr 0 0)), (3, .c (.msl 128 1 0 i)), (4, .c (rowsD w xs)), (5, DI .i64 i)]) (fun i => [(0, some (Pg.cells ⟨vs, ar, bd⟩)), (128, some (boolsC (so.take i)))]) 4096 (fun i => i ≤ w) (fun i => w - i) ?_ 0 some [] _ (Nat.zero_le _) ?_
  · intro i hi again
    have hcl := boolsC_len (so.take i)
    rw [List.length_take, hsl, Nat.min_eq_left hi] at hcl
    rcases Nat.lt_or_ge i w with hlt | hge
    · have hry : (xs.map fun N => [boolsD (bl w N)])[i]? = some [.isl 1 ((bl w (dat xs i)).map fun b => [BC b])] := rows_at (by omega)
      have hyl := bl_len w (dat xs i)
      have hsx : so[i]? = some (soB f (dat xs i) w) := by rw [hso, List.getElem?_map, dat_get (by omega)]; rfl
      have hsn : boolsC (so.take (i + 1)) = boolsC (so.take i) ++ [.v (.bool (soB f (dat xs i) w))] := by rw [List.take_add_one, hsx]; simp [boolsC, BC]
      have hbt : ∀ k, k < w → (bl w (dat xs i))[k]? = some ((dat xs i).testBit k) := fun k hk => by simp [bl, hk]
      generalize dat xs i = q at *
      refine drvL Try.func21 ?_
      simp (maxSteps := 9999999) only [go_sem, rowsD, hxl, hlt]
      ((try (refine drvZ Try.func21 ?_; simp (maxSteps := 9999999) only [go_sem, rowsD, hxl, hlt])); (try ((with_reducible refine And.intro ?_ ?_) <;> (repeat' with_reducible apply And.intro) <;> try exact sd)))
      refine Go.loopQ (fun k : Nat => [(1, .c (.ptr 0 0)), (3, .c (.msl 128 1 0 i)), (4, .c (rowsD w xs)), (5, DI .i64 i), (6, DB (soB f q k)), (7, DI .i64 k)]) (fun k => [(0, some (Pg.cells ⟨vs, ar, bd⟩)), (128, some (boolsC (so.take i)))]) 8192 (fun k => k ≤ w) (fun k => w - k) ?_ 0 some [] _ (Nat.zero_le _) ?_
      · intro k hk again2
        rcases Nat.lt_or_ge k w with hkl | hkge
        · obtain ⟨T, hT, hxv, hhi⟩ := hcell k (by omega)
          have hls := labelSecretS T hT
          have hac : soB f q (k + 1) = (soB f q k || (q.testBit k && f k)) := rfl
          have hbt := hbt k hkl
          rw [hhi] at hac
          generalize secL T = s at *
          generalize soB f q k = a at *
          generalize q.testBit k = b1 at *
          by_cases hv : k < vs.length
          · rw [List.getElem?_append_left hv] at hxv
            cases a <;> cases b1
            all_goals
              simp only [Bool.true_or, Bool.false_or, Bool.true_and, Bool.false_and] at hac
              refine drvL Try.func21 ?_
              simp (maxSteps := 9999999) only [go_sem, rowsD, hxl, hkl, hlt, hry, hyl, hv]
              iterate 8 ((try (refine drvZ Try.func21 ?_; simp (maxSteps := 9999999) only [go_sem, rowsD, hxl, hkl, hlt, hry, hyl, hv, hxv, hbt])); (try ((with_reducible refine And.intro ?_ ?_) <;> (repeat' with_reducible apply And.intro) <;> try exact sd)); (try first | refine XK.p hls ok54 ?_ | refine XK.gp hls ok54 ?_ | refine XK.gs (DB false) ?_))
              refine again2 (k + 1) some [] _ hkl (by omega) ?_
              simp (maxSteps := 9999999) only [go_sem, TmOK, DM, DMs, CM, CMs, forall_eq, exists_eq_left, Mq, HpOK, LowOK, rowsD, hac]
              try simp
              try exact CMs.kf (boolsC_kf _)
          · rw [List.getElem?_append_right (by omega)] at hxv
            have hix : ((k : Int) - (vs.length : Int)) = ((k - vs.length : Nat) : Int) := by omega
            have hka : k - vs.length < ar.length := by omega
            cases a <;> cases b1
            all_goals
              simp only [Bool.true_or, Bool.false_or, Bool.true_and, Bool.false_and] at hac
              refine drvL Try.func21 ?_
              simp (maxSteps := 9999999) only [go_sem, rowsD, hxl, hkl, hlt, hry, hyl, hv]
              iterate 8 ((try (refine drvZ Try.func21 ?_; simp (maxSteps := 9999999) only [go_sem, rowsD, hxl, hkl, hlt, hry, hyl, hv, hxv, hbt, hix, hka])); (try ((with_reducible refine And.intro ?_ ?_) <;> (repeat' with_reducible apply And.intro) <;> try exact sd)); (try first | refine XK.p hls ok54 ?_ | refine XK.gp hls ok54 ?_ | refine XK.gs (DB false) ?_))
              refine again2 (k + 1) some [] _ hkl (by omega) ?_
              simp (maxSteps := 9999999) only [go_sem, TmOK, DM, DMs, CM, CMs, forall_eq, exists_eq_left, Mq, HpOK, LowOK, rowsD, hac]
              try simp
              try exact CMs.kf (boolsC_kf _)
        · have hkn : ¬ k < w := by omega
          obtain rfl : w = k := by omega
          refine drvL Try.func21 ?_
          simp (maxSteps := 9999999) only [go_sem, rowsD, hxl, hkn, hlt, hry, hyl]
          iterate 4 ((try (refine drvZ Try.func21 ?_; simp (maxSteps := 9999999) only [go_sem, rowsD, hxl, hkn, hlt, hry, hyl, hcl])); (try ((with_reducible refine And.intro ?_ ?_) <;> (repeat' with_reducible apply And.intro) <;> try exact sd)))
          refine again (i + 1) (fun t => if t = 128 then some 8832 else some t) [] _ hlt (by omega) ?_
          simp (maxSteps := 9999999) only [go_sem, TmOK, DM, DMs, CM, CMs, forall_eq, exists_eq_left, Mq, HpOK, LowOK, rowsD, hsn]
          try simp
          try (rw [← hsn]; exact CMs.kf (boolsC_kf _))
      · simp (maxSteps := 9999999) only [go_sem, TmOK, DM, DMs, CM, CMs, forall_eq, exists_eq_left, Mq, HpOK, LowOK, rowsD, soB]
        try simp
        try exact CMs.kf (boolsC_kf _)
    · have hn : ¬ i < w := by omega
      obtain rfl : w = i := by omega
      refine drvL Try.func21 ?_
      simp (maxSteps := 9999999) only [go_sem, rowsD, hxl, hn]
      iterate 3 ((try (refine drvZ Try.func21 ?_; simp (maxSteps := 9999999) only [go_sem, rowsD, hxl, hn])); (try ((with_reducible refine And.intro ?_ ?_) <;> (repeat' with_reducible apply And.intro) <;> try exact sd)))
      rw [List.take_of_length_le (by omega)]
      refine RetOb.frozen (xs := so.map fun b => [BC b]) (by rw [← hR]; exact ⟨rfl, rfl⟩) ?_ ?_ ?_ ?_
      · rw [show (so.map fun b => [BC b]).flatten = boolsC so from flat1 _ _]; simp [hOf, upd]
      · simp [hsl]
      · intro x hx
        obtain ⟨b, _, rfl⟩ := List.mem_map.1 hx
        rfl
      · intro x hx c hc
        obtain ⟨b, _, rfl⟩ := List.mem_map.1 hx
        simp only [List.mem_singleton] at hc
        subst hc; rfl
  · simp (maxSteps := 9999999) only [go_sem, TmOK, DM, DMs, CM, CMs, forall_eq, exists_eq_left, Mq, HpOK, LowOK, rowsD]
    try simp [boolsC, CMs]
theorem secretOutputsS0 (p : Pg) (hp : SmP p) (hok : progOK p = false) : DC Try.prog 21 [.agg p.cells] [] (fun r h => r = .c (.isl 1 []) ∧ h = []) := by
  have hmx := mx_eq
  have hds := dependsOnS0 p hp hok
  obtain ⟨vs, ar, bd⟩ := p
  generalize hR : (fun (r : D) (h : List (Option (List C))) => r = .c (.isl 1 []) ∧ h = []) = R
  refine dcZ Try.func21 ?_
  simp (maxSteps := 9999999) only [go_sem]
  iterate 6 ((try (refine drvZ Try.func21 ?_; simp (maxSteps := 9999999) only [go_sem, Int.natCast_zero])); (try ((with_reducible refine And.intro ?_ ?_) <;> (repeat' with_reducible apply And.intro) <;> try exact sd)); (try first | refine XK.p hds ok53 ?_ | refine XK.gp hds ok53 ?_))
  refine Go.loopQ (fun _ : Nat => [(1, .c (.ptr 0 0)), (3, .c (.msl 128 1 0 0)), (4, .c (.isl 1 [])), (5, DI .i64 0)]) (fun _ => [(0, some (Pg.cells ⟨vs, ar, bd⟩)), (128, some [])]) 4096 (fun _ => True) (fun _ => 0) ?_ 0 some [] _ trivial ?_
  · intro _ _ again
    refine drvL Try.func21 ?_
    simp (maxSteps := 9999999) only [go_sem, Int.natCast_zero]
    iterate 3 ((try (refine drvZ Try.func21 ?_; simp (maxSteps := 9999999) only [go_sem, Int.natCast_zero])); (try ((with_reducible refine And.intro ?_ ?_) <;> (repeat' with_reducible apply And.intro) <;> try exact sd)))
    refine RetOb.frozen (R := R) (sz := 1) (xs := []) (by rw [← hR]; exact ⟨rfl, rfl⟩) ?_ rfl (by simp) (by simp)
    simp [upd]
  · simp (maxSteps := 9999999) only [go_sem, TmOK, DM, DMs, CM, CMs, forall_eq, exists_eq_left, Mq, HpOK, LowOK]
    try simp
end Go.Proofs.Ytjjjidcbokbhpaa.CtD

namespace Go.Proofs.Ytjjjidcbokbhpaa.CtD
open Go Go.CT CtF CtR

theorem lawSO (bs : List Int) (hb : Fits .u8 bs) (hl : bs.length ≤ mx) : DC Try.prog 7 [bytesD bs] [] (fun d h => d = DB true ∧ h = []) := by
  have hmx := mx_eq
  have hdr := drawCheckFlow bs hb hl
  unfold bytesD
  unfold bytesD at hdr
  have ret : ∀ hp : Hp, RetOb 0 (fun d h => d = DB true ∧ h = []) (DB true) hp := fun hp => RetOb.plain (d := DB true) ⟨rfl, rfl⟩ rfl
  generalize hRR : (fun (d : D) (h : List (Option (List C))) => d = DB true ∧ h = []) = R at ret ⊢
  by_cases hbig : 1048576 < bs.length
  · have hz : ((1048576 : Int) < (bs.length : Int)) = True := eq_true (by omega)
    refine dcZ Try.func7 ?_
    simp (maxSteps := 9999999) only [go_sem, hz]
    iterate 2 ((try (refine drvZ Try.func7 ?_; simp (maxSteps := 9999999) only [go_sem, hz])); (try ((with_reducible refine And.intro ?_ ?_) <;> (repeat' with_reducible apply And.intro) <;> try exact sd)))
    exact ret _
  have hz : ((1048576 : Int) < (bs.length : Int)) = False := eq_false (by omega)
  refine dcZ Try.func7 ?_
  simp (maxSteps := 9999999) only [go_sem, hz]
  iterate 2 ((try (refine drvZ Try.func7 ?_; simp (maxSteps := 9999999) only [go_sem, hz])); (try ((with_reducible refine And.intro ?_ ?_) <;> (repeat' with_reducible apply And.intro) <;> try exact sd)))
  refine XK.callG [] hdr ok18 (fun i' x h => by simp at h) (hbT ()) (fun d h' ⟨_, _, _, e⟩ => by subst e; simp) ?_
  rintro _ _ ⟨p, rfl, hp, rfl⟩ _
  have hnv := hp.nv
  have hna := hp.na
  have hr0 := ctBoolsR [] (by simp)
  simp only [boolsD, List.map_nil] at hr0
  cases hok : progOK p with
  | false =>
    have hti := secretOutputsI0 p (by omega) (by omega) hok
    have hts := secretOutputsS0 p hp hok
    obtain ⟨vs, ar, bd⟩ := p
    iterate 12 ((try (refine drvZ Try.func7 ?_; simp (maxSteps := 9999999) only [go_sem, Int.natCast_zero])); (try ((with_reducible refine And.intro ?_ ?_) <;> (repeat' with_reducible apply And.intro) <;> try exact sd)); (try first | refine XK.p hti ok19 ?_ | refine XK.gp hti ok19 ?_ | refine XK.p hts ok21 ?_ | refine XK.gp hts ok21 ?_ | refine XK.p hr0 ok20 ?_ | refine XK.gp hr0 ok20 ?_))
    exact ret _
  | true =>
    have hln := prog_len hok
    obtain ⟨w, hw⟩ : ∃ w, p.vars.length + p.arrays.length = w := ⟨_, rfl⟩
    have hw14 : w ≤ 14 := by omega
    have hti := secretOutputsI p hw hw14 (by omega) hok
    have hts := secretOutputsS p hw hw14 (by omega) hp hok
    have hsl := soL_len hw hw14
    have hcb := ctBoolsR (soL p w) (by rw [hsl]; omega)
    have hci := checkFlowI p (by omega) (by omega)
    have hfr := releaseFree p (by omega) (by omega)
    have hlow := so_low hw hw14 hok
    have hlab := labs_of hok
    have hcell := fun i (h : i < p.vars.length + p.arrays.length) => hi_cell hlab.1 hlab.2 h
    generalize chkR flowR p = x at *
    obtain ⟨code, at_⟩ := x
    simp only at hlow
    generalize freeP p = fe at *
    generalize soL p w = so at *
    have hw0' : ((w : Int) = 0) = False := eq_false (by omega)
    have hw0b : ((w : Int) == 0) = false := by simp; omega
    have hvw : p.vars.length ≤ w := by omega
    obtain ⟨vs, ar, bd⟩ := p
    simp only at hlow hcell hw hvw
    clear hdr
    by_cases hz0 : code = 0
    · subst hz0
      cases fe with
      | false =>
        iterate 12 ((try (refine drvZ Try.func7 ?_; simp (maxSteps := 9999999) only [go_sem, hsl, hw0', hw0b, boolsD, bne_self_eq_false])); (try ((with_reducible refine And.intro ?_ ?_) <;> (repeat' with_reducible apply And.intro) <;> try exact sd)); (try first | refine XK.p hti ok19 ?_ | refine XK.gp hti ok19 ?_ | refine XK.p hts ok21 ?_ | refine XK.gp hts ok21 ?_ | refine XK.p hcb ok20 ?_ | refine XK.gp hcb ok20 ?_ | refine XK.p hci ok22 ?_ | refine XK.gp hci ok22 ?_ | refine XK.p hfr ok23 ?_ | refine XK.gp hfr ok23 ?_ | refine XK.gs (DI .i64 0) ?_ | refine XK.gs (DB false) ?_))
        exact ret _
      | true =>
        have hlow := hlow rfl rfl
        iterate 12 ((try (refine drvZ Try.func7 ?_; simp (maxSteps := 9999999) only [go_sem, hsl, hw0', hw0b, boolsD, bne_self_eq_false])); (try ((with_reducible refine And.intro ?_ ?_) <;> (repeat' with_reducible apply And.intro) <;> try exact sd)); (try first | refine XK.p hti ok19 ?_ | refine XK.gp hti ok19 ?_ | refine XK.p hts ok21 ?_ | refine XK.gp hts ok21 ?_ | refine XK.p hcb ok20 ?_ | refine XK.gp hcb ok20 ?_ | refine XK.p hci ok22 ?_ | refine XK.gp hci ok22 ?_ | refine XK.p hfr ok23 ?_ | refine XK.gp hfr ok23 ?_ | refine XK.gs (DI .i64 0) ?_ | refine XK.gs (DB false) ?_))
        refine Go.loopQ (fun i : Nat => [(3, .c (.ptr 384 0)), (4, .c (boolsD so)), (7, DI .i64 i)]) (fun i => [(384, some (Pg.cells ⟨vs, ar, bd⟩))]) 8192 (fun i => i ≤ vs.length) (fun i => vs.length - i) ?_ 0 some [] _ (Nat.zero_le _) ?_
        · intro i hi again
          rcases Nat.lt_or_ge i vs.length with hlt | hge
          · have hiw : i < w := by omega
            obtain ⟨T, hT, hxv, hhi⟩ := hcell i (by omega)
            rw [List.getElem?_append_left hlt] at hxv
            have hls := labelSecretI T hT
            have hlo := hlow i hiw
            rw [hhi] at hlo
            obtain ⟨g, hg⟩ : ∃ g, so[i]? = some g := ⟨so[i], by simp [hsl, hiw]⟩
            rw [hg] at hlo
            generalize secL T = s at *
            cases s <;> cases g
            case false.true => exact absurd (hlo rfl) (by simp)
            all_goals
              clear hlo
              refine drvL Try.func7 ?_
              simp (maxSteps := 9999999) only [go_sem, hsl, boolsD, hlt]
              iterate 6 ((try (refine drvZ Try.func7 ?_; simp (maxSteps := 9999999) only [go_sem, hsl, boolsD, hlt, hg, hxv, hiw])); (try ((with_reducible refine And.intro ?_ ?_) <;> (repeat' with_reducible apply And.intro) <;> try exact sd)); (try first | refine XK.p hls ok24 ?_ | refine XK.gp hls ok24 ?_ | refine XK.gs (DB false) ?_))
              refine again (i + 1) some [] _ hlt (by omega) ?_
              simp (maxSteps := 9999999) only [go_sem, TmOK, DM, DMs, CM, CMs, forall_eq, exists_eq_left, Mq, HpOK, LowOK, boolsD]
              try simp
          · have hn : ¬ i < vs.length := by omega
            clear again
            refine drvL Try.func7 ?_
            simp (maxSteps := 9999999) only [go_sem, hsl, boolsD, hn]
            iterate 2 ((try (refine drvZ Try.func7 ?_; simp (maxSteps := 9999999) only [go_sem, hsl, boolsD, hn])); (try ((with_reducible refine And.intro ?_ ?_) <;> (repeat' with_reducible apply And.intro) <;> try exact sd)))
            refine Go.loopQ (fun i : Nat => [(3, .c (.ptr 384 0)), (4, .c (boolsD so)), (8, DI .i64 i)]) (fun i => [(384, some (Pg.cells ⟨vs, ar, bd⟩))]) 16384 (fun i => i ≤ ar.length) (fun i => ar.length - i) ?_ 0 some [] _ (Nat.zero_le _) ?_
            · intro i hi again
              rcases Nat.lt_or_ge i ar.length with hlt | hge
              · have hiw : vs.length + i < w := by omega
                obtain ⟨T, hT, hxv, hhi⟩ := hcell (vs.length + i) (by omega)
                rw [List.getElem?_append_right (by omega), Nat.add_sub_cancel_left] at hxv
                have hls := labelSecretI T hT
                have hlo := hlow (vs.length + i) hiw
                rw [hhi] at hlo
                obtain ⟨g, hg⟩ : ∃ g, so[vs.length + i]? = some g := ⟨so[vs.length + i], by simp [hsl, hiw]⟩
                rw [hg] at hlo
                have htn : ((vs.length : Int) + (i : Int)).toNat = vs.length + i := by omega
                have hix : (vs.length : Int) + (i : Int) < (w : Int) := by omega
                generalize secL T = s at *
                cases s <;> cases g
                case false.true => exact absurd (hlo rfl) (by simp)
                all_goals
                  clear hlo
                  refine drvL Try.func7 ?_
                  simp (maxSteps := 9999999) only [go_sem, hsl, boolsD, hlt]
                  iterate 7 ((try (refine drvZ Try.func7 ?_; simp (maxSteps := 9999999) only [go_sem, hsl, boolsD, hlt, htn, hix, hg, hxv, hiw])); (try ((with_reducible refine And.intro ?_ ?_) <;> (repeat' with_reducible apply And.intro) <;> try exact sd)); (try first | refine XK.p hls ok24 ?_ | refine XK.gp hls ok24 ?_ | refine XK.gs (DB false) ?_))
                  refine again (i + 1) some [] _ hlt (by omega) ?_
                  simp (maxSteps := 9999999) only [go_sem, TmOK, DM, DMs, CM, CMs, forall_eq, exists_eq_left, Mq, HpOK, LowOK, boolsD]
                  try simp
              · have hn : ¬ i < ar.length := by omega
                refine drvL Try.func7 ?_
                simp (maxSteps := 9999999) only [go_sem, hsl, boolsD, hn]
                iterate 3 ((try (refine drvZ Try.func7 ?_; simp (maxSteps := 9999999) only [go_sem, hsl, boolsD, hn])); (try ((with_reducible refine And.intro ?_ ?_) <;> (repeat' with_reducible apply And.intro) <;> try exact sd)))
                exact ret _
            · simp (maxSteps := 9999999) only [go_sem, TmOK, DM, DMs, CM, CMs, forall_eq, exists_eq_left, Mq, HpOK, LowOK, boolsD]
              try simp
        · simp (maxSteps := 9999999) only [go_sem, TmOK, DM, DMs, CM, CMs, forall_eq, exists_eq_left, Mq, HpOK, LowOK, boolsD]
          try simp
    · have g1 : (code = 0) = False := eq_false hz0
      have g2 : (code != 0) = true := by simp [hz0]
      iterate 12 ((try (refine drvZ Try.func7 ?_; simp (maxSteps := 9999999) only [go_sem, hsl, hw0', hw0b, boolsD, g1, g2])); (try ((with_reducible refine And.intro ?_ ?_) <;> (repeat' with_reducible apply And.intro) <;> try exact sd)); (try first | refine XK.p hti ok19 ?_ | refine XK.gp hti ok19 ?_ | refine XK.p hts ok21 ?_ | refine XK.gp hts ok21 ?_ | refine XK.p hcb ok20 ?_ | refine XK.gp hcb ok20 ?_ | refine XK.p hci ok22 ?_ | refine XK.gp hci ok22 ?_ | refine XK.gs (DI .i64 0) ?_ | refine XK.gs (DB false) ?_))
      exact ret _
end Go.Proofs.Ytjjjidcbokbhpaa.CtD
