/- Contracts of functions of the program, one behind the other, as plain data: what each call returns and which blocks it leaves. -/
import Derived.Test.YtehmajhoaibphaaGreatMFacts
import Derived.Test.YtehmajhoaibphaaGreatMAj
import Derived.Test.YtehmajhoaibphaaGreatMAk
import Derived.Test.YtehmajhoaibphaaGreatMAl
import Derived.Test.YtehmajhoaibphaaGreatMAm
import Derived.Test.YtehmajhoaibphaaGreatMAn
import Derived.Test.YtehmajhoaibphaaGreatMAo
import Derived.Test.YtehmajhoaibphaaGreatMAq
import Derived.Test.YtehmajhoaibphaaGreatMAv
import Derived.Test.YtehmajhoaibphaaGreatMAy
import Derived.Test.YtehmajhoaibphaaGreatMAz
import Derived.Test.YtehmajhoaibphaaGreatMBc
import Derived.Test.YtehmajhoaibphaaGreatMBd
import Derived.Test.YtehmajhoaibphaaGreatMFm
import Derived.Test.YtehmajhoaibphaaGreatMAt
import Derived.Test.YtehmajhoaibphaaGreatMAu
import Derived.Test.YtehmajhoaibphaaGreatMBa
import Derived.Test.YtehmajhoaibphaaGreatMAw
set_option linter.unusedVariables false
set_option linter.unusedSimpArgs false
set_option maxHeartbeats 16000000
set_option maxRecDepth 100000
namespace Go.Proofs.YtehmajhoaibphaaGreat.CtR
open Go Go.CT CtF CtD

theorem lcS_sm (T : Nat → List Ev) {b N : Nat} (h : ∀ i, i < N → (T i).length ≤ b) : ∀ n, n ≤ N → ∀ t ∈ (lcS T n).1, t.length ≤ b
  | 0, _, t, ht => by simp [lcS] at ht
  | n + 1, hn, t, ht => by
    have ih := lcS_sm T h n (by omega)
    simp only [lcS] at ht
    split at ht
    · rcases List.mem_append.1 ht with h1 | h1
      · exact ih t h1
      · simp at h1; rw [h1]; exact h n (by omega)
    · exact ih t ht
def kI (l : List Nat) : List Int := l.map (fun k : Nat => (k : Int))
theorem kI_len (l : List Nat) : (kI l).length = l.length := by simp [kI]
theorem kI_snoc (l : List Nat) (k : Nat) : (kI (l ++ [k])).map I64 = (kI l).map I64 ++ [I64 (k : Int)] := by simp [kI]
theorem trsI_snoc (l : List (List Ev)) (t : List Ev) : trsI (l ++ [t]) = trsI l ++ [trD t] := by simp [trsI]
theorem leakClassesI (p : Pg) (m : Mm) (v : Int) (hl : p.vars.length ≤ mx) (hl2 : p.arrays.length ≤ mx) : DC Tryz.prog 22 [.agg p.cells, .agg m.cells, DI .i64 v] []
    (fun r h => r = ints (lcP p m v) ∧ h = []) := by
  have hmx := mx_eq
  have hv := memoryValidI p m hl hl2
  have hmf := @memFits_of p m
  have hbo := @body_of p
  have hw := within v 0 ((p.vars.length : Int) - 1)
  have ret0 : ∀ hp : Hp, lcP p m v = [] → RetOb 0 (fun r h => r = ints (lcP p m v) ∧ h = []) (.c (.v (.slice none 0 0))) hp := fun hp he => by
    rw [he]
    refine RetOb.ofQ (fun _ => none) [] (ints []) [] ⟨?_, trivial, trivial, by simp [enumL]⟩ ⟨rfl, rfl⟩ (Nat.zero_le _)
    simp [DM, CM, ints]
  cases hq : (progOK p && memOK p.vars p.arrays m) with
  | false =>
    rw [hq] at hv
    have he : lcP p m v = [] := by unfold lcP; rw [if_neg (by rw [hq]; simp)]
    generalize hR : (fun (r : D) (h : List (Option (List C))) => r = ints (lcP p m v) ∧ h = []) = R at ret0 ⊢
    obtain ⟨vs, ar, bd⟩ := p
    obtain ⟨va, arr⟩ := m
    refine dcZ Tryz.func22 ?_
    simp (maxSteps := 9999999) only [go_sem, Mm.cells]
    iterate 4 ((try (refine drvZ Tryz.func22 ?_; simp (maxSteps := 9999999) only [go_sem, Mm.cells])); (try ((with_reducible refine And.intro ?_ ?_) <;> (repeat' with_reducible apply And.intro) <;> try exact sd)); (try first | refine XK.p hv ok59 ?_ | refine XK.gp hv ok59 ?_ | refine XK.gs (DB false) ?_))
    exact ret0 _ he
  | true =>
    rw [hq] at hv
    by_cases hvr : 0 ≤ v ∧ v < p.vars.length
    · have he : lcP p m v = (lcS (leakT p m v.toNat) 256).2.map (fun k : Nat => (k : Int)) := by unfold lcP; rw [if_pos ⟨hq, hvr⟩]
      rw [he]
      have hm := hmf hq
      have hpo : progOK p = true := by simp only [Bool.and_eq_true] at hq; exact hq.1
      have hbd := hbo hpo
      have hcp := own m (by have := hm.nv; have := hm.nv12; omega) (by have := hm.na; have := hm.na2; omega) (fun a ha => (hm.arr a ha).1)
      unfold memB at hcp
      rw [hm.nv, hm.na] at hcp
      obtain ⟨w, rfl⟩ : ∃ w : Nat, v = (w : Int) := ⟨v.toNat, by omega⟩
      have hwn : w < p.vars.length := by omega
      rw [show (decide ((0 : Int) ≤ (w : Int)) && decide ((w : Int) ≤ (p.vars.length : Int) - 1)) = true by simp; omega] at hw
      have hmva := hm.nv
      generalize hR : (fun (r : D) (h : List (Option (List C))) => r = ints _ ∧ h = []) = R
      simp only [Int.toNat_natCast] at hR ⊢
      clear ret0 hmf hbo
      have hmf2 : ∀ n : Nat, n < 256 → MemFits p ⟨m.vals.set w n, m.arrays⟩ := fun n hn => fitsV hm w (by omega)
      have hrn := fun (n : Nat) (hn : n < 256) => runImpl p 5 ⟨m.vals.set w n, m.arrays⟩ p.body [] (hmf2 n hn) hbd.1 (by rw [wt5]; simp only [List.length_nil]; omega)
      have hlt : ∀ n : Nat, n < 256 → (leakT p m w n).length ≤ 1000000 := fun n hn => by
        have h2 := (runL_ok (hmf2 n hn) hbd.1).2
        rw [wt5] at h2
        have := hbd.2
        unfold leakT
        omega
      have hT : ∀ n : Nat, (runL 5 ⟨m.vals.set w n, m.arrays⟩ p.body).2 = leakT p m w n := fun n => rfl
      generalize leakT p m w = T at *
      obtain ⟨vs, ar, bd⟩ := p
      obtain ⟨va, arr⟩ := m
      have hvl : vs.length ≤ mx := hl
      refine dcZ Tryz.func22 ?_
      simp (maxSteps := 9999999) only [go_sem, Mm.cells]
      iterate 6 ((try (refine drvZ Tryz.func22 ?_; simp (maxSteps := 9999999) only [go_sem, Mm.cells])); (try ((with_reducible refine And.intro ?_ ?_) <;> (repeat' with_reducible apply And.intro) <;> try exact sd)); (try first | refine XK.p hv ok59 ?_ | refine XK.gp hv ok59 ?_ | refine XK.p hw ok60 ?_ | refine XK.gp hw ok60 ?_))
      refine Go.loopQ (fun n : Nat => [(2, DI .i64 w), (3, .c (.ptr 0 0)), (4, .c (.ptr 64 0)), (7, .c (.msl 192 1 0 n)), (8, .c (.msl 1280 1 0 (lcS T n).1.length)), (25, DI .i64 n)])
        (fun n => [(0, some (Pg.cells ⟨vs, ar, bd⟩)), (64, some (Mm.cells ⟨va, arr⟩)), (192, some ((kI (lcS T n).2).map I64)), (1280, some (trsI (lcS T n).1))])
        4096 (fun n => n ≤ 256) (fun n => 256 - n) ?_ 0 (fun j => if j = 192 then none else if j = 1280 then none else some j) [] _ (Nat.zero_le _) ?_
      · intro n hn again
        obtain ⟨hl1, hl2⟩ := lcS_len T n
        rcases Nat.lt_or_ge n 256 with hlt2 | hge
        · have hz : ((n : Int) < 256) = True := eq_true (by omega)
          have hsucc : lcS T (n + 1) = (if idxT (T n) (lcS T n).1 = (lcS T n).1.length then (lcS T n).1 ++ [T n] else (lcS T n).1, (lcS T n).2 ++ [idxT (T n) (lcS T n).1]) := rfl
          have hrn := hrn n hlt2
          have hTn := hT n
          have hTl := hlt n hlt2
          have hset : (va.map I64).set w (.v (.int .i64 n)) = (va.set w n).map I64 := by rw [List.map_set]
          have hwv : w < va.length := by simp only at hmva hwn; omega
          have htrs := lcS_sm T hlt n hn
          generalize (lcS T n).1 = trs at *
          generalize (lcS T n).2 = out at *
          have hkl := kI_len out
          have htrl : ∀ t ∈ trs, t.length ≤ mx := fun t ht => by
            have := htrs t ht
            omega
          have htl := trsI_len trs
          refine drvL Tryz.func22 ?_
          simp (maxSteps := 9999999) only [go_sem, Mm.cells, hz]
          iterate 3 ((try (refine drvZ Tryz.func22 ?_; simp (maxSteps := 9999999) only [go_sem, Mm.cells, hz])); (try ((with_reducible refine And.intro ?_ ?_) <;> (repeat' with_reducible apply And.intro) <;> try exact sd)))
          refine XK.callG [] hcp ok52 (fun i' x h => by simp at h) (hbT ()) (fun d h' ⟨_, e⟩ => by subst e; simp) ?_
          rintro _ _ ⟨rfl, rfl⟩ _
          iterate 4 ((try (refine drvZ Tryz.func22 ?_; simp (maxSteps := 9999999) only [go_sem, Mm.cells, renCs_I, renCs_hdr, renCs_b0, renCs_b1, renCs_tr, hwv, hset])); (try ((with_reducible refine And.intro ?_ ?_) <;> (repeat' with_reducible apply And.intro) <;> try exact sd)))
          have hkT : ∀ c ∈ trsI trs, kf c = true := trsI_kf trs
          refine XK.subQ (r := fun j => if j = 0 then some 4480 else if j = 1 then none else if j = 2 then some 4352 else if j = 3 then some 4353 else if j = 4 then some 4354 else if j = 5 then some 4355 else if j = 6 then some 4544 else if j = 10 then some 0 else if j = 11 then some 64 else if j = 12 then some 192 else some 1280) (fz := [])
            (tl := [(2, DI .i64 w), (3, .c (.ptr 10 0)), (4, .c (.ptr 11 0)), (7, .c (.msl 12 1 0 n)), (8, .c (.msl 13 1 0 trs.length)), (25, DI .i64 n), (9, DI .i64 n), (10, .c (.ptr 6 0)), (40, .c (.ptr 0 0)), (42, .c (.isl 11 (St1.cellsL bd)))])
            (hl := [(0, some [.msl 2 1 0 vs.length, .msl 3 1 0 ar.length, .msl 1 2 0 0]), (1, some []), (2, some ((va.set w n).map I64)), (3, some (hdr 4 5 ar.length)), (4, some (blk0 arr)), (5, some (blk1 arr)), (6, some [.ptr 0 0]), (10, some (Pg.cells ⟨vs, ar, bd⟩)), (11, some (Mm.cells ⟨va, arr⟩)), (12, some ((kI out).map I64)), (13, some (trsI trs))]) ?_ ?_
          · simp [Mq, TmOK, DM, CM, CMs, HpOK, LowOK, hOf, upd, CMs_I, CMs_hdr, CMs_b0, CMs_b1, Pg.cells, Mm.cells, isI, DI]
            exact ⟨CMs.kf (by rw [← List.map_set]; exact kf_I _), CMs.kf (trsI_kf _)⟩
          refine XK.callG [0, 1, 2, 3, 4, 5] hrn ok61 (hhp6 (by simp [hOf, upd, renCs, renC, rk0]) (by simp [hOf, upd, renCs_tr, renCs, renC, trC]) (by simp only [Option.map_some, renCs_I]; rfl) (by simp [hOf, upd, renCs_hdr, rk0]) (by simp [hOf, upd, renCs_b0]) (by simp [hOf, upd, renCs_b1])) (hbT ()) (fun d h' ⟨_, e⟩ => by subst e; simp [stP']) ?_
          rintro _ _ ⟨rfl, rfl⟩ _
          unfold stP'
          rw [List.nil_append, hTn]
          ((try (refine drvZ Tryz.func22 ?_; simp (maxSteps := 9999999) only [go_sem, Mm.cells, renCs_I, renCs_hdr, renCs_b0, renCs_b1, renCs_tr])); (try ((with_reducible refine And.intro ?_ ?_) <;> (repeat' with_reducible apply And.intro) <;> try exact sd)))
          refine XK.subQ (r := some) (fz := [5440]) (tl := [(2, DI .i64 w), (3, .c (.ptr 10 0)), (4, .c (.ptr 11 0)), (7, .c (.msl 12 1 0 n)), (8, .c (.msl 13 1 0 trs.length)), (25, DI .i64 n), (10, .c (.ptr 6 0)), (44, .c (.msl 13 1 0 trs.length)), (45, .c (.clo 63 [.ptr 6 0]))])
            (hl := [(0, some [.unk, .unk, trD (T n)]), (6, some [.ptr 0 0]), (10, some (Pg.cells ⟨vs, ar, bd⟩)), (11, some (Mm.cells ⟨va, arr⟩)), (12, some ((kI out).map I64)), (13, some (trsI trs))]) ?_ ?_
          · simp [Mq, TmOK, DM, CM, CMs, HpOK, LowOK, hOf, upd, CMs_I, Pg.cells, Mm.cells, isI, DI, trD, runE, kf, Ev.cells, tOf]
            exact ⟨rfl, CMs.kf (trsI_kf _)⟩
          refine XK.subQ (r := some) (fz := [0]) (tl := [(2, DI .i64 w), (3, .c (.ptr 10 0)), (4, .c (.ptr 11 0)), (7, .c (.msl 12 1 0 n)), (8, .c (.msl 13 1 0 trs.length)), (25, DI .i64 n), (10, .c (.ptr 6 0)), (44, .c (.msl 13 1 0 trs.length)), (45, .c (.clo 63 [.ptr 6 0]))])
            (hl := [(6, some [.eptr [.unk, .unk, trD (T n)]]), (10, some (Pg.cells ⟨vs, ar, bd⟩)), (11, some (Mm.cells ⟨va, arr⟩)), (12, some ((kI out).map I64)), (13, some (trsI trs))]) ?_ ?_
          · simp [Mq, TmOK, DM, CM, CMs, HpOK, LowOK, hOf, upd, CMs_I, Pg.cells, Mm.cells, isI, DI, trD, runE, kf, Ev.cells, tOf]
            exact CMs.kf (trsI_kf _)
          refine XK.subQ (r := some) (fz := [6]) (tl := [(2, DI .i64 w), (3, .c (.ptr 10 0)), (4, .c (.ptr 11 0)), (7, .c (.msl 12 1 0 n)), (8, .c (.msl 13 1 0 trs.length)), (25, DI .i64 n), (10, .c (runE (T n))), (44, .c (.msl 13 1 0 trs.length)), (45, .c (.clo 63 [runE (T n)]))])
            (hl := [(10, some (Pg.cells ⟨vs, ar, bd⟩)), (11, some (Mm.cells ⟨va, arr⟩)), (12, some ((kI out).map I64)), (13, some (trsI trs))]) ?_ ?_
          · simp [Mq, TmOK, DM, CM, CMs, HpOK, LowOK, hOf, upd, CMs_I, Pg.cells, Mm.cells, isI, DI, trD, runE, kf, Ev.cells, tOf]
            exact CMs.kf (trsI_kf _)
          have hif := indexFuncT (T n) trs (by omega) htrl
          by_cases hen : idxT (T n) trs = trs.length
          · rw [if_pos hen] at hsucc
            have hii : idxI (T n) trs = -1 := by unfold idxI; rw [if_pos hen]
            rw [hii] at hif
            have hneg : ((-1 : Int) < 0) = True := eq_true (by omega)
            have hs1 : (lcS T (n + 1)).1 = trs ++ [T n] := by rw [hsucc]
            have hs2 : (lcS T (n + 1)).2 = out ++ [trs.length] := by rw [hsucc, ← hen]
            iterate 2 ((try (refine drvZ Tryz.func22 ?_; simp (maxSteps := 9999999) only [go_sem, Mm.cells, runE, trD])); (try ((with_reducible refine And.intro ?_ ?_) <;> (repeat' with_reducible apply And.intro) <;> try exact sd)))
            refine XK.rp [13] hif ok62 ⟨by rw [Option.map_some, renCs_plain _ (kfs_mapI _ (trsI_kf _))]; rfl, trivial⟩ ⟨kfs_mapI _ (trsI_kf _), trivial⟩ ?_
            iterate 6 ((try (refine drvZ Tryz.func22 ?_; simp (maxSteps := 9999999) only [go_sem, Mm.cells, hneg, htl, hkl, hl2, runE, trD])); (try ((with_reducible refine And.intro ?_ ?_) <;> (repeat' with_reducible apply And.intro) <;> try exact sd)))
            refine again (n + 1) (fun j => if j = 0 then some 10 else if j = 64 then some 11 else if j = 192 then some 6784 else some 6464) [] _ (by omega) (by omega) ?_
            simp (maxSteps := 9999999) only [go_sem, TmOK, DM, DMs, CM, CMs, forall_eq, exists_eq_left, Mq, HpOK, LowOK, Mm.cells, hs1, hs2, kI_snoc, trsI_snoc, trD, List.length_append]
            simp
            exact ⟨CMs.kf (kf_app (kf_I _) (by simp [kf])), CMs.kf (kf_app (trsI_kf _) (by simp [kf]))⟩
          · rw [if_neg hen] at hsucc
            have hii : idxI (T n) trs = (idxT (T n) trs : Int) := by unfold idxI; rw [if_neg hen]
            rw [hii] at hif
            generalize hke : idxT (T n) trs = k at *
            have hneg : ((k : Int) < 0) = False := eq_false (by omega)
            have hs1 : (lcS T (n + 1)).1 = trs := by rw [hsucc]
            have hs2 : (lcS T (n + 1)).2 = out ++ [k] := by rw [hsucc]
            iterate 2 ((try (refine drvZ Tryz.func22 ?_; simp (maxSteps := 9999999) only [go_sem, Mm.cells, runE, trD])); (try ((with_reducible refine And.intro ?_ ?_) <;> (repeat' with_reducible apply And.intro) <;> try exact sd)))
            refine XK.rp [13] hif ok62 ⟨by rw [Option.map_some, renCs_plain _ (kfs_mapI _ (trsI_kf _))]; rfl, trivial⟩ ⟨kfs_mapI _ (trsI_kf _), trivial⟩ ?_
            iterate 6 ((try (refine drvZ Tryz.func22 ?_; simp (maxSteps := 9999999) only [go_sem, Mm.cells, hneg, htl, hkl, hl2, runE, trD])); (try ((with_reducible refine And.intro ?_ ?_) <;> (repeat' with_reducible apply And.intro) <;> try exact sd)))
            refine again (n + 1) (fun j => if j = 0 then some 10 else if j = 64 then some 11 else if j = 192 then some 6080 else some 13) [] _ (by omega) (by omega) ?_
            simp (maxSteps := 9999999) only [go_sem, TmOK, DM, DMs, CM, CMs, forall_eq, exists_eq_left, Mq, HpOK, LowOK, Mm.cells, hs1, hs2, kI_snoc, trsI_snoc, trD, List.length_append]
            simp
            exact ⟨CMs.kf (kf_app (kf_I _) (by simp [kf])), CMs.kf (trsI_kf _)⟩
        · have hz : ((n : Int) < 256) = False := eq_false (by omega)
          obtain rfl : n = 256 := by omega
          refine drvL Tryz.func22 ?_
          simp (maxSteps := 9999999) only [go_sem, Mm.cells, hz]
          iterate 2 ((try (refine drvZ Tryz.func22 ?_; simp (maxSteps := 9999999) only [go_sem, Mm.cells, hz])); (try ((with_reducible refine And.intro ?_ ?_) <;> (repeat' with_reducible apply And.intro) <;> try exact sd)))
          refine RetOb.frozen (R := R) (sz := 1) (xs := (kI (lcS T 256).2).map fun n => [I64 n]) (by rw [← hR]; exact ⟨rfl, rfl⟩) ?_ (by rw [List.length_map, kI_len, hl2]) ?_ ?_
          · rw [flat_I]; simp [upd]
          · intro x hx
            obtain ⟨b, _, rfl⟩ := List.mem_map.1 hx
            rfl
          · intro x hx c hc
            obtain ⟨b, _, rfl⟩ := List.mem_map.1 hx
            simp only [List.mem_singleton] at hc
            subst hc; rfl
      · simp (maxSteps := 9999999) only [go_sem, TmOK, DM, DMs, CM, CMs, forall_eq, exists_eq_left, Mq, HpOK, LowOK, Mm.cells, lcS, kI, trsI]
        simp
    · have he : lcP p m v = [] := by unfold lcP; rw [if_neg (fun h => hvr h.2)]
      have hw2 : (decide ((0 : Int) ≤ v) && decide (v ≤ (p.vars.length : Int) - 1)) = false := by
        by_cases h0 : 0 ≤ v
        · have : ¬ v ≤ (p.vars.length : Int) - 1 := fun h => hvr ⟨h0, by omega⟩
          simp [this]
        · simp [h0]
      rw [hw2] at hw
      generalize hR : (fun (r : D) (h : List (Option (List C))) => r = ints (lcP p m v) ∧ h = []) = R at ret0 ⊢
      obtain ⟨vs, ar, bd⟩ := p
      obtain ⟨va, arr⟩ := m
      have hvl : vs.length ≤ mx := hl
      refine dcZ Tryz.func22 ?_
      simp (maxSteps := 9999999) only [go_sem, Mm.cells]
      iterate 4 ((try (refine drvZ Tryz.func22 ?_; simp (maxSteps := 9999999) only [go_sem, Mm.cells])); (try ((with_reducible refine And.intro ?_ ?_) <;> (repeat' with_reducible apply And.intro) <;> try exact sd)); (try first | refine XK.p hv ok59 ?_ | refine XK.gp hv ok59 ?_ | refine XK.p hw ok60 ?_ | refine XK.gp hw ok60 ?_))
      exact ret0 _ he
end Go.Proofs.YtehmajhoaibphaaGreat.CtR

namespace Go.Proofs.YtehmajhoaibphaaGreat.CtD
open Go Go.CT CtF CtR

theorem lcP_len {p : Pg} {m : Mm} {v : Int} (h : lcP p m v ≠ []) : (progOK p && memOK p.vars p.arrays m) = true ∧ 0 ≤ v ∧ v < p.vars.length ∧ (lcP p m v).length = 256 := by
  unfold lcP at h ⊢
  by_cases hc : (progOK p && memOK p.vars p.arrays m) = true ∧ 0 ≤ v ∧ v < p.vars.length
  · rw [if_pos hc]
    exact ⟨hc.1, hc.2.1, hc.2.2, by rw [List.length_map, (lcS_len _ 256).2]⟩
  · rw [if_neg hc] at h; exact absurd rfl h
theorem memOK_set {p : Pg} {m : Mm} (h : (progOK p && memOK p.vars p.arrays m) = true) (k : Nat) {v : Int} (hv : 0 ≤ v ∧ v ≤ 255) : (progOK p && memOK p.vars p.arrays ⟨m.vals.set k v, m.arrays⟩) = true := by
  simp only [memOK, vals01, Bool.and_eq_true, List.all_eq_true, decide_eq_true_eq, List.length_set] at h ⊢
  obtain ⟨h1, ⟨⟨h2, h3⟩, h4⟩, h5⟩ := h
  refine ⟨h1, ⟨⟨h2, h3⟩, fun x hx => ?_⟩, h5⟩
  rcases List.mem_or_eq_of_mem_set hx with h6 | rfl
  · exact h4 x h6
  · simpa using hv
end Go.Proofs.YtehmajhoaibphaaGreat.CtD

namespace Go.Proofs.YtehmajhoaibphaaGreat.CtD
open Go Go.CT CtF CtR

theorem lcS_congr (T T' : Nat → List Ev) : ∀ n, (∀ i, i < n → T i = T' i) → lcS T n = lcS T' n
  | 0, _ => rfl
  | n + 1, h => by
    have ih := lcS_congr T T' n fun i hi => h i (by omega)
    simp only [lcS, ih, h n (by omega)]
theorem nd_rep (n : Nat) : CtM.ndist ((List.replicate (n + 1) (0 : Nat)).map fun k : Nat => (k : Int)) = 1 := by
  have h : ∀ n, ((List.replicate n (0 : Int)).foldl CtM.addI [0]) = [0] := by
    intro n
    induction n with
    | zero => rfl
    | succ n ih => rw [List.replicate_succ, List.foldl_cons]; exact ih
  unfold CtM.ndist
  rw [List.map_replicate, List.replicate_succ, List.foldl_cons]
  show (List.foldl CtM.addI [0] (List.replicate n (0 : Int))).length = 1
  rw [h]; rfl
/-- Values that leave one trace are in one class. -/
theorem lcP_one {p : Pg} {m : Mm} {v : Int} (hq : (progOK p && memOK p.vars p.arrays m) = true) (h0 : 0 ≤ v) (h1 : v < p.vars.length) (h : ∀ i, i < 256 → leakT p m v.toNat i = leakT p m v.toNat 0) : CtM.ndist (lcP p m v) = 1 := by
  unfold lcP
  rw [if_pos ⟨hq, h0, h1⟩, lcS_congr _ (fun _ => leakT p m v.toNat 0) 256 h, (lc_one (fun _ => leakT p m v.toNat 0) _ (fun _ => rfl) 255).2]
  exact nd_rep 255
theorem lcP_in (p : Pg) (m : Mm) (v : Int) : ∀ n ∈ lcP p m v, InK .i64 n := fun n hn => by
  unfold lcP at hn
  split at hn
  · obtain ⟨k, hk, rfl⟩ := List.mem_map.1 hn
    have hb : ∀ n, ∀ k ∈ (lcS (leakT p m v.toNat) n).2, k ≤ n := by
      intro n
      induction n with
      | zero => intro k hk; simp [lcS] at hk
      | succ n ih =>
        intro k hk
        simp only [lcS] at hk
        rcases List.mem_append.1 hk with h | h
        · have := ih k h; omega
        · simp at h
          have h2 := idxT_le (leakT p m v.toNat n) (lcS (leakT p m v.toNat) n).1
          have h3 := (lcS_len (leakT p m v.toNat) n).1
          omega
    have := hb 256 k hk
    simp only [InK]; omega
  · simp at hn
theorem one_set (p : Pg) (m : Mm) (w i j : Nat) : OneM w p.vars.length ⟨m.vals.set w i, m.arrays⟩ ⟨m.vals.set w j, m.arrays⟩ :=
  ⟨by simp, rfl, fun i _ hne => by simp only; rw [List.getElem?_set_ne (by omega), List.getElem?_set_ne (by omega)], fun i _ => rfl⟩
end Go.Proofs.YtehmajhoaibphaaGreat.CtD

namespace Go.Proofs.YtehmajhoaibphaaGreat.CtD
open Go Go.CT CtF CtR

theorem lawLD (bs : List Int) (hb : Fits .u8 bs) (hl : bs.length ≤ mx) : DC Tryz.prog 4 [bytesD bs] [] (fun d h => d = DB true ∧ h = []) := by
  have hmx := mx_eq
  have hdr := drawLeakClasses bs hb hl
  unfold bytesD
  unfold bytesD at hdr
  have ret : ∀ hp : Hp, RetOb 0 (fun d h => d = DB true ∧ h = []) (DB true) hp := fun hp => RetOb.plain (d := DB true) ⟨rfl, rfl⟩ rfl
  generalize hRR : (fun (d : D) (h : List (Option (List C))) => d = DB true ∧ h = []) = R at ret ⊢
  by_cases hbig : 1048576 < bs.length
  · have hz : ((1048576 : Int) < (bs.length : Int)) = True := eq_true (by omega)
    refine dcZ Tryz.func4 ?_
    simp (maxSteps := 9999999) only [go_sem, hz]
    iterate 2 ((try (refine drvZ Tryz.func4 ?_; simp (maxSteps := 9999999) only [go_sem, hz])); (try ((with_reducible refine And.intro ?_ ?_) <;> (repeat' with_reducible apply And.intro) <;> try exact sd)))
    exact ret _
  have hz : ((1048576 : Int) < (bs.length : Int)) = False := eq_false (by omega)
  refine dcZ Tryz.func4 ?_
  simp (maxSteps := 9999999) only [go_sem, hz]
  iterate 2 ((try (refine drvZ Tryz.func4 ?_; simp (maxSteps := 9999999) only [go_sem, hz])); (try ((with_reducible refine And.intro ?_ ?_) <;> (repeat' with_reducible apply And.intro) <;> try exact sd)))
  refine XK.callG [] hdr ok21 (fun i' x h => by simp at h) (hbT ()) (fun d h' ⟨_, _, _, _, _, _, _, e⟩ => by subst e; simp) ?_
  rintro _ _ ⟨p, m, v, rfl, hp, hmm, hvv, rfl⟩ _
  have hnv := hp.nv
  have hna := hp.na
  have hli := leakClassesI p m v (by omega) (by omega)
  have hls := leakClassesS p m v (by omega) (by omega) (by have := hp.sz 5; omega)
  have hXL : (lcP p m v).length ≤ 256 := by
    unfold lcP
    split
    · rw [List.length_map, (lcS_len _ 256).2]
      exact Nat.le_refl _
    · exact Nat.zero_le _
  have hct := ctInts (lcP p m v) (lcP p m v) (by omega)
  simp only [decide_true] at hct
  by_cases hX : lcP p m v = []
  · rw [hX] at hli hls hct
    simp only [ints, List.map_nil] at hli hls hct
    obtain ⟨vs, ar, bd⟩ := p
    obtain ⟨va, arr⟩ := m
    iterate 12 ((try (refine drvZ Tryz.func4 ?_; simp (maxSteps := 9999999) only [go_sem, Mm.cells, Int.natCast_zero])); (try ((with_reducible refine And.intro ?_ ?_) <;> (repeat' with_reducible apply And.intro) <;> try exact sd)); (try first | refine XK.p hli ok22 ?_ | refine XK.gp hli ok22 ?_ | refine XK.p hls ok23 ?_ | refine XK.gp hls ok23 ?_ | refine XK.p hct ok17 ?_ | refine XK.gp hct ok17 ?_))
    exact ret _
  · obtain ⟨hq, hv0, hv1, hlen⟩ := lcP_len hX
    have hne : (((lcP p m v).length : Int) = 0) = False := eq_false (by omega)
    have hneb : (((lcP p m v).length : Int) == 0) = false := by simp; omega
    generalize hXe : lcP p m v = X at *
    simp only [ints] at hli hls hct
    have hok : progOK p = true := by simp only [Bool.and_eq_true] at hq; exact hq.1
    have hln := prog_len hok
    obtain ⟨w, hw⟩ : ∃ w, p.vars.length + p.arrays.length = w := ⟨_, rfl⟩
    have hw14 : w ≤ 14 := by omega
    have hti := traceDependsI p hw hw14 (by omega) hok
    have hbln := bl_len w (depP p).tr
    obtain ⟨i, rfl⟩ : ∃ i : Nat, v = (i : Int) := ⟨v.toNat, by omega⟩
    have hiw : i < w := by omega
    have hbi : (bl w (depP p).tr)[i]? = some ((depP p).tr.testBit i) := by simp [bl, hiw]
    have hil : i < (bl w (depP p).tr).length := by omega
    have hcc := CtM.countImpl X (by rw [← hXe]; exact lcP_in p m i)
    cases hg : (depP p).tr.testBit i with
    | true =>
      rw [hg] at hbi
      obtain ⟨vs, ar, bd⟩ := p
      obtain ⟨va, arr⟩ := m
      iterate 12 ((try (refine drvZ Tryz.func4 ?_; simp (maxSteps := 9999999) only [go_sem, Mm.cells, List.length_map, hne, hneb, boolsD, hbi, hil, hbln, hiw])); (try ((with_reducible refine And.intro ?_ ?_) <;> (repeat' with_reducible apply And.intro) <;> try exact sd)); (try first | refine XK.p hli ok22 ?_ | refine XK.gp hli ok22 ?_ | refine XK.p hls ok23 ?_ | refine XK.gp hls ok23 ?_ | refine XK.p hct ok17 ?_ | refine XK.gp hct ok17 ?_ | refine XK.p hti ok24 ?_ | refine XK.gp hti ok24 ?_ | refine XK.gs (DI .i64 0) ?_))
      exact ret _
    | false =>
      rw [hg] at hbi
      have h1 : CtM.ndist X = 1 := by
        rw [← hXe]
        refine lcP_one hq hv0 hv1 fun j _ => ?_
        unfold leakT
        rw [Int.toNat_natCast]
        exact (dep_run hw hw14 hok hiw (one_set p m i j 0)).2 hg
      rw [h1] at hcc
      obtain ⟨vs, ar, bd⟩ := p
      obtain ⟨va, arr⟩ := m
      iterate 12 ((try (refine drvZ Tryz.func4 ?_; simp (maxSteps := 9999999) only [go_sem, Mm.cells, List.length_map, hne, hneb, boolsD, hbi, hil, hbln, hiw, Int.natCast_one])); (try ((with_reducible refine And.intro ?_ ?_) <;> (repeat' with_reducible apply And.intro) <;> try exact sd)); (try first | refine XK.p hli ok22 ?_ | refine XK.gp hli ok22 ?_ | refine XK.p hls ok23 ?_ | refine XK.gp hls ok23 ?_ | refine XK.p hct ok17 ?_ | refine XK.gp hct ok17 ?_ | refine XK.p hti ok24 ?_ | refine XK.gp hti ok24 ?_ | refine XK.p hcc ok25 ?_ | refine XK.gp hcc ok25 ?_))
      exact ret _
end Go.Proofs.YtehmajhoaibphaaGreat.CtD

namespace Go.Proofs.YtehmajhoaibphaaGreat.CtD
open Go Go.CT CtF CtR

theorem lawLK (bs : List Int) (hb : Fits .u8 bs) (hl : bs.length ≤ mx) : DC Tryz.prog 5 [bytesD bs] [] (fun d h => d = DB true ∧ h = []) := by
  have hmx := mx_eq
  have hdr := drawLeakClasses bs hb hl
  unfold bytesD
  unfold bytesD at hdr
  have ret : ∀ hp : Hp, RetOb 0 (fun d h => d = DB true ∧ h = []) (DB true) hp := fun hp => RetOb.plain (d := DB true) ⟨rfl, rfl⟩ rfl
  generalize hRR : (fun (d : D) (h : List (Option (List C))) => d = DB true ∧ h = []) = R at ret ⊢
  by_cases hbig : 1048576 < bs.length
  · have hz : ((1048576 : Int) < (bs.length : Int)) = True := eq_true (by omega)
    refine dcZ Tryz.func5 ?_
    simp (maxSteps := 9999999) only [go_sem, hz]
    iterate 2 ((try (refine drvZ Tryz.func5 ?_; simp (maxSteps := 9999999) only [go_sem, hz])); (try ((with_reducible refine And.intro ?_ ?_) <;> (repeat' with_reducible apply And.intro) <;> try exact sd)))
    exact ret _
  have hz : ((1048576 : Int) < (bs.length : Int)) = False := eq_false (by omega)
  refine dcZ Tryz.func5 ?_
  simp (maxSteps := 9999999) only [go_sem, hz]
  iterate 2 ((try (refine drvZ Tryz.func5 ?_; simp (maxSteps := 9999999) only [go_sem, hz])); (try ((with_reducible refine And.intro ?_ ?_) <;> (repeat' with_reducible apply And.intro) <;> try exact sd)))
  refine XK.callG [] hdr ok21 (fun i' x h => by simp at h) (hbT ()) (fun d h' ⟨_, _, _, _, _, _, _, e⟩ => by subst e; simp) ?_
  rintro _ _ ⟨p, m, v, rfl, hp, hmm, hvv, rfl⟩ _
  have hnv := hp.nv
  have hna := hp.na
  have hli := leakClassesI p m v (by omega) (by omega)
  have hls := leakClassesS p m v (by omega) (by omega) (by have := hp.sz 5; omega)
  have hXL : (lcP p m v).length ≤ 256 := by
    unfold lcP
    split
    · rw [List.length_map, (lcS_len _ 256).2]
      exact Nat.le_refl _
    · exact Nat.zero_le _
  have hct := ctInts (lcP p m v) (lcP p m v) (by omega)
  simp only [decide_true] at hct
  by_cases hX : lcP p m v = []
  · rw [hX] at hli hls hct
    simp only [ints, List.map_nil] at hli hls hct
    obtain ⟨vs, ar, bd⟩ := p
    obtain ⟨va, arr⟩ := m
    iterate 12 ((try (refine drvZ Tryz.func5 ?_; simp (maxSteps := 9999999) only [go_sem, Mm.cells, Int.natCast_zero])); (try ((with_reducible refine And.intro ?_ ?_) <;> (repeat' with_reducible apply And.intro) <;> try exact sd)); (try first | refine XK.p hli ok22 ?_ | refine XK.gp hli ok22 ?_ | refine XK.p hls ok23 ?_ | refine XK.gp hls ok23 ?_ | refine XK.p hct ok17 ?_ | refine XK.gp hct ok17 ?_))
    exact ret _
  · obtain ⟨hq, hv0, hv1, hlen⟩ := lcP_len hX
    have hne : (((lcP p m v).length : Int) = 0) = False := eq_false (by omega)
    have hneb : (((lcP p m v).length : Int) == 0) = false := by simp; omega
    generalize hXe : lcP p m v = X at *
    simp only [ints] at hli hls hct
    have hok : progOK p = true := by simp only [Bool.and_eq_true] at hq; exact hq.1
    have hln := prog_len hok
    obtain ⟨i, rfl⟩ : ∃ i : Nat, v = (i : Int) := ⟨v.toNat, by omega⟩
    have hci := checkCTI p (by omega) (by omega)
    have hfr := releaseFree p (by omega) (by omega)
    obtain ⟨T, hT, hxv, _⟩ := hi_var (ar := p.arrays) (labs_of hok).1 (i := i) (by omega)
    have hls2 := labelSecretI T hT
    have hiv : i < p.vars.length := by omega
    have hcc := CtM.countImpl X (by rw [← hXe]; exact lcP_in p m i)
    have hpl : (strictR p).1 = 0 → freeP p = true → secL T = true → CtM.ndist X = 1 := fun h1 h2 h3 => by
      rw [← hXe]
      refine lcP_one hq hv0 hv1 fun j hj => ?_
      unfold leakT
      rw [Int.toNat_natCast]
      have hlo : LowM 0 p ⟨m.vals.set i j, m.arrays⟩ ⟨m.vals.set i (0 : Nat), m.arrays⟩ := ⟨by simp, rfl, fun k x hk hb => by
        have hne : k ≠ i := fun e => by
          subst e
          rw [hxv] at hk
          simp only [Option.some.injEq] at hk
          subst hk
          unfold secL at h3
          rw [Int.toNat_natCast, h3] at hb
          cases hb
        simp only
        rw [List.getElem?_set_ne (by omega), List.getElem?_set_ne (by omega)], fun _ _ _ _ => rfl⟩
      rcases ct_traces hok (memFits_of (memOK_set hq i (v := j) (by omega))) (memFits_of (memOK_set hq i (v := (0 : Nat)) (by omega))) hlo h1 with h4 | ⟨h4, _⟩
      · exact h4
      · rw [h2] at h4; cases h4
    generalize (strictR p).1 = code at *
    generalize (strictR p).2 = at_ at *
    generalize freeP p = fe at *
    generalize secL T = se at *
    generalize CtM.ndist X = N at *
    obtain ⟨vs, ar, bd⟩ := p
    obtain ⟨va, arr⟩ := m
    simp only at hxv hiv
    by_cases hz0 : code = 0
    · subst hz0
      cases fe with
      | false =>
        cases se with
        | _ =>
          iterate 16 ((try (refine drvZ Tryz.func5 ?_; simp (maxSteps := 9999999) only [go_sem, Mm.cells, List.length_map, hne, hneb, bne_self_eq_false, hxv, hiv])); (try ((with_reducible refine And.intro ?_ ?_) <;> (repeat' with_reducible apply And.intro) <;> try exact sd)); (try first | refine XK.p hli ok22 ?_ | refine XK.gp hli ok22 ?_ | refine XK.p hls ok23 ?_ | refine XK.gp hls ok23 ?_ | refine XK.p hct ok17 ?_ | refine XK.gp hct ok17 ?_ | refine XK.p hci ok26 ?_ | refine XK.gp hci ok26 ?_ | refine XK.p hfr ok19 ?_ | refine XK.gp hfr ok19 ?_ | refine XK.gs (DB false) ?_ | refine XK.gs (DI .i64 0) ?_))
          exact ret _
      | true =>
        cases se with
        | false =>
          iterate 16 ((try (refine drvZ Tryz.func5 ?_; simp (maxSteps := 9999999) only [go_sem, Mm.cells, List.length_map, hne, hneb, bne_self_eq_false, hxv, hiv])); (try ((with_reducible refine And.intro ?_ ?_) <;> (repeat' with_reducible apply And.intro) <;> try exact sd)); (try first | refine XK.p hli ok22 ?_ | refine XK.gp hli ok22 ?_ | refine XK.p hls ok23 ?_ | refine XK.gp hls ok23 ?_ | refine XK.p hct ok17 ?_ | refine XK.gp hct ok17 ?_ | refine XK.p hci ok26 ?_ | refine XK.gp hci ok26 ?_ | refine XK.p hfr ok19 ?_ | refine XK.gp hfr ok19 ?_ | refine XK.p hls2 ok27 ?_ | refine XK.gp hls2 ok27 ?_ | refine XK.gs (DB false) ?_ | refine XK.gs (DI .i64 0) ?_))
          exact ret _
        | true =>
          obtain rfl := hpl rfl rfl rfl
          iterate 16 ((try (refine drvZ Tryz.func5 ?_; simp (maxSteps := 9999999) only [go_sem, Mm.cells, List.length_map, hne, hneb, bne_self_eq_false, hxv, hiv, Int.natCast_one])); (try ((with_reducible refine And.intro ?_ ?_) <;> (repeat' with_reducible apply And.intro) <;> try exact sd)); (try first | refine XK.p hli ok22 ?_ | refine XK.gp hli ok22 ?_ | refine XK.p hls ok23 ?_ | refine XK.gp hls ok23 ?_ | refine XK.p hct ok17 ?_ | refine XK.gp hct ok17 ?_ | refine XK.p hci ok26 ?_ | refine XK.gp hci ok26 ?_ | refine XK.p hfr ok19 ?_ | refine XK.gp hfr ok19 ?_ | refine XK.p hls2 ok27 ?_ | refine XK.gp hls2 ok27 ?_ | refine XK.p hcc ok25 ?_ | refine XK.gp hcc ok25 ?_))
          exact ret _
    · have g1 : (code = 0) = False := eq_false hz0
      have g2 : (code != 0) = true := by simp [hz0]
      iterate 16 ((try (refine drvZ Tryz.func5 ?_; simp (maxSteps := 9999999) only [go_sem, Mm.cells, List.length_map, hne, hneb, bne_self_eq_false, g1, g2, hxv, hiv])); (try ((with_reducible refine And.intro ?_ ?_) <;> (repeat' with_reducible apply And.intro) <;> try exact sd)); (try first | refine XK.p hli ok22 ?_ | refine XK.gp hli ok22 ?_ | refine XK.p hls ok23 ?_ | refine XK.gp hls ok23 ?_ | refine XK.p hct ok17 ?_ | refine XK.gp hct ok17 ?_ | refine XK.p hci ok26 ?_ | refine XK.gp hci ok26 ?_ | refine XK.gs (DB false) ?_ | refine XK.gs (DI .i64 0) ?_))
      exact ret _
end Go.Proofs.YtehmajhoaibphaaGreat.CtD
