/- Contracts of functions of the program, one behind the other, as plain data: what each call returns and which blocks it leaves. -/
import Derived.Test.YtmagbjbanpgmhaaGreatLFacts
import Derived.Test.YtmagbjbanpgmhaaGreatLAj
import Derived.Test.YtmagbjbanpgmhaaGreatLAk
import Derived.Test.YtmagbjbanpgmhaaGreatLAl
import Derived.Test.YtmagbjbanpgmhaaGreatLAm
import Derived.Test.YtmagbjbanpgmhaaGreatLAn
import Derived.Test.YtmagbjbanpgmhaaGreatLAo
import Derived.Test.YtmagbjbanpgmhaaGreatLAq
import Derived.Test.YtmagbjbanpgmhaaGreatLAr
import Derived.Test.YtmagbjbanpgmhaaGreatLAv
import Derived.Test.YtmagbjbanpgmhaaGreatLAx
import Derived.Test.YtmagbjbanpgmhaaGreatLAy
import Derived.Test.YtmagbjbanpgmhaaGreatLAu
set_option linter.unusedVariables false
set_option linter.unusedSimpArgs false
set_option maxHeartbeats 16000000
set_option maxRecDepth 100000
namespace Go.Proofs.YtmagbjbanpgmhaaGreat.CtR
open Go Go.CT CtF CtD

theorem lcS_sm (T : Nat → List Ev) {b N : Nat} (h : ∀ i, i < N → (T i).length ≤ b) : ∀ n, n ≤ N → ∀ t ∈ (lcS T n).1, t.length ≤ b
  | 0, _, t, ht => by simp [lcS] at ht
  | n + 1, hn, t, ht => by
    have ih := lcS_sm T h n (by omega)
    simp only [lcS] at ht
    split at ht
    · rcases List.mem_append.1 ht with h1 | h1
      · exact ih t h1
      · simp at h1; rw [h1]; exact h n (by omega)
    · exact ih t ht
def kI (l : List Nat) : List Int := l.map (fun k : Nat => (k : Int))
theorem kI_len (l : List Nat) : (kI l).length = l.length := by simp [kI]
theorem kI_snoc (l : List Nat) (k : Nat) : (kI (l ++ [k])).map I64 = (kI l).map I64 ++ [I64 (k : Int)] := by simp [kI]
theorem trsI_snoc (l : List (List Ev)) (t : List Ev) : trsI (l ++ [t]) = trsI l ++ [trD t] := by simp [trsI]
theorem leakClassesI (p : Pg) (m : Mm) (v : Int) (hl : p.vars.length ≤ mx) (hl2 : p.arrays.length ≤ mx) : DC Tryz.prog 26 [.agg p.cells, .agg m.cells, DI .i64 v] []
    (fun r h => r = ints (lcP p m v) ∧ h = []) := by
  have hmx := mx_eq
  have hv := memoryValidI p m hl hl2
  have hmf := @memFits_of p m
  have hbo := @body_of p
  have hw := within v 0 ((p.vars.length : Int) - 1)
  have ret0 : ∀ hp : Hp, lcP p m v = [] → RetOb 0 (fun r h => r = ints (lcP p m v) ∧ h = []) (.c (.v (.slice none 0 0))) hp := fun hp he => by
    rw [he]
    refine RetOb.ofQ (fun _ => none) [] (ints []) [] ⟨?_, trivial, trivial, by simp [enumL]⟩ ⟨rfl, rfl⟩ (Nat.zero_le _)
    simp [DM, CM, ints]
  cases hq : (progOK p && memOK p.vars p.arrays m) with
  | false =>
    rw [hq] at hv
    have he : lcP p m v = [] := by unfold lcP; rw [if_neg (by rw [hq]; simp)]
    generalize hR : (fun (r : D) (h : List (Option (List C))) => r = ints (lcP p m v) ∧ h = []) = R at ret0 ⊢
    obtain ⟨vs, ar, bd⟩ := p
    obtain ⟨va, arr⟩ := m
    refine dcZ Tryz.func26 ?_
    simp (maxSteps := 9999999) only [go_sem, Mm.cells]
    iterate 4 ((try (refine drvZ Tryz.func26 ?_; simp (maxSteps := 9999999) only [go_sem, Mm.cells])); (try ((with_reducible refine And.intro ?_ ?_) <;> (repeat' with_reducible apply And.intro) <;> try exact sd)); (try first | refine XK.p hv ok38 ?_ | refine XK.gp hv ok38 ?_ | refine XK.gs (DB false) ?_))
    exact ret0 _ he
  | true =>
    rw [hq] at hv
    by_cases hvr : 0 ≤ v ∧ v < p.vars.length
    · have he : lcP p m v = (lcS (leakT p m v.toNat) 256).2.map (fun k : Nat => (k : Int)) := by unfold lcP; rw [if_pos ⟨hq, hvr⟩]
      rw [he]
      have hm := hmf hq
      have hpo : progOK p = true := by simp only [Bool.and_eq_true] at hq; exact hq.1
      have hbd := hbo hpo
      have hcp := own m (by have := hm.nv; have := hm.nv12; omega) (by have := hm.na; have := hm.na2; omega) (fun a ha => (hm.arr a ha).1)
      unfold memB at hcp
      rw [hm.nv, hm.na] at hcp
      obtain ⟨w, rfl⟩ : ∃ w : Nat, v = (w : Int) := ⟨v.toNat, by omega⟩
      have hwn : w < p.vars.length := by omega
      rw [show (decide ((0 : Int) ≤ (w : Int)) && decide ((w : Int) ≤ (p.vars.length : Int) - 1)) = true by simp; omega] at hw
      have hmva := hm.nv
      generalize hR : (fun (r : D) (h : List (Option (List C))) => r = ints _ ∧ h = []) = R
      simp only [Int.toNat_natCast] at hR ⊢
      clear ret0 hmf hbo
      have hmf2 : ∀ n : Nat, n < 256 → MemFits p ⟨m.vals.set w n, m.arrays⟩ := fun n hn => fitsV hm w (by omega)
      have hrn := fun (n : Nat) (hn : n < 256) => runImpl p 5 ⟨m.vals.set w n, m.arrays⟩ p.body [] (hmf2 n hn) hbd.1 (by rw [wt5]; simp only [List.length_nil]; omega)
      have hlt : ∀ n : Nat, n < 256 → (leakT p m w n).length ≤ 1000000 := fun n hn => by
        have h2 := (runL_ok (hmf2 n hn) hbd.1).2
        rw [wt5] at h2
        have := hbd.2
        unfold leakT
        omega
      have hT : ∀ n : Nat, (runL 5 ⟨m.vals.set w n, m.arrays⟩ p.body).2 = leakT p m w n := fun n => rfl
      generalize leakT p m w = T at *
      obtain ⟨vs, ar, bd⟩ := p
      obtain ⟨va, arr⟩ := m
      have hvl : vs.length ≤ mx := hl
      refine dcZ Tryz.func26 ?_
      simp (maxSteps := 9999999) only [go_sem, Mm.cells]
      iterate 6 ((try (refine drvZ Tryz.func26 ?_; simp (maxSteps := 9999999) only [go_sem, Mm.cells])); (try ((with_reducible refine And.intro ?_ ?_) <;> (repeat' with_reducible apply And.intro) <;> try exact sd)); (try first | refine XK.p hv ok38 ?_ | refine XK.gp hv ok38 ?_ | refine XK.p hw ok70 ?_ | refine XK.gp hw ok70 ?_))
      refine Go.loopQ (fun n : Nat => [(2, DI .i64 w), (3, .c (.ptr 0 0)), (4, .c (.ptr 64 0)), (7, .c (.msl 192 1 0 n)), (8, .c (.msl 1280 1 0 (lcS T n).1.length)), (25, DI .i64 n)])
        (fun n => [(0, some (Pg.cells ⟨vs, ar, bd⟩)), (64, some (Mm.cells ⟨va, arr⟩)), (192, some ((kI (lcS T n).2).map I64)), (1280, some (trsI (lcS T n).1))])
        4096 (fun n => n ≤ 256) (fun n => 256 - n) ?_ 0 (fun j => if j = 192 then none else if j = 1280 then none else some j) [] _ (Nat.zero_le _) ?_
      · intro n hn again
        obtain ⟨hl1, hl2⟩ := lcS_len T n
        rcases Nat.lt_or_ge n 256 with hlt2 | hge
        · have hz : ((n : Int) < 256) = True := eq_true (by omega)
          have hsucc : lcS T (n + 1) = (if idxT (T n) (lcS T n).1 = (lcS T n).1.length then (lcS T n).1 ++ [T n] else (lcS T n).1, (lcS T n).2 ++ [idxT (T n) (lcS T n).1]) := rfl
          have hrn := hrn n hlt2
          have hTn := hT n
          have hTl := hlt n hlt2
          have hset : (va.map I64).set w (.v (.int .i64 n)) = (va.set w n).map I64 := by rw [List.map_set]
          have hwv : w < va.length := by simp only at hmva hwn; omega
          have htrs := lcS_sm T hlt n hn
          generalize (lcS T n).1 = trs at *
          generalize (lcS T n).2 = out at *
          have hkl := kI_len out
          have htrl : ∀ t ∈ trs, t.length ≤ mx := fun t ht => by
            have := htrs t ht
            omega
          have htl := trsI_len trs
          refine drvL Tryz.func26 ?_
          simp (maxSteps := 9999999) only [go_sem, Mm.cells, hz]
          iterate 3 ((try (refine drvZ Tryz.func26 ?_; simp (maxSteps := 9999999) only [go_sem, Mm.cells, hz])); (try ((with_reducible refine And.intro ?_ ?_) <;> (repeat' with_reducible apply And.intro) <;> try exact sd)))
          refine XK.callG [] hcp ok39 (fun i' x h => by simp at h) (hbT ()) (fun d h' ⟨_, e⟩ => by subst e; simp) ?_
          rintro _ _ ⟨rfl, rfl⟩ _
          iterate 4 ((try (refine drvZ Tryz.func26 ?_; simp (maxSteps := 9999999) only [go_sem, Mm.cells, renCs_I, renCs_hdr, renCs_b0, renCs_b1, renCs_tr, hwv, hset])); (try ((with_reducible refine And.intro ?_ ?_) <;> (repeat' with_reducible apply And.intro) <;> try exact sd)))
          have hkT : ∀ c ∈ trsI trs, kf c = true := trsI_kf trs
          refine XK.subQ (r := fun j => if j = 0 then some 4480 else if j = 1 then none else if j = 2 then some 4352 else if j = 3 then some 4353 else if j = 4 then some 4354 else if j = 5 then some 4355 else if j = 6 then some 4544 else if j = 10 then some 0 else if j = 11 then some 64 else if j = 12 then some 192 else some 1280) (fz := [])
            (tl := [(2, DI .i64 w), (3, .c (.ptr 10 0)), (4, .c (.ptr 11 0)), (7, .c (.msl 12 1 0 n)), (8, .c (.msl 13 1 0 trs.length)), (25, DI .i64 n), (9, DI .i64 n), (10, .c (.ptr 6 0)), (40, .c (.ptr 0 0)), (42, .c (.isl 11 (St1.cellsL bd)))])
            (hl := [(0, some [.msl 2 1 0 vs.length, .msl 3 1 0 ar.length, .msl 1 2 0 0]), (1, some []), (2, some ((va.set w n).map I64)), (3, some (hdr 4 5 ar.length)), (4, some (blk0 arr)), (5, some (blk1 arr)), (6, some [.ptr 0 0]), (10, some (Pg.cells ⟨vs, ar, bd⟩)), (11, some (Mm.cells ⟨va, arr⟩)), (12, some ((kI out).map I64)), (13, some (trsI trs))]) ?_ ?_
          · simp [Mq, TmOK, DM, CM, CMs, HpOK, LowOK, hOf, upd, CMs_I, CMs_hdr, CMs_b0, CMs_b1, Pg.cells, Mm.cells, isI, DI]
            exact ⟨CMs.kf (by rw [← List.map_set]; exact kf_I _), CMs.kf (trsI_kf _)⟩
          refine XK.callG [0, 1, 2, 3, 4, 5] hrn ok40 (hhp6 (by simp [hOf, upd, renCs, renC, rk0]) (by simp [hOf, upd, renCs_tr, renCs, renC, trC]) (by simp only [Option.map_some, renCs_I]; rfl) (by simp [hOf, upd, renCs_hdr, rk0]) (by simp [hOf, upd, renCs_b0]) (by simp [hOf, upd, renCs_b1])) (hbT ()) (fun d h' ⟨_, e⟩ => by subst e; simp [stP']) ?_
          rintro _ _ ⟨rfl, rfl⟩ _
          unfold stP'
          rw [List.nil_append, hTn]
          ((try (refine drvZ Tryz.func26 ?_; simp (maxSteps := 9999999) only [go_sem, Mm.cells, renCs_I, renCs_hdr, renCs_b0, renCs_b1, renCs_tr])); (try ((with_reducible refine And.intro ?_ ?_) <;> (repeat' with_reducible apply And.intro) <;> try exact sd)))
          refine XK.subQ (r := some) (fz := [5440]) (tl := [(2, DI .i64 w), (3, .c (.ptr 10 0)), (4, .c (.ptr 11 0)), (7, .c (.msl 12 1 0 n)), (8, .c (.msl 13 1 0 trs.length)), (25, DI .i64 n), (10, .c (.ptr 6 0)), (44, .c (.msl 13 1 0 trs.length)), (45, .c (.clo 72 [.ptr 6 0]))])
            (hl := [(0, some [.unk, .unk, trD (T n)]), (6, some [.ptr 0 0]), (10, some (Pg.cells ⟨vs, ar, bd⟩)), (11, some (Mm.cells ⟨va, arr⟩)), (12, some ((kI out).map I64)), (13, some (trsI trs))]) ?_ ?_
          · simp [Mq, TmOK, DM, CM, CMs, HpOK, LowOK, hOf, upd, CMs_I, Pg.cells, Mm.cells, isI, DI, trD, runE, kf, Ev.cells, tOf]
            exact ⟨rfl, CMs.kf (trsI_kf _)⟩
          refine XK.subQ (r := some) (fz := [0]) (tl := [(2, DI .i64 w), (3, .c (.ptr 10 0)), (4, .c (.ptr 11 0)), (7, .c (.msl 12 1 0 n)), (8, .c (.msl 13 1 0 trs.length)), (25, DI .i64 n), (10, .c (.ptr 6 0)), (44, .c (.msl 13 1 0 trs.length)), (45, .c (.clo 72 [.ptr 6 0]))])
            (hl := [(6, some [.eptr [.unk, .unk, trD (T n)]]), (10, some (Pg.cells ⟨vs, ar, bd⟩)), (11, some (Mm.cells ⟨va, arr⟩)), (12, some ((kI out).map I64)), (13, some (trsI trs))]) ?_ ?_
          · simp [Mq, TmOK, DM, CM, CMs, HpOK, LowOK, hOf, upd, CMs_I, Pg.cells, Mm.cells, isI, DI, trD, runE, kf, Ev.cells, tOf]
            exact CMs.kf (trsI_kf _)
          refine XK.subQ (r := some) (fz := [6]) (tl := [(2, DI .i64 w), (3, .c (.ptr 10 0)), (4, .c (.ptr 11 0)), (7, .c (.msl 12 1 0 n)), (8, .c (.msl 13 1 0 trs.length)), (25, DI .i64 n), (10, .c (runE (T n))), (44, .c (.msl 13 1 0 trs.length)), (45, .c (.clo 72 [runE (T n)]))])
            (hl := [(10, some (Pg.cells ⟨vs, ar, bd⟩)), (11, some (Mm.cells ⟨va, arr⟩)), (12, some ((kI out).map I64)), (13, some (trsI trs))]) ?_ ?_
          · simp [Mq, TmOK, DM, CM, CMs, HpOK, LowOK, hOf, upd, CMs_I, Pg.cells, Mm.cells, isI, DI, trD, runE, kf, Ev.cells, tOf]
            exact CMs.kf (trsI_kf _)
          have hif := indexFuncT (T n) trs (by omega) htrl
          by_cases hen : idxT (T n) trs = trs.length
          · rw [if_pos hen] at hsucc
            have hii : idxI (T n) trs = -1 := by unfold idxI; rw [if_pos hen]
            rw [hii] at hif
            have hneg : ((-1 : Int) < 0) = True := eq_true (by omega)
            have hs1 : (lcS T (n + 1)).1 = trs ++ [T n] := by rw [hsucc]
            have hs2 : (lcS T (n + 1)).2 = out ++ [trs.length] := by rw [hsucc, ← hen]
            iterate 2 ((try (refine drvZ Tryz.func26 ?_; simp (maxSteps := 9999999) only [go_sem, Mm.cells, runE, trD])); (try ((with_reducible refine And.intro ?_ ?_) <;> (repeat' with_reducible apply And.intro) <;> try exact sd)))
            refine XK.rp [13] hif ok71 ⟨by rw [Option.map_some, renCs_plain _ (kfs_mapI _ (trsI_kf _))]; rfl, trivial⟩ ⟨kfs_mapI _ (trsI_kf _), trivial⟩ ?_
            iterate 6 ((try (refine drvZ Tryz.func26 ?_; simp (maxSteps := 9999999) only [go_sem, Mm.cells, hneg, htl, hkl, hl2, runE, trD])); (try ((with_reducible refine And.intro ?_ ?_) <;> (repeat' with_reducible apply And.intro) <;> try exact sd)))
            refine again (n + 1) (fun j => if j = 0 then some 10 else if j = 64 then some 11 else if j = 192 then some 6784 else some 6464) [] _ (by omega) (by omega) ?_
            simp (maxSteps := 9999999) only [go_sem, TmOK, DM, DMs, CM, CMs, forall_eq, exists_eq_left, Mq, HpOK, LowOK, Mm.cells, hs1, hs2, kI_snoc, trsI_snoc, trD, List.length_append]
            simp
            exact ⟨CMs.kf (kf_app (kf_I _) (by simp [kf])), CMs.kf (kf_app (trsI_kf _) (by simp [kf]))⟩
          · rw [if_neg hen] at hsucc
            have hii : idxI (T n) trs = (idxT (T n) trs : Int) := by unfold idxI; rw [if_neg hen]
            rw [hii] at hif
            generalize hke : idxT (T n) trs = k at *
            have hneg : ((k : Int) < 0) = False := eq_false (by omega)
            have hs1 : (lcS T (n + 1)).1 = trs := by rw [hsucc]
            have hs2 : (lcS T (n + 1)).2 = out ++ [k] := by rw [hsucc]
            iterate 2 ((try (refine drvZ Tryz.func26 ?_; simp (maxSteps := 9999999) only [go_sem, Mm.cells, runE, trD])); (try ((with_reducible refine And.intro ?_ ?_) <;> (repeat' with_reducible apply And.intro) <;> try exact sd)))
            refine XK.rp [13] hif ok71 ⟨by rw [Option.map_some, renCs_plain _ (kfs_mapI _ (trsI_kf _))]; rfl, trivial⟩ ⟨kfs_mapI _ (trsI_kf _), trivial⟩ ?_
            iterate 6 ((try (refine drvZ Tryz.func26 ?_; simp (maxSteps := 9999999) only [go_sem, Mm.cells, hneg, htl, hkl, hl2, runE, trD])); (try ((with_reducible refine And.intro ?_ ?_) <;> (repeat' with_reducible apply And.intro) <;> try exact sd)))
            refine again (n + 1) (fun j => if j = 0 then some 10 else if j = 64 then some 11 else if j = 192 then some 6080 else some 13) [] _ (by omega) (by omega) ?_
            simp (maxSteps := 9999999) only [go_sem, TmOK, DM, DMs, CM, CMs, forall_eq, exists_eq_left, Mq, HpOK, LowOK, Mm.cells, hs1, hs2, kI_snoc, trsI_snoc, trD, List.length_append]
            simp
            exact ⟨CMs.kf (kf_app (kf_I _) (by simp [kf])), CMs.kf (trsI_kf _)⟩
        · have hz : ((n : Int) < 256) = False := eq_false (by omega)
          obtain rfl : n = 256 := by omega
          refine drvL Tryz.func26 ?_
          simp (maxSteps := 9999999) only [go_sem, Mm.cells, hz]
          iterate 2 ((try (refine drvZ Tryz.func26 ?_; simp (maxSteps := 9999999) only [go_sem, Mm.cells, hz])); (try ((with_reducible refine And.intro ?_ ?_) <;> (repeat' with_reducible apply And.intro) <;> try exact sd)))
          refine RetOb.frozen (R := R) (sz := 1) (xs := (kI (lcS T 256).2).map fun n => [I64 n]) (by rw [← hR]; exact ⟨rfl, rfl⟩) ?_ (by rw [List.length_map, kI_len, hl2]) ?_ ?_
          · rw [flat_I]; simp [upd]
          · intro x hx
            obtain ⟨b, _, rfl⟩ := List.mem_map.1 hx
            rfl
          · intro x hx c hc
            obtain ⟨b, _, rfl⟩ := List.mem_map.1 hx
            simp only [List.mem_singleton] at hc
            subst hc; rfl
      · simp (maxSteps := 9999999) only [go_sem, TmOK, DM, DMs, CM, CMs, forall_eq, exists_eq_left, Mq, HpOK, LowOK, Mm.cells, lcS, kI, trsI]
        simp
    · have he : lcP p m v = [] := by unfold lcP; rw [if_neg (fun h => hvr h.2)]
      have hw2 : (decide ((0 : Int) ≤ v) && decide (v ≤ (p.vars.length : Int) - 1)) = false := by
        by_cases h0 : 0 ≤ v
        · have : ¬ v ≤ (p.vars.length : Int) - 1 := fun h => hvr ⟨h0, by omega⟩
          simp [this]
        · simp [h0]
      rw [hw2] at hw
      generalize hR : (fun (r : D) (h : List (Option (List C))) => r = ints (lcP p m v) ∧ h = []) = R at ret0 ⊢
      obtain ⟨vs, ar, bd⟩ := p
      obtain ⟨va, arr⟩ := m
      have hvl : vs.length ≤ mx := hl
      refine dcZ Tryz.func26 ?_
      simp (maxSteps := 9999999) only [go_sem, Mm.cells]
      iterate 4 ((try (refine drvZ Tryz.func26 ?_; simp (maxSteps := 9999999) only [go_sem, Mm.cells])); (try ((with_reducible refine And.intro ?_ ?_) <;> (repeat' with_reducible apply And.intro) <;> try exact sd)); (try first | refine XK.p hv ok38 ?_ | refine XK.gp hv ok38 ?_ | refine XK.p hw ok70 ?_ | refine XK.gp hw ok70 ?_))
      exact ret0 _ he
end Go.Proofs.YtmagbjbanpgmhaaGreat.CtR

namespace Go.Proofs.YtmagbjbanpgmhaaGreat.CtD
open Go Go.CT CtF CtR

theorem lcP_len {p : Pg} {m : Mm} {v : Int} (h : lcP p m v ≠ []) : (progOK p && memOK p.vars p.arrays m) = true ∧ 0 ≤ v ∧ v < p.vars.length ∧ (lcP p m v).length = 256 := by
  unfold lcP at h ⊢
  by_cases hc : (progOK p && memOK p.vars p.arrays m) = true ∧ 0 ≤ v ∧ v < p.vars.length
  · rw [if_pos hc]
    exact ⟨hc.1, hc.2.1, hc.2.2, by rw [List.length_map, (lcS_len _ 256).2]⟩
  · rw [if_neg hc] at h; exact absurd rfl h
theorem memOK_set {p : Pg} {m : Mm} (h : (progOK p && memOK p.vars p.arrays m) = true) (k : Nat) {v : Int} (hv : 0 ≤ v ∧ v ≤ 255) : (progOK p && memOK p.vars p.arrays ⟨m.vals.set k v, m.arrays⟩) = true := by
  simp only [memOK, vals01, Bool.and_eq_true, List.all_eq_true, decide_eq_true_eq, List.length_set] at h ⊢
  obtain ⟨h1, ⟨⟨h2, h3⟩, h4⟩, h5⟩ := h
  refine ⟨h1, ⟨⟨h2, h3⟩, fun x hx => ?_⟩, h5⟩
  rcases List.mem_or_eq_of_mem_set hx with h6 | rfl
  · exact h4 x h6
  · simpa using hv
theorem lawLC (bs ms : List Int) (hb : Fits .u8 bs) (hb2 : Fits .u8 ms) (hl : bs.length ≤ mx) (hl2 : ms.length ≤ mx) : DC Tryz.prog 6 [bytesD bs, bytesD ms] [] (fun d h => d = DB true ∧ h = []) := by
  have hmx := mx_eq
  have hdr := drawLeakClasses bs hb hl
  unfold bytesD
  unfold bytesD at hdr
  have ret : ∀ hp : Hp, RetOb 0 (fun d h => d = DB true ∧ h = []) (DB true) hp := fun hp => RetOb.plain (d := DB true) ⟨rfl, rfl⟩ rfl
  generalize hRR : (fun (d : D) (h : List (Option (List C))) => d = DB true ∧ h = []) = R at ret ⊢
  by_cases hbig : 1048576 < bs.length
  · have hz : ((1048576 : Int) < (bs.length : Int)) = True := eq_true (by omega)
    refine dcZ Tryz.func6 ?_
    simp (maxSteps := 9999999) only [go_sem, hz]
    iterate 2 ((try (refine drvZ Tryz.func6 ?_; simp (maxSteps := 9999999) only [go_sem, hz])); (try ((with_reducible refine And.intro ?_ ?_) <;> (repeat' with_reducible apply And.intro) <;> try exact sd)))
    exact ret _
  have hz : ((1048576 : Int) < (bs.length : Int)) = False := eq_false (by omega)
  by_cases hbig2 : 1048576 < ms.length
  · have hz2 : ((1048576 : Int) < (ms.length : Int)) = True := eq_true (by omega)
    refine dcZ Tryz.func6 ?_
    simp (maxSteps := 9999999) only [go_sem, hz, hz2]
    iterate 2 ((try (refine drvZ Tryz.func6 ?_; simp (maxSteps := 9999999) only [go_sem, hz, hz2])); (try ((with_reducible refine And.intro ?_ ?_) <;> (repeat' with_reducible apply And.intro) <;> try exact sd)))
    exact ret _
  have hz2 : ((1048576 : Int) < (ms.length : Int)) = False := eq_false (by omega)
  refine dcZ Tryz.func6 ?_
  simp (maxSteps := 9999999) only [go_sem, hz, hz2]
  iterate 2 ((try (refine drvZ Tryz.func6 ?_; simp (maxSteps := 9999999) only [go_sem, hz, hz2])); (try ((with_reducible refine And.intro ?_ ?_) <;> (repeat' with_reducible apply And.intro) <;> try exact sd)))
  refine XK.callG [] hdr ok25 (fun i' x h => by simp at h) (hbT ()) (fun d h' ⟨_, _, _, _, _, _, _, e⟩ => by subst e; simp) ?_
  rintro _ _ ⟨p, m, v, rfl, hp, hmm, hvv, rfl⟩ _
  have hnv := hp.nv
  have hna := hp.na
  have hli := leakClassesI p m v (by omega) (by omega)
  have hls := leakClassesS p m v (by omega) (by omega) (by have := hp.sz 5; omega)
  have hXL : (lcP p m v).length ≤ 256 := by
    unfold lcP
    split
    · rw [List.length_map, (lcS_len _ 256).2]
      exact Nat.le_refl _
    · exact Nat.zero_le _
  have hct := ctInts (lcP p m v) (lcP p m v) (by omega)
  simp only [decide_true] at hct
  by_cases hX : lcP p m v = []
  · rw [hX] at hli hls hct
    simp only [ints, List.map_nil] at hli hls hct
    obtain ⟨vs, ar, bd⟩ := p
    obtain ⟨va, arr⟩ := m
    iterate 12 ((try (refine drvZ Tryz.func6 ?_; simp (maxSteps := 9999999) only [go_sem, Mm.cells, Int.natCast_zero])); (try ((with_reducible refine And.intro ?_ ?_) <;> (repeat' with_reducible apply And.intro) <;> try exact sd)); (try first | refine XK.p hli ok26 ?_ | refine XK.gp hli ok26 ?_ | refine XK.p hls ok28 ?_ | refine XK.gp hls ok28 ?_ | refine XK.p hct ok27 ?_ | refine XK.gp hct ok27 ?_))
    exact ret _
  · obtain ⟨hq, hv0, hv1, hlen⟩ := lcP_len hX
    have hne : (((lcP p m v).length : Int) = 0) = False := eq_false (by omega)
    have hneb : (((lcP p m v).length : Int) == 0) = false := by simp; omega
    generalize hXe : lcP p m v = X at *
    simp only [ints] at hli hls hct
    obtain ⟨w, rfl⟩ : ∃ w : Nat, v = (w : Int) := ⟨v.toNat, by omega⟩
    obtain ⟨i, hi, hie⟩ : ∃ i : Nat, i < 256 ∧ (ms.length : Int) % (X.length : Int) = (i : Int) := ⟨ms.length % 256, by omega, by rw [hlen]; omega⟩
    obtain ⟨k, hk, hke⟩ : ∃ k : Nat, k < 256 ∧ (bs.length : Int) * 7 % (X.length : Int) = (k : Int) := ⟨bs.length * 7 % 256, by omega, by rw [hlen]; omega⟩
    have hmf := memFits_of hq
    have hmn := hmf.nv
    have hri := runProgI p ⟨m.vals.set w i, m.arrays⟩ (by omega) (by omega)
    have hrk := runProgI p ⟨m.vals.set w k, m.arrays⟩ (by omega) (by omega)
    rw [runP_true (memOK_set hq w (by omega))] at hri hrk
    have hwn : w < m.vals.length := by omega
    obtain ⟨hbd1, hbd2⟩ := body_of (by simp only [Bool.and_eq_true] at hq; exact hq.1)
    have hTl : ∀ n : Nat, n < 256 → (leakT p m w n).length ≤ 1000000 := fun n hn => by
      have h2 := (runL_ok (memFits_of (memOK_set hq w (v := n) (by omega))) hbd1).2
      rw [wt5] at h2
      unfold leakT
      omega
    have hTi : (runL 5 ⟨m.vals.set w i, m.arrays⟩ p.body).2 = leakT p m w i := rfl
    have hTk : (runL 5 ⟨m.vals.set w k, m.arrays⟩ p.body).2 = leakT p m w k := rfl
    simp only [hTi, hTk] at hri hrk
    have hXv : X = (lcS (leakT p m w) 256).2.map (fun k : Nat => (k : Int)) := by rw [← hXe]; unfold lcP; rw [if_pos ⟨hq, hv0, hv1⟩, Int.toNat_natCast]
    obtain ⟨a, ha, _⟩ := (lcS_spec (leakT p m w) 256).2 i hi
    obtain ⟨b, hb', _⟩ := (lcS_spec (leakT p m w) 256).2 k hk
    have hab := lc_iff (leakT p m w) hi hk ha hb'
    have hxi : X[i]? = some (a : Int) := by rw [hXv, List.getElem?_map, ha]; rfl
    have hxk : X[k]? = some (b : Int) := by rw [hXv, List.getElem?_map, hb']; rfl
    have hts := traceSame (leakT p m w i) (leakT p m w k) (by have := hTl i hi; omega)
    have hil : i < X.length := by omega
    have hkl : k < X.length := by omega
    have h256 : ((X.length : Int) = 256) = True := eq_true (by omega)
    have h256b : ((X.length : Int) == 256) = true := by simp; omega
    clear hXe ha hb' hTi hTk
    generalize leakT p m w i = Ti at *
    generalize leakT p m w k = Tk at *
    generalize (runL 5 ⟨m.vals.set w i, m.arrays⟩ p.body).1 = mi at *
    generalize (runL 5 ⟨m.vals.set w k, m.arrays⟩ p.body).1 = mk at *
    have hseti : (m.vals.map I64).set w (.v (.int .i64 i)) = (m.vals.set w i).map I64 := by rw [List.map_set]
    have hsetk : (m.vals.map I64).set w (.v (.int .i64 k)) = (m.vals.set w k).map I64 := by rw [List.map_set]
    obtain ⟨vs, ar, bd⟩ := p
    obtain ⟨va, arr⟩ := m
    simp only at hmn hnv hwn hseti hsetk
    have hvm : va.length ≤ 13 := by omega
    iterate 12 ((try (refine drvZ Tryz.func6 ?_; simp (maxSteps := 9999999) only [go_sem, Mm.cells, List.length_map, hne, hneb, hie, hke, flat_I, hwn, hseti, hsetk])); (try ((with_reducible refine And.intro ?_ ?_) <;> (repeat' with_reducible apply And.intro) <;> try exact sd)); (try first | refine XK.p hli ok26 ?_ | refine XK.gp hli ok26 ?_ | refine XK.p hls ok28 ?_ | refine XK.gp hls ok28 ?_ | refine XK.p hct ok27 ?_ | refine XK.gp hct ok27 ?_))
    have hvil : (va.set w (i : Int)).length = va.length := by simp
    have hvkl : (va.set w (k : Int)).length = va.length := by simp
    clear hseti hsetk
    generalize va.set w (i : Int) = vi at *
    generalize va.set w (k : Int) = vk at *
    refine XK.subQ (r := fun j => if j = 0 then some 960 else some 4224) (fz := [3392, 3968])
      (tl := [(5, .c (.ptr 0 0)), (8, .c (.isl 1 (X.map fun n => [I64 n]))), (9, DI .i64 i), (10, DI .i64 k), (12, .c (.ptr 1 0)), (91, .agg (Pg.cells ⟨vs, ar, bd⟩)), (92, .agg (Mm.cells ⟨vi, arr⟩))])
      (hl := [(0, some (Pg.cells ⟨vs, ar, bd⟩)), (1, some (Mm.cells ⟨vk, arr⟩))]) ?_ ?_
    · simp [Mq, TmOK, DM, CM, CMs, HpOK, LowOK, hOf, upd, Pg.cells, Mm.cells, isI, DI, flat_I, kf, hvil, hvkl]
    by_cases hT : Ti = Tk
    · have hE : (a : Int) = b := by have := hab.2 hT; omega
      rw [hE] at hxi
      rw [(trSame_iff _ _).2 hT] at hts
      iterate 8 ((try (refine drvZ Tryz.func6 ?_; simp (maxSteps := 9999999) only [go_sem, Mm.cells, List.length_map, trD, hil, hkl, hxi, hxk, h256, h256b])); (try ((with_reducible refine And.intro ?_ ?_) <;> (repeat' with_reducible apply And.intro) <;> try exact sd)); (try first | refine XK.p hri ok12 ?_ | refine XK.gp hri ok12 ?_ | refine XK.p hrk ok12 ?_ | refine XK.gp hrk ok12 ?_ | refine XK.p hts ok29 ?_ | refine XK.gp hts ok29 ?_))
      exact ret _
    · have hE : ((a : Int) = (b : Int)) = False := eq_false fun h => hT (hab.1 (by omega))
      have hE2 : ((a : Int) == (b : Int)) = false := by simp; intro h; exact hT (hab.1 (by omega))
      rw [show trSame Ti Tk = false by cases h : trSame Ti Tk; rfl; exact absurd ((trSame_iff _ _).1 h) hT] at hts
      iterate 8 ((try (refine drvZ Tryz.func6 ?_; simp (maxSteps := 9999999) only [go_sem, Mm.cells, List.length_map, trD, hil, hkl, hxi, hxk, h256, h256b, hE, hE2])); (try ((with_reducible refine And.intro ?_ ?_) <;> (repeat' with_reducible apply And.intro) <;> try exact sd)); (try first | refine XK.p hri ok12 ?_ | refine XK.gp hri ok12 ?_ | refine XK.p hrk ok12 ?_ | refine XK.gp hrk ok12 ?_ | refine XK.p hts ok29 ?_ | refine XK.gp hts ok29 ?_))
      exact ret _
end Go.Proofs.YtmagbjbanpgmhaaGreat.CtD
