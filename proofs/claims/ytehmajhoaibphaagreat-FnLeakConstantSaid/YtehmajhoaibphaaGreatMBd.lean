/- Contracts of functions of the program, one behind the other, as plain data: what each call returns and which blocks it leaves. -/
import Derived.Test.YtehmajhoaibphaaGreatMFacts
import Derived.Test.YtehmajhoaibphaaGreatMAj
import Derived.Test.YtehmajhoaibphaaGreatMAk
import Derived.Test.YtehmajhoaibphaaGreatMAr
import Derived.Test.YtehmajhoaibphaaGreatMAs
import Derived.Test.YtehmajhoaibphaaGreatMAt
import Derived.Test.YtehmajhoaibphaaGreatMAu
import Derived.Test.YtehmajhoaibphaaGreatMAz
import Derived.Test.YtehmajhoaibphaaGreatMAl
import Derived.Test.YtehmajhoaibphaaGreatMAm
import Derived.Test.YtehmajhoaibphaaGreatMAo
import Derived.Test.YtehmajhoaibphaaGreatMAv
import Derived.Test.YtehmajhoaibphaaGreatMAy
import Derived.Test.YtehmajhoaibphaaGreatMBc
import Derived.Test.YtehmajhoaibphaaGreatMAn
import Derived.Test.YtehmajhoaibphaaGreatMAp
import Derived.Test.YtehmajhoaibphaaGreatMAq
import Derived.Test.YtehmajhoaibphaaGreatMAw
set_option linter.unusedVariables false
set_option linter.unusedSimpArgs false
set_option maxHeartbeats 16000000
set_option maxRecDepth 100000
namespace Go.Proofs.YtehmajhoaibphaaGreat.CtD
open Go Go.CT CtF CtR

theorem cellsL_t2 (l : List St1) (k : Nat) : (St1.cellsL l).take k = St1.cellsL (l.take k) := by simp only [St1.cellsL_eq, List.map_take]
theorem DrP.two {vs ar : List Int} {bd : List St1} (h : DrP ⟨vs, ar, bd⟩) : DrP ⟨vs, ar, bd.take 2⟩ := by
  have hll := lsize_app 5 (bd.take 2) (bd.drop 2)
  rw [List.take_append_drop] at hll
  exact ⟨progOK_sub h.ok (fun s hs => List.mem_of_mem_take hs) (by omega), h.nv, h.na, by have := h.nb; simp only [List.length_take] at this ⊢; omega, fun s hs => h.sm s (List.mem_of_mem_take hs)⟩
theorem l15Program (bs : List Int) (n : Nat) (hb : Fits .u8 bs) (hl : bs.length ≤ 2000) (hn : n ≤ 274000000000) : DC Tryz.prog 54 [.c (.ptr 0 0)] [some (rdr bs n)] (tyR bs n) := by
  have hmx := mx_eq
  have hpr := typed bs n hb hl hn
  generalize hR : tyR bs n = R
  rw [hR] at hpr
  have fin : ∀ (p : Pg) (n' : Nat) (hp : Hp), DrP p → n ≤ n' → n' ≤ n + 1000001 → hp 0 = some (some (rdr bs n')) → RetOb 1 R (.agg p.cells) hp := fun p n' hp h1 h2 h3 h4 => by
    refine RetOb.keep1 (d := .agg p.cells) (cs := rdr bs n') (by rw [← hR]; exact ⟨p, rfl, h1, n', h2, h3, rfl⟩) h4 (rdr_kf _ _) ?_
    intro c hc
    simp only [Pg.cells, isI, List.mem_cons, List.not_mem_nil, or_false] at hc
    rcases hc with rfl | rfl | rfl <;> rfl
  subst hR
  refine dcZ Tryz.func54 ?_
  simp (maxSteps := 9999999) only [go_sem, rdr]
  ((try (refine drvZ Tryz.func54 ?_; simp (maxSteps := 9999999) only [go_sem, rdr])); (try ((with_reducible refine And.intro ?_ ?_) <;> (repeat' with_reducible apply And.intro) <;> try exact sd)))
  refine XK.callG [0] hpr ok73 (hhp_one (by simp [upd, hpL, renCs_rdr, rdr, renCs, renC])) (hbT ()) (fun d h' ⟨_, _, _, _, _, _, e⟩ => by subst e; simp) ?_
  rintro _ _ ⟨p, rfl, hp, n1, hn1, hn2, rfl⟩ _
  obtain ⟨vs, ar, bd⟩ := p
  by_cases h2 : 2 < bd.length
  · have h2' : ((2 : Int) < (bd.length : Int)) = True := eq_true (by omega)
    have hle : (2 : Nat) ≤ bd.length := by omega
    iterate 4 ((try (refine drvZ Tryz.func54 ?_; simp (maxSteps := 9999999) only [go_sem, renCs_rdr, h2', cellsL_t2, hle])); (try ((with_reducible refine And.intro ?_ ?_) <;> (repeat' with_reducible apply And.intro) <;> try exact sd)))
    exact fin ⟨vs, ar, bd.take 2⟩ n1 _ hp.two hn1 (by omega) rfl
  · have h2' : ((2 : Int) < (bd.length : Int)) = False := eq_false (by omega)
    iterate 4 ((try (refine drvZ Tryz.func54 ?_; simp (maxSteps := 9999999) only [go_sem, renCs_rdr, h2'])); (try ((with_reducible refine And.intro ?_ ?_) <;> (repeat' with_reducible apply And.intro) <;> try exact sd)))
    exact fin ⟨vs, ar, bd⟩ n1 _ hp hn1 (by omega) rfl
/-- A drawn program, memory and number. -/
def lkR (r : D) (h : List (Option (List C))) : Prop := ∃ (p : Pg) (m : Mm) (v : Int), r = .tup [.agg p.cells, .agg m.cells, DI .i64 v] ∧ SmP p ∧ SmM m ∧ (-1 ≤ v ∧ v ≤ 12) ∧ h = []
theorem drawLeakClasses (bs : List Int) (hb : Fits .u8 bs) (hl : bs.length ≤ mx) : DC Tryz.prog 21 [bytesD bs] [] lkR := by
  have hmx := mx_eq
  have hop := l17Open bs hl
  have hb' := fits_take hb 2000
  have hl' : (bs.take 2000).length ≤ 2000 := by rw [List.length_take]; omega
  generalize hR : lkR = R
  generalize hbs : bs.take 2000 = b2 at *
  unfold bytesD
  unfold bytesD at hop
  refine dcZ Tryz.func21 ?_
  simp (maxSteps := 9999999) only [go_sem]
  ((try (refine drvZ Tryz.func21 ?_; simp (maxSteps := 9999999) only [go_sem])); (try ((with_reducible refine And.intro ?_ ?_) <;> (repeat' with_reducible apply And.intro) <;> try exact sd)))
  refine XK.callG [] hop ok53 (fun i' x h => by simp at h) (hbT ()) (fun d h' ⟨_, e⟩ => by subst e; simp) ?_
  rintro _ _ ⟨rfl, rfl⟩ _
  iterate 2 ((try (refine drvZ Tryz.func21 ?_; simp (maxSteps := 9999999) only [go_sem, renCs_rdr])); (try ((with_reducible refine And.intro ?_ ?_) <;> (repeat' with_reducible apply And.intro) <;> try exact sd)))
  have hpr := l15Program b2 0 hb' hl' (by omega)
  refine XK.callG [256] hpr ok54 (hhp_one (by simp [upd, renCs_rdr])) (hbT ()) (fun d h' ⟨_, _, _, _, _, _, e⟩ => by subst e; simp) ?_
  rintro _ _ ⟨p, rfl, hp, n1, hn1, hn2, rfl⟩ _
  have hln := prog_len hp.ok
  have hme := l3Memory b2 n1 p hb' hl' (by omega) ⟨hln.1, hln.2.1⟩ hln.2.2
  have hmu := fun n h => l2Mutate b2 n p hb' hl' h hp
  obtain ⟨vs, ar, bd⟩ := p
  iterate 2 ((try (refine drvZ Tryz.func21 ?_; simp (maxSteps := 9999999) only [go_sem, renCs_rdr])); (try ((with_reducible refine And.intro ?_ ?_) <;> (repeat' with_reducible apply And.intro) <;> try exact sd)))
  refine XK.callG [256] hme ok56 (hhp_one (by simp [upd, renCs_rdr])) (hbT ()) (fun d h' ⟨_, _, _, _, _, _, e⟩ => by subst e; simp) ?_
  rintro _ _ ⟨m, rfl, hm, n2, hn3, hn4, rfl⟩ _
  have hbe := l3Bend b2 n2 m hb' hl' (by omega) (by have := hm.nv; have := hm.nv12; omega) (by have := hm.na; have := hm.na2; omega) (fun a h => (hm.arr a h).1)
  obtain ⟨va, arr⟩ := m
  iterate 2 ((try (refine drvZ Tryz.func21 ?_; simp (maxSteps := 9999999) only [go_sem, Mm.cells, renCs_rdr])); (try ((with_reducible refine And.intro ?_ ?_) <;> (repeat' with_reducible apply And.intro) <;> try exact sd)))
  refine XK.callG [256] hbe ok55 (hhp_one (by simp [upd, renCs_rdr])) (hbT ()) (fun d h' ⟨_, _, _, _, _, _, e⟩ => by subst e; simp) ?_
  rintro _ _ ⟨⟨va2, arr2⟩, rfl, hm2, n3, hn5, hn6, rfl⟩ _
  have hmu := hmu n3 (by omega)
  iterate 2 ((try (refine drvZ Tryz.func21 ?_; simp (maxSteps := 9999999) only [go_sem, Mm.cells, renCs_rdr])); (try ((with_reducible refine And.intro ?_ ?_) <;> (repeat' with_reducible apply And.intro) <;> try exact sd)))
  refine XK.callG [256] hmu ok57 (hhp_one (by simp [upd, renCs_rdr])) (hbT ()) (fun d h' ⟨_, _, _, _, _, _, e⟩ => by subst e; simp) ?_ (fun _ => ⟨by kernel_rfl, _, _, ⟨⟨vs, ar, bd⟩, rfl, hp.smP, n3, by omega, by omega, rfl⟩, by simp⟩)
  rintro _ _ ⟨⟨vs4, ar4, bd4⟩, rfl, hp4, n4, hn7, hn8, rfl⟩ _
  iterate 2 ((try (refine drvZ Tryz.func21 ?_; simp (maxSteps := 9999999) only [go_sem, Mm.cells, renCs_rdr])); (try ((with_reducible refine And.intro ?_ ?_) <;> (repeat' with_reducible apply And.intro) <;> try exact sd)))
  refine XK.callG [256, 1408] (numO b2 n4 [0, 1, 0, 1, 2, -1, 12] hb' hl' (by omega) (by decide) (by decide)) ok58 (hhp2 (by simp [upd, renCs_rdr]) (by simp [upd, renCs, renC])) (hbT ()) (fun d h' ⟨_, _, _, e⟩ => by subst e; simp) ?_ (fun _ => ⟨by kernel_rfl, _, _, ⟨1, rfl, by simp, rfl⟩, by simp⟩)
  rintro _ _ ⟨v, rfl, hv, rfl⟩ _
  have hv2 : -1 ≤ v ∧ v ≤ 12 := by
    simp only [List.mem_cons, List.not_mem_nil, or_false] at hv
    omega
  clear hv
  iterate 3 ((try (refine drvZ Tryz.func21 ?_; simp (maxSteps := 9999999) only [go_sem, Mm.cells, renCs_rdr])); (try ((with_reducible refine And.intro ?_ ?_) <;> (repeat' with_reducible apply And.intro) <;> try exact sd)))
  refine RetOb.ofQ (fun _ => none) [] (.tup [.agg (Pg.cells ⟨vs4, ar4, bd4⟩), .agg (Mm.cells ⟨va2, arr2⟩), DI .i64 v]) [] ?_ (by rw [← hR]; exact ⟨⟨vs4, ar4, bd4⟩, ⟨va2, arr2⟩, v, rfl, hp4, hm2, hv2, rfl⟩) (by simp)
  simp [enumL, DM, DMs, CM, CMs, HpOK, LowOK, Pg.cells, Mm.cells, isI]
end Go.Proofs.YtehmajhoaibphaaGreat.CtD

namespace Go.Proofs.YtehmajhoaibphaaGreat.CtR
open Go Go.CT CtF

/-- The number of the first trace that is the same, or the number of traces. -/
def idxT (t : List Ev) : List (List Ev) → Nat
  | [] => 0
  | a :: r => if trSame a t then 0 else idxT t r + 1
theorem idxT_le (t : List Ev) : ∀ l : List (List Ev), idxT t l ≤ l.length
  | [] => Nat.le_refl _
  | a :: r => by
    have := idxT_le t r
    simp only [idxT, List.length_cons]; split <;> omega
theorem idxT_at (t : List Ev) : ∀ l : List (List Ev), idxT t l < l.length → l[idxT t l]? = some t
  | [], h => by simp [idxT] at h
  | a :: r, h => by
    simp only [idxT] at h ⊢
    cases hs : trSame a t with
    | true => simp [(trSame_iff a t).1 hs]
    | false =>
      rw [hs] at h
      simp only [Bool.false_eq_true, if_false, List.length_cons] at h ⊢
      rw [List.getElem?_cons_succ]
      exact idxT_at t r (by omega)
theorem idxT_before (t : List Ev) : ∀ (l : List (List Ev)) (i : Nat) (a : List Ev), i < idxT t l → l[i]? = some a → trSame a t = false
  | [], i, a, h, _ => by simp [idxT] at h
  | x :: r, i, a, h, hi => by
    simp only [idxT] at h
    cases hs : trSame x t with
    | true => rw [hs] at h; simp at h
    | false =>
      rw [hs] at h
      simp only [Bool.false_eq_true, if_false] at h
      cases i with
      | zero => simp at hi; rw [← hi]; exact hs
      | succ i => exact idxT_before t r i a (by omega) (by simpa using hi)
/-- The traces seen, and the classes. -/
def lcS (T : Nat → List Ev) : Nat → List (List Ev) × List Nat
  | 0 => ([], [])
  | n + 1 => (if idxT (T n) (lcS T n).1 = (lcS T n).1.length then (lcS T n).1 ++ [T n] else (lcS T n).1, (lcS T n).2 ++ [idxT (T n) (lcS T n).1])
theorem lcS_len (T : Nat → List Ev) : ∀ n, (lcS T n).1.length ≤ n ∧ (lcS T n).2.length = n
  | 0 => ⟨Nat.le_refl _, rfl⟩
  | n + 1 => by
    obtain ⟨h1, h2⟩ := lcS_len T n
    simp only [lcS]
    refine ⟨?_, by simp [h2]⟩
    split
    · simp; omega
    · omega
/-- One trace: one class. -/
theorem lc_one (T : Nat → List Ev) (t : List Ev) (h : ∀ i, T i = t) : ∀ n, (lcS T (n + 1)).1 = [t] ∧ (lcS T (n + 1)).2 = List.replicate (n + 1) 0
  | 0 => by simp [lcS, idxT, h]
  | n + 1 => by
    obtain ⟨h1, h2⟩ := lc_one T t h n
    have e : lcS T (n + 1 + 1) = (if idxT (T (n + 1)) (lcS T (n + 1)).1 = (lcS T (n + 1)).1.length then (lcS T (n + 1)).1 ++ [T (n + 1)] else (lcS T (n + 1)).1, (lcS T (n + 1)).2 ++ [idxT (T (n + 1)) (lcS T (n + 1)).1]) := rfl
    have hs : trSame t t = true := (trSame_iff t t).2 rfl
    rw [e, h1, h2, h (n + 1)]
    simp only [idxT, hs, if_true, List.length_cons, List.length_nil]
    refine ⟨by simp, ?_⟩
    rw [List.replicate_succ' (n := n + 1)]
/-- What a program leaks where a variable has a value. -/
def leakT (p : Pg) (m : Mm) (v : Nat) (n : Nat) : List Ev := (runL 5 ⟨m.vals.set v n, m.arrays⟩ p.body).2
def lcP (p : Pg) (m : Mm) (v : Int) : List Int :=
  if (progOK p && memOK p.vars p.arrays m) = true ∧ 0 ≤ v ∧ v < p.vars.length then (lcS (leakT p m v.toNat) 256).2.map (fun k : Nat => (k : Int)) else []
end Go.Proofs.YtehmajhoaibphaaGreat.CtR

namespace Go.Proofs.YtehmajhoaibphaaGreat.CtD
open Go Go.CT CtF CtR

theorem lcS_small (T : Nat → List Ev) {b N : Nat} (h : ∀ i, i < N → (T i).length ≤ b) : ∀ n, n ≤ N → ∀ t ∈ (lcS T n).1, t.length ≤ b
  | 0, _, t, ht => by simp [lcS] at ht
  | n + 1, hn, t, ht => by
    have ih := lcS_small T h n (by omega)
    simp only [lcS] at ht
    split at ht
    · rcases List.mem_append.1 ht with h1 | h1
      · exact ih t h1
      · simp at h1; rw [h1]; exact h n (by omega)
    · exact ih t ht
def trsC (l : List (List Ev)) : List C := l.map trD
theorem trsC_len (l : List (List Ev)) : (trsC l).length = l.length := by simp [trsC]
theorem trsC_kf (l : List (List Ev)) : ∀ c ∈ trsC l, kf c = true := fun c hc => by
  obtain ⟨t, _, rfl⟩ := List.mem_map.1 hc; rfl
def ko (l : List Nat) : List Int := l.map (fun k : Nat => (k : Int))
theorem ko_len (l : List Nat) : (ko l).length = l.length := by simp [ko]
theorem ko_snoc (l : List Nat) (k : Nat) : (ko (l ++ [k])).map I64 = (ko l).map I64 ++ [I64 (k : Int)] := by simp [ko]
theorem trsC_snoc (l : List (List Ev)) (t : List Ev) : trsC (l ++ [t]) = trsC l ++ [trD t] := by simp [trsC]
theorem leakClassesS (p : Pg) (m : Mm) (v : Int) (hl : p.vars.length ≤ mx) (hl2 : p.arrays.length ≤ mx) (hb : lsize 5 p.body ≤ 1099511627776) : DC Tryz.prog 23 [.agg p.cells, .agg m.cells, DI .i64 v] []
    (fun r h => r = ints (lcP p m v) ∧ h = []) := by
  have hmx := mx_eq
  have hv := memoryValidS p m hl hl2 hb
  have hmf := @memFits_of p m
  have hbo := @body_of p
  have ret0 : ∀ hp : Hp, ∀ K, hp K = some (some []) → lcP p m v = [] → RetOb 0 (fun r h => r = ints (lcP p m v) ∧ h = []) (.c (.msl K 1 0 0)) hp := fun hp K hK he => by
    rw [he]
    exact RetOb.frozen (xs := []) ⟨rfl, rfl⟩ hK rfl (by simp) (by simp)
  cases hq : (progOK p && memOK p.vars p.arrays m) with
  | false =>
    rw [hq] at hv
    have he : lcP p m v = [] := by unfold lcP; rw [if_neg (by rw [hq]; simp)]
    generalize hR : (fun (r : D) (h : List (Option (List C))) => r = ints (lcP p m v) ∧ h = []) = R at ret0 ⊢
    obtain ⟨vs, ar, bd⟩ := p
    obtain ⟨va, arr⟩ := m
    refine dcZ Tryz.func23 ?_
    simp (maxSteps := 9999999) only [go_sem, Mm.cells]
    iterate 6 ((try (refine drvZ Tryz.func23 ?_; simp (maxSteps := 9999999) only [go_sem, Mm.cells])); (try ((with_reducible refine And.intro ?_ ?_) <;> (repeat' with_reducible apply And.intro) <;> try exact sd)); (try first | refine XK.p hv ok64 ?_ | refine XK.gp hv ok64 ?_))
    exact ret0 _ _ (by simp [upd]) he
  | true =>
    rw [hq] at hv
    by_cases hvr : 0 ≤ v ∧ v < p.vars.length
    · have he : lcP p m v = (lcS (leakT p m v.toNat) 256).2.map (fun k : Nat => (k : Int)) := by unfold lcP; rw [if_pos ⟨hq, hvr⟩]
      rw [he]
      have hm := hmf hq
      have hpo : progOK p = true := by simp only [Bool.and_eq_true] at hq; exact hq.1
      have hbd := hbo hpo
      have hcp := l3Copy m (by have := hm.nv; have := hm.nv12; omega) (by have := hm.na; have := hm.na2; omega) (fun a ha => (hm.arr a ha).1)
      unfold memB at hcp
      rw [hm.nv, hm.na] at hcp
      obtain ⟨w, rfl⟩ : ∃ w : Nat, v = (w : Int) := ⟨v.toNat, by omega⟩
      have hwn : w < p.vars.length := by omega
      have hg1 : ((w : Int) < 0) = False := eq_false (by omega)
      have hg2 : ((p.vars.length : Int) ≤ (w : Int)) = False := eq_false (by omega)
      have hmva := hm.nv
      generalize hR : (fun (r : D) (h : List (Option (List C))) => r = ints _ ∧ h = []) = R
      simp only [Int.toNat_natCast] at hR ⊢
      clear ret0 hmf hbo
      have hmf2 : ∀ n : Nat, n < 256 → MemFits p ⟨m.vals.set w n, m.arrays⟩ := fun n hn => fitsV hm w (by omega)
      have hrn := fun (n : Nat) (hn : n < 256) => DC.nilLast (pre := [.agg [.msl 0 1 0 p.vars.length, .msl 1 1 0 p.arrays.length], .c (.isl 11 (St1.cellsL p.body))]) (sz := 2) (h := [some ((m.vals.set w n).map I64), some (hdr 2 3 p.arrays.length), some (blk0 m.arrays), some (blk1 m.arrays)]) (runSpec p 5 ⟨m.vals.set w n, m.arrays⟩ p.body [] (hmf2 n hn) hbd.1 (by rw [wt5]; simp only [List.length_nil]; omega))
      have hlt : ∀ n : Nat, n < 256 → (leakT p m w n).length ≤ 1000000 := fun n hn => by
        have h2 := (runL_ok (hmf2 n hn) hbd.1).2
        rw [wt5] at h2
        have := hbd.2
        unfold leakT
        omega
      have hT : ∀ n : Nat, (runL 5 ⟨m.vals.set w n, m.arrays⟩ p.body).2 = leakT p m w n := fun n => rfl
      generalize leakT p m w = T at *
      obtain ⟨vs, ar, bd⟩ := p
      obtain ⟨va, arr⟩ := m
      refine dcZ Tryz.func23 ?_
      simp (maxSteps := 9999999) only [go_sem, Mm.cells]
      iterate 8 ((try (refine drvZ Tryz.func23 ?_; simp (maxSteps := 9999999) only [go_sem, Mm.cells, hg1, hg2])); (try ((with_reducible refine And.intro ?_ ?_) <;> (repeat' with_reducible apply And.intro) <;> try exact sd)); (try first | refine XK.p hv ok64 ?_ | refine XK.gp hv ok64 ?_))
      refine Go.loopQ (fun n : Nat => [(2, DI .i64 w), (3, .c (.ptr 0 0)), (4, .c (.ptr 64 0)), (7, .c (.msl 192 1 0 n)), (8, .c (.msl 1280 1 0 (lcS T n).1.length)), (9, DI .i64 n)])
        (fun n => [(0, some (Pg.cells ⟨vs, ar, bd⟩)), (64, some (Mm.cells ⟨va, arr⟩)), (192, some ((ko (lcS T n).2).map I64)), (1280, some (trsC (lcS T n).1))])
        4096 (fun n => n ≤ 256) (fun n => 256 - n) ?_ 0 some [] _ (Nat.zero_le _) ?_
      · intro n hn again
        obtain ⟨hl1, hl2⟩ := lcS_len T n
        rcases Nat.lt_or_ge n 256 with hlt2 | hge
        · have hz : ((n : Int) ≤ 255) = True := eq_true (by omega)
          have hsucc : lcS T (n + 1) = (if idxT (T n) (lcS T n).1 = (lcS T n).1.length then (lcS T n).1 ++ [T n] else (lcS T n).1, (lcS T n).2 ++ [idxT (T n) (lcS T n).1]) := rfl
          have hrn := hrn n hlt2
          have hTn := hT n
          have hTl := hlt n hlt2
          have hset : (va.map I64).set w (.v (.int .i64 n)) = (va.set w n).map I64 := by rw [List.map_set]
          have hwv : w < va.length := by simp only at hmva hwn; omega
          have htrs := lcS_small T hlt n hn
          generalize (lcS T n).1 = trs at *
          generalize (lcS T n).2 = out at *
          have hkl := ko_len out
          have htrl : ∀ t ∈ trs, t.length ≤ mx := fun t ht => by
            have := htrs t ht
            omega
          have htl := trsC_len trs
          refine drvL Tryz.func23 ?_
          simp (maxSteps := 9999999) only [go_sem, Mm.cells, hz]
          iterate 2 ((try (refine drvZ Tryz.func23 ?_; simp (maxSteps := 9999999) only [go_sem, Mm.cells, hz])); (try ((with_reducible refine And.intro ?_ ?_) <;> (repeat' with_reducible apply And.intro) <;> try exact sd)))
          refine XK.callG [] hcp ok65 (fun i' x h => by simp at h) (hbT ()) (fun d h' ⟨_, e⟩ => by subst e; simp) ?_
          rintro _ _ ⟨rfl, rfl⟩ _
          iterate 4 ((try (refine drvZ Tryz.func23 ?_; simp (maxSteps := 9999999) only [go_sem, Mm.cells, renCs_I, renCs_hdr, renCs_b0, renCs_b1, renCs_tr, hwv, hset])); (try ((with_reducible refine And.intro ?_ ?_) <;> (repeat' with_reducible apply And.intro) <;> try exact sd)))
          refine XK.callG [4288, 4289, 4290, 4291] hrn ok66 (hhp4 (by simp only [Option.map_some, renCs_I]; rfl) (by simp [hpL, upd, renCs_hdr, rk0]) (by simp [hpL, upd, renCs_b0]) (by simp [hpL, upd, renCs_b1])) (hbT ()) (fun d h' ⟨_, e⟩ => by subst e; simp) ?_
          rintro _ _ ⟨rfl, rfl⟩ _
          rw [List.nil_append, hTn]
          iterate 2 ((try (refine drvZ Tryz.func23 ?_; simp (maxSteps := 9999999) only [go_sem, Mm.cells, renCs_I, renCs_hdr, renCs_b0, renCs_b1, renCs_tr])); (try ((with_reducible refine And.intro ?_ ?_) <;> (repeat' with_reducible apply And.intro) <;> try exact sd)))
          have hile := idxT_le (T n) trs
          have hiat := idxT_at (T n) trs
          have hibf := idxT_before (T n) trs
          clear hcp hrn
          refine Go.loopQ (fun k : Nat => [(2, DI .i64 w), (3, .c (.ptr 0 0)), (4, .c (.ptr 64 0)), (7, .c (.msl 192 1 0 n)), (8, .c (.msl 1280 1 0 trs.length)), (9, DI .i64 n), (11, .c (trD (T n))), (12, DI .i64 k)])
            (fun k => [(0, some (Pg.cells ⟨vs, ar, bd⟩)), (64, some (Mm.cells ⟨va, arr⟩)), (192, some ((ko out).map I64)), (1280, some (trsC trs))])
            8192 (fun k => k ≤ idxT (T n) trs) (fun k => idxT (T n) trs - k) ?_ 0 some [5057] _ (Nat.zero_le _) ?_
          · intro k hk again2
            rcases Nat.lt_or_ge k (idxT (T n) trs) with hkl | hkg
            · obtain ⟨t, ht⟩ : ∃ t, trs[k]? = some t := ⟨trs[k]'(by omega), by simp⟩
              have htk : (trsC trs)[k]? = some (trD t) := by unfold trsC; rw [List.getElem?_map, ht]; rfl
              have hts := fun h => traceSameS t (T n) h
              rw [hibf k t hkl ht] at hts
              have htm : t ∈ trs := List.mem_of_getElem? ht
              have hts := hts (htrl t htm)
              have hkt : k < trs.length := by omega
              refine drvL Tryz.func23 ?_
              simp (maxSteps := 9999999) only [go_sem, Mm.cells, hkt, htl, htk, trD]
              iterate 3 ((try (refine drvZ Tryz.func23 ?_; simp (maxSteps := 9999999) only [go_sem, Mm.cells, hkt, htl, htk, trD])); (try ((with_reducible refine And.intro ?_ ?_) <;> (repeat' with_reducible apply And.intro) <;> try exact sd)); (try first | refine XK.p hts ok67 ?_ | refine XK.gp hts ok67 ?_))
              refine again2 (k + 1) some [] _ hkl (by omega) ?_
              simp (maxSteps := 9999999) only [go_sem, TmOK, DM, DMs, CM, CMs, forall_eq, exists_eq_left, Mq, HpOK, LowOK, Mm.cells, trD]
              simp
              exact ⟨CMs.kf (kf_I _), CMs.kf (trsC_kf _)⟩
            · have hke : k = idxT (T n) trs := by omega
              by_cases hen : idxT (T n) trs = trs.length
              · rw [if_pos hen] at hsucc
                have hkn : ¬ k < trs.length := by omega
                have hkq : ((k : Int) = (trs.length : Int)) = True := eq_true (by omega)
                have hkb : ((k : Int) == (trs.length : Int)) = true := by simp; omega
                have hxn : (trsC trs)[k]? = none := List.getElem?_eq_none (by rw [htl]; omega)
                have hs1 : (lcS T (n + 1)).1 = trs ++ [T n] := by rw [hsucc]
                have hs2 : (lcS T (n + 1)).2 = out ++ [k] := by rw [hsucc, ← hke]
                refine drvL Tryz.func23 ?_
                simp (maxSteps := 9999999) only [go_sem, Mm.cells, hkn, htl, hxn, trD]
                iterate 6 ((try (refine drvZ Tryz.func23 ?_; simp (maxSteps := 9999999) only [go_sem, Mm.cells, hkn, htl, hxn, trD, hkq, hkb, hkl, hl2])); (try ((with_reducible refine And.intro ?_ ?_) <;> (repeat' with_reducible apply And.intro) <;> try exact sd)); (try first | refine XK.gs (DB false) ?_))
                refine again (n + 1) (fun j => if j = 192 then some 9792 else if j = 1280 then some 9472 else some j) [] _ (by omega) (by omega) ?_
                simp (maxSteps := 9999999) only [go_sem, TmOK, DM, DMs, CM, CMs, forall_eq, exists_eq_left, Mq, HpOK, LowOK, Mm.cells, hs1, hs2, ko_snoc, trsC_snoc, trD, List.length_append]
                simp
                exact ⟨CMs.kf (kf_app (kf_I _) (by simp [kf])), CMs.kf (kf_app (trsC_kf _) (by simp [kf]))⟩
              · rw [if_neg hen] at hsucc
                have hklt : k < trs.length := by omega
                have hkq : ((k : Int) = (trs.length : Int)) = False := eq_false (by omega)
                have hkb : ((k : Int) == (trs.length : Int)) = false := by simp; omega
                have ht := hiat (by omega)
                rw [← hke] at ht
                have htk : (trsC trs)[k]? = some (trD (T n)) := by unfold trsC; rw [List.getElem?_map, ht]; rfl
                have hts := traceSameS (T n) (T n) (by omega)
                rw [(trSame_iff _ _).2 rfl] at hts
                have hs1 : (lcS T (n + 1)).1 = trs := by rw [hsucc]
                have hs2 : (lcS T (n + 1)).2 = out ++ [k] := by rw [hsucc, ← hke]
                refine drvL Tryz.func23 ?_
                simp (maxSteps := 9999999) only [go_sem, Mm.cells, hklt, htl, htk, trD]
                iterate 6 ((try (refine drvZ Tryz.func23 ?_; simp (maxSteps := 9999999) only [go_sem, Mm.cells, hklt, htl, htk, trD, hkq, hkb, hkl, hl2])); (try ((with_reducible refine And.intro ?_ ?_) <;> (repeat' with_reducible apply And.intro) <;> try exact sd)); (try first | refine XK.p hts ok67 ?_ | refine XK.gp hts ok67 ?_))
                refine again (n + 1) (fun j => if j = 192 then some 9472 else some j) [] _ (by omega) (by omega) ?_
                simp (maxSteps := 9999999) only [go_sem, TmOK, DM, DMs, CM, CMs, forall_eq, exists_eq_left, Mq, HpOK, LowOK, Mm.cells, hs1, hs2, ko_snoc, trsC_snoc, trD, List.length_append]
                simp
                exact ⟨CMs.kf (kf_app (kf_I _) (by simp [kf])), CMs.kf (trsC_kf _)⟩
          · simp (maxSteps := 9999999) only [go_sem, TmOK, DM, DMs, CM, CMs, forall_eq, exists_eq_left, Mq, HpOK, LowOK, Mm.cells, trD]
            simp
            refine ⟨⟨?_, fun e _ => rfl, fun e _ c hc => ?_⟩, CMs.kf (kf_I _), CMs.kf (trsC_kf _)⟩
            · simp [trC, List.flatMap]
            · simp [Ev.cells] at hc
              rcases hc with rfl | rfl <;> rfl
        · have hz : ((n : Int) ≤ 255) = False := eq_false (by omega)
          obtain rfl : n = 256 := by omega
          refine drvL Tryz.func23 ?_
          simp (maxSteps := 9999999) only [go_sem, Mm.cells, hz]
          iterate 2 ((try (refine drvZ Tryz.func23 ?_; simp (maxSteps := 9999999) only [go_sem, Mm.cells, hz])); (try ((with_reducible refine And.intro ?_ ?_) <;> (repeat' with_reducible apply And.intro) <;> try exact sd)))
          refine RetOb.frozen (R := R) (sz := 1) (xs := (ko (lcS T 256).2).map fun n => [I64 n]) (by rw [← hR]; exact ⟨rfl, rfl⟩) ?_ (by rw [List.length_map, ko_len, hl2]) ?_ ?_
          · rw [flat_I]; simp [upd]
          · intro x hx
            obtain ⟨b, _, rfl⟩ := List.mem_map.1 hx
            rfl
          · intro x hx c hc
            obtain ⟨b, _, rfl⟩ := List.mem_map.1 hx
            simp only [List.mem_singleton] at hc
            subst hc; rfl
      · simp (maxSteps := 9999999) only [go_sem, TmOK, DM, DMs, CM, CMs, forall_eq, exists_eq_left, Mq, HpOK, LowOK, Mm.cells, lcS, ko, trsC]
        simp
    · have he : lcP p m v = [] := by unfold lcP; rw [if_neg (fun h => hvr h.2)]
      generalize hR : (fun (r : D) (h : List (Option (List C))) => r = ints (lcP p m v) ∧ h = []) = R at ret0 ⊢
      obtain ⟨vs, ar, bd⟩ := p
      obtain ⟨va, arr⟩ := m
      simp only at hvr
      by_cases h0 : v < 0
      · have hg : (v < 0) = True := eq_true h0
        have hg2 : ((vs.length : Int) ≤ v) = False := eq_false (by omega)
        refine dcZ Tryz.func23 ?_
        simp (maxSteps := 9999999) only [go_sem, Mm.cells]
        iterate 6 ((try (refine drvZ Tryz.func23 ?_; simp (maxSteps := 9999999) only [go_sem, Mm.cells, hg, hg2])); (try ((with_reducible refine And.intro ?_ ?_) <;> (repeat' with_reducible apply And.intro) <;> try exact sd)); (try first | refine XK.p hv ok64 ?_ | refine XK.gp hv ok64 ?_))
        exact ret0 _ _ (by simp [upd]) he
      · have hg : (v < 0) = False := eq_false h0
        have hg2 : ((vs.length : Int) ≤ v) = True := eq_true (by omega)
        refine dcZ Tryz.func23 ?_
        simp (maxSteps := 9999999) only [go_sem, Mm.cells]
        iterate 6 ((try (refine drvZ Tryz.func23 ?_; simp (maxSteps := 9999999) only [go_sem, Mm.cells, hg, hg2])); (try ((with_reducible refine And.intro ?_ ?_) <;> (repeat' with_reducible apply And.intro) <;> try exact sd)); (try first | refine XK.p hv ok64 ?_ | refine XK.gp hv ok64 ?_))
        exact ret0 _ _ (by simp [upd]) he
end Go.Proofs.YtehmajhoaibphaaGreat.CtD

namespace Go.Proofs.YtehmajhoaibphaaGreat.CtR
open Go Go.CT CtF

def trsI (l : List (List Ev)) : List C := l.map trD
theorem trsI_len (l : List (List Ev)) : (trsI l).length = l.length := by simp [trsI]
theorem trsI_kf (l : List (List Ev)) : ∀ c ∈ trsI l, kf c = true := fun c hc => by
  obtain ⟨t, _, rfl⟩ := List.mem_map.1 hc; rfl
/-- The trace that the closure compares with: a pointer to a pointer to a run that goes on no more. -/
def runE (t : List Ev) : C := .eptr [.eptr [.unk, .unk, trD t]]
/-- The index that IndexFunc answers. -/
def idxI (t : List Ev) (l : List (List Ev)) : Int := if idxT t l = l.length then -1 else (idxT t l : Int)
theorem leakFn (u t : List Ev) (hl : u.length ≤ mx) : DC Tryz.prog 63 [.c (trD u), .c (runE t)] [] (fun r h => r = DB (trSame u t) ∧ h = []) := by
  have hts := traceSame u t hl
  generalize trSame u t = b at *
  refine dcZ Tryz.func63 ?_
  simp (maxSteps := 9999999) only [go_sem, trD, runE]
  iterate 3 ((try (refine drvZ Tryz.func63 ?_; simp (maxSteps := 9999999) only [go_sem, trD, runE])); (try ((with_reducible refine And.intro ?_ ?_) <;> (repeat' with_reducible apply And.intro) <;> try exact sd)); (try first | refine XK.p hts ok32 ?_ | refine XK.gp hts ok32 ?_))
  exact RetOb.plain (d := DB b) ⟨rfl, rfl⟩ rfl
theorem indexFuncT (t : List Ev) (xs : List (List Ev)) (hl : xs.length ≤ 256) (hx : ∀ u ∈ xs, u.length ≤ mx) :
    DC Tryz.prog 62 [.c (.msl 0 1 0 xs.length), .c (.clo 63 [runE t])] [some (trsI xs)] (fun d h => d = DI .i64 (idxI t xs) ∧ h = [some (trsI xs)]) := by
  have hmx := mx_eq
  have ret : ∀ (n : Int) (hp : Hp), n = idxI t xs → hp 0 = some (some (trsI xs)) → RetOb 1 (fun d h => d = DI .i64 (idxI t xs) ∧ h = [some (trsI xs)]) (DI .i64 n) hp := fun n hp h h0 => RetOb.keep1 (d := DI .i64 n) (cs := trsI xs) ⟨by rw [h], rfl⟩ h0 (trsI_kf xs) rfl
  generalize hR : (fun (d : D) (h : List (Option (List C))) => d = DI .i64 (idxI t xs) ∧ h = [some (trsI xs)]) = R at ret ⊢
  clear hR
  have htl := trsI_len xs
  have hile := idxT_le t xs
  have hiat := idxT_at t xs
  have hibf := idxT_before t xs
  refine dcZ Tryz.func62 ?_
  simp (maxSteps := 9999999) only [go_sem]
  ((try (refine drvZ Tryz.func62 ?_; simp (maxSteps := 9999999) only [go_sem])); (try ((with_reducible refine And.intro ?_ ?_) <;> (repeat' with_reducible apply And.intro) <;> try exact sd)))
  refine Go.loopQ (fun i : Nat => [(0, .c (.msl 0 1 0 xs.length)), (1, .c (.clo 63 [runE t])), (7, DI .i64 xs.length), (8, DI .i64 i)]) (fun _ => [(0, some (trsI xs))]) 1024 (fun i => i ≤ idxT t xs) (fun i => idxT t xs - i) ?_ 0 some [] _ (Nat.zero_le _) ?_
  · intro i hi again
    rcases Nat.lt_or_ge i xs.length with hlt | hge
    · obtain ⟨u, hu⟩ : ∃ u, xs[i]? = some u := ⟨xs[i], by simp [hlt]⟩
      have hum : u ∈ xs := List.mem_of_getElem? hu
      have htk : (trsI xs)[i]? = some (trD u) := by unfold trsI; rw [List.getElem?_map, hu]; rfl
      have hgx := leakFn u t (hx u hum)
      rcases Nat.lt_or_ge i (idxT t xs) with hlt2 | hge2
      · rw [hibf i u hlt2 hu] at hgx
        refine drvL Tryz.func62 ?_
        simp (maxSteps := 9999999) only [go_sem, htk, hlt, htl, trD, runE]
        iterate 4 ((try (refine drvZ Tryz.func62 ?_; simp (maxSteps := 9999999) only [go_sem, htk, hlt, htl, trD, runE])); (try ((with_reducible refine And.intro ?_ ?_) <;> (repeat' with_reducible apply And.intro) <;> try exact sd)); (try first | refine XK.p hgx ok63 ?_ | refine XK.gp hgx ok63 ?_))
        refine again (i + 1) some [] _ hlt2 (by omega) ?_
        simp (maxSteps := 9999999) only [go_sem, TmOK, DM, DMs, CM, CMs, forall_eq, exists_eq_left, Mq, HpOK, LowOK]
        simp
        exact ⟨CM.kf (c := runE t) rfl, CMs.kf (trsI_kf xs)⟩
      · obtain rfl : i = idxT t xs := by omega
        have := hiat hlt
        rw [this] at hu
        simp only [Option.some.injEq] at hu
        subst hu
        rw [(trSame_iff _ _).2 rfl] at hgx
        refine drvL Tryz.func62 ?_
        simp (maxSteps := 9999999) only [go_sem, htk, hlt, htl, trD, runE]
        iterate 3 ((try (refine drvZ Tryz.func62 ?_; simp (maxSteps := 9999999) only [go_sem, htk, hlt, htl, trD, runE])); (try ((with_reducible refine And.intro ?_ ?_) <;> (repeat' with_reducible apply And.intro) <;> try exact sd)); (try first | refine XK.p hgx ok63 ?_ | refine XK.gp hgx ok63 ?_))
        refine ret _ _ ?_ rfl
        unfold idxI
        rw [if_neg (by omega)]
    · have hn : ¬ i < xs.length := by omega
      refine drvL Tryz.func62 ?_
      simp (maxSteps := 9999999) only [go_sem, hn]
      iterate 3 ((try (refine drvZ Tryz.func62 ?_; simp (maxSteps := 9999999) only [go_sem, hn])); (try ((with_reducible refine And.intro ?_ ?_) <;> (repeat' with_reducible apply And.intro) <;> try exact sd)))
      refine ret _ _ ?_ rfl
      unfold idxI
      rw [if_pos (by omega)]
  · simp (maxSteps := 9999999) only [go_sem, TmOK, DM, DMs, CM, CMs, forall_eq, exists_eq_left, Mq, HpOK, LowOK]
    simp
    exact ⟨CM.kf (c := runE t) rfl, CMs.kf (trsI_kf xs)⟩
end Go.Proofs.YtehmajhoaibphaaGreat.CtR
