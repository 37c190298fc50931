/- Contracts of functions of the program, one behind the other, as plain data: what each call returns and which blocks it leaves. -/
import Derived.Test.YtjjjidcbokbhpaaMFacts
import Derived.Test.YtjjjidcbokbhpaaMAi
import Derived.Test.YtjjjidcbokbhpaaMAj
import Derived.Test.YtjjjidcbokbhpaaMAk
import Derived.Test.YtjjjidcbokbhpaaMAl
import Derived.Test.YtjjjidcbokbhpaaMAo
import Derived.Test.YtjjjidcbokbhpaaMAr
import Derived.Test.YtjjjidcbokbhpaaMAn
import Derived.Test.YtjjjidcbokbhpaaMAhX
set_option linter.unusedVariables false
set_option linter.unusedSimpArgs false
set_option maxHeartbeats 16000000
set_option maxRecDepth 100000
namespace Go.Proofs.Ytjjjidcbokbhpaa.CtD
open Go Go.CT CtF CtR

theorem cloneM (xs : List Int) (hl : xs.length ≤ 1000000) (h0 : 0 < xs.length) : DC Try.prog 30 [.c (.msl 0 1 0 xs.length)] [some (xs.map I64)] (fun d h => d = .c (.msl 1 1 0 xs.length) ∧ h = [some (xs.map I64), some (xs.map I64)]) := by
  have hmx := mx_eq
  have ht : List.take xs.length (xs.map I64) = xs.map I64 := List.take_of_length_le (by simp)
  generalize hR : (fun (r : D) (h : List (Option (List C))) => r = .c (.msl 1 1 0 xs.length) ∧ h = [some (xs.map I64), some (xs.map I64)]) = R
  refine dcZ Try.func30 ?_
  simp (maxSteps := 9999999) only [go_sem, h0]
  iterate 4 ((try (refine drvZ Try.func30 ?_; simp (maxSteps := 9999999) only [go_sem, h0, ht])); (try ((with_reducible refine And.intro ?_ ?_) <;> (repeat' with_reducible apply And.intro) <;> try exact sd)); (try first | refine XK.gs (DB false) ?_))
  refine RetOb.ofQ (fun j => if j = 0 then some 0 else if j = 1 then some 321 else none) [] (.c (.msl 1 1 0 xs.length)) [some (xs.map I64), some (xs.map I64)] ?_ (by rw [← hR]; exact ⟨rfl, rfl⟩) (by simp)
  simp [enumL, DM, DMs, CM, HpOK, LowOK, hOf, upd, hpL]
  exact CMs.kf (kf_I _)

theorem equalM (xs ys : List Int) (hl : xs.length ≤ mx) (hlen : xs.length = ys.length) : DC Try.prog 32 [.c (.msl 0 1 0 xs.length), .c (.msl 1 1 0 xs.length)] [some (xs.map I64), some (ys.map I64)] (fun r h => r = DB (decide (xs = ys)) ∧ h = [some (xs.map I64), some (ys.map I64)]) := by
  have hmx := mx_eq
  have ret : ∀ (b : Bool) (hp : Hp), b = decide (xs = ys) → hp 0 = some (some (xs.map I64)) → hp 1 = some (some (ys.map I64)) → RetOb 2 (fun r h => r = DB (decide (xs = ys)) ∧ h = [some (xs.map I64), some (ys.map I64)]) (DB b) hp := fun b hp h h0 h1 => by
    refine RetOb.ofQ some [] (DB b) [some (xs.map I64), some (ys.map I64)] ?_ ⟨by rw [h], rfl⟩ (by simp)
    simp [enumL, DM, DMs, CM, HpOK, LowOK, hOf, upd, h0, h1]
    exact ⟨CMs.kf (kf_I _), CMs.kf (kf_I _)⟩
  generalize hR : (fun (r : D) (h : List (Option (List C))) => r = DB (decide (xs = ys)) ∧ h = [some (xs.map I64), some (ys.map I64)]) = R at *
  have hb : ((xs.length : Int) != xs.length) = false := by simp
  refine dcZ Try.func32 ?_
  simp (maxSteps := 9999999) only [go_sem, hb]
  iterate 3 ((try (refine drvZ Try.func32 ?_; simp (maxSteps := 9999999) only [go_sem, hb])); (try ((with_reducible refine And.intro ?_ ?_) <;> (repeat' with_reducible apply And.intro) <;> try exact sd)))
  refine Go.loopQ (fun i : Nat => [(0, .c (.msl 0 1 0 xs.length)), (1, .c (.msl 1 1 0 xs.length)), (12, DI .i64 xs.length), (13, DI .i64 i)]) (fun _ => [(0, some (xs.map I64)), (1, some (ys.map I64))]) 1024 (fun i => i ≤ xs.length ∧ decide (xs = ys) = decide (xs.drop i = ys.drop i)) (fun i => xs.length - i) ?_ 0 some [] _ ⟨Nat.zero_le _, rfl⟩ ?_
  · intro i hi again
    have hi' := hi.1
    rcases Nat.lt_or_ge i xs.length with hlt | hge
    · obtain ⟨x, hx⟩ : ∃ x, xs[i]? = some x := ⟨xs[i], by simp [hlt]⟩
      obtain ⟨y, hy⟩ : ∃ y, ys[i]? = some y := ⟨ys[i]'(by omega), by simp⟩
      have hI := hi.2
      obtain ⟨_, ex⟩ := List.getElem?_eq_some_iff.1 hx
      obtain ⟨hyl, ey⟩ := List.getElem?_eq_some_iff.1 hy
      rw [List.drop_eq_getElem_cons hlt, List.drop_eq_getElem_cons hyl, ex, ey] at hI
      by_cases hxy : x = y
      · have hq : (x != y) = false := by simp [hxy]
        refine drvL Try.func32 ?_
        simp (maxSteps := 9999999) only [go_sem, hlt, hx, hy, hq]
        iterate 6 ((try (refine drvZ Try.func32 ?_; simp (maxSteps := 9999999) only [go_sem, hlt, hx, hy, hq])); (try ((with_reducible refine And.intro ?_ ?_) <;> (repeat' with_reducible apply And.intro) <;> try exact sd)); (try first | refine XK.gs (DB false) ?_))
        refine again (i + 1) some [] _ ⟨by omega, by rw [hI]; simp [hxy]⟩ (by omega) ?_
        simp (maxSteps := 9999999) only [go_sem, TmOK, DM, DMs, CM, CMs, forall_eq, exists_eq_left, Mq, HpOK, LowOK]
        simp
        try exact ⟨CMs.kf (kf_I _), CMs.kf (kf_I _)⟩
      · have hq : (x != y) = true := by simp [hxy]
        refine drvL Try.func32 ?_
        simp (maxSteps := 9999999) only [go_sem, hlt, hx, hy, hq]
        iterate 6 ((try (refine drvZ Try.func32 ?_; simp (maxSteps := 9999999) only [go_sem, hlt, hx, hy, hq])); (try ((with_reducible refine And.intro ?_ ?_) <;> (repeat' with_reducible apply And.intro) <;> try exact sd)); (try first | refine XK.gs (DB false) ?_))
        exact ret _ _ (by rw [hI]; simp [hxy]) rfl rfl
    · have hn : ¬ i < xs.length := by omega
      refine drvL Try.func32 ?_
      simp (maxSteps := 9999999) only [go_sem, hn]
      iterate 6 ((try (refine drvZ Try.func32 ?_; simp (maxSteps := 9999999) only [go_sem, hn])); (try ((with_reducible refine And.intro ?_ ?_) <;> (repeat' with_reducible apply And.intro) <;> try exact sd)); (try first | refine XK.gs (DB false) ?_))
      exact ret _ _ (by rw [hi.2, List.drop_of_length_le hge, List.drop_of_length_le (by omega)]; rfl) rfl rfl
  · simp (maxSteps := 9999999) only [go_sem, TmOK, DM, DMs, CM, CMs, forall_eq, exists_eq_left, Mq, HpOK, LowOK]
    simp
    try exact ⟨CMs.kf (kf_I _), CMs.kf (kf_I _)⟩

/-- The first sets are united. -/
def uniA (a b : List Nat) : Nat → List Nat
  | 0 => a
  | i + 1 => (uniA a b i).set i (dat (uniA a b i) i ||| dat b i)
theorem uniA_len (a b : List Nat) : ∀ i, (uniA a b i).length = a.length
  | 0 => rfl
  | i + 1 => by rw [uniA, List.length_set, uniA_len a b i]
theorem uniA_dat (a b : List Nat) : ∀ i j, i ≤ a.length → dat (uniA a b i) j = if j < i then dat a j ||| dat b j else dat a j
  | 0, j, _ => by simp [uniA]
  | i + 1, j, h => by
    have h1 := uniA_dat a b i j (by omega)
    have h2 := uniA_dat a b i i (by omega)
    rw [uniA, dat_set, uniA_len]
    by_cases e : i = j
    · subst e
      rw [if_pos ⟨rfl, by omega⟩, h2, if_neg (by omega), if_pos (by omega)]
    · rw [if_neg (fun x => e x.1), h1]
      by_cases e2 : j < i
      · rw [if_pos e2, if_pos (by omega)]
      · rw [if_neg e2, if_neg (by omega)]
theorem dat_ext {a b : List Nat} (hl : a.length = b.length) (h : ∀ i, i < a.length → dat a i = dat b i) : a = b := by
  refine List.ext_getElem hl fun i h1 h2 => ?_
  have := h i h1
  rw [dat, dat, List.getD_eq_getElem?_getD, List.getD_eq_getElem?_getD, List.getElem?_eq_getElem h1, List.getElem?_eq_getElem h2] at this
  exact this
theorem uniA_all {a b : List Nat} (h : b.length = a.length) : uniA a b a.length = unite a b :=
  dat_ext (by rw [uniA_len, unite_len h]) fun i hi => by
    rw [uniA_len] at hi
    rw [uniA_dat a b _ i (Nat.le_refl _), if_pos hi, dat_unite h]

theorem unitedI (a b : List Nat) (n : Nat) (ha : a.length = n) (hb : b.length = n) (h0 : 0 < n) (hn : n ≤ 14) (ra : ∀ x ∈ a, x < 16384) (rb : ∀ x ∈ b, x < 16384) : DC Try.prog 125 [.c (.msl 0 1 0 n), .c (.msl 1 1 0 n)] [some ((nI a).map I64), some ((nI b).map I64)]
    (fun r h => r = .c (.msl 2 1 0 n) ∧ h = [some ((nI a).map I64), some ((nI b).map I64), some ((nI (unite a b)).map I64)]) := by
  have hmx := mx_eq
  rw [← uniA_all (hb.trans ha.symm), ha]
  have hcl := cloneM (nI a) (by rw [nI_len]; omega) (by rw [nI_len]; omega)
  rw [nI_len, ha] at hcl
  have hla := nI_len a
  have hlb := nI_len b
  generalize hR : (fun (r : D) (h : List (Option (List C))) => r = .c (.msl 2 1 0 n) ∧ h = [some ((nI a).map I64), some ((nI b).map I64), some ((nI (uniA a b n)).map I64)]) = R
  refine dcZ Try.func125 ?_
  simp (maxSteps := 9999999) only [go_sem]
  iterate 2 ((try (refine drvZ Try.func125 ?_; simp (maxSteps := 9999999) only [go_sem])); (try ((with_reducible refine And.intro ?_ ?_) <;> (repeat' with_reducible apply And.intro) <;> try exact sd)))
  refine XK.callG [0] hcl ok30 (hhpG (by simp [HH, upd, hpL, renCs_I])) (hbT ()) (fun d h' ⟨_, e⟩ => by subst e; simp) ?_
  rintro _ _ ⟨rfl, rfl⟩ _
  iterate 3 ((try (refine drvZ Try.func125 ?_; simp (maxSteps := 9999999) only [go_sem, renCs_I])); (try ((with_reducible refine And.intro ?_ ?_) <;> (repeat' with_reducible apply And.intro) <;> try exact sd)))
  refine Go.loopQ (fun i : Nat => [(5, .c (.msl 2 1 0 n)), (10, .c (.msl 1 1 0 n)), (11, DI .i64 n), (12, DI .i64 i)])
    (fun i => [(0, some ((nI a).map I64)), (1, some ((nI b).map I64)), (2, some ((nI (uniA a b i)).map I64))]) 1024 (fun i => i ≤ n) (fun i => n - i) ?_ 0 (fun j => if j = 2 then some 130 else if j < 2 then some j else none) [] _ (Nat.zero_le _) ?_
  · intro i hi again
    rcases Nat.lt_or_ge i n with hlt | hge
    · have hlu := uniA_len a b i
      have hx : (nI (uniA a b i))[i]? = some ((dat (uniA a b i) i : Nat) : Int) := nI_at (by omega)
      have hy : (nI b)[i]? = some ((dat b i : Nat) : Int) := nI_at (by omega)
      have hlU := nI_len (uniA a b i)
      have hs := nI_put (uniA a b i) i (dat (uniA a b i) i ||| dat b i)
      have e1 : uniA a b (i + 1) = (uniA a b i).set i (dat (uniA a b i) i ||| dat b i) := rfl
      have hq : dat (uniA a b i) i < 16384 := by
        rw [uniA_dat a b i i (by omega), if_neg (by omega)]; exact dat_lt (w := 14) ra i
      have hq2 : dat b i < 16384 := dat_lt (w := 14) rb i
      generalize uniA a b i = U at *
      generalize dat U i = u at *
      generalize dat b i = v at *
      refine drvL Try.func125 ?_
      simp (maxSteps := 9999999) only [go_sem, hlt, hx, hy]
      iterate 6 ((try (refine drvZ Try.func125 ?_; simp (maxSteps := 9999999) only [go_sem, hlt, hx, hy, hs])); (try ((with_reducible refine And.intro ?_ ?_) <;> (repeat' with_reducible apply And.intro) <;> try exact sd)))
      refine again (i + 1) some [] _ hlt (by omega) ?_
      simp (maxSteps := 9999999) only [go_sem, TmOK, DM, DMs, CM, CMs, forall_eq, exists_eq_left, Mq, HpOK, LowOK, e1]
      simp
      exact ⟨CMs.kf (kf_I _), CMs.kf (kf_I _), CMs.kf (kf_I _)⟩
    · have hn2 : ¬ i < n := by omega
      obtain rfl : i = n := by omega
      refine drvL Try.func125 ?_
      simp (maxSteps := 9999999) only [go_sem, hn2]
      iterate 6 ((try (refine drvZ Try.func125 ?_; simp (maxSteps := 9999999) only [go_sem, hn2])); (try ((with_reducible refine And.intro ?_ ?_) <;> (repeat' with_reducible apply And.intro) <;> try exact sd)); (try first | refine XK.gs (DB false) ?_))
      refine RetOb.ofQ some [] (.c (.msl 2 1 0 i)) [some ((nI a).map I64), some ((nI b).map I64), some ((nI (uniA a b i)).map I64)] ?_ (by rw [← hR]; exact ⟨rfl, rfl⟩) (by simp)
      simp [enumL, DM, DMs, CM, HpOK, LowOK, hOf, upd, hpL]
      exact ⟨CMs.kf (kf_I _), CMs.kf (kf_I _), CMs.kf (kf_I _)⟩
  · simp (maxSteps := 9999999) only [go_sem, TmOK, DM, DMs, CM, CMs, forall_eq, exists_eq_left, Mq, HpOK, LowOK, uniA]
    simp
    exact ⟨CMs.kf (kf_I _), CMs.kf (kf_I _), CMs.kf (kf_I _)⟩
end Go.Proofs.Ytjjjidcbokbhpaa.CtD

namespace Go.Proofs.Ytjjjidcbokbhpaa.CtD
open Go Go.CT CtF CtR

theorem setI {w : Nat} (p : Pg) (hw : p.vars.length + p.arrays.length = w) (hw14 : w ≤ 14) (w0 : 0 < w) (S : List Nat) (hS : S.length = w) (hr : ∀ a ∈ S, a < 2 ^ w) (re : Nat) : ∀ (d : Nat) (e : Ex) (tr : Nat), CtR.shape p d e = true → tr < 2 ^ w →
    DC Try.prog 126 [.c (.ptr 0 0), .agg e.cells, .c (.msl 1 1 0 w)] [some (dpB p tr re), some ((nI S).map I64)] (fun r h => r = DI .i64 ((setE p.vars.length S d e).1 : Nat) ∧ h = [some (dpB p (tr ||| (setE p.vars.length S d e).2) re), some ((nI S).map I64)]) := by
  have hmx := mx_eq
  intro d
  induction d with
  | zero => intro e tr h; simp [CtR.shape] at h
  | succ d ih =>
    intro e tr hsh htr
    obtain ⟨k, v, ks⟩ := e
    obtain ⟨g1, g2, g3⟩ := shape_succ hsh
    obtain ⟨hl3, hla, hv0, hv1⟩ := fits_len g1
    have hlim : k = 2 → v < p.vars.length := fun hk => by subst hk; simpa [limit] using hv1
    have hlim3 : k = 3 → v < p.arrays.length := fun hk => by subst hk; simpa [limit] using hv1
    have hcell := cellI p (by omega) v.toNat
    obtain ⟨vs, ar, bd⟩ := p
    have hw : vs.length + ar.length = w := hw
    simp only at hlim hlim3 ih hcell
    rw [setE_succ]
    simp only at ih ⊢
    have hlt1 := fun e => pow14 hw14 (setE_lt (nv := vs.length) hr d e).1
    have hlt2 := fun e => pow14 hw14 (setE_lt (nv := vs.length) hr d e).2
    have hltp := fun e => (setE_lt (nv := vs.length) hr d e).2
    have ho := fun i => pow14 hw14 (fst1_lt (fun e => (setE_lt (nv := vs.length) hr d e).1) ks i)
    have ha := fun i => pow14 hw14 (snd1_lt (fun e => (setE_lt (nv := vs.length) hr d e).2) ks i)
    have hta := fun i => Nat.or_lt_two_pow htr (snd1_lt (fun e => (setE_lt (nv := vs.length) hr d e).2) ks i)
    have hda := fun i => pow14 hw14 (dat_lt hr i)
    have hf0 : fst1 (setE vs.length S d) ks 0 = 0 := by simp [fst1]
    have hs0 : tr ||| snd1 (setE vs.length S d) ks 0 = tr := by simp [snd1]
    have hstep := fun i x h => And.intro (fst1_succ (setE vs.length S d) ks i x h) (snd1_succ (setE vs.length S d) ks i x h)
    generalize setE vs.length S d = F at *
    generalize hR : (fun (r : D) (h : List (Option (List C))) => r = DI .i64 _ ∧ h = _) = R
    refine dcZ Try.func126 ?_
    simp (maxSteps := 9999999) only [go_sem]
    iterate 4 ((try (refine drvZ Try.func126 ?_; simp (maxSteps := 9999999) only [go_sem])); (try ((with_reducible refine And.intro ?_ ?_) <;> (repeat' with_reducible apply And.intro) <;> try exact sd)))
    refine Go.loopQ (fun i : Nat => [(0, .c (.ptr 0 0)), (2, .c (.msl 1 1 0 w)), (4, .c (.ptr 2 0)), (7, DI .i64 (fst1 F ks i : Nat)), (11, .c (.isl 3 (Ex.cellsL ks))), (12, DI .i64 ks.length), (13, DI .i64 i)])
      (fun i => [(0, some (dpB ⟨vs, ar, bd⟩ (tr ||| snd1 F ks i) re)), (1, some ((nI S).map I64)), (2, some (Ex.cells (.mk k v ks)))])
      4096 (fun i => i ≤ ks.length) (fun i => ks.length - i) ?_ 0 some [] _ (Nat.zero_le _) ?_
    · intro i hi again
      rcases Nat.lt_or_ge i ks.length with hlt | hge
      · obtain ⟨⟨k', v', ks'⟩, hx⟩ : ∃ x, ks[i]? = some x := ⟨ks[i], by simp [hlt]⟩
        obtain ⟨hsc, hsd⟩ := hstep i _ hx
        have hih := ih (.mk k' v' ks') (tr ||| snd1 F ks i) (g2 _ (List.mem_of_getElem? hx)) (hta i)
        have h1 := hlt1 (.mk k' v' ks')
        have h2 := ho i
        refine drvL Try.func126 ?_
        simp (maxSteps := 9999999) only [go_sem, hx, hlt, dpB_eq]
        iterate 2 ((try (refine drvZ Try.func126 ?_; simp (maxSteps := 9999999) only [go_sem, hx, hlt, dpB_eq])); (try ((with_reducible refine And.intro ?_ ?_) <;> (repeat' with_reducible apply And.intro) <;> try exact sd)))
        refine XK.callG [0, 1] hih ok126 (hhpG (by simp [HH, renCs_I, dpB_ren, upd, hOf]; rfl)) (hbT ()) (fun d h' ⟨_, e⟩ => by subst e; simp) ?_ (fun _ => ⟨by kernel_rfl, _, _, ⟨rfl, rfl⟩, by simp⟩)
        rintro _ _ ⟨rfl, rfl⟩ _
        iterate 3 ((try (refine drvZ Try.func126 ?_; simp (maxSteps := 9999999) only [go_sem, hx, hlt, dpB_eq, renCs_I])); (try ((with_reducible refine And.intro ?_ ?_) <;> (repeat' with_reducible apply And.intro) <;> try exact sd)))
        refine again (i + 1) some [] _ hlt (by omega) ?_
        simp (maxSteps := 9999999) only [go_sem, TmOK, DM, DMs, CM, CMs, forall_eq, exists_eq_left, Mq, HpOK, LowOK, hsc, hsd, dpB_eq]
        simp [Nat.or_assoc]
        exact CMs.kf (kf_I _)
      · have hn2 : ¬ i < ks.length := by omega
        obtain rfl : i = ks.length := by omega
        have h2 := ho ks.length
        have h3 := ha ks.length
        have hta := hta ks.length
        generalize fst1 F ks ks.length = fo at *
        generalize snd1 F ks ks.length = so at *
        have htl := pow14 hw14 hta
        have key : k = 2 ∨ k = 3 ∨ (k ≠ 2 ∧ k ≠ 3) := by omega
        rcases key with hk | hk | ⟨hk2, hk3⟩
        · have hv2 := hlim hk
          have e2 : (k == 2) = true := by simp [hk]
          have f2 : (k = 2) = True := by simp [hk]
          have hx : (nI S)[v.toNat]? = some ((dat S v.toNat : Nat) : Int) := nI_at (by omega)
          have hd := hda v.toNat
          generalize dat S v.toNat = q at *
          refine drvL Try.func126 ?_
          simp (maxSteps := 9999999) only [go_sem, hn2, e2, f2, hx, dpB_eq]
          iterate 4 ((try (refine drvZ Try.func126 ?_; simp (maxSteps := 9999999) only [go_sem, hn2, e2, f2, hx, dpB_eq])); (try ((with_reducible refine And.intro ?_ ?_) <;> (repeat' with_reducible apply And.intro) <;> try exact sd)))
          refine RetOb.ofQ some [] (DI .i64 _) [some (dpB ⟨vs, ar, bd⟩ (tr ||| so) re), some ((nI S).map I64)] ?_ (by rw [← hR, if_pos hk]; exact ⟨rfl, rfl⟩) (by simp)
          simp [enumL, DM, DMs, HpOK, LowOK, hOf, upd, dpB_eq]
          exact ⟨CM.kf rfl, CMs.kf (dpB_all ⟨vs, ar, bd⟩ _ _), CMs.kf (kf_I _)⟩
        · have hv3 := hlim3 hk
          have e2 : (k == 2) = false := by simp [hk]
          have f2 : (k = 2) = False := by simp [hk]
          have e3 : (k == 3) = true := by simp [hk]
          have f3 : (k = 3) = True := by simp [hk]
          have hx : (nI S)[vs.length + v.toNat]? = some ((dat S (vs.length + v.toNat) : Nat) : Int) := nI_at (by omega)
          have hd := hda (vs.length + v.toNat)
          have hcell := hcell (by omega)
          have hvn : ((v.toNat : Nat) : Int) = v := by omega
          rw [hvn] at hcell
          have hi4 : ((vs.length : Int) + (v.toNat : Int)).toNat = vs.length + v.toNat := by omega
          generalize dat S (vs.length + v.toNat) = q at *
          refine drvL Try.func126 ?_
          simp (maxSteps := 9999999) only [go_sem, hn2, e2, f2, e3, f3, hx, dpB_eq]
          iterate 6 ((try (refine drvZ Try.func126 ?_; simp (maxSteps := 9999999) only [go_sem, hn2, e2, f2, e3, f3, hx, hi4, dpB_eq])); (try ((with_reducible refine And.intro ?_ ?_) <;> (repeat' with_reducible apply And.intro) <;> try exact sd)); (try first | refine XK.p hcell ok127 ?_ | refine XK.gp hcell ok127 ?_))
          refine RetOb.ofQ some [] (DI .i64 _) [some (dpB ⟨vs, ar, bd⟩ (tr ||| (so ||| fo)) re), some ((nI S).map I64)] ?_ (by rw [← hR, if_neg (by omega), if_pos hk]; exact ⟨rfl, rfl⟩) (by simp)
          simp [enumL, DM, DMs, HpOK, LowOK, hOf, upd, dpB_eq, Nat.or_assoc]
          exact ⟨CM.kf rfl, CMs.kf (dpB_all ⟨vs, ar, bd⟩ _ _), CMs.kf (kf_I _)⟩
        · have e2 : (k == 2) = false := by simp [hk2]
          have f2 : (k = 2) = False := by simp [hk2]
          have e3 : (k == 3) = false := by simp [hk3]
          have f3 : (k = 3) = False := by simp [hk3]
          refine drvL Try.func126 ?_
          simp (maxSteps := 9999999) only [go_sem, hn2, e2, f2, e3, f3, dpB_eq]
          iterate 4 ((try (refine drvZ Try.func126 ?_; simp (maxSteps := 9999999) only [go_sem, hn2, e2, f2, e3, f3, dpB_eq])); (try ((with_reducible refine And.intro ?_ ?_) <;> (repeat' with_reducible apply And.intro) <;> try exact sd)); (try first | refine XK.p hcell ok127 ?_ | refine XK.gp hcell ok127 ?_))
          refine RetOb.ofQ some [] (DI .i64 _) [some (dpB ⟨vs, ar, bd⟩ (tr ||| so) re), some ((nI S).map I64)] ?_ (by rw [← hR, if_neg hk2, if_neg hk3]; exact ⟨rfl, rfl⟩) (by simp)
          simp [enumL, DM, DMs, HpOK, LowOK, hOf, upd, dpB_eq]
          exact ⟨CM.kf rfl, CMs.kf (dpB_all ⟨vs, ar, bd⟩ _ _), CMs.kf (kf_I _)⟩
    · simp (maxSteps := 9999999) only [go_sem, TmOK, DM, DMs, CM, CMs, forall_eq, exists_eq_left, Mq, HpOK, LowOK, hf0, hs0, dpB_eq]
      simp
      exact CMs.kf (kf_I _)
end Go.Proofs.Ytjjjidcbokbhpaa.CtD

namespace Go.Proofs.Ytjjjidcbokbhpaa.CtD
open Go Go.CT CtF CtR

abbrev foldD (nv d c : Nat) (l : List St1) (s : Dp) : Dp := l.foldl (depS nv d c) s
theorem runDI {w : Nat} (p : Pg) (hw : p.vars.length + p.arrays.length = w) (hw14 : w ≤ 14) (w0 : 0 < w) : ∀ (d : Nat) (l : List St1) (s : Dp) (c : Nat), Okd w s → c < 2 ^ w → (∀ x ∈ l, stmtOK p d x = true) → lsize d l ≤ 1000 →
    DC Try.prog 89 [.c (.ptr 0 0), .c (.isl 11 (St1.cellsL l)), .c (.msl 1 1 0 w), DI .i64 (c : Nat)] [some (dpB p s.tr s.re), some ((nI s.sets).map I64)]
      (fun r h => r = .c (.msl 2 1 0 w) ∧ h = [some (dpB p (foldD p.vars.length d c l s).tr (foldD p.vars.length d c l s).re), some ((nI s.sets).map I64), some ((nI (foldD p.vars.length d c l s).sets).map I64)]) := by
  have hmx := mx_eq
  intro d
  induction d with
  | zero =>
    intro l s c hs hc hok hl
    have hnil : l = [] := by
      cases l with
      | nil => rfl
      | cons a r => have := hok a (by simp); simp [stmtOK] at this
    subst hnil
    have hcl := cloneM (nI s.sets) (by rw [nI_len, hs.len]; omega) (by rw [nI_len, hs.len]; omega)
    rw [nI_len, hs.len] at hcl
    simp only [foldD, List.foldl_nil]
    generalize hR : (fun (r : D) (h : List (Option (List C))) => r = .c (.msl 2 1 0 w) ∧ h = _) = R
    have hz : ((0 : Int) < 0) = False := eq_false (by omega)
    refine dcZ Try.func89 ?_
    simp (maxSteps := 9999999) only [go_sem]
    iterate 2 ((try (refine drvZ Try.func89 ?_; simp (maxSteps := 9999999) only [go_sem])); (try ((with_reducible refine And.intro ?_ ?_) <;> (repeat' with_reducible apply And.intro) <;> try exact sd)))
    refine XK.callG [1] hcl ok30 (hhpG (by simp [HH, upd, hpL, renCs_I])) (hbT ()) (fun d h' ⟨_, e⟩ => by subst e; simp) ?_
    rintro _ _ ⟨rfl, rfl⟩ _
    iterate 3 ((try (refine drvZ Try.func89 ?_; simp (maxSteps := 9999999) only [go_sem, renCs_I, Int.natCast_zero])); (try ((with_reducible refine And.intro ?_ ?_) <;> (repeat' with_reducible apply And.intro) <;> try exact sd)))
    refine Go.loop ?_
    refine drvL Try.func89 ?_
    simp (maxSteps := 9999999) only [go_sem, hz, Int.natCast_zero]
    iterate 3 ((try (refine drvZ Try.func89 ?_; simp (maxSteps := 9999999) only [go_sem, hz, Int.natCast_zero])); (try ((with_reducible refine And.intro ?_ ?_) <;> (repeat' with_reducible apply And.intro) <;> try exact sd)))
    refine RetOb.ofQ (fun j => if j = 2 then some 130 else if j < 2 then some j else none) [] (.c (.msl 2 1 0 w)) [some (dpB p s.tr s.re), some ((nI s.sets).map I64), some ((nI s.sets).map I64)] ?_ (by rw [← hR]; exact ⟨rfl, rfl⟩) (by simp)
    simp [enumL, DM, DMs, CM, HpOK, LowOK, hOf, upd, hpL]
    repeat' with_reducible apply And.intro
    all_goals first | exact CMs.kf (kf_I _) | exact CMs.kf (dpB_all p _ _)
  | succ d ih =>
    intro l s c hs hc hok hl
    have hsub := lsize_subs d l
    have hcl := cloneM (nI s.sets) (by rw [nI_len, hs.len]; omega) (by rw [nI_len, hs.len]; omega)
    rw [nI_len, hs.len] at hcl
    have hset := fun (s : Dp) (hs : Okd w s) => setI p hw hw14 w0 s.sets hs.len hs.row s.re 5
    have hcell := fun (t : Int) (h0 : 0 ≤ t) (h1 : t < p.arrays.length) => cellI p (by omega) t.toNat (by omega)
    obtain ⟨vs, ar, bd⟩ := p
    have hw : vs.length + ar.length = w := hw
    simp only at ih hset hcell ⊢
    have hT : ∀ i, Okd w (foldD vs.length (d + 1) c (l.take i) s) := fun i => foldl_ok hc _ hs
    have hTs : ∀ i x, l[i]? = some x → foldD vs.length (d + 1) c (l.take (i + 1)) s = depS vs.length (d + 1) c (foldD vs.length (d + 1) c (l.take i) s) x := fun i x h => by
      unfold foldD; rw [List.take_add_one, h]; simp
    have hfin : foldD vs.length (d + 1) c (l.take l.length) s = foldD vs.length (d + 1) c l s := by rw [List.take_length]
    have hT0 : foldD vs.length (d + 1) c (l.take 0) s = s := rfl
    rw [← hfin]
    obtain ⟨T, hTd⟩ : ∃ T : Nat → Dp, ∀ i, foldD vs.length (d + 1) c (l.take i) s = T i := ⟨fun i => foldD vs.length (d + 1) c (l.take i) s, fun _ => rfl⟩
    simp only [hTd] at hT hTs hT0 ⊢
    clear hTd hfin
    generalize hR : (fun (r : D) (h : List (Option (List C))) => r = .c (.msl 2 1 0 w) ∧ h = _) = R
    have hc14 := pow14 hw14 hc
    refine dcZ Try.func89 ?_
    simp (maxSteps := 9999999) only [go_sem]
    iterate 2 ((try (refine drvZ Try.func89 ?_; simp (maxSteps := 9999999) only [go_sem])); (try ((with_reducible refine And.intro ?_ ?_) <;> (repeat' with_reducible apply And.intro) <;> try exact sd)))
    refine XK.callG [1] hcl ok30 (hhpG (by simp [HH, upd, hpL, renCs_I])) (hbT ()) (fun d h' ⟨_, e⟩ => by subst e; simp) ?_
    rintro _ _ ⟨rfl, rfl⟩ _
    iterate 3 ((try (refine drvZ Try.func89 ?_; simp (maxSteps := 9999999) only [go_sem, renCs_I])); (try ((with_reducible refine And.intro ?_ ?_) <;> (repeat' with_reducible apply And.intro) <;> try exact sd)))
    refine Go.loopQ (fun i : Nat => [(0, .c (.ptr 0 0)), (2, .c (.msl 2 1 0 w)), (3, DI .i64 c), (16, .c (.isl 11 (St1.cellsL l))), (17, DI .i64 l.length), (18, DI .i64 i)])
      (fun i => [(0, some (dpB ⟨vs, ar, bd⟩ (T i).tr (T i).re)), (1, some ((nI s.sets).map I64)), (2, some ((nI (T i).sets).map I64))]) 4096 (fun i => i ≤ l.length) (fun i => l.length - i) ?_ 0 (fun j => if j = 2 then some 130 else if j < 2 then some j else none) [] _ (Nat.zero_le _) ?_
    · intro i hi again
      rcases Nat.lt_or_ge i l.length with hlt | hge
      · obtain ⟨⟨k, t, ⟨ik, iv, iks⟩, ⟨vk, vv, vks⟩, cc, b, e⟩, hx⟩ : ∃ x, l[i]? = some x := ⟨l[i], by simp [hlt]⟩
        have hsok := hok _ (List.mem_of_getElem? hx)
        have hbe := stmtOK_succ hsok
        have hhk := head_kind hbe.1
        obtain ⟨s1, s2⟩ := shapeV hsok
        have a1 := tsum_succ (subs d) l i _ hx
        have a2 := tsum_le (subs d) l (i + 1)
        simp only [subs, St1.body, St1.els] at a1 a2
        have hTi := hT i
        have hTn := hTs i _ hx
        generalize T i = X at *
        simp only at hhk
        have key : k = 4 ∨ k = 1 ∨ k = 5 ∨ k = 2 ∨ k = 3 := by omega
        rcases key with hk | hk | hk | hk | hk
        · subst hk
          rw [depS_4] at hTn
          have hfix : ∀ n X, fixD (fun s => b.foldl (depS vs.length d c) s) (n + 1) X = if unite X.sets (foldD vs.length d c b X).sets = X.sets then ⟨X.sets, (foldD vs.length d c b X).tr, (foldD vs.length d c b X).re⟩ else fixD (fun s => b.foldl (depS vs.length d c) s) n ⟨unite X.sets (foldD vs.length d c b X).sets, (foldD vs.length d c b X).tr, (foldD vs.length d c b X).re⟩ := fun _ _ => rfl
          have hfix0 : ∀ X, fixD (fun s => b.foldl (depS vs.length d c) s) 0 X = X := fun _ => rfl
          generalize fixD (fun s => b.foldl (depS vs.length d c) s) = fx at *
          refine drvL Try.func89 ?_
          simp (maxSteps := 9999999) only [go_sem, hx, hlt]
          iterate 3 ((try (refine drvZ Try.func89 ?_; simp (maxSteps := 9999999) only [go_sem, hx, hlt])); (try ((with_reducible refine And.intro ?_ ?_) <;> (repeat' with_reducible apply And.intro) <;> try exact sd)))
          refine Go.loopQ (fun x : Dp × Nat => [(0, .c (.ptr 0 0)), (2, .c (.msl 2 1 0 w)), (3, DI .i64 c), (10, .c (.ptr 3 0)), (16, .c (.isl 11 (St1.cellsL l))), (17, DI .i64 l.length), (18, DI .i64 i)])
            (fun x => [(0, some (dpB ⟨vs, ar, bd⟩ x.1.tr x.1.re)), (1, some ((nI s.sets).map I64)), (2, some ((nI x.1.sets).map I64)), (3, some (St1.cells (.mk 4 t (.mk ik iv iks) (.mk vk vv vks) cc b e)))])
            8192 (fun x => Okd w x.1 ∧ w * 2 ^ w < x.2 + x.1.sets.sum ∧ fx x.2 x.1 = T (i + 1)) (fun x => x.2) ?_ (X, FU) (fun j => if j = 3 then some 4288 else if j < 3 then some j else none) [] _ ⟨hTi, fu_big hw14 _, hTn.symm⟩ ?_
          · rintro ⟨X, n⟩ ⟨ho, hn, hf⟩ again2
            have ho : Okd w X := ho
            have hn : w * 2 ^ w < n + X.sets.sum := hn
            have hf : fx n X = T (i + 1) := hf
            cases n with
            | zero =>
              have := list_sum_lt (w := w) ho.row
              rw [ho.len] at this
              omega
            | succ n =>
              obtain ⟨xs, xt, xr⟩ := X
              have r1 := ih b ⟨xs, xt, xr⟩ c ho hc hbe.2.1 (by omega)
              have hy1 : Okd w (foldD vs.length d c b ⟨xs, xt, xr⟩) := foldl_ok hc b ho
              simp only [hfix] at hf
              generalize foldD vs.length d c b ⟨xs, xt, xr⟩ = Y1 at *
              obtain ⟨ys, yt, yr⟩ := Y1
              simp only at hf r1 hn
              have hxl : xs.length = w := ho.len
              have hyl : ys.length = w := hy1.len
              have hul : (unite xs ys).length = w := by rw [unite_len (by omega)]; exact hxl
              have hun := unitedI xs ys w hxl hyl w0 hw14 (fun x hx => pow14 hw14 (ho.row x hx)) (fun x hx => pow14 hw14 (hy1.row x hx))
              have heq := equalM (nI (unite xs ys)) (nI xs) (by rw [nI_len, hul]; omega) (by rw [nI_len, nI_len, hul, hxl])
              rw [nI_len, hul] at heq
              have hxs := nI_len xs
              have hus := nI_len (unite xs ys)
              by_cases hq : unite xs ys = xs
              · have hde : decide (nI (unite xs ys) = nI xs) = true := by rw [hq]; simp
                rw [if_pos hq] at hf
                rw [hde] at heq
                refine drvL Try.func89 ?_
                simp (maxSteps := 9999999) only [go_sem]
                ((try (refine drvZ Try.func89 ?_; simp (maxSteps := 9999999) only [go_sem])); (try ((with_reducible refine And.intro ?_ ?_) <;> (repeat' with_reducible apply And.intro) <;> try exact sd)))
                refine XK.callG [0, 2] r1 ok89 (hhpG (by simp [HH, renCs_I, dpB_ren, upd, hOf])) (hbT ()) (fun d h' ⟨_, e⟩ => by subst e; simp) ?_
                rintro _ _ ⟨rfl, rfl⟩ _
                iterate 2 ((try (refine drvZ Try.func89 ?_; simp (maxSteps := 9999999) only [go_sem, renCs_I, dpB_ren])); (try ((with_reducible refine And.intro ?_ ?_) <;> (repeat' with_reducible apply And.intro) <;> try exact sd)))
                refine XK.callG [2, 8576] hun ok125 (hhpG (by simp [HH, renCs_I, upd, hOf])) (hbT ()) (fun d h' ⟨_, e⟩ => by subst e; simp) ?_
                rintro _ _ ⟨rfl, rfl⟩ _
                iterate 2 ((try (refine drvZ Try.func89 ?_; simp (maxSteps := 9999999) only [go_sem, renCs_I, dpB_ren])); (try ((with_reducible refine And.intro ?_ ?_) <;> (repeat' with_reducible apply And.intro) <;> try exact sd)))
                refine XK.callG [8640, 2] heq ok32 (hhpG (by simp [HH, renCs_I, upd, hOf])) (hbT ()) (fun d h' ⟨_, e⟩ => by subst e; simp) ?_
                rintro _ _ ⟨rfl, rfl⟩ _
                iterate 6 ((try (refine drvZ Try.func89 ?_; simp (maxSteps := 9999999) only [go_sem, renCs_I, dpB_ren])); (try ((with_reducible refine And.intro ?_ ?_) <;> (repeat' with_reducible apply And.intro) <;> try exact sd)))
                refine again (i + 1) some [] _ hlt (by omega) ?_
                rw [← hf]
                simp (maxSteps := 9999999) only [go_sem, TmOK, DM, DMs, CM, CMs, forall_eq, exists_eq_left, Mq, HpOK, LowOK]
                simp
                repeat' with_reducible apply And.intro
                all_goals first | exact CMs.kf (kf_I _) | exact CMs.kf (dpB_all ⟨vs, ar, bd⟩ _ _)
              · have hde : decide (nI (unite xs ys) = nI xs) = false := by simp; exact fun h => hq (nI_inj h)
                rw [if_neg hq] at hf
                rw [hde] at heq
                refine drvL Try.func89 ?_
                simp (maxSteps := 9999999) only [go_sem]
                ((try (refine drvZ Try.func89 ?_; simp (maxSteps := 9999999) only [go_sem])); (try ((with_reducible refine And.intro ?_ ?_) <;> (repeat' with_reducible apply And.intro) <;> try exact sd)))
                refine XK.callG [0, 2] r1 ok89 (hhpG (by simp [HH, renCs_I, dpB_ren, upd, hOf])) (hbT ()) (fun d h' ⟨_, e⟩ => by subst e; simp) ?_
                rintro _ _ ⟨rfl, rfl⟩ _
                iterate 2 ((try (refine drvZ Try.func89 ?_; simp (maxSteps := 9999999) only [go_sem, renCs_I, dpB_ren])); (try ((with_reducible refine And.intro ?_ ?_) <;> (repeat' with_reducible apply And.intro) <;> try exact sd)))
                refine XK.callG [2, 8576] hun ok125 (hhpG (by simp [HH, renCs_I, upd, hOf])) (hbT ()) (fun d h' ⟨_, e⟩ => by subst e; simp) ?_
                rintro _ _ ⟨rfl, rfl⟩ _
                iterate 2 ((try (refine drvZ Try.func89 ?_; simp (maxSteps := 9999999) only [go_sem, renCs_I, dpB_ren])); (try ((with_reducible refine And.intro ?_ ?_) <;> (repeat' with_reducible apply And.intro) <;> try exact sd)))
                refine XK.callG [8640, 2] heq ok32 (hhpG (by simp [HH, renCs_I, upd, hOf])) (hbT ()) (fun d h' ⟨_, e⟩ => by subst e; simp) ?_
                rintro _ _ ⟨rfl, rfl⟩ _
                iterate 6 ((try (refine drvZ Try.func89 ?_; simp (maxSteps := 9999999) only [go_sem, renCs_I, dpB_ren])); (try ((with_reducible refine And.intro ?_ ?_) <;> (repeat' with_reducible apply And.intro) <;> try exact sd)))
                have hgrow := (unite_sum (a := xs) (b := ys) (by omega)).2 hq
                refine again2 (⟨unite xs ys, yt, yr⟩, n) (fun j => if j = 2 then some 8640 else if j < 4 then some j else none) [] _ ⟨⟨hul, hw14, unite_row ho.row hy1.row, hy1.tr, hy1.re⟩, by show w * 2 ^ w < n + (unite xs ys).sum; omega, hf⟩ (by show n < n + 1; omega) ?_
                simp (maxSteps := 9999999) only [go_sem, TmOK, DM, DMs, CM, CMs, forall_eq, exists_eq_left, Mq, HpOK, LowOK]
                simp
                repeat' with_reducible apply And.intro
                all_goals first | exact CMs.kf (kf_I _) | exact CMs.kf (dpB_all ⟨vs, ar, bd⟩ _ _)
          · simp (maxSteps := 9999999) only [go_sem, TmOK, DM, DMs, CM, CMs, forall_eq, exists_eq_left, Mq, HpOK, LowOK]
            simp
            repeat' with_reducible apply And.intro
            all_goals first | exact CMs.kf (kf_I _) | exact CMs.kf (dpB_all ⟨vs, ar, bd⟩ _ _)
        · subst hk
          rw [depS_1] at hTn
          have hv := hset X hTi (.mk vk vv vks) X.tr (s1 (by decide)) hTi.tr
          have hV := setE_lt (nv := vs.length) hTi.row 5 (.mk vk vv vks)
          generalize setE vs.length X.sets 5 (.mk vk vv vks) = V at *
          obtain ⟨V1, V2⟩ := V
          obtain ⟨xs, xt, xr⟩ := X
          simp only at hTn hv hV
          have v14 := pow14 hw14 hV.1
          have hxs := nI_len xs
          have hxl : xs.length = w := hTi.len
          have hput := nI_put xs t.toNat (V1 ||| c)
          refine drvL Try.func89 ?_
          simp (maxSteps := 9999999) only [go_sem, hx, hlt]
          iterate 3 ((try (refine drvZ Try.func89 ?_; simp (maxSteps := 9999999) only [go_sem, hx, hlt])); (try ((with_reducible refine And.intro ?_ ?_) <;> (repeat' with_reducible apply And.intro) <;> try exact sd)))
          refine XK.callG [0, 2] hv ok126 (hhpG (by simp [HH, renCs_I, dpB_ren, upd, hOf])) (hbT ()) (fun d h' ⟨_, e⟩ => by subst e; simp) ?_
          rintro _ _ ⟨rfl, rfl⟩ _
          iterate 8 ((try (refine drvZ Try.func89 ?_; simp (maxSteps := 9999999) only [go_sem, renCs_I, dpB_ren, hput])); (try ((with_reducible refine And.intro ?_ ?_) <;> (repeat' with_reducible apply And.intro) <;> try exact sd)))
          refine again (i + 1) some [] _ hlt (by omega) ?_
          simp (maxSteps := 9999999) only [go_sem, TmOK, DM, DMs, CM, CMs, forall_eq, exists_eq_left, Mq, HpOK, LowOK, hTn]
          simp
          repeat' with_reducible apply And.intro
          all_goals first | exact CMs.kf (kf_I _) | exact CMs.kf (dpB_all ⟨vs, ar, bd⟩ _ _)
        · subst hk
          rw [depS_5] at hTn
          have hv := hset X hTi (.mk vk vv vks) X.tr (s1 (by decide)) hTi.tr
          have hV := setE_lt (nv := vs.length) hTi.row 5 (.mk vk vv vks)
          generalize setE vs.length X.sets 5 (.mk vk vv vks) = V at *
          obtain ⟨V1, V2⟩ := V
          obtain ⟨xs, xt, xr⟩ := X
          simp only at hTn hv hV
          have v14 := pow14 hw14 hV.1
          have hxs := nI_len xs
          have hxl : xs.length = w := hTi.len
          have hput := nI_put xs t.toNat (V1 ||| c)
          have t14 : xt ||| V2 < 16384 := pow14 hw14 (Nat.or_lt_two_pow hTi.tr hV.2)
          have r14 : xr < 16384 := pow14 hw14 hTi.re
          have o14 := pow14 hw14 (Nat.or_lt_two_pow hV.1 hc)
          refine drvL Try.func89 ?_
          simp (maxSteps := 9999999) only [go_sem, hx, hlt]
          iterate 3 ((try (refine drvZ Try.func89 ?_; simp (maxSteps := 9999999) only [go_sem, hx, hlt])); (try ((with_reducible refine And.intro ?_ ?_) <;> (repeat' with_reducible apply And.intro) <;> try exact sd)))
          refine XK.callG [0, 2] hv ok126 (hhpG (by simp [HH, renCs_I, dpB_ren, upd, hOf])) (hbT ()) (fun d h' ⟨_, e⟩ => by subst e; simp) ?_
          rintro _ _ ⟨rfl, rfl⟩ _
          iterate 10 ((try (refine drvZ Try.func89 ?_; simp (maxSteps := 9999999) only [go_sem, renCs_I, dpB_eq, hput])); (try ((with_reducible refine And.intro ?_ ?_) <;> (repeat' with_reducible apply And.intro) <;> try exact sd)))
          refine again (i + 1) some [] _ hlt (by omega) ?_
          simp (maxSteps := 9999999) only [go_sem, TmOK, DM, DMs, CM, CMs, forall_eq, exists_eq_left, Mq, HpOK, LowOK, hTn, dpB_eq]
          simp
          repeat' with_reducible apply And.intro
          all_goals first | exact CMs.kf (kf_I _) | exact CMs.kf (dpB_all ⟨vs, ar, bd⟩ _ _)
        · subst hk
          rw [depS_2] at hTn
          have hv := hset X hTi (.mk vk vv vks) X.tr (s1 (by decide)) hTi.tr
          have hV := setE_lt (nv := vs.length) hTi.row 5 (.mk vk vv vks)
          generalize setE vs.length X.sets 5 (.mk vk vv vks) = V at *
          obtain ⟨V1, V2⟩ := V
          obtain ⟨xs, xt, xr⟩ := X
          simp only at hTn hv hV
          have v14 := pow14 hw14 hV.1
          have hxs := nI_len xs
          have hxl : xs.length = w := hTi.len
          have hix := setI ⟨vs, ar, bd⟩ hw hw14 w0 xs hxl hTi.row xr 5 (.mk ik iv iks) (xt ||| V2) (s2 rfl) (Nat.or_lt_two_pow hTi.tr hV.2)
          have hI := setE_lt (nv := vs.length) hTi.row 5 (.mk ik iv iks)
          generalize setE vs.length xs 5 (.mk ik iv iks) = I at *
          obtain ⟨I1, I2⟩ := I
          simp only at hTn hix hI
          have i14 := pow14 hw14 hI.1
          have hcl2 := hcell t (by omega) (by omega)
          have hvn : ((t.toNat : Nat) : Int) = t := by omega
          rw [hvn] at hcl2
          have hi4 : ((vs.length : Int) + (t.toNat : Int)).toNat = vs.length + t.toNat := by omega
          have hxq : (nI xs)[vs.length + t.toNat]? = some ((dat xs (vs.length + t.toNat) : Nat) : Int) := nI_at (by omega)
          have q14 := pow14 hw14 (dat_lt hTi.row (vs.length + t.toNat))
          have hput := nI_put xs (vs.length + t.toNat) (dat xs (vs.length + t.toNat) ||| (V1 ||| I1 ||| c))
          generalize dat xs (vs.length + t.toNat) = q at *
          have t14 : xt ||| V2 ||| I2 < 16384 := pow14 hw14 (Nat.or_lt_two_pow (Nat.or_lt_two_pow hTi.tr hV.2) hI.2)
          have o14 := pow14 hw14 (Nat.or_lt_two_pow hV.1 hI.1)
          have p14 := pow14 hw14 (Nat.or_lt_two_pow (Nat.or_lt_two_pow hV.1 hI.1) hc)
          refine drvL Try.func89 ?_
          simp (maxSteps := 9999999) only [go_sem, hx, hlt]
          iterate 3 ((try (refine drvZ Try.func89 ?_; simp (maxSteps := 9999999) only [go_sem, hx, hlt])); (try ((with_reducible refine And.intro ?_ ?_) <;> (repeat' with_reducible apply And.intro) <;> try exact sd)))
          refine XK.callG [0, 2] hv ok126 (hhpG (by simp [HH, renCs_I, dpB_ren, upd, hOf])) (hbT ()) (fun d h' ⟨_, e⟩ => by subst e; simp) ?_
          rintro _ _ ⟨rfl, rfl⟩ _
          iterate 6 ((try (refine drvZ Try.func89 ?_; simp (maxSteps := 9999999) only [go_sem, renCs_I, dpB_eq])); (try ((with_reducible refine And.intro ?_ ?_) <;> (repeat' with_reducible apply And.intro) <;> try exact sd)))
          refine XK.callG [0, 2] hix ok126 (hhpG (by simp [HH, renCs_I, dpB_ren, upd, hOf]; rfl)) (hbT ()) (fun d h' ⟨_, e⟩ => by subst e; simp) ?_
          rintro _ _ ⟨rfl, rfl⟩ _
          iterate 10 ((try (refine drvZ Try.func89 ?_; simp (maxSteps := 9999999) only [go_sem, renCs_I, dpB_eq, hxq, hi4, hput])); (try ((with_reducible refine And.intro ?_ ?_) <;> (repeat' with_reducible apply And.intro) <;> try exact sd)); (try first | refine XK.p hcl2 ok127 ?_ | refine XK.gp hcl2 ok127 ?_))
          refine again (i + 1) some [] _ hlt (by omega) ?_
          simp (maxSteps := 9999999) only [go_sem, TmOK, DM, DMs, CM, CMs, forall_eq, exists_eq_left, Mq, HpOK, LowOK, hTn, dpB_eq]
          simp
          repeat' with_reducible apply And.intro
          all_goals first | exact CMs.kf (kf_I _) | exact CMs.kf (dpB_all ⟨vs, ar, bd⟩ _ _)
        · subst hk
          rw [depS_3] at hTn
          have hv := hset X hTi (.mk vk vv vks) X.tr (s1 (by decide)) hTi.tr
          have hV := setE_lt (nv := vs.length) hTi.row 5 (.mk vk vv vks)
          unfold ifN ifY at hTn
          generalize setE vs.length X.sets 5 (.mk vk vv vks) = V at *
          obtain ⟨V1, V2⟩ := V
          obtain ⟨xs, xt, xr⟩ := X
          simp only at hTn hv hV
          have hTn : T (i + 1) = ⟨unite (foldD vs.length d (c ||| V1) b ⟨xs, xt ||| V2 ||| V1, xr⟩).sets (foldD vs.length d (c ||| V1) e ⟨xs, (foldD vs.length d (c ||| V1) b ⟨xs, xt ||| V2 ||| V1, xr⟩).tr, (foldD vs.length d (c ||| V1) b ⟨xs, xt ||| V2 ||| V1, xr⟩).re⟩).sets, (foldD vs.length d (c ||| V1) e ⟨xs, (foldD vs.length d (c ||| V1) b ⟨xs, xt ||| V2 ||| V1, xr⟩).tr, (foldD vs.length d (c ||| V1) b ⟨xs, xt ||| V2 ||| V1, xr⟩).re⟩).tr, (foldD vs.length d (c ||| V1) e ⟨xs, (foldD vs.length d (c ||| V1) b ⟨xs, xt ||| V2 ||| V1, xr⟩).tr, (foldD vs.length d (c ||| V1) b ⟨xs, xt ||| V2 ||| V1, xr⟩).re⟩).re⟩ := hTn
          have v14 := pow14 hw14 hV.1
          have hxs := nI_len xs
          have hxl : xs.length = w := hTi.len
          have t14 : xt ||| V2 < 16384 := pow14 hw14 (Nat.or_lt_two_pow hTi.tr hV.2)
          have ho := Nat.or_lt_two_pow hc hV.1
          have o14 := pow14 hw14 ho
          have hx1 : Okd w ⟨xs, xt ||| V2 ||| V1, xr⟩ := ⟨hxl, hw14, hTi.row, Nat.or_lt_two_pow (Nat.or_lt_two_pow hTi.tr hV.2) hV.1, hTi.re⟩
          have r1 := ih b ⟨xs, xt ||| V2 ||| V1, xr⟩ (c ||| V1) hx1 ho hbe.2.1 (by omega)
          have hy1 : Okd w (foldD vs.length d (c ||| V1) b ⟨xs, xt ||| V2 ||| V1, xr⟩) := foldl_ok ho b hx1
          generalize foldD vs.length d (c ||| V1) b ⟨xs, xt ||| V2 ||| V1, xr⟩ = Y1 at *
          obtain ⟨ys, yt, yr⟩ := Y1
          simp only at hTn r1
          have hx2 : Okd w ⟨xs, yt, yr⟩ := ⟨hxl, hw14, hTi.row, hy1.tr, hy1.re⟩
          have r2 := ih e ⟨xs, yt, yr⟩ (c ||| V1) hx2 ho hbe.2.2 (by omega)
          have hy2 : Okd w (foldD vs.length d (c ||| V1) e ⟨xs, yt, yr⟩) := foldl_ok ho e hx2
          generalize foldD vs.length d (c ||| V1) e ⟨xs, yt, yr⟩ = Y2 at *
          obtain ⟨zs, zt, zr⟩ := Y2
          simp only at hTn r2
          have hun := unitedI ys zs w hy1.len hy2.len w0 hw14 (fun x hx => pow14 hw14 (hy1.row x hx)) (fun x hx => pow14 hw14 (hy2.row x hx))
          refine drvL Try.func89 ?_
          simp (maxSteps := 9999999) only [go_sem, hx, hlt]
          iterate 3 ((try (refine drvZ Try.func89 ?_; simp (maxSteps := 9999999) only [go_sem, hx, hlt])); (try ((with_reducible refine And.intro ?_ ?_) <;> (repeat' with_reducible apply And.intro) <;> try exact sd)))
          refine XK.callG [0, 2] hv ok126 (hhpG (by simp [HH, renCs_I, dpB_ren, upd, hOf])) (hbT ()) (fun d h' ⟨_, e⟩ => by subst e; simp) ?_
          rintro _ _ ⟨rfl, rfl⟩ _
          iterate 8 ((try (refine drvZ Try.func89 ?_; simp (maxSteps := 9999999) only [go_sem, renCs_I, dpB_eq])); (try ((with_reducible refine And.intro ?_ ?_) <;> (repeat' with_reducible apply And.intro) <;> try exact sd)))
          refine XK.callG [0, 2] r1 ok89 (hhpG (by simp [HH, renCs_I, dpB_ren, upd, hOf]; rfl)) (hbT ()) (fun d h' ⟨_, e⟩ => by subst e; simp) ?_ (fun _ => ⟨by kernel_rfl, _, _, ⟨rfl, rfl⟩, by simp⟩)
          rintro _ _ ⟨rfl, rfl⟩ _
          iterate 3 ((try (refine drvZ Try.func89 ?_; simp (maxSteps := 9999999) only [go_sem, renCs_I, dpB_eq])); (try ((with_reducible refine And.intro ?_ ?_) <;> (repeat' with_reducible apply And.intro) <;> try exact sd)))
          refine XK.callG [0, 2] r2 ok89 (hhpG (by simp [HH, renCs_I, dpB_ren, upd, hOf]; rfl)) (hbT ()) (fun d h' ⟨_, e⟩ => by subst e; simp) ?_ (fun _ => ⟨by kernel_rfl, _, _, ⟨rfl, rfl⟩, by simp⟩)
          rintro _ _ ⟨rfl, rfl⟩ _
          iterate 3 ((try (refine drvZ Try.func89 ?_; simp (maxSteps := 9999999) only [go_sem, renCs_I, dpB_eq])); (try ((with_reducible refine And.intro ?_ ?_) <;> (repeat' with_reducible apply And.intro) <;> try exact sd)))
          refine XK.callG [6656, 7168] hun ok125 (hhpG (by simp [HH, renCs_I, upd, hOf])) (hbT ()) (fun d h' ⟨_, e⟩ => by subst e; simp) ?_ (fun _ => ⟨by kernel_rfl, _, _, ⟨rfl, rfl⟩, by simp⟩)
          rintro _ _ ⟨rfl, rfl⟩ _
          iterate 4 ((try (refine drvZ Try.func89 ?_; simp (maxSteps := 9999999) only [go_sem, renCs_I, dpB_eq])); (try ((with_reducible refine And.intro ?_ ?_) <;> (repeat' with_reducible apply And.intro) <;> try exact sd)))
          refine again (i + 1) (fun j => if j = 2 then some 7232 else if j < 2 then some j else none) [] _ hlt (by omega) ?_
          simp (maxSteps := 9999999) only [go_sem, TmOK, DM, DMs, CM, CMs, forall_eq, exists_eq_left, Mq, HpOK, LowOK, hTn, dpB_eq]
          simp
          repeat' with_reducible apply And.intro
          all_goals first | exact CMs.kf (kf_I _) | exact CMs.kf (dpB_all ⟨vs, ar, bd⟩ _ _)
      · have hn2 : ¬ i < l.length := by omega
        obtain rfl : i = l.length := by omega
        refine drvL Try.func89 ?_
        simp (maxSteps := 9999999) only [go_sem, hn2]
        iterate 3 ((try (refine drvZ Try.func89 ?_; simp (maxSteps := 9999999) only [go_sem, hn2])); (try ((with_reducible refine And.intro ?_ ?_) <;> (repeat' with_reducible apply And.intro) <;> try exact sd)))
        refine RetOb.ofQ some [] (.c (.msl 2 1 0 w)) [some (dpB ⟨vs, ar, bd⟩ (T l.length).tr (T l.length).re), some ((nI s.sets).map I64), some ((nI (T l.length).sets).map I64)] ?_ (by rw [← hR]; exact ⟨rfl, rfl⟩) (by simp)
        simp [enumL, DM, DMs, CM, HpOK, LowOK, hOf, upd, hpL]
        exact ⟨CMs.kf (dpB_all ⟨vs, ar, bd⟩ _ _), CMs.kf (kf_I _), CMs.kf (kf_I _)⟩
    · simp (maxSteps := 9999999) only [go_sem, TmOK, DM, DMs, CM, CMs, forall_eq, exists_eq_left, Mq, HpOK, LowOK, hT0]
      simp
      exact ⟨CMs.kf (dpB_all ⟨vs, ar, bd⟩ _ _), CMs.kf (kf_I _)⟩
end Go.Proofs.Ytjjjidcbokbhpaa.CtD

namespace Go.Proofs.Ytjjjidcbokbhpaa.CtD
open Go Go.CT CtF CtR

/-- A set as a list of bools. -/
def bl (n N : Nat) : List Bool := (List.range n).map fun i => N.testBit i
theorem bl_len (n N : Nat) : (bl n N).length = n := by simp [bl]
end Go.Proofs.Ytjjjidcbokbhpaa.CtD

namespace Go.Proofs.Ytjjjidcbokbhpaa.CtD
open Go Go.CT CtF CtR

def pws (i : Nat) : List Nat := (List.range i).map fun i => 2 ^ i
theorem pws_len (i : Nat) : (pws i).length = i := by simp [pws]
theorem pws_succ (i : Nat) : pws (i + 1) = pws i ++ [2 ^ i] := by simp [pws, List.range_succ]
theorem start_ok {w : Nat} (hw : w ≤ 14) : Okd w (startD w) :=
  ⟨by simp [startD], hw, fun a ha => by
    obtain ⟨i, hi, rfl⟩ := List.mem_map.1 ha
    exact Nat.pow_lt_pow_right (by omega) (List.mem_range.1 hi), Nat.two_pow_pos w, Nat.two_pow_pos w⟩
theorem nI_snoc (S : List Nat) (x : Nat) : (nI (S ++ [x])).map I64 = (nI S).map I64 ++ [.v (.int .i64 (x : Int))] := by simp [nI]
theorem analysedI (p : Pg) {w : Nat} (hw : p.vars.length + p.arrays.length = w) (hw14 : w ≤ 14) (w0 : 0 < w) (hok : ∀ s ∈ p.body, stmtOK p 5 s = true) (hsz : lsize 5 p.body ≤ 1000) : DC Try.prog 52 [.agg p.cells] []
    (fun r h => r = .tup [.c (.ptr 0 0), .c (.msl 1 1 0 w)] ∧ h = [some (dpB p (depP p).tr (depP p).re), some ((nI (depP p).sets).map I64)]) := by
  have hmx := mx_eq
  have hce := cellsI p (by omega) (by omega)
  rw [hw] at hce
  have hrun := runDI p hw hw14 w0 5 p.body (startD w) 0 (start_ok hw14) (Nat.two_pow_pos w) hok hsz
  have hdp : foldD p.vars.length 5 0 p.body (startD w) = depP p := by unfold depP; rw [hw]
  rw [hdp] at hrun
  have hst : (startD w).sets = pws w := rfl
  have hst2 : (startD w).tr = 0 := rfl
  have hst3 : (startD w).re = 0 := rfl
  rw [hst, hst2, hst3] at hrun
  generalize depP p = X at *
  obtain ⟨xs, xt, xr⟩ := X
  obtain ⟨vs, ar, bd⟩ := p
  simp only at hrun
  generalize hR : (fun (r : D) (h : List (Option (List C))) => r = .tup [.c (.ptr 0 0), .c (.msl 1 1 0 w)] ∧ h = _) = R
  refine dcZ Try.func52 ?_
  simp (maxSteps := 9999999) only [go_sem]
  iterate 4 ((try (refine drvZ Try.func52 ?_; simp (maxSteps := 9999999) only [go_sem])); (try ((with_reducible refine And.intro ?_ ?_) <;> (repeat' with_reducible apply And.intro) <;> try exact sd)); (try first | refine XK.p hce ok88 ?_ | refine XK.gp hce ok88 ?_))
  refine Go.loopQ (fun i : Nat => [(1, .c (.ptr 0 0)), (4, .c (.ptr 320 0)), (5, .c (.msl 64 1 0 i)), (11, DI .i64 w), (12, DI .i64 i)])
    (fun i => [(0, some (Pg.cells ⟨vs, ar, bd⟩)), (320, some (dpB ⟨vs, ar, bd⟩ 0 0)), (64, some ((nI (pws i)).map I64))]) 4096 (fun i => i ≤ w) (fun i => w - i) ?_ 0 (fun j => if j = 64 then none else some j) [] _ (Nat.zero_le _) ?_
  · intro i hi again
    have hsn := nI_snoc (pws i) (2 ^ i)
    rw [← pws_succ] at hsn
    have hpl := pws_len i
    have hnl := nI_len (pws i)
    rcases Nat.lt_or_ge i w with hlt | hge
    · have h2 : 2 ^ i < 2 ^ w := Nat.pow_lt_pow_right (by omega) hlt
      have h3 := pow14 hw14 h2
      have hsh : (1 : Int) * 2 ^ i = ((2 ^ i : Nat) : Int) := by rw [Int.one_mul, Int.natCast_pow]; rfl
      have hsh2 : (2 : Int) ^ i = ((2 ^ i : Nat) : Int) := by rw [Int.natCast_pow]; rfl
      have hi14 : i < 14 := by omega
      generalize 2 ^ i = q at *
      refine drvL Try.func52 ?_
      simp (maxSteps := 9999999) only [go_sem, hlt]
      iterate 6 ((try (refine drvZ Try.func52 ?_; simp (maxSteps := 9999999) only [go_sem, hlt, hsh, hsh2, Int.one_mul, hnl, hpl])); (try ((with_reducible refine And.intro ?_ ?_) <;> (repeat' with_reducible apply And.intro) <;> try exact sd)); (try first | refine XK.p hce ok88 ?_ | refine XK.gp hce ok88 ?_))
      refine again (i + 1) (fun j => if j = 64 then some 4544 else some j) [] _ hlt (by omega) ?_
      simp (maxSteps := 9999999) only [go_sem, TmOK, DM, DMs, CM, CMs, forall_eq, exists_eq_left, Mq, HpOK, LowOK, hsn, dpB_eq]
      simp
      rw [← hsn]
      exact CMs.kf (kf_I _)
    · have hn : ¬ i < w := by omega
      obtain rfl : i = w := by omega
      refine drvL Try.func52 ?_
      simp (maxSteps := 9999999) only [go_sem, hn]
      iterate 2 ((try (refine drvZ Try.func52 ?_; simp (maxSteps := 9999999) only [go_sem, hn])); (try ((with_reducible refine And.intro ?_ ?_) <;> (repeat' with_reducible apply And.intro) <;> try exact sd)); (try first | refine XK.p hce ok88 ?_ | refine XK.gp hce ok88 ?_))
      refine XK.callG [320, 64] hrun ok89 (hhpG (by simp [HH, renCs_I, dpB_ren, upd, hOf])) (hbT ()) (fun d h' ⟨_, e⟩ => by subst e; simp) ?_
      rintro _ _ ⟨rfl, rfl⟩ _
      iterate 3 ((try (refine drvZ Try.func52 ?_; simp (maxSteps := 9999999) only [go_sem, renCs_I, dpB_ren])); (try ((with_reducible refine And.intro ?_ ?_) <;> (repeat' with_reducible apply And.intro) <;> try exact sd)))
      refine RetOb.ofQ (fun j => if j = 0 then some 320 else if j = 1 then some 4480 else none) [] (.tup [.c (.ptr 0 0), .c (.msl 1 1 0 i)]) [some (dpB ⟨vs, ar, bd⟩ xt xr), some ((nI xs).map I64)] ?_ (by rw [← hR]; exact ⟨rfl, rfl⟩) (by simp)
      simp [enumL, DM, DMs, CM, HpOK, LowOK, hOf, upd, hpL]
      repeat' with_reducible apply And.intro
      all_goals first | exact CMs.kf (kf_I _) | exact CMs.kf (dpB_all ⟨vs, ar, bd⟩ _ _)
  · simp (maxSteps := 9999999) only [go_sem, TmOK, DM, DMs, CM, CMs, forall_eq, exists_eq_left, Mq, HpOK, LowOK, dpB_eq]
    simp [pws, nI, hpL]
end Go.Proofs.Ytjjjidcbokbhpaa.CtD

namespace Go.Proofs.Ytjjjidcbokbhpaa.CtD
open Go Go.CT CtF CtR

theorem depP_ok (p : Pg) {w : Nat} (hw : p.vars.length + p.arrays.length = w) (hw14 : w ≤ 14) : Okd w (depP p) := by
  unfold depP; rw [hw]; exact foldl_ok (Nat.two_pow_pos w) _ (start_ok hw14)
end Go.Proofs.Ytjjjidcbokbhpaa.CtD

namespace Go.Proofs.Ytjjjidcbokbhpaa.CtD
open Go Go.CT CtF CtR

/-- Sets as rows of bools. -/
def rowsC (w : Nat) (S : List Nat) : List C := S.map fun N => boolsD (bl w N)
def rowsD (w : Nat) (S : List Nat) : C := .isl 1 (S.map fun N => [boolsD (bl w N)])
theorem rowsC_len (w : Nat) (S : List Nat) : (rowsC w S).length = S.length := by simp [rowsC]
theorem rowsC_kf (w : Nat) (S : List Nat) : ∀ c ∈ rowsC w S, kf c = true := fun c hc => by
  obtain ⟨N, _, rfl⟩ := List.mem_map.1 hc; rfl
theorem rowsC_flat (w : Nat) (S : List Nat) : (S.map fun N => [boolsD (bl w N)]).flatten = rowsC w S := flat1 _ _
theorem rowsC_succ (w : Nat) (S : List Nat) (i x : Nat) (h : S[i]? = some x) : rowsC w (S.take (i + 1)) = rowsC w (S.take i) ++ [boolsD (bl w x)] := by
  unfold rowsC; rw [List.take_add_one, h]; simp
end Go.Proofs.Ytjjjidcbokbhpaa.CtD
