/- Contracts of functions of the program, one behind the other, as plain data: what each call returns and which blocks it leaves. -/
import Derived.Test.YtjjjidcbokbhpaaMFacts
import Derived.Test.YtjjjidcbokbhpaaMAi
import Derived.Test.YtjjjidcbokbhpaaMAj
import Derived.Test.YtjjjidcbokbhpaaMAk
import Derived.Test.YtjjjidcbokbhpaaMAl
import Derived.Test.YtjjjidcbokbhpaaMAn
import Derived.Test.YtjjjidcbokbhpaaMAo
import Derived.Test.YtjjjidcbokbhpaaMAp
import Derived.Test.YtjjjidcbokbhpaaMAq
import Derived.Test.YtjjjidcbokbhpaaMAm
import Derived.Test.YtjjjidcbokbhpaaMAhX
set_option linter.unusedVariables false
set_option linter.unusedSimpArgs false
set_option maxHeartbeats 16000000
set_option maxRecDepth 100000
namespace Go.Proofs.Ytjjjidcbokbhpaa.CtR
open Go Go.CT CtF

theorem i_set (l : List Int) (j : Nat) (x : Int) : (l.map I64).set j (.v (.int .i64 x)) = (l.set j x).map I64 := by rw [List.map_set]
/-- Labels raised. -/
structure Up (l l' : List Int) : Prop where
  len : l'.length = l.length
  lab : lab3 l'
  le : ∀ (i : Nat) (x x' : Int), l[i]? = some x → l'[i]? = some x' → x ≤ x'
theorem Up.refl {l : List Int} (h : lab3 l) : Up l l := ⟨rfl, h, fun i x x' a b => by rw [a] at b; cases b; exact Int.le_refl _⟩
theorem Up.trans {a b c : List Int} (h : Up a b) (h' : Up b c) : Up a c :=
  ⟨h'.len.trans h.len, h'.lab, fun i x x' h1 h2 => by
    have hi : i < b.length := by have := (List.getElem?_eq_some_iff.1 h1).1; rw [h.len]; exact this
    exact Int.le_trans (h.le i x b[i] h1 (by simp [hi])) (h'.le i b[i] x' (by simp [hi]) h2)⟩
theorem Up.set {l l' : List Int} (h : Up l l') {i T n : Nat} (ht : l'[i]? = some (T : Int)) (hn : n ≤ 3) (hT : T ≤ n) : Up l (l'.set i (n : Int)) :=
  ⟨by rw [List.length_set, h.len], fun x hx => by
    rcases List.mem_or_eq_of_mem_set hx with h1 | rfl
    · exact h.lab x h1
    · omega, fun j x x' h1 h2 => by
    rw [List.getElem?_set] at h2
    by_cases e : i = j
    · subst e
      have hlt := (List.getElem?_eq_some_iff.1 ht).1
      rw [if_pos rfl, if_pos hlt] at h2
      cases h2
      have := h.le i x T h1 ht
      omega
    · rw [if_neg e] at h2; exact h.le j x x' h1 h2⟩
def raR (vs ar : List Int) (r : D) (h : List (Option (List C))) : Prop := ∃ vs' ar', r = .tup [] ∧ Up vs vs' ∧ Up ar ar' ∧ h = [some (vs'.map I64), some (ar'.map I64)]

theorem raise (q : Pg) (bd : List St1) (hl : q.vars.length ≤ 1000) (hl2 : q.arrays.length ≤ 1000) : ∀ (d : Nat) (l : List St1) (vs ar : List Int) (c : Nat), vs.length = q.vars.length → ar.length = q.arrays.length → lab3 vs → lab3 ar → c ≤ 3 → (∀ s ∈ l, stmtOK q d s = true) → l.length ≤ 1000 →
    (∀ s ∈ l, lsize d l ≤ 1000) →
    DC Try.prog 120 [.agg [.msl 0 1 0 vs.length, .msl 1 1 0 ar.length, .isl 11 (St1.cellsL bd)], .c (.isl 11 (St1.cellsL l)), DI .i64 c] [some (vs.map I64), some (ar.map I64)] (raR vs ar) := by
  have hmx := mx_eq
  intro d
  induction d with
  | zero =>
    intro l vs ar c hv ha h1 h2 hc hok hll hsz
    have hnil : l = [] := by
      cases l with
      | nil => rfl
      | cons a r => have := hok a (by simp); simp [stmtOK] at this
    subst hnil
    generalize hR : raR vs ar = R
    have hz : ((0 : Int) < 0) = False := eq_false (by omega)
    refine dcZ Try.func120 ?_
    simp (maxSteps := 9999999) only [go_sem, St1.cellsL, Int.natCast_zero]
    refine Go.loop ?_
    refine drvL Try.func120 ?_
    simp (maxSteps := 9999999) only [go_sem, St1.cellsL, Int.natCast_zero, hz]
    iterate 2 ((try (refine drvZ Try.func120 ?_; simp (maxSteps := 9999999) only [go_sem, St1.cellsL, Int.natCast_zero, hz])); (try ((with_reducible refine And.intro ?_ ?_) <;> (repeat' with_reducible apply And.intro) <;> try exact sd)))
    refine RetOb.ofQ some [] (.tup []) [some (vs.map I64), some (ar.map I64)] ?_ (by rw [← hR]; exact ⟨vs, ar, rfl, .refl h1, .refl h2, rfl⟩) (by simp)
    simp [enumL, DM, DMs, CM, HpOK, LowOK, hOf, upd, CMs_I, hpL]
  | succ d ih =>
    intro l vs ar c hv ha h1 h2 hc hok hll hsz
    generalize hR : raR vs ar = R
    refine dcZ Try.func120 ?_
    simp (maxSteps := 9999999) only [go_sem]
    refine Go.loopQ (fun σ : Nat × List Int × List Int => [(1, .c (.isl 11 (St1.cellsL l))), (2, DI .i64 c), (3, .c (.ptr 2 0)), (6, DI .i64 σ.1)])
      (fun σ => [(0, some (σ.2.1.map I64)), (1, some (σ.2.2.map I64)), (2, some [.msl 0 1 0 vs.length, .msl 1 1 0 ar.length, .isl 11 (St1.cellsL bd)])]) 4096 (fun σ => σ.1 ≤ l.length ∧ Up vs σ.2.1 ∧ Up ar σ.2.2) (fun σ => l.length - σ.1) ?_ (0, vs, ar) some [] _ ⟨Nat.zero_le _, .refl h1, .refl h2⟩ ?_
    · rintro ⟨i, xs, ys⟩ ⟨hi, hux, huy⟩ again
      simp only at hi hux huy
      have hxl := hux.len
      have hyl := huy.len
      rcases Nat.lt_or_ge i l.length with hlt | hge
      · obtain ⟨⟨k, t, ⟨ik, iv, iks⟩, ⟨vk, vv, vks⟩, cc, b, e⟩, hs⟩ : ∃ s, l[i]? = some s := ⟨l[i], by simp [hlt]⟩
        have hmem := List.mem_of_getElem? hs
        have hso := hok _ hmem
        have hsz := hsz _ hmem
        have hts := mem_le_lsize (d := d + 1) hmem
        have hsub := tsize_subs d (.mk k t (.mk ik iv iks) (.mk vk vv vks) cc b e)
        simp only [subs, St1.body, St1.els] at hsub
        have hbo := stmtOK_succ hso
        obtain ⟨s1, s2⟩ := shapeV hso
        have hlabv := fun h => labelO xs ys bd q (by omega) (by omega) (by omega) (by omega) hux.lab huy.lab 5 (.mk vk vv vks) (s1 h)
        have hlabi := fun h => labelO xs ys bd q (by omega) (by omega) (by omega) (by omega) hux.lab huy.lab 5 (.mk ik iv iks) (s2 h)
        have hlev := labN_le hux.lab huy.lab 5 (.mk vk vv vks)
        have hlei := labN_le hux.lab huy.lab 5 (.mk ik iv iks)
        have hbl : ∀ bl : List St1, lsize d bl ≤ 1000 → (∀ s ∈ bl, stmtOK q d s = true) → bl.length ≤ 1000 := fun bl h hk => by
          cases d with
          | zero =>
            cases bl with
            | nil => simp
            | cons a r => have := hk a (by simp); simp [stmtOK] at this
          | succ d => have := lsize_subs d bl; omega
        have hrb := fun c' hc' vs' ar' h1 h2 h3 h4 => ih b vs' ar' c' h1 h2 h3 h4 hc' hbo.2.1 (hbl b (by omega) hbo.2.1) (fun _ _ => by omega)
        have hre := fun c' hc' vs' ar' h1 h2 h3 h4 => ih e vs' ar' c' h1 h2 h3 h4 hc' hbo.2.2 (hbl e (by omega) hbo.2.2) (fun _ _ => by omega)
        generalize labN xs ys 5 (.mk vk vv vks) = lv at *
        generalize labN xs ys 5 (.mk ik iv iks) = li at *
        rw [hxl, hyl] at hlabv hlabi
        rcases head_kind hbo.1 with ⟨hk, ht0, ht1, hr⟩ | ⟨rfl, ht0, ht1, hri, hat, hr⟩ | ⟨rfl, hr⟩ | ⟨rfl, _, _⟩
        · rcases hk with rfl | rfl
          · have hlabv := hlabv (by decide)
            obtain ⟨T, hT, hTe, htt⟩ := lab_at hux.lab ht0 (by omega)
            have hor := or3 hT hlev
            have hor2 := or3 hor hc
            refine drvL Try.func120 ?_
            simp (maxSteps := 9999999) only [go_sem, hs, hlt]
            iterate 4 ((try (refine drvZ Try.func120 ?_; simp (maxSteps := 9999999) only [go_sem, hs, hlt, htt])); (try ((with_reducible refine And.intro ?_ ?_) <;> (repeat' with_reducible apply And.intro) <;> try exact sd)))
            refine XK.rp [0, 1] hlabv ok149 (by simp [HH, upd, hOf, renCs_I]) ⟨kfs_mapI _ (kf_I _), kfs_mapI _ (kf_I _), trivial⟩ ?_
            iterate 4 ((try (refine drvZ Try.func120 ?_; simp (maxSteps := 9999999) only [go_sem, hs, hlt, renCs_I, i_set, htt])); (try ((with_reducible refine And.intro ?_ ?_) <;> (repeat' with_reducible apply And.intro) <;> try exact sd)))
            refine again (i + 1, xs.set t.toNat (T ||| lv ||| c : Nat), ys) some [] _ ⟨hlt, hux.set htt hor2 (Nat.le_trans Nat.left_le_or Nat.left_le_or), huy⟩ (show l.length - (i + 1) < l.length - i by omega) ?_
            simp (maxSteps := 9999999) only [go_sem, TmOK, DM, DMs, CM, CMs, forall_eq, exists_eq_left, Mq, HpOK, LowOK]
            simp [CMs_I]
            try exact CMs.kf (by rw [← List.map_set]; exact kf_I _)
          · refine drvL Try.func120 ?_
            simp (maxSteps := 9999999) only [go_sem, hs, hlt, renCs_I, i_set]
            iterate 5 ((try (refine drvZ Try.func120 ?_; simp (maxSteps := 9999999) only [go_sem, hs, hlt, renCs_I, i_set])); (try ((with_reducible refine And.intro ?_ ?_) <;> (repeat' with_reducible apply And.intro) <;> try exact sd)))
            refine again (i + 1, xs, ys) some [] _ ⟨hlt, hux, huy⟩ (show l.length - (i + 1) < l.length - i by omega) ?_
            simp (maxSteps := 9999999) only [go_sem, TmOK, DM, DMs, CM, CMs, forall_eq, exists_eq_left, Mq, HpOK, LowOK]
            simp [CMs_I]
            try exact CMs.kf (by rw [← List.map_set]; exact kf_I _)
        · have hlabv := hlabv (by decide)
          have hlabi := hlabi rfl
          obtain ⟨T, hT, hTe, htt⟩ := lab_at huy.lab ht0 (by omega)
          have hor := or3 hT hlev
          have hor1 := or3 hor hlei
          have hor2 := or3 hor1 hc
          · refine drvL Try.func120 ?_
            simp (maxSteps := 9999999) only [go_sem, hs, hlt, renCs_I, i_set]
            iterate 5 ((try (refine drvZ Try.func120 ?_; simp (maxSteps := 9999999) only [go_sem, hs, hlt, renCs_I, i_set, htt])); (try ((with_reducible refine And.intro ?_ ?_) <;> (repeat' with_reducible apply And.intro) <;> try exact sd)))
            refine XK.rp [0, 1] hlabv ok149 (by simp [HH, upd, hOf, renCs_I]) ⟨kfs_mapI _ (kf_I _), kfs_mapI _ (kf_I _), trivial⟩ ?_
            iterate 3 ((try (refine drvZ Try.func120 ?_; simp (maxSteps := 9999999) only [go_sem, hs, hlt, renCs_I, i_set, htt])); (try ((with_reducible refine And.intro ?_ ?_) <;> (repeat' with_reducible apply And.intro) <;> try exact sd)))
            refine XK.rp [0, 1] hlabi ok149 (by simp [HH, upd, hOf, renCs_I]) ⟨kfs_mapI _ (kf_I _), kfs_mapI _ (kf_I _), trivial⟩ ?_
            iterate 4 ((try (refine drvZ Try.func120 ?_; simp (maxSteps := 9999999) only [go_sem, hs, hlt, renCs_I, i_set, htt])); (try ((with_reducible refine And.intro ?_ ?_) <;> (repeat' with_reducible apply And.intro) <;> try exact sd)))
            refine again (i + 1, xs, ys.set t.toNat (T ||| lv ||| li ||| c : Nat)) some [] _ ⟨hlt, hux, huy.set htt hor2 (Nat.le_trans Nat.left_le_or (Nat.le_trans Nat.left_le_or Nat.left_le_or))⟩ (show l.length - (i + 1) < l.length - i by omega) ?_
            simp (maxSteps := 9999999) only [go_sem, TmOK, DM, DMs, CM, CMs, forall_eq, exists_eq_left, Mq, HpOK, LowOK]
            simp [CMs_I]
            try exact CMs.kf (by rw [← List.map_set]; exact kf_I _)
        · have hlabv := hlabv (by decide)
          have hor := or3 hc hlev
          have hA := hux.lab
          have hB := huy.lab
          have hrb := hrb _ hor xs ys (by omega) (by omega) hA hB
          rw [hxl, hyl] at hrb
          · refine drvL Try.func120 ?_
            simp (maxSteps := 9999999) only [go_sem, hs, hlt, renCs_I, i_set]
            iterate 5 ((try (refine drvZ Try.func120 ?_; simp (maxSteps := 9999999) only [go_sem, hs, hlt, renCs_I, i_set])); (try ((with_reducible refine And.intro ?_ ?_) <;> (repeat' with_reducible apply And.intro) <;> try exact sd)))
            refine XK.rp [0, 1] hlabv ok149 (by simp [HH, upd, hOf, renCs_I]) ⟨kfs_mapI _ (kf_I _), kfs_mapI _ (kf_I _), trivial⟩ ?_
            iterate 3 ((try (refine drvZ Try.func120 ?_; simp (maxSteps := 9999999) only [go_sem, hs, hlt, renCs_I, i_set])); (try ((with_reducible refine And.intro ?_ ?_) <;> (repeat' with_reducible apply And.intro) <;> try exact sd)))
            refine XK.callG [0, 1] hrb ok120 (hhpG (by simp [HH, upd, hOf, renCs_I])) (hbT ()) (fun d h' ⟨_, _, _, _, _, e⟩ => by subst e; simp) ?_ (fun _ => ⟨by kernel_rfl, _, _, ⟨xs, ys, rfl, .refl hA, .refl hB, rfl⟩, by simp⟩)
            rintro _ _ ⟨xs2, ys2, rfl, u1, u2, rfl⟩ _
            have hxl2 := u1.len
            have hyl2 := u2.len
            have hlab2 := labelO xs2 ys2 bd q (by omega) (by omega) (by omega) (by omega) u1.lab u2.lab 5 (.mk vk vv vks) (s1 (by decide))
            have hlev2 := labN_le u1.lab u2.lab 5 (.mk vk vv vks)
            generalize labN xs2 ys2 5 (.mk vk vv vks) = lv2 at *
            have hor2 := or3 hc hlev2
            have hA := u1.lab
            have hB := u2.lab
            have hre := hre _ hor2 xs2 ys2 (by omega) (by omega) hA hB
            rw [hxl2, hyl2, hxl, hyl] at hre hlab2
            iterate 5 ((try (refine drvZ Try.func120 ?_; simp (maxSteps := 9999999) only [go_sem, hs, hlt, renCs_I, i_set])); (try ((with_reducible refine And.intro ?_ ?_) <;> (repeat' with_reducible apply And.intro) <;> try exact sd)))
            refine XK.rp [0, 1] hlab2 ok149 (by simp [HH, upd, hOf, renCs_I]) ⟨kfs_mapI _ (kf_I _), kfs_mapI _ (kf_I _), trivial⟩ ?_
            iterate 3 ((try (refine drvZ Try.func120 ?_; simp (maxSteps := 9999999) only [go_sem, hs, hlt, renCs_I, i_set])); (try ((with_reducible refine And.intro ?_ ?_) <;> (repeat' with_reducible apply And.intro) <;> try exact sd)))
            refine XK.callG [0, 1] hre ok120 (hhpG (by simp [HH, upd, hOf, renCs_I])) (hbT ()) (fun d h' ⟨_, _, _, _, _, e⟩ => by subst e; simp) ?_ (fun _ => ⟨by kernel_rfl, _, _, ⟨xs2, ys2, rfl, .refl hA, .refl hB, rfl⟩, by simp⟩)
            rintro _ _ ⟨xs3, ys3, rfl, u3, u4, rfl⟩ _
            iterate 5 ((try (refine drvZ Try.func120 ?_; simp (maxSteps := 9999999) only [go_sem, hs, hlt, renCs_I, i_set])); (try ((with_reducible refine And.intro ?_ ?_) <;> (repeat' with_reducible apply And.intro) <;> try exact sd)))
            refine again (i + 1, xs3, ys3) some [] _ ⟨hlt, (hux.trans u1).trans u3, (huy.trans u2).trans u4⟩ (show l.length - (i + 1) < l.length - i by omega) ?_
            simp (maxSteps := 9999999) only [go_sem, TmOK, DM, DMs, CM, CMs, forall_eq, exists_eq_left, Mq, HpOK, LowOK]
            simp [CMs_I]
            try exact CMs.kf (by rw [← List.map_set]; exact kf_I _)
        · have hrb := hrb c hc xs ys (by omega) (by omega) hux.lab huy.lab
          rw [hxl, hyl] at hrb
          · refine drvL Try.func120 ?_
            simp (maxSteps := 9999999) only [go_sem, hs, hlt, renCs_I, i_set]
            iterate 5 ((try (refine drvZ Try.func120 ?_; simp (maxSteps := 9999999) only [go_sem, hs, hlt, renCs_I, i_set])); (try ((with_reducible refine And.intro ?_ ?_) <;> (repeat' with_reducible apply And.intro) <;> try exact sd)))
            refine XK.callG [0, 1] hrb ok120 (hhpG (by simp [HH, upd, hOf, renCs_I])) (hbT ()) (fun d h' ⟨_, _, _, _, _, e⟩ => by subst e; simp) ?_
            rintro _ _ ⟨xs2, ys2, rfl, u1, u2, rfl⟩ _
            iterate 5 ((try (refine drvZ Try.func120 ?_; simp (maxSteps := 9999999) only [go_sem, hs, hlt, renCs_I, i_set])); (try ((with_reducible refine And.intro ?_ ?_) <;> (repeat' with_reducible apply And.intro) <;> try exact sd)))
            refine again (i + 1, xs2, ys2) some [] _ ⟨hlt, hux.trans u1, huy.trans u2⟩ (show l.length - (i + 1) < l.length - i by omega) ?_
            simp (maxSteps := 9999999) only [go_sem, TmOK, DM, DMs, CM, CMs, forall_eq, exists_eq_left, Mq, HpOK, LowOK]
            simp [CMs_I]
            try exact CMs.kf (by rw [← List.map_set]; exact kf_I _)
      · have hn : ¬ i < l.length := by omega
        refine drvL Try.func120 ?_
        simp (maxSteps := 9999999) only [go_sem, hn]
        iterate 3 ((try (refine drvZ Try.func120 ?_; simp (maxSteps := 9999999) only [go_sem, hn])); (try ((with_reducible refine And.intro ?_ ?_) <;> (repeat' with_reducible apply And.intro) <;> try exact sd)))
        refine RetOb.ofQ some [] (.tup []) [some (xs.map I64), some (ys.map I64)] ?_ (by rw [← hR]; exact ⟨xs, ys, rfl, hux, huy, rfl⟩) (by simp)
        simp [enumL, DM, DMs, CM, HpOK, LowOK, hOf, upd, CMs_I]
    · simp (maxSteps := 9999999) only [go_sem, TmOK, DM, DMs, CM, CMs, forall_eq, exists_eq_left, Mq, HpOK, LowOK]
      simp [CMs_I]
end Go.Proofs.Ytjjjidcbokbhpaa.CtR

namespace Go.Proofs.Ytjjjidcbokbhpaa.CtD
open Go Go.CT CtF CtR

def inR (p : Pg) (r : D) (h : List (Option (List C))) : Prop := ∃ (q : Pg) (ok : Bool), r = .tup [.agg q.cells, DB ok] ∧ h = [] ∧ (ok = true → Up p.vars q.vars ∧ Up p.arrays q.arrays ∧ q.body = p.body ∧ progOK p = true)
/-- How far labels can still be raised. -/
def roomL (l : List Int) : Nat := (l.map fun x => (3 - x).toNat).sum
theorem room_le : ∀ {l l' : List Int}, lab3 l → CtR.Up l l' → roomL l' ≤ roomL l ∧ (l ≠ l' → roomL l' < roomL l) := by
  intro l
  induction l with
  | nil => intro l' _ h; have := h.len; cases l' with
    | nil => simp
    | cons a r => simp at this
  | cons x r ih =>
    intro l' hl h
    have hlen := h.len
    cases l' with
    | nil => simp at hlen
    | cons y s =>
      have hx := hl x (by simp)
      have hy := h.lab y (by simp)
      have hxy := h.le 0 x y rfl rfl
      have h2 : CtR.Up r s := ⟨by simpa using hlen, fun z hz => h.lab z (by simp [hz]), fun i a b ha hb => h.le (i + 1) a b (by simpa using ha) (by simpa using hb)⟩
      obtain ⟨g1, g2⟩ := ih (fun z hz => hl z (by simp [hz])) h2
      have e : ∀ (z : Int) (t : List Int), roomL (z :: t) = (3 - z).toNat + roomL t := fun z t => by simp [roomL]
      rw [e, e]
      refine ⟨by omega, fun hne => ?_⟩
      by_cases hxe : x = y
      · subst hxe
        have := g2 (fun e => hne (by rw [e]))
        omega
      · omega

theorem inferS (p : Pg) (hl : p.vars.length ≤ 1000) (hl2 : p.arrays.length ≤ 1000) (hb : lsize 5 p.body ≤ 1099511627776) (k : Nat) (hsm : ∀ s ∈ p.body, SmS k s) : DC Try.prog 84 [.agg p.cells] [] (inR p) := by
  have hmx := mx_eq
  have hv := programValidS p (by omega) (by omega) hb
  generalize hR : inR p = R
  cases hq : progOK p with
  | false =>
    rw [hq] at hv
    obtain ⟨vs, ar, bd⟩ := p
    refine dcZ Try.func84 ?_
    simp (maxSteps := 9999999) only [go_sem]
    iterate 4 ((try (refine drvZ Try.func84 ?_; simp (maxSteps := 9999999) only [go_sem])); (try ((with_reducible refine And.intro ?_ ?_) <;> (repeat' with_reducible apply And.intro) <;> try exact sd)); (try first | refine XK.p hv ok62 ?_ | refine XK.gp hv ok62 ?_))
    refine RetOb.ofQ (fun _ => none) [] (.tup [.agg (Pg.cells ⟨[], [], []⟩), DB false]) [] ?_ (by rw [← hR]; exact ⟨_, false, rfl, rfl, fun h => by cases h⟩) (by simp)
    simp [enumL, DM, DMs, CM, CMs, HpOK, LowOK, Pg.cells, isI, St1.cellsL]
  | true =>
    rw [hq] at hv
    have hlab := labs_of hq
    have hbo := body_of hq
    have hbl : p.body.length ≤ 60 := by have h2 : lsize 5 p.body = _ := lsize_subs 4 p.body; have := hbo.2; omega
    have hcp := fun vs ar h1 h2 => l2Copy ⟨vs, ar, p.body⟩ k h1 h2 (show p.body.length ≤ 1000 by omega) hsm
    have hra := fun vs ar => raise p p.body hl hl2 5 p.body vs ar 0
    have hsa := fun vs vs' ar ar' h1 h2 => programSameS p vs vs' ar ar' p.body h1 h2 hbo.1 (by have := hbo.2; omega)
    have hcf := fun vs ar h1 h2 => checkFlowS ⟨vs, ar, p.body⟩ h1 h2 (show lsize 5 p.body ≤ 1099511627776 by omega)
    have hbk := hbo.1
    have hbs := hbo.2
    obtain ⟨vs, ar, bd⟩ := p
    simp only at hcp hra hsa hcf hl hl2 hlab hbl hbk hbs
    have hc0 := hcp vs ar hl hl2
    try simp only at hc0
    refine dcZ Try.func84 ?_
    simp (maxSteps := 9999999) only [go_sem]
    iterate 4 ((try (refine drvZ Try.func84 ?_; simp (maxSteps := 9999999) only [go_sem])); (try ((with_reducible refine And.intro ?_ ?_) <;> (repeat' with_reducible apply And.intro) <;> try exact sd)); (try first | refine XK.p hv ok62 ?_ | refine XK.gp hv ok62 ?_))
    refine XK.callG [] hc0 ok82 (fun i' x h => by simp at h) (hbT ()) (fun d h' ⟨_, e⟩ => by subst e; simp) ?_
    rintro _ _ ⟨rfl, rfl⟩ _
    iterate 4 ((try (refine drvZ Try.func84 ?_; simp (maxSteps := 9999999) only [go_sem, renCs_I, renCs_stC])); (try ((with_reducible refine And.intro ?_ ?_) <;> (repeat' with_reducible apply And.intro) <;> try exact sd)))
    have hstl : bd.map St1.cells = St1.cellsL bd := (St1.cellsL_eq bd).symm
    have hfl : (St1.cellsL bd).flatten = stC bd := by rw [St1.cellsL_eq]; rfl
    have hbz : ∀ x ∈ St1.cellsL bd, x.length = 11 := fun x hx => by
      rw [St1.cellsL_eq] at hx
      obtain ⟨s, _, rfl⟩ := List.mem_map.1 hx
      obtain ⟨k, t, ⟨ik, iv, iks⟩, ⟨vk, vv, vks⟩, cc, b, e⟩ := s
      rfl
    have hbkf : ∀ x ∈ St1.cellsL bd, ∀ c ∈ x, kf c = true := fun x hx => by
      rw [St1.cellsL_eq] at hx
      obtain ⟨s, _, rfl⟩ := List.mem_map.1 hx
      exact st_kf s
    have hcl : bd.length = (St1.cellsL bd).length := (St1.cellsL_length bd).symm
    refine Go.loopQ (fun σ : List Int × List Int => [(2, .c (.ptr 64 0)), (3, DB false), (4, .c (.ptr 512 0))])
      (fun σ => [(64, some [.v (.slice none 0 0), .v (.slice none 0 0), .v (.slice none 0 0)]), (512, some (Pg.cells ⟨σ.1, σ.2, bd⟩))]) 4096 (fun σ => CtR.Up vs σ.1 ∧ CtR.Up ar σ.2) (fun σ => roomL σ.1 + roomL σ.2) ?_ (vs, ar) some [448, 449, 450] _ ⟨.refl hlab.1, .refl hlab.2⟩ ?_
    · rintro ⟨xs, ys⟩ ⟨hux, huy⟩ again
      simp only at hux huy
      have hxl := hux.len
      have hyl := huy.len
      have hc1 := hcp xs ys (by omega) (by omega)
      try simp only at hc1
      have hr1 := hra xs ys hxl hyl hux.lab huy.lab (by decide) hbk (by omega) (fun _ _ => by omega)
      refine drvL Try.func84 ?_
      simp (maxSteps := 9999999) only [go_sem]
      iterate 2 ((try (refine drvZ Try.func84 ?_; simp (maxSteps := 9999999) only [go_sem])); (try ((with_reducible refine And.intro ?_ ?_) <;> (repeat' with_reducible apply And.intro) <;> try exact sd)))
      refine XK.callG [] hc1 ok82 (fun i' x h => by simp at h) (hbT ()) (fun d h' ⟨_, e⟩ => by subst e; simp) ?_
      rintro _ _ ⟨rfl, rfl⟩ _
      iterate 1 ((try (refine drvZ Try.func84 ?_; simp (maxSteps := 9999999) only [go_sem, renCs_I, renCs_stC])); (try ((with_reducible refine And.intro ?_ ?_) <;> (repeat' with_reducible apply And.intro) <;> try exact sd)))
      refine XK.subQ (r := some) (fz := [4162]) (tl := [(2, .c (.ptr 64 0)), (3, DB false), (4, .c (.ptr 512 0)), (5, .c (.ptr 4224 0)), (16, .agg [.msl 4160 1 0 xs.length, .msl 4161 1 0 ys.length, .isl 11 (St1.cellsL bd)]), (18, .c (.isl 11 (St1.cellsL bd)))])
        (hl := [(64, some [.v (.slice none 0 0), .v (.slice none 0 0), .v (.slice none 0 0)]), (512, some (Pg.cells ⟨xs, ys, bd⟩)), (4224, some [.msl 4160 1 0 xs.length, .msl 4161 1 0 ys.length, .isl 11 (St1.cellsL bd)]), (4160, some (xs.map I64)), (4161, some (ys.map I64))]) ?_ ?_
      · simp (maxSteps := 9999999) only [go_sem, TmOK, DM, DMs, CM, CMs, forall_eq, exists_eq_left, Mq, HpOK, LowOK]
        simp [CMs_I, flat_I', flat_I, hfl, hcl, kf]
        exact ⟨hbz, hbkf⟩
      refine XK.callG [4160, 4161] hr1 ok120 (hhpG (by simp [HH, upd, hOf, renCs_I])) (hbT ()) (fun d h' ⟨_, _, _, _, _, e⟩ => by subst e; simp) ?_
      rintro _ _ ⟨xs2, ys2, rfl, u1, u2, rfl⟩ _
      have hxl2 := u1.len
      have hyl2 := u2.len
      refine XK.subQ (r := some) (fz := [4160, 4161]) (tl := [(2, .c (.ptr 64 0)), (3, DB false), (4, .c (.ptr 512 0)), (5, .c (.ptr 4224 0))]) (hl := [(64, some [.v (.slice none 0 0), .v (.slice none 0 0), .v (.slice none 0 0)]), (512, some (Pg.cells ⟨xs, ys, bd⟩)), (4224, some (Pg.cells ⟨xs2, ys2, bd⟩))]) ?_ ?_
      · simp (maxSteps := 9999999) only [go_sem, TmOK, DM, DMs, CM, CMs, forall_eq, exists_eq_left, Mq, HpOK, LowOK]
        simp [CMs_I, flat_I', flat_I, kf, hxl2, hyl2, upd, renCs_I]
      have hs2 := hsa xs2 xs ys2 ys (by omega) (by omega)
      have hr1 := room_le hux.lab u1
      have hr2 := room_le huy.lab u2
      have hcfx := hcf xs ys (by omega) (by omega)
      generalize hB : (decide (xs2 = xs) && decide (ys2 = ys)) = B at *
      cases B with
      | false =>
        iterate 5 ((try (refine drvZ Try.func84 ?_; simp (maxSteps := 9999999) only [go_sem])); (try ((with_reducible refine And.intro ?_ ?_) <;> (repeat' with_reducible apply And.intro) <;> try exact sd)); (try first | refine XK.p hs2 ok121 ?_ | refine XK.gp hs2 ok121 ?_))
        refine again (xs2, ys2) some [] _ ⟨hux.trans u1, huy.trans u2⟩ ?_ ?_
        · show roomL xs2 + roomL ys2 < roomL xs + roomL ys
          by_cases e1 : xs = xs2
          · by_cases e2 : ys = ys2
            · subst e1 e2; simp at hB
            · have := hr2.2 e2; omega
          · have := hr1.2 e1; omega
        · simp (maxSteps := 9999999) only [go_sem, TmOK, DM, DMs, CM, CMs, forall_eq, exists_eq_left, Mq, HpOK, LowOK]
          simp
      | true =>
        generalize hc : chkR flowR ⟨xs, ys, bd⟩ = x at *
        obtain ⟨code, at_⟩ := x
        by_cases hz : code = 0
        · subst hz
          iterate 9 ((try (refine drvZ Try.func84 ?_; simp (maxSteps := 9999999) only [go_sem, bne_self_eq_false])); (try ((with_reducible refine And.intro ?_ ?_) <;> (repeat' with_reducible apply And.intro) <;> try exact sd)); (try first | refine XK.p hs2 ok121 ?_ | refine XK.gp hs2 ok121 ?_ | refine XK.p hcfx ok122 ?_ | refine XK.gp hcfx ok122 ?_))
          refine RetOb.ofQ (fun _ => none) [] (.tup [.agg (Pg.cells ⟨xs, ys, bd⟩), DB true]) [] ?_ (by rw [← hR]; exact ⟨⟨xs, ys, bd⟩, true, rfl, rfl, fun _ => ⟨hux, huy, rfl, hq⟩⟩) (by simp)
          simp [enumL, DM, DMs, CM, CMs, HpOK, LowOK, Pg.cells, isI]
        · have g1 : (code = 0) = False := eq_false hz
          have g2 : (code != 0) = true := by simp [hz]
          iterate 9 ((try (refine drvZ Try.func84 ?_; simp (maxSteps := 9999999) only [go_sem, g1, g2])); (try ((with_reducible refine And.intro ?_ ?_) <;> (repeat' with_reducible apply And.intro) <;> try exact sd)); (try first | refine XK.p hs2 ok121 ?_ | refine XK.gp hs2 ok121 ?_ | refine XK.p hcfx ok122 ?_ | refine XK.gp hcfx ok122 ?_))
          refine RetOb.ofQ (fun _ => none) [] (.tup [.agg (Pg.cells ⟨[], [], []⟩), DB false]) [] ?_ (by rw [← hR]; exact ⟨_, false, rfl, rfl, fun h => by cases h⟩) (by simp)
          simp [enumL, DM, DMs, CM, CMs, HpOK, LowOK, Pg.cells, isI, St1.cellsL]
    · simp (maxSteps := 9999999) only [go_sem, TmOK, DM, DMs, CM, CMs, forall_eq, exists_eq_left, Mq, HpOK, LowOK]
      simp [CMs_I, flat_I', flat_I, hfl, hcl, kf]
      try exact ⟨hbz, hbkf⟩
end Go.Proofs.Ytjjjidcbokbhpaa.CtD

namespace Go.Proofs.Ytjjjidcbokbhpaa.CtD
open Go Go.CT CtF CtR

theorem stmtOK_len {p q : Pg} (h1 : q.vars.length = p.vars.length) (h2 : q.arrays.length = p.arrays.length) : ∀ (d : Nat) (s : St1), stmtOK q d s = stmtOK p d s := by
  have hsh : ∀ (d : Nat) (e : Ex), CtR.shape q d e = CtR.shape p d e := by
    have hlim : ∀ k, limit q k = limit p k := fun k => by simp only [limit, h1, h2]
    intro d
    induction d with
    | zero => intro e; rfl
    | succ d ih =>
      intro e
      obtain ⟨k, v, ks⟩ := e
      have he : CtR.shape q d = CtR.shape p d := funext ih
      simp only [CtR.shape, fitsE, hlim, he]
  have hr : ∀ e, right q e = right p e := fun e => by simp only [right, hsh]
  intro d
  induction d with
  | zero => intro s; rfl
  | succ d ih =>
    intro s
    obtain ⟨k, t, ix, v, c, b, e⟩ := s
    have h3 : ∀ l : List St1, l.all (stmtOK q d) = l.all (stmtOK p d) := fun l => by congr 1; funext s; exact ih s
    simp only [stmtOK, headOK, hr, h1, h2, h3]
theorem DrP.up {p q : Pg} (h : DrP p) (h1 : CtR.Up p.vars q.vars) (h2 : CtR.Up p.arrays q.arrays) (h3 : q.body = p.body) : DrP q := by
  refine ⟨?_, by rw [h1.len]; exact h.nv, by rw [h2.len]; exact h.na, by rw [h3]; exact h.nb, by rw [h3]; exact h.sm⟩
  have hok := h.ok
  simp only [progOK, headsOK, Bool.and_eq_true, decide_eq_true_eq] at hok ⊢
  have hst : (stmtOK q 5) = stmtOK p 5 := funext fun s => stmtOK_len h1.len h2.len 5 s
  refine ⟨⟨?_, by rw [h3, hst]; exact hok.1.2⟩, by rw [h3]; exact hok.2⟩
  have hl : ∀ l : List Int, lab3 l → labs l = true := fun l hl => by
    simp only [labs, List.all_eq_true, Bool.and_eq_true, decide_eq_true_eq]
    exact hl
  obtain ⟨⟨⟨⟨g1, g2⟩, g3⟩, g4⟩, g5⟩ := hok.1.1
  rw [h1.len, h2.len]
  exact ⟨⟨⟨⟨g1, g2⟩, g3⟩, hl _ h1.lab⟩, hl _ h2.lab⟩
def tyR (bs : List Int) (n : Nat) (r : D) (h : List (Option (List C))) : Prop := ∃ p : Pg, r = .agg p.cells ∧ DrP p ∧ rdL bs n 1000001 h

theorem typed (bs : List Int) (n : Nat) (hb : Fits .u8 bs) (hl : bs.length ≤ 2000) (hn : n ≤ 274000000000) : DC Try.prog 48 [.c (.ptr 0 0)] [some (rdr bs n)] (tyR bs n) := by
  have hmx := mx_eq
  have hpr := l2Program bs n hb hl (by omega)
  generalize hR : tyR bs n = R
  have fin : ∀ (p : Pg) (n' : Nat) (hp : Hp), DrP p → n ≤ n' → n' ≤ n + 1000001 → hp 0 = some (some (rdr bs n')) → RetOb 1 R (.agg p.cells) hp := fun p n' hp h1 h2 h3 h4 => by
    refine RetOb.keep1 (d := .agg p.cells) (cs := rdr bs n') (by rw [← hR]; exact ⟨p, rfl, h1, n', h2, h3, rfl⟩) h4 (rdr_kf _ _) ?_
    intro c hc
    simp only [Pg.cells, isI, List.mem_cons, List.not_mem_nil, or_false] at hc
    rcases hc with rfl | rfl | rfl <;> rfl
  refine dcZ Try.func48 ?_
  simp (maxSteps := 9999999) only [go_sem, rdr]
  refine XK.callG [0] hpr ok26 (hhp_one rfl) (hbT ()) (fun d h' ⟨_, _, _, _, _, _, e⟩ => by subst e; simp) ?_
  rintro _ _ ⟨p, rfl, hp, n1, hn1, hn2, rfl⟩ _
  have hln := prog_len hp.ok
  have hin := inferS p (by omega) (by omega) (by have := (body_of hp.ok).2; omega) 2 hp.sm
  obtain ⟨vs, ar, bd⟩ := p
  iterate 2 ((try (refine drvZ Try.func48 ?_; simp (maxSteps := 9999999) only [go_sem, renCs_rdr])); (try ((with_reducible refine And.intro ?_ ?_) <;> (repeat' with_reducible apply And.intro) <;> try exact sd)))
  refine XK.callG [0] (pick bs n1 4 hb hl (by omega) (by simp only [InK]; omega)) ok77 (hhp_one (by simp [upd, renCs_rdr])) (hbT ()) (fun d h' ⟨v, _, _, e⟩ => by subst e; simp) ?_
  rintro _ _ ⟨v, rfl, hpv, rfl⟩ _
  by_cases hv : v = 0
  · subst hv
    iterate 4 ((try (refine drvZ Try.func48 ?_; simp (maxSteps := 9999999) only [go_sem, renCs_rdr])); (try ((with_reducible refine And.intro ?_ ?_) <;> (repeat' with_reducible apply And.intro) <;> try exact sd)))
    exact fin ⟨vs, ar, bd⟩ (n1 + 1) _ hp (by omega) (by omega) rfl
  · have g1 : (v = 0) = False := eq_false hv
    have g2 : (v == 0) = false := by simp [hv]
    iterate 4 ((try (refine drvZ Try.func48 ?_; simp (maxSteps := 9999999) only [go_sem, renCs_rdr, g1, g2])); (try ((with_reducible refine And.intro ?_ ?_) <;> (repeat' with_reducible apply And.intro) <;> try exact sd)))
    refine XK.callG [] hin ok84 (fun i' x h => by simp at h) (hbT ()) (fun d h' ⟨_, _, _, e, _⟩ => by subst e; simp) ?_
    rintro _ _ ⟨q, ok, rfl, rfl, hq⟩ _
    cases ok with
    | false =>
      obtain ⟨vs2, ar2, bd2⟩ := q
      iterate 5 ((try (refine drvZ Try.func48 ?_; simp (maxSteps := 9999999) only [go_sem, renCs_rdr])); (try ((with_reducible refine And.intro ?_ ?_) <;> (repeat' with_reducible apply And.intro) <;> try exact sd)))
      exact fin ⟨vs, ar, bd⟩ (n1 + 1) _ hp (by omega) (by omega) rfl
    | true =>
      obtain ⟨g3, g4, g5, _⟩ := hq rfl
      have hp2 := hp.up g3 g4 g5
      obtain ⟨vs2, ar2, bd2⟩ := q
      iterate 5 ((try (refine drvZ Try.func48 ?_; simp (maxSteps := 9999999) only [go_sem, renCs_rdr])); (try ((with_reducible refine And.intro ?_ ?_) <;> (repeat' with_reducible apply And.intro) <;> try exact sd)))
      exact fin ⟨vs2, ar2, bd2⟩ (n1 + 1) _ hp2 (by omega) (by omega) rfl
end Go.Proofs.Ytjjjidcbokbhpaa.CtD

namespace Go.Proofs.Ytjjjidcbokbhpaa.CtD
open Go Go.CT CtF CtR

structure LowV {α : Type} (β : Nat) (ls : List Int) (a a' : List α) : Prop where
  len : a'.length = a.length
  eq : ∀ (j : Nat) (x : Int), ls[j]? = some x → x.toNat.testBit β = false → a[j]? = a'[j]?
theorem LowV.refl {α : Type} (β : Nat) (ls : List Int) (a : List α) : LowV β ls a a := ⟨rfl, fun _ _ _ _ => rfl⟩
theorem LowV.set {α : Type} {β : Nat} {ls : List Int} {a a' : List α} (h : LowV β ls a a') {i : Nat} {x : Int} (hx : ls[i]? = some x) (hb : x.toNat.testBit β = true) (v : α) : LowV β ls a (a'.set i v) :=
  ⟨by rw [List.length_set, h.len], fun j y hy hf => by
    rw [List.getElem?_set]
    by_cases e : i = j
    · subst e; rw [hx] at hy; cases hy; rw [hb] at hf; cases hf
    · rw [if_neg e]; exact h.eq j y hy hf⟩
end Go.Proofs.Ytjjjidcbokbhpaa.CtD

namespace Go.Proofs.Ytjjjidcbokbhpaa.CtR
open Go Go.CT CtF

/-- The sets of all cells, of the trace and of the releases, as bits. -/
structure Dp where
  sets : List Nat
  tr : Nat
  re : Nat
abbrev orL (l : List Nat) : Nat := l.foldl (fun a b => a ||| b) 0
def dat (s : List Nat) (i : Nat) : Nat := s.getD i 0
def setE (nv : Nat) (s : List Nat) : Nat → Ex → Nat × Nat
  | 0, _ => (0, 0)
  | d + 1, .mk k v ks =>
    let o := orL (ks.map fun e => (setE nv s d e).1)
    let a := orL (ks.map fun e => (setE nv s d e).2)
    if k = 2 then (o ||| dat s v.toNat, a) else if k = 3 then (o ||| dat s (nv + v.toNat), a ||| o) else (o, a)
def unite (a b : List Nat) : List Nat := List.zipWith (fun x y => x ||| y) a b
def fixD (f : Dp → Dp) : Nat → Dp → Dp
  | 0, s => s
  | n + 1, s => if unite s.sets (f s).sets = s.sets then ⟨s.sets, (f s).tr, (f s).re⟩ else fixD f n ⟨unite s.sets (f s).sets, (f s).tr, (f s).re⟩
/-- Rounds enough for every fixed point. -/
def FU : Nat := 2 ^ 20
def depS (nv : Nat) : Nat → Nat → Dp → St1 → Dp
  | 0, _, s, _ => s
  | d + 1, c, s, .mk k t ix v cc b e =>
    if k = 4 then fixD (fun s => b.foldl (depS nv d c) s) FU s
    else
      let V := setE nv s.sets 5 v
      if k = 2 then
        let I := setE nv s.sets 5 ix
        ⟨s.sets.set (nv + t.toNat) (dat s.sets (nv + t.toNat) ||| (V.1 ||| I.1 ||| c)), s.tr ||| V.2 ||| I.2 ||| I.1, s.re⟩
      else if k = 3 then
        let y := b.foldl (depS nv d (c ||| V.1)) ⟨s.sets, s.tr ||| V.2 ||| V.1, s.re⟩
        let n := e.foldl (depS nv d (c ||| V.1)) ⟨s.sets, y.tr, y.re⟩
        ⟨unite y.sets n.sets, n.tr, n.re⟩
      else if k = 5 then ⟨s.sets.set t.toNat (V.1 ||| c), s.tr ||| V.2 ||| (V.1 ||| c), s.re ||| (V.1 ||| c)⟩
      else ⟨s.sets.set t.toNat (V.1 ||| c), s.tr ||| V.2, s.re⟩
def startD (w : Nat) : Dp := ⟨(List.range w).map fun i => 2 ^ i, 0, 0⟩
def depP (p : Pg) : Dp := p.body.foldl (depS p.vars.length 5 0) (startD (p.vars.length + p.arrays.length))

theorem depS_4 (nv d c : Nat) (s : Dp) (t : Int) (ix v : Ex) (cc : Int) (b e : List St1) : depS nv (d + 1) c s (.mk 4 t ix v cc b e) = fixD (fun s => b.foldl (depS nv d c) s) FU s := by simp [depS]
theorem depS_1 (nv d c : Nat) (s : Dp) (t : Int) (ix v : Ex) (cc : Int) (b e : List St1) : depS nv (d + 1) c s (.mk 1 t ix v cc b e) = ⟨s.sets.set t.toNat ((setE nv s.sets 5 v).1 ||| c), s.tr ||| (setE nv s.sets 5 v).2, s.re⟩ := by simp [depS]
theorem depS_5 (nv d c : Nat) (s : Dp) (t : Int) (ix v : Ex) (cc : Int) (b e : List St1) : depS nv (d + 1) c s (.mk 5 t ix v cc b e) = ⟨s.sets.set t.toNat ((setE nv s.sets 5 v).1 ||| c), s.tr ||| (setE nv s.sets 5 v).2 ||| ((setE nv s.sets 5 v).1 ||| c), s.re ||| ((setE nv s.sets 5 v).1 ||| c)⟩ := by simp [depS]
theorem depS_2 (nv d c : Nat) (s : Dp) (t : Int) (ix v : Ex) (cc : Int) (b e : List St1) : depS nv (d + 1) c s (.mk 2 t ix v cc b e) =
    ⟨s.sets.set (nv + t.toNat) (dat s.sets (nv + t.toNat) ||| ((setE nv s.sets 5 v).1 ||| (setE nv s.sets 5 ix).1 ||| c)), s.tr ||| (setE nv s.sets 5 v).2 ||| (setE nv s.sets 5 ix).2 ||| (setE nv s.sets 5 ix).1, s.re⟩ := by simp [depS]
def ifY (nv d c : Nat) (s : Dp) (v : Ex) (b : List St1) : Dp := b.foldl (depS nv d (c ||| (setE nv s.sets 5 v).1)) ⟨s.sets, s.tr ||| (setE nv s.sets 5 v).2 ||| (setE nv s.sets 5 v).1, s.re⟩
def ifN (nv d c : Nat) (s : Dp) (v : Ex) (b e : List St1) : Dp := e.foldl (depS nv d (c ||| (setE nv s.sets 5 v).1)) ⟨s.sets, (ifY nv d c s v b).tr, (ifY nv d c s v b).re⟩
theorem depS_3 (nv d c : Nat) (s : Dp) (t : Int) (ix v : Ex) (cc : Int) (b e : List St1) : depS nv (d + 1) c s (.mk 3 t ix v cc b e) =
    ⟨unite (ifY nv d c s v b).sets (ifN nv d c s v b e).sets, (ifN nv d c s v b e).tr, (ifN nv d c s v b e).re⟩ := by simp [depS, ifY, ifN]

/-- A cell's set has a bit. -/
def bt (k : Nat) (s : List Nat) (i : Nat) : Bool := (dat s i).testBit k
theorem dat_set (s : List Nat) (i j x : Nat) : dat (s.set i x) j = if i = j ∧ i < s.length then x else dat s j := by
  unfold dat
  rw [List.getD_eq_getElem?_getD, List.getD_eq_getElem?_getD, List.getElem?_set]
  by_cases h : i = j
  · subst h
    by_cases h2 : i < s.length <;> simp [h2]
  · simp [h]
theorem unite_len {a b : List Nat} (h : b.length = a.length) : (unite a b).length = a.length := by simp [unite, h]
theorem dat_unite {a b : List Nat} (h : b.length = a.length) (i : Nat) : dat (unite a b) i = dat a i ||| dat b i := by
  unfold dat unite
  simp only [List.getD_eq_getElem?_getD, List.getElem?_zipWith]
  by_cases hi : i < a.length
  · have hj : i < b.length := by omega
    simp [hi, hj]
  · have hj : ¬ i < b.length := by omega
    simp [List.getElem?_eq_none (Nat.not_lt.mp hi), List.getElem?_eq_none (Nat.not_lt.mp hj)]
theorem list_sum_lt {w : Nat} : ∀ {l : List Nat}, (∀ a ∈ l, a < 2 ^ w) → l.sum ≤ l.length * 2 ^ w
  | [], _ => by simp
  | a :: r, h => by
    have := list_sum_lt (l := r) fun b hb => h b (by simp [hb])
    have := h a (by simp)
    simp only [List.sum_cons, List.length_cons, Nat.succ_mul]; omega
theorem unite_sum : ∀ {a b : List Nat}, b.length = a.length → a.sum ≤ (unite a b).sum ∧ (unite a b ≠ a → a.sum < (unite a b).sum)
  | [], [], _ => by simp [unite]
  | a :: r, b :: q, h => by
    have ⟨h1, h2⟩ := unite_sum (a := r) (b := q) (by simpa using h)
    have e : unite (a :: r) (b :: q) = (a ||| b) :: unite r q := by simp [unite]
    have h3 : a ≤ a ||| b := Nat.left_le_or
    rw [e]
    simp only [List.sum_cons]
    refine ⟨by omega, fun hne => ?_⟩
    by_cases h4 : unite r q = r
    · have : a ||| b ≠ a := fun h5 => hne (by rw [h4, h5])
      omega
    · have := h2 h4
      omega
  | [], _ :: _, h => by simp at h
  | _ :: _, [], h => by simp at h

/-- Sets of w cells. -/
structure Okd (w : Nat) (s : Dp) : Prop where
  len : s.sets.length = w
  le : w ≤ 14
  row : ∀ a ∈ s.sets, a < 2 ^ w
  tr : s.tr < 2 ^ w
  re : s.re < 2 ^ w
theorem dat_lt {w : Nat} {s : List Nat} (h : ∀ a ∈ s, a < 2 ^ w) (i : Nat) : dat s i < 2 ^ w := by
  unfold dat
  rw [List.getD_eq_getElem?_getD]
  cases he : s[i]? with
  | none => simp; exact Nat.two_pow_pos w
  | some a => exact h a (List.mem_of_getElem? he)
theorem orL_lt {w : Nat} : ∀ {l : List Nat} {a : Nat}, a < 2 ^ w → (∀ x ∈ l, x < 2 ^ w) → l.foldl (fun a b => a ||| b) a < 2 ^ w
  | [], a, h, _ => h
  | b :: r, a, h, hl => by rw [List.foldl_cons]; exact orL_lt (Nat.or_lt_two_pow h (hl b (by simp))) fun x hx => hl x (by simp [hx])
theorem setE_lt {w nv : Nat} {s : List Nat} (h : ∀ a ∈ s, a < 2 ^ w) : ∀ (d : Nat) (e : Ex), (setE nv s d e).1 < 2 ^ w ∧ (setE nv s d e).2 < 2 ^ w
  | 0, _ => ⟨Nat.two_pow_pos w, Nat.two_pow_pos w⟩
  | d + 1, .mk k v ks => by
    have h1 : orL (ks.map fun e => (setE nv s d e).1) < 2 ^ w := orL_lt (Nat.two_pow_pos w) fun x hx => by
      obtain ⟨e, he, rfl⟩ := List.mem_map.1 hx; exact (setE_lt h d e).1
    have h2 : orL (ks.map fun e => (setE nv s d e).2) < 2 ^ w := orL_lt (Nat.two_pow_pos w) fun x hx => by
      obtain ⟨e, he, rfl⟩ := List.mem_map.1 hx; exact (setE_lt h d e).2
    simp only [setE]
    split
    · exact ⟨Nat.or_lt_two_pow h1 (dat_lt h _), h2⟩
    · split
      · exact ⟨Nat.or_lt_two_pow h1 (dat_lt h _), Nat.or_lt_two_pow h2 h1⟩
      · exact ⟨h1, h2⟩
theorem set_row {w : Nat} {s : List Nat} (h : ∀ a ∈ s, a < 2 ^ w) {i x : Nat} (hx : x < 2 ^ w) : ∀ a ∈ s.set i x, a < 2 ^ w := fun a ha => by
  rcases List.mem_or_eq_of_mem_set ha with h1 | h1
  · exact h a h1
  · rw [h1]; exact hx
theorem unite_row {w : Nat} : ∀ {a b : List Nat}, (∀ x ∈ a, x < 2 ^ w) → (∀ x ∈ b, x < 2 ^ w) → ∀ x ∈ unite a b, x < 2 ^ w
  | [], _, _, _, x, hx => by simp [unite] at hx
  | _ :: _, [], _, _, x, hx => by simp [unite] at hx
  | a :: r, b :: q, h1, h2, x, hx => by
    have e : unite (a :: r) (b :: q) = (a ||| b) :: unite r q := by simp [unite]
    rw [e] at hx
    rcases List.mem_cons.1 hx with h | h
    · rw [h]; exact Nat.or_lt_two_pow (h1 a (by simp)) (h2 b (by simp))
    · exact unite_row (fun y hy => h1 y (by simp [hy])) (fun y hy => h2 y (by simp [hy])) x h
theorem Okd.unite {w : Nat} {s t : Dp} (h : Okd w s) (h' : Okd w t) {a b : Nat} (ha : a < 2 ^ w) (hb : b < 2 ^ w) : Okd w ⟨CtR.unite s.sets t.sets, a, b⟩ :=
  ⟨by rw [unite_len (by rw [h'.len, h.len])]; exact h.len, h.le, unite_row h.row h'.row, ha, hb⟩

/-- What a fixed point is. -/
theorem fix_spec {w : Nat} {f : Dp → Dp} (hf : ∀ s, Okd w s → Okd w (f s)) (Q : Dp → Prop)
    (hQ : ∀ s, Okd w s → Q s → Q ⟨unite s.sets (f s).sets, (f s).tr, (f s).re⟩) : ∀ (n : Nat) (s : Dp), Okd w s → Q s → w * 2 ^ w < n + s.sets.sum →
    ∃ t, Okd w t ∧ Q t ∧ fixD f n s = ⟨t.sets, (f t).tr, (f t).re⟩ ∧ unite t.sets (f t).sets = t.sets
  | 0, s, h, _, hn => by
    have := list_sum_lt (w := w) h.row
    rw [h.len] at this
    omega
  | n + 1, s, h, hq, hn => by
    have hfs := hf s h
    unfold fixD
    by_cases he : unite s.sets (f s).sets = s.sets
    · rw [if_pos he]
      exact ⟨s, h, hq, rfl, he⟩
    · rw [if_neg he]
      have h2 := (unite_sum (a := s.sets) (b := (f s).sets) (by rw [hfs.len, h.len])).2 he
      exact fix_spec hf Q hQ n _ (h.unite hfs hfs.tr hfs.re) (hQ s h hq) (by show w * 2 ^ w < n + (unite s.sets (f s).sets).sum; omega)
theorem fu_big {w : Nat} (h : w ≤ 14) (x : Nat) : w * 2 ^ w < FU + x := by
  have h1 : 2 ^ w ≤ 2 ^ 14 := Nat.pow_le_pow_right (by omega) h
  have h2 : w * 2 ^ w ≤ 14 * 2 ^ 14 := Nat.mul_le_mul h h1
  unfold FU
  omega

theorem fold_inv {α β : Type} {Q : α → Prop} {f : α → β → α} : ∀ (l : List β) (s : α), Q s → (∀ x ∈ l, ∀ s, Q s → Q (f s x)) → Q (l.foldl f s)
  | [], _, h, _ => h
  | x :: r, s, h, hf => fold_inv r _ (hf x (by simp) s h) fun y hy => hf y (by simp [hy])

theorem dep_ok {w nv : Nat} : ∀ (d c : Nat) (s : Dp) (t : St1), c < 2 ^ w → Okd w s → Okd w (depS nv d c s t)
  | 0, _, _, _, _, h => h
  | d + 1, c, s, .mk k t ix v cc b e, hc, h => by
    have hV := setE_lt (nv := nv) h.row 5 v
    have hI := setE_lt (nv := nv) h.row 5 ix
    have hl : ∀ (c : Nat) (l : List St1) (s : Dp), c < 2 ^ w → Okd w s → Okd w (l.foldl (depS nv d c) s) := fun c l s hc h =>
      fold_inv (Q := Okd w) l s h fun x _ s hs => dep_ok d c s x hc hs
    have o := fun {a b : Nat} (h1 : a < 2 ^ w) (h2 : b < 2 ^ w) => Nat.or_lt_two_pow h1 h2
    by_cases k4 : k = 4
    · subst k4
      rw [depS_4]
      obtain ⟨t, ht, _, e1, _⟩ := fix_spec (f := fun s => b.foldl (depS nv d c) s) (fun s hs => hl c b s hc hs) (fun _ => True) (fun _ _ _ => trivial) FU s h trivial (fu_big h.le _)
      rw [e1]
      have := hl c b t hc ht
      exact ⟨ht.len, ht.le, ht.row, this.tr, this.re⟩
    by_cases k1 : k = 1
    · subst k1
      rw [depS_1]
      exact ⟨by simp [h.len], h.le, set_row h.row (o hV.1 hc), o h.tr hV.2, h.re⟩
    by_cases k5 : k = 5
    · subst k5
      rw [depS_5]
      exact ⟨by simp [h.len], h.le, set_row h.row (o hV.1 hc), o (o h.tr hV.2) (o hV.1 hc), o h.re (o hV.1 hc)⟩
    by_cases k2 : k = 2
    · subst k2
      rw [depS_2]
      exact ⟨by simp [h.len], h.le, set_row h.row (o (dat_lt h.row _) (o (o hV.1 hI.1) hc)), o (o (o h.tr hV.2) hI.2) hI.1, h.re⟩
    by_cases k3 : k = 3
    · subst k3
      rw [depS_3]
      have hy : Okd w (ifY nv d c s v b) := hl _ b _ (o hc hV.1) ⟨h.len, h.le, h.row, o (o h.tr hV.2) hV.1, h.re⟩
      have hn : Okd w (ifN nv d c s v b e) := hl _ e _ (o hc hV.1) ⟨h.len, h.le, h.row, hy.tr, hy.re⟩
      exact hy.unite hn hn.tr hn.re
    · have : depS nv (d + 1) c s (.mk k t ix v cc b e) = ⟨s.sets.set t.toNat ((setE nv s.sets 5 v).1 ||| c), s.tr ||| (setE nv s.sets 5 v).2, s.re⟩ := by simp [depS, k4, k2, k3, k5]
      rw [this]
      exact ⟨by simp [h.len], h.le, set_row h.row (o hV.1 hc), o h.tr hV.2, h.re⟩
end Go.Proofs.Ytjjjidcbokbhpaa.CtR

namespace Go.Proofs.Ytjjjidcbokbhpaa.CtR
open Go Go.CT CtF

theorem foldl_ok {w nv d c : Nat} (hc : c < 2 ^ w) (l : List St1) {s : Dp} (h : Okd w s) : Okd w (l.foldl (depS nv d c) s) :=
  fold_inv (Q := Okd w) l s h fun x _ s hs => dep_ok d c s x hc hs
/-- Trace and releases only grow. -/
def Le0 (k : Nat) (s s' : Dp) : Prop := (s'.tr.testBit k = false → s.tr.testBit k = false) ∧ (s'.re.testBit k = false → s.re.testBit k = false)
theorem Le0.trans {k : Nat} {a b c : Dp} (h : Le0 k a b) (h' : Le0 k b c) : Le0 k a c := ⟨fun x => h.1 (h'.1 x), fun x => h.2 (h'.2 x)⟩
/-- In a context that depends on an input, what does not depend on it afterwards is unchanged. -/
structure Conf (k nv : Nat) (s' s : List Nat) (m m' : Mm) : Prop where
  lv : m.vals.length = m'.vals.length
  la : m.arrays.length = m'.arrays.length
  low : ∀ i, bt k s' i = false → bt k s i = false
  val : ∀ i, i < nv → bt k s' i = false → m.vals[i]? = m'.vals[i]?
  arr : ∀ i, bt k s' (nv + i) = false → m.arrays[i]? = m'.arrays[i]?
theorem Conf.refl (k nv : Nat) (s : List Nat) (m : Mm) : Conf k nv s s m m := ⟨rfl, rfl, fun _ h => h, fun _ _ _ => rfl, fun _ _ => rfl⟩
theorem Conf.trans {k nv : Nat} {a b c : List Nat} {m m' m'' : Mm} (h : Conf k nv b a m m') (h' : Conf k nv c b m' m'') : Conf k nv c a m m'' :=
  ⟨h.lv.trans h'.lv, h.la.trans h'.la, fun i x => h.low i (h'.low i x), fun i hi x => (h.val i hi (h'.low i x)).trans (h'.val i hi x), fun i x => (h.arr i (h'.low _ x)).trans (h'.arr i x)⟩
end Go.Proofs.Ytjjjidcbokbhpaa.CtR

namespace Go.Proofs.Ytjjjidcbokbhpaa.CtD
open Go Go.CT CtF CtR

def nI (S : List Nat) : List Int := S.map fun (n : Nat) => (n : Int)
theorem nI_len (S : List Nat) : (nI S).length = S.length := by simp [nI]
theorem nI_at {S : List Nat} {i : Nat} (h : i < S.length) : (nI S)[i]? = some ((dat S i : Nat) : Int) := by
  unfold nI dat; rw [List.getElem?_map, List.getD_eq_getElem?_getD, List.getElem?_eq_getElem h]; rfl
theorem nI_set (S : List Nat) (i x : Nat) : (nI S).set i (x : Int) = nI (S.set i x) := by unfold nI; rw [List.map_set]
theorem nI_put (S : List Nat) (i x : Nat) : ((nI S).map I64).set i (.v (.int .i64 (x : Int))) = (nI (S.set i x)).map I64 := by rw [← nI_set, List.map_set]
theorem nI_inj : ∀ {S T : List Nat}, nI S = nI T → S = T
  | [], [], _ => rfl
  | [], _ :: _, h => by simp [nI] at h
  | _ :: _, [], h => by simp [nI] at h
  | a :: r, b :: q, h => by
    simp only [nI, List.map_cons, List.cons.injEq] at h
    rw [nI_inj (S := r) (T := q) h.2, show a = b by omega]
def dpB (p : Pg) (tr re : Nat) : List C := p.cells ++ [I64 (tr : Int), I64 (re : Int)]
theorem dpB_eq (p : Pg) (tr re : Nat) : dpB p tr re = [isI p.vars, isI p.arrays, .isl 11 (St1.cellsL p.body), I64 (tr : Int), I64 (re : Int)] := rfl
theorem dpB_kf (p : Pg) (tr re : Nat) : kfs (dpB p tr re) = true := by
  rw [dpB_eq]; rfl
theorem dpB_ren (r : Nat → Nat) (p : Pg) (tr re : Nat) : renCs r (dpB p tr re) = dpB p tr re := renCs_plain _ (dpB_kf _ _ _)
theorem dpB_all (p : Pg) (tr re : Nat) : ∀ c ∈ dpB p tr re, kf c = true := by
  rw [dpB_eq]; intro c hc
  simp only [List.mem_cons, List.not_mem_nil, or_false] at hc
  rcases hc with rfl | rfl | rfl | rfl | rfl <;> rfl
theorem pow14 {w x : Nat} (hw : w ≤ 14) (h : x < 2 ^ w) : x < 16384 := by
  have : 2 ^ w ≤ 2 ^ 14 := Nat.pow_le_pow_right (by omega) hw
  omega
theorem dat_get {S : List Nat} {i : Nat} (h : i < S.length) : S[i]? = some (dat S i) := by
  unfold dat; rw [List.getD_eq_getElem?_getD, List.getElem?_eq_getElem h]; rfl
def fst1 (f : Ex → Nat × Nat) (ks : List Ex) (i : Nat) : Nat := orL ((ks.take i).map fun e => (f e).1)
def snd1 (f : Ex → Nat × Nat) (ks : List Ex) (i : Nat) : Nat := orL ((ks.take i).map fun e => (f e).2)
theorem fst1_succ (f : Ex → Nat × Nat) (ks : List Ex) (i : Nat) (x : Ex) (h : ks[i]? = some x) : fst1 f ks (i + 1) = fst1 f ks i ||| (f x).1 := by
  unfold fst1 orL; rw [List.take_add_one, h]; simp
theorem snd1_succ (f : Ex → Nat × Nat) (ks : List Ex) (i : Nat) (x : Ex) (h : ks[i]? = some x) : snd1 f ks (i + 1) = snd1 f ks i ||| (f x).2 := by
  unfold snd1 orL; rw [List.take_add_one, h]; simp
theorem fst1_lt {w : Nat} {f : Ex → Nat × Nat} (hf : ∀ e, (f e).1 < 2 ^ w) (ks : List Ex) (i : Nat) : fst1 f ks i < 2 ^ w := orL_lt (Nat.two_pow_pos w) fun x hx => by
  obtain ⟨e, _, rfl⟩ := List.mem_map.1 hx; exact hf e
theorem snd1_lt {w : Nat} {f : Ex → Nat × Nat} (hf : ∀ e, (f e).2 < 2 ^ w) (ks : List Ex) (i : Nat) : snd1 f ks i < 2 ^ w := orL_lt (Nat.two_pow_pos w) fun x hx => by
  obtain ⟨e, _, rfl⟩ := List.mem_map.1 hx; exact hf e
theorem setE_succ (nv : Nat) (S : List Nat) (d : Nat) (k v : Int) (ks : List Ex) : setE nv S (d + 1) (.mk k v ks) =
    (if k = 2 then (fst1 (setE nv S d) ks ks.length ||| dat S v.toNat, snd1 (setE nv S d) ks ks.length)
     else if k = 3 then (fst1 (setE nv S d) ks ks.length ||| dat S (nv + v.toNat), snd1 (setE nv S d) ks ks.length ||| fst1 (setE nv S d) ks ks.length)
     else (fst1 (setE nv S d) ks ks.length, snd1 (setE nv S d) ks ks.length)) := by
  simp only [setE, fst1, snd1, List.take_length]
theorem cellI (p : Pg) (hl : p.vars.length ≤ 14) (n : Nat) (hn : n ≤ 14) : DC Try.prog 127 [.agg p.cells, DI .i64 (n : Int)] [] (fun r h => r = DI .i64 ((p.vars.length + n : Nat) : Int) ∧ h = []) := by
  obtain ⟨vs, ar, bd⟩ := p
  have hl : vs.length ≤ 14 := hl
  simp only
  have hmx := mx_eq
  generalize hR : (fun (r : D) (h : List (Option (List C))) => r = DI .i64 ((vs.length + n : Nat) : Int) ∧ h = []) = R
  refine dcZ Try.func127 ?_
  simp (maxSteps := 9999999) only [go_sem]
  iterate 3 ((try (refine drvZ Try.func127 ?_; simp (maxSteps := 9999999) only [go_sem])); (try ((with_reducible refine And.intro ?_ ?_) <;> (repeat' with_reducible apply And.intro) <;> try exact sd)); (try first | refine XK.gs (DB false) ?_))
  refine RetOb.plain (d := DI .i64 _) ?_ rfl
  rw [← hR]
  exact ⟨by push_cast; rfl, rfl⟩
end Go.Proofs.Ytjjjidcbokbhpaa.CtD
