/- Contracts of functions of the program, one behind the other, as plain data: what each call returns and which blocks it leaves. -/
import Derived.Test.YtmagbjbanpgmhaaGreatSFacts
import Derived.Test.YtmagbjbanpgmhaaGreatSAj
import Derived.Test.YtmagbjbanpgmhaaGreatSAk
import Derived.Test.YtmagbjbanpgmhaaGreatSAl
import Derived.Test.YtmagbjbanpgmhaaGreatSAm
import Derived.Test.YtmagbjbanpgmhaaGreatSAn
import Derived.Test.YtmagbjbanpgmhaaGreatSAo
import Derived.Test.YtmagbjbanpgmhaaGreatSAp
import Derived.Test.YtmagbjbanpgmhaaGreatSAu
import Derived.Test.YtmagbjbanpgmhaaGreatSAv
import Derived.Test.YtmagbjbanpgmhaaGreatSAw
import Derived.Test.YtmagbjbanpgmhaaGreatSAx
import Derived.Test.YtmagbjbanpgmhaaGreatSAy
import Derived.Test.YtmagbjbanpgmhaaGreatSAr
import Derived.Test.YtmagbjbanpgmhaaGreatSAs
set_option linter.unusedVariables false
set_option linter.unusedSimpArgs false
set_option maxHeartbeats 16000000
set_option maxRecDepth 100000
namespace Go.Proofs.YtmagbjbanpgmhaaGreat.CtD
open Go Go.CT CtF CtR

def inR (p : Pg) (r : D) (h : List (Option (List C))) : Prop := ∃ (q : Pg) (ok : Bool), r = .tup [.agg q.cells, DB ok] ∧ h = [] ∧ (ok = true → Up p.vars q.vars ∧ Up p.arrays q.arrays ∧ q.body = p.body ∧ progOK p = true)
/-- How far labels can still be raised. -/
def roomL (l : List Int) : Nat := (l.map fun x => (3 - x).toNat).sum
theorem room_le : ∀ {l l' : List Int}, lab3 l → CtR.Up l l' → roomL l' ≤ roomL l ∧ (l ≠ l' → roomL l' < roomL l) := by
  intro l
  induction l with
  | nil => intro l' _ h; have := h.len; cases l' with
    | nil => simp
    | cons a r => simp at this
  | cons x r ih =>
    intro l' hl h
    have hlen := h.len
    cases l' with
    | nil => simp at hlen
    | cons y s =>
      have hx := hl x (by simp)
      have hy := h.lab y (by simp)
      have hxy := h.le 0 x y rfl rfl
      have h2 : CtR.Up r s := ⟨by simpa using hlen, fun z hz => h.lab z (by simp [hz]), fun i a b ha hb => h.le (i + 1) a b (by simpa using ha) (by simpa using hb)⟩
      obtain ⟨g1, g2⟩ := ih (fun z hz => hl z (by simp [hz])) h2
      have e : ∀ (z : Int) (t : List Int), roomL (z :: t) = (3 - z).toNat + roomL t := fun z t => by simp [roomL]
      rw [e, e]
      refine ⟨by omega, fun hne => ?_⟩
      by_cases hxe : x = y
      · subst hxe
        have := g2 (fun e => hne (by rw [e]))
        omega
      · omega

theorem inferS (p : Pg) (hl : p.vars.length ≤ 1000) (hl2 : p.arrays.length ≤ 1000) (hb : lsize 5 p.body ≤ 1099511627776) (k : Nat) (hsm : ∀ s ∈ p.body, SmS k s) : DC Tryz.prog 78 [.agg p.cells] [] (inR p) := by
  have hmx := mx_eq
  have hv := programValidS p (by omega) (by omega) hb
  generalize hR : inR p = R
  cases hq : progOK p with
  | false =>
    rw [hq] at hv
    obtain ⟨vs, ar, bd⟩ := p
    refine dcZ Tryz.func78 ?_
    simp (maxSteps := 9999999) only [go_sem]
    iterate 4 ((try (refine drvZ Tryz.func78 ?_; simp (maxSteps := 9999999) only [go_sem])); (try ((with_reducible refine And.intro ?_ ?_) <;> (repeat' with_reducible apply And.intro) <;> try exact sd)); (try first | refine XK.p hv ok54 ?_ | refine XK.gp hv ok54 ?_))
    refine RetOb.ofQ (fun _ => none) [] (.tup [.agg (Pg.cells ⟨[], [], []⟩), DB false]) [] ?_ (by rw [← hR]; exact ⟨_, false, rfl, rfl, fun h => by cases h⟩) (by simp)
    simp [enumL, DM, DMs, CM, CMs, HpOK, LowOK, Pg.cells, isI, St1.cellsL]
  | true =>
    rw [hq] at hv
    have hlab := labs_of hq
    have hbo := body_of hq
    have hbl : p.body.length ≤ 60 := by have h2 : lsize 5 p.body = _ := lsize_subs 4 p.body; have := hbo.2; omega
    have hcp := fun vs ar h1 h2 => l2Copy ⟨vs, ar, p.body⟩ k h1 h2 (show p.body.length ≤ 1000 by omega) hsm
    have hra := fun vs ar => raise p p.body hl hl2 5 p.body vs ar 0
    have hsa := fun vs vs' ar ar' h1 h2 => programSameS p vs vs' ar ar' p.body h1 h2 hbo.1 (by have := hbo.2; omega)
    have hcf := fun vs ar h1 h2 => checkFlowS ⟨vs, ar, p.body⟩ h1 h2 (show lsize 5 p.body ≤ 1099511627776 by omega)
    have hbk := hbo.1
    have hbs := hbo.2
    obtain ⟨vs, ar, bd⟩ := p
    simp only at hcp hra hsa hcf hl hl2 hlab hbl hbk hbs
    have hc0 := hcp vs ar hl hl2
    try simp only at hc0
    refine dcZ Tryz.func78 ?_
    simp (maxSteps := 9999999) only [go_sem]
    iterate 4 ((try (refine drvZ Tryz.func78 ?_; simp (maxSteps := 9999999) only [go_sem])); (try ((with_reducible refine And.intro ?_ ?_) <;> (repeat' with_reducible apply And.intro) <;> try exact sd)); (try first | refine XK.p hv ok54 ?_ | refine XK.gp hv ok54 ?_))
    refine XK.callG [] hc0 ok92 (fun i' x h => by simp at h) (hbT ()) (fun d h' ⟨_, e⟩ => by subst e; simp) ?_
    rintro _ _ ⟨rfl, rfl⟩ _
    iterate 4 ((try (refine drvZ Tryz.func78 ?_; simp (maxSteps := 9999999) only [go_sem, renCs_I, renCs_stC])); (try ((with_reducible refine And.intro ?_ ?_) <;> (repeat' with_reducible apply And.intro) <;> try exact sd)))
    have hstl : bd.map St1.cells = St1.cellsL bd := (St1.cellsL_eq bd).symm
    have hfl : (St1.cellsL bd).flatten = stC bd := by rw [St1.cellsL_eq]; rfl
    have hbz : ∀ x ∈ St1.cellsL bd, x.length = 11 := fun x hx => by
      rw [St1.cellsL_eq] at hx
      obtain ⟨s, _, rfl⟩ := List.mem_map.1 hx
      obtain ⟨k, t, ⟨ik, iv, iks⟩, ⟨vk, vv, vks⟩, cc, b, e⟩ := s
      rfl
    have hbkf : ∀ x ∈ St1.cellsL bd, ∀ c ∈ x, kf c = true := fun x hx => by
      rw [St1.cellsL_eq] at hx
      obtain ⟨s, _, rfl⟩ := List.mem_map.1 hx
      exact st_kf s
    have hcl : bd.length = (St1.cellsL bd).length := (St1.cellsL_length bd).symm
    refine Go.loopQ (fun σ : List Int × List Int => [(2, .c (.ptr 64 0)), (3, DB false), (4, .c (.ptr 512 0))])
      (fun σ => [(64, some [.v (.slice none 0 0), .v (.slice none 0 0), .v (.slice none 0 0)]), (512, some (Pg.cells ⟨σ.1, σ.2, bd⟩))]) 4096 (fun σ => CtR.Up vs σ.1 ∧ CtR.Up ar σ.2) (fun σ => roomL σ.1 + roomL σ.2) ?_ (vs, ar) some [448, 449, 450] _ ⟨.refl hlab.1, .refl hlab.2⟩ ?_
    · rintro ⟨xs, ys⟩ ⟨hux, huy⟩ again
      simp only at hux huy
      have hxl := hux.len
      have hyl := huy.len
      have hc1 := hcp xs ys (by omega) (by omega)
      try simp only at hc1
      have hr1 := hra xs ys hxl hyl hux.lab huy.lab (by decide) hbk (by omega) (fun _ _ => by omega)
      refine drvL Tryz.func78 ?_
      simp (maxSteps := 9999999) only [go_sem]
      iterate 2 ((try (refine drvZ Tryz.func78 ?_; simp (maxSteps := 9999999) only [go_sem])); (try ((with_reducible refine And.intro ?_ ?_) <;> (repeat' with_reducible apply And.intro) <;> try exact sd)))
      refine XK.callG [] hc1 ok92 (fun i' x h => by simp at h) (hbT ()) (fun d h' ⟨_, e⟩ => by subst e; simp) ?_
      rintro _ _ ⟨rfl, rfl⟩ _
      iterate 1 ((try (refine drvZ Tryz.func78 ?_; simp (maxSteps := 9999999) only [go_sem, renCs_I, renCs_stC])); (try ((with_reducible refine And.intro ?_ ?_) <;> (repeat' with_reducible apply And.intro) <;> try exact sd)))
      refine XK.subQ (r := some) (fz := [4162]) (tl := [(2, .c (.ptr 64 0)), (3, DB false), (4, .c (.ptr 512 0)), (5, .c (.ptr 4224 0)), (16, .agg [.msl 4160 1 0 xs.length, .msl 4161 1 0 ys.length, .isl 11 (St1.cellsL bd)]), (18, .c (.isl 11 (St1.cellsL bd)))])
        (hl := [(64, some [.v (.slice none 0 0), .v (.slice none 0 0), .v (.slice none 0 0)]), (512, some (Pg.cells ⟨xs, ys, bd⟩)), (4224, some [.msl 4160 1 0 xs.length, .msl 4161 1 0 ys.length, .isl 11 (St1.cellsL bd)]), (4160, some (xs.map I64)), (4161, some (ys.map I64))]) ?_ ?_
      · simp (maxSteps := 9999999) only [go_sem, TmOK, DM, DMs, CM, CMs, forall_eq, exists_eq_left, Mq, HpOK, LowOK]
        simp [CMs_I, flat_I', flat_I, hfl, hcl, kf]
        exact ⟨hbz, hbkf⟩
      refine XK.callG [4160, 4161] hr1 ok117 (hhpG (by simp [HH, upd, hOf, renCs_I])) (hbT ()) (fun d h' ⟨_, _, _, _, _, e⟩ => by subst e; simp) ?_
      rintro _ _ ⟨xs2, ys2, rfl, u1, u2, rfl⟩ _
      have hxl2 := u1.len
      have hyl2 := u2.len
      refine XK.subQ (r := some) (fz := [4160, 4161]) (tl := [(2, .c (.ptr 64 0)), (3, DB false), (4, .c (.ptr 512 0)), (5, .c (.ptr 4224 0))]) (hl := [(64, some [.v (.slice none 0 0), .v (.slice none 0 0), .v (.slice none 0 0)]), (512, some (Pg.cells ⟨xs, ys, bd⟩)), (4224, some (Pg.cells ⟨xs2, ys2, bd⟩))]) ?_ ?_
      · simp (maxSteps := 9999999) only [go_sem, TmOK, DM, DMs, CM, CMs, forall_eq, exists_eq_left, Mq, HpOK, LowOK]
        simp [CMs_I, flat_I', flat_I, kf, hxl2, hyl2, upd, renCs_I]
      have hs2 := hsa xs2 xs ys2 ys (by omega) (by omega)
      have hr1 := room_le hux.lab u1
      have hr2 := room_le huy.lab u2
      have hcfx := hcf xs ys (by omega) (by omega)
      generalize hB : (decide (xs2 = xs) && decide (ys2 = ys)) = B at *
      cases B with
      | false =>
        iterate 5 ((try (refine drvZ Tryz.func78 ?_; simp (maxSteps := 9999999) only [go_sem])); (try ((with_reducible refine And.intro ?_ ?_) <;> (repeat' with_reducible apply And.intro) <;> try exact sd)); (try first | refine XK.p hs2 ok118 ?_ | refine XK.gp hs2 ok118 ?_))
        refine again (xs2, ys2) some [] _ ⟨hux.trans u1, huy.trans u2⟩ ?_ ?_
        · show roomL xs2 + roomL ys2 < roomL xs + roomL ys
          by_cases e1 : xs = xs2
          · by_cases e2 : ys = ys2
            · subst e1 e2; simp at hB
            · have := hr2.2 e2; omega
          · have := hr1.2 e1; omega
        · simp (maxSteps := 9999999) only [go_sem, TmOK, DM, DMs, CM, CMs, forall_eq, exists_eq_left, Mq, HpOK, LowOK]
          simp
      | true =>
        generalize hc : chkR flowR ⟨xs, ys, bd⟩ = x at *
        obtain ⟨code, at_⟩ := x
        by_cases hz : code = 0
        · subst hz
          iterate 9 ((try (refine drvZ Tryz.func78 ?_; simp (maxSteps := 9999999) only [go_sem, bne_self_eq_false])); (try ((with_reducible refine And.intro ?_ ?_) <;> (repeat' with_reducible apply And.intro) <;> try exact sd)); (try first | refine XK.p hs2 ok118 ?_ | refine XK.gp hs2 ok118 ?_ | refine XK.p hcfx ok119 ?_ | refine XK.gp hcfx ok119 ?_))
          refine RetOb.ofQ (fun _ => none) [] (.tup [.agg (Pg.cells ⟨xs, ys, bd⟩), DB true]) [] ?_ (by rw [← hR]; exact ⟨⟨xs, ys, bd⟩, true, rfl, rfl, fun _ => ⟨hux, huy, rfl, hq⟩⟩) (by simp)
          simp [enumL, DM, DMs, CM, CMs, HpOK, LowOK, Pg.cells, isI]
        · have g1 : (code = 0) = False := eq_false hz
          have g2 : (code != 0) = true := by simp [hz]
          iterate 9 ((try (refine drvZ Tryz.func78 ?_; simp (maxSteps := 9999999) only [go_sem, g1, g2])); (try ((with_reducible refine And.intro ?_ ?_) <;> (repeat' with_reducible apply And.intro) <;> try exact sd)); (try first | refine XK.p hs2 ok118 ?_ | refine XK.gp hs2 ok118 ?_ | refine XK.p hcfx ok119 ?_ | refine XK.gp hcfx ok119 ?_))
          refine RetOb.ofQ (fun _ => none) [] (.tup [.agg (Pg.cells ⟨[], [], []⟩), DB false]) [] ?_ (by rw [← hR]; exact ⟨_, false, rfl, rfl, fun h => by cases h⟩) (by simp)
          simp [enumL, DM, DMs, CM, CMs, HpOK, LowOK, Pg.cells, isI, St1.cellsL]
    · simp (maxSteps := 9999999) only [go_sem, TmOK, DM, DMs, CM, CMs, forall_eq, exists_eq_left, Mq, HpOK, LowOK]
      simp [CMs_I, flat_I', flat_I, hfl, hcl, kf]
      try exact ⟨hbz, hbkf⟩
end Go.Proofs.YtmagbjbanpgmhaaGreat.CtD

namespace Go.Proofs.YtmagbjbanpgmhaaGreat.CtD
open Go Go.CT CtF CtR

theorem stmtOK_len {p q : Pg} (h1 : q.vars.length = p.vars.length) (h2 : q.arrays.length = p.arrays.length) : ∀ (d : Nat) (s : St1), stmtOK q d s = stmtOK p d s := by
  have hsh : ∀ (d : Nat) (e : Ex), CtR.shape q d e = CtR.shape p d e := by
    have hlim : ∀ k, limit q k = limit p k := fun k => by simp only [limit, h1, h2]
    intro d
    induction d with
    | zero => intro e; rfl
    | succ d ih =>
      intro e
      obtain ⟨k, v, ks⟩ := e
      have he : CtR.shape q d = CtR.shape p d := funext ih
      simp only [CtR.shape, fitsE, hlim, he]
  have hr : ∀ e, right q e = right p e := fun e => by simp only [right, hsh]
  intro d
  induction d with
  | zero => intro s; rfl
  | succ d ih =>
    intro s
    obtain ⟨k, t, ix, v, c, b, e⟩ := s
    have h3 : ∀ l : List St1, l.all (stmtOK q d) = l.all (stmtOK p d) := fun l => by congr 1; funext s; exact ih s
    simp only [stmtOK, headOK, hr, h1, h2, h3]
theorem DrP.up {p q : Pg} (h : DrP p) (h1 : CtR.Up p.vars q.vars) (h2 : CtR.Up p.arrays q.arrays) (h3 : q.body = p.body) : DrP q := by
  refine ⟨?_, by rw [h1.len]; exact h.nv, by rw [h2.len]; exact h.na, by rw [h3]; exact h.nb, by rw [h3]; exact h.sm⟩
  have hok := h.ok
  simp only [progOK, headsOK, Bool.and_eq_true, decide_eq_true_eq] at hok ⊢
  have hst : (stmtOK q 5) = stmtOK p 5 := funext fun s => stmtOK_len h1.len h2.len 5 s
  refine ⟨⟨?_, by rw [h3, hst]; exact hok.1.2⟩, by rw [h3]; exact hok.2⟩
  have hl : ∀ l : List Int, lab3 l → labs l = true := fun l hl => by
    simp only [labs, List.all_eq_true, Bool.and_eq_true, decide_eq_true_eq]
    exact hl
  obtain ⟨⟨⟨⟨g1, g2⟩, g3⟩, g4⟩, g5⟩ := hok.1.1
  rw [h1.len, h2.len]
  exact ⟨⟨⟨⟨g1, g2⟩, g3⟩, hl _ h1.lab⟩, hl _ h2.lab⟩
def tyR (bs : List Int) (n : Nat) (r : D) (h : List (Option (List C))) : Prop := ∃ p : Pg, r = .agg p.cells ∧ DrP p ∧ rdL bs n 1000001 h

theorem typed (bs : List Int) (n : Nat) (hb : Fits .u8 bs) (hl : bs.length ≤ 2000) (hn : n ≤ 274000000000) : DC Tryz.prog 32 [.c (.ptr 0 0)] [some (rdr bs n)] (tyR bs n) := by
  have hmx := mx_eq
  have hpr := l2Program bs n hb hl (by omega)
  generalize hR : tyR bs n = R
  have fin : ∀ (p : Pg) (n' : Nat) (hp : Hp), DrP p → n ≤ n' → n' ≤ n + 1000001 → hp 0 = some (some (rdr bs n')) → RetOb 1 R (.agg p.cells) hp := fun p n' hp h1 h2 h3 h4 => by
    refine RetOb.keep1 (d := .agg p.cells) (cs := rdr bs n') (by rw [← hR]; exact ⟨p, rfl, h1, n', h2, h3, rfl⟩) h4 (rdr_kf _ _) ?_
    intro c hc
    simp only [Pg.cells, isI, List.mem_cons, List.not_mem_nil, or_false] at hc
    rcases hc with rfl | rfl | rfl <;> rfl
  refine dcZ Tryz.func32 ?_
  simp (maxSteps := 9999999) only [go_sem, rdr]
  refine XK.callG [0] hpr ok45 (hhp_one rfl) (hbT ()) (fun d h' ⟨_, _, _, _, _, _, e⟩ => by subst e; simp) ?_
  rintro _ _ ⟨p, rfl, hp, n1, hn1, hn2, rfl⟩ _
  have hln := prog_len hp.ok
  have hin := inferS p (by omega) (by omega) (by have := (body_of hp.ok).2; omega) 2 hp.sm
  obtain ⟨vs, ar, bd⟩ := p
  iterate 2 ((try (refine drvZ Tryz.func32 ?_; simp (maxSteps := 9999999) only [go_sem, renCs_rdr])); (try ((with_reducible refine And.intro ?_ ?_) <;> (repeat' with_reducible apply And.intro) <;> try exact sd)))
  refine XK.callG [0] (pick bs n1 4 hb hl (by omega) (by simp only [InK]; omega)) ok47 (hhp_one (by simp [upd, renCs_rdr])) (hbT ()) (fun d h' ⟨v, _, _, e⟩ => by subst e; simp) ?_
  rintro _ _ ⟨v, rfl, hpv, rfl⟩ _
  by_cases hv : v = 0
  · subst hv
    iterate 4 ((try (refine drvZ Tryz.func32 ?_; simp (maxSteps := 9999999) only [go_sem, renCs_rdr])); (try ((with_reducible refine And.intro ?_ ?_) <;> (repeat' with_reducible apply And.intro) <;> try exact sd)))
    exact fin ⟨vs, ar, bd⟩ (n1 + 1) _ hp (by omega) (by omega) rfl
  · have g1 : (v = 0) = False := eq_false hv
    have g2 : (v == 0) = false := by simp [hv]
    iterate 4 ((try (refine drvZ Tryz.func32 ?_; simp (maxSteps := 9999999) only [go_sem, renCs_rdr, g1, g2])); (try ((with_reducible refine And.intro ?_ ?_) <;> (repeat' with_reducible apply And.intro) <;> try exact sd)))
    refine XK.callG [] hin ok78 (fun i' x h => by simp at h) (hbT ()) (fun d h' ⟨_, _, _, e, _⟩ => by subst e; simp) ?_
    rintro _ _ ⟨q, ok, rfl, rfl, hq⟩ _
    cases ok with
    | false =>
      obtain ⟨vs2, ar2, bd2⟩ := q
      iterate 5 ((try (refine drvZ Tryz.func32 ?_; simp (maxSteps := 9999999) only [go_sem, renCs_rdr])); (try ((with_reducible refine And.intro ?_ ?_) <;> (repeat' with_reducible apply And.intro) <;> try exact sd)))
      exact fin ⟨vs, ar, bd⟩ (n1 + 1) _ hp (by omega) (by omega) rfl
    | true =>
      obtain ⟨g3, g4, g5, _⟩ := hq rfl
      have hp2 := hp.up g3 g4 g5
      obtain ⟨vs2, ar2, bd2⟩ := q
      iterate 5 ((try (refine drvZ Tryz.func32 ?_; simp (maxSteps := 9999999) only [go_sem, renCs_rdr])); (try ((with_reducible refine And.intro ?_ ?_) <;> (repeat' with_reducible apply And.intro) <;> try exact sd)))
      exact fin ⟨vs2, ar2, bd2⟩ (n1 + 1) _ hp2 (by omega) (by omega) rfl
end Go.Proofs.YtmagbjbanpgmhaaGreat.CtD

namespace Go.Proofs.YtmagbjbanpgmhaaGreat.CtR
open Go Go.CT CtF

def idxE (q : Ex → Bool) : List Ex → Int → Int
  | [], _ => -1
  | x :: r, i => if q x then i else idxE q r (i + 1)
theorem idxE_any (q : Ex → Bool) : ∀ (xs : List Ex) (i : Int), 0 ≤ i → decide (0 ≤ idxE q xs i) = xs.any q
  | [], i, _ => by simp [idxE]
  | x :: r, i, h => by
    unfold idxE
    by_cases hq : q x = true
    · simp [hq, h]
    · simp only [hq, Bool.false_eq_true, if_false, List.any_cons, Bool.not_eq_true] at *
      rw [idxE_any q r (i + 1) (by omega)]; simp [hq]
theorem indexFuncE (g : Nat) (q : Ex → Bool) (p : Pg) (xs : List Ex) (hl : xs.length ≤ 3) (hok : fnOK Tryz.prog g = true) (hg : ∀ e ∈ xs, DC Tryz.prog g [.agg p.cells, .agg e.cells] [] (fun d h => d = DB (q e) ∧ h = [])) :
    DC Tryz.prog 141 [.c (.isl 3 (Ex.cellsL xs)), .c (.met g p.cells)] [] (fun d h => d = DI .i64 (idxE q xs 0) ∧ h = []) := by
  have hmx := mx_eq
  have ret : ∀ (n : Int) (hp : Hp), n = idxE q xs 0 → RetOb 0 (fun d h => d = DI .i64 (idxE q xs 0) ∧ h = []) (DI .i64 n) hp := fun n hp h => RetOb.plain (d := DI .i64 _) ⟨by rw [h], rfl⟩ rfl
  generalize hR : (fun (d : D) (h : List (Option (List C))) => d = DI .i64 (idxE q xs 0) ∧ h = []) = R at ret ⊢
  clear hR
  obtain ⟨vs, ar, bd⟩ := p
  refine dcZ Tryz.func141 ?_
  simp (maxSteps := 9999999) only [go_sem]
  ((try (refine drvZ Tryz.func141 ?_; simp (maxSteps := 9999999) only [go_sem])); (try ((with_reducible refine And.intro ?_ ?_) <;> (repeat' with_reducible apply And.intro) <;> try exact sd)))
  refine Go.loopQ (fun i : Nat => [(0, .c (.isl 3 (Ex.cellsL xs))), (1, .c (.met g (Pg.cells ⟨vs, ar, bd⟩))), (7, DI .i64 xs.length), (8, DI .i64 i)]) (fun _ => []) 1024 (fun i => i ≤ xs.length ∧ idxE q (xs.drop i) i = idxE q xs 0) (fun i => xs.length - i) ?_ 0 some [] _ ⟨Nat.zero_le _, rfl⟩ ?_
  · intro i hi again
    rcases Nat.lt_or_ge i xs.length with hlt | hge
    · obtain ⟨⟨k, v, ks⟩, hx⟩ : ∃ x, xs[i]? = some x := ⟨xs[i], by simp [hlt]⟩
      have hgx := hg _ (List.mem_of_getElem? hx)
      have hdrop : xs.drop i = .mk k v ks :: xs.drop (i + 1) := by
        obtain ⟨_, e⟩ := List.getElem?_eq_some_iff.1 hx
        rw [List.drop_eq_getElem_cons hlt, e]
      have hI := hi.2
      rw [hdrop] at hI
      simp only [idxE] at hI
      cases hq : q (.mk k v ks) with
      | true =>
        rw [hq] at hgx hI
        refine drvL Tryz.func141 ?_
        simp (maxSteps := 9999999) only [go_sem, hx, hlt]
        iterate 3 ((try (refine drvZ Tryz.func141 ?_; simp (maxSteps := 9999999) only [go_sem, hx, hlt])); (try ((with_reducible refine And.intro ?_ ?_) <;> (repeat' with_reducible apply And.intro) <;> try exact sd)); (try first | refine XK.p hgx hok ?_ | refine XK.gp hgx hok ?_))
        exact ret _ _ (by simpa using hI)
      | false =>
        rw [hq] at hgx hI
        refine drvL Tryz.func141 ?_
        simp (maxSteps := 9999999) only [go_sem, hx, hlt]
        iterate 4 ((try (refine drvZ Tryz.func141 ?_; simp (maxSteps := 9999999) only [go_sem, hx, hlt])); (try ((with_reducible refine And.intro ?_ ?_) <;> (repeat' with_reducible apply And.intro) <;> try exact sd)); (try first | refine XK.p hgx hok ?_ | refine XK.gp hgx hok ?_))
        refine again (i + 1) some [] _ ⟨hlt, by simpa using hI⟩ (by omega) ?_
        simp (maxSteps := 9999999) only [go_sem, TmOK, DM, DMs, CM, CMs, forall_eq, exists_eq_left, Mq, HpOK, LowOK]
        try simp
    · have hn : ¬ i < xs.length := by omega
      refine drvL Tryz.func141 ?_
      simp (maxSteps := 9999999) only [go_sem, hn]
      iterate 3 ((try (refine drvZ Tryz.func141 ?_; simp (maxSteps := 9999999) only [go_sem, hn])); (try ((with_reducible refine And.intro ?_ ?_) <;> (repeat' with_reducible apply And.intro) <;> try exact sd)))
      refine ret _ _ ?_
      rw [← hi.2, List.drop_of_length_le hge]; rfl
  · simp (maxSteps := 9999999) only [go_sem, TmOK, DM, DMs, CM, CMs, forall_eq, exists_eq_left, Mq, HpOK, LowOK]
    try simp
theorem containsFuncE (g : Nat) (q : Ex → Bool) (p : Pg) (xs : List Ex) (hl : xs.length ≤ 3) (hok : fnOK Tryz.prog g = true) (hg : ∀ e ∈ xs, DC Tryz.prog g [.agg p.cells, .agg e.cells] [] (fun d h => d = DB (q e) ∧ h = [])) :
    DC Tryz.prog 120 [.c (.isl 3 (Ex.cellsL xs)), .c (.met g p.cells)] [] (fun d h => d = DB (xs.any q) ∧ h = []) := by
  have hif := indexFuncE g q p xs hl hok hg
  have hia := idxE_any q xs 0 (by omega)
  rw [← hia]
  generalize idxE q xs 0 = n at *
  obtain ⟨vs, ar, bd⟩ := p
  refine dcZ Tryz.func120 ?_
  simp (maxSteps := 9999999) only [go_sem]
  iterate 3 ((try (refine drvZ Tryz.func120 ?_; simp (maxSteps := 9999999) only [go_sem])); (try ((with_reducible refine And.intro ?_ ?_) <;> (repeat' with_reducible apply And.intro) <;> try exact sd)); (try first | refine XK.p hif ok141 ?_ | refine XK.gp hif ok141 ?_))
  exact RetOb.plain (d := DB _) ⟨rfl, rfl⟩ rfl
theorem secretReadI (p : Pg) (hl : p.vars.length ≤ mx) (hl2 : p.arrays.length ≤ mx) (h1 : lab3 p.vars) (h2 : lab3 p.arrays) : ∀ (d : Nat) (e : Ex), shape p d e = true →
    DC Tryz.prog 82 [.agg p.cells, .agg e.cells] [] (fun r h => r = DB (secE p.vars p.arrays d e) ∧ h = []) := by
  have hmx := mx_eq
  intro d
  induction d with
  | zero => intro e h; simp [shape] at h
  | succ d ih =>
    intro e hsh
    obtain ⟨k, v, ks⟩ := e
    obtain ⟨g1, g2, g3⟩ := shape_succ hsh
    obtain ⟨hl3, hla, hv0, hv1⟩ := fits_len g1
    have hcf := containsFuncE 82 (secE p.vars p.arrays d) p ks hl3 ok82 (fun e he => ih e (g2 e he))
    have hlb := labelI p hl hl2 h1 h2 d
    have hle := labN_le h1 h2 d
    have ret : ∀ (b : Bool) (hp : Hp), b = secE p.vars p.arrays (d + 1) (.mk k v ks) → RetOb 0 (fun r h => r = DB (secE p.vars p.arrays (d + 1) (.mk k v ks)) ∧ h = []) (DB b) hp := fun b hp h => RetOb.plain (d := DB _) ⟨by rw [h], rfl⟩ rfl
    generalize hR : (fun (r : D) (h : List (Option (List C))) => r = DB (secE p.vars p.arrays (d + 1) (.mk k v ks)) ∧ h = []) = R at ret ⊢
    clear hR
    simp only [secE] at ret
    generalize hany : ks.any (secE p.vars p.arrays d) = an at *
    obtain ⟨vs, ar, bd⟩ := p
    by_cases hk : k = 3
    · subst hk
      have h1' : ks.length = 1 := by simp [arity] at hla; omega
      match ks, h1' with
      | [a], _ =>
        have hlv := hlb a (g2 a (by simp))
        have hlvl := hle a
        simp only [kid0, beq_self_eq_true, Bool.true_and] at ret
        generalize labN vs ar d a = lv at *
        have hse := labelSecretI lv hlvl
        generalize secL lv = s at *
        obtain ⟨ak, av, aks⟩ := a
        simp only [Ex.cellsL, List.length_cons, List.length_nil] at hcf
        cases s with
        | true =>
          refine dcZ Tryz.func82 ?_
          simp (maxSteps := 9999999) only [go_sem, Ex.cellsL]
          iterate 6 ((try (refine drvZ Tryz.func82 ?_; simp (maxSteps := 9999999) only [go_sem, Ex.cellsL, beq_self_eq_true])); (try ((with_reducible refine And.intro ?_ ?_) <;> (repeat' with_reducible apply And.intro) <;> try exact sd)); (try first | refine XK.p hlv ok81 ?_ | refine XK.gp hlv ok81 ?_ | refine XK.p hse ok24 ?_ | refine XK.gp hse ok24 ?_ | refine XK.gs (DB false) ?_))
          exact ret _ _ (by simp)
        | false =>
          refine dcZ Tryz.func82 ?_
          simp (maxSteps := 9999999) only [go_sem, Ex.cellsL]
          iterate 6 ((try (refine drvZ Tryz.func82 ?_; simp (maxSteps := 9999999) only [go_sem, Ex.cellsL, beq_self_eq_true])); (try ((with_reducible refine And.intro ?_ ?_) <;> (repeat' with_reducible apply And.intro) <;> try exact sd)); (try first | refine XK.p hlv ok81 ?_ | refine XK.gp hlv ok81 ?_ | refine XK.p hse ok24 ?_ | refine XK.gp hse ok24 ?_ | refine XK.p hcf ok120 ?_ | refine XK.gp hcf ok120 ?_))
          exact ret _ _ (by simp)
    · have ek : (k == 3) = false := by simp [hk]
      have fk : (k = 3) = False := eq_false hk
      rw [ek] at ret
      cases ks with
      | nil =>
        refine dcZ Tryz.func82 ?_
        simp (maxSteps := 9999999) only [go_sem, Ex.cellsL, ek, fk]
        iterate 6 ((try (refine drvZ Tryz.func82 ?_; simp (maxSteps := 9999999) only [go_sem, Ex.cellsL, ek, fk])); (try ((with_reducible refine And.intro ?_ ?_) <;> (repeat' with_reducible apply And.intro) <;> try exact sd)); (try first | refine XK.p hcf ok120 ?_ | refine XK.gp hcf ok120 ?_ | refine XK.gs (DB false) ?_ | refine XK.gs (DI .i64 0) ?_))
        exact ret _ _ (by simp)
      | cons a r =>
        obtain ⟨ak, av, aks⟩ := a
        refine dcZ Tryz.func82 ?_
        simp (maxSteps := 9999999) only [go_sem, Ex.cellsL, ek, fk]
        iterate 6 ((try (refine drvZ Tryz.func82 ?_; simp (maxSteps := 9999999) only [go_sem, Ex.cellsL, ek, fk])); (try ((with_reducible refine And.intro ?_ ?_) <;> (repeat' with_reducible apply And.intro) <;> try exact sd)); (try first | refine XK.p hcf ok120 ?_ | refine XK.gp hcf ok120 ?_ | refine XK.gs (DB false) ?_ | refine XK.gs (DI .i64 0) ?_))
        exact ret _ _ (by simp)
end Go.Proofs.YtmagbjbanpgmhaaGreat.CtR

namespace Go.Proofs.YtmagbjbanpgmhaaGreat.CtR
open Go Go.CT CtF

theorem secretRead0 (p : Pg) : DC Tryz.prog 82 [.agg p.cells, .agg (Ex.cells (.mk 0 0 []))] [] (fun r h => r = DB false ∧ h = []) := by
  have hmx := mx_eq
  have hcf := containsFuncE 82 (fun _ => false) p [] (by simp) ok82 (fun e he => by simp at he)
  simp only [List.any_nil, Ex.cellsL] at hcf
  have ret : ∀ (hp : Hp), RetOb 0 (fun r h => r = DB false ∧ h = []) (DB false) hp := fun hp => RetOb.plain (d := DB _) ⟨rfl, rfl⟩ rfl
  generalize hR : (fun (r : D) (h : List (Option (List C))) => r = DB false ∧ h = []) = R at ret ⊢
  clear hR
  obtain ⟨vs, ar, bd⟩ := p
  have ek : ((0 : Int) == 3) = false := by decide
  have fk : ((0 : Int) = 3) = False := by simp
  refine dcZ Tryz.func82 ?_
  simp (maxSteps := 9999999) only [go_sem, Ex.cellsL, ek, fk]
  iterate 6 ((try (refine drvZ Tryz.func82 ?_; simp (maxSteps := 9999999) only [go_sem, Ex.cellsL, ek, fk])); (try ((with_reducible refine And.intro ?_ ?_) <;> (repeat' with_reducible apply And.intro) <;> try exact sd)); (try first | refine XK.p hcf ok120 ?_ | refine XK.gp hcf ok120 ?_ | refine XK.gs (DB false) ?_ | refine XK.gs (DI .i64 0) ?_))
  exact ret _
theorem leakI (p : Pg) (hl : p.vars.length ≤ mx) (hl2 : p.arrays.length ≤ mx) (h1 : lab3 p.vars) (h2 : lab3 p.arrays) (d : Nat) (s : St1) (hs : stmtOK p (d + 1) s = true) (c : Nat) :
    DC Tryz.prog 36 [.agg p.cells, .agg s.cells, DI .i64 c] [] (fun r h => r = DI .i64 (leakR p.vars p.arrays s c) ∧ h = []) := by
  have hmx := mx_eq
  have hlab := labelI p hl hl2 h1 h2 5
  have hsec := secretReadI p hl hl2 h1 h2 5
  have hs0 := secretRead0 p
  have hle := labN_le h1 h2 5
  obtain ⟨vs, ar, bd⟩ := p
  have ret : ∀ (n : Int) (hp : Hp), n = leakR vs ar s c → RetOb 0 (fun r h => r = DI .i64 (leakR vs ar s c) ∧ h = []) (DI .i64 n) hp := fun n hp h => RetOb.plain (d := DI .i64 _) ⟨by rw [h], rfl⟩ rfl
  simp only at ret hle ⊢
  generalize hR : (fun (r : D) (h : List (Option (List C))) => r = DI .i64 (leakR vs ar s c) ∧ h = []) = R at ret ⊢
  clear hR
  obtain ⟨k, t, ⟨ik, iv, iks⟩, ⟨vk, vv, vks⟩, cc, b, e⟩ := s
  have hho := (stmtOK_succ hs).1
  have hh := head_kind hho
  obtain ⟨sv, si⟩ := shapeV hs
  have hkey : k = 4 ∨ k = 3 ∨ k = 2 ∨ (k = 1 ∨ k = 5) := by omega
  rcases hkey with hk | hk | hk | hk
  · subst hk
    have hz : vk = 0 ∧ vv = 0 ∧ vks = [] := by
      unfold headOK parts at hho
      simp [none0, Ex.kind, Ex.value, Ex.kids] at hho
      grind
    obtain ⟨rfl, rfl, rfl⟩ := hz
    simp only [Ex.cells, Ex.cellsL] at hs0
    refine dcZ Tryz.func36 ?_
    simp (maxSteps := 9999999) only [go_sem, Ex.cellsL]
    iterate 10 ((try (refine drvZ Tryz.func36 ?_; simp (maxSteps := 9999999) only [go_sem, Ex.cellsL])); (try ((with_reducible refine And.intro ?_ ?_) <;> (repeat' with_reducible apply And.intro) <;> try exact sd)); (try first | refine XK.p hs0 ok82 ?_ | refine XK.gp hs0 ok82 ?_ | refine XK.gs (DB false) ?_ | refine XK.gs (DI .i64 0) ?_))
    exact ret _ _ (by simp [leakR, St1.kind, St1.value, St1.index, secE])
  · subst hk
    have hlv := hlab _ (sv (by decide))
    have hlvl := hle (.mk vk vv vks)
    have hse := hsec _ (sv (by decide))
    simp only at hlv hse
    have hls := labelSecretI _ hlvl
    cases hs1 : secL (labN vs ar 5 (.mk vk vv vks)) <;> cases hs2 : secE vs ar 5 (.mk vk vv vks)
    all_goals
      rw [hs1] at hls
      rw [hs2] at hse
      refine dcZ Tryz.func36 ?_
      simp (maxSteps := 9999999) only [go_sem]
      iterate 10 ((try (refine drvZ Tryz.func36 ?_; simp (maxSteps := 9999999) only [go_sem])); (try ((with_reducible refine And.intro ?_ ?_) <;> (repeat' with_reducible apply And.intro) <;> try exact sd)); (try first | refine XK.p hlv ok81 ?_ | refine XK.gp hlv ok81 ?_ | refine XK.p hls ok24 ?_ | refine XK.gp hls ok24 ?_ | refine XK.p hse ok82 ?_ | refine XK.gp hse ok82 ?_ | refine XK.gs (DB false) ?_ | refine XK.gs (DI .i64 0) ?_))
    all_goals exact ret _ _ (by simp [leakR, St1.kind, St1.value, St1.index, hs1, hs2])
  · subst hk
    have hlv := hlab _ (si rfl)
    have hlvl := hle (.mk ik iv iks)
    have hse := hsec _ (sv (by decide))
    simp only at hlv hse
    have hls := labelSecretI _ hlvl
    cases hs1 : secL (labN vs ar 5 (.mk ik iv iks)) <;> cases hs2 : secE vs ar 5 (.mk vk vv vks)
    all_goals
      rw [hs1] at hls
      rw [hs2] at hse
      refine dcZ Tryz.func36 ?_
      simp (maxSteps := 9999999) only [go_sem]
      iterate 10 ((try (refine drvZ Tryz.func36 ?_; simp (maxSteps := 9999999) only [go_sem])); (try ((with_reducible refine And.intro ?_ ?_) <;> (repeat' with_reducible apply And.intro) <;> try exact sd)); (try first | refine XK.p hlv ok81 ?_ | refine XK.gp hlv ok81 ?_ | refine XK.p hls ok24 ?_ | refine XK.gp hls ok24 ?_ | refine XK.p hse ok82 ?_ | refine XK.gp hse ok82 ?_ | refine XK.gs (DB false) ?_ | refine XK.gs (DI .i64 0) ?_))
    all_goals exact ret _ _ (by simp [leakR, St1.kind, St1.value, St1.index, hs1, hs2])
  · have e3 : (k == 3) = false := by rcases hk with rfl | rfl <;> decide
    have f3 : (k = 3) = False := by rcases hk with rfl | rfl <;> simp
    have e2 : (k == 2) = false := by rcases hk with rfl | rfl <;> decide
    have f2 : (k = 2) = False := by rcases hk with rfl | rfl <;> simp
    have hse := hsec _ (sv (by omega))
    simp only at hse
    cases hs2 : secE vs ar 5 (.mk vk vv vks)
    all_goals
      rw [hs2] at hse
      refine dcZ Tryz.func36 ?_
      simp (maxSteps := 9999999) only [go_sem, e3, f3, e2, f2]
      iterate 10 ((try (refine drvZ Tryz.func36 ?_; simp (maxSteps := 9999999) only [go_sem, e3, f3, e2, f2])); (try ((with_reducible refine And.intro ?_ ?_) <;> (repeat' with_reducible apply And.intro) <;> try exact sd)); (try first | refine XK.p hse ok82 ?_ | refine XK.gp hse ok82 ?_ | refine XK.gs (DB false) ?_ | refine XK.gs (DI .i64 0) ?_))
    all_goals exact ret _ _ (by simp [leakR, St1.kind, St1.value, St1.index, hs2, f3, f2])
theorem checkCTI (p : Pg) (hl : p.vars.length ≤ mx) (hl2 : p.arrays.length ≤ mx) : DC Tryz.prog 10 [.agg p.cells] [] (fun r h => r = .tup [DI .i64 (strictR p).1, DI .i64 (strictR p).2] ∧ h = []) := by
  have hmx := mx_eq
  have hc := checkFlowI p hl hl2
  have ret : ∀ (x : Int × Int) (hp : Hp), x = strictR p → RetOb 0 (fun r h => r = .tup [DI .i64 (strictR p).1, DI .i64 (strictR p).2] ∧ h = []) (.tup [DI .i64 x.1, DI .i64 x.2]) hp := fun x hp h => by
    subst h
    exact RetOb.two ⟨rfl, rfl⟩
  generalize hR : (fun (r : D) (h : List (Option (List C))) => r = .tup [DI .i64 (strictR p).1, DI .i64 (strictR p).2] ∧ h = []) = R at ret ⊢
  clear hR
  by_cases hf : (chkR flowR p).1 = 0
  · have hq : progOK p = true := by
      have := (chk_fine flowR p).1 hf
      unfold fineP at this
      simp only [Bool.and_eq_true] at this
      exact this.1
    have he : strictR p = chkR leakR p := by unfold strictR; rw [if_neg (by simpa using hf)]
    rw [he, chk_fir leakR hq] at ret
    have hlab := labs_of hq
    have hfo := firstOf p hq 36 ok36 leakR (fun d s c hc hs => leakI p hl hl2 hlab.1 hlab.2 d s hs c)
    rw [hf] at hc
    generalize (chkR flowR p).2 = y at *
    generalize firR leakR p = x at *
    obtain ⟨vs, ar, bd⟩ := p
    refine dcZ Tryz.func10 ?_
    simp (maxSteps := 9999999) only [go_sem]
    iterate 6 ((try (refine drvZ Tryz.func10 ?_; simp (maxSteps := 9999999) only [go_sem, bne_self_eq_false])); (try ((with_reducible refine And.intro ?_ ?_) <;> (repeat' with_reducible apply And.intro) <;> try exact sd)); (try first | refine XK.p hc ok20 ?_ | refine XK.gp hc ok20 ?_ | refine XK.p hfo ok35 ?_ | refine XK.gp hfo ok35 ?_))
    exact ret x _ rfl
  · have he : strictR p = chkR flowR p := by unfold strictR; rw [if_pos hf]
    rw [he] at ret
    generalize chkR flowR p = x at *
    obtain ⟨x1, x2⟩ := x
    simp only at hf hc
    have g1 : (x1 = 0) = False := eq_false hf
    have g2 : (x1 != 0) = true := by simp [hf]
    obtain ⟨vs, ar, bd⟩ := p
    refine dcZ Tryz.func10 ?_
    simp (maxSteps := 9999999) only [go_sem]
    iterate 6 ((try (refine drvZ Tryz.func10 ?_; simp (maxSteps := 9999999) only [go_sem, g1, g2])); (try ((with_reducible refine And.intro ?_ ?_) <;> (repeat' with_reducible apply And.intro) <;> try exact sd)); (try first | refine XK.p hc ok20 ?_ | refine XK.gp hc ok20 ?_))
    exact ret (x1, x2) _ rfl
end Go.Proofs.YtmagbjbanpgmhaaGreat.CtR

namespace Go.Proofs.YtmagbjbanpgmhaaGreat.CtD
open Go Go.CT CtF CtR

/-- A drawn program, perhaps invalid. -/
def smR (r : D) (h : List (Option (List C))) : Prop := ∃ p : Pg, r = .agg p.cells ∧ SmP p ∧ h = []
end Go.Proofs.YtmagbjbanpgmhaaGreat.CtD

namespace Go.Proofs.YtmagbjbanpgmhaaGreat.CtD
open Go Go.CT CtF CtR

theorem drawCheckFlow (bs : List Int) (hb : Fits .u8 bs) (hl : bs.length ≤ mx) : DC Tryz.prog 44 [bytesD bs] [] smR := by
  have hmx := mx_eq
  have hop := l17Open bs hl
  have hb' := fits_take hb 2000
  have hl' : (bs.take 2000).length ≤ 2000 := by rw [List.length_take]; omega
  generalize hR : smR = R
  generalize hbs : bs.take 2000 = b2 at *
  unfold bytesD
  unfold bytesD at hop
  refine dcZ Tryz.func44 ?_
  simp (maxSteps := 9999999) only [go_sem]
  ((try (refine drvZ Tryz.func44 ?_; simp (maxSteps := 9999999) only [go_sem])); (try ((with_reducible refine And.intro ?_ ?_) <;> (repeat' with_reducible apply And.intro) <;> try exact sd)))
  refine XK.callG [] hop ok31 (fun i' x h => by simp at h) (hbT ()) (fun d h' ⟨_, e⟩ => by subst e; simp) ?_
  rintro _ _ ⟨rfl, rfl⟩ _
  iterate 2 ((try (refine drvZ Tryz.func44 ?_; simp (maxSteps := 9999999) only [go_sem, renCs_rdr])); (try ((with_reducible refine And.intro ?_ ?_) <;> (repeat' with_reducible apply And.intro) <;> try exact sd)))
  have hpr := typed b2 0 hb' hl' (by omega)
  refine XK.callG [128] hpr ok32 (hhp_one (by simp [upd, renCs_rdr])) (hbT ()) (fun d h' ⟨_, _, _, _, _, _, e⟩ => by subst e; simp) ?_
  rintro _ _ ⟨p, rfl, hp, n1, hn1, hn2, rfl⟩ _
  have hmu := l2Mutate b2 n1 p hb' hl' (by omega) hp
  obtain ⟨vs, ar, bd⟩ := p
  ((try (refine drvZ Tryz.func44 ?_; simp (maxSteps := 9999999) only [go_sem, renCs_rdr])); (try ((with_reducible refine And.intro ?_ ?_) <;> (repeat' with_reducible apply And.intro) <;> try exact sd)))
  refine XK.callG [128] hmu ok48 (hhp_one (by simp [upd, renCs_rdr])) (hbT ()) (fun d h' ⟨_, _, _, _, _, _, e⟩ => by subst e; simp) ?_
  rintro _ _ ⟨p, rfl, hp2, n2, hn3, hn4, rfl⟩ _
  obtain ⟨vs, ar, bd⟩ := p
  iterate 2 ((try (refine drvZ Tryz.func44 ?_; simp (maxSteps := 9999999) only [go_sem, renCs_rdr])); (try ((with_reducible refine And.intro ?_ ?_) <;> (repeat' with_reducible apply And.intro) <;> try exact sd)))
  exact RetOb.plain (d := .agg (Pg.cells ⟨vs, ar, bd⟩)) (by rw [← hR]; exact ⟨⟨vs, ar, bd⟩, rfl, hp2, rfl⟩) (by simp [kD, Pg.cells, isI, kf])
theorem drawCheckCT (bs : List Int) (hb : Fits .u8 bs) (hl : bs.length ≤ mx) : DC Tryz.prog 15 [bytesD bs] [] smR := by
  have hmx := mx_eq
  have hdp := drawCheckFlow bs hb hl
  generalize hR : smR = R
  rw [hR] at hdp
  unfold bytesD
  unfold bytesD at hdp
  refine dcZ Tryz.func15 ?_
  simp (maxSteps := 9999999) only [go_sem]
  ((try (refine drvZ Tryz.func15 ?_; simp (maxSteps := 9999999) only [go_sem])); (try ((with_reducible refine And.intro ?_ ?_) <;> (repeat' with_reducible apply And.intro) <;> try exact sd)))
  subst hR
  refine XK.callG [] hdp ok44 (fun i' x h => by simp at h) (hbT ()) (fun d h' ⟨_, _, _, e⟩ => by subst e; simp) ?_
  rintro _ _ ⟨p, rfl, hp2, rfl⟩ _
  obtain ⟨vs, ar, bd⟩ := p
  generalize hR : smR = R
  iterate 2 ((try (refine drvZ Tryz.func15 ?_; simp (maxSteps := 9999999) only [go_sem])); (try ((with_reducible refine And.intro ?_ ?_) <;> (repeat' with_reducible apply And.intro) <;> try exact sd)))
  exact RetOb.plain (d := .agg (Pg.cells ⟨vs, ar, bd⟩)) (by rw [← hR]; exact ⟨⟨vs, ar, bd⟩, rfl, hp2, rfl⟩) (by simp [kD, Pg.cells, isI, kf])
end Go.Proofs.YtmagbjbanpgmhaaGreat.CtD

namespace Go.Proofs.YtmagbjbanpgmhaaGreat.CtD
set_option pp.maxSteps 300000
set_option pp.deepTerms true
open Go Go.CT CtF CtR

/-- What is left of a checked program is checked. -/
theorem fine_cut {res : St1 → Nat → Int} {vs ar : List Int} (hres : ∀ k t ix v c b e b' e' x, res (.mk k t ix v c b e) x = res (.mk k t ix v c b' e') x) (q : Nat → Bool) (nv : Nat) : ∀ (d c : Nat) (l : List St1), fineL res vs ar d c l = true → fineL res vs ar d c (cutL q nv d l) = true
  | 0, _, _, _ => rfl
  | d + 1, c, l, h => by
    simp only [fineL, List.all_eq_true, Bool.and_eq_true, beq_iff_eq, cutL, List.mem_filterMap] at h ⊢
    rintro s' ⟨s, hs, he⟩
    obtain ⟨⟨g1, g2⟩, g3⟩ := h s hs
    obtain ⟨k, t, ix, v, cc, b, e⟩ := s
    simp only [cutS] at he
    by_cases h5 : k = 5
    · rw [if_pos h5] at he; simp only [Option.some.injEq] at he; rw [← he]; exact ⟨⟨g1, g2⟩, g3⟩
    rw [if_neg h5] at he
    by_cases h1 : k = 1
    · rw [if_pos h1] at he
      split at he
      · simp only [Option.some.injEq] at he; rw [← he]; exact ⟨⟨g1, g2⟩, g3⟩
      · cases he
    rw [if_neg h1] at he
    by_cases h2 : k = 2
    · rw [if_pos h2] at he
      split at he
      · simp only [Option.some.injEq] at he; rw [← he]; exact ⟨⟨g1, g2⟩, g3⟩
      · cases he
    rw [if_neg h2] at he
    split at he
    · simp only [Option.some.injEq] at he
      rw [← he]
      have hc : ctxI vs ar (.mk k t ix v cc (cutL q nv d b) (cutL q nv d e)) c = ctxI vs ar (.mk k t ix v cc b e) c := rfl
      refine ⟨⟨by rw [hres k t ix v cc _ _ b e]; exact g1, ?_⟩, ?_⟩
      · rw [hc]; exact fine_cut hres q nv d _ b g2
      · rw [hc]; exact fine_cut hres q nv d _ e g3
    · cases he
theorem flow_cut {p : Pg} (q : Nat → Bool) (h : (chkR flowR p).1 = 0) : (chkR flowR (slP p q)).1 = 0 := by
  have h1 := (chk_fine flowR p).1 h
  refine (chk_fine flowR (slP p q)).2 ?_
  unfold fineP at h1 ⊢
  simp only [Bool.and_eq_true] at h1 ⊢
  exact ⟨slP_ok q h1.1, fine_cut (fun _ _ _ _ _ _ _ _ _ _ => rfl) q p.vars.length 5 0 p.body h1.2⟩
theorem leak_cut {p : Pg} (q : Nat → Bool) (h : (chkR leakR p).1 = 0) : (chkR leakR (slP p q)).1 = 0 := by
  have h1 := (chk_fine leakR p).1 h
  refine (chk_fine leakR (slP p q)).2 ?_
  unfold fineP at h1 ⊢
  simp only [Bool.and_eq_true] at h1 ⊢
  exact ⟨slP_ok q h1.1, fine_cut (fun _ _ _ _ _ _ _ _ _ _ => rfl) q p.vars.length 5 0 p.body h1.2⟩
theorem strict_cut {p : Pg} (q : Nat → Bool) (h : (strictR p).1 = 0) : (strictR (slP p q)).1 = 0 := by
  have hf : (chkR flowR p).1 = 0 := by
    unfold strictR at h
    by_cases h0 : (chkR flowR p).1 = 0
    · exact h0
    · rw [if_pos h0] at h; exact h
  unfold strictR at h ⊢
  rw [if_neg (by simpa using hf)] at h
  rw [if_neg (by simpa using flow_cut q hf)]
  exact leak_cut q h
theorem lawSF (bs : List Int) (hb : Fits .u8 bs) (hl : bs.length ≤ mx) : DC Tryz.prog 4 [bytesD bs] [] (fun d h => d = DB true ∧ h = []) := by
  have hmx := mx_eq
  have hdc := drawCheckCT bs hb hl
  have hds := drawSliceProgram bs hb hl
  unfold bytesD
  unfold bytesD at hdc hds
  have ret : ∀ hp : Hp, RetOb 0 (fun d h => d = DB true ∧ h = []) (DB true) hp := fun hp => RetOb.plain (d := DB true) ⟨rfl, rfl⟩ rfl
  have hps0 := programSame ⟨[], [], []⟩ (by simp) (by simp) (by simp) (by simp)
  generalize hRR : (fun (d : D) (h : List (Option (List C))) => d = DB true ∧ h = []) = R at ret ⊢
  by_cases hbig : 1048576 < bs.length
  · have hz : ((1048576 : Int) < (bs.length : Int)) = True := eq_true (by omega)
    refine dcZ Tryz.func4 ?_
    simp (maxSteps := 9999999) only [go_sem, hz]
    iterate 2 ((try (refine drvZ Tryz.func4 ?_; simp (maxSteps := 9999999) only [go_sem, hz])); (try ((with_reducible refine And.intro ?_ ?_) <;> (repeat' with_reducible apply And.intro) <;> try exact sd)))
    exact ret _
  have hz : ((1048576 : Int) < (bs.length : Int)) = False := eq_false (by omega)
  refine dcZ Tryz.func4 ?_
  simp (maxSteps := 9999999) only [go_sem, hz]
  iterate 2 ((try (refine drvZ Tryz.func4 ?_; simp (maxSteps := 9999999) only [go_sem, hz])); (try ((with_reducible refine And.intro ?_ ?_) <;> (repeat' with_reducible apply And.intro) <;> try exact sd)))
  refine XK.callG [] hdc ok15 (fun i' x h => by simp at h) (hbT ()) (fun d h' ⟨_, _, _, e⟩ => by subst e; simp) ?_
  rintro _ _ ⟨p, rfl, hp, rfl⟩ _
  have hv1 : p.vars.length ≤ 13 := hp.nv
  have ha1 : p.arrays.length ≤ 2 := hp.na
  obtain ⟨p0, hp0⟩ : ∃ p0, p0 = p := ⟨p, rfl⟩
  obtain ⟨vs, ar, bd⟩ := p
  have hv2 : vs.length ≤ mx := by have : vs.length ≤ 13 := hv1; omega
  have ha2 : ar.length ≤ mx := by have : ar.length ≤ 2 := ha1; omega
  iterate 2 ((try (refine drvZ Tryz.func4 ?_; simp (maxSteps := 9999999) only [go_sem])); (try ((with_reducible refine And.intro ?_ ?_) <;> (repeat' with_reducible apply And.intro) <;> try exact sd)))
  refine XK.callG [] hds ok16 (fun i' x h => by simp at h) (hbT ()) (fun d h' ⟨_, _, _, _, _, e⟩ => by subst e; simp) ?_
  rintro _ _ ⟨⟨vs2, ar2, bd2⟩, ws, rfl, hp2, hw, rfl⟩ _
  have hI := sliceProgI ⟨vs, ar, bd⟩ ws hv2 ha2 (by omega)
  have hS := sliceProgS ⟨vs, ar, bd⟩ ws hv2 ha2 (by have := hp.sz 5; simp only at this ⊢; omega) (by omega)
  cases hq : (progOK ⟨vs, ar, bd⟩ && decide (ws.length = vs.length + ar.length)) with
  | false =>
    have cv : ∀ F, DC Tryz.prog F [.agg (Pg.cells ⟨vs, ar, bd⟩), .c (boolsD ws)] [] (sliR ⟨vs, ar, bd⟩ ws) → DC Tryz.prog F [.agg (Pg.cells ⟨vs, ar, bd⟩), .c (boolsD ws)] [] (fun r h => r = .tup [.agg (Pg.cells ⟨[], [], []⟩), DB false] ∧ h = []) := fun F h0 => dcMono h0 fun r h ⟨h1, h2⟩ => by
      rcases h2 with ⟨hc, _⟩ | ⟨_, e⟩
      · rw [hq] at hc; cases hc
      · exact ⟨e, h1⟩
    have hI := cv _ hI
    have hS := cv _ hS
    clear cv hdc hds
    iterate 14 ((try (refine drvZ Tryz.func4 ?_; simp (maxSteps := 9999999) only [go_sem, boolsD])); (try ((with_reducible refine And.intro ?_ ?_) <;> (repeat' with_reducible apply And.intro) <;> try exact sd)); (try first | refine XK.p hI ok17 ?_ | refine XK.gp hI ok17 ?_ | refine XK.p hS ok18 ?_ | refine XK.gp hS ok18 ?_ | refine XK.p hps0 ok19 ?_ | refine XK.gp hps0 ok19 ?_))
    exact ret _
  | true =>
    have hq2 : progOK ⟨vs, ar, bd⟩ = true ∧ ws.length = vs.length + ar.length := by simpa using hq
    obtain ⟨hok, hwl⟩ := hq2
    have cv : ∀ F, DC Tryz.prog F [.agg (Pg.cells ⟨vs, ar, bd⟩), .c (boolsD ws)] [] (sliR ⟨vs, ar, bd⟩ ws) → DC Tryz.prog F [.agg (Pg.cells ⟨vs, ar, bd⟩), .c (boolsD ws)] [] (fun r h => (∃ q, Least ⟨vs, ar, bd⟩ ws q ∧ r = .tup [.agg (Pg.cells (slP ⟨vs, ar, bd⟩ q)), DB true]) ∧ h = []) := fun F h0 => dcMono h0 fun r h ⟨h1, h2⟩ => by
      rcases h2 with ⟨_, q, hl, e⟩ | ⟨hc, _⟩
      · exact ⟨⟨q, hl, e⟩, h1⟩
      · rw [hq] at hc; cases hc
    have hI := cv _ hI
    have hS := cv _ hS
    clear cv hdc hds hq
    have hslok := fun q => slP_ok (p := ⟨vs, ar, bd⟩) q hok
    have hps := fun q => programSame (slP ⟨vs, ar, bd⟩ q) hv2 ha2 (by have h1 := (body_of (hslok q)).2; have h2 : lsize 5 (slP ⟨vs, ar, bd⟩ q).body = _ := lsize_subs 4 (slP ⟨vs, ar, bd⟩ q).body; omega) (sameBody (hslok q))
    have hfl := checkFlowI ⟨vs, ar, bd⟩ hv2 ha2
    have hct := checkCTI ⟨vs, ar, bd⟩ hv2 ha2
    have hfl2 := fun q => checkFlowI (slP ⟨vs, ar, bd⟩ q) hv2 ha2
    have hct2 := fun q => checkCTI (slP ⟨vs, ar, bd⟩ q) hv2 ha2
    have hfc := fun q => @flow_cut ⟨vs, ar, bd⟩ q
    have hsc := fun q => @strict_cut ⟨vs, ar, bd⟩ q
    have heq := fun q q' => @Least.eq ⟨vs, ar, bd⟩ ws q q'
    iterate 3 ((try (refine drvZ Tryz.func4 ?_; simp (maxSteps := 9999999) only [go_sem, boolsD])); (try ((with_reducible refine And.intro ?_ ?_) <;> (repeat' with_reducible apply And.intro) <;> try exact sd)))
    refine XK.callG [] hI ok17 (fun i' x h => by simp at h) (hbT ()) (fun d h' ⟨_, e⟩ => by subst e; simp) ?_
    rintro _ _ ⟨⟨q, hq, rfl⟩, rfl⟩ _
    have hps := hps q
    have hfl2 := hfl2 q
    have hct2 := hct2 q
    have hfc := hfc q
    have hsc := hsc q
    generalize hsl : slP ⟨vs, ar, bd⟩ q = sl at *
    obtain ⟨vs3, ar3, bd3⟩ := sl
    iterate 3 ((try (refine drvZ Tryz.func4 ?_; simp (maxSteps := 9999999) only [go_sem, boolsD])); (try ((with_reducible refine And.intro ?_ ?_) <;> (repeat' with_reducible apply And.intro) <;> try exact sd)))
    refine XK.callG [] hS ok18 (fun i' x h => by simp at h) (hbT ()) (fun d h' ⟨_, e⟩ => by subst e; simp) ?_
    rintro _ _ ⟨⟨q', hq', rfl⟩, rfl⟩ _
    obtain rfl := heq q q' hq hq'
    rw [hsl]
    clear heq hI hS hslok
    generalize chkR flowR ⟨vs, ar, bd⟩ = x1 at *
    generalize chkR flowR ⟨vs3, ar3, bd3⟩ = x2 at *
    generalize strictR ⟨vs, ar, bd⟩ = x3 at *
    generalize strictR ⟨vs3, ar3, bd3⟩ = x4 at *
    obtain ⟨c1, a1⟩ := x1
    obtain ⟨c2, a2⟩ := x2
    obtain ⟨c3, a3⟩ := x3
    obtain ⟨c4, a4⟩ := x4
    simp only at hfc hsc
    by_cases h1 : c1 = 0 <;> by_cases h3 : c3 = 0
    · obtain rfl := h1
      obtain rfl := hfc rfl
      obtain rfl := h3
      obtain rfl := hsc rfl
      iterate 16 ((try (refine drvZ Tryz.func4 ?_; simp (maxSteps := 9999999) only [go_sem, boolsD, bne_self_eq_false])); (try ((with_reducible refine And.intro ?_ ?_) <;> (repeat' with_reducible apply And.intro) <;> try exact sd)); (try first | refine XK.p hps ok19 ?_ | refine XK.gp hps ok19 ?_ | refine XK.p hfl ok20 ?_ | refine XK.gp hfl ok20 ?_ | refine XK.p hfl2 ok20 ?_ | refine XK.gp hfl2 ok20 ?_ | refine XK.p hct ok10 ?_ | refine XK.gp hct ok10 ?_ | refine XK.p hct2 ok10 ?_ | refine XK.gp hct2 ok10 ?_))
      exact ret _
    · obtain rfl := h1
      obtain rfl := hfc rfl
      have g3 : (c3 = 0) = False := eq_false h3
      have g4 : (c3 != 0) = true := by simp [h3]
      iterate 16 ((try (refine drvZ Tryz.func4 ?_; simp (maxSteps := 9999999) only [go_sem, boolsD, bne_self_eq_false, g3, g4])); (try ((with_reducible refine And.intro ?_ ?_) <;> (repeat' with_reducible apply And.intro) <;> try exact sd)); (try first | refine XK.p hps ok19 ?_ | refine XK.gp hps ok19 ?_ | refine XK.p hfl ok20 ?_ | refine XK.gp hfl ok20 ?_ | refine XK.p hfl2 ok20 ?_ | refine XK.gp hfl2 ok20 ?_ | refine XK.p hct ok10 ?_ | refine XK.gp hct ok10 ?_ | refine XK.p hct2 ok10 ?_ | refine XK.gp hct2 ok10 ?_))
      exact ret _
    · have g1 : (c1 = 0) = False := eq_false h1
      have g2 : (c1 != 0) = true := by simp [h1]
      obtain rfl := h3
      obtain rfl := hsc rfl
      iterate 16 ((try (refine drvZ Tryz.func4 ?_; simp (maxSteps := 9999999) only [go_sem, boolsD, bne_self_eq_false, g1, g2])); (try ((with_reducible refine And.intro ?_ ?_) <;> (repeat' with_reducible apply And.intro) <;> try exact sd)); (try first | refine XK.p hps ok19 ?_ | refine XK.gp hps ok19 ?_ | refine XK.p hfl ok20 ?_ | refine XK.gp hfl ok20 ?_ | refine XK.p hfl2 ok20 ?_ | refine XK.gp hfl2 ok20 ?_ | refine XK.p hct ok10 ?_ | refine XK.gp hct ok10 ?_ | refine XK.p hct2 ok10 ?_ | refine XK.gp hct2 ok10 ?_))
      exact ret _
    · have g1 : (c1 = 0) = False := eq_false h1
      have g2 : (c1 != 0) = true := by simp [h1]
      have g3 : (c3 = 0) = False := eq_false h3
      have g4 : (c3 != 0) = true := by simp [h3]
      iterate 16 ((try (refine drvZ Tryz.func4 ?_; simp (maxSteps := 9999999) only [go_sem, boolsD, bne_self_eq_false, g1, g2, g3, g4])); (try ((with_reducible refine And.intro ?_ ?_) <;> (repeat' with_reducible apply And.intro) <;> try exact sd)); (try first | refine XK.p hps ok19 ?_ | refine XK.gp hps ok19 ?_ | refine XK.p hfl ok20 ?_ | refine XK.gp hfl ok20 ?_ | refine XK.p hfl2 ok20 ?_ | refine XK.gp hfl2 ok20 ?_ | refine XK.p hct ok10 ?_ | refine XK.gp hct ok10 ?_ | refine XK.p hct2 ok10 ?_ | refine XK.gp hct2 ok10 ?_))
      exact ret _
end Go.Proofs.YtmagbjbanpgmhaaGreat.CtD
