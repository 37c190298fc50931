/- Contracts of functions of the program, one behind the other, as plain data: what each call returns and which blocks it leaves. -/
import Derived.Test.YtclgjiffpijgmaaFacts
import Derived.Test.YtclgjiffpijgmaaAc
import Derived.Test.YtclgjiffpijgmaaAd
import Derived.Test.YtclgjiffpijgmaaAf
import Derived.Test.YtclgjiffpijgmaaAe
set_option linter.unusedVariables false
set_option linter.unusedSimpArgs false
namespace Go.Proofs.Ytclgjiffpijgmaa.CtD
open Go Go.CT CtF CtR

theorem draws (bs : List Int) (p : Pg) (hb : Fits .u8 bs) (hl : bs.length ≤ 2000) (hp : p.vars.length ≤ mx) (hp2 : p.arrays.length ≤ mx) : ∀ (d : Nat), d ≤ 3 →
    (∀ n : Nat, n + KS d ≤ 549755813888 → DC Try.prog 138 [.c (.ptr 0 0), .agg p.cells, DI .i64 (d + 1 : Nat)] [some (rdr bs n)] (stR bs n d)) ∧
    (∀ (n nn : Nat), nn ≤ 4 → n + 4 * KS d ≤ 549755813888 → DC Try.prog 101 [.c (.ptr 0 0), .agg p.cells, DI .i64 (d + 1 : Nat), DI .i64 nn] [some (rdr bs n)]
      (fun r h => ∃ l : List St1, r = .c (.isl 11 (St1.cellsL l)) ∧ l.length ≤ 4 ∧ (∀ s ∈ l, SmS d s) ∧ rdL bs n (4 * KS d) h)) := by
  intro d
  induction d with
  | zero =>
    intro hd
    have hs := fun n h => l2DrawStmtOf bs p hb hl hp hp2 0 hd (fun d' e => by omega) n h
    exact ⟨hs, fun n nn h1 h2 => l2DrawBlockOf bs p ((0 + 1 : Nat) : Int) (SmS 0) (KS 0) (by decide) hs n nn h1 h2⟩
  | succ d ih =>
    intro hd
    have hs := fun n h => l2DrawStmtOf bs p hb hl hp hp2 (d + 1) hd (fun d' e => by
      obtain rfl : d = d' := by omega
      exact (ih (by omega)).2) n h
    exact ⟨hs, fun n nn h1 h2 => l2DrawBlockOf bs p ((d + 1 + 1 : Nat) : Int) (SmS (d + 1)) (KS (d + 1)) (Nat.le_trans (KS_le _ hd) (by decide)) hs n nn h1 h2⟩

theorem tsize_sm : ∀ (d k : Nat) (s : St1), SmS d s → tsize k s ≤ 9 ^ d
  | d, 0, .mk _ _ _ _ _ b e, _ => Nat.zero_le _
  | 0, k + 1, .mk _ _ ix v _ b e, h => by
    simp only [SmS] at h
    obtain ⟨_, _, rfl, rfl⟩ := h
    simp [tsize]
  | d + 1, k + 1, .mk kk tt ix v cc b e, h => by
    simp only [SmS] at h
    obtain ⟨_, _, h1, h2, h3, h4⟩ := h
    have hsum : ∀ l : List St1, (∀ x ∈ l, SmS d x) → (l.map (tsize k)).sum ≤ l.length * 9 ^ d := fun l hl => by
      induction l with
      | nil => simp
      | cons a r ih =>
        have := tsize_sm d k a (hl a (by simp))
        have := ih fun x hx => hl x (by simp [hx])
        simp only [List.map_cons, List.sum_cons, List.length_cons, Nat.add_mul]
        omega
    have g1 := hsum b h3
    have g2 := hsum e h4
    have g3 : b.length * 9 ^ d ≤ 4 * 9 ^ d := Nat.mul_le_mul_right _ h1
    have g4 : e.length * 9 ^ d ≤ 4 * 9 ^ d := Nat.mul_le_mul_right _ h2
    have g5 : 0 < 9 ^ d := Nat.pow_pos (by decide)
    have e1 : tsize (k + 1) (.mk kk tt ix v cc b e) = 1 + (b.map (tsize k)).sum + (e.map (tsize k)).sum := rfl
    rw [e1, Nat.pow_succ]
    omega
theorem lsize_sm (d k : Nat) (l : List St1) (h : ∀ s ∈ l, SmS d s) : lsize k l ≤ l.length * 9 ^ d := by
  unfold lsize
  induction l with
  | nil => simp
  | cons a r ih =>
    have := tsize_sm d k a (h a (by simp))
    have := ih fun x hx => h x (by simp [hx])
    simp only [List.map_cons, List.sum_cons, List.length_cons, Nat.add_mul]
    omega
end Go.Proofs.Ytclgjiffpijgmaa.CtD

namespace Go.Proofs.Ytclgjiffpijgmaa.CtD
open Go Go.CT CtF CtR

def fixP : Pg := ⟨[0, 1], [], [.mk 1 1 Ex0 (.mk 2 0 []) 0 [] []]⟩
/-- What the laws need of a drawn program. -/
structure DrP (p : Pg) : Prop where
  ok : progOK p = true
  nv : p.vars.length ≤ 5
  na : p.arrays.length ≤ 2
  nb : p.body.length ≤ 4
  sm : ∀ s ∈ p.body, SmS 2 s
theorem DrP.fix : DrP fixP := ⟨by decide, by decide, by decide, by decide, fun s hs => by
  simp only [fixP, List.mem_singleton] at hs
  subst hs
  exact SmS.leaf SmE0 (.mk 2 0 [] (by simp) (fun x h => by simp at h))⟩
def prR (bs : List Int) (n : Nat) (r : D) (h : List (Option (List C))) : Prop := ∃ p : Pg, r = .agg p.cells ∧ DrP p ∧ rdL bs n 1000000 h
theorem i_snoc (l : List Int) (x : Int) : (l ++ [x]).map I64 = l.map I64 ++ [I64 x] := by simp

set_option maxHeartbeats 4000000 in
set_option maxRecDepth 10000 in
theorem l2Program (bs : List Int) (n : Nat) (hb : Fits .u8 bs) (hl : bs.length ≤ 2000) (hn : n ≤ 274877906944) : DC Try.prog 55 [.c (.ptr 0 0)] [some (rdr bs n)] (prR bs n) := by
  have hmx := mx_eq
  have hnum := fun n xs h1 h2 h3 => numO bs n xs hb hl h1 h2 h3
  generalize hR : prR bs n = R
  refine dcZ Try.func55 ?_
  simp (maxSteps := 9999999) (maxDischargeDepth := 300) only [go_sem, rdr]
  iterate 3 ((try (refine drvZ Try.func55 ?_; simp (maxSteps := 9999999) (maxDischargeDepth := 300) only [go_sem, rdr])); (try ((with_reducible refine And.intro ?_ ?_) <;> (repeat' with_reducible apply And.intro) <;> try exact sd)))
  refine XK.callG [0, 321] (hnum n [3, 4, 2, 5] (by omega) (by decide) (by decide)) ok100 (hhp2 rfl rfl) (hbT ()) (fun d h' ⟨_, _, _, e⟩ => by subst e; simp) ?_
  rintro _ _ ⟨nv, rfl, hnv, rfl⟩ _
  obtain ⟨a, rfl, ha5⟩ : ∃ a : Nat, nv = (a : Int) ∧ a ≤ 5 := ⟨nv.toNat, by simp at hnv; omega, by simp at hnv; omega⟩
  clear hnv
  iterate 1 (try (refine drvZ Try.func55 ?_; simp (maxSteps := 9999999) (maxDischargeDepth := 300) only [go_sem, rdr]))
  refine Go.loopQ (fun x : Nat × List Int => [(0, .c (.ptr 0 0)), (2, .c (.ptr 1 0)), (3, .c (.ptr 66 0)), (4, DI .i64 x.1)])
    (fun x => [(0, some (rdr bs ((n + 1 + x.2.length : Nat) : Int))), (1, some [.v (.slice none 0 0), .v (.slice none 0 0), .v (.slice none 0 0)]), (66, some [.msl 67 1 0 x.2.length, .v (.slice none 0 0), .v (.slice none 0 0)]), (67, some (x.2.map I64))])
    4096 (fun x => x.1 + x.2.length ≤ 5) (fun x => x.1) ?_ (a, []) (fun j => if j = 66 then some 129 else if j = 67 then none else some j) [] _ (by simp; omega) ?_
  · rintro ⟨i, vs⟩ hi again
    simp only at hi
    rcases i with _ | i
    · have hip : ((0 : Int) < 0) = False := eq_false (by omega)
      refine drvL Try.func55 ?_
      simp (maxSteps := 9999999) (maxDischargeDepth := 300) only [go_sem, rdr, hip, Int.natCast_zero]
      iterate 3 ((try (refine drvZ Try.func55 ?_; simp (maxSteps := 9999999) (maxDischargeDepth := 300) only [go_sem, rdr])); (try ((with_reducible refine And.intro ?_ ?_) <;> (repeat' with_reducible apply And.intro) <;> try exact sd)))
      refine XK.callG [0, 4288] (hnum (n + 1 + vs.length) [1, 2, 0, 1] (by omega) (by decide) (by decide)) ok100 (hhp2 rfl rfl) (hbT ()) (fun d h' ⟨_, _, _, e⟩ => by subst e; simp) ?_
      rintro _ _ ⟨nv, rfl, hnv, rfl⟩ _
      obtain ⟨a2, rfl, ha2⟩ : ∃ a : Nat, nv = (a : Int) ∧ a ≤ 2 := ⟨nv.toNat, by simp at hnv; omega, by simp at hnv; omega⟩
      clear hnv again
      ((try (refine drvZ Try.func55 ?_; simp (maxSteps := 9999999) (maxDischargeDepth := 300) only [go_sem, rdr])); (try ((with_reducible refine And.intro ?_ ?_) <;> (repeat' with_reducible apply And.intro) <;> try exact sd)))
      refine Go.loopQ (fun x : Nat × List Int => [(0, .c (.ptr 0 0)), (2, .c (.ptr 1 0)), (3, .c (.ptr 66 0)), (5, DI .i64 x.1)])
        (fun x => [(0, some (rdr bs ((n + 1 + vs.length + 1 + x.2.length : Nat) : Int))), (1, some [.v (.slice none 0 0), .v (.slice none 0 0), .v (.slice none 0 0)]), (66, some [isI vs, .msl 68 1 0 x.2.length, .v (.slice none 0 0)]), (68, some (x.2.map I64))])
        8192 (fun x => x.1 + x.2.length ≤ 2) (fun x => x.1) ?_ (a2, []) (fun j => if j = 68 then none else some j) [67] _ (by simp; omega) ?_
      · rintro ⟨i, ar⟩ hi again
        simp only at hi
        rcases i with _ | i
        · have hip : ((0 : Int) < 0) = False := eq_false (by omega)
          refine drv_sound (n := 3) (rs := _) Try.func55 mo rfl none _ _ ?_
          simp (maxSteps := 9999999) (maxDischargeDepth := 300) only [go_sem, rdr]
          refine XK.subQ (r := some) (fz := [68]) (tl := [(0, .c (.ptr 0 0)), (2, .c (.ptr 1 0)), (3, .c (.ptr 66 0)), (5, DI .i64 0)])
            (hl := [(0, some (rdr bs ((n + 1 + vs.length + 1 + ar.length : Nat) : Int))), (1, some [.v (.slice none 0 0), .v (.slice none 0 0), .v (.slice none 0 0)]), (66, some [isI vs, isI ar, .isl 11 []])]) ?_ ?_
          · simp (maxSteps := 9999999) (maxDischargeDepth := 300) only [go_sem, TmOK, DM, DMs, CM, CMs, forall_eq, exists_eq_left, Mq, HpOK, LowOK, rdr]
            simp [CMs, kf, flat_I']
          iterate 3 ((try (refine drvZ Try.func55 ?_; simp (maxSteps := 9999999) (maxDischargeDepth := 300) only [go_sem, rdr, hip])); (try ((with_reducible refine And.intro ?_ ?_) <;> (repeat' with_reducible apply And.intro) <;> try exact sd)))
          refine XK.callG [0, 8512] (hnum (n + 1 + vs.length + 1 + ar.length) [2, 3, 1, 4] (by omega) (by decide) (by decide)) ok100 (hhp2 rfl rfl) (hbT ()) (fun d h' ⟨_, _, _, e⟩ => by subst e; simp) ?_ (fun _ => ⟨by kernel_rfl, _, _, ⟨1, rfl, by simp, rfl⟩, by simp⟩)
          rintro _ _ ⟨nv, rfl, hnv, rfl⟩ _
          obtain ⟨nn, rfl, hnn⟩ : ∃ a : Nat, nv = (a : Int) ∧ a ≤ 4 := ⟨nv.toNat, by simp at hnv; omega, by simp at hnv; omega⟩
          clear hnv again
          have hvs : vs.length ≤ 5 := by omega
          have har : ar.length ≤ 2 := by omega
          have hdb := ((draws bs ⟨vs, ar, []⟩ hb hl (by simp only; omega) (by simp only; omega) 2 (by omega)).2 (n + 1 + vs.length + 1 + ar.length + 1) nn hnn (by have := KS_le 2 (by omega); omega))
          iterate 2 ((try (refine drvZ Try.func55 ?_; simp (maxSteps := 9999999) (maxDischargeDepth := 300) only [go_sem, rdr, hip])); (try ((with_reducible refine And.intro ?_ ?_) <;> (repeat' with_reducible apply And.intro) <;> try exact sd)))
          refine XK.callG [0] hdb ok101 (hhp_one rfl) (hbT ()) (fun d h' ⟨_, _, _, _, _, _, _, e⟩ => by subst e; simp) ?_ (fun _ => ⟨by kernel_rfl, _, _, ⟨[], rfl, by simp, by simp, n + 1 + vs.length + 1 + ar.length + 1, by omega, by omega, rfl⟩, by simp⟩)
          rintro _ _ ⟨bd, rfl, hbl, hbs, m, hm1, hm2, rfl⟩ _
          have hKS : KS 2 = 87600 := rfl
          have hls := lsize_sm 2 5 bd hbs
          have hpv := programValidS ⟨vs, ar, bd⟩ (by simp only; omega) (by simp only; omega) (by simp only; omega)
          iterate 3 ((try (refine drvZ Try.func55 ?_; simp (maxSteps := 9999999) (maxDischargeDepth := 300) only [go_sem, rdr, hip])); (try ((with_reducible refine And.intro ?_ ?_) <;> (repeat' with_reducible apply And.intro) <;> try exact sd)))
          refine XK.plain hpv ok48 ?_ (hbT ())
          cases hq : progOK ⟨vs, ar, bd⟩ with
          | true =>
            iterate 3 ((try (refine drvZ Try.func55 ?_; simp (maxSteps := 9999999) (maxDischargeDepth := 300) only [go_sem, rdr, hq])); (try ((with_reducible refine And.intro ?_ ?_) <;> (repeat' with_reducible apply And.intro) <;> try exact sd)))
            refine RetOb.keep1 (d := .agg (Pg.cells ⟨vs, ar, bd⟩)) (cs := rdr bs m) (by rw [← hR]; exact ⟨⟨vs, ar, bd⟩, rfl, ⟨hq, hvs, har, hbl, hbs⟩, m, by omega, by omega, rfl⟩) rfl (rdr_kf _ _) ?_
            intro c hc
            simp only [Pg.cells, isI, List.mem_cons, List.not_mem_nil, or_false] at hc
            rcases hc with rfl | rfl | rfl <;> rfl
          | false =>
            iterate 3 ((try (refine drvZ Try.func55 ?_; simp (maxSteps := 9999999) (maxDischargeDepth := 300) only [go_sem, rdr, hq])); (try ((with_reducible refine And.intro ?_ ?_) <;> (repeat' with_reducible apply And.intro) <;> try exact sd)))
            refine RetOb.step some [] (.agg [.msl 8960 1 0 2, .isl 1 [], .msl 9152 11 0 1]) [(0, some (rdr bs m)), (8960, some [I64 0, I64 1]), (9152, some (stC fixP.body))] ?_ ?_
            · simp [hOf, DM, DMs, CM, CMs, HpOK, LowOK, upd, rdr, stC, fixP, St1.cells, St1.cellsL, Ex.cells, Ex.cellsL, Ex0]
            refine RetOb.ofQ (fun j => if j = 0 then some 0 else none) [8960, 9152] (.agg (Pg.cells fixP)) [some (rdr bs m)] ?_ ?_ (by simp)
            · simp [enumL, hOf, DM, DMs, CM, CMs, HpOK, LowOK, upd, rdr, stC, fixP, Pg.cells, isI, St1.cells, St1.cellsL, Ex.cells, Ex.cellsL, Ex0, kf]
            · rw [← hR]; exact ⟨fixP, rfl, DrP.fix, m, by omega, by omega, rfl⟩
        · have hip : ((0 : Int) < (i : Int) + 1) = True := eq_true (by omega)
          refine drvL Try.func55 ?_
          simp (maxSteps := 9999999) (maxDischargeDepth := 300) only [go_sem, rdr, hip]
          iterate 3 ((try (refine drvZ Try.func55 ?_; simp (maxSteps := 9999999) (maxDischargeDepth := 300) only [go_sem, rdr])); (try ((with_reducible refine And.intro ?_ ?_) <;> (repeat' with_reducible apply And.intro) <;> try exact sd)))
          refine XK.callG [0, 8512] (hnum (n + 1 + vs.length + 1 + ar.length) [0, 1, 0, 1, 3] (by omega) (by decide) (by decide)) ok100 (hhp2 rfl rfl) (hbT ()) (fun d h' ⟨_, _, _, e⟩ => by subst e; simp) ?_ (fun _ => ⟨by kernel_rfl, _, _, ⟨0, rfl, by simp, rfl⟩, by simp⟩)
          rintro _ _ ⟨v, rfl, hv, rfl⟩ _
          clear hv
          iterate 4 ((try (refine drvZ Try.func55 ?_; simp (maxSteps := 9999999) (maxDischargeDepth := 300) only [go_sem, rdr])); (try ((with_reducible refine And.intro ?_ ?_) <;> (repeat' with_reducible apply And.intro) <;> try exact sd)))
          refine again (i, ar ++ [v]) (fun j => if j = 68 then some 8704 else some j) [] _ (by simp; omega) (by simp) ?_
          simp (maxSteps := 9999999) (maxDischargeDepth := 300) only [go_sem, TmOK, DM, DMs, CM, CMs, forall_eq, exists_eq_left, Mq, HpOK, LowOK, rdr, i_snoc]
          simp
          exact ⟨by omega, CMs.kf (kf_app (kf_I _) (by simp [kf]))⟩
      · simp (maxSteps := 9999999) (maxDischargeDepth := 300) only [go_sem, TmOK, DM, DMs, CM, CMs, forall_eq, exists_eq_left, Mq, HpOK, LowOK, rdr]
        simp [CMs, kf, flat_I']
    · have hip : ((0 : Int) < (i : Int) + 1) = True := eq_true (by omega)
      refine drvL Try.func55 ?_
      simp (maxSteps := 9999999) (maxDischargeDepth := 300) only [go_sem, rdr, hip]
      iterate 3 ((try (refine drvZ Try.func55 ?_; simp (maxSteps := 9999999) (maxDischargeDepth := 300) only [go_sem, rdr])); (try ((with_reducible refine And.intro ?_ ?_) <;> (repeat' with_reducible apply And.intro) <;> try exact sd)))
      refine XK.callG [0, 4416] (hnum (n + 1 + vs.length) [0, 1, 0, 1, 2, 3] (by omega) (by decide) (by decide)) ok100 (hhp2 rfl rfl) (hbT ()) (fun d h' ⟨_, _, _, e⟩ => by subst e; simp) ?_ (fun _ => ⟨by kernel_rfl, _, _, ⟨0, rfl, by simp, rfl⟩, by simp⟩)
      rintro _ _ ⟨v, rfl, hv, rfl⟩ _
      clear hv
      iterate 4 ((try (refine drvZ Try.func55 ?_; simp (maxSteps := 9999999) (maxDischargeDepth := 300) only [go_sem, rdr])); (try ((with_reducible refine And.intro ?_ ?_) <;> (repeat' with_reducible apply And.intro) <;> try exact sd)))
      refine again (i, vs ++ [v]) (fun j => if j = 67 then some 4608 else some j) [] _ (by simp; omega) (by simp) ?_
      simp (maxSteps := 9999999) (maxDischargeDepth := 300) only [go_sem, TmOK, DM, DMs, CM, CMs, forall_eq, exists_eq_left, Mq, HpOK, LowOK, rdr, i_snoc]
      simp
      exact ⟨by omega, CMs.kf (kf_app (kf_I _) (by simp [kf]))⟩
  · simp (maxSteps := 9999999) (maxDischargeDepth := 300) only [go_sem, TmOK, DM, DMs, CM, CMs, forall_eq, exists_eq_left, Mq, HpOK, LowOK, rdr]
    simp [CMs]
end Go.Proofs.Ytclgjiffpijgmaa.CtD

namespace Go.Proofs.Ytclgjiffpijgmaa.CtD
open Go Go.CT CtF CtR

def meR (bs : List Int) (n : Nat) (p : Pg) (r : D) (h : List (Option (List C))) : Prop := ∃ m : Mm, r = .agg m.cells ∧ MemFits p m ∧ rdL bs n 30 h
theorem a_snoc (l : List (List Int)) (x : List Int) : (l ++ [x]).map isI = l.map isI ++ [isI x] := by simp
theorem hdF (l : List (List Int)) : (l.map fun a => [isI a]).flatten = l.map isI := flat1 _ l
theorem rI (l : List Int) (x : Int) (h : ∀ y ∈ l, 0 ≤ y ∧ y ≤ 255) (h2 : 0 ≤ x ∧ x ≤ 255) : ∀ y ∈ l ++ [x], 0 ≤ y ∧ y ≤ 255 := fun y hy => by
  rcases List.mem_append.1 hy with h3 | h3
  · exact h y h3
  · rw [List.mem_singleton.1 h3]; exact h2

set_option maxHeartbeats 4000000 in
set_option maxRecDepth 10000 in
theorem l3Memory (bs : List Int) (n : Nat) (p : Pg) (hb : Fits .u8 bs) (hl : bs.length ≤ 2000) (hn : n ≤ 274877906944) (hp : 1 ≤ p.vars.length ∧ p.vars.length ≤ 12) (hp2 : p.arrays.length ≤ 2) : DC Try.prog 56 [.c (.ptr 0 0), .agg p.cells] [some (rdr bs n)] (meR bs n p) := by
  have hmx := mx_eq
  have hval := fun n h => l3Value bs n hb hl h
  generalize hR : meR bs n p = R
  obtain ⟨vs, ar, bd⟩ := p
  have hp : 1 ≤ vs.length ∧ vs.length ≤ 12 := hp
  have hp2 : ar.length ≤ 2 := hp2
  refine dcZ Try.func56 ?_
  simp (maxSteps := 9999999) (maxDischargeDepth := 300) only [go_sem, rdr]
  ((try (refine drvZ Try.func56 ?_; simp (maxSteps := 9999999) (maxDischargeDepth := 300) only [go_sem, rdr])); (try ((with_reducible refine And.intro ?_ ?_) <;> (repeat' with_reducible apply And.intro) <;> try exact sd)))
  refine Go.loopQ (fun x : Nat × List Int => [(0, .c (.ptr 0 0)), (3, .c (.ptr 1 0)), (4, .c (.ptr 65 0)), (5, .c (.ptr 66 0)), (6, DI .i64 x.2.length)])
    (fun x => [(0, some (rdr bs x.1)), (1, some (Pg.cells ⟨vs, ar, bd⟩)), (65, some [.v (.slice none 0 0), .v (.slice none 0 0)]), (66, some [.msl 67 1 0 x.2.length, .v (.slice none 0 0)]), (67, some (x.2.map I64))])
    4096 (fun x => x.2.length ≤ vs.length ∧ n ≤ x.1 ∧ x.1 ≤ n + x.2.length ∧ ∀ y ∈ x.2, 0 ≤ y ∧ y ≤ 255) (fun x => vs.length - x.2.length) ?_ (n, []) (fun j => if j = 66 then some 193 else if j = 67 then none else some j) [] _ (by simp) ?_
  · rintro ⟨pos, l⟩ ⟨hi1, hi2, hi3, hi4⟩ again
    simp only at hi1 hi2 hi3 hi4
    rcases Nat.lt_or_ge l.length vs.length with hlt | hge
    · refine drvL Try.func56 ?_
      simp (maxSteps := 9999999) (maxDischargeDepth := 300) only [go_sem, rdr, hlt]
      iterate 3 ((try (refine drvZ Try.func56 ?_; simp (maxSteps := 9999999) (maxDischargeDepth := 300) only [go_sem, rdr])); (try ((with_reducible refine And.intro ?_ ?_) <;> (repeat' with_reducible apply And.intro) <;> try exact sd)))
      refine XK.callG [0] (hval pos (by omega)) ok59 (hhp_one rfl) (hbT ()) (fun d h' ⟨_, _, _, _, _, _, e⟩ => by subst e; simp) ?_ (fun _ => ⟨by kernel_rfl, _, _, ⟨0, rfl, by omega, pos, by omega, by omega, rfl⟩, by simp⟩)
      rintro _ _ ⟨v, rfl, hv, pos', hp1, hp3, rfl⟩ _
      iterate 4 ((try (refine drvZ Try.func56 ?_; simp (maxSteps := 9999999) (maxDischargeDepth := 300) only [go_sem, rdr])); (try ((with_reducible refine And.intro ?_ ?_) <;> (repeat' with_reducible apply And.intro) <;> try exact sd)))
      refine again (pos', l ++ [v]) (fun j => if j = 67 then some 4736 else some j) [] _ ⟨by simp; omega, by omega, by simp; omega, rI l v hi4 hv⟩ (by simp; omega) ?_
      simp (maxSteps := 9999999) (maxDischargeDepth := 300) only [go_sem, TmOK, DM, DMs, CM, CMs, forall_eq, exists_eq_left, Mq, HpOK, LowOK, rdr, i_snoc]
      simp
      exact CMs.kf (kf_app (kf_I _) (by simp [kf]))
    · have hnl : ¬ l.length < vs.length := by omega
      refine drvL Try.func56 ?_
      simp (maxSteps := 9999999) (maxDischargeDepth := 300) only [go_sem, rdr, hnl]
      iterate 3 ((try (refine drvZ Try.func56 ?_; simp (maxSteps := 9999999) (maxDischargeDepth := 300) only [go_sem, rdr])); (try ((with_reducible refine And.intro ?_ ?_) <;> (repeat' with_reducible apply And.intro) <;> try exact sd)))
      refine Go.loopQ (fun x : Nat × List (List Int) => [(0, .c (.ptr 0 0)), (3, .c (.ptr 1 0)), (4, .c (.ptr 65 0)), (5, .c (.ptr 66 0)), (7, DI .i64 x.2.length)])
        (fun x => [(0, some (rdr bs x.1)), (1, some (Pg.cells ⟨vs, ar, bd⟩)), (65, some [.v (.slice none 0 0), .v (.slice none 0 0)]), (66, some [isI l, .msl 68 1 0 x.2.length]), (68, some (x.2.map isI))])
        8192 (fun x => x.2.length ≤ ar.length ∧ n ≤ x.1 ∧ x.1 ≤ n + l.length + 4 * x.2.length ∧ ∀ a ∈ x.2, a.length = 4 ∧ ∀ y ∈ a, 0 ≤ y ∧ y ≤ 255) (fun x => ar.length - x.2.length) ?_ (pos, []) (fun j => if j = 68 then none else some j) [67] _ (by simp; omega) ?_
      · clear again
        rintro ⟨pos, arrs⟩ ⟨hj1, hj2, hj3, hj4⟩ again
        simp only at hj1 hj2 hj3 hj4
        rcases Nat.lt_or_ge arrs.length ar.length with hlt | hge2
        · refine drvL Try.func56 ?_
          simp (maxSteps := 9999999) (maxDischargeDepth := 300) only [go_sem, rdr, hlt]
          iterate 3 ((try (refine drvZ Try.func56 ?_; simp (maxSteps := 9999999) (maxDischargeDepth := 300) only [go_sem, rdr])); (try ((with_reducible refine And.intro ?_ ?_) <;> (repeat' with_reducible apply And.intro) <;> try exact sd)))
          refine Go.loopQ (fun x : Nat × List Int => [(0, .c (.ptr 0 0)), (3, .c (.ptr 1 0)), (4, .c (.ptr 65 0)), (5, .c (.ptr 66 0)), (7, DI .i64 arrs.length), (8, .c (.msl 69 1 0 x.2.length)), (9, DI .i64 x.2.length)])
            (fun x => [(0, some (rdr bs x.1)), (1, some (Pg.cells ⟨vs, ar, bd⟩)), (65, some [.v (.slice none 0 0), .v (.slice none 0 0)]), (66, some [isI l, .msl 68 1 0 arrs.length]), (68, some (arrs.map isI)), (69, some (x.2.map I64))])
            16384 (fun x => x.2.length ≤ 4 ∧ pos ≤ x.1 ∧ x.1 ≤ pos + x.2.length ∧ ∀ y ∈ x.2, 0 ≤ y ∧ y ≤ 255) (fun x => 4 - x.2.length) ?_ (pos, []) (fun j => if j = 69 then some 8512 else some j) [] _ (by simp) ?_
          · rintro ⟨ps, a⟩ ⟨hk1, hk2, hk3, hk4⟩ again2
            simp only at hk1 hk2 hk3 hk4
            rcases Nat.lt_or_ge a.length 4 with hlt2 | hge3
            · have h4 : ((a.length : Int) < 4) = True := eq_true (by omega)
              refine drvL Try.func56 ?_
              simp (maxSteps := 9999999) (maxDischargeDepth := 300) only [go_sem, rdr, h4]
              iterate 3 ((try (refine drvZ Try.func56 ?_; simp (maxSteps := 9999999) (maxDischargeDepth := 300) only [go_sem, rdr])); (try ((with_reducible refine And.intro ?_ ?_) <;> (repeat' with_reducible apply And.intro) <;> try exact sd)))
              refine XK.callG [0] (hval ps (by omega)) ok59 (hhp_one rfl) (hbT ()) (fun d h' ⟨_, _, _, _, _, _, e⟩ => by subst e; simp) ?_
              rintro _ _ ⟨v, rfl, hv, ps', hp1, hp3, rfl⟩ _
              iterate 4 ((try (refine drvZ Try.func56 ?_; simp (maxSteps := 9999999) (maxDischargeDepth := 300) only [go_sem, rdr])); (try ((with_reducible refine And.intro ?_ ?_) <;> (repeat' with_reducible apply And.intro) <;> try exact sd)))
              refine again2 (ps', a ++ [v]) (fun j => if j = 69 then some 16768 else some j) [] _ ⟨by simp; omega, by omega, by simp; omega, rI a v hk4 hv⟩ (by simp; omega) ?_
              simp (maxSteps := 9999999) (maxDischargeDepth := 300) only [go_sem, TmOK, DM, DMs, CM, CMs, forall_eq, exists_eq_left, Mq, HpOK, LowOK, rdr, i_snoc]
              simp
              exact ⟨CMs.kf (kf_A _), CMs.kf (kf_app (kf_I _) (by simp [kf]))⟩
            · have h4 : ((a.length : Int) < 4) = False := eq_false (by omega)
              have ha4 : a.length = 4 := by omega
              refine drv_sound (n := 3) (rs := _) Try.func56 mo rfl none _ _ ?_
              simp (maxSteps := 9999999) (maxDischargeDepth := 300) only [go_sem, rdr]
              refine XK.freeze 8 69 1 a.length (a.map fun n => [I64 n]) ?_ (by rw [flat_I]; rfl) rfl (by simp) (by simp) (by simp [kf])
              iterate 6 ((try (refine drvZ Try.func56 ?_; simp (maxSteps := 9999999) (maxDischargeDepth := 300) only [go_sem, rdr, h4])); (try ((with_reducible refine And.intro ?_ ?_) <;> (repeat' with_reducible apply And.intro) <;> try exact sd)))
              refine again (ps, arrs ++ [a]) (fun j => if j = 68 then some 16768 else some j) [] _ ⟨by simp; omega, by omega, by simp; omega, ?_⟩ (by simp; omega) ?_
              · intro b hb2
                rcases List.mem_append.1 hb2 with h3 | h3
                · exact hj4 b h3
                · rw [List.mem_singleton.1 h3]; exact ⟨ha4, hk4⟩
              · simp (maxSteps := 9999999) (maxDischargeDepth := 300) only [go_sem, TmOK, DM, DMs, CM, CMs, forall_eq, exists_eq_left, Mq, HpOK, LowOK, rdr, a_snoc]
                simp
                exact CMs.kf (kf_app (kf_A _) (by simp [kf]))
          · simp (maxSteps := 9999999) (maxDischargeDepth := 300) only [go_sem, TmOK, DM, DMs, CM, CMs, forall_eq, exists_eq_left, Mq, HpOK, LowOK, rdr]
            simp [CMs]
            exact CMs.kf (kf_A _)
        · have hnl : ¬ arrs.length < ar.length := by omega
          refine drvL Try.func56 ?_
          simp (maxSteps := 9999999) (maxDischargeDepth := 300) only [go_sem, rdr, hnl]
          iterate 3 ((try (refine drvZ Try.func56 ?_; simp (maxSteps := 9999999) (maxDischargeDepth := 300) only [go_sem, rdr])); (try ((with_reducible refine And.intro ?_ ?_) <;> (repeat' with_reducible apply And.intro) <;> try exact sd)))
          refine RetOb.ofQ (fun j => if j = 0 then some 0 else none) [68] (.agg (Mm.cells ⟨l, arrs⟩)) [some (rdr bs pos)] ?_ ?_ (by simp)
          · simp [enumL, hOf, DM, DMs, CM, CMs, HpOK, LowOK, upd, rdr, Mm.cells, isI, hdF, kf]
            exact (flat1 isI arrs).symm
          · rw [← hR]; exact ⟨⟨l, arrs⟩, rfl, ⟨by simp only; omega, by simp only; omega, by simp only; omega, hp2, hi4, hj4⟩, pos, by omega, by omega, rfl⟩
      · simp (maxSteps := 9999999) (maxDischargeDepth := 300) only [go_sem, TmOK, DM, DMs, CM, CMs, forall_eq, exists_eq_left, Mq, HpOK, LowOK, rdr]
        simp [CMs, kf, flat_I']
  · simp (maxSteps := 9999999) (maxDischargeDepth := 300) only [go_sem, TmOK, DM, DMs, CM, CMs, forall_eq, exists_eq_left, Mq, HpOK, LowOK, rdr]
    simp [CMs]
end Go.Proofs.Ytclgjiffpijgmaa.CtD

namespace Go.Proofs.Ytclgjiffpijgmaa.CtD
open Go Go.CT CtF CtR

theorem sim_shrink {m : Nat} {I : Nat → Prop} {w : World} {s : Sg} {hp : Hp} (H : SimH I w s hp) (k : Nat) (cs ds : List C) (hk : hp k = some (some (cs ++ ds))) :
    SimH I w s (upd hp k (some (some cs))) ∧ Ext m I w s hp I w s (upd hp k (some (some cs))) := by
  rcases H.blk k _ hk with ⟨h1, h2⟩ | ⟨b, arr, T, h1, h2, h3, h4, h5⟩
  · have e : cs = [] ∧ ds = [] := List.append_eq_nil_iff.1 h2
    have e2 : upd hp k (some (some cs)) = hp := funext fun j => by
      by_cases hj : j = k
      · subst hj; rw [upd_same, hk, e.1, e.2]; rfl
      · rw [upd_ne _ _ hj]
    rw [e2]
    exact ⟨H, Ext.refl _ _ _ _ _⟩
  · refine sim_store (m := m) H k _ cs hk b arr arr T h1 h2 rfl (by rw [List.length_append] at h3; omega) (fun j hj => ?_) ?_
    · obtain ⟨y, hy, hr⟩ := h5 j (by rw [List.length_append]; omega)
      refine ⟨y, hy, ?_⟩
      rw [List.getElem_append_left hj] at hr
      exact hr
    · have : w.heap.setIfInBounds b (.cells arr T (0, 0)) = w.heap := by
        apply Array.ext_getElem?
        intro j
        rw [Array.getElem?_setIfInBounds]
        by_cases e : b = j
        · subst e; rw [if_pos rfl, if_pos (lt_of_heap h2), h2]
        · simp [e]
      rw [this]
theorem RetOb.shrink {m : Nat} {R : D → List (Option (List C)) → Prop} {d : D} {hp : Hp} {k : Nat} {cs ds : List C} (hk : hp k = some (some (cs ++ ds))) (hn : RetOb m R d (upd hp k (some (some cs)))) : RetOb m R d hp := fun I w s v H hv => by
  obtain ⟨H', E'⟩ := sim_shrink H k cs ds hk
  obtain ⟨I', s', d2, h2, g1, g2, g3, g4, g5⟩ := hn I w s v H' hv
  exact ⟨I', s', d2, h2, g1, g2, g3, E'.trans g4, g5⟩

def hdA (k2 k3 : Nat) : List (List Int) → List C
  | [] => []
  | [a] => [.msl k2 1 0 a.length]
  | a :: b :: _ => [.msl k2 1 0 a.length, .msl k3 1 0 b.length]

set_option maxHeartbeats 4000000 in
/-- An owned memory handed back as plain data, the reader kept. -/
theorem RetOb.memK {R : D → List (Option (List C)) → Prop} {m : Mm} {hp : Hp} {k0 k1 k2 k3 nv na : Nat} {rc : List C} (hna : m.arrays.length ≤ 2) (hR : R (.agg m.cells) [some rc]) (hrc : ∀ c ∈ rc, kf c = true)
    (hz : hp 0 = some (some rc)) (h0 : hp k0 = some (some (m.vals.map I64))) (h1 : hp k1 = some (some (hdA k2 k3 m.arrays))) (h2 : hp k2 = some (some (blk0 m.arrays))) (h3 : hp k3 = some (some (blk1 m.arrays))) (hv : nv = m.vals.length) (hn : na = m.arrays.length)
    (hne : k0 ≠ k1 ∧ k0 ≠ k2 ∧ k0 ≠ k3 ∧ k1 ≠ k2 ∧ k1 ≠ k3 ∧ k2 ≠ k3 ∧ 0 ≠ k0 ∧ 0 ≠ k1 ∧ 0 ≠ k2 ∧ 0 ≠ k3) : RetOb 1 R (.agg [.msl k0 1 0 nv, .msl k1 1 0 na]) hp := by
  subst hv hn
  obtain ⟨va, arr⟩ := m
  obtain ⟨n01, n02, n03, n12, n13, n23, nt0, nt1, nt2, nt3⟩ := hne
  refine RetOb.step (fun j => if j = 0 then some 0 else if j = 1 then some k0 else if j = 2 then some k1 else none) [k2, k3] (.agg [.msl 1 1 0 va.length, .msl 2 1 0 arr.length]) [(0, some rc), (1, some (va.map I64)), (2, some (arr.map isI))] ?_ ?_
  · have e3 : ∀ a : List Int, (a.map fun n => [C.v (.int .i64 n)]).flatten = a.map I64 := fun a => flat1 _ a
    have e4 : ∀ {hT hS : Hp} {r : Nat → Option Nat} {fz : List Nat}, CMs hT r hS fz rc rc = True := eq_true (CMs.kf hrc)
    match arr, hna, h1, h2, h3 with
    | [], _, h1, h2, h3 => simp [DM, DMs, CM, CMs, HpOK, LowOK, hOf, upd, hz, h0, CMs_I, e4, h1, hdA, n01, n02, n03, n12, n13, n23, nt0, nt1, nt2, nt3, Ne.symm n01, Ne.symm nt0, Ne.symm nt1, Ne.symm n23]
    | [a], _, h1, h2, h3 =>
      simp [DM, DMs, CM, CMs, HpOK, LowOK, hOf, upd, hz, h0, CMs_I, e4, h1, h2, hdA, n01, n02, n03, n12, n13, n23, nt0, nt1, nt2, nt3, Ne.symm n01, Ne.symm nt0, Ne.symm nt1, Ne.symm n23, e3, isI, blk0, kf]
    | [a, b], _, h1, h2, h3 =>
      simp [DM, DMs, CM, CMs, HpOK, LowOK, hOf, upd, hz, h0, CMs_I, e4, h1, h2, h3, hdA, n01, n02, n03, n12, n13, n23, nt0, nt1, nt2, nt3, Ne.symm n01, Ne.symm nt0, Ne.symm nt1, Ne.symm n23, e3, isI, blk0, blk1, kf]
  · refine RetOb.ofQ (fun j => if j = 0 then some 0 else none) [1, 2] _ [some rc] ?_ hR (by simp)
    have e4 : ∀ {hT hS : Hp} {r : Nat → Option Nat} {fz : List Nat}, CMs hT r hS fz rc rc = True := eq_true (CMs.kf hrc)
    simp [enumL, DM, DMs, CM, CMs, HpOK, LowOK, hOf, upd, Mm.cells, isI, flat_I, kf, e4]
    exact (flat1 isI arr).symm
end Go.Proofs.Ytclgjiffpijgmaa.CtD

namespace Go.Proofs.Ytclgjiffpijgmaa.CtD
open Go Go.CT CtF CtR

def SmM (m : Mm) : Prop := m.vals.length ≤ 13 ∧ m.arrays.length ≤ 2 ∧ ∀ a ∈ m.arrays, a.length ≤ 4
def beR (bs : List Int) (n : Nat) (r : D) (h : List (Option (List C))) : Prop := ∃ m : Mm, r = .agg m.cells ∧ SmM m ∧ rdL bs n 5 h
theorem hdr_hdA (k k' : Nat) (arr : List (List Int)) (h : arr.length ≤ 2) (h4 : ∀ a ∈ arr, a.length = 4) : hdr k k' arr.length = hdA k k' arr := by
  match arr, h, h4 with
  | [], _, _ => rfl
  | [a], _, h4 => simp [hdr, hdA, h4 a (by simp)]
  | [a, b], _, h4 => simp [hdr, hdA, h4 a (by simp), h4 b (by simp)]

set_option maxHeartbeats 4000000 in
set_option maxRecDepth 10000 in
theorem l3Bend (bs : List Int) (n : Nat) (m : Mm) (hb : Fits .u8 bs) (hl : bs.length ≤ 2000) (hn : n ≤ 274877906944) (hv : m.vals.length ≤ 12) (ha : m.arrays.length ≤ 2) (h4 : ∀ a ∈ m.arrays, a.length = 4) : DC Try.prog 106 [.c (.ptr 0 0), .agg m.cells] [some (rdr bs n)] (beR bs n) := by
  have hmx := mx_eq
  have hcp := l3Copy m (by omega) ha h4
  generalize hR : beR bs n = R
  unfold memB at hcp
  obtain ⟨va, arr⟩ := m
  have hv : va.length ≤ 12 := hv
  have ha : arr.length ≤ 2 := ha
  have h4 : ∀ a ∈ arr, a.length = 4 := h4
  have hfin : ∀ (k0 nv na : Nat) (n' : Nat) (va' : List Int) (hp : Hp), va'.length ≤ 13 → n ≤ n' → n' ≤ n + 5 → hp 0 = some (some (rdr bs n')) → hp k0 = some (some (va'.map I64)) → hp 194 = some (some (hdr 195 196 arr.length)) → hp 195 = some (some (blk0 arr)) → hp 196 = some (some (blk1 arr)) → nv = va'.length → na = arr.length →
      (k0 ≠ 194 ∧ k0 ≠ 195 ∧ k0 ≠ 196 ∧ 0 ≠ k0) → RetOb 1 R (.agg [.msl k0 1 0 nv, .msl 194 1 0 na]) hp := fun k0 nv na n' va' hp g1 g2 g3 g4 g5 g6 g7 g8 g9 g10 ⟨e1, e2, e3, e4⟩ =>
    RetOb.memK (m := ⟨va', arr⟩) (k2 := 195) (k3 := 196) ha (by rw [← hR]; exact ⟨⟨va', arr⟩, rfl, ⟨g1, ha, fun a h => by have := h4 a h; omega⟩, n', g2, g3, rfl⟩) (rdr_kf bs n') g4 g5 (by rw [g6, hdr_hdA _ _ _ ha h4]) g7 g8 g9 g10
      ⟨e1, e2, e3, by decide, by decide, by decide, e4, by decide, by decide, by decide⟩
  refine dcZ Try.func106 ?_
  simp (maxSteps := 9999999) (maxDischargeDepth := 300) only [go_sem, Mm.cells, rdr]
  ((try (refine drvZ Try.func106 ?_; simp (maxSteps := 9999999) (maxDischargeDepth := 300) only [go_sem, rdr])); (try ((with_reducible refine And.intro ?_ ?_) <;> (repeat' with_reducible apply And.intro) <;> try exact sd)))
  refine XK.callG [] hcp ok57 (fun i' x h => by simp at h) (hbT ()) (fun d h' ⟨_, e⟩ => by subst e; simp) ?_
  rintro _ _ ⟨rfl, rfl⟩ _
  iterate 3 ((try (refine drvZ Try.func106 ?_; simp (maxSteps := 9999999) (maxDischargeDepth := 300) only [go_sem, renCs_I, renCs_hdr, renCs_b0, renCs_b1, rdr])); (try ((with_reducible refine And.intro ?_ ?_) <;> (repeat' with_reducible apply And.intro) <;> try exact sd)))
  refine XK.callG [0] (pick bs n 60 hb hl (by omega) (by simp only [InK]; omega)) ok58 (hhp_one rfl) (hbT ()) (fun d h' ⟨v, _, _, e⟩ => by subst e; simp) ?_
  rintro _ _ ⟨v, rfl, hpv, rfl⟩ _
  have hpv : v = 0 ∨ v = 1 ∨ v = 2 ∨ v = 3 ∨ (v ≠ 0 ∧ v ≠ 1 ∧ v ≠ 2 ∧ v ≠ 3) := by omega
  rcases hpv with rfl | rfl | rfl | rfl | ⟨h0, h1, h2, h3⟩
  · iterate 4 ((try (refine drvZ Try.func106 ?_; simp (maxSteps := 9999999) (maxDischargeDepth := 300) only [go_sem, rdr, Int.reduceBEq, Int.reduceEq])); (try ((with_reducible refine And.intro ?_ ?_) <;> (repeat' with_reducible apply And.intro) <;> try exact sd)))
    exact hfin 833 _ _ (n + 1) (va ++ [0]) _ (by simp; omega) (by omega) (by omega) rfl (by rw [i_snoc]; rfl) rfl rfl rfl (by simp) rfl (by decide)
  · cases va with
    | nil =>
      have hz : ((0 : Int) < 0) = False := eq_false (by omega)
      iterate 5 ((try (refine drvZ Try.func106 ?_; simp (maxSteps := 9999999) (maxDischargeDepth := 300) only [go_sem, rdr, Int.reduceBEq, Int.reduceEq, List.length_nil, Int.natCast_zero, hz])); (try ((with_reducible refine And.intro ?_ ?_) <;> (repeat' with_reducible apply And.intro) <;> try exact sd)))
      exact hfin 193 _ _ (n + 1) [] _ (by simp) (by omega) (by omega) rfl rfl rfl rfl rfl rfl rfl (by decide)
    | cons x r =>
      have hz : ((0 : Int) < (r.length : Int) + 1) = True := eq_true (by omega)
      have hv : r.length + 1 ≤ 12 := hv
      iterate 5 ((try (refine drvZ Try.func106 ?_; simp (maxSteps := 9999999) (maxDischargeDepth := 300) only [go_sem, rdr, Int.reduceBEq, Int.reduceEq, hz])); (try ((with_reducible refine And.intro ?_ ?_) <;> (repeat' with_reducible apply And.intro) <;> try exact sd)))
      refine XK.callG [0, 1217] (numO bs (n + 1) [-1, 256, 9223372036854775807] hb hl (by omega) (by decide) (by decide)) ok100 (hhp2 rfl rfl) (hbT ()) (fun d h' ⟨_, _, _, e⟩ => by subst e; simp) ?_ (fun _ => ⟨by kernel_rfl, _, _, ⟨-1, rfl, by simp, rfl⟩, by simp⟩)
      rintro _ _ ⟨w, rfl, hw, rfl⟩ _
      clear hw
      iterate 5 ((try (refine drvZ Try.func106 ?_; simp (maxSteps := 9999999) (maxDischargeDepth := 300) only [go_sem, rdr, Int.reduceBEq, Int.reduceEq, hz])); (try ((with_reducible refine And.intro ?_ ?_) <;> (repeat' with_reducible apply And.intro) <;> try exact sd)))
      exact hfin 193 _ _ (n + 2) (w :: r) _ (by simp; omega) (by omega) (by omega) rfl rfl rfl rfl rfl rfl rfl (by decide)
  · match arr, ha, h4 with
    | [], ha, h4 =>
      have hz : ((0 : Int) < 0) = False := eq_false (by omega)
      iterate 6 ((try (refine drvZ Try.func106 ?_; simp (maxSteps := 9999999) (maxDischargeDepth := 300) only [go_sem, rdr, Int.reduceBEq, Int.reduceEq, List.length_nil, Int.natCast_zero, hz])); (try ((with_reducible refine And.intro ?_ ?_) <;> (repeat' with_reducible apply And.intro) <;> try exact sd)))
      exact hfin 193 _ _ (n + 1) va _ (by omega) (by omega) (by omega) rfl rfl rfl rfl rfl rfl rfl (by decide)
    | a :: rest, ha, h4 =>
      have hz : ((0 : Int) < (rest.length : Int) + 1) = True := eq_true (by omega)
      have ha4 : a.length = 4 := h4 a (by simp)
      have hrl : rest.length + 1 ≤ 2 := ha
      iterate 6 ((try (refine drvZ Try.func106 ?_; simp (maxSteps := 9999999) (maxDischargeDepth := 300) only [go_sem, rdr, Int.reduceBEq, Int.reduceEq, hz, hdr])); (try ((with_reducible refine And.intro ?_ ?_) <;> (repeat' with_reducible apply And.intro) <;> try exact sd)))
      have hsp : a.map I64 = (a.take 3).map I64 ++ (a.drop 3).map I64 := by rw [← List.map_append, List.take_append_drop]
      refine RetOb.shrink (k := 195) (cs := (a.take 3).map I64) (ds := (a.drop 3).map I64) ?_ ?_
      · rw [← hsp]; rfl
      have ha3 : (a.take 3).length = 3 := by rw [List.length_take]; omega
      match rest, hrl with
      | [], _ =>
        exact RetOb.memK (m := ⟨va, [a.take 3]⟩) (k0 := 193) (k1 := 194) (k2 := 195) (k3 := 196) (rc := rdr bs ((n + 1 : Nat) : Int)) (by simp) (by rw [← hR]; exact ⟨⟨va, [a.take 3]⟩, rfl, ⟨by simp only; omega, by simp, by simp; omega⟩, n + 1, by omega, by omega, rfl⟩) (rdr_kf _ _) rfl rfl (by simp [upd, hdA, ha3]) rfl rfl rfl rfl (by decide)
      | [b], _ =>
        have hb4 : b.length = 4 := h4 b (by simp)
        exact RetOb.memK (m := ⟨va, [a.take 3, b]⟩) (k0 := 193) (k1 := 194) (k2 := 195) (k3 := 196) (rc := rdr bs ((n + 1 : Nat) : Int)) (by simp) (by rw [← hR]; exact ⟨⟨va, [a.take 3, b]⟩, rfl, ⟨by simp only; omega, by simp, by simp [hb4]; omega⟩, n + 1, by omega, by omega, rfl⟩) (rdr_kf _ _) rfl rfl (by simp [upd, hdA, ha3, hb4]) rfl rfl rfl rfl (by decide)
  · iterate 6 ((try (refine drvZ Try.func106 ?_; simp (maxSteps := 9999999) (maxDischargeDepth := 300) only [go_sem, rdr, Int.reduceBEq, Int.reduceEq])); (try ((with_reducible refine And.intro ?_ ?_) <;> (repeat' with_reducible apply And.intro) <;> try exact sd)))
    refine RetOb.ofQ (fun j => if j = 0 then some 0 else none) [] (.agg (Mm.cells ⟨[], []⟩)) [some (rdr bs ((n + 1 : Nat) : Int))] ?_ ?_ (by simp)
    · simp [enumL, hOf, DM, DMs, CM, CMs, HpOK, LowOK, upd, rdr, Mm.cells, isI, kf]
    · rw [← hR]; exact ⟨⟨[], []⟩, rfl, ⟨by simp, by simp, by simp⟩, n + 1, by omega, by omega, rfl⟩
  · have e0 : (v == 0) = false := by simp [h0]
    have e1 : (v == 1) = false := by simp [h1]
    have e2 : (v == 2) = false := by simp [h2]
    have e3 : (v == 3) = false := by simp [h3]
    iterate 6 ((try (refine drvZ Try.func106 ?_; simp (maxSteps := 9999999) (maxDischargeDepth := 300) only [go_sem, rdr, h0, h1, h2, h3, e0, e1, e2, e3])); (try ((with_reducible refine And.intro ?_ ?_) <;> (repeat' with_reducible apply And.intro) <;> try exact sd)))
    exact hfin 193 _ _ (n + 1) va _ (by omega) (by omega) (by omega) rfl rfl rfl rfl rfl rfl rfl (by decide)
end Go.Proofs.Ytclgjiffpijgmaa.CtD

namespace Go.Proofs.Ytclgjiffpijgmaa.CtD
open Go Go.CT CtF CtR

theorem renC_kf (r : Nat → Nat) : ∀ c : C, kf c = true → renC r c = c
  | .v _, _ | .isl _ _, _ | .z, _ | .unk, _ | .eptr _, _ | .met _ _, _ => rfl
  | .msl _ _ _ _, h | .ptr _ _, h | .clo _ _, h => by simp [kf] at h
theorem renCs_kf (r : Nat → Nat) (cs : List C) (h : ∀ c ∈ cs, kf c = true) : renCs r cs = cs := by
  rw [renCs_eq]
  conv => rhs; rw [← List.map_id cs]
  exact List.map_congr_left fun c hc => renC_kf r c (h c hc)
theorem renCs_stC (r : Nat → Nat) (l : List St1) : renCs r (stC l) = stC l := renCs_kf r _ (stC_kf l)

set_option maxHeartbeats 4000000 in
set_option maxRecDepth 10000 in
theorem l2Copy (p : Pg) (d : Nat) (hv : p.vars.length ≤ 1000) (ha : p.arrays.length ≤ 1000) (hb : p.body.length ≤ 1000) (hs : ∀ s ∈ p.body, SmS d s) : DC Try.prog 114 [.agg p.cells] []
    (fun r h => r = .agg [.msl 0 1 0 p.vars.length, .msl 1 1 0 p.arrays.length, .msl 2 11 0 p.body.length] ∧ h = [some (p.vars.map I64), some (p.arrays.map I64), some (stC p.body)]) := by
  have hmx := mx_eq
  have hcb := l2CopyBlockOwn d p.body (by omega) hs
  generalize hR : (fun (r : D) (h : List (Option (List C))) => r = .agg [.msl 0 1 0 p.vars.length, .msl 1 1 0 p.arrays.length, .msl 2 11 0 p.body.length] ∧ h = [some (p.vars.map I64), some (p.arrays.map I64), some (stC p.body)]) = R
  obtain ⟨vs, ar, bd⟩ := p
  have hv : vs.length ≤ 1000 := hv
  have ha : ar.length ≤ 1000 := ha
  have hb : bd.length ≤ 1000 := hb
  have hfl : (bd.map St1.cells).flatten = stC bd := rfl
  refine dcZ Try.func114 ?_
  simp (maxSteps := 9999999) (maxDischargeDepth := 300) only [go_sem, flat_I']
  iterate 2 ((try (refine drvZ Try.func114 ?_; simp (maxSteps := 9999999) (maxDischargeDepth := 300) only [go_sem, flat_I'])); (try ((with_reducible refine And.intro ?_ ?_) <;> (repeat' with_reducible apply And.intro) <;> try exact sd)))
  refine XK.callG [] hcb ok145 (fun i' x h => by simp at h) (hbT ()) (fun d h' ⟨_, e⟩ => by subst e; simp) ?_ (fun _ => ⟨by kernel_rfl, _, _, ⟨rfl, rfl⟩, by simp⟩)
  rintro _ _ ⟨rfl, rfl⟩ _
  iterate 3 ((try (refine drvZ Try.func114 ?_; simp (maxSteps := 9999999) (maxDischargeDepth := 300) only [go_sem, flat_I', renCs_stC])); (try ((with_reducible refine And.intro ?_ ?_) <;> (repeat' with_reducible apply And.intro) <;> try exact sd)))
  refine RetOb.ofQ (fun j => if j = 0 then some 320 else if j = 1 then some 576 else if j = 2 then some 768 else none) [] (.agg [.msl 0 1 0 vs.length, .msl 1 1 0 ar.length, .msl 2 11 0 bd.length]) [some (vs.map I64), some (ar.map I64), some (stC bd)] ?_ (by rw [← hR]; exact ⟨rfl, rfl⟩) (by simp)
  simp [enumL, hOf, DM, DMs, CM, CMs, HpOK, LowOK, upd, CMs_I]
  exact CMs.kf (stC_kf _)
end Go.Proofs.Ytclgjiffpijgmaa.CtD

namespace Go.Proofs.Ytclgjiffpijgmaa.CtD
open Go Go.CT CtF CtR

/-- What is asked of a drawn program that may be invalid. -/
structure SmP (p : Pg) : Prop where
  nv : p.vars.length ≤ 13
  na : p.arrays.length ≤ 2
  nb : p.body.length ≤ 4
  sz : ∀ k, lsize k p.body ≤ 1000
def muR (bs : List Int) (n : Nat) (r : D) (h : List (Option (List C))) : Prop := ∃ p : Pg, r = .agg p.cells ∧ SmP p ∧ rdL bs n 5 h
theorem RetOb.prK {R : D → List (Option (List C)) → Prop} {p : Pg} {hp : Hp} {k0 k1 k2 nv na nb : Nat} {rc : List C} (hR : R (.agg p.cells) [some rc]) (hrc : ∀ c ∈ rc, kf c = true)
    (hz : hp 0 = some (some rc)) (h0 : hp k0 = some (some (p.vars.map I64))) (h1 : hp k1 = some (some (p.arrays.map I64))) (h2 : hp k2 = some (some (stC p.body))) (hv : nv = p.vars.length) (ha : na = p.arrays.length) (hb : nb = p.body.length)
    (hne : 0 ≠ k0 ∧ 0 ≠ k1 ∧ 0 ≠ k2) : RetOb 1 R (.agg [.msl k0 1 0 nv, .msl k1 1 0 na, .msl k2 11 0 nb]) hp := by
  subst hv ha hb
  obtain ⟨vs, ar, bd⟩ := p
  obtain ⟨n0, n1, n2⟩ := hne
  refine RetOb.ofQ (fun j => if j = 0 then some 0 else none) [k0, k1, k2] _ [some rc] ?_ hR (by simp)
  have e4 : ∀ {hT hS : Hp} {r : Nat → Option Nat} {fz : List Nat}, CMs hT r hS fz rc rc = True := eq_true (CMs.kf hrc)
  have g1 : (St1.cellsL bd).flatten = stC bd := by rw [St1.cellsL_eq]; rfl
  have g2 : ∀ x ∈ St1.cellsL bd, x.length = 11 := fun x hx => by rw [St1.cellsL_eq] at hx; obtain ⟨e, _, rfl⟩ := List.mem_map.1 hx; exact St1.cells_len e
  have g3 : ∀ x ∈ St1.cellsL bd, ∀ c ∈ x, kf c = true := fun x hx => by rw [St1.cellsL_eq] at hx; obtain ⟨e, _, rfl⟩ := List.mem_map.1 hx; exact st_kf e
  simp [enumL, DM, DMs, CM, CMs, HpOK, LowOK, hOf, upd, Pg.cells, isI, flat_I, kf, e4, hz, h0, h1, h2, g1, St1.cellsL_length, n0, n1, n2]
  exact ⟨g2, g3⟩
theorem lsize_cons (k : Nat) (s : St1) (l : List St1) : lsize k (s :: l) = tsize k s + lsize k l := by simp [lsize]
theorem tsize_head (k : Nat) (a a' t t' : Int) (x x' v v' : Ex) (c c' : Int) (b e : List St1) : tsize k (.mk a t x v c b e) = tsize k (.mk a' t' x' v' c' b e) := by cases k <;> rfl
theorem DrP.smP {p : Pg} (h : DrP p) : SmP p := ⟨by have := h.nv; omega, h.na, h.nb, fun k => by
  have h1 := lsize_sm 2 k p.body h.sm
  have h2 : p.body.length * 9 ^ 2 ≤ 4 * 9 ^ 2 := Nat.mul_le_mul_right _ h.nb
  omega⟩
theorem kf_body (l : List St1) : ∀ c ∈ stC l, kf c = true := stC_kf l
theorem stC_cons (s : St1) (l : List St1) : stC (s :: l) = s.cells ++ stC l := by simp [stC]
theorem stC_nil : stC [] = [] := rfl

set_option maxHeartbeats 8000000 in
set_option maxRecDepth 10000 in
theorem l2Mutate (bs : List Int) (n : Nat) (p : Pg) (hb : Fits .u8 bs) (hl : bs.length ≤ 2000) (hn : n ≤ 274877906944) (hp : DrP p) : DC Try.prog 69 [.c (.ptr 0 0), .agg p.cells] [some (rdr bs n)] (muR bs n) := by
  have hmx := mx_eq
  have hsm := hp.smP
  have hcp := l2Copy p 2 (by have := hp.nv; omega) (by have := hp.na; omega) (by have := hp.nb; omega) hp.sm
  have hnum := fun n xs h1 h2 h3 => numO bs n xs hb hl h1 h2 h3
  generalize hR : muR bs n = R
  obtain ⟨vs, ar, bd⟩ := p
  have hv5 : vs.length ≤ 5 := hp.nv
  have ha2 : ar.length ≤ 2 := hp.na
  have hb4 : bd.length ≤ 4 := hp.nb
  have hfin : ∀ (k0 nv na nb : Nat) (n' : Nat) (va' : List Int) (bd' : List St1) (hp : Hp), va'.length ≤ 13 → bd'.length ≤ 4 → (∀ k, lsize k bd' = lsize k bd) → n ≤ n' → n' ≤ n + 5 → hp 0 = some (some (rdr bs n')) → hp k0 = some (some (va'.map I64)) → hp 194 = some (some (ar.map I64)) → hp 195 = some (some (stC bd')) → nv = va'.length → na = ar.length → nb = bd'.length →
      0 ≠ k0 → RetOb 1 R (.agg [.msl k0 1 0 nv, .msl 194 1 0 na, .msl 195 11 0 nb]) hp := fun k0 nv na nb n' va' bd' hp g1 g1b g1c g2 g3 g4 g5 g6 g7 g8 g9 g10 e4 =>
    RetOb.prK (p := ⟨va', ar, bd'⟩) (by rw [← hR]; exact ⟨⟨va', ar, bd'⟩, rfl, ⟨g1, ha2, g1b, fun k => by rw [g1c]; exact hsm.sz k⟩, n', g2, g3, rfl⟩) (rdr_kf bs n') g4 g5 g6 g7 g8 g9 g10 ⟨e4, by decide, by decide⟩
  refine dcZ Try.func69 ?_
  simp (maxSteps := 9999999) (maxDischargeDepth := 300) only [go_sem, rdr]
  ((try (refine drvZ Try.func69 ?_; simp (maxSteps := 9999999) (maxDischargeDepth := 300) only [go_sem, rdr])); (try ((with_reducible refine And.intro ?_ ?_) <;> (repeat' with_reducible apply And.intro) <;> try exact sd)))
  refine XK.callG [] hcp ok114 (fun i' x h => by simp at h) (hbT ()) (fun d h' ⟨_, e⟩ => by subst e; simp) ?_
  rintro _ _ ⟨rfl, rfl⟩ _
  iterate 3 ((try (refine drvZ Try.func69 ?_; simp (maxSteps := 9999999) (maxDischargeDepth := 300) only [go_sem, renCs_I, renCs_stC, rdr])); (try ((with_reducible refine And.intro ?_ ?_) <;> (repeat' with_reducible apply And.intro) <;> try exact sd)))
  refine XK.callG [0] (pick bs n 60 hb hl (by omega) (by simp only [InK]; omega)) ok58 (hhp_one rfl) (hbT ()) (fun d h' ⟨v, _, _, e⟩ => by subst e; simp) ?_
  rintro _ _ ⟨v, rfl, hpv, rfl⟩ _
  have hpv : v = 0 ∨ v = 1 ∨ v = 2 ∨ v = 3 ∨ v = 4 ∨ v = 5 ∨ v = 6 ∨ (v ≠ 0 ∧ v ≠ 1 ∧ v ≠ 2 ∧ v ≠ 3 ∧ v ≠ 4 ∧ v ≠ 5 ∧ v ≠ 6) := by omega
  rcases hpv with rfl | rfl | rfl | rfl | rfl | rfl | rfl | ⟨h0, h1, h2, h3, h4, h5, h6⟩
  · cases vs with
    | nil =>
      have hz : ((0 : Int) < 0) = False := eq_false (by omega)
      iterate 5 ((try (refine drvZ Try.func69 ?_; simp (maxSteps := 9999999) (maxDischargeDepth := 300) only [go_sem, rdr, Int.reduceBEq, Int.reduceEq, List.length_nil, Int.natCast_zero, hz])); (try ((with_reducible refine And.intro ?_ ?_) <;> (repeat' with_reducible apply And.intro) <;> try exact sd)))
      exact hfin 193 _ _ _ (n + 1) [] bd _ (by first | omega | (simp; omega) | simp) (by first | omega | (simp; omega) | simp) (fun _ => rfl) (by omega) (by omega) rfl rfl rfl rfl rfl rfl rfl (by decide)
    | cons x r =>
      have hv5 : r.length + 1 ≤ 5 := hv5
      have hz : ((0 : Int) < (r.length : Int) + 1) = True := eq_true (by omega)
      iterate 5 ((try (refine drvZ Try.func69 ?_; simp (maxSteps := 9999999) (maxDischargeDepth := 300) only [go_sem, rdr, Int.reduceBEq, Int.reduceEq, hz])); (try ((with_reducible refine And.intro ?_ ?_) <;> (repeat' with_reducible apply And.intro) <;> try exact sd)))
      refine XK.callG [0] (l1Draw bs (n + 1) hb hl (by omega)) ok115 (hhp_one rfl) (hbT ()) (fun d h' ⟨_, _, _, _, _, _, e⟩ => by subst e; simp) ?_ (fun _ => ⟨by kernel_rfl, _, _, ⟨0, rfl, by simp [InK], n + 1, by omega, by omega, rfl⟩, by simp⟩)
      rintro _ _ ⟨w, rfl, hw, n', hn1, hn2, rfl⟩ _
      iterate 5 ((try (refine drvZ Try.func69 ?_; simp (maxSteps := 9999999) (maxDischargeDepth := 300) only [go_sem, rdr, Int.reduceBEq, Int.reduceEq, hz])); (try ((with_reducible refine And.intro ?_ ?_) <;> (repeat' with_reducible apply And.intro) <;> try exact sd)))
      exact hfin 193 _ _ _ n' (w :: r) bd _ (by first | omega | (simp; omega) | simp) (by omega) (fun _ => rfl) (by omega) (by omega) rfl rfl rfl rfl rfl rfl rfl (by decide)
  · iterate 5 ((try (refine drvZ Try.func69 ?_; simp (maxSteps := 9999999) (maxDischargeDepth := 300) only [go_sem, rdr, Int.reduceBEq, Int.reduceEq])); (try ((with_reducible refine And.intro ?_ ?_) <;> (repeat' with_reducible apply And.intro) <;> try exact sd)))
    refine Go.loopQ (fun l : List Int => [(4, .c (.ptr 65 0)), (5, .c (.ptr 257 0))])
      (fun l => [(0, some (rdr bs ((n + 1 : Nat) : Int))), (65, some [.v (.slice none 0 0), .v (.slice none 0 0), .v (.slice none 0 0)]), (257, some [.msl 67 1 0 l.length, .msl 194 1 0 ar.length, .msl 195 11 0 bd.length]), (67, some (l.map I64)), (194, some (ar.map I64)), (195, some (stC bd))])
      4096 (fun l => l.length ≤ 13) (fun l => 13 - l.length) ?_ vs (fun j => if j = 67 then some 193 else some j) [] _ (by omega) ?_
    · intro l hi again
      rcases Nat.lt_or_ge l.length 13 with hlt | hge
      · have hz : ((l.length : Int) ≤ 12) = True := eq_true (by omega)
        refine drvL Try.func69 ?_
        simp (maxSteps := 9999999) (maxDischargeDepth := 300) only [go_sem, rdr, hz]
        iterate 4 ((try (refine drvZ Try.func69 ?_; simp (maxSteps := 9999999) (maxDischargeDepth := 300) only [go_sem, rdr, Int.reduceBEq, Int.reduceEq, hz])); (try ((with_reducible refine And.intro ?_ ?_) <;> (repeat' with_reducible apply And.intro) <;> try exact sd)))
        refine again (l ++ [1]) (fun j => if j = 67 then some 4544 else some j) [] _ (by simp; omega) (by simp; omega) ?_
        simp (maxSteps := 9999999) (maxDischargeDepth := 300) only [go_sem, TmOK, DM, DMs, CM, CMs, forall_eq, exists_eq_left, Mq, HpOK, LowOK, rdr, i_snoc]
        simp
        exact ⟨CMs.kf (kf_app (kf_I _) (by simp [kf])), CMs.kf (kf_I _), CMs.kf (stC_kf _)⟩
      · have hz : ((l.length : Int) ≤ 12) = False := eq_false (by omega)
        refine drvL Try.func69 ?_
        simp (maxSteps := 9999999) (maxDischargeDepth := 300) only [go_sem, rdr, hz]
        iterate 4 ((try (refine drvZ Try.func69 ?_; simp (maxSteps := 9999999) (maxDischargeDepth := 300) only [go_sem, rdr, Int.reduceBEq, Int.reduceEq, hz])); (try ((with_reducible refine And.intro ?_ ?_) <;> (repeat' with_reducible apply And.intro) <;> try exact sd)))
        exact hfin 67 _ _ _ (n + 1) l bd _ (by omega) (by omega) (fun _ => rfl) (by omega) (by omega) rfl rfl rfl rfl rfl rfl rfl (by decide)
    · simp (maxSteps := 9999999) (maxDischargeDepth := 300) only [go_sem, TmOK, DM, DMs, CM, CMs, forall_eq, exists_eq_left, Mq, HpOK, LowOK, rdr]
      simp
      exact ⟨CMs.kf (kf_I _), CMs.kf (kf_I _), CMs.kf (stC_kf _)⟩
  · cases bd with
    | nil =>
      have hz : ((0 : Int) < 0) = False := eq_false (by omega)
      iterate 9 ((try (refine drvZ Try.func69 ?_; simp (maxSteps := 9999999) (maxDischargeDepth := 300) only [go_sem, rdr, Int.reduceBEq, Int.reduceEq, List.length_nil, Int.natCast_zero, hz])); (try ((with_reducible refine And.intro ?_ ?_) <;> (repeat' with_reducible apply And.intro) <;> try exact sd)))
      exact hfin 193 _ _ _ (n + 1) vs [] _ (by first | omega | (simp; omega) | simp) (by first | omega | (simp; omega) | simp) (fun _ => rfl) (by omega) (by omega) rfl rfl rfl rfl rfl rfl rfl (by decide)
    | cons s r =>
      obtain ⟨k, t, ⟨ik, iv, iks⟩, ⟨vk, vv, vks⟩, c, b, e⟩ := s
      have hb4 : r.length + 1 ≤ 4 := hb4
      have hz : ((0 : Int) < (r.length : Int) + 1) = True := eq_true (by omega)
      iterate 9 ((try (refine drvZ Try.func69 ?_; simp (maxSteps := 9999999) (maxDischargeDepth := 300) only [go_sem, rdr, Int.reduceBEq, Int.reduceEq, hz, stC_cons, List.cons_append, List.nil_append])); (try ((with_reducible refine And.intro ?_ ?_) <;> (repeat' with_reducible apply And.intro) <;> try exact sd)))
      refine XK.callG [0, 1473] (hnum (n + 1) [0, 6, 1, 5, 2] (by omega) (by decide) (by decide)) ok100 (hhp2 rfl rfl) (hbT ()) (fun d h' ⟨_, _, _, e⟩ => by subst e; simp) ?_ (fun _ => ⟨by kernel_rfl, _, _, ⟨1, rfl, by simp, rfl⟩, by simp⟩)
      rintro _ _ ⟨w, rfl, hw, rfl⟩ _
      clear hw
      iterate 5 ((try (refine drvZ Try.func69 ?_; simp (maxSteps := 9999999) (maxDischargeDepth := 300) only [go_sem, rdr, Int.reduceBEq, Int.reduceEq, hz, stC_cons, List.cons_append, List.nil_append])); (try ((with_reducible refine And.intro ?_ ?_) <;> (repeat' with_reducible apply And.intro) <;> try exact sd)))
      exact hfin 193 _ _ _ (n + 2) vs ((.mk w t (.mk ik iv iks) (.mk vk vv vks) c b e) :: r) _ (by first | omega | (simp; omega) | simp) (by first | omega | (simp; omega) | simp) (fun _ => by rw [lsize_cons, lsize_cons]; exact congrArg (· + _) (tsize_head ..)) (by omega) (by omega) rfl rfl rfl rfl rfl rfl rfl (by decide)
  · match bd, hb4 with
    | [], hb4 =>
      have hz : ((0 : Int) < 0) = False := eq_false (by omega)
      iterate 9 ((try (refine drvZ Try.func69 ?_; simp (maxSteps := 9999999) (maxDischargeDepth := 300) only [go_sem, rdr, Int.reduceBEq, Int.reduceEq, List.length_nil, Int.natCast_zero, hz])); (try ((with_reducible refine And.intro ?_ ?_) <;> (repeat' with_reducible apply And.intro) <;> try exact sd)))
      exact hfin 193 _ _ _ (n + 1) vs [] _ (by first | omega | (simp; omega) | simp) (by first | omega | (simp; omega) | simp) (fun _ => rfl) (by omega) (by omega) rfl rfl rfl rfl rfl rfl rfl (by decide)
    | [a], hb4 =>
      obtain ⟨k, t, ⟨ik, iv, iks⟩, ⟨vk, vv, vks⟩, c0, b0, e0⟩ := a
      iterate 9 ((try (refine drvZ Try.func69 ?_; simp (maxSteps := 9999999) (maxDischargeDepth := 300) only [go_sem, rdr, Int.reduceBEq, Int.reduceEq, stC_cons, stC_nil, List.cons_append, List.nil_append, Int.reduceAdd, Int.reduceSub, Int.natCast_zero, List.length_nil])); (try ((with_reducible refine And.intro ?_ ?_) <;> (repeat' with_reducible apply And.intro) <;> try exact sd)))
      refine XK.callG [0, 1729] (hnum (n + 1) [-1, 12, 1, 9223372036854775807] (by omega) (by decide) (by decide)) ok100 (hhp2 rfl rfl) (hbT ()) (fun d h' ⟨_, _, _, e⟩ => by subst e; simp) ?_ (fun _ => ⟨by kernel_rfl, _, _, ⟨1, rfl, by simp, rfl⟩, by simp⟩)
      rintro _ _ ⟨w, rfl, hw, rfl⟩ _
      clear hw
      iterate 5 ((try (refine drvZ Try.func69 ?_; simp (maxSteps := 9999999) (maxDischargeDepth := 300) only [go_sem, rdr, Int.reduceBEq, Int.reduceEq, stC_cons, stC_nil, List.cons_append, List.nil_append, Int.reduceAdd, Int.reduceSub, Int.natCast_zero, List.length_nil])); (try ((with_reducible refine And.intro ?_ ?_) <;> (repeat' with_reducible apply And.intro) <;> try exact sd)))
      exact hfin 193 _ _ _ (n + 2) vs [(.mk k w (.mk ik iv iks) (.mk vk vv vks) c0 b0 e0)] _ (by first | omega | (simp; omega) | simp) (by first | omega | (simp; omega) | simp) (fun q => by simp only [lsize_cons, tsize_head q k k w t (.mk ik iv iks) (.mk ik iv iks) (.mk vk vv vks) (.mk vk vv vks) c0 c0 b0 e0]) (by omega) (by omega) rfl rfl rfl rfl rfl rfl rfl (by decide)
    | [a, b], hb4 =>
      obtain ⟨k, t, ⟨ik, iv, iks⟩, ⟨vk, vv, vks⟩, c0, b0, e0⟩ := b
      obtain ⟨ka, ta, ⟨ika, iva, iksa⟩, ⟨vka, vva, vksa⟩, ca, ba, ea⟩ := a
      iterate 9 ((try (refine drvZ Try.func69 ?_; simp (maxSteps := 9999999) (maxDischargeDepth := 300) only [go_sem, rdr, Int.reduceBEq, Int.reduceEq, stC_cons, stC_nil, List.cons_append, List.nil_append, Int.reduceAdd, Int.reduceSub, Int.natCast_zero, List.length_nil])); (try ((with_reducible refine And.intro ?_ ?_) <;> (repeat' with_reducible apply And.intro) <;> try exact sd)))
      refine XK.callG [0, 1729] (hnum (n + 1) [-1, 12, 1, 9223372036854775807] (by omega) (by decide) (by decide)) ok100 (hhp2 rfl rfl) (hbT ()) (fun d h' ⟨_, _, _, e⟩ => by subst e; simp) ?_ (fun _ => ⟨by kernel_rfl, _, _, ⟨1, rfl, by simp, rfl⟩, by simp⟩)
      rintro _ _ ⟨w, rfl, hw, rfl⟩ _
      clear hw
      iterate 5 ((try (refine drvZ Try.func69 ?_; simp (maxSteps := 9999999) (maxDischargeDepth := 300) only [go_sem, rdr, Int.reduceBEq, Int.reduceEq, stC_cons, stC_nil, List.cons_append, List.nil_append, Int.reduceAdd, Int.reduceSub, Int.natCast_zero, List.length_nil])); (try ((with_reducible refine And.intro ?_ ?_) <;> (repeat' with_reducible apply And.intro) <;> try exact sd)))
      exact hfin 193 _ _ _ (n + 2) vs [(.mk ka ta (.mk ika iva iksa) (.mk vka vva vksa) ca ba ea), (.mk k w (.mk ik iv iks) (.mk vk vv vks) c0 b0 e0)] _ (by first | omega | (simp; omega) | simp) (by first | omega | (simp; omega) | simp) (fun q => by simp only [lsize_cons, tsize_head q k k w t (.mk ik iv iks) (.mk ik iv iks) (.mk vk vv vks) (.mk vk vv vks) c0 c0 b0 e0]) (by omega) (by omega) rfl rfl rfl rfl rfl rfl rfl (by decide)
    | [a, b, c], hb4 =>
      obtain ⟨k, t, ⟨ik, iv, iks⟩, ⟨vk, vv, vks⟩, c0, b0, e0⟩ := c
      obtain ⟨ka, ta, ⟨ika, iva, iksa⟩, ⟨vka, vva, vksa⟩, ca, ba, ea⟩ := a
      obtain ⟨kb, tb, ⟨ikb, ivb, iksb⟩, ⟨vkb, vvb, vksb⟩, cb, bb, eb⟩ := b
      iterate 9 ((try (refine drvZ Try.func69 ?_; simp (maxSteps := 9999999) (maxDischargeDepth := 300) only [go_sem, rdr, Int.reduceBEq, Int.reduceEq, stC_cons, stC_nil, List.cons_append, List.nil_append, Int.reduceAdd, Int.reduceSub, Int.natCast_zero, List.length_nil])); (try ((with_reducible refine And.intro ?_ ?_) <;> (repeat' with_reducible apply And.intro) <;> try exact sd)))
      refine XK.callG [0, 1729] (hnum (n + 1) [-1, 12, 1, 9223372036854775807] (by omega) (by decide) (by decide)) ok100 (hhp2 rfl rfl) (hbT ()) (fun d h' ⟨_, _, _, e⟩ => by subst e; simp) ?_ (fun _ => ⟨by kernel_rfl, _, _, ⟨1, rfl, by simp, rfl⟩, by simp⟩)
      rintro _ _ ⟨w, rfl, hw, rfl⟩ _
      clear hw
      iterate 5 ((try (refine drvZ Try.func69 ?_; simp (maxSteps := 9999999) (maxDischargeDepth := 300) only [go_sem, rdr, Int.reduceBEq, Int.reduceEq, stC_cons, stC_nil, List.cons_append, List.nil_append, Int.reduceAdd, Int.reduceSub, Int.natCast_zero, List.length_nil])); (try ((with_reducible refine And.intro ?_ ?_) <;> (repeat' with_reducible apply And.intro) <;> try exact sd)))
      exact hfin 193 _ _ _ (n + 2) vs [(.mk ka ta (.mk ika iva iksa) (.mk vka vva vksa) ca ba ea), (.mk kb tb (.mk ikb ivb iksb) (.mk vkb vvb vksb) cb bb eb), (.mk k w (.mk ik iv iks) (.mk vk vv vks) c0 b0 e0)] _ (by first | omega | (simp; omega) | simp) (by first | omega | (simp; omega) | simp) (fun q => by simp only [lsize_cons, tsize_head q k k w t (.mk ik iv iks) (.mk ik iv iks) (.mk vk vv vks) (.mk vk vv vks) c0 c0 b0 e0]) (by omega) (by omega) rfl rfl rfl rfl rfl rfl rfl (by decide)
    | [a, b, c, d], hb4 =>
      obtain ⟨k, t, ⟨ik, iv, iks⟩, ⟨vk, vv, vks⟩, c0, b0, e0⟩ := d
      obtain ⟨ka, ta, ⟨ika, iva, iksa⟩, ⟨vka, vva, vksa⟩, ca, ba, ea⟩ := a
      obtain ⟨kb, tb, ⟨ikb, ivb, iksb⟩, ⟨vkb, vvb, vksb⟩, cb, bb, eb⟩ := b
      obtain ⟨kc, tc, ⟨ikc, ivc, iksc⟩, ⟨vkc, vvc, vksc⟩, cc, bc, ec⟩ := c
      iterate 9 ((try (refine drvZ Try.func69 ?_; simp (maxSteps := 9999999) (maxDischargeDepth := 300) only [go_sem, rdr, Int.reduceBEq, Int.reduceEq, stC_cons, stC_nil, List.cons_append, List.nil_append, Int.reduceAdd, Int.reduceSub, Int.natCast_zero, List.length_nil])); (try ((with_reducible refine And.intro ?_ ?_) <;> (repeat' with_reducible apply And.intro) <;> try exact sd)))
      refine XK.callG [0, 1729] (hnum (n + 1) [-1, 12, 1, 9223372036854775807] (by omega) (by decide) (by decide)) ok100 (hhp2 rfl rfl) (hbT ()) (fun d h' ⟨_, _, _, e⟩ => by subst e; simp) ?_ (fun _ => ⟨by kernel_rfl, _, _, ⟨1, rfl, by simp, rfl⟩, by simp⟩)
      rintro _ _ ⟨w, rfl, hw, rfl⟩ _
      clear hw
      iterate 5 ((try (refine drvZ Try.func69 ?_; simp (maxSteps := 9999999) (maxDischargeDepth := 300) only [go_sem, rdr, Int.reduceBEq, Int.reduceEq, stC_cons, stC_nil, List.cons_append, List.nil_append, Int.reduceAdd, Int.reduceSub, Int.natCast_zero, List.length_nil])); (try ((with_reducible refine And.intro ?_ ?_) <;> (repeat' with_reducible apply And.intro) <;> try exact sd)))
      exact hfin 193 _ _ _ (n + 2) vs [(.mk ka ta (.mk ika iva iksa) (.mk vka vva vksa) ca ba ea), (.mk kb tb (.mk ikb ivb iksb) (.mk vkb vvb vksb) cb bb eb), (.mk kc tc (.mk ikc ivc iksc) (.mk vkc vvc vksc) cc bc ec), (.mk k w (.mk ik iv iks) (.mk vk vv vks) c0 b0 e0)] _ (by first | omega | (simp; omega) | simp) (by first | omega | (simp; omega) | simp) (fun q => by simp only [lsize_cons, tsize_head q k k w t (.mk ik iv iks) (.mk ik iv iks) (.mk vk vv vks) (.mk vk vv vks) c0 c0 b0 e0]) (by omega) (by omega) rfl rfl rfl rfl rfl rfl rfl (by decide)
  · cases bd with
    | nil =>
      have hz : ((0 : Int) < 0) = False := eq_false (by omega)
      iterate 9 ((try (refine drvZ Try.func69 ?_; simp (maxSteps := 9999999) (maxDischargeDepth := 300) only [go_sem, rdr, Int.reduceBEq, Int.reduceEq, List.length_nil, Int.natCast_zero, hz])); (try ((with_reducible refine And.intro ?_ ?_) <;> (repeat' with_reducible apply And.intro) <;> try exact sd)))
      exact hfin 193 _ _ _ (n + 1) vs [] _ (by first | omega | (simp; omega) | simp) (by first | omega | (simp; omega) | simp) (fun _ => rfl) (by omega) (by omega) rfl rfl rfl rfl rfl rfl rfl (by decide)
    | cons s r =>
      obtain ⟨k, t, ⟨ik, iv, iks⟩, ⟨vk, vv, vks⟩, c, b, e⟩ := s
      have hb4 : r.length + 1 ≤ 4 := hb4
      have hz : ((0 : Int) < (r.length : Int) + 1) = True := eq_true (by omega)
      iterate 9 ((try (refine drvZ Try.func69 ?_; simp (maxSteps := 9999999) (maxDischargeDepth := 300) only [go_sem, rdr, Int.reduceBEq, Int.reduceEq, hz, stC_cons, List.cons_append, List.nil_append])); (try ((with_reducible refine And.intro ?_ ?_) <;> (repeat' with_reducible apply And.intro) <;> try exact sd)))
      refine XK.callG [0, 1729] (hnum (n + 1) [-1, 256, 12, 1] (by omega) (by decide) (by decide)) ok100 (hhp2 rfl rfl) (hbT ()) (fun d h' ⟨_, _, _, e⟩ => by subst e; simp) ?_ (fun _ => ⟨by kernel_rfl, _, _, ⟨1, rfl, by simp, rfl⟩, by simp⟩)
      rintro _ _ ⟨w, rfl, hw, rfl⟩ _
      clear hw
      iterate 5 ((try (refine drvZ Try.func69 ?_; simp (maxSteps := 9999999) (maxDischargeDepth := 300) only [go_sem, rdr, Int.reduceBEq, Int.reduceEq, hz, stC_cons, List.cons_append, List.nil_append])); (try ((with_reducible refine And.intro ?_ ?_) <;> (repeat' with_reducible apply And.intro) <;> try exact sd)))
      exact hfin 193 _ _ _ (n + 2) vs ((.mk k t (.mk ik iv iks) (.mk vk w vks) c b e) :: r) _ (by first | omega | (simp; omega) | simp) (by first | omega | (simp; omega) | simp) (fun _ => by rw [lsize_cons, lsize_cons]; exact congrArg (· + _) (tsize_head ..)) (by omega) (by omega) rfl rfl rfl rfl rfl rfl rfl (by decide)
  · cases bd with
    | nil =>
      have hz : ((0 : Int) < 0) = False := eq_false (by omega)
      iterate 9 ((try (refine drvZ Try.func69 ?_; simp (maxSteps := 9999999) (maxDischargeDepth := 300) only [go_sem, rdr, Int.reduceBEq, Int.reduceEq, List.length_nil, Int.natCast_zero, hz])); (try ((with_reducible refine And.intro ?_ ?_) <;> (repeat' with_reducible apply And.intro) <;> try exact sd)))
      exact hfin 193 _ _ _ (n + 1) vs [] _ (by first | omega | (simp; omega) | simp) (by first | omega | (simp; omega) | simp) (fun _ => rfl) (by omega) (by omega) rfl rfl rfl rfl rfl rfl rfl (by decide)
    | cons s r =>
      obtain ⟨k, t, ⟨ik, iv, iks⟩, ⟨vk, vv, vks⟩, c, b, e⟩ := s
      have hb4 : r.length + 1 ≤ 4 := hb4
      have hz : ((0 : Int) < (r.length : Int) + 1) = True := eq_true (by omega)
      iterate 9 ((try (refine drvZ Try.func69 ?_; simp (maxSteps := 9999999) (maxDischargeDepth := 300) only [go_sem, rdr, Int.reduceBEq, Int.reduceEq, hz, stC_cons, List.cons_append, List.nil_append])); (try ((with_reducible refine And.intro ?_ ?_) <;> (repeat' with_reducible apply And.intro) <;> try exact sd)))
      refine XK.callG [0, 1857] (hnum (n + 1) [1, 4, -1, 2] (by omega) (by decide) (by decide)) ok100 (hhp2 rfl rfl) (hbT ()) (fun d h' ⟨_, _, _, e⟩ => by subst e; simp) ?_ (fun _ => ⟨by kernel_rfl, _, _, ⟨1, rfl, by simp, rfl⟩, by simp⟩)
      rintro _ _ ⟨w, rfl, hw, rfl⟩ _
      clear hw
      iterate 5 ((try (refine drvZ Try.func69 ?_; simp (maxSteps := 9999999) (maxDischargeDepth := 300) only [go_sem, rdr, Int.reduceBEq, Int.reduceEq, hz, stC_cons, List.cons_append, List.nil_append])); (try ((with_reducible refine And.intro ?_ ?_) <;> (repeat' with_reducible apply And.intro) <;> try exact sd)))
      exact hfin 193 _ _ _ (n + 2) vs ((.mk k t (.mk ik iv iks) (.mk vk vv vks) w b e) :: r) _ (by first | omega | (simp; omega) | simp) (by first | omega | (simp; omega) | simp) (fun _ => by rw [lsize_cons, lsize_cons]; exact congrArg (· + _) (tsize_head ..)) (by omega) (by omega) rfl rfl rfl rfl rfl rfl rfl (by decide)
  · iterate 8 ((try (refine drvZ Try.func69 ?_; simp (maxSteps := 9999999) (maxDischargeDepth := 300) only [go_sem, rdr, Int.reduceBEq, Int.reduceEq])); (try ((with_reducible refine And.intro ?_ ?_) <;> (repeat' with_reducible apply And.intro) <;> try exact sd)))
    refine RetOb.ofQ (fun j => if j = 0 then some 0 else none) [] (.agg (Pg.cells ⟨[], [], []⟩)) [some (rdr bs ((n + 1 : Nat) : Int))] ?_ ?_ (by simp)
    · simp [enumL, hOf, DM, DMs, CM, CMs, HpOK, LowOK, upd, rdr, Pg.cells, isI, kf, St1.cellsL]
    · rw [← hR]; exact ⟨⟨[], [], []⟩, rfl, ⟨by simp, by simp, by simp, fun k => by simp [lsize]⟩, n + 1, by omega, by omega, rfl⟩
  · have e0 : (v == 0) = false := by simp [h0]
    have e1 : (v == 1) = false := by simp [h1]
    have e2 : (v == 2) = false := by simp [h2]
    have e3 : (v == 3) = false := by simp [h3]
    have e4 : (v == 4) = false := by simp [h4]
    have e5 : (v == 5) = false := by simp [h5]
    have e6 : (v == 6) = false := by simp [h6]
    iterate 8 ((try (refine drvZ Try.func69 ?_; simp (maxSteps := 9999999) (maxDischargeDepth := 300) only [go_sem, rdr, h0, h1, h2, h3, h4, h5, h6, e0, e1, e2, e3, e4, e5, e6])); (try ((with_reducible refine And.intro ?_ ?_) <;> (repeat' with_reducible apply And.intro) <;> try exact sd)))
    exact hfin 193 _ _ _ (n + 1) vs bd _ (by omega) (by omega) (fun _ => rfl) (by omega) (by omega) rfl rfl rfl rfl rfl rfl rfl (by decide)
end Go.Proofs.Ytclgjiffpijgmaa.CtD

namespace Go.Proofs.Ytclgjiffpijgmaa.CtD
open Go Go.CT CtF CtR

/-- A drawn program and memory, either of them perhaps invalid. -/
def dmR (r : D) (h : List (Option (List C))) : Prop := ∃ (p : Pg) (m : Mm), r = .tup [.agg p.cells, .agg m.cells] ∧ SmP p ∧ SmM m ∧ h = []
theorem fits_take {k : IntKind} {bs : List Int} (h : Fits k bs) (n : Nat) : Fits k (bs.take n) := fun x hx => h x (List.mem_of_mem_take hx)
theorem renCs_rdr (r : Nat → Nat) (bs : List Int) (n : Int) : renCs r (rdr bs n) = rdr bs n := renCs_kf r _ (rdr_kf bs n)
theorem prog_len {p : Pg} (h : progOK p = true) : 1 ≤ p.vars.length ∧ p.vars.length ≤ 12 ∧ p.arrays.length ≤ 2 := by
  simp only [progOK, headsOK, Bool.and_eq_true, decide_eq_true_eq] at h
  obtain ⟨⟨⟨⟨⟨_, h1⟩, h2⟩, h3⟩, _⟩, _⟩ := h
  omega

set_option maxHeartbeats 4000000 in
set_option maxRecDepth 10000 in
theorem drawMemoryValid (bs : List Int) (hb : Fits .u8 bs) (hl : bs.length ≤ mx) : DC Try.prog 63 [bytesD bs] [] dmR := by
  have hmx := mx_eq
  have hop := l17Open bs hl
  have hb' := fits_take hb 2000
  have hl' : (bs.take 2000).length ≤ 2000 := by rw [List.length_take]; omega
  generalize hR : dmR = R
  generalize hbs : bs.take 2000 = b2 at *
  unfold bytesD
  unfold bytesD at hop
  refine dcZ Try.func63 ?_
  simp (maxSteps := 9999999) (maxDischargeDepth := 300) only [go_sem]
  ((try (refine drvZ Try.func63 ?_; simp (maxSteps := 9999999) (maxDischargeDepth := 300) only [go_sem])); (try ((with_reducible refine And.intro ?_ ?_) <;> (repeat' with_reducible apply And.intro) <;> try exact sd)))
  refine XK.callG [] hop ok54 (fun i' x h => by simp at h) (hbT ()) (fun d h' ⟨_, e⟩ => by subst e; simp) ?_
  rintro _ _ ⟨rfl, rfl⟩ _
  iterate 2 ((try (refine drvZ Try.func63 ?_; simp (maxSteps := 9999999) (maxDischargeDepth := 300) only [go_sem, renCs_rdr])); (try ((with_reducible refine And.intro ?_ ?_) <;> (repeat' with_reducible apply And.intro) <;> try exact sd)))
  have hpr := l2Program b2 0 hb' hl' (by omega)
  refine XK.callG [192] hpr ok55 (hhp_one (by simp [upd, renCs_rdr])) (hbT ()) (fun d h' ⟨_, _, _, _, _, _, e⟩ => by subst e; simp) ?_
  rintro _ _ ⟨p, rfl, hp, n1, hn1, hn2, rfl⟩ _
  have hln := prog_len hp.ok
  have hme := l3Memory b2 n1 p hb' hl' (by omega) ⟨hln.1, hln.2.1⟩ hln.2.2
  have hmu := fun n h => l2Mutate b2 n p hb' hl' h hp
  obtain ⟨vs, ar, bd⟩ := p
  iterate 2 ((try (refine drvZ Try.func63 ?_; simp (maxSteps := 9999999) (maxDischargeDepth := 300) only [go_sem, renCs_rdr])); (try ((with_reducible refine And.intro ?_ ?_) <;> (repeat' with_reducible apply And.intro) <;> try exact sd)))
  refine XK.callG [192] hme ok56 (hhp_one (by simp [upd, renCs_rdr])) (hbT ()) (fun d h' ⟨_, _, _, _, _, _, e⟩ => by subst e; simp) ?_
  rintro _ _ ⟨m, rfl, hm, n2, hn3, hn4, rfl⟩ _
  have hbe := l3Bend b2 n2 m hb' hl' (by omega) (by rw [hm.nv]; exact hm.nv12.2) (by rw [hm.na]; exact hm.na2) (fun a ha => (hm.arr a ha).1)
  obtain ⟨va, arr⟩ := m
  iterate 2 ((try (refine drvZ Try.func63 ?_; simp (maxSteps := 9999999) (maxDischargeDepth := 300) only [go_sem, renCs_rdr, Mm.cells])); (try ((with_reducible refine And.intro ?_ ?_) <;> (repeat' with_reducible apply And.intro) <;> try exact sd)))
  refine XK.callG [192] hbe ok106 (hhp_one (by simp [upd, renCs_rdr])) (hbT ()) (fun d h' ⟨_, _, _, _, _, _, e⟩ => by subst e; simp) ?_
  rintro _ _ ⟨m2, rfl, hm2, n3, hn5, hn6, rfl⟩ _
  obtain ⟨va2, arr2⟩ := m2
  iterate 2 ((try (refine drvZ Try.func63 ?_; simp (maxSteps := 9999999) (maxDischargeDepth := 300) only [go_sem, renCs_rdr, Mm.cells])); (try ((with_reducible refine And.intro ?_ ?_) <;> (repeat' with_reducible apply And.intro) <;> try exact sd)))
  refine XK.callG [192] (hmu n3 (by omega)) ok69 (hhp_one (by simp [upd, renCs_rdr])) (hbT ()) (fun d h' ⟨_, _, _, _, _, _, e⟩ => by subst e; simp) ?_ (fun _ => ⟨by kernel_rfl, _, _, ⟨⟨[], [], []⟩, rfl, ⟨by simp, by simp, by simp, fun k => by simp [lsize]⟩, n3, by omega, by omega, rfl⟩, by simp⟩)
  rintro _ _ ⟨p2, rfl, hp2, n4, hn7, hn8, rfl⟩ _
  obtain ⟨vs2, ar2, bd2⟩ := p2
  iterate 3 ((try (refine drvZ Try.func63 ?_; simp (maxSteps := 9999999) (maxDischargeDepth := 300) only [go_sem, renCs_rdr, Mm.cells])); (try ((with_reducible refine And.intro ?_ ?_) <;> (repeat' with_reducible apply And.intro) <;> try exact sd)))
  refine RetOb.ofQ (fun _ => none) [] (.tup [.agg (Pg.cells ⟨vs2, ar2, bd2⟩), .agg (Mm.cells ⟨va2, arr2⟩)]) [] ?_ (by rw [← hR]; exact ⟨_, _, rfl, hp2, hm2, rfl⟩) (by simp)
  simp [enumL, DM, DMs, CM, CMs, HpOK, LowOK, hOf, Pg.cells, Mm.cells, isI]

set_option maxHeartbeats 4000000 in
set_option maxRecDepth 10000 in
theorem drawRunProgram (bs : List Int) (hb : Fits .u8 bs) (hl : bs.length ≤ mx) : DC Try.prog 28 [bytesD bs] [] dmR := by
  have hdm := drawMemoryValid bs hb hl
  generalize hR : dmR = R
  have hRR := hR
  unfold bytesD
  unfold bytesD at hdm
  refine dcZ Try.func28 ?_
  simp (maxSteps := 9999999) (maxDischargeDepth := 300) only [go_sem]
  ((try (refine drvZ Try.func28 ?_; simp (maxSteps := 9999999) (maxDischargeDepth := 300) only [go_sem])); (try ((with_reducible refine And.intro ?_ ?_) <;> (repeat' with_reducible apply And.intro) <;> try exact sd)))
  refine XK.callG [] hdm ok63 (fun i' x h => by simp at h) (hbT ()) (fun d h' ⟨_, _, _, _, _, e⟩ => by subst e; simp) ?_
  rintro _ _ ⟨⟨vs2, ar2, bd2⟩, ⟨va2, arr2⟩, rfl, hp2, hm2, rfl⟩ _
  iterate 3 ((try (refine drvZ Try.func28 ?_; simp (maxSteps := 9999999) (maxDischargeDepth := 300) only [go_sem, Mm.cells])); (try ((with_reducible refine And.intro ?_ ?_) <;> (repeat' with_reducible apply And.intro) <;> try exact sd)))
  refine RetOb.ofQ (fun _ => none) [] (.tup [.agg (Pg.cells ⟨vs2, ar2, bd2⟩), .agg (Mm.cells ⟨va2, arr2⟩)]) [] ?_ (by rw [← hR]; exact ⟨_, _, rfl, hp2, hm2, rfl⟩) (by simp)
  simp [enumL, DM, DMs, CM, CMs, HpOK, LowOK, hOf, Pg.cells, Mm.cells, isI]
end Go.Proofs.Ytclgjiffpijgmaa.CtD

namespace Go.Proofs.Ytclgjiffpijgmaa.CtR
open Go Go.CT CtF

/-! Plain laws of runs. -/
theorem memSame_refl (m : Mm) : memSame m m = true := by simp [memSame]
theorem trSame_refl (t : List Ev) : trSame t t = true := (trSame_iff t t).2 rfl
theorem runP_empty (vs ar : List Int) (m : Mm) : (runP ⟨vs, ar, []⟩ m).2.1 = [] ∧ ((runP ⟨vs, ar, []⟩ m).2.2 = true → (runP ⟨vs, ar, []⟩ m).1 = m) := by
  unfold runP
  split
  · exact ⟨rfl, fun _ => rfl⟩
  · exact ⟨rfl, fun h => by cases h⟩
theorem foldR_app (f : Mm → St1 → Mm × List Ev) : ∀ (a b : List St1) (m : Mm), foldR f m (a ++ b) = ((foldR f (foldR f m a).1 b).1, (foldR f m a).2 ++ (foldR f (foldR f m a).1 b).2)
  | [], b, m => by simp [foldR]
  | x :: r, b, m => by simp only [List.cons_append, foldR, foldR_app f r b, List.append_assoc]
end Go.Proofs.Ytclgjiffpijgmaa.CtR

namespace Go.Proofs.Ytclgjiffpijgmaa.CtR
open Go Go.CT CtF

theorem shape_bd (vs ar : List Int) (b1 b2 : List St1) : ∀ (d : Nat) (e : Ex), shape ⟨vs, ar, b1⟩ d e = shape ⟨vs, ar, b2⟩ d e
  | 0, _ => rfl
  | d + 1, .mk k v ks => by
    have h : shape ⟨vs, ar, b1⟩ d = shape ⟨vs, ar, b2⟩ d := funext (shape_bd vs ar b1 b2 d)
    simp only [shape, h]
    rfl
theorem right_bd (vs ar : List Int) (b1 b2 : List St1) (e : Ex) : right ⟨vs, ar, b1⟩ e = right ⟨vs, ar, b2⟩ e := by simp only [right, shape_bd vs ar b1 b2]
theorem stmtOK_bd (vs ar : List Int) (b1 b2 : List St1) : ∀ (d : Nat) (s : St1), stmtOK ⟨vs, ar, b1⟩ d s = stmtOK ⟨vs, ar, b2⟩ d s
  | 0, _ => rfl
  | d + 1, .mk k t ix v c b e => by
    have h : stmtOK ⟨vs, ar, b1⟩ d = stmtOK ⟨vs, ar, b2⟩ d := funext (stmtOK_bd vs ar b1 b2 d)
    simp only [stmtOK, headOK, right_bd vs ar b1 b2, h]
theorem foldR_congr {f g : Mm → St1 → Mm × List Ev} : ∀ (l : List St1) (m : Mm), (∀ s ∈ l, ∀ m, f m s = g m s) → foldR f m l = foldR g m l
  | [], _, _ => rfl
  | a :: r, m, h => by
    simp only [foldR, h a (by simp), foldR_congr r _ fun s hs => h s (by simp [hs])]
/-- A statement that fits in d levels runs the same with one more. -/
theorem runS_more {p : Pg} : ∀ (d : Nat) (m : Mm) (s : St1), stmtOK p d s = true → runS (d + 1) m s = runS d m s
  | 0, _, s, h => by simp [stmtOK] at h
  | d + 1, m, .mk k t ix v c b e, h => by
    obtain ⟨_, hb, he⟩ := stmtOK_succ h
    have fb : ∀ m, foldR (runS (d + 1)) m b = foldR (runS d) m b := fun m => foldR_congr b m fun s hs m => runS_more d m s (hb s hs)
    have fe : ∀ m, foldR (runS (d + 1)) m e = foldR (runS d) m e := fun m => foldR_congr e m fun s hs m => runS_more d m s (he s hs)
    rw [runS, runS]
    simp only [fb, fe]
theorem runL_more {p : Pg} {d : Nat} {m : Mm} {l : List St1} (h : ∀ s ∈ l, stmtOK p d s = true) : runL (d + 1) m l = runL d m l :=
  foldR_congr l m fun s hs m => runS_more d m s (h s hs)
theorem memOK_of {p : Pg} {m : Mm} (h : MemFits p m) : memOK p.vars p.arrays m = true := by
  simp only [memOK, vals01, arrOK, Bool.and_eq_true, decide_eq_true_eq, List.all_eq_true]
  refine ⟨⟨⟨by rw [h.nv], by rw [h.na]⟩, fun x hx => h.val x hx⟩, fun a ha => ⟨by have := (h.arr a ha).1; omega, fun x hx => (h.arr a ha).2 x hx⟩⟩
theorem runP_of {p : Pg} {m : Mm} (h1 : progOK p = true) (h2 : memOK p.vars p.arrays m = true) : runP p m = ((runL 5 m p.body).1, (runL 5 m p.body).2, true) := runP_true (by rw [h1, h2]; rfl)
theorem runP_ok {p : Pg} {m : Mm} (h : (runP p m).2.2 = true) : progOK p = true ∧ memOK p.vars p.arrays m = true := by
  cases hq : (progOK p && memOK p.vars p.arrays m) with
  | false => rw [runP_false hq] at h; cases h
  | true => simpa only [Bool.and_eq_true] using hq
theorem runP_out {p : Pg} {m : Mm} (h1 : progOK p = true) (h2 : memOK p.vars p.arrays m = true) : memOK p.vars p.arrays (runL 5 m p.body).1 = true :=
  memOK_of (runL_ok (memFits_of (by rw [h1, h2]; rfl)) (body_of h1).1).1
theorem lsize_app (d : Nat) (a b : List St1) : lsize d (a ++ b) = lsize d a + lsize d b := by simp [lsize]
theorem progOK_sub {vs ar : List Int} {bd b2 : List St1} (h : progOK ⟨vs, ar, bd⟩ = true) (hs : ∀ s ∈ b2, s ∈ bd) (hl : lsize 5 b2 ≤ lsize 5 bd) : progOK ⟨vs, ar, b2⟩ = true := by
  simp only [progOK, Bool.and_eq_true, decide_eq_true_eq, List.all_eq_true] at h ⊢
  exact ⟨⟨h.1.1, fun s hx => by rw [stmtOK_bd vs ar b2 bd]; exact h.1.2 s (hs s hx)⟩, by omega⟩
/-- Execution is sequential. -/
theorem runP_seq {vs ar : List Int} {bd : List St1} {m : Mm} (h1 : progOK ⟨vs, ar, bd⟩ = true) (h2 : memOK vs ar m = true) (k : Nat) :
    ∃ m1 t1 m2 t2, runP ⟨vs, ar, bd.take k⟩ m = (m1, t1, true) ∧ runP ⟨vs, ar, bd.drop k⟩ m1 = (m2, t2, true) ∧ runP ⟨vs, ar, bd⟩ m = (m2, t1 ++ t2, true) := by
  have hl := lsize_app 5 (bd.take k) (bd.drop k)
  rw [List.take_append_drop] at hl
  have ht : progOK ⟨vs, ar, bd.take k⟩ = true := progOK_sub h1 (fun s hs => List.mem_of_mem_take hs) (by omega)
  have hd : progOK ⟨vs, ar, bd.drop k⟩ = true := progOK_sub h1 (fun s hs => List.mem_of_mem_drop hs) (by omega)
  have ho : memOK vs ar (runL 5 m (bd.take k)).1 = true := runP_out (p := ⟨vs, ar, bd.take k⟩) ht h2
  refine ⟨_, _, _, _, runP_of ht h2, runP_of hd ho, ?_⟩
  rw [runP_of h1 h2]
  have := foldR_app (runS 5) (bd.take k) (bd.drop k) m
  rw [List.take_append_drop] at this
  simp only [runL, this]
/-- Repetition is sequencing. -/
theorem runP_rep {vs ar : List Int} {bd : List St1} {m : Mm} (h1 : progOK ⟨vs, ar, bd⟩ = true) (h2 : memOK vs ar m = true) (ix v : Ex) :
    ∃ m1 t1 m2 t2 ok, runP ⟨vs, ar, bd⟩ m = (m1, t1, true) ∧ runP ⟨vs, ar, bd⟩ m1 = (m2, t2, true) ∧ runP ⟨vs, ar, [.mk 4 0 ix v 2 bd []]⟩ m = (if ok then m2 else ⟨[], []⟩, if ok then t1 ++ t2 else [], ok) := by
  have ho : memOK vs ar (runL 5 m bd).1 = true := runP_out (p := ⟨vs, ar, bd⟩) h1 h2
  cases hq : progOK ⟨vs, ar, [.mk 4 0 ix v 2 bd []]⟩ with
  | false =>
    refine ⟨_, _, _, _, false, runP_of h1 h2, runP_of h1 ho, ?_⟩
    rw [runP_false (by rw [hq]; rfl)]; rfl
  | true =>
    refine ⟨_, _, _, _, true, runP_of h1 h2, runP_of h1 ho, ?_⟩
    have hb := (stmtOK_succ ((body_of hq).1 _ (List.mem_singleton.2 rfl))).2.1
    have hm : ∀ m, runL 5 m bd = runL 4 m bd := fun m => runL_more hb
    rw [runP_of hq h2]
    simp only [hm, if_true]
    simp [runL, foldR, runS, iterR]
/-- Conditionals choose a branch. -/
theorem runP_if {vs ar : List Int} {bd : List St1} {m : Mm} (h1 : progOK ⟨vs, ar, bd⟩ = true) (h2 : memOK vs ar m = true) (ix e : Ex) :
    ∃ m1 t1 ok, runP ⟨vs, ar, bd⟩ m = (m1, t1, true) ∧ runP ⟨vs, ar, [.mk 3 0 ix e 0 bd []]⟩ m =
      (if ok then (if (evalE m 5 e).1 = 0 then m else m1) else ⟨[], []⟩, if ok then (if (evalE m 5 e).1 = 0 then (evalE m 5 e).2 ++ [⟨1, 0⟩] else (evalE m 5 e).2 ++ [⟨1, 1⟩] ++ t1) else [], ok) := by
  cases hq : progOK ⟨vs, ar, [.mk 3 0 ix e 0 bd []]⟩ with
  | false =>
    refine ⟨_, _, false, runP_of h1 h2, ?_⟩
    rw [runP_false (by rw [hq]; rfl)]; rfl
  | true =>
    refine ⟨_, _, true, runP_of h1 h2, ?_⟩
    have hb := (stmtOK_succ ((body_of hq).1 _ (List.mem_singleton.2 rfl))).2.1
    have hm : ∀ m, runL 5 m bd = runL 4 m bd := fun m => runL_more hb
    rw [runP_of hq h2]
    simp only [hm, if_true]
    by_cases hz : (evalE m 5 e).1 = 0 <;> simp [runL, foldR, runS, hz]
end Go.Proofs.Ytclgjiffpijgmaa.CtR

namespace Go.Proofs.Ytclgjiffpijgmaa.CtR
open Go Go.CT CtF

/-- The label of an expression. -/
def labB (vs ar : List Int) (k v : Int) : Nat := if k = 2 then (nth vs v).toNat else if k = 3 then (nth ar v).toNat else 0
def labN (vs ar : List Int) : Nat → Ex → Nat
  | 0, _ => 0
  | d + 1, .mk k v ks => (ks.map (labN vs ar d)).foldl (fun a b => a ||| b) (labB vs ar k v)
def lab3 (l : List Int) : Prop := ∀ x ∈ l, 0 ≤ x ∧ x ≤ 3
theorem or3 {a b : Nat} (ha : a ≤ 3) (hb : b ≤ 3) : a ||| b ≤ 3 := by
  have := Nat.or_lt_two_pow (x := a) (y := b) (n := 2) (by omega) (by omega)
  omega
theorem nth_lab {l : List Int} (h : lab3 l) (v : Int) : 0 ≤ nth l v ∧ nth l v ≤ 3 := by
  unfold nth
  rw [List.getD_eq_getElem?_getD]
  cases hx : l[v.toNat]? with
  | none => simp
  | some x => simpa using h x (List.mem_of_getElem? hx)
theorem foldl_or3 : ∀ (l : List Nat) (a : Nat), a ≤ 3 → (∀ x ∈ l, x ≤ 3) → l.foldl (fun a b => a ||| b) a ≤ 3
  | [], a, h, _ => h
  | x :: r, a, h, h2 => foldl_or3 r _ (or3 h (h2 x (by simp))) fun y hy => h2 y (by simp [hy])
theorem labN_le {vs ar : List Int} (h1 : lab3 vs) (h2 : lab3 ar) : ∀ (d : Nat) (e : Ex), labN vs ar d e ≤ 3
  | 0, _ => Nat.zero_le _
  | d + 1, .mk k v ks => by
    refine foldl_or3 _ _ ?_ fun x hx => ?_
    · unfold labB
      have := nth_lab h1 v
      have := nth_lab h2 v
      split
      · omega
      · split <;> omega
    · obtain ⟨y, _, rfl⟩ := List.mem_map.1 hx
      exact labN_le h1 h2 d y
theorem lab_succ (f : Ex → Nat) (a : Nat) (ks : List Ex) (i : Nat) (x : Ex) (h : ks[i]? = some x) : ((ks.take (i + 1)).map f).foldl (fun a b => a ||| b) a = ((ks.take i).map f).foldl (fun a b => a ||| b) a ||| f x := by
  rw [List.take_add_one, h]
  simp
theorem labs_of {p : Pg} (h : progOK p = true) : lab3 p.vars ∧ lab3 p.arrays := by
  simp only [progOK, headsOK, labs, Bool.and_eq_true, decide_eq_true_eq, List.all_eq_true] at h
  exact ⟨fun x hx => h.1.1.1.2 x hx, fun x hx => h.1.1.2 x hx⟩

set_option maxHeartbeats 4000000 in
set_option maxRecDepth 10000 in
theorem labelI (p : Pg) (hl : p.vars.length ≤ mx) (hl2 : p.arrays.length ≤ mx) (h1 : lab3 p.vars) (h2 : lab3 p.arrays) : ∀ (d : Nat) (e : Ex), shape p d e = true → DC Try.prog 99 [.agg p.cells, .agg e.cells] [] (fun r h => r = DI .i64 (labN p.vars p.arrays d e) ∧ h = []) := by
  have hmx := mx_eq
  intro d
  induction d with
  | zero => intro e h; simp [shape] at h
  | succ d ih =>
    intro e hsh
    obtain ⟨k, v, ks⟩ := e
    obtain ⟨g1, g2, g3⟩ := shape_succ hsh
    obtain ⟨hl3, hla, hv0, hv1⟩ := fits_len g1
    obtain ⟨vs, ar, bd⟩ := p
    have h1 : lab3 vs := h1
    have h2 : lab3 ar := h2
    generalize hR : (fun (r : D) (h : List (Option (List C))) => r = DI .i64 (labN vs ar (d + 1) (.mk k v ks)) ∧ h = []) = R
    have hle := fun e => labN_le h1 h2 d e
    have hacc : ∀ i, ((ks.take i).map (labN vs ar d)).foldl (fun a b => a ||| b) (labB vs ar k v) ≤ 3 := fun i => by
      have := labN_le h1 h2 (d + 1) (.mk k v (ks.take i))
      exact this
    have hlb : labB vs ar k v ≤ 3 := hacc 0
    have key : k = 2 ∨ k = 3 ∨ (k ≠ 2 ∧ k ≠ 3) := by omega
    rcases key with hk | hk | ⟨hk2, hk3⟩
    · have hv1' : v < vs.length := by subst hk; simpa [limit] using hv1
      have hx := (nth_mem (l := vs) hv0 hv1').1
      have hB : ((labB vs ar k v : Nat) : Int) = nth vs v := by have := nth_lab h1 v; simp [labB, hk]; omega
      have e2 : (k == 2) = true := by simp [hk]
      have e3 : (k == 3) = false := by simp [hk]
      have f2 : (k = 2) = True := by simp [hk]
      have f3 : (k = 3) = False := by simp [hk]
      refine dcZ Try.func99 ?_
      simp (maxSteps := 9999999) (maxDischargeDepth := 300) only [go_sem]
      iterate 4 ((try (refine drvZ Try.func99 ?_; simp (maxSteps := 9999999) (maxDischargeDepth := 300) only [go_sem, e2, e3, f2, f3, hx])); (try ((with_reducible refine And.intro ?_ ?_) <;> (repeat' with_reducible apply And.intro) <;> try exact sd)))
      refine Go.loopQ (fun i : Nat => [(2, .c (.ptr 0 0)), (5, DI .i64 (((ks.take i).map (labN vs ar d)).foldl (fun a b => a ||| b) (labB vs ar k v) : Nat)), (27, .c (.isl 3 (Ex.cellsL ks))), (28, DI .i64 ks.length), (29, DI .i64 i)]) (fun i => [(0, some (Pg.cells ⟨vs, ar, bd⟩))])
        4096 (fun i => i ≤ ks.length) (fun i => ks.length - i) ?_ 0 some [] _ (Nat.zero_le _) ?_
      · intro i hi again
        rcases Nat.lt_or_ge i ks.length with hlt | hge
        · obtain ⟨⟨k', v', ks'⟩, hx⟩ : ∃ x, ks[i]? = some x := ⟨ks[i], by simp [hlt]⟩
          have hsc := lab_succ (labN vs ar d) (labB vs ar k v) ks i _ hx
          have ha := hacc i
          have hb := hle (.mk k' v' ks')
          have hc := hacc (i + 1)
          rw [hsc] at hc
          generalize ((ks.take i).map (labN vs ar d)).foldl (fun a b => a ||| b) (labB vs ar k v) = acc at *
          refine drvL Try.func99 ?_
          simp (maxSteps := 9999999) (maxDischargeDepth := 300) only [go_sem, hx, hlt]
          iterate 2 ((try (refine drvZ Try.func99 ?_; simp (maxSteps := 9999999) (maxDischargeDepth := 300) only [go_sem, hx, hlt])); (try ((with_reducible refine And.intro ?_ ?_) <;> (repeat' with_reducible apply And.intro) <;> try exact sd)))
          refine XK.plain (ih (.mk k' v' ks') (g2 _ (List.mem_of_getElem? hx))) ok99 ?_ (hbT ())
          iterate 3 ((try (refine drvZ Try.func99 ?_; simp (maxSteps := 9999999) (maxDischargeDepth := 300) only [go_sem, hx, hlt])); (try ((with_reducible refine And.intro ?_ ?_) <;> (repeat' with_reducible apply And.intro) <;> try exact sd)))
          refine again (i + 1) some [] _ hlt (by omega) ?_
          simp (maxSteps := 9999999) (maxDischargeDepth := 300) only [go_sem, TmOK, DM, DMs, CM, CMs, forall_eq, exists_eq_left, Mq, HpOK, LowOK, hsc]
          simp
          rw [← List.map_take, hsc]
        · have hn : ¬ i < ks.length := by omega
          obtain rfl : i = ks.length := by omega
          refine drvL Try.func99 ?_
          simp (maxSteps := 9999999) (maxDischargeDepth := 300) only [go_sem, hn, List.take_length]
          iterate 2 ((try (refine drvZ Try.func99 ?_; simp (maxSteps := 9999999) (maxDischargeDepth := 300) only [go_sem, hn, List.take_length])); (try ((with_reducible refine And.intro ?_ ?_) <;> (repeat' with_reducible apply And.intro) <;> try exact sd)))
          exact RetOb.plain (d := DI .i64 _) (by rw [← hR]; exact ⟨rfl, rfl⟩) rfl
      · simp (maxSteps := 9999999) (maxDischargeDepth := 300) only [go_sem, TmOK, DM, DMs, CM, CMs, forall_eq, exists_eq_left, Mq, HpOK, LowOK, List.take_zero, List.map_nil, List.foldl_nil]
        simp [hB]
    · have hv1' : v < ar.length := by subst hk; simpa [limit] using hv1
      have hx := (nth_mem (l := ar) hv0 hv1').1
      have hB : ((labB vs ar k v : Nat) : Int) = nth ar v := by have := nth_lab h2 v; simp [labB, hk]; omega
      have e2 : (k == 2) = false := by simp [hk]
      have e3 : (k == 3) = true := by simp [hk]
      have f2 : (k = 2) = False := by simp [hk]
      have f3 : (k = 3) = True := by simp [hk]
      refine dcZ Try.func99 ?_
      simp (maxSteps := 9999999) (maxDischargeDepth := 300) only [go_sem]
      iterate 4 ((try (refine drvZ Try.func99 ?_; simp (maxSteps := 9999999) (maxDischargeDepth := 300) only [go_sem, e2, e3, f2, f3, hx])); (try ((with_reducible refine And.intro ?_ ?_) <;> (repeat' with_reducible apply And.intro) <;> try exact sd)))
      refine Go.loopQ (fun i : Nat => [(2, .c (.ptr 0 0)), (5, DI .i64 (((ks.take i).map (labN vs ar d)).foldl (fun a b => a ||| b) (labB vs ar k v) : Nat)), (27, .c (.isl 3 (Ex.cellsL ks))), (28, DI .i64 ks.length), (29, DI .i64 i)]) (fun i => [(0, some (Pg.cells ⟨vs, ar, bd⟩))])
        4096 (fun i => i ≤ ks.length) (fun i => ks.length - i) ?_ 0 some [] _ (Nat.zero_le _) ?_
      · intro i hi again
        rcases Nat.lt_or_ge i ks.length with hlt | hge
        · obtain ⟨⟨k', v', ks'⟩, hx⟩ : ∃ x, ks[i]? = some x := ⟨ks[i], by simp [hlt]⟩
          have hsc := lab_succ (labN vs ar d) (labB vs ar k v) ks i _ hx
          have ha := hacc i
          have hb := hle (.mk k' v' ks')
          have hc := hacc (i + 1)
          rw [hsc] at hc
          generalize ((ks.take i).map (labN vs ar d)).foldl (fun a b => a ||| b) (labB vs ar k v) = acc at *
          refine drvL Try.func99 ?_
          simp (maxSteps := 9999999) (maxDischargeDepth := 300) only [go_sem, hx, hlt]
          iterate 2 ((try (refine drvZ Try.func99 ?_; simp (maxSteps := 9999999) (maxDischargeDepth := 300) only [go_sem, hx, hlt])); (try ((with_reducible refine And.intro ?_ ?_) <;> (repeat' with_reducible apply And.intro) <;> try exact sd)))
          refine XK.plain (ih (.mk k' v' ks') (g2 _ (List.mem_of_getElem? hx))) ok99 ?_ (hbT ())
          iterate 3 ((try (refine drvZ Try.func99 ?_; simp (maxSteps := 9999999) (maxDischargeDepth := 300) only [go_sem, hx, hlt])); (try ((with_reducible refine And.intro ?_ ?_) <;> (repeat' with_reducible apply And.intro) <;> try exact sd)))
          refine again (i + 1) some [] _ hlt (by omega) ?_
          simp (maxSteps := 9999999) (maxDischargeDepth := 300) only [go_sem, TmOK, DM, DMs, CM, CMs, forall_eq, exists_eq_left, Mq, HpOK, LowOK, hsc]
          simp
          rw [← List.map_take, hsc]
        · have hn : ¬ i < ks.length := by omega
          obtain rfl : i = ks.length := by omega
          refine drvL Try.func99 ?_
          simp (maxSteps := 9999999) (maxDischargeDepth := 300) only [go_sem, hn, List.take_length]
          iterate 2 ((try (refine drvZ Try.func99 ?_; simp (maxSteps := 9999999) (maxDischargeDepth := 300) only [go_sem, hn, List.take_length])); (try ((with_reducible refine And.intro ?_ ?_) <;> (repeat' with_reducible apply And.intro) <;> try exact sd)))
          exact RetOb.plain (d := DI .i64 _) (by rw [← hR]; exact ⟨rfl, rfl⟩) rfl
      · simp (maxSteps := 9999999) (maxDischargeDepth := 300) only [go_sem, TmOK, DM, DMs, CM, CMs, forall_eq, exists_eq_left, Mq, HpOK, LowOK, List.take_zero, List.map_nil, List.foldl_nil]
        simp [hB]
    · have hB : labB vs ar k v = 0 := by simp [labB, hk2, hk3]
      have e2 : (k == 2) = false := by simp [hk2]
      have e3 : (k == 3) = false := by simp [hk3]
      refine dcZ Try.func99 ?_
      simp (maxSteps := 9999999) (maxDischargeDepth := 300) only [go_sem]
      iterate 4 ((try (refine drvZ Try.func99 ?_; simp (maxSteps := 9999999) (maxDischargeDepth := 300) only [go_sem, e2, e3, hk2, hk3])); (try ((with_reducible refine And.intro ?_ ?_) <;> (repeat' with_reducible apply And.intro) <;> try exact sd)))
      refine Go.loopQ (fun i : Nat => [(2, .c (.ptr 0 0)), (5, DI .i64 (((ks.take i).map (labN vs ar d)).foldl (fun a b => a ||| b) (labB vs ar k v) : Nat)), (27, .c (.isl 3 (Ex.cellsL ks))), (28, DI .i64 ks.length), (29, DI .i64 i)]) (fun i => [(0, some (Pg.cells ⟨vs, ar, bd⟩))])
        4096 (fun i => i ≤ ks.length) (fun i => ks.length - i) ?_ 0 some [] _ (Nat.zero_le _) ?_
      · intro i hi again
        rcases Nat.lt_or_ge i ks.length with hlt | hge
        · obtain ⟨⟨k', v', ks'⟩, hx⟩ : ∃ x, ks[i]? = some x := ⟨ks[i], by simp [hlt]⟩
          have hsc := lab_succ (labN vs ar d) (labB vs ar k v) ks i _ hx
          have ha := hacc i
          have hb := hle (.mk k' v' ks')
          have hc := hacc (i + 1)
          rw [hsc] at hc
          generalize ((ks.take i).map (labN vs ar d)).foldl (fun a b => a ||| b) (labB vs ar k v) = acc at *
          refine drvL Try.func99 ?_
          simp (maxSteps := 9999999) (maxDischargeDepth := 300) only [go_sem, hx, hlt]
          iterate 2 ((try (refine drvZ Try.func99 ?_; simp (maxSteps := 9999999) (maxDischargeDepth := 300) only [go_sem, hx, hlt])); (try ((with_reducible refine And.intro ?_ ?_) <;> (repeat' with_reducible apply And.intro) <;> try exact sd)))
          refine XK.plain (ih (.mk k' v' ks') (g2 _ (List.mem_of_getElem? hx))) ok99 ?_ (hbT ())
          iterate 3 ((try (refine drvZ Try.func99 ?_; simp (maxSteps := 9999999) (maxDischargeDepth := 300) only [go_sem, hx, hlt])); (try ((with_reducible refine And.intro ?_ ?_) <;> (repeat' with_reducible apply And.intro) <;> try exact sd)))
          refine again (i + 1) some [] _ hlt (by omega) ?_
          simp (maxSteps := 9999999) (maxDischargeDepth := 300) only [go_sem, TmOK, DM, DMs, CM, CMs, forall_eq, exists_eq_left, Mq, HpOK, LowOK, hsc]
          simp
          rw [← List.map_take, hsc]
        · have hn : ¬ i < ks.length := by omega
          obtain rfl : i = ks.length := by omega
          refine drvL Try.func99 ?_
          simp (maxSteps := 9999999) (maxDischargeDepth := 300) only [go_sem, hn, List.take_length]
          iterate 2 ((try (refine drvZ Try.func99 ?_; simp (maxSteps := 9999999) (maxDischargeDepth := 300) only [go_sem, hn, List.take_length])); (try ((with_reducible refine And.intro ?_ ?_) <;> (repeat' with_reducible apply And.intro) <;> try exact sd)))
          exact RetOb.plain (d := DI .i64 _) (by rw [← hR]; exact ⟨rfl, rfl⟩) rfl
      · simp (maxSteps := 9999999) (maxDischargeDepth := 300) only [go_sem, TmOK, DM, DMs, CM, CMs, forall_eq, exists_eq_left, Mq, HpOK, LowOK, List.take_zero, List.map_nil, List.foldl_nil]
        simp [hB]
end Go.Proofs.Ytclgjiffpijgmaa.CtR

namespace Go.Proofs.Ytclgjiffpijgmaa.CtR
open Go Go.CT CtF

def ctxI (vs ar : List Int) (s : St1) (c : Nat) : Nat := if s.kind = 3 then c ||| labN vs ar 5 s.value else c
/-- What telling of each statement makes of a state. -/
def eachF {X : Type} (vs ar : List Int) (step : X → St1 → Nat → X) : Nat → Nat → X → List St1 → X
  | 0, _, x, _ => x
  | d + 1, c, x, l => l.foldl (fun x s => eachF vs ar step d (ctxI vs ar s c) (eachF vs ar step d (ctxI vs ar s c) (step x s c) s.body) s.els) x
end Go.Proofs.Ytclgjiffpijgmaa.CtR

namespace Go.Proofs.Ytclgjiffpijgmaa.CtR
open Go Go.CT CtF

theorem hhpN1 {hp : Hp} {r : Nat → Nat} {h0 : Option (List C)} (e0 : hp 0 = some (h0.map (renCs r))) :
    ∀ i' x, [h0][i']? = some x → hp ([0].getD i' 0) = some (x.map (renCs r)) := by
  intro i' x hx
  match i', hx with
  | 0, hx => simp only [List.getElem?_cons_zero, List.getElem?_cons_succ, Option.some.injEq] at hx; subst hx; exact e0
  | i' + 1, hx => simp at hx
theorem rkid1 (b : Nat) : ∀ k, k < 1 → rk0 [0] b k = k := fun k hk => by
  match k, hk with
  | 0, _ => rfl
theorem rkey1 (b : Nat) : ∀ k, k < 1 → rkey [0] b k = k := fun k hk => by
  match k, hk with
  | 0, _ => rfl

set_option maxHeartbeats 8000000 in
set_option maxRecDepth 10000 in
theorem each1 {X : Type} (p : Pg) (hl : p.vars.length ≤ mx) (hl2 : p.arrays.length ≤ mx) (h1 : lab3 p.vars) (h2 : lab3 p.arrays) (F : FuncId) (hF : fnOK Try.prog F = true)
    (b0 : X → List C) (hr0 : ∀ x r, (∀ k, k < 1 → r k = k) → renCs r (b0 x) = b0 x) (hc0 : ∀ x hT hS fz, (∀ k, k < 1 → hT k ≠ none) → CMs hT some hS fz (b0 x) (b0 x)) (step : X → St1 → Nat → X) (Inv : Nat → X → Prop)
    (hcl : ∀ d x s (c q : Nat), q < 1000 → Inv q x → c ≤ 3 → stmtOK p d s = true → Inv (q + 1) (step x s c) ∧ DC Try.prog F [.agg s.cells, DI .i64 c, .c (.ptr 0 0)] [some (b0 x)] (fun r h => r = .tup [] ∧ h = [some (b0 (step x s c))])) :
    ∀ (d : Nat) (l : List St1) (x : X) (c q : Nat), Inv q x → c ≤ 3 → (∀ s ∈ l, stmtOK p d s = true) → q + lsize d l ≤ 1000 →
      Inv (q + lsize d l) (eachF p.vars p.arrays step d c x l) ∧ DC Try.prog 52 [.agg p.cells, .c (.isl 11 (St1.cellsL l)), DI .i64 c, .c (.clo F [.ptr 0 0])] [some (b0 x)] (fun r h => r = .tup [] ∧ h = [some (b0 (eachF p.vars p.arrays step d c x l))]) := by
  have hmx := mx_eq
  intro d
  induction d with
  | zero =>
    intro l x c q hx hc hok hsz
    have hnil : l = [] := by
      cases l with
      | nil => rfl
      | cons a r => have := hok a (by simp); simp [stmtOK] at this
    subst hnil
    refine ⟨by rw [lsize_zero]; exact hx, ?_⟩
    obtain ⟨vs, ar, bd⟩ := p
    simp only [eachF]
    generalize hR : (fun (r : D) (h : List (Option (List C))) => r = .tup [] ∧ h = [some (b0 x)]) = R
    refine dcZ Try.func52 ?_
    simp (maxSteps := 9999999) (maxDischargeDepth := 300) only [go_sem, St1.cellsL, Int.natCast_zero]
    refine Go.loop ?_
    have hz : ((0 : Int) < 0) = False := eq_false (by omega)
    refine drvL Try.func52 ?_
    simp (maxSteps := 9999999) (maxDischargeDepth := 300) only [go_sem, St1.cellsL, Int.natCast_zero, hz, List.length_nil]
    refine RetOb.ofQ some [] (.tup []) [some (b0 x)] ?_ (by rw [← hR]; exact ⟨rfl, rfl⟩) (by simp)
    simp [enumL, DMs, DM, HpOK, LowOK, hOf, upd, hpL]
    refine hc0 _ _ _ _ ?_
    all_goals (intro k hk; rcases (show k = 0 by omega) with rfl <;> simp [upd])
  | succ d ih =>
    intro l x c q hx hc hok hsz
    have hsub := lsize_subs d l
    have hll : l.length ≤ 1000 := by omega
    let f : X → St1 → X := fun x s => eachF p.vars p.arrays step d (ctxI p.vars p.arrays s c) (eachF p.vars p.arrays step d (ctxI p.vars p.arrays s c) (step x s c) s.body) s.els
    have hfold : ∀ i s, l[i]? = some s → (l.take (i + 1)).foldl f x = f ((l.take i).foldl f x) s := fun i s h => by
      rw [List.take_add_one, h]; simp
    have hres : eachF p.vars p.arrays step (d + 1) c x l = l.foldl f x := rfl
    have hf : ∀ (x : X) (s : St1), f x s = eachF p.vars p.arrays step d (ctxI p.vars p.arrays s c) (eachF p.vars p.arrays step d (ctxI p.vars p.arrays s c) (step x s c) s.body) s.els := fun _ _ => rfl
    clear_value f
    have hlabI := fun e => labelI p hl hl2 h1 h2 5 e
    have hlabL := fun e => labN_le h1 h2 5 e
    have e0 : ∀ y b, renCs (rkey [0] b) (b0 y) = b0 y := fun y b => hr0 y _ (rkey1 b)
    generalize hR : (fun (r : D) (h : List (Option (List C))) => r = .tup [] ∧ h = [some (b0 (eachF p.vars p.arrays step (d + 1) c x l))]) = R
    rw [hres] at hR
    rw [hres]
    have hK : ∀ (i : Nat) (s : St1), l[i]? = some s → q + tsum (tsize (d + 1)) l i + 1 + lsize d s.body + lsize d s.els ≤ 1000 ∧ tsum (tsize (d + 1)) l (i + 1) = tsum (tsize (d + 1)) l i + 1 + lsize d s.body + lsize d s.els := fun i s hi => by
      have a1 := tsum_succ (tsize (d + 1)) l i s hi
      have a2 := tsum_le (tsize (d + 1)) l (i + 1)
      have a3 := tsize_subs d s
      have a4 : lsize (d + 1) l = (l.map (tsize (d + 1))).sum := rfl
      simp only [subs] at a3
      omega
    have hround : ∀ (i : Nat) (s : St1), l[i]? = some s → ∀ y, Inv (q + tsum (tsize (d + 1)) l i) y → ctxI p.vars p.arrays s c ≤ 3 ∧
        (Inv (q + tsum (tsize (d + 1)) l i + 1) (step y s c) ∧ DC Try.prog F [.agg s.cells, DI .i64 c, .c (.ptr 0 0)] [some (b0 y)] (fun r h => r = .tup [] ∧ h = [some (b0 (step y s c))])) := fun i s hi y hy => by
      have hmem := List.mem_of_getElem? hi
      have := (hK i s hi).1
      refine ⟨?_, hcl (d + 1) y s c _ (by omega) hy hc (hok s hmem)⟩
      unfold ctxI
      split
      · exact or3 hc (hlabL _)
      · exact hc
    have hsok : ∀ (i : Nat) (s : St1), l[i]? = some s → (∀ t ∈ s.body, stmtOK p d t = true) ∧ (∀ t ∈ s.els, stmtOK p d t = true) ∧ (s.kind = 3 → shape p 5 s.value = true) := fun i s hi => by
      have hs := hok s (List.mem_of_getElem? hi)
      obtain ⟨k, t, ix, v, cc, b, e⟩ := s
      obtain ⟨g1, g2, g3⟩ := stmtOK_succ hs
      refine ⟨g2, g3, fun hk => ?_⟩
      have hk : k = 3 := hk
      subst hk
      rcases head_kind g1 with h | h | h | h
      · omega
      · omega
      · exact (right_shape h.2).1
      · omega
    have hinv : ∀ i, i ≤ l.length → Inv (q + tsum (tsize (d + 1)) l i) ((l.take i).foldl f x) := fun i => by
      induction i with
      | zero => intro _; simpa [tsum] using hx
      | succ i ihi =>
        intro hi
        have hs : l[i]? = some l[i] := by simp [show i < l.length from hi]
        rw [hfold i _ hs, hf, (hK i _ hs).2]
        have hk := (hK i _ hs).1
        have g := hround i _ hs _ (ihi (by omega))
        have g2 := hsok i _ hs
        have b1 := (ih _ _ _ _ g.2.1 g.1 g2.1 (by omega)).1
        have b2 := (ih _ _ _ _ b1 g.1 g2.2.1 (by omega)).1
        have e : q + (tsum (tsize (d + 1)) l i + 1 + lsize d l[i].body + lsize d l[i].els) = q + tsum (tsize (d + 1)) l i + 1 + lsize d l[i].body + lsize d l[i].els := by omega
        rw [e]
        exact b2
    refine ⟨by have := hinv l.length (Nat.le_refl _); rw [List.take_length] at this; rw [tsum_all _ _ (Nat.le_refl _)] at this; exact this, ?_⟩
    obtain ⟨vs, ar, bd⟩ := p
    have h1 : lab3 vs := h1
    have h2 : lab3 ar := h2
    refine dcZ Try.func52 ?_
    simp (maxSteps := 9999999) (maxDischargeDepth := 300) only [go_sem]
    refine Go.loopQ (fun i : Nat => [(2, DI .i64 c), (3, .c (.clo F [.ptr 0 0])), (4, .c (.ptr 1 0)), (11, .c (.isl 11 (St1.cellsL l))), (12, DI .i64 l.length), (13, DI .i64 i)])
      (fun i => [(0, some (b0 ((l.take i).foldl f x))), (1, some (Pg.cells ⟨vs, ar, bd⟩))]) 4096 (fun i => i ≤ l.length) (fun i => l.length - i) ?_ 0 some [] _ (Nat.zero_le _) ?_
    · intro i hi again
      have hIi := hinv i hi
      rcases Nat.lt_or_ge i l.length with hlt | hge
      · obtain ⟨⟨k, t, ⟨ik, iv, iks⟩, ⟨vk, vv, vks⟩, cc, b, e⟩, hs⟩ : ∃ s, l[i]? = some s := ⟨l[i], by simp [hlt]⟩
        have hfi := hfold i _ hs
        obtain ⟨q1, q4, q5⟩ := hround i _ hs _ hIi
        obtain ⟨q6, q7, q8⟩ := hsok i _ hs
        have hk := (hK i _ hs).1
        simp only [St1.body, St1.els] at hk
        have ihb := ih b _ _ _ q4 q1 q6 (by omega)
        have ihe := ih e _ _ _ ihb.1 q1 q7 (by omega)
        have ihb2 := ihb.2
        have ihe2 := ihe.2
        have hll2 := hlabL (.mk vk vv vks)
        rw [hf] at hfi
        generalize (l.take i).foldl f x = y at *
        refine drvL Try.func52 ?_
        simp (maxSteps := 9999999) (maxDischargeDepth := 300) only [go_sem, hs, hlt, List.cons_append, List.nil_append]
        iterate 2 ((try (refine drvZ Try.func52 ?_; simp (maxSteps := 9999999) (maxDischargeDepth := 300) only [go_sem, hs, hlt, List.cons_append, List.nil_append])); (try ((with_reducible refine And.intro ?_ ?_) <;> (repeat' with_reducible apply And.intro) <;> try exact sd)))
        refine XK.callG [0] q5 hF (hhpN1 (by rw [Option.map_some, hr0 _ _ (rkid1 _)]; rfl)) (hbT ()) (fun d h' ⟨_, e⟩ => by subst e; simp) ?_
        rintro _ _ ⟨rfl, rfl⟩ _
        by_cases hk : k = 3
        · subst hk
          have hlb := hlabI (.mk vk vv vks) (q8 rfl)
          have hcx : ctxI vs ar (.mk 3 t (.mk ik iv iks) (.mk vk vv vks) cc b e) c = c ||| labN vs ar 5 (.mk vk vv vks) := by simp [ctxI, St1.kind, St1.value]
          iterate 4 ((try (refine drvZ Try.func52 ?_; simp (maxSteps := 9999999) (maxDischargeDepth := 300) only [go_sem, hs, hlt, List.cons_append, List.nil_append, e0, Int.reduceBEq, Int.reduceEq])); (try ((with_reducible refine And.intro ?_ ?_) <;> (repeat' with_reducible apply And.intro) <;> try exact sd)))
          refine XK.plain hlb ok99 ?_ (hbT ())
          rw [hcx] at ihb2 ihe2 hfi q1
          generalize labN vs ar 5 (.mk vk vv vks) = lb at *
          iterate 4 ((try (refine drvZ Try.func52 ?_; simp (maxSteps := 9999999) (maxDischargeDepth := 300) only [go_sem, hs, hlt, List.cons_append, List.nil_append, e0])); (try ((with_reducible refine And.intro ?_ ?_) <;> (repeat' with_reducible apply And.intro) <;> try exact sd)))
          refine XK.callG [0] ihb2 ok52 (hhpN1 (by rw [Option.map_some, hr0 _ _ (rkid1 _)]; rfl)) (hbT ()) (fun d h' ⟨_, e⟩ => by subst e; simp) ?_
          rintro _ _ ⟨rfl, rfl⟩ _
          iterate 4 ((try (refine drvZ Try.func52 ?_; simp (maxSteps := 9999999) (maxDischargeDepth := 300) only [go_sem, hs, hlt, List.cons_append, List.nil_append, e0])); (try ((with_reducible refine And.intro ?_ ?_) <;> (repeat' with_reducible apply And.intro) <;> try exact sd)))
          refine XK.callG [0] ihe2 ok52 (hhpN1 (by rw [Option.map_some, hr0 _ _ (rkid1 _)]; rfl)) (hbT ()) (fun d h' ⟨_, e⟩ => by subst e; simp) ?_
          rintro _ _ ⟨rfl, rfl⟩ _
          iterate 4 ((try (refine drvZ Try.func52 ?_; simp (maxSteps := 9999999) (maxDischargeDepth := 300) only [go_sem, hs, hlt, List.cons_append, List.nil_append, e0])); (try ((with_reducible refine And.intro ?_ ?_) <;> (repeat' with_reducible apply And.intro) <;> try exact sd)))
          refine again (i + 1) some [] _ hlt (by omega) ?_
          simp (maxSteps := 9999999) (maxDischargeDepth := 300) only [go_sem, TmOK, DM, DMs, CM, CMs, forall_eq, exists_eq_left, Mq, HpOK, LowOK, hfi]
          simp
          refine hc0 _ _ _ _ ?_
          all_goals (intro k hk; rcases (show k = 0 by omega) with rfl <;> simp [upd])
        · have hkb : (k == 3) = false := by simp [hk]
          have hcx : ctxI vs ar (.mk k t (.mk ik iv iks) (.mk vk vv vks) cc b e) c = c := by simp [ctxI, St1.kind, hk]
          rw [hcx] at ihb2 ihe2 hfi
          iterate 4 ((try (refine drvZ Try.func52 ?_; simp (maxSteps := 9999999) (maxDischargeDepth := 300) only [go_sem, hs, hlt, List.cons_append, List.nil_append, e0, hk, hkb])); (try ((with_reducible refine And.intro ?_ ?_) <;> (repeat' with_reducible apply And.intro) <;> try exact sd)))
          refine XK.callG [0] ihb2 ok52 (hhpN1 (by rw [Option.map_some, hr0 _ _ (rkid1 _)]; rfl)) (hbT ()) (fun d h' ⟨_, e⟩ => by subst e; simp) ?_
          rintro _ _ ⟨rfl, rfl⟩ _
          iterate 4 ((try (refine drvZ Try.func52 ?_; simp (maxSteps := 9999999) (maxDischargeDepth := 300) only [go_sem, hs, hlt, List.cons_append, List.nil_append, e0])); (try ((with_reducible refine And.intro ?_ ?_) <;> (repeat' with_reducible apply And.intro) <;> try exact sd)))
          refine XK.callG [0] ihe2 ok52 (hhpN1 (by rw [Option.map_some, hr0 _ _ (rkid1 _)]; rfl)) (hbT ()) (fun d h' ⟨_, e⟩ => by subst e; simp) ?_
          rintro _ _ ⟨rfl, rfl⟩ _
          iterate 4 ((try (refine drvZ Try.func52 ?_; simp (maxSteps := 9999999) (maxDischargeDepth := 300) only [go_sem, hs, hlt, List.cons_append, List.nil_append, e0])); (try ((with_reducible refine And.intro ?_ ?_) <;> (repeat' with_reducible apply And.intro) <;> try exact sd)))
          refine again (i + 1) some [] _ hlt (by omega) ?_
          simp (maxSteps := 9999999) (maxDischargeDepth := 300) only [go_sem, TmOK, DM, DMs, CM, CMs, forall_eq, exists_eq_left, Mq, HpOK, LowOK, hfi]
          simp
          refine hc0 _ _ _ _ ?_
          all_goals (intro k hk; rcases (show k = 0 by omega) with rfl <;> simp [upd])
      · have hn : ¬ i < l.length := by omega
        obtain rfl : i = l.length := by omega
        refine drvL Try.func52 ?_
        simp (maxSteps := 9999999) (maxDischargeDepth := 300) only [go_sem, hn, List.take_length]
        iterate 2 ((try (refine drvZ Try.func52 ?_; simp (maxSteps := 9999999) (maxDischargeDepth := 300) only [go_sem, hn, List.take_length])); (try ((with_reducible refine And.intro ?_ ?_) <;> (repeat' with_reducible apply And.intro) <;> try exact sd)))
        refine RetOb.ofQ some [] (.tup []) [some (b0 (l.foldl f x))] ?_ (by rw [← hR]; exact ⟨rfl, rfl⟩) (by simp)
        simp [enumL, DMs, DM, HpOK, LowOK, hOf, upd, hpL]
        refine hc0 _ _ _ _ ?_
        all_goals (intro k hk; rcases (show k = 0 by omega) with rfl <;> simp [upd])
    · simp (maxSteps := 9999999) (maxDischargeDepth := 300) only [go_sem, TmOK, DM, DMs, CM, CMs, forall_eq, exists_eq_left, Mq, HpOK, LowOK, List.take_zero, List.foldl_nil]
      simp
      refine hc0 _ _ _ _ ?_
      all_goals (intro k hk; rcases (show k = 0 by omega) with rfl <;> simp [upd])
end Go.Proofs.Ytclgjiffpijgmaa.CtR

namespace Go.Proofs.Ytclgjiffpijgmaa.CtR
open Go Go.CT CtF

abbrev BC (b : Bool) : C := .v (.bool b)
def boolsC (bs : List Bool) : List C := bs.map BC
def boolsD (bs : List Bool) : C := .isl 1 (bs.map fun b => [BC b])
theorem boolsC_kf (bs : List Bool) : ∀ c ∈ boolsC bs, kf c = true := by
  intro c hc; obtain ⟨x, _, rfl⟩ := List.mem_map.1 hc; rfl
theorem boolsC_set (bs : List Bool) (i : Nat) (b : Bool) : (boolsC bs).set i (.v (.bool b)) = boolsC (bs.set i b) := by
  unfold boolsC; rw [List.map_set]
theorem boolsC_len (bs : List Bool) : (boolsC bs).length = bs.length := by simp [boolsC]
theorem boolsC_rep (n : Nat) (b : Bool) : (List.replicate n [C.v (.bool b)]).flatten = boolsC (List.replicate n b) := by
  induction n with
  | zero => rfl
  | succ n ih => rw [List.replicate_succ, List.flatten_cons, ih, List.replicate_succ]; rfl
theorem boolsC_ren (r : Nat → Nat) (bs : List Bool) : renCs r (boolsC bs) = boolsC bs := by
  induction bs with
  | nil => rfl
  | cons a r' ih => simp only [boolsC, List.map_cons, renCs, renC] at ih ⊢; rw [ih]
theorem boolsC_flat (bs : List Bool) : (bs.map fun b => [BC b]).flatten = boolsC bs := flat1 _ _

def wStep (x : List Bool × List Bool) (s : St1) (_ : Nat) : List Bool × List Bool :=
  if s.kind = 1 ∨ s.kind = 5 then (x.1.set s.target.toNat true, x.2) else if s.kind = 2 then (x.1, x.2.set s.target.toNat true) else x
def wB0 (x : List Bool × List Bool) : List C := [.msl 2 1 0 x.1.length]
def wB1 (x : List Bool × List Bool) : List C := [.msl 3 1 0 x.2.length]
def wB2 (x : List Bool × List Bool) : List C := boolsC x.1
def wB3 (x : List Bool × List Bool) : List C := boolsC x.2

set_option maxHeartbeats 4000000 in
set_option maxRecDepth 10000 in
theorem writes1 (x : List Bool × List Bool) (s : St1) (c : Nat) (ht1 : s.kind = 1 ∨ s.kind = 5 → 0 ≤ s.target ∧ s.target < x.1.length) (ht2 : s.kind = 2 → 0 ≤ s.target ∧ s.target < x.2.length) :
    DC Try.prog 53 [.agg s.cells, DI .i64 c, .c (.ptr 0 0), .c (.ptr 1 0)] [some (wB0 x), some (wB1 x), some (wB2 x), some (wB3 x)]
      (fun r h => r = .tup [] ∧ h = [some (wB0 (wStep x s c)), some (wB1 (wStep x s c)), some (wB2 (wStep x s c)), some (wB3 (wStep x s c))]) := by
  have hmx := mx_eq
  obtain ⟨k, t, ⟨ik, iv, iks⟩, ⟨vk, vv, vks⟩, cc, b, e⟩ := s
  obtain ⟨xv, xa⟩ := x
  simp only [St1.kind, St1.target] at ht1 ht2
  generalize hR : (fun (r : D) (h : List (Option (List C))) => r = .tup [] ∧ h = [some (wB0 (wStep (xv, xa) _ c)), some (wB1 (wStep (xv, xa) _ c)), some (wB2 (wStep (xv, xa) _ c)), some (wB3 (wStep (xv, xa) _ c))]) = R
  simp only [wB0, wB1, wB2, wB3, wStep, St1.kind, St1.target] at hR ⊢
  have hlv := boolsC_len xv
  have hla := boolsC_len xa
  have fin : ∀ (yv ya : List Bool) (hp : Hp), yv.length = xv.length → ya.length = xa.length → R (.tup []) [some [.msl 2 1 0 yv.length], some [.msl 3 1 0 ya.length], some (boolsC yv), some (boolsC ya)] → hp 0 = some (some [.msl 2 1 0 xv.length]) → hp 1 = some (some [.msl 3 1 0 xa.length]) → hp 2 = some (some (boolsC yv)) → hp 3 = some (some (boolsC ya)) → RetOb 4 R (.tup []) hp := fun yv ya hp g1 g2 g3 g4 g5 g6 g7 => by
    refine RetOb.ofQ some [] (.tup []) _ ?_ g3 (by simp)
    simp [enumL, DM, DMs, CM, CMs, HpOK, LowOK, hOf, upd, g4, g5, g6, g7, g1, g2]
    exact ⟨CMs.kf (boolsC_kf _), CMs.kf (boolsC_kf _)⟩
  have key : k = 1 ∨ k = 5 ∨ k = 2 ∨ (k ≠ 1 ∧ k ≠ 5 ∧ k ≠ 2) := by omega
  rcases key with rfl | rfl | rfl | ⟨h1, h5, h2⟩
  · have ht := ht1 (.inl rfl)
    refine dcZ Try.func53 ?_
    simp (maxSteps := 9999999) (maxDischargeDepth := 300) only [go_sem, List.cons_append, List.nil_append, Int.reduceBEq, Int.reduceEq]
    iterate 4 ((try (refine drvZ Try.func53 ?_; simp (maxSteps := 9999999) (maxDischargeDepth := 300) only [go_sem, List.cons_append, List.nil_append, Int.reduceBEq, Int.reduceEq, boolsC_set, boolsC_len])); (try ((with_reducible refine And.intro ?_ ?_) <;> (repeat' with_reducible apply And.intro) <;> try exact sd)))
    exact fin (xv.set t.toNat true) xa _ (by simp) rfl (by rw [← hR]; exact ⟨rfl, rfl⟩) rfl rfl rfl rfl
  · have ht := ht1 (.inr rfl)
    refine dcZ Try.func53 ?_
    simp (maxSteps := 9999999) (maxDischargeDepth := 300) only [go_sem, List.cons_append, List.nil_append, Int.reduceBEq, Int.reduceEq]
    iterate 4 ((try (refine drvZ Try.func53 ?_; simp (maxSteps := 9999999) (maxDischargeDepth := 300) only [go_sem, List.cons_append, List.nil_append, Int.reduceBEq, Int.reduceEq, boolsC_set, boolsC_len])); (try ((with_reducible refine And.intro ?_ ?_) <;> (repeat' with_reducible apply And.intro) <;> try exact sd)))
    exact fin (xv.set t.toNat true) xa _ (by simp) rfl (by rw [← hR]; exact ⟨rfl, rfl⟩) rfl rfl rfl rfl
  · have ht := ht2 rfl
    refine dcZ Try.func53 ?_
    simp (maxSteps := 9999999) (maxDischargeDepth := 300) only [go_sem, List.cons_append, List.nil_append, Int.reduceBEq, Int.reduceEq]
    iterate 4 ((try (refine drvZ Try.func53 ?_; simp (maxSteps := 9999999) (maxDischargeDepth := 300) only [go_sem, List.cons_append, List.nil_append, Int.reduceBEq, Int.reduceEq, boolsC_set, boolsC_len])); (try ((with_reducible refine And.intro ?_ ?_) <;> (repeat' with_reducible apply And.intro) <;> try exact sd)))
    exact fin xv (xa.set t.toNat true) _ rfl (by simp) (by rw [← hR]; exact ⟨rfl, rfl⟩) rfl rfl rfl rfl
  · have e1 : (k == 1) = false := by simp [h1]
    have e5 : (k == 5) = false := by simp [h5]
    have e2 : (k == 2) = false := by simp [h2]
    refine dcZ Try.func53 ?_
    simp (maxSteps := 9999999) (maxDischargeDepth := 300) only [go_sem, List.cons_append, List.nil_append, h1, h5, h2, e1, e5, e2]
    iterate 4 ((try (refine drvZ Try.func53 ?_; simp (maxSteps := 9999999) (maxDischargeDepth := 300) only [go_sem, List.cons_append, List.nil_append, h1, h5, h2, e1, e5, e2])); (try ((with_reducible refine And.intro ?_ ?_) <;> (repeat' with_reducible apply And.intro) <;> try exact sd)))
    exact fin xv xa _ rfl rfl (by rw [← hR]; simp [h1, h5, h2]) rfl rfl rfl rfl
end Go.Proofs.Ytclgjiffpijgmaa.CtR

namespace Go.Proofs.Ytclgjiffpijgmaa.CtD
open Go Go.CT CtF CtR

theorem runP_sm (p : Pg) (m : Mm) : (runP p m).1.vals.length ≤ 12 ∧ (runP p m).1.arrays.length ≤ 2 ∧ (∀ a ∈ (runP p m).1.arrays, a.length ≤ 4) ∧ (runP p m).2.1.length ≤ 1000000 := by
  cases hq : (progOK p && memOK p.vars p.arrays m) with
  | false => rw [runP_false hq]; simp
  | true =>
    rw [runP_true hq]
    have hm := memFits_of hq
    simp only [Bool.and_eq_true] at hq
    have hb := body_of hq.1
    have h := runL_ok hm hb.1
    have h2 := h.2
    rw [wt5] at h2
    refine ⟨by rw [h.1.nv]; exact hm.nv12.2, by rw [h.1.na]; exact hm.na2, fun a ha => by have := (h.1.arr a ha).1; omega, ?_⟩
    have := hb.2
    simp only
    omega

end Go.Proofs.Ytclgjiffpijgmaa.CtD

namespace Go.Proofs.Ytclgjiffpijgmaa.CtD
open Go Go.CT CtF CtR

set_option maxHeartbeats 4000000 in
set_option maxRecDepth 10000 in
theorem ctInts (xs ys : List Int) (hl : xs.length ≤ mx) : DC Try.prog 27 [ints xs, ints ys] [] (fun r h => r = DB (decide (xs = ys)) ∧ h = []) := by
  have hmx := mx_eq
  have ret : ∀ (b : Bool) (hp : Hp), b = decide (xs = ys) → RetOb 0 (fun r h => r = DB (decide (xs = ys)) ∧ h = []) (DB b) hp := fun b hp h => RetOb.plain (d := DB _) ⟨by rw [h], rfl⟩ rfl
  by_cases hlen : xs.length = ys.length
  · have hb : ((xs.length : Int) != ys.length) = false := by simp [hlen]
    have he : ((xs.length : Int) = ys.length) = True := eq_true (by omega)
    refine dc_of_go Try.func27 rfl (by simp) ?_
    refine drv_sound (n := 100) (rs := _) Try.func27 mo rfl none _ _ ?_
    simp (maxSteps := 9999999) (maxDischargeDepth := 300) only [go_sem, ints, hb, he]
    refine Go.loopL (fun i : Nat => [(0, ints xs), (1, ints ys), (5, DI .i64 i)]) (fun _ => []) 1024 (fun i => i ≤ xs.length ∧ decide (xs = ys) = decide (xs.drop i = ys.drop i)) (fun i => xs.length - i) ?_ 0 some [] _ ⟨Nat.zero_le _, rfl⟩ ?_
    · intro i hi again
      refine drv_sound (n := 100) (rs := _) Try.func27 mo rfl none _ _ ?_
      rcases Nat.lt_or_ge i xs.length with hlt | hge
      · obtain ⟨x, hx⟩ : ∃ x, xs[i]? = some x := ⟨xs[i], by simp [hlt]⟩
        obtain ⟨y, hy⟩ : ∃ y, ys[i]? = some y := ⟨ys[i]'(by omega), by simp⟩
        have hI := hi.2
        obtain ⟨_, ex⟩ := List.getElem?_eq_some_iff.1 hx
        obtain ⟨hyl, ey⟩ := List.getElem?_eq_some_iff.1 hy
        rw [List.drop_eq_getElem_cons hlt, List.drop_eq_getElem_cons hyl, ex, ey] at hI
        simp (maxSteps := 9999999) (maxDischargeDepth := 300) only [go_sem, ints, hx, hy, hlt]
        (repeat' with_reducible apply And.intro) <;> (try first | omega | (simp only [InK]; omega) | (intro k e; cases e; rfl) | (intro hguard; exact ⟨hguard, by simp only [InK]; omega⟩) | kernel_rfl)
        · intro hne; exact ret _ _ (by rw [hI]; simp [hne])
        · intro heq; exact ⟨by simp only [InK]; omega, again (i + 1) some [] _ ⟨by omega, by rw [hI]; simp [heq]⟩ (by omega) (Mt.slots (by
            simp (maxSteps := 9999999) (maxDischargeDepth := 300) only [go_sem, TmOK, DM, DMs, CM, CMs, forall_eq, exists_eq_left, ints]))⟩
      · have hn : ¬ i < xs.length := by omega
        simp (maxSteps := 9999999) (maxDischargeDepth := 300) only [go_sem, ints, hn]
        refine ret _ _ ?_
        rw [hi.2, List.drop_of_length_le hge, List.drop_of_length_le (by omega)]; rfl
    · refine Mt.slots ?_
      simp (maxSteps := 9999999) (maxDischargeDepth := 300) only [go_sem, TmOK, DM, DMs, CM, CMs, forall_eq, exists_eq_left, ints]
  · have hb : ((xs.length : Int) != ys.length) = true := by simp; omega
    have he : ((xs.length : Int) = ys.length) = False := eq_false (by omega)
    refine dc_of_go Try.func27 rfl (by simp) ?_
    refine drv_sound (n := 100) (rs := _) Try.func27 mo rfl none _ _ ?_
    simp (maxSteps := 9999999) (maxDischargeDepth := 300) only [go_sem, ints, hb, he]
    refine ret _ _ ?_
    symm; rw [decide_eq_false_iff_not]; intro h; exact hlen (by rw [h])

end Go.Proofs.Ytclgjiffpijgmaa.CtD

namespace Go.Proofs.Ytclgjiffpijgmaa.CtR
open Go Go.CT CtF

set_option maxRecDepth 10000 in
theorem cellI (p : Pg) (a : Int) (hl : p.vars.length ≤ mx) (ha : 0 ≤ a ∧ a ≤ 1000) : DC Try.prog 116 [.agg p.cells, DI .i64 a] [] (fun r h => r = DI .i64 (p.vars.length + a) ∧ h = []) := by
  have hmx := mx_eq
  obtain ⟨vs, ar, bd⟩ := p
  have hl : vs.length ≤ mx := hl
  refine dcZ Try.func116 ?_
  simp (maxSteps := 9999999) (maxDischargeDepth := 300) only [go_sem]
  iterate 2 ((try (refine drvZ Try.func116 ?_; simp (maxSteps := 9999999) (maxDischargeDepth := 300) only [go_sem])); (try ((with_reducible refine And.intro ?_ ?_) <;> (repeat' with_reducible apply And.intro) <;> try exact sd)))
  exact RetOb.plain (d := DI .i64 _) ⟨rfl, rfl⟩ rfl
set_option maxRecDepth 10000 in
theorem cellsI (p : Pg) (hl : p.vars.length ≤ mx) (hl2 : p.arrays.length ≤ mx) : DC Try.prog 70 [.agg p.cells] [] (fun r h => r = DI .i64 ((p.vars.length + p.arrays.length : Nat) : Int) ∧ h = []) := by
  have hmx := mx_eq
  obtain ⟨vs, ar, bd⟩ := p
  have hl : vs.length ≤ mx := hl
  have hl2 : ar.length ≤ mx := hl2
  refine dcZ Try.func70 ?_
  simp (maxSteps := 9999999) (maxDischargeDepth := 300) only [go_sem]
  iterate 2 ((try (refine drvZ Try.func70 ?_; simp (maxSteps := 9999999) (maxDischargeDepth := 300) only [go_sem])); (try ((with_reducible refine And.intro ?_ ?_) <;> (repeat' with_reducible apply And.intro) <;> try exact sd)))
  exact RetOb.plain (d := DI .i64 _) ⟨rfl, rfl⟩ rfl
set_option maxRecDepth 10000 in
theorem cellsS (p : Pg) (hl : p.vars.length ≤ mx) (hl2 : p.arrays.length ≤ mx) : DC Try.prog 51 [.agg p.cells] [] (fun r h => r = DI .i64 ((p.vars.length + p.arrays.length : Nat) : Int) ∧ h = []) := by
  have hmx := mx_eq
  obtain ⟨vs, ar, bd⟩ := p
  have hl : vs.length ≤ mx := hl
  have hl2 : ar.length ≤ mx := hl2
  refine dcZ Try.func51 ?_
  simp (maxSteps := 9999999) (maxDischargeDepth := 300) only [go_sem]
  iterate 2 ((try (refine drvZ Try.func51 ?_; simp (maxSteps := 9999999) (maxDischargeDepth := 300) only [go_sem])); (try ((with_reducible refine And.intro ?_ ?_) <;> (repeat' with_reducible apply And.intro) <;> try exact sd)))
  exact RetOb.plain (d := DI .i64 _) ⟨rfl, rfl⟩ rfl

/-- The cells that an expression reads, as bits. -/
def occB (nv : Nat) (k v : Int) : Nat := if k = 2 then 2 ^ v.toNat else if k = 3 then 2 ^ (nv + v.toNat) else 0
def occN (nv : Nat) : Nat → Ex → Nat
  | 0, _ => 0
  | d + 1, .mk k v ks => (ks.map (occN nv d)).foldl (fun a b => a ||| b) (occB nv k v)
theorem or_lt {a b : Nat} (ha : a < 16384) (hb : b < 16384) : a ||| b < 16384 := Nat.or_lt_two_pow (n := 14) ha hb
theorem foldl_or_lt : ∀ (l : List Nat) (a : Nat), a < 16384 → (∀ x ∈ l, x < 16384) → l.foldl (fun a b => a ||| b) a < 16384
  | [], a, h, _ => h
  | x :: r, a, h, h2 => foldl_or_lt r _ (or_lt h (h2 x (by simp))) fun y hy => h2 y (by simp [hy])
theorem pow14 {n : Nat} (h : n < 14) : 2 ^ n < 16384 := Nat.lt_of_lt_of_le (Nat.pow_lt_pow_right (by decide) h) (by decide)
theorem pow14i {n : Nat} (h : 2 ^ n < 16384) : ((2 : Int) ^ n) < 16384 := by
  have e : ((2 ^ n : Nat) : Int) = (2 : Int) ^ n := Int.natCast_pow 2 n
  omega
theorem occN_lt {p : Pg} (hn : p.vars.length + p.arrays.length ≤ 14) : ∀ (d : Nat) (e : Ex), shape p d e = true → occN p.vars.length d e < 16384
  | 0, _, _ => by simp [occN]
  | d + 1, .mk k v ks, h => by
    obtain ⟨g1, g2, g3⟩ := shape_succ h
    obtain ⟨hl3, hla, hv0, hv1⟩ := fits_len g1
    refine foldl_or_lt _ _ ?_ fun x hx => ?_
    · unfold occB
      split
      · rename_i hk; subst hk; simp only [limit] at hv1; exact pow14 (by simp at hv1; omega)
      · split
        · rename_i hk; subst hk; simp only [limit] at hv1; exact pow14 (by simp at hv1; omega)
        · decide
    · obtain ⟨y, hy, rfl⟩ := List.mem_map.1 hx
      exact occN_lt hn d y (g2 y hy)
theorem or_succ (f : Ex → Nat) (a : Nat) (ks : List Ex) (i : Nat) (x : Ex) (h : ks[i]? = some x) : ((ks.take (i + 1)).map f).foldl (fun a b => a ||| b) a = ((ks.take i).map f).foldl (fun a b => a ||| b) a ||| f x := by
  rw [List.take_add_one, h]
  simp

set_option maxHeartbeats 4000000 in
set_option maxRecDepth 10000 in
theorem occurringI (p : Pg) (hn : p.vars.length + p.arrays.length ≤ 14) : ∀ (d : Nat) (e : Ex), shape p d e = true → DC Try.prog 117 [.agg p.cells, .agg e.cells] [] (fun r h => r = DI .i64 (occN p.vars.length d e) ∧ h = []) := by
  have hmx := mx_eq
  intro d
  induction d with
  | zero => intro e h; simp [shape] at h
  | succ d ih =>
    intro e hsh
    obtain ⟨k, v, ks⟩ := e
    obtain ⟨g1, g2, g3⟩ := shape_succ hsh
    obtain ⟨hl3, hla, hv0, hv1⟩ := fits_len g1
    have hle := fun e h => occN_lt hn d e h
    have hacc0 := fun i => foldl_or_lt ((ks.take i).map (occN p.vars.length d)) (occB p.vars.length k v)
    have hmem : ∀ i, ∀ x ∈ (ks.take i).map (occN p.vars.length d), x < 16384 := fun i x hx => by
      obtain ⟨y, hy, rfl⟩ := List.mem_map.1 hx
      exact hle y (g2 y (List.mem_of_mem_take hy))
    have hcell := cellI p v (by omega) 
    have hlim : k = 2 → v < p.vars.length := fun hk => by subst hk; simpa [limit] using hv1
    have hlim3 : k = 3 → v < p.arrays.length := fun hk => by subst hk; simpa [limit] using hv1
    obtain ⟨vs, ar, bd⟩ := p
    have hn : vs.length + ar.length ≤ 14 := hn
    simp only at hlim hlim3 hacc0 hmem hcell
    have hob : occB vs.length k v < 16384 := by
      unfold occB
      split
      · rename_i hk; have := hlim hk; exact pow14 (by omega)
      · split
        · rename_i hk; have := hlim3 hk; exact pow14 (by omega)
        · decide
    have hacc := fun i => hacc0 i hob (hmem i)
    generalize hR : (fun (r : D) (h : List (Option (List C))) => r = DI .i64 (occN vs.length (d + 1) (.mk k v ks)) ∧ h = []) = R
    have key : k = 2 ∨ k = 3 ∨ (k ≠ 2 ∧ k ≠ 3) := by omega
    rcases key with hk | hk | ⟨hk2, hk3⟩
    · have hv2 := hlim hk
      have hB : ((occB vs.length k v : Nat) : Int) = 1 * 2 ^ v.toNat := by unfold occB; rw [if_pos hk, Int.natCast_pow, Int.one_mul]; rfl
      have hp := pow14 (show v.toNat < 14 by omega)
      have hpi : ((2 : Int) ^ v.toNat) < 16384 := pow14i hp
      have hpp : (0 : Int) < 2 ^ v.toNat := Int.pow_pos (by decide)
      have e2 : (k == 2) = true := by simp [hk]
      have f2 : (k = 2) = True := by simp [hk]
      have hbit : ((IntKind.i64).bits : Int) = 64 := rfl
      refine dcZ Try.func117 ?_
      simp (maxSteps := 9999999) (maxDischargeDepth := 300) only [go_sem, e2, f2]
      iterate 4 ((try (refine drvZ Try.func117 ?_; simp (maxSteps := 9999999) (maxDischargeDepth := 300) only [go_sem, e2, f2, hbit])); (try ((with_reducible refine And.intro ?_ ?_) <;> (repeat' with_reducible apply And.intro) <;> try exact sd)))
      refine Go.loopQ (fun i : Nat => [(2, .c (.ptr 0 0)), (5, DI .i64 (((ks.take i).map (occN vs.length d)).foldl (fun a b => a ||| b) (occB vs.length k v) : Nat)), (23, .c (.isl 3 (Ex.cellsL ks))), (24, DI .i64 ks.length), (25, DI .i64 i)]) (fun i => [(0, some (Pg.cells ⟨vs, ar, bd⟩))])
        4096 (fun i => i ≤ ks.length) (fun i => ks.length - i) ?_ 0 some [] _ (Nat.zero_le _) ?_
      · intro i hi again
        rcases Nat.lt_or_ge i ks.length with hlt | hge
        · obtain ⟨⟨k', v', ks'⟩, hx⟩ : ∃ x, ks[i]? = some x := ⟨ks[i], by simp [hlt]⟩
          have hsc := or_succ (occN vs.length d) (occB vs.length k v) ks i _ hx
          have ha := hacc i
          have hb := hle (.mk k' v' ks') (g2 _ (List.mem_of_getElem? hx))
          have hc := hacc (i + 1)
          rw [hsc] at hc
          simp only at hb
          generalize ((ks.take i).map (occN vs.length d)).foldl (fun a b => a ||| b) (occB vs.length k v) = acc at *
          refine drvL Try.func117 ?_
          simp (maxSteps := 9999999) (maxDischargeDepth := 300) only [go_sem, hx, hlt]
          iterate 2 ((try (refine drvZ Try.func117 ?_; simp (maxSteps := 9999999) (maxDischargeDepth := 300) only [go_sem, hx, hlt])); (try ((with_reducible refine And.intro ?_ ?_) <;> (repeat' with_reducible apply And.intro) <;> try exact sd)))
          refine XK.plain (ih (.mk k' v' ks') (g2 _ (List.mem_of_getElem? hx))) ok117 ?_ (hbT ())
          iterate 3 ((try (refine drvZ Try.func117 ?_; simp (maxSteps := 9999999) (maxDischargeDepth := 300) only [go_sem, hx, hlt])); (try ((with_reducible refine And.intro ?_ ?_) <;> (repeat' with_reducible apply And.intro) <;> try exact sd)))
          refine again (i + 1) some [] _ hlt (by omega) ?_
          simp (maxSteps := 9999999) (maxDischargeDepth := 300) only [go_sem, TmOK, DM, DMs, CM, CMs, forall_eq, exists_eq_left, Mq, HpOK, LowOK, hsc]
          simp
          rw [← List.map_take, hsc]
        · have hn : ¬ i < ks.length := by omega
          obtain rfl : i = ks.length := by omega
          refine drvL Try.func117 ?_
          simp (maxSteps := 9999999) (maxDischargeDepth := 300) only [go_sem, hn, List.take_length]
          iterate 2 ((try (refine drvZ Try.func117 ?_; simp (maxSteps := 9999999) (maxDischargeDepth := 300) only [go_sem, hn, List.take_length])); (try ((with_reducible refine And.intro ?_ ?_) <;> (repeat' with_reducible apply And.intro) <;> try exact sd)))
          exact RetOb.plain (d := DI .i64 _) (by rw [← hR]; exact ⟨rfl, rfl⟩) rfl
      · simp (maxSteps := 9999999) (maxDischargeDepth := 300) only [go_sem, TmOK, DM, DMs, CM, CMs, forall_eq, exists_eq_left, Mq, HpOK, LowOK, List.take_zero, List.map_nil, List.foldl_nil]
        simp [hB]
    · have hv2 := hlim3 hk
      have hB : ((occB vs.length k v : Nat) : Int) = 1 * 2 ^ ((vs.length : Int) + v).toNat := by
        have : ((vs.length : Int) + v).toNat = vs.length + v.toNat := by omega
        rw [this]; unfold occB; rw [if_neg (by omega), if_pos hk, Int.natCast_pow, Int.one_mul]; rfl
      have hp := pow14 (show ((vs.length : Int) + v).toNat < 14 by omega)
      have hpi : ((2 : Int) ^ ((vs.length : Int) + v).toNat) < 16384 := pow14i hp
      have hpp : (0 : Int) < 2 ^ ((vs.length : Int) + v).toNat := Int.pow_pos (by decide)
      have e2 : (k == 2) = false := by simp [hk]
      have f2 : (k = 2) = False := by simp [hk]
      have e3 : (k == 3) = true := by simp [hk]
      have f3 : (k = 3) = True := by simp [hk]
      have hbit : ((IntKind.i64).bits : Int) = 64 := rfl
      refine dcZ Try.func117 ?_
      simp (maxSteps := 9999999) (maxDischargeDepth := 300) only [go_sem, e2, f2, e3, f3]
      iterate 4 ((try (refine drvZ Try.func117 ?_; simp (maxSteps := 9999999) (maxDischargeDepth := 300) only [go_sem, e2, f2, e3, f3, hbit])); (try ((with_reducible refine And.intro ?_ ?_) <;> (repeat' with_reducible apply And.intro) <;> try exact sd)))
      refine XK.plain (hcell (by omega)) ok116 ?_ (hbT ())
      iterate 4 ((try (refine drvZ Try.func117 ?_; simp (maxSteps := 9999999) (maxDischargeDepth := 300) only [go_sem, e2, f2, e3, f3, hbit])); (try ((with_reducible refine And.intro ?_ ?_) <;> (repeat' with_reducible apply And.intro) <;> try exact sd)))
      refine Go.loopQ (fun i : Nat => [(2, .c (.ptr 0 0)), (5, DI .i64 (((ks.take i).map (occN vs.length d)).foldl (fun a b => a ||| b) (occB vs.length k v) : Nat)), (23, .c (.isl 3 (Ex.cellsL ks))), (24, DI .i64 ks.length), (25, DI .i64 i)]) (fun i => [(0, some (Pg.cells ⟨vs, ar, bd⟩))])
        4096 (fun i => i ≤ ks.length) (fun i => ks.length - i) ?_ 0 some [] _ (Nat.zero_le _) ?_
      · intro i hi again
        rcases Nat.lt_or_ge i ks.length with hlt | hge
        · obtain ⟨⟨k', v', ks'⟩, hx⟩ : ∃ x, ks[i]? = some x := ⟨ks[i], by simp [hlt]⟩
          have hsc := or_succ (occN vs.length d) (occB vs.length k v) ks i _ hx
          have ha := hacc i
          have hb := hle (.mk k' v' ks') (g2 _ (List.mem_of_getElem? hx))
          have hc := hacc (i + 1)
          rw [hsc] at hc
          simp only at hb
          generalize ((ks.take i).map (occN vs.length d)).foldl (fun a b => a ||| b) (occB vs.length k v) = acc at *
          refine drvL Try.func117 ?_
          simp (maxSteps := 9999999) (maxDischargeDepth := 300) only [go_sem, hx, hlt]
          iterate 2 ((try (refine drvZ Try.func117 ?_; simp (maxSteps := 9999999) (maxDischargeDepth := 300) only [go_sem, hx, hlt])); (try ((with_reducible refine And.intro ?_ ?_) <;> (repeat' with_reducible apply And.intro) <;> try exact sd)))
          refine XK.plain (ih (.mk k' v' ks') (g2 _ (List.mem_of_getElem? hx))) ok117 ?_ (hbT ())
          iterate 3 ((try (refine drvZ Try.func117 ?_; simp (maxSteps := 9999999) (maxDischargeDepth := 300) only [go_sem, hx, hlt])); (try ((with_reducible refine And.intro ?_ ?_) <;> (repeat' with_reducible apply And.intro) <;> try exact sd)))
          refine again (i + 1) some [] _ hlt (by omega) ?_
          simp (maxSteps := 9999999) (maxDischargeDepth := 300) only [go_sem, TmOK, DM, DMs, CM, CMs, forall_eq, exists_eq_left, Mq, HpOK, LowOK, hsc]
          simp
          rw [← List.map_take, hsc]
        · have hn : ¬ i < ks.length := by omega
          obtain rfl : i = ks.length := by omega
          refine drvL Try.func117 ?_
          simp (maxSteps := 9999999) (maxDischargeDepth := 300) only [go_sem, hn, List.take_length]
          iterate 2 ((try (refine drvZ Try.func117 ?_; simp (maxSteps := 9999999) (maxDischargeDepth := 300) only [go_sem, hn, List.take_length])); (try ((with_reducible refine And.intro ?_ ?_) <;> (repeat' with_reducible apply And.intro) <;> try exact sd)))
          exact RetOb.plain (d := DI .i64 _) (by rw [← hR]; exact ⟨rfl, rfl⟩) rfl
      · simp (maxSteps := 9999999) (maxDischargeDepth := 300) only [go_sem, TmOK, DM, DMs, CM, CMs, forall_eq, exists_eq_left, Mq, HpOK, LowOK, List.take_zero, List.map_nil, List.foldl_nil]
        simp [hB]
    · have hB : occB vs.length k v = 0 := by simp [occB, hk2, hk3]
      have e2 : (k == 2) = false := by simp [hk2]
      have e3 : (k == 3) = false := by simp [hk3]
      refine dcZ Try.func117 ?_
      simp (maxSteps := 9999999) (maxDischargeDepth := 300) only [go_sem, hk2, hk3, e2, e3]
      iterate 4 ((try (refine drvZ Try.func117 ?_; simp (maxSteps := 9999999) (maxDischargeDepth := 300) only [go_sem, e2, e3, hk2, hk3])); (try ((with_reducible refine And.intro ?_ ?_) <;> (repeat' with_reducible apply And.intro) <;> try exact sd)))
      refine Go.loopQ (fun i : Nat => [(2, .c (.ptr 0 0)), (5, DI .i64 (((ks.take i).map (occN vs.length d)).foldl (fun a b => a ||| b) (occB vs.length k v) : Nat)), (23, .c (.isl 3 (Ex.cellsL ks))), (24, DI .i64 ks.length), (25, DI .i64 i)]) (fun i => [(0, some (Pg.cells ⟨vs, ar, bd⟩))])
        4096 (fun i => i ≤ ks.length) (fun i => ks.length - i) ?_ 0 some [] _ (Nat.zero_le _) ?_
      · intro i hi again
        rcases Nat.lt_or_ge i ks.length with hlt | hge
        · obtain ⟨⟨k', v', ks'⟩, hx⟩ : ∃ x, ks[i]? = some x := ⟨ks[i], by simp [hlt]⟩
          have hsc := or_succ (occN vs.length d) (occB vs.length k v) ks i _ hx
          have ha := hacc i
          have hb := hle (.mk k' v' ks') (g2 _ (List.mem_of_getElem? hx))
          have hc := hacc (i + 1)
          rw [hsc] at hc
          simp only at hb
          generalize ((ks.take i).map (occN vs.length d)).foldl (fun a b => a ||| b) (occB vs.length k v) = acc at *
          refine drvL Try.func117 ?_
          simp (maxSteps := 9999999) (maxDischargeDepth := 300) only [go_sem, hx, hlt]
          iterate 2 ((try (refine drvZ Try.func117 ?_; simp (maxSteps := 9999999) (maxDischargeDepth := 300) only [go_sem, hx, hlt])); (try ((with_reducible refine And.intro ?_ ?_) <;> (repeat' with_reducible apply And.intro) <;> try exact sd)))
          refine XK.plain (ih (.mk k' v' ks') (g2 _ (List.mem_of_getElem? hx))) ok117 ?_ (hbT ())
          iterate 3 ((try (refine drvZ Try.func117 ?_; simp (maxSteps := 9999999) (maxDischargeDepth := 300) only [go_sem, hx, hlt])); (try ((with_reducible refine And.intro ?_ ?_) <;> (repeat' with_reducible apply And.intro) <;> try exact sd)))
          refine again (i + 1) some [] _ hlt (by omega) ?_
          simp (maxSteps := 9999999) (maxDischargeDepth := 300) only [go_sem, TmOK, DM, DMs, CM, CMs, forall_eq, exists_eq_left, Mq, HpOK, LowOK, hsc]
          simp
          rw [← List.map_take, hsc]
        · have hn : ¬ i < ks.length := by omega
          obtain rfl : i = ks.length := by omega
          refine drvL Try.func117 ?_
          simp (maxSteps := 9999999) (maxDischargeDepth := 300) only [go_sem, hn, List.take_length]
          iterate 2 ((try (refine drvZ Try.func117 ?_; simp (maxSteps := 9999999) (maxDischargeDepth := 300) only [go_sem, hn, List.take_length])); (try ((with_reducible refine And.intro ?_ ?_) <;> (repeat' with_reducible apply And.intro) <;> try exact sd)))
          exact RetOb.plain (d := DI .i64 _) (by rw [← hR]; exact ⟨rfl, rfl⟩) rfl
      · simp (maxSteps := 9999999) (maxDischargeDepth := 300) only [go_sem, TmOK, DM, DMs, CM, CMs, forall_eq, exists_eq_left, Mq, HpOK, LowOK, List.take_zero, List.map_nil, List.foldl_nil]
        simp [hB]
end Go.Proofs.Ytclgjiffpijgmaa.CtR

namespace Go.Proofs.Ytclgjiffpijgmaa.CtD
open Go Go.CT CtF CtR

set_option maxHeartbeats 2000000 in
set_option maxRecDepth 10000 in
theorem ownExpr (p : Pg) : ∀ (d : Nat) (e : Ex), CtR.shape p d e = true → DC Try.prog 118 [.agg e.cells] [] (fun r h => r = .agg e.cells ∧ h = []) := by
  have hmx := mx_eq
  intro d
  induction d with
  | zero => intro e h; simp [CtR.shape] at h
  | succ d ih =>
    intro e hsh
    obtain ⟨k, v, ks⟩ := e
    obtain ⟨g1, g2, g3⟩ := shape_succ hsh
    obtain ⟨hl3, hla, hv0, hv1⟩ := fits_len g1
    refine dcZ Try.func118 ?_
    simp (maxSteps := 9999999) (maxDischargeDepth := 300) only [go_sem]
    iterate 2 ((try (refine drvZ Try.func118 ?_; simp (maxSteps := 9999999) (maxDischargeDepth := 300) only [go_sem])); (try ((with_reducible refine And.intro ?_ ?_) <;> (repeat' with_reducible apply And.intro) <;> try exact sd)))
    refine Go.loopQ (fun i : Nat => [(1, .c (.ptr 0 0)), (2, .c (.ptr 64 0)), (3, .c (.ptr 66 0)), (12, .c (.isl 3 (Ex.cellsL ks))), (13, DI .i64 ks.length), (14, DI .i64 i)])
      (fun i => [(0, some (Ex.cells (.mk k v ks))), (64, some [I64 0, I64 0, .v (.slice none 0 0)]), (66, some [I64 k, I64 v, .msl 67 3 0 i]), (67, some (exC (ks.take i)))])
      4096 (fun i => i ≤ ks.length) (fun i => ks.length - i) ?_ 0 (fun j => if j = 66 then some 448 else if j = 67 then none else some j) [] _ (Nat.zero_le _) ?_
    · intro i hi again
      rcases Nat.lt_or_ge i ks.length with hlt | hge
      · obtain ⟨⟨k', v', ks'⟩, hx⟩ : ∃ x, ks[i]? = some x := ⟨ks[i], by simp [hlt]⟩
        have hsx : ks.take (i + 1) = ks.take i ++ [.mk k' v' ks'] := by rw [List.take_add_one, hx]; rfl
        have hel : (exC (ks.take i)).length = i * 3 := by rw [exC_len, List.length_take]; congr 1; omega
        refine drvL Try.func118 ?_
        simp (maxSteps := 9999999) (maxDischargeDepth := 300) only [go_sem, hx, hlt]
        iterate 2 ((try (refine drvZ Try.func118 ?_; simp (maxSteps := 9999999) (maxDischargeDepth := 300) only [go_sem, hx, hlt])); (try ((with_reducible refine And.intro ?_ ?_) <;> (repeat' with_reducible apply And.intro) <;> try exact sd)))
        refine XK.plain (ih _ (g2 _ (List.mem_of_getElem? hx))) ok118 ?_ (hbT ()) (fun _ => by kernel_rfl)
        iterate 4 ((try (refine drvZ Try.func118 ?_; simp (maxSteps := 9999999) (maxDischargeDepth := 300) only [go_sem, hx, hlt, hel])); (try ((with_reducible refine And.intro ?_ ?_) <;> (repeat' with_reducible apply And.intro) <;> try exact sd)))
        refine again (i + 1) (fun j => if j = 67 then some 4736 else some j) [] _ hlt (by omega) ?_
        simp (maxSteps := 9999999) (maxDischargeDepth := 300) only [go_sem, TmOK, DM, DMs, CM, CMs, forall_eq, exists_eq_left, Mq, HpOK, LowOK, hsx, exC_snoc]
        simp
        exact CMs.kf (kf_app (exC_kf _) (by simp [kf]))
      · have hn : ¬ i < ks.length := by omega
        obtain rfl : i = ks.length := by omega
        refine drvL Try.func118 ?_
        simp (maxSteps := 9999999) (maxDischargeDepth := 300) only [go_sem, hn, List.take_length]
        iterate 2 ((try (refine drvZ Try.func118 ?_; simp (maxSteps := 9999999) (maxDischargeDepth := 300) only [go_sem, hn, List.take_length])); (try ((with_reducible refine And.intro ?_ ?_) <;> (repeat' with_reducible apply And.intro) <;> try exact sd)))
        refine RetOb.ofQ (fun j => none) [67] (.agg (Ex.cells (.mk k v ks))) [] ?_ ⟨rfl, rfl⟩ (by simp)
        have g1 : (Ex.cellsL ks).flatten = exC ks := by rw [Ex.cellsL_eq]; rfl
        have g2 : ∀ x ∈ Ex.cellsL ks, x.length = 3 := fun x hx => by rw [Ex.cellsL_eq] at hx; obtain ⟨e, _, rfl⟩ := List.mem_map.1 hx; exact Ex.cells_len e
        have g3 : ∀ x ∈ Ex.cellsL ks, ∀ c ∈ x, kf c = true := fun x hx => by rw [Ex.cellsL_eq] at hx; obtain ⟨e, _, rfl⟩ := List.mem_map.1 hx; exact ex_kf e
        simp only [enumL, hOf, DM, DMs, CM, CMs, HpOK, LowOK, upd, Ex.cells, Ex.cellsL_length, g1]
        first | (simp; exact ⟨g2, g3⟩) | (simp [g2]; exact g3) | exact ⟨g2, g3⟩
    · simp (maxSteps := 9999999) (maxDischargeDepth := 300) only [go_sem, TmOK, DM, DMs, CM, CMs, forall_eq, exists_eq_left, Mq, HpOK, LowOK]
      simp [exC]

theorem ownExpr0 : DC Try.prog 118 [.agg (Ex.cells (.mk 0 0 []))] [] (fun r h => r = .agg (Ex.cells (.mk 0 0 [])) ∧ h = []) := by
  refine dcZ Try.func118 ?_
  simp (maxSteps := 9999999) (maxDischargeDepth := 300) only [go_sem, Ex.cellsL, Int.natCast_zero]
  iterate 2 ((try (refine drvZ Try.func118 ?_; simp (maxSteps := 9999999) (maxDischargeDepth := 300) only [go_sem, Ex.cellsL, Int.natCast_zero])); (try ((with_reducible refine And.intro ?_ ?_) <;> (repeat' with_reducible apply And.intro) <;> try exact sd)))
  refine Go.loop ?_
  have hz : ((0 : Int) < 0) = False := eq_false (by omega)
  refine drvL Try.func118 ?_
  simp (maxSteps := 9999999) (maxDischargeDepth := 300) only [go_sem, Ex.cellsL, Int.natCast_zero, hz, List.length_nil]
  iterate 2 ((try (refine drvZ Try.func118 ?_; simp (maxSteps := 9999999) (maxDischargeDepth := 300) only [go_sem, Ex.cellsL, Int.natCast_zero, hz, List.length_nil])); (try ((with_reducible refine And.intro ?_ ?_) <;> (repeat' with_reducible apply And.intro) <;> try exact sd)))
  refine RetOb.ofQ (fun j => none) [] (.agg (Ex.cells (.mk 0 0 []))) [] ?_ ⟨rfl, rfl⟩ (by simp)
  simp [enumL, hOf, DM, DMs, CM, CMs, HpOK, LowOK, upd, Ex.cells, Ex.cellsL]
end Go.Proofs.Ytclgjiffpijgmaa.CtD

namespace Go.Proofs.Ytclgjiffpijgmaa.CtD
open Go Go.CT CtF CtR

theorem none0_eq {e : Ex} (h : none0 e = true) : e = .mk 0 0 [] := by
  obtain ⟨k, v, ks⟩ := e
  simp only [none0, Ex.kind, Ex.value, Ex.kids, Bool.and_eq_true, beq_iff_eq, decide_eq_true_eq] at h
  obtain ⟨⟨rfl, rfl⟩, h3⟩ := h
  have : ks = [] := List.isEmpty_iff.1 h3
  rw [this]
theorem exprs_of {p : Pg} {d : Nat} {k t : Int} {ix v : Ex} {c : Int} {b e : List St1} (h : stmtOK p (d + 1) (.mk k t ix v c b e) = true) :
    (CtR.shape p 5 ix = true ∨ ix = .mk 0 0 []) ∧ (CtR.shape p 5 v = true ∨ v = .mk 0 0 []) := by
  have h1 := (stmtOK_succ h).1
  have hk := head_kind h1
  unfold headOK parts at h1
  rcases hk with ⟨hk, _, _, hr⟩ | ⟨rfl, _, _, hr, _, hr2⟩ | ⟨rfl, hr⟩ | ⟨rfl, _⟩
  · refine ⟨.inr (none0_eq ?_), .inl (right_shape hr).1⟩
    have hk4 : k ≠ 4 := by omega
    have hk2 : (k == 2) = false := by simp; omega
    simp [hk4, hk2] at h1
    exact h1.1.2.2
  · exact ⟨.inl (right_shape hr).1, .inl (right_shape hr2).1⟩
  · refine ⟨.inr (none0_eq ?_), .inl (right_shape hr).1⟩
    simp at h1
    exact h1.1.2.2
  · simp at h1
    refine ⟨.inr (none0_eq ?_), .inr (none0_eq ?_)⟩ <;> grind
theorem ownE {p : Pg} {e : Ex} (h : CtR.shape p 5 e = true ∨ e = .mk 0 0 []) : DC Try.prog 118 [.agg e.cells] [] (fun r h => r = .agg e.cells ∧ h = []) := by
  rcases h with h | rfl
  · exact ownExpr p 5 e h
  · exact ownExpr0

set_option maxHeartbeats 4000000 in
set_option maxRecDepth 10000 in
theorem ownStmts (p : Pg) : ∀ (d : Nat) (l : List St1), (∀ s ∈ l, stmtOK p d s = true) → lsize d l ≤ 1000 → DC Try.prog 74 [.c (.isl 11 (St1.cellsL l))] [] (fun r h => r = .c (.isl 11 (St1.cellsL l)) ∧ h = []) := by
  have hmx := mx_eq
  intro d
  induction d with
  | zero =>
    intro l hok hsz
    have hnil : l = [] := by
      cases l with
      | nil => rfl
      | cons a r => have := hok a (by simp); simp [stmtOK] at this
    subst hnil
    refine dcZ Try.func74 ?_
    simp (maxSteps := 9999999) (maxDischargeDepth := 300) only [go_sem, St1.cellsL, Int.natCast_zero]
    ((try (refine drvZ Try.func74 ?_; simp (maxSteps := 9999999) (maxDischargeDepth := 300) only [go_sem, St1.cellsL, Int.natCast_zero, List.length_nil])); (try ((with_reducible refine And.intro ?_ ?_) <;> (repeat' with_reducible apply And.intro) <;> try exact sd)))
    refine Go.loop ?_
    have hz : ((0 : Int) < 0) = False := eq_false (by omega)
    refine drvL Try.func74 ?_
    simp (maxSteps := 9999999) (maxDischargeDepth := 300) only [go_sem, St1.cellsL, Int.natCast_zero, hz, List.length_nil]
    ((try (refine drvZ Try.func74 ?_; simp (maxSteps := 9999999) (maxDischargeDepth := 300) only [go_sem, St1.cellsL, Int.natCast_zero, hz, List.length_nil])); (try ((with_reducible refine And.intro ?_ ?_) <;> (repeat' with_reducible apply And.intro) <;> try exact sd)))
    refine RetOb.ofQ (fun j => none) [] (.c (.isl 11 [])) [] ?_ ⟨rfl, rfl⟩ (by simp)
    simp [enumL, hOf, DM, CM, HpOK, LowOK, upd]
  | succ d ih =>
    intro l hok hsz
    have hsub := lsize_subs d l
    refine dcZ Try.func74 ?_
    simp (maxSteps := 9999999) (maxDischargeDepth := 300) only [go_sem]
    ((try (refine drvZ Try.func74 ?_; simp (maxSteps := 9999999) (maxDischargeDepth := 300) only [go_sem])); (try ((with_reducible refine And.intro ?_ ?_) <;> (repeat' with_reducible apply And.intro) <;> try exact sd)))
    refine Go.loopQ (fun i : Nat => [(3, .c (.msl 67 11 0 i)), (6, .c (.isl 11 (St1.cellsL l))), (7, DI .i64 l.length), (8, DI .i64 i)]) (fun i => [(67, some (stC (l.take i)))])
      4096 (fun i => i ≤ l.length) (fun i => l.length - i) ?_ 0 (fun j => none) [] _ (Nat.zero_le _) ?_
    · intro i hi again
      rcases Nat.lt_or_ge i l.length with hlt | hge
      · obtain ⟨⟨k, t, ⟨ik, iv, iks⟩, ⟨vk, vv, vks⟩, c, b, e⟩, hx⟩ : ∃ x, l[i]? = some x := ⟨l[i], by simp [hlt]⟩
        have hsx : l.take (i + 1) = l.take i ++ [.mk k t (.mk ik iv iks) (.mk vk vv vks) c b e] := by rw [List.take_add_one, hx]; rfl
        have hel : (stC (l.take i)).length = i * 11 := by rw [stC_len, List.length_take]; congr 1; omega
        have hsok := hok _ (List.mem_of_getElem? hx)
        have hex := exprs_of hsok
        have hbe := stmtOK_succ hsok
        have a1 := tsum_succ (subs d) l i _ hx
        have a2 := tsum_le (subs d) l (i + 1)
        simp only [subs, St1.body, St1.els] at a1 a2
        have ihb := ih b hbe.2.1 (by omega)
        have ihe := ih e hbe.2.2 (by omega)
        refine drvL Try.func74 ?_
        simp (maxSteps := 9999999) (maxDischargeDepth := 300) only [go_sem, hx, hlt, List.cons_append, List.nil_append]
        iterate 3 ((try (refine drvZ Try.func74 ?_; simp (maxSteps := 9999999) (maxDischargeDepth := 300) only [go_sem, hx, hlt, List.cons_append, List.nil_append])); (try ((with_reducible refine And.intro ?_ ?_) <;> (repeat' with_reducible apply And.intro) <;> try exact sd)))
        refine XK.plain (ownE hex.1) ok118 ?_ (hbT ()) (fun _ => by kernel_rfl)
        iterate 2 ((try (refine drvZ Try.func74 ?_; simp (maxSteps := 9999999) (maxDischargeDepth := 300) only [go_sem, List.cons_append, List.nil_append])); (try ((with_reducible refine And.intro ?_ ?_) <;> (repeat' with_reducible apply And.intro) <;> try exact sd)))
        refine XK.plain (ownE hex.2) ok118 ?_ (hbT ()) (fun _ => by kernel_rfl)
        iterate 2 ((try (refine drvZ Try.func74 ?_; simp (maxSteps := 9999999) (maxDischargeDepth := 300) only [go_sem, List.cons_append, List.nil_append])); (try ((with_reducible refine And.intro ?_ ?_) <;> (repeat' with_reducible apply And.intro) <;> try exact sd)))
        refine XK.plain ihb ok74 ?_ (hbT ()) (fun _ => by kernel_rfl)
        iterate 2 ((try (refine drvZ Try.func74 ?_; simp (maxSteps := 9999999) (maxDischargeDepth := 300) only [go_sem, List.cons_append, List.nil_append])); (try ((with_reducible refine And.intro ?_ ?_) <;> (repeat' with_reducible apply And.intro) <;> try exact sd)))
        refine XK.plain ihe ok74 ?_ (hbT ()) (fun _ => by kernel_rfl)
        iterate 4 ((try (refine drvZ Try.func74 ?_; simp (maxSteps := 9999999) (maxDischargeDepth := 300) only [go_sem, List.cons_append, List.nil_append, hel])); (try ((with_reducible refine And.intro ?_ ?_) <;> (repeat' with_reducible apply And.intro) <;> try exact sd)))
        refine again (i + 1) (fun j => if j = 67 then some 5760 else some j) [] _ hlt (by omega) ?_
        simp (maxSteps := 9999999) (maxDischargeDepth := 300) only [go_sem, TmOK, DM, DMs, CM, CMs, forall_eq, exists_eq_left, Mq, HpOK, LowOK, hsx, stC_snoc, List.cons_append, List.nil_append]
        simp
        exact CMs.kf (kf_app (stC_kf _) (by simp [kf]))
      · have hn : ¬ i < l.length := by omega
        obtain rfl : i = l.length := by omega
        refine drvL Try.func74 ?_
        simp (maxSteps := 9999999) (maxDischargeDepth := 300) only [go_sem, hn, List.take_length]
        iterate 2 ((try (refine drvZ Try.func74 ?_; simp (maxSteps := 9999999) (maxDischargeDepth := 300) only [go_sem, hn, List.take_length])); (try ((with_reducible refine And.intro ?_ ?_) <;> (repeat' with_reducible apply And.intro) <;> try exact sd)))
        refine RetOb.ofQ (fun j => none) [67] (.c (.isl 11 (St1.cellsL l))) [] ?_ ⟨rfl, rfl⟩ (by simp)
        have g1 : (St1.cellsL l).flatten = stC l := by rw [St1.cellsL_eq]; rfl
        have g2 : ∀ x ∈ St1.cellsL l, x.length = 11 := fun x hx => by rw [St1.cellsL_eq] at hx; obtain ⟨e, _, rfl⟩ := List.mem_map.1 hx; exact St1.cells_len e
        have g3 : ∀ x ∈ St1.cellsL l, ∀ c ∈ x, kf c = true := fun x hx => by rw [St1.cellsL_eq] at hx; obtain ⟨e, _, rfl⟩ := List.mem_map.1 hx; exact st_kf e
        simp only [enumL, hOf, DM, DMs, CM, CMs, HpOK, LowOK, upd, St1.cellsL_length, g1]
        first | (simp; exact ⟨g2, g3⟩) | (simp [g2]; exact g3) | exact ⟨g2, g3⟩
    · simp (maxSteps := 9999999) (maxDischargeDepth := 300) only [go_sem, TmOK, DM, DMs, CM, CMs, forall_eq, exists_eq_left, Mq, HpOK, LowOK]
      simp [stC]
end Go.Proofs.Ytclgjiffpijgmaa.CtD
