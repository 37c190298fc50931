/- Contracts of functions of the program, one behind the other, as plain data: what each call returns and which blocks it leaves. -/
import Derived.Test.YtjjjidcbokbhpaaMFacts
import Derived.Test.YtjjjidcbokbhpaaMAi
import Derived.Test.YtjjjidcbokbhpaaMAj
import Derived.Test.YtjjjidcbokbhpaaMAk
import Derived.Test.YtjjjidcbokbhpaaMAl
import Derived.Test.YtjjjidcbokbhpaaMAn
import Derived.Test.YtjjjidcbokbhpaaMAo
import Derived.Test.YtjjjidcbokbhpaaMAr
import Derived.Test.YtjjjidcbokbhpaaMAs
import Derived.Test.YtjjjidcbokbhpaaMAt
import Derived.Test.YtjjjidcbokbhpaaMAu
import Derived.Test.YtjjjidcbokbhpaaMAhX
import Derived.Test.YtjjjidcbokbhpaaMAq
import Derived.Test.YtjjjidcbokbhpaaMAhF
set_option linter.unusedVariables false
set_option linter.unusedSimpArgs false
set_option maxHeartbeats 16000000
set_option maxRecDepth 100000
namespace Go.Proofs.Ytjjjidcbokbhpaa.CtD
open Go Go.CT CtF CtR

def st0 (w : Nat) : List Nat := (List.range w).map fun i => 2 ^ i
theorem st0_len (w : Nat) : (st0 w).length = w := by simp [st0]
theorem st0_succ {w i : Nat} (h : i < w) : rowsC w ((st0 w).take (i + 1)) = rowsC w ((st0 w).take i) ++ [boolsD (bl w (2 ^ i))] :=
  rowsC_succ w (st0 w) i (2 ^ i) (by simp [st0, h])
theorem bl_one {w i : Nat} (h : i < w) : (boolsC (bl w 0)).set i (.v (.bool true)) = boolsC (bl w (2 ^ i)) := by
  rw [boolsC_set]
  congr 1
  refine bl_ext (by simp [bl_len]) fun j hj => ?_
  rw [List.getD_eq_getElem?_getD, List.getElem?_set]
  by_cases e : i = j
  · subst e; simp [bl_len, h]
  · rw [if_neg e, ← bl_zero, List.getElem?_replicate, if_pos hj, Nat.testBit_two_pow]; simp [e]
theorem startS {w : Nat} (p : Pg) (hw : p.vars.length + p.arrays.length = w) (hw14 : w ≤ 14) (w0 : 0 < w) : DC Try.prog 91 [.agg p.cells] []
    (fun r h => r = .agg (p.cells ++ [rowsD w (startD w).sets, .msl 0 1 0 w, .msl 1 1 0 w]) ∧ h = [some (boolsC (bl w 0)), some (boolsC (bl w 0))]) := by
  have hmx := mx_eq
  have hce := cellsS p (by omega) (by omega)
  rw [hw] at hce
  obtain ⟨vs, ar, bd⟩ := p
  have hw : vs.length + ar.length = w := hw
  generalize hR : (fun (r : D) (h : List (Option (List C))) => r = .agg _ ∧ h = _) = R
  have hz : boolsC (List.replicate w false) = boolsC (bl w 0) := by rw [bl_zero]
  refine dcZ Try.func91 ?_
  simp (maxSteps := 9999999) only [go_sem]
  iterate 4 ((try (refine drvZ Try.func91 ?_; simp (maxSteps := 9999999) only [go_sem, boolsC_rep, bl_zero])); (try ((with_reducible refine And.intro ?_ ?_) <;> (repeat' with_reducible apply And.intro) <;> try exact sd)); (try first | refine XK.p hce ok93 ?_ | refine XK.gp hce ok93 ?_))
  refine Go.loopQ (fun i : Nat => [(2, .c (.ptr 64 0)), (3, DI .i64 w), (4, .c (.ptr 704 0)), (5, DI .i64 i)])
    (fun i => [(64, some [.v (.slice none 0 0), .v (.slice none 0 0), .v (.slice none 0 0), .v (.slice none 0 0), .v (.slice none 0 0), .v (.slice none 0 0)]), (448, some (boolsC (bl w 0))), (576, some (boolsC (bl w 0))), (704, some (Pg.cells ⟨vs, ar, bd⟩ ++ [.msl 800 1 0 i, .msl 448 1 0 w, .msl 576 1 0 w])), (800, some (rowsC w ((st0 w).take i)))])
    4096 (fun i => i ≤ w) (fun i => w - i) ?_ 0 (fun j => if j = 800 then none else some j) [] _ (Nat.zero_le _) ?_
  · intro i hi again
    have hcl := rowsC_len w ((st0 w).take i)
    rw [List.length_take, st0_len, Nat.min_eq_left hi] at hcl
    rcases Nat.lt_or_ge i w with hlt | hge
    · have hbo := bl_one hlt
      have hsn := st0_succ hlt
      have hbl := bl_len w 0
      have hbc := boolsC_len (bl w 0)
      rw [hbl] at hbc
      refine drvL Try.func91 ?_
      simp (maxSteps := 9999999) only [go_sem, hlt, boolsC_rep, bl_zero]
      iterate 3 ((try (refine drvZ Try.func91 ?_; simp (maxSteps := 9999999) only [go_sem, hlt, boolsC_rep, bl_zero, hbo, hcl, hbc])); (try ((with_reducible refine And.intro ?_ ?_) <;> (repeat' with_reducible apply And.intro) <;> try exact sd)))
      refine again (i + 1) (fun j => if j = 800 then some 4992 else some j) [4352] _ hlt (by omega) ?_
      rw [hsn]
      simp (maxSteps := 9999999) only [go_sem, TmOK, DM, DMs, CM, CMs, forall_eq, exists_eq_left, Mq, HpOK, LowOK]
      repeat' with_reducible apply And.intro
      all_goals first | exact CMs.kf (boolsC_kf _) | (simp; done) | exact CMs.app (CMs.kf (rowsC_kf _ _)) ⟨cm_bools (by simp) rfl, by simp [CMs]⟩ | skip
    · have hn : ¬ i < w := by omega
      obtain rfl : w = i := by omega
      rw [List.take_of_length_le (by rw [st0_len]; omega)]
      refine drvL Try.func91 ?_
      simp (maxSteps := 9999999) only [go_sem, hn]
      iterate 2 ((try (refine drvZ Try.func91 ?_; simp (maxSteps := 9999999) only [go_sem, hn])); (try ((with_reducible refine And.intro ?_ ?_) <;> (repeat' with_reducible apply And.intro) <;> try exact sd)))
      refine RetOb.ofQ (fun j => if j = 0 then some 448 else if j = 1 then some 576 else none) [800] (.agg (Pg.cells ⟨vs, ar, bd⟩ ++ [rowsD w (startD w).sets, .msl 0 1 0 w, .msl 1 1 0 w])) [some (boolsC (bl w 0)), some (boolsC (bl w 0))] ?_ (by rw [← hR]; exact ⟨rfl, rfl⟩) (by simp)
      simp only [enumL, DM, DMs, HpOK, LowOK, hOf, upd, hpL, Pg.cells, isI, I64, List.cons_append, List.nil_append, CMs]
      repeat' with_reducible apply And.intro
      all_goals first | exact cm_rows (by simp) rfl (st0_len w) | exact CM.kf rfl | exact CMs.kf (boolsC_kf _) | (simp [CM, upd]; done) | (simp; exact CMs.kf (boolsC_kf _)) | skip
  · simp (maxSteps := 9999999) only [go_sem, TmOK, DM, DMs, CM, CMs, forall_eq, exists_eq_left, Mq, HpOK, LowOK]
    simp
    repeat' with_reducible apply And.intro
    all_goals first | exact CMs.kf (boolsC_kf _) | (simp [rowsC, CMs]; done) | skip
theorem depP_eq (p : Pg) {w : Nat} (hw : p.vars.length + p.arrays.length = w) : foldD p.vars.length 5 0 p.body (startD w) = depP p := by rw [← hw]; rfl
theorem dependsOnS (p : Pg) {w : Nat} (hw : p.vars.length + p.arrays.length = w) (hw14 : w ≤ 14) (w0 : 0 < w) (hp : SmP p) (hok : progOK p = true) : DC Try.prog 53 [.agg p.cells] [] (fun r h => r = .c (rowsD w (depP p).sets) ∧ h = []) := by
  have hmx := mx_eq
  have hown := sownP p hp
  have hv := programValidS p (by omega) (by omega) (by have := hp.sz 5; omega)
  rw [hok] at hv
  have hst := startS p hw hw14 w0
  have hbk := blockD p hw hw14 w0 5 p.body (startD w) 0 (start_ok hw14) (Nat.two_pow_pos w) (body_of hok).1 (by have := (body_of hok).2; omega)
  rw [depP_eq p hw] at hbk
  have hce := cellsS p (by omega) (by omega)
  rw [hw] at hce
  generalize depP p = X at *
  obtain ⟨xs, xt, xr⟩ := X
  obtain ⟨vs, ar, bd⟩ := p
  generalize hR : (fun (r : D) (h : List (Option (List C))) => r = .c _ ∧ h = []) = R
  simp only at hbk
  refine dcZ Try.func53 ?_
  simp (maxSteps := 9999999) only [go_sem]
  iterate 6 ((try (refine drvZ Try.func53 ?_; simp (maxSteps := 9999999) only [go_sem])); (try ((with_reducible refine And.intro ?_ ?_) <;> (repeat' with_reducible apply And.intro) <;> try exact sd)); (try first | refine XK.p hown ok90 ?_ | refine XK.gp hown ok90 ?_ | refine XK.p hv ok62 ?_ | refine XK.gp hv ok62 ?_))
  refine XK.callG [] hst ok91 (fun i' x h => by simp at h) (hbT ()) (fun d h' ⟨_, e⟩ => by subst e; simp) ?_
  rintro _ _ ⟨rfl, rfl⟩ _
  iterate 4 ((try (refine drvZ Try.func53 ?_; simp (maxSteps := 9999999) only [go_sem, boolsC_ren, rowsD, boolsC_rep, bl_zero])); (try ((with_reducible refine And.intro ?_ ?_) <;> (repeat' with_reducible apply And.intro) <;> try exact sd)); (try first | refine XK.p hce ok93 ?_ | refine XK.gp hce ok93 ?_))
  refine XK.callG [576, 577, 1088] hbk ok92 (hhpG (by simp [HH, upd, hOf, boolsC_ren, startD])) (hbT ()) (fun d h' ⟨_, e⟩ => by subst e; simp) ?_ (fun _ => ⟨by kernel_rfl, _, _, ⟨rfl, rfl⟩, by simp⟩)
  rintro _ _ ⟨rfl, rfl⟩ _
  iterate 3 ((try (refine drvZ Try.func53 ?_; simp (maxSteps := 9999999) only [go_sem, boolsC_ren, rowsD])); (try ((with_reducible refine And.intro ?_ ?_) <;> (repeat' with_reducible apply And.intro) <;> try exact sd)))
  exact RetOb.plain (d := .c (rowsD w xs)) (by rw [← hR]; exact ⟨rfl, rfl⟩) rfl
theorem dependsOnS0 (p : Pg) (hp : SmP p) (hok : progOK p = false) : DC Try.prog 53 [.agg p.cells] [] (fun r h => r = .c (.isl 1 []) ∧ h = []) := by
  have hmx := mx_eq
  have hown := sownP p hp
  have hnv := hp.nv
  have hna := hp.na
  have hv := programValidS p (by omega) (by omega) (by have := hp.sz 5; omega)
  rw [hok] at hv
  obtain ⟨vs, ar, bd⟩ := p
  generalize hR : (fun (r : D) (h : List (Option (List C))) => r = .c (.isl 1 []) ∧ h = []) = R
  refine dcZ Try.func53 ?_
  simp (maxSteps := 9999999) only [go_sem]
  iterate 6 ((try (refine drvZ Try.func53 ?_; simp (maxSteps := 9999999) only [go_sem])); (try ((with_reducible refine And.intro ?_ ?_) <;> (repeat' with_reducible apply And.intro) <;> try exact sd)); (try first | refine XK.p hown ok90 ?_ | refine XK.gp hown ok90 ?_ | refine XK.p hv ok62 ?_ | refine XK.gp hv ok62 ?_))
  refine RetOb.frozen (R := R) (sz := 1) (xs := []) (by rw [← hR]; exact ⟨rfl, rfl⟩) ?_ rfl (by simp) (by simp)
  simp [upd]
end Go.Proofs.Ytjjjidcbokbhpaa.CtD

namespace Go.Proofs.Ytjjjidcbokbhpaa.CtD
open Go Go.CT CtF CtR

theorem ctBoolsR (bs : List Bool) (hl : bs.length ≤ mx) : DC Try.prog 20 [.c (boolsD bs), .c (boolsD bs)] [] (fun r h => r = DB true ∧ h = []) := by
  have hmx := mx_eq
  have ret : ∀ (hp : Hp), RetOb 0 (fun r h => r = DB true ∧ h = []) (DB true) hp := fun hp => RetOb.plain (d := DB _) ⟨rfl, rfl⟩ rfl
  generalize (fun (r : D) (h : List (Option (List C))) => r = DB true ∧ h = []) = R at *
  have hb : ((bs.length : Int) != bs.length) = false := by simp
  refine dcZ Try.func20 ?_
  simp (maxSteps := 9999999) only [go_sem, boolsD, hb]
  iterate 2 ((try (refine drvZ Try.func20 ?_; simp (maxSteps := 9999999) only [go_sem, boolsD, hb])); (try ((with_reducible refine And.intro ?_ ?_) <;> (repeat' with_reducible apply And.intro) <;> try exact sd)))
  refine Go.loopQ (fun i : Nat => [(0, .c (boolsD bs)), (1, .c (boolsD bs)), (5, DI .i64 i)]) (fun _ => []) 1024 (fun i => i ≤ bs.length) (fun i => bs.length - i) ?_ 0 some [] _ (Nat.zero_le _) ?_
  · intro i hi again
    rcases Nat.lt_or_ge i bs.length with hlt | hge
    · obtain ⟨x, hx⟩ : ∃ x, bs[i]? = some x := ⟨bs[i], by simp [hlt]⟩
      have hne : (x != x) = false := by simp
      refine drvL Try.func20 ?_
      simp (maxSteps := 9999999) only [go_sem, boolsD, hx, hlt, hne, bne_self_eq_false]
      iterate 3 ((try (refine drvZ Try.func20 ?_; simp (maxSteps := 9999999) only [go_sem, boolsD, hx, hlt, hne, bne_self_eq_false])); (try ((with_reducible refine And.intro ?_ ?_) <;> (repeat' with_reducible apply And.intro) <;> try exact sd)))
      refine again (i + 1) some [] _ hlt (by omega) ?_
      simp (maxSteps := 9999999) only [go_sem, TmOK, DM, DMs, CM, CMs, forall_eq, exists_eq_left, Mq, HpOK, LowOK, boolsD]
      try simp
    · have hn : ¬ i < bs.length := by omega
      refine drvL Try.func20 ?_
      simp (maxSteps := 9999999) only [go_sem, boolsD, hn]
      iterate 3 ((try (refine drvZ Try.func20 ?_; simp (maxSteps := 9999999) only [go_sem, boolsD, hn])); (try ((with_reducible refine And.intro ?_ ?_) <;> (repeat' with_reducible apply And.intro) <;> try exact sd)))
      exact ret _
  · simp (maxSteps := 9999999) only [go_sem, TmOK, DM, DMs, CM, CMs, forall_eq, exists_eq_left, Mq, HpOK, LowOK, boolsD]
    try simp
end Go.Proofs.Ytjjjidcbokbhpaa.CtD

namespace Go.Proofs.Ytjjjidcbokbhpaa.CtR
open Go Go.CT CtF

/-! A checked program's dependencies keep to its labels. -/
/-- A cell's label has a bit. -/
def hiC (β : Nat) (vs ar : List Int) (i : Nat) : Bool := if i < vs.length then (nth vs (i : Nat)).toNat.testBit β else (nth ar ((i - vs.length : Nat) : Int)).toNat.testBit β
/-- A set has no cell whose label has the bit. -/
def LoN (β : Nat) (vs ar : List Int) (a : Nat) : Prop := ∀ k, hiC β vs ar k = true → a.testBit k = false
theorem LoN.or {β : Nat} {vs ar : List Int} {a b : Nat} (h : LoN β vs ar a) (h' : LoN β vs ar b) : LoN β vs ar (a ||| b) := fun k hk => by
  rw [Nat.testBit_or, h k hk, h' k hk]; rfl
theorem LoN.orL {β : Nat} {vs ar : List Int} {l : List Nat} (h : ∀ x ∈ l, LoN β vs ar x) : LoN β vs ar (CtR.orL l) := fun k hk => by
  unfold CtR.orL; rw [or_bit]; exact ⟨by simp, fun x hx => h x hx k hk⟩
theorem LoN.zero {β : Nat} {vs ar : List Int} : LoN β vs ar 0 := fun k _ => by simp
def Sec (β : Nat) (vs ar : List Int) (s : List Nat) : Prop := ∀ i, hiC β vs ar i = false → LoN β vs ar (dat s i)
theorem Sec.set {β : Nat} {vs ar : List Int} {s : List Nat} (h : Sec β vs ar s) {i x : Nat} (hx : hiC β vs ar i = false → LoN β vs ar x) : Sec β vs ar (s.set i x) := fun j hj => by
  rw [dat_set]
  by_cases e : i = j ∧ i < s.length
  · rw [if_pos e]; obtain ⟨rfl, _⟩ := e; exact hx hj
  · rw [if_neg e]; exact h j hj
theorem Sec.unite {β : Nat} {vs ar : List Int} {s t : List Nat} (h : Sec β vs ar s) (h' : Sec β vs ar t) (hl : t.length = s.length) : Sec β vs ar (CtR.unite s t) := fun i hi => by
  rw [dat_unite hl]; exact (h i hi).or (h' i hi)
theorem hiC_var {β : Nat} {vs ar : List Int} {v : Int} (h0 : 0 ≤ v) (h1 : v < vs.length) : hiC β vs ar v.toNat = (nth vs v).toNat.testBit β := by
  unfold hiC; rw [if_pos (by omega), Int.toNat_of_nonneg h0]
theorem hiC_arr {β : Nat} {vs ar : List Int} {v : Int} (h0 : 0 ≤ v) : hiC β vs ar (vs.length + v.toNat) = (nth ar v).toNat.testBit β := by
  unfold hiC; rw [if_neg (by omega), Nat.add_sub_cancel_left, Int.toNat_of_nonneg h0]
theorem setE_sec {β : Nat} {p : Pg} {s : List Nat} (hS : Sec β p.vars p.arrays s) : ∀ (d : Nat) (e : Ex), shape p d e = true → (labN p.vars p.arrays d e).testBit β = false → LoN β p.vars p.arrays (setE p.vars.length s d e).1
  | 0, _, _, _ => LoN.zero
  | d + 1, .mk k v ks, hs, hb => by
    obtain ⟨g1, g2, g3⟩ := shape_succ hs
    obtain ⟨_, _, hv0, hv1⟩ := fits_len g1
    simp only [labN, or_bit, List.mem_map] at hb
    have ho : LoN β p.vars p.arrays (orL (ks.map fun e => (setE p.vars.length s d e).1)) := LoN.orL fun x hx => by
      obtain ⟨e, he, rfl⟩ := List.mem_map.1 hx
      exact setE_sec hS d e (g2 e he) (hb.2 _ ⟨e, he, rfl⟩)
    simp only [setE]
    split
    · rename_i k2
      subst k2
      refine ho.or (hS _ ?_)
      rw [hiC_var hv0 (by simpa [limit] using hv1)]
      have := hb.1
      simpa [labB] using this
    · split
      · rename_i k3
        subst k3
        refine ho.or (hS _ ?_)
        rw [hiC_arr hv0]
        have := hb.1
        simpa [labB] using this
      · exact ho
theorem setE_tr {p : Pg} {s : List Nat} (hS : Sec 0 p.vars p.arrays s) : ∀ (d : Nat) (e : Ex), shape p d e = true → secE p.vars p.arrays d e = false → LoN 0 p.vars p.arrays (setE p.vars.length s d e).2
  | 0, _, _, _ => LoN.zero
  | d + 1, .mk k v ks, hs, hb => by
    obtain ⟨g1, g2, g3⟩ := shape_succ hs
    obtain ⟨_, hla, hv0, hv1⟩ := fits_len g1
    simp only [secE, Bool.or_eq_false_iff, List.any_eq_false, Bool.not_eq_true] at hb
    have ha : LoN 0 p.vars p.arrays (orL (ks.map fun e => (setE p.vars.length s d e).2)) := LoN.orL fun x hx => by
      obtain ⟨e, he, rfl⟩ := List.mem_map.1 hx
      exact setE_tr hS d e (g2 e he) (hb.2 e he)
    simp only [setE]
    split
    · exact ha
    · split
      · rename_i k3
        subst k3
        refine ha.or ?_
        have h1 : ks.length = 1 := by simp [arity] at hla; omega
        match ks, h1 with
        | [a], _ =>
          have := hb.1
          simp only [beq_self_eq_true, Bool.true_and, kid0, secL] at this
          refine LoN.orL fun x hx => ?_
          simp only [List.map_cons, List.map_nil, List.mem_singleton] at hx
          subst hx
          exact setE_sec hS d a (g2 a (by simp)) this
      · exact ha
theorem atom_tr {p : Pg} {nv : Nat} {s : List Nat} {ix : Ex} (ha : atom ix = true) (hs : shape p 5 ix = true) : (setE nv s 5 ix).2 = 0 := by
  obtain ⟨k, v, ks⟩ := ix
  obtain ⟨g1, g2, g3⟩ := shape_succ hs
  obtain ⟨_, hla, _, _⟩ := fits_len g1
  have hk : k = 1 ∨ k = 2 := by simpa [atom, Ex.kind] using ha
  have hn : ks = [] := List.eq_nil_of_length_eq_zero (by rcases hk with rfl | rfl <;> simpa [arity] using hla)
  subst hn
  rcases hk with rfl | rfl <;> simp [setE, orL]
theorem start_sec {β : Nat} (vs ar : List Int) (w : Nat) : Sec β vs ar (startD w).sets := fun i hi k hk => by
  have e : dat (startD w).sets i = if i < w then 2 ^ i else 0 := by
    unfold dat startD
    rw [List.getD_eq_getElem?_getD]
    by_cases h : i < w
    · simp [h]
    · rw [if_neg h, List.getElem?_eq_none (by simpa using h)]; rfl
  rw [e]
  split
  · rw [Nat.testBit_two_pow]
    simp only [decide_eq_false_iff_not]
    rintro rfl
    rw [hi] at hk; cases hk
  · simp
theorem stored_low {β : Nat} {vs ar : List Int} {s : St1} {c : Nat} (h : (storedN vs ar s c).testBit β = false) : (labN vs ar 5 s.value).testBit β = false ∧ c.testBit β = false ∧ (s.kind = 2 → (labN vs ar 5 s.index).testBit β = false) := by
  unfold storedN at h
  split at h
  · simp only [Nat.testBit_or, Bool.or_eq_false_iff] at h
    exact ⟨h.1.1, h.1.2, fun _ => h.2⟩
  · simp only [Nat.testBit_or, Bool.or_eq_false_iff] at h
    rename_i hk
    exact ⟨h.1, h.2, fun e => absurd e hk⟩

/-- The sets, and, where b says so, the trace. -/
def SecD (b : Bool) (β : Nat) (vs ar : List Int) (s : Dp) : Prop := Sec β vs ar s.sets ∧ (b = true → LoN β vs ar s.tr)
theorem dep_sec {w β : Nat} {p : Pg} (hw : p.vars.length + p.arrays.length = w) (q : Bool) (hq : q = true → β = 0) : ∀ (d c cs : Nat) (l : List St1), (∀ s ∈ l, stmtOK p d s = true) → fineL (flowR p.vars p.arrays) p.vars p.arrays d c l = true →
    (q = true → fineL (leakR p.vars p.arrays) p.vars p.arrays d c l = true) → freeL d l = true → cs < 2 ^ w → (c.testBit β = false → LoN β p.vars p.arrays cs) → ∀ s, Okd w s → SecD q β p.vars p.arrays s → SecD q β p.vars p.arrays (l.foldl (depS p.vars.length d cs) s)
  | 0, c, cs, l, _, _, _, _, _, _, s, _, h => by
    refine fold_inv (Q := SecD q β p.vars p.arrays) l s h fun x _ s hs => ?_
    exact hs
  | d + 1, c, cs, l, hok, hf, hlk, hfr, hcs, hcl, s, hO, h => by
    have key : ∀ (x : St1), x ∈ l → ∀ s, (Okd w s ∧ SecD q β p.vars p.arrays s) → (Okd w (depS p.vars.length (d + 1) cs s x) ∧ SecD q β p.vars p.arrays (depS p.vars.length (d + 1) cs s x)) := by
      intro x hx s ⟨hO, h1, h2⟩
      refine ⟨dep_ok (d + 1) cs s x hcs hO, ?_⟩
      obtain ⟨k, t, ix, v, cc, b, e⟩ := x
      have hso := hok _ hx
      have hbe := stmtOK_succ hso
      have hhk := head_kind hbe.1
      obtain ⟨s1, s2⟩ := shapeV hso
      simp only [fineL, List.all_eq_true, Bool.and_eq_true, beq_iff_eq] at hf
      obtain ⟨⟨f1, f2⟩, f3⟩ := hf _ hx
      have hlk' : q = true → leakR p.vars p.arrays (.mk k t ix v cc b e) c = 0 ∧ fineL (leakR p.vars p.arrays) p.vars p.arrays d (ctxI p.vars p.arrays (.mk k t ix v cc b e) c) b = true ∧ fineL (leakR p.vars p.arrays) p.vars p.arrays d (ctxI p.vars p.arrays (.mk k t ix v cc b e) c) e = true := fun hq => by
        have := hlk hq
        simp only [fineL, List.all_eq_true, Bool.and_eq_true, beq_iff_eq] at this
        obtain ⟨⟨g1, g2⟩, g3⟩ := this _ hx
        exact ⟨g1, g2, g3⟩
      simp only [freeL, List.all_eq_true, Bool.and_eq_true] at hfr
      obtain ⟨⟨r1, r2⟩, r3⟩ := hfr _ hx
      have hne5 : k ≠ 5 := by simpa [St1.kind] using r1
      simp only [St1.body, St1.els] at f2 f3 r2 r3
      have hV := setE_lt (nv := p.vars.length) hO.row 5 v
      have hI := setE_lt (nv := p.vars.length) hO.row 5 ix
      have hvt : k ≠ 4 → q = true → LoN β p.vars p.arrays (setE p.vars.length s.sets 5 v).2 := fun k4 hq' => by
        have hb := hq hq'
        subst hb
        exact setE_tr h1 5 v (s1 k4) (leak_spec (hlk' hq').1).2.2
      have hkey : k = 4 ∨ k = 1 ∨ k = 2 ∨ k = 3 := by omega
      rcases hkey with hk | hk | hk | hk <;> subst hk
      · have hctx : ctxI p.vars p.arrays (.mk 4 t ix v cc b e) c = c := by simp [ctxI, St1.kind]
        rw [hctx] at f2 hlk'
        rw [depS_4]
        have ih := fun s hO h => dep_sec hw q hq d c cs b hbe.2.1 f2 (fun hq => (hlk' hq).2.1) r2 hcs hcl s hO h
        obtain ⟨y, hy, hQ, e1, _⟩ := fix_spec (f := fun s => b.foldl (depS p.vars.length d cs) s) (fun s hs => foldl_ok hcs b hs) (SecD q β p.vars p.arrays)
          (fun y hy hQ => ⟨hQ.1.unite (ih y hy hQ).1 (by rw [(foldl_ok hcs b hy).len, hy.len]), (ih y hy hQ).2⟩) FU s hO ⟨h1, h2⟩ (fu_big hO.le _)
        rw [e1]
        exact ⟨hQ.1, (ih y hy hQ).2⟩
      · rw [depS_1]
        have hfl := flow_assign f1 rfl
        have ht := hhk
        refine ⟨h1.set fun hlo => ?_, fun hq' => (h2 hq').or (hvt (by decide) hq')⟩
        rw [hiC_var (by omega) (by omega)] at hlo
        obtain ⟨l1, l2, _⟩ := stored_low (subL_low hfl hlo)
        exact (setE_sec h1 5 v (s1 (by decide)) l1).or (hcl l2)
      · rw [depS_2]
        have hfl := flow_store f1 rfl
        refine ⟨h1.set fun hlo => ?_, fun hq' => (((h2 hq').or (hvt (by decide) hq')).or ?_).or ?_⟩
        · have hlo2 := hlo
          rw [hiC_arr (by omega)] at hlo
          obtain ⟨l1, l2, l3⟩ := stored_low (subL_low hfl hlo)
          exact (h1 _ hlo2).or (((setE_sec h1 5 v (s1 (by decide)) l1).or (setE_sec h1 5 ix (s2 rfl) (l3 rfl))).or (hcl l2))
        · have hb := hq hq'
          subst hb
          have hat : atom ix = true := by grind
          rw [atom_tr hat (s2 rfl)]
          exact LoN.zero
        · have hb := hq hq'
          subst hb
          exact setE_sec h1 5 ix (s2 rfl) ((leak_spec (hlk' hq').1).2.1 rfl)
      · rw [depS_3]
        have hctx : ctxI p.vars p.arrays (.mk 3 t ix v cc b e) c = c ||| labN p.vars p.arrays 5 v := by simp [ctxI, St1.kind, St1.value]
        rw [hctx] at f2 f3 hlk'
        have hcs2 := Nat.or_lt_two_pow hcs hV.1
        have hcl2 : (c ||| labN p.vars p.arrays 5 v).testBit β = false → LoN β p.vars p.arrays (cs ||| (setE p.vars.length s.sets 5 v).1) := fun hb => by
          simp only [Nat.testBit_or, Bool.or_eq_false_iff] at hb
          exact (hcl hb.1).or (setE_sec h1 5 v (s1 (by decide)) hb.2)
        have o1 : Okd w ⟨s.sets, s.tr ||| (setE p.vars.length s.sets 5 v).2 ||| (setE p.vars.length s.sets 5 v).1, s.re⟩ := ⟨hO.len, hO.le, hO.row, Nat.or_lt_two_pow (Nat.or_lt_two_pow hO.tr hV.2) hV.1, hO.re⟩
        have hY : SecD q β p.vars p.arrays (ifY p.vars.length d cs s v b) := dep_sec hw q hq d _ _ b hbe.2.1 f2 (fun hq => (hlk' hq).2.1) r2 hcs2 hcl2 _ o1 ⟨h1, fun hq' => ((h2 hq').or (hvt (by decide) hq')).or (by
          have hb := hq hq'
          subst hb
          exact setE_sec h1 5 v (s1 (by decide)) ((leak_spec (hlk' hq').1).1 rfl))⟩
        have oY : Okd w (ifY p.vars.length d cs s v b) := foldl_ok hcs2 b o1
        have o2 : Okd w ⟨s.sets, (ifY p.vars.length d cs s v b).tr, (ifY p.vars.length d cs s v b).re⟩ := ⟨hO.len, hO.le, hO.row, oY.tr, oY.re⟩
        have hN : SecD q β p.vars p.arrays (ifN p.vars.length d cs s v b e) := dep_sec hw q hq d _ _ e hbe.2.2 f3 (fun hq => (hlk' hq).2.2) r3 hcs2 hcl2 _ o2 ⟨h1, hY.2⟩
        have oN : Okd w (ifN p.vars.length d cs s v b e) := foldl_ok hcs2 e o2
        exact ⟨hY.1.unite hN.1 (by rw [oY.len, oN.len]), hN.2⟩
    exact (fold_inv (Q := fun s => Okd w s ∧ SecD q β p.vars p.arrays s) l s ⟨hO, h⟩ key).2
end Go.Proofs.Ytjjjidcbokbhpaa.CtR

namespace Go.Proofs.Ytjjjidcbokbhpaa.CtD
open Go Go.CT CtF CtR

/-- A drawn program, perhaps invalid. -/
def smR (r : D) (h : List (Option (List C))) : Prop := ∃ p : Pg, r = .agg p.cells ∧ SmP p ∧ h = []
end Go.Proofs.Ytjjjidcbokbhpaa.CtD

namespace Go.Proofs.Ytjjjidcbokbhpaa.CtD
open Go Go.CT CtF CtR

theorem drawCheckFlow (bs : List Int) (hb : Fits .u8 bs) (hl : bs.length ≤ mx) : DC Try.prog 18 [bytesD bs] [] smR := by
  have hmx := mx_eq
  have hop := l17Open bs hl
  have hb' := fits_take hb 2000
  have hl' : (bs.take 2000).length ≤ 2000 := by rw [List.length_take]; omega
  generalize hR : smR = R
  generalize hbs : bs.take 2000 = b2 at *
  unfold bytesD
  unfold bytesD at hop
  refine dcZ Try.func18 ?_
  simp (maxSteps := 9999999) only [go_sem]
  ((try (refine drvZ Try.func18 ?_; simp (maxSteps := 9999999) only [go_sem])); (try ((with_reducible refine And.intro ?_ ?_) <;> (repeat' with_reducible apply And.intro) <;> try exact sd)))
  refine XK.callG [] hop ok25 (fun i' x h => by simp at h) (hbT ()) (fun d h' ⟨_, e⟩ => by subst e; simp) ?_
  rintro _ _ ⟨rfl, rfl⟩ _
  iterate 2 ((try (refine drvZ Try.func18 ?_; simp (maxSteps := 9999999) only [go_sem, renCs_rdr])); (try ((with_reducible refine And.intro ?_ ?_) <;> (repeat' with_reducible apply And.intro) <;> try exact sd)))
  have hpr := typed b2 0 hb' hl' (by omega)
  refine XK.callG [128] hpr ok48 (hhp_one (by simp [upd, renCs_rdr])) (hbT ()) (fun d h' ⟨_, _, _, _, _, _, e⟩ => by subst e; simp) ?_
  rintro _ _ ⟨p, rfl, hp, n1, hn1, hn2, rfl⟩ _
  have hmu := l2Mutate b2 n1 p hb' hl' (by omega) hp
  obtain ⟨vs, ar, bd⟩ := p
  ((try (refine drvZ Try.func18 ?_; simp (maxSteps := 9999999) only [go_sem, renCs_rdr])); (try ((with_reducible refine And.intro ?_ ?_) <;> (repeat' with_reducible apply And.intro) <;> try exact sd)))
  refine XK.callG [128] hmu ok47 (hhp_one (by simp [upd, renCs_rdr])) (hbT ()) (fun d h' ⟨_, _, _, _, _, _, e⟩ => by subst e; simp) ?_
  rintro _ _ ⟨p, rfl, hp2, n2, hn3, hn4, rfl⟩ _
  obtain ⟨vs, ar, bd⟩ := p
  iterate 2 ((try (refine drvZ Try.func18 ?_; simp (maxSteps := 9999999) only [go_sem, renCs_rdr])); (try ((with_reducible refine And.intro ?_ ?_) <;> (repeat' with_reducible apply And.intro) <;> try exact sd)))
  exact RetOb.plain (d := .agg (Pg.cells ⟨vs, ar, bd⟩)) (by rw [← hR]; exact ⟨⟨vs, ar, bd⟩, rfl, hp2, rfl⟩) (by simp [kD, Pg.cells, isI, kf])
end Go.Proofs.Ytjjjidcbokbhpaa.CtD

namespace Go.Proofs.Ytjjjidcbokbhpaa.CtL
open Go Go.CT CtF CtR
open CtD (rel rel_app)

/-! Plain: linearization. -/
def e0 : Ex := .mk 0 0 []
def cE (n : Int) : Ex := .mk 1 n []
def vE (v : Int) : Ex := .mk 2 v []
def rdE (a : Int) (i : Ex) : Ex := .mk 3 a [i]
def bE (k : Int) (a b : Ex) : Ex := .mk k 0 [a, b]
/-! Shapes. -/
theorem shape_of {p : Pg} {d : Nat} {k v : Int} {ks : List Ex} (h1 : fitsE p k v ks.length = true) (h2 : ∀ x ∈ ks, CtR.shape p d x = true) (h3 : k = 3 → headAtom ks = true) : CtR.shape p (d + 1) (.mk k v ks) = true := by
  simp only [CtR.shape, Bool.and_eq_true, List.all_eq_true, Bool.or_eq_true]
  refine ⟨⟨h1, h2⟩, ?_⟩
  by_cases hk : k = 3
  · exact .inr (h3 hk)
  · exact .inl (by simpa using hk)
theorem limit_le {p q : Pg} (h1 : p.vars.length ≤ q.vars.length) (h2 : p.arrays.length = q.arrays.length) (k : Int) : limit p k ≤ limit q k := by
  unfold limit; repeat' split
  all_goals omega
theorem shape_mono {p q : Pg} (h1 : p.vars.length ≤ q.vars.length) (h2 : p.arrays.length = q.arrays.length) : ∀ (d : Nat) (e : Ex), CtR.shape p d e = true → CtR.shape q d e = true
  | 0, _, h => by simp [CtR.shape] at h
  | d + 1, .mk k v ks, h => by
    obtain ⟨g1, g2, g3⟩ := shape_succ h
    have hl := limit_le h1 h2 k
    obtain ⟨a, b, c, e⟩ := fits_len g1
    exact shape_of (fitsE_true b c (by omega)) (fun x hx => shape_mono h1 h2 d x (g2 x hx)) g3
theorem shape_up {p : Pg} : ∀ (d : Nat) (e : Ex), CtR.shape p d e = true → CtR.shape p (d + 1) e = true
  | 0, _, h => by simp [CtR.shape] at h
  | d + 1, .mk k v ks, h => by
    obtain ⟨g1, g2, g3⟩ := shape_succ h
    exact shape_of g1 (fun x hx => shape_up d x (g2 x hx)) g3
theorem nth_app {a b : List Int} {v : Int} (h0 : 0 ≤ v) (h : v < a.length) : nth (a ++ b) v = nth a v := by
  unfold nth
  rw [List.getD_eq_getElem?_getD, List.getD_eq_getElem?_getD, List.getElem?_append_left (by omega)]
/-! Memories that agree on the first variables. -/
structure Agr (n : Nat) (m m' : Mm) : Prop where
  ar : m.arrays = m'.arrays
  va : ∀ i, i < n → m.vals[i]? = m'.vals[i]?
theorem Agr.refl (n : Nat) (m : Mm) : Agr n m m := ⟨rfl, fun _ _ => rfl⟩
theorem Agr.symm {n : Nat} {m m' : Mm} (h : Agr n m m') : Agr n m' m := ⟨h.ar.symm, fun i hi => (h.va i hi).symm⟩
theorem Agr.trans {n : Nat} {a b c : Mm} (h : Agr n a b) (g : Agr n b c) : Agr n a c := ⟨h.ar.trans g.ar, fun i hi => (h.va i hi).trans (g.va i hi)⟩
theorem Agr.le {n k : Nat} {m m' : Mm} (h : Agr n m m') (hk : k ≤ n) : Agr k m m' := ⟨h.ar, fun i hi => h.va i (by omega)⟩
theorem Agr.nth {n : Nat} {m m' : Mm} (h : Agr n m m') {v : Int} (h0 : 0 ≤ v) (hv : v < n) : CtR.nth m.vals v = CtR.nth m'.vals v := by
  unfold CtR.nth
  rw [List.getD_eq_getElem?_getD, List.getD_eq_getElem?_getD, h.va _ (by omega)]
/-! What the printed expressions are worth. -/
/-! Expressions. -/
end Go.Proofs.Ytjjjidcbokbhpaa.CtL

namespace Go.Proofs.Ytjjjidcbokbhpaa.CtL
open Go Go.CT CtF CtR
open CtD (rel rel_app)

/-! Plain: folding of expressions. -/
end Go.Proofs.Ytjjjidcbokbhpaa.CtL

namespace Go.Proofs.Ytjjjidcbokbhpaa.CtL
open Go Go.CT CtF CtR
open CtD (rel rel_app)

/-! Plain: folding of statements. -/
/-! Runs. -/
def prj (l : List Ev) : List Ev := l.filter fun e => decide (2 ≤ e.kind) && decide (e.kind ≤ 4)
def Eqp (x y : Mm × List Ev) : Prop := x.1 = y.1 ∧ prj x.2 = prj y.2
theorem Eqp.rfl (x : Mm × List Ev) : Eqp x x := ⟨Eq.refl _, Eq.refl _⟩
end Go.Proofs.Ytjjjidcbokbhpaa.CtL

namespace Go.Proofs.Ytjjjidcbokbhpaa.CtL
open Go Go.CT CtF CtR
open CtD (rel rel_app)

/-! Plain: a linearized program does what the program does. -/
structure Sim (n nf : Nat) (x : Mm × List Ev) (m' : Mm) (y : Mm × List Ev) : Prop where
  ag : Agr n x.1 y.1
  fr : ∀ i, n ≤ i → i < nf → y.1.vals[i]? = m'.vals[i]?
  re : rel x.2 = rel y.2
theorem Sim.seq {n nf nf2 : Nat} {x x2 : Mm × List Ev} {m' : Mm} {y y2 : Mm × List Ev} (h : Sim n nf x m' y) (h2 : Sim n nf2 x2 y.1 y2) (hl : nf ≤ nf2) : Sim n nf (x2.1, x.2 ++ x2.2) m' (y2.1, y.2 ++ y2.2) :=
  ⟨h2.ag, fun i a b => (h2.fr i a (by omega)).trans (h.fr i a b), by simp only [rel_app, h.re, h2.re]⟩
theorem Sim.pre {n nf nf2 : Nat} {x : Mm × List Ev} {m' m1 : Mm} {y : Mm × List Ev} {ev : List Ev} (h : Agr nf m' m1) (hr : rel ev = []) (h2 : Sim n nf2 x m1 y) (hl : nf ≤ nf2) : Sim n nf x m' (y.1, ev ++ y.2) :=
  ⟨h2.ag, fun i a b => (h2.fr i a (by omega)).trans (h.va i b).symm, by simp only [rel_app, hr, h2.re, List.nil_append]⟩
theorem Sim.refl {n nf : Nat} {m m' : Mm} (h : Agr n m m') : Sim n nf (m, []) m' (m', []) := ⟨h, fun _ _ _ => rfl, rfl⟩
def OKM (p : Pg) (mk : Int) (vs : List Int) (pc : Nat) : Prop := mk < 0 ∨ p.vars.length ≤ mk ∧ mk < vs.length ∧ pc ≠ 0
theorem OKM.more {p : Pg} {mk : Int} {vs ws : List Int} {pc : Nat} (h : OKM p mk vs pc) (hl : vs.length ≤ ws.length) : OKM p mk ws pc := by
  rcases h with h | ⟨h1, h2, h3⟩
  · exact .inl h
  · exact .inr ⟨h1, by omega, h3⟩
def Ext (p : Pg) (vs : List Int) : Prop := ∃ w, vs = p.vars ++ w
theorem Ext.more {p : Pg} {vs ws : List Int} (h : Ext p vs) (h2 : ∃ w, ws = vs ++ w) : Ext p ws := by
  obtain ⟨a, rfl⟩ := h
  obtain ⟨b, rfl⟩ := h2
  exact ⟨a ++ b, by simp⟩
theorem Ext.le {p : Pg} {vs : List Int} (h : Ext p vs) : p.vars.length ≤ vs.length := by
  obtain ⟨a, rfl⟩ := h
  simp
theorem more_le {vs ws : List Int} (h : ∃ w, ws = vs ++ w) : vs.length ≤ ws.length := by
  obtain ⟨a, rfl⟩ := h
  simp
/-! Writing. -/
end Go.Proofs.Ytjjjidcbokbhpaa.CtL

namespace Go.Proofs.Ytjjjidcbokbhpaa.CtL
open Go Go.CT CtF CtR
open CtD (rel rel_app)

end Go.Proofs.Ytjjjidcbokbhpaa.CtL

namespace Go.Proofs.Ytjjjidcbokbhpaa.CtL
open Go Go.CT CtF CtR
open CtD (rel rel_app)

/-! Plain: a linearized program is constant-time. -/
def Sub (a b : Nat) : Prop := ∀ β, a.testBit β = true → b.testBit β = true
theorem Sub.refl (a : Nat) : Sub a a := fun _ h => h
theorem Sub.trans {a b c : Nat} (h : Sub a b) (g : Sub b c) : Sub a c := fun β x => g β (h β x)
theorem Sub.zero (a : Nat) : Sub 0 a := fun β h => by simp at h
theorem Sub.or {a b c : Nat} : Sub (a ||| b) c ↔ Sub a c ∧ Sub b c := by
  constructor
  · exact fun h => ⟨fun β x => h β (by simp [x]), fun β x => h β (by simp [x])⟩
  · rintro ⟨h1, h2⟩ β x
    rw [Nat.testBit_or, Bool.or_eq_true] at x
    exact x.elim (h1 β) (h2 β)
theorem Sub.left (a b : Nat) : Sub a (a ||| b) := fun β h => by simp [h]
theorem Sub.right (a b : Nat) : Sub b (a ||| b) := fun β h => by simp [h]
theorem Sub.l {a b c : Nat} (h : Sub a b) : Sub a (b ||| c) := h.trans (Sub.left _ _)
theorem Sub.r {a b c : Nat} (h : Sub a c) : Sub a (b ||| c) := h.trans (Sub.right _ _)
/-! No read at a secret index. -/
/-- A statement without statements that is fine in a context of a label. -/
def Fn1 (F ar : List Int) (pc : Nat) (s : St1) : Prop := s.body = [] ∧ s.els = [] ∧ s.kind ≠ 3 ∧ ∀ c, Sub c pc → flowR F ar s c = 0 ∧ leakR F ar s c = 0
/-! What is not secret stays. -/
end Go.Proofs.Ytjjjidcbokbhpaa.CtL

namespace Go.Proofs.Ytjjjidcbokbhpaa.CtL
open Go Go.CT CtF CtR
open CtD (rel rel_app)

/-- All statements of a block are fine, in every context that is no more than c. -/
def FnL (F ar : List Int) (c : Nat) (l : List St1) : Prop := ∀ D c', Sub c' c → fineL (flowR F ar) F ar D c' l = true ∧ fineL (leakR F ar) F ar D c' l = true
theorem FnL.app {F ar : List Int} {c : Nat} {a b : List St1} (h : FnL F ar c a) (g : FnL F ar c b) : FnL F ar c (a ++ b) := fun D c' hc => by
  have h := h D c' hc
  have g := g D c' hc
  cases D with
  | zero => exact ⟨rfl, rfl⟩
  | succ D =>
    simp only [fineL, List.all_append, Bool.and_eq_true] at h g ⊢
    exact ⟨⟨h.1, g.1⟩, h.2, g.2⟩
theorem FnL.nil {F ar : List Int} {c : Nat} : FnL F ar c [] := fun D c' hc => by cases D <;> exact ⟨rfl, rfl⟩
theorem FnL.of {F ar : List Int} {c : Nat} : ∀ {l : List St1}, (∀ s ∈ l, Fn1 F ar c s) → FnL F ar c l
  | [], _ => FnL.nil
  | s :: r, h => FnL.app (a := [s]) (fun D c' hc => by
      obtain ⟨h1, h2, h3, h4⟩ := h s (by simp)
      cases D with
      | zero => exact ⟨rfl, rfl⟩
      | succ D =>
        have n1 : ∀ res c, fineL res F ar D c [] = true := fun res c => by cases D <;> rfl
        simp [fineL, h1, h2, h4 c' hc, n1]) (FnL.of fun s hs => h s (by simp [hs]))
theorem FnL.le {F ar : List Int} {a b : Nat} {l : List St1} (h : FnL F ar b l) (hs : Sub a b) : FnL F ar a l := fun D c hc => h D c (hc.trans hs)
def MkL (p : Pg) (mk : Int) (vs : List Int) (pc : Nat) : Prop := mk < 0 ∨ p.vars.length ≤ mk ∧ mk < vs.length ∧ Sub (nth vs mk).toNat pc
theorem nth_more {vs ws : List Int} (h : ∃ w, ws = vs ++ w) {v : Int} (h0 : 0 ≤ v) (hv : v < vs.length) : nth ws v = nth vs v := by
  obtain ⟨w, rfl⟩ := h
  exact nth_app h0 hv
theorem MkL.more {p : Pg} {mk : Int} {vs ws : List Int} {pc pc2 : Nat} (h : MkL p mk vs pc) (hl : ∃ w, ws = vs ++ w) (hp : Sub pc pc2) : MkL p mk ws pc2 := by
  rcases h with h | ⟨h1, h2, h3⟩
  · exact .inl h
  · refine .inr ⟨h1, by have := more_le hl; omega, ?_⟩
    rw [nth_more hl (by omega) h2]; exact h3.trans hp
theorem MkL.sub {p : Pg} {mk : Int} {vs F : List Int} {pc : Nat} (h : MkL p mk vs pc) (hl : ∃ w, F = vs ++ w) : mk < 0 ∨ Sub (nth F mk).toNat pc := by
  rcases h with h | ⟨h1, h2, h3⟩
  · exact .inl h
  · rw [nth_more hl (by omega) h2]; exact .inr h3
end Go.Proofs.Ytjjjidcbokbhpaa.CtL

namespace Go.Proofs.Ytjjjidcbokbhpaa.CtL
open Go Go.CT CtF CtR
open CtD (rel rel_app)

/-! Plain: a constant-time program is linearized to itself. -/
/-! Plain: what is linearized first stays. -/
def Bd (p : Pg) (e : Ex) : Prop := ∃ D, CtR.shape p D e = true
theorem Bd.mono {p q : Pg} {e : Ex} (h : Bd p e) (h1 : p.vars.length ≤ q.vars.length) (h2 : p.arrays.length = q.arrays.length) : Bd q e := by
  obtain ⟨D, hD⟩ := h
  exact ⟨D, shape_mono h1 h2 D e hD⟩
theorem shape_le {p : Pg} {e : Ex} : ∀ {d D : Nat}, d ≤ D → CtR.shape p d e = true → CtR.shape p D e = true
  | d, 0, h, hs => by
    have : d = 0 := by omega
    subst this; exact hs
  | d, D + 1, h, hs => by
    by_cases e1 : d = D + 1
    · subst e1; exact hs
    · exact shape_up D e (shape_le (by omega) hs)
theorem Bd.c {p : Pg} {n : Int} (h : 0 ≤ n ∧ n ≤ 255) : Bd p (cE n) := ⟨1, shape_of (fitsE_true rfl h.1 (by simp [limit]; omega)) (by simp) (by simp)⟩
theorem Bd.v {p : Pg} {n : Int} (h : 0 ≤ n ∧ n < p.vars.length) : Bd p (vE n) := ⟨1, shape_of (fitsE_true rfl h.1 (by simp [limit]; omega)) (by simp) (by simp)⟩
theorem Bd.b {p : Pg} {k : Int} {a b : Ex} (hk : k = 7 ∨ k = 9) (ha : Bd p a) (hb : Bd p b) : Bd p (bE k a b) := by
  obtain ⟨A, hA⟩ := ha
  obtain ⟨B, hB⟩ := hb
  refine ⟨A + B + 1, shape_of (by rcases hk with rfl | rfl <;> exact fitsE_true rfl (by omega) (by simp [limit])) (fun x hx => ?_) (by omega)⟩
  simp at hx
  rcases hx with rfl | rfl
  · exact shape_le (by omega) hA
  · exact shape_le (by omega) hB
theorem Bd.rd {p : Pg} {t : Int} {a : Ex} (ht : 0 ≤ t ∧ t < p.arrays.length) (ha : Bd p a) (hat : atom a = true) : Bd p (rdE t a) := by
  obtain ⟨A, hA⟩ := ha
  refine ⟨A + 1, shape_of (fitsE_true rfl ht.1 (by simp [limit]; omega)) (fun x hx => ?_) (fun _ => hat)⟩
  simp at hx
  subst hx; exact hA
def BdS (p : Pg) : Nat → St1 → Prop
  | 0, _ => True
  | d + 1, .mk k t ix v c b e => (k = 1 ∨ k = 5 → t < p.vars.length) ∧ (k ≠ 4 → Bd p v) ∧ (k = 2 → Bd p ix) ∧ (∀ s ∈ b, BdS p d s) ∧ (∀ s ∈ e, BdS p d s) ∧ (k ≠ 2 → ix = e0) ∧ (k = 4 → v = e0)
theorem BdS.mono {p q : Pg} (h1 : p.vars.length ≤ q.vars.length) (h2 : p.arrays.length = q.arrays.length) : ∀ (d : Nat) (s : St1), BdS p d s → BdS q d s
  | 0, _, _ => trivial
  | d + 1, .mk k t ix v c b e, h => by
    obtain ⟨a1, a2, a3, a4, a5, a6, a7⟩ := h
    exact ⟨fun h => by have := a1 h; omega, fun h => (a2 h).mono h1 h2, fun h => (a3 h).mono h1 h2, fun s hs => BdS.mono h1 h2 d s (a4 s hs), fun s hs => BdS.mono h1 h2 d s (a5 s hs), a6, a7⟩
end Go.Proofs.Ytjjjidcbokbhpaa.CtL

namespace Go.Proofs.Ytjjjidcbokbhpaa.CtL
open Go Go.CT CtF CtR
open CtD (rel rel_app)

/-! Plain: what the statements on linearization ask. -/
def extM (n : Nat) (m : Mm) : Mm := ⟨m.vals ++ List.replicate (n - m.vals.length) 0, m.arrays⟩
def extOK (p q : Pg) : Bool := progOK p && progOK q && decide ((p.vars.length : Int) ≤ q.vars.length) && decide (p.vars = q.vars.take p.vars.length) && decide (p.arrays = q.arrays)
theorem LowM.ext {p q : Pg} {a b : Mm} (h : LowM 0 p a b) (ha : MemFits p a) (hb : MemFits p b) (he : extOK p q = true) : LowM 0 q (extM q.vars.length a) (extM q.vars.length b) := by
  simp only [extOK, Bool.and_eq_true, decide_eq_true_eq] at he
  obtain ⟨⟨⟨_, h1⟩, h2⟩, h3⟩ := he
  have e1 := ha.nv
  have e2 := hb.nv
  refine ⟨by simp [extM, e1, e2], h.la, fun i x hx hb => ?_, fun i x hx => h.arr i x (by rw [h3]; exact hx)⟩
  simp only [extM]
  by_cases hi : i < p.vars.length
  · rw [List.getElem?_append_left (by omega), List.getElem?_append_left (by omega)]
    refine h.val i x ?_ hb
    rw [h2, List.getElem?_take, if_pos hi]; exact hx
  · rw [List.getElem?_append_right (by omega), List.getElem?_append_right (by omega), e1, e2]
end Go.Proofs.Ytjjjidcbokbhpaa.CtL

namespace Go.Proofs.Ytjjjidcbokbhpaa.CtL
open Go Go.CT CtF CtR
open CtD (rel rel_app)

/-! Plain: products. -/
def pairM (a b : Mm) : Mm := ⟨a.vals ++ b.vals, a.arrays ++ b.arrays⟩

/-- What a doubled run has come to. -/
structure DupR (p : Pg) (q : Prop) (x x2 y : Mm × List Ev) (z : Mm) : Prop where
  fit : MemFits p z
  eq : y.1 = pairM x.1 z
  sec : q → z = x2.1 ∧ (rel y.2).length = (rel x.2).length + (rel x2.2).length
theorem DupR.seq {p : Pg} {q q2 : Prop} {x x2 y x' x2' y' : Mm × List Ev} {z z' : Mm} (h : DupR p q x x2 y z) (h2 : DupR p q2 x' x2' y' z') (hq : q → q2) : DupR p q (x'.1, x.2 ++ x'.2) (x2'.1, x2.2 ++ x2'.2) (y'.1, y.2 ++ y'.2) z' :=
  ⟨h2.fit, h2.eq, fun hh => by
    obtain ⟨a, b⟩ := h.sec hh
    obtain ⟨a', b'⟩ := h2.sec (hq hh)
    refine ⟨a', ?_⟩
    simp only [rel_app, List.length_append]
    omega⟩
theorem DupR.mono {p : Pg} {q q2 : Prop} {x x2 y : Mm × List Ev} {z : Mm} (h : DupR p q x x2 y z) (hq : q2 → q) : DupR p q2 x x2 y z := ⟨h.fit, h.eq, fun hh => h.sec (hq hh)⟩
end Go.Proofs.Ytjjjidcbokbhpaa.CtL

namespace Go.Proofs.Ytjjjidcbokbhpaa.CtD
open Go Go.CT CtF CtR

theorem growD (n : Nat) (hn : n ≤ 1000) : DC Try.prog 87 [.c (.v (.slice none 0 0)), DI .i64 n] [] (fun r h => r = .c (.msl 0 1 0 0) ∧ h = [some []]) := fun I w s vs H hv => by
  obtain ⟨hsz, hall⟩ := hv
  simp only [List.length_cons, List.length_nil] at hsz
  have h0 := hall 0 (by omega) (by simp)
  have h1 := hall 1 (by omega) (by simp)
  have e0 : vs[0]'(by omega) = .slice none 0 0 := (rd_scalar h0).1
  have e1 : vs[1]'(by omega) = .int .i64 n := (rd_scalar h1).1
  have hvs : vs = #[.slice none 0 0, .int .i64 (n : Int)] := by
    apply Array.ext
    · simp [hsz]
    · intro i g1 g2
      match i, g1, g2 with
      | 0, _, _ => simpa using e0
      | 1, _, _ => simpa using e1
      | i + 2, g1, _ => omega
  subst hvs
  have hup : hpL [some []] = upd (hpL []) 0 (some (some [])) := by
    funext k
    match k with
    | 0 => rfl
    | k + 1 => simp [hpL, upd]
  rcases Nat.eq_zero_or_pos n with rfl | hpos
  · refine (CtG.grow_nil0 w).mono ?_
    rintro e w' ⟨rfl, rfl⟩
    have hk : ∀ k, hpL [some []] k ≠ none → k = 0 := fun k h => by
      match k with
      | 0 => rfl
      | k + 1 => exact absurd rfl h
    have hno : ∀ k b, upd s 0 (some none) k = some (some b) → k ≠ 0 := fun k b h e => by subst e; rw [upd_same] at h; cases h
    refine ⟨_, I, upd s 0 (some none), _, [some []], rfl, ⟨rfl, rfl⟩, .c _ _ (.msl0 _ _ _ _ (upd_same _ _ _)), ⟨fun k h => ?_, fun k cs h => ?_, fun k k' b cs cs' h1 h2 h3 h4 => ?_, H.imm⟩,
      ⟨rfl, rfl, rfl, Nat.le_refl _, fun _ _ _ => rfl, Shp.refl _, fun k hk => by simp at hk, fun _ h => h, fun _ h => .inl h, fun b ⟨k, cs, h1, h2⟩ => absurd (hk k (by rw [h1]; simp)) (hno k b h2)⟩, by simp⟩
    · have : k ≠ 0 := by rintro rfl; simp [hpL] at h
      rw [upd_ne _ _ this]; exact H.top k (by simp [hpL])
    · obtain rfl := hk k (by rw [h]; simp)
      simp [hpL] at h
      exact .inl ⟨upd_same _ _ _, h⟩
    · exact absurd (hk k (by rw [h1]; simp)) (hno k b h3)
  · refine (CtG.grow_nil n hpos hn w).mono ?_
    rintro e w' ⟨rfl, rfl⟩
    have hG := grownCap_ge w n 0 3
    have hmx := mx_eq
    obtain ⟨s', hle, H2, E2, R2⟩ := grow_sound (m := 0) H none (by simp) 0 rfl (Nat.le_refl _) 3 [] [] ⟨rfl, fun j h => by simp at h⟩ (Builtin.zeroCells #[.int .i64 0] n ++ Builtin.zeroCells #[.int .i64 0] (grownCap w n 0 3 - n)) 1 0 (grownCap w n 0 3) ⟨Nat.zero_le _, Nat.zero_le _⟩ (by simp [size_zeroCells]; omega)
    refine ⟨_, I, s', _, _, rfl, ⟨rfl, rfl⟩, R2, ?_, ?_, by simp⟩
    · rw [hup]; exact H2
    · rw [hup]; exact E2
end Go.Proofs.Ytjjjidcbokbhpaa.CtD

namespace Go.Proofs.Ytjjjidcbokbhpaa.CtD
open Go Go.CT CtF CtR

theorem CMs_rows2 {hT hS : Hp} {r : Nat → Option Nat} {fz : List Nat} (L : List (List Int)) : CMs hT r hS fz (L.map isI) (L.map isI) = True := eq_true (CMs.kf (fun c hc => by obtain ⟨a, _, rfl⟩ := List.mem_map.1 hc; rfl))
theorem concatD (L : List (List Int)) (hL : L.length ≤ 1000) (hz : L.flatten.length ≤ 1000) : DC Try.prog 50 [.c (.msl 0 1 0 L.length)] [some (L.map isI)] (fun r h => r = .c (isI L.flatten) ∧ h = [some (L.map isI)]) := by
  have hmx := mx_eq
  have hTs : ∀ i x, L[i]? = some x → (L.take (i + 1)).flatten = (L.take i).flatten ++ x := fun i x hx => by rw [List.take_add_one, hx]; simp
  have hTl : ∀ i, (L.take i).flatten.length ≤ L.flatten.length := fun i => by
    have : L.flatten = (L.take i).flatten ++ (L.drop i).flatten := by rw [← List.flatten_append, List.take_append_drop]
    rw [this, List.length_append]; omega
  generalize hR : (fun (r : D) (h : List (Option (List C))) => r = .c (isI L.flatten) ∧ h = [some (L.map isI)]) = R
  have hgr := growD L.flatten.length hz
  refine dcZ Try.func50 ?_
  simp (maxSteps := 9999999) only [go_sem]
  iterate 2 ((try (refine drvZ Try.func50 ?_; simp (maxSteps := 9999999) only [go_sem])); (try ((with_reducible refine And.intro ?_ ?_) <;> (repeat' with_reducible apply And.intro) <;> try exact sd)))
  refine Go.loopQ (fun i : Nat => [(0, .c (.msl 0 1 0 L.length)), (3, DI .i64 (L.take i).flatten.length), (9, .c (.msl 0 1 0 L.length)), (10, DI .i64 L.length), (11, DI .i64 i)]) (fun i => [(0, some (L.map isI))])
    4096 (fun i => i ≤ L.length) (fun i => L.length - i) ?_ 0 some [] _ (Nat.zero_le _) ?_
  · intro i hi again
    have hli := hTl i
    rcases Nat.lt_or_ge i L.length with hlt | hge
    · obtain ⟨x, hx⟩ : ∃ x, L[i]? = some x := ⟨L[i], by simp [hlt]⟩
      have hs := hTs i x hx
      have hl2 := hTl (i + 1)
      rw [hs, List.length_append] at hl2
      generalize (L.take i).flatten = T at *
      have hneg : (((T.length : Int) + (x.length : Int)) < 0) = False := eq_false (by omega)
      refine drvL Try.func50 ?_
      simp (maxSteps := 9999999) only [go_sem, hx, hlt]
      iterate 4 ((try (refine drvZ Try.func50 ?_; simp (maxSteps := 9999999) only [go_sem, hx, hlt, isI, hneg])); (try ((with_reducible refine And.intro ?_ ?_) <;> (repeat' with_reducible apply And.intro) <;> try exact sd)))
      refine again (i + 1) some [] _ hlt (by omega) ?_
      simp (maxSteps := 9999999) only [go_sem, TmOK, DM, DMs, CM, CMs, forall_eq, exists_eq_left, Mq, HpOK, LowOK, hs, List.length_append]
      simp [CMs_rows2]
    · have hn : ¬ i < L.length := by omega
      obtain rfl : i = L.length := by omega
      rw [List.take_length]
      refine drvL Try.func50 ?_
      simp (maxSteps := 9999999) only [go_sem, hn]
      iterate 2 ((try (refine drvZ Try.func50 ?_; simp (maxSteps := 9999999) only [go_sem, hn])); (try ((with_reducible refine And.intro ?_ ?_) <;> (repeat' with_reducible apply And.intro) <;> try exact sd)))
      refine XK.callG [] hgr ok87 (fun i' x h => by simp at h) (hbT ()) (fun d h' ⟨_, e⟩ => by subst e; simp) ?_
      rintro _ _ ⟨rfl, rfl⟩ _
      iterate 3 ((try (refine drvZ Try.func50 ?_; simp (maxSteps := 9999999) only [go_sem, renCs])); (try ((with_reducible refine And.intro ?_ ?_) <;> (repeat' with_reducible apply And.intro) <;> try exact sd)))
      refine Go.loopQ (fun i : Nat => [(6, .c (.msl 5 1 0 (L.take i).flatten.length)), (25, .c (.msl 0 1 0 L.length)), (26, DI .i64 L.length), (27, DI .i64 i)]) (fun i => [(0, some (L.map isI)), (5, some ((L.take i).flatten.map I64))])
        8192 (fun i => i ≤ L.length) (fun i => L.length - i) ?_ 0 (fun j => if j = 5 then some 4224 else some j) [] _ (Nat.zero_le _) ?_
      · intro i hi again
        have hli := hTl i
        rcases Nat.lt_or_ge i L.length with hlt | hge
        · obtain ⟨x, hx⟩ : ∃ x, L[i]? = some x := ⟨L[i], by simp [hlt]⟩
          have hs := hTs i x hx
          have hl2 := hTl (i + 1)
          rw [hs, List.length_append] at hl2
          generalize (L.take i).flatten = T at *
          refine drvL Try.func50 ?_
          simp (maxSteps := 9999999) only [go_sem, hx, hlt]
          iterate 4 ((try (refine drvZ Try.func50 ?_; simp (maxSteps := 9999999) only [go_sem, hx, hlt, isI, flat_I'])); (try ((with_reducible refine And.intro ?_ ?_) <;> (repeat' with_reducible apply And.intro) <;> try exact sd)))
          refine again (i + 1) (fun j => if j = 5 then some 8576 else some j) [] _ hlt (by omega) ?_
          rw [hs]
          simp (maxSteps := 9999999) only [go_sem, TmOK, DM, DMs, CM, CMs, forall_eq, exists_eq_left, Mq, HpOK, LowOK, List.length_append]
          simp [-List.map_append, CMs_I, CMs_rows2]
          rw [List.map_append]; exact CMs.app (CMs.kf (kf_I T)) (CMs.kf (kf_I x))
        · have hn : ¬ i < L.length := by omega
          obtain rfl : i = L.length := by omega
          rw [List.take_length]
          clear hTs hTl hz hgr again
          generalize L.flatten = W at *
          refine drvL Try.func50 ?_
          simp (maxSteps := 9999999) only [go_sem, hn]
          iterate 2 ((try (refine drvZ Try.func50 ?_; simp (maxSteps := 9999999) only [go_sem, hn])); (try ((with_reducible refine And.intro ?_ ?_) <;> (repeat' with_reducible apply And.intro) <;> try exact sd)))
          refine RetOb.ofQ (fun j => some j) [5] (.c (isI W)) [some (L.map isI)] ?_ (by rw [← hR]; exact ⟨rfl, rfl⟩) (by simp)
          simp [enumL, hOf, DM, CM, CMs, HpOK, LowOK, upd, CMs_rows2]
          simp [isI, CM, flat_I, kf, upd]

      · simp (maxSteps := 9999999) only [go_sem, TmOK, DM, DMs, CM, CMs, forall_eq, exists_eq_left, Mq, HpOK, LowOK]
        simp [CMs_rows2, CMs]
  · simp (maxSteps := 9999999) only [go_sem, TmOK, DM, DMs, CM, CMs, forall_eq, exists_eq_left, Mq, HpOK, LowOK]
    simp [CMs_rows2]
end Go.Proofs.Ytjjjidcbokbhpaa.CtD

namespace Go.Proofs.Ytjjjidcbokbhpaa.CtR
open Go Go.CT CtF

/-- The set of those of the first n cells that a test picks. -/
def smk (f : Nat → Bool) : Nat → Nat
  | 0 => 0
  | n + 1 => smk f n ||| (if f n then 2 ^ n else 0)
theorem smk_bit (f : Nat → Bool) : ∀ n k, (smk f n).testBit k = (decide (k < n) && f k)
  | 0, k => by simp [smk]
  | n + 1, k => by
    rw [smk, Nat.testBit_or, smk_bit f n k]
    rcases Nat.lt_trichotomy k n with h | h | h
    · cases hf : f n <;> simp [Nat.testBit_two_pow, show n ≠ k by omega, h, show k < n + 1 by omega]
    · subst h; cases hf : f k <;> simp [Nat.testBit_two_pow]
    · cases hf : f n <;> simp [Nat.testBit_two_pow, show n ≠ k by omega, show ¬ k < n by omega, show ¬ k < n + 1 by omega]
theorem smk_lt (f : Nat → Bool) (n : Nat) : smk f n < 2 ^ n := Nat.lt_pow_two_of_testBit _ fun i hi => by
  rw [smk_bit]; simp; intro h; omega
/-- A set holds a picked cell. -/
def soB (f : Nat → Bool) (N : Nat) : Nat → Bool
  | 0 => false
  | n + 1 => soB f N n || (N.testBit n && f n)
theorem soB_iff (f : Nat → Bool) (N : Nat) : ∀ n, soB f N n = true ↔ ∃ k, k < n ∧ N.testBit k = true ∧ f k = true
  | 0 => by simp [soB]
  | n + 1 => by
    rw [soB, Bool.or_eq_true, soB_iff f N n, Bool.and_eq_true]
    constructor
    · rintro (⟨k, h, h1⟩ | h)
      · exact ⟨k, by omega, h1⟩
      · exact ⟨n, by omega, h⟩
    · rintro ⟨k, h, h1⟩
      by_cases e : k = n
      · subst e; exact .inr h1
      · exact .inl ⟨k, by omega, h1⟩
theorem soB_and (f : Nat → Bool) (N w : Nat) : decide (((N &&& smk f w : Nat) : Int) ≠ 0) = soB f N w := by
  rw [Bool.eq_iff_iff, decide_eq_true_iff, soB_iff]
  constructor
  · intro h
    refine Classical.byContradiction fun hc => h ?_
    have : N &&& smk f w = 0 := Nat.eq_of_testBit_eq fun k => by
      rw [Nat.testBit_and, smk_bit, Nat.zero_testBit]
      by_cases h1 : k < w
      · cases h2 : N.testBit k
        · simp
        · cases h3 : f k
          · simp
          · exact absurd ⟨k, h1, h2, h3⟩ hc
      · simp [h1]
    rw [this]; rfl
  · rintro ⟨k, h1, h2, h3⟩ h
    have h0 : N &&& smk f w = 0 := by omega
    have := congrArg (Nat.testBit · k) h0
    simp [Nat.testBit_and, smk_bit, h1, h2, h3] at this
/-- A checked program without releases: no public cell depends on a secret one. -/
theorem fl_sec {p : Pg} {w : Nat} (hw : p.vars.length + p.arrays.length = w) (hw14 : w ≤ 14) (hok : progOK p = true) (hc : (chkR flowR p).1 = 0) (hfr : freeP p = true) : Sec 0 p.vars p.arrays (depP p).sets := by
  have h1 := (chk_fine flowR p).1 hc
  unfold fineP at h1
  unfold freeP at hfr
  simp only [Bool.and_eq_true] at h1 hfr
  have := (dep_sec (w := w) (β := 0) (p := p) hw false (fun h => by simp at h) 5 0 0 p.body (body_of hok).1 h1.2 (fun h => by simp at h) hfr.2 (Nat.two_pow_pos w) (fun _ => LoN.zero) (startD w) (CtD.start_ok hw14) ⟨start_sec _ _ _, fun h => by simp at h⟩).1
  unfold depP
  rw [hw]; exact this
theorem sec_so {vs ar : List Int} {s : List Nat} (h : Sec 0 vs ar s) (i w : Nat) (hi : hiC 0 vs ar i = false) : soB (hiC 0 vs ar) (dat s i) w = false := by
  cases e : soB (hiC 0 vs ar) (dat s i) w with
  | false => rfl
  | true =>
    obtain ⟨k, _, h1, h2⟩ := (soB_iff _ _ _).1 e
    rw [h i hi k h2] at h1; simp at h1
end Go.Proofs.Ytjjjidcbokbhpaa.CtR
