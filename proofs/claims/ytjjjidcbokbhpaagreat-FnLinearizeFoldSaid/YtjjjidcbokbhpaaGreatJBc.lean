/- Contracts of functions of the program, one behind the other, as plain data: what each call returns and which blocks it leaves. -/
import Derived.Test.YtjjjidcbokbhpaaGreatJFacts
import Derived.Test.YtjjjidcbokbhpaaGreatJAi
import Derived.Test.YtjjjidcbokbhpaaGreatJAj
import Derived.Test.YtjjjidcbokbhpaaGreatJAk
import Derived.Test.YtjjjidcbokbhpaaGreatJAl
import Derived.Test.YtjjjidcbokbhpaaGreatJAn
import Derived.Test.YtjjjidcbokbhpaaGreatJAp
import Derived.Test.YtjjjidcbokbhpaaGreatJAq
import Derived.Test.YtjjjidcbokbhpaaGreatJAr
import Derived.Test.YtjjjidcbokbhpaaGreatJAt
import Derived.Test.YtjjjidcbokbhpaaGreatJAu
import Derived.Test.YtjjjidcbokbhpaaGreatJAv
import Derived.Test.YtjjjidcbokbhpaaGreatJAw
import Derived.Test.YtjjjidcbokbhpaaGreatJAh
import Derived.Test.YtjjjidcbokbhpaaGreatJAm
import Derived.Test.YtjjjidcbokbhpaaGreatJAo
import Derived.Test.YtjjjidcbokbhpaaGreatJAs
import Derived.Test.YtjjjidcbokbhpaaGreatJAx
set_option linter.unusedVariables false
set_option linter.unusedSimpArgs false
set_option maxHeartbeats 16000000
set_option maxRecDepth 100000
namespace Go.Proofs.YtjjjidcbokbhpaaGreat.CtD
open Go Go.CT CtF CtR
open CtL (extM resM extOK extP resP)
theorem RetOb.mem1 {R : D → List (Option (List C)) → Prop} {m : Mm} {hp : Hp} (hna : m.arrays.length ≤ 2) (h4 : ∀ a ∈ m.arrays, a.length = 4) (hR : R (.agg [.msl 0 1 0 m.vals.length, .isl 1 (m.arrays.map fun a => [isI a])]) [some (m.vals.map I64)])
 (hp0 : hp = hpL (memB 2 m)) : RetOb 0 R (.agg [.msl 0 1 0 m.vals.length, .msl 1 1 0 m.arrays.length]) hp := by
 subst hp0
 obtain ⟨va, arr⟩ := m
 refine RetOb.step (fun j => if j = 0 then some 0 else if j = 1 then some 1 else none) [2, 3] (.agg [.msl 0 1 0 va.length, .msl 1 1 0 arr.length]) [(0, some (va.map I64)), (1, some (arr.map isI))] ?_ ?_
 ·have e3 : ∀ a : List Int, (a.map fun n => [C.v (.int .i64 n)]).flatten = a.map I64 := fun a => flat1 _ a
  match arr, hna, h4 with
  | [], _, h4 => simp [DM, DMs, CM, CMs, HpOK, LowOK, hOf, upd, CMs_I, hdr, memB, hpL]
  | [a], _, h4 =>
   have ha := h4 a (by simp)
   simp [DM, DMs, CM, CMs, HpOK, LowOK, hOf, upd, CMs_I, hdr, memB, hpL, e3, isI, ha, blk0, kf]
  | [a, b], _, h4 =>
   have ha := h4 a (by simp)
   have hb := h4 b (by simp)
   simp [DM, DMs, CM, CMs, HpOK, LowOK, hOf, upd, CMs_I, hdr, memB, hpL, e3, isI, ha, hb, blk0, blk1, kf]
 ·refine RetOb.ofQ (fun j => if j = 0 then some 0 else none) [1] (.agg [.msl 0 1 0 va.length, .isl 1 (arr.map fun a => [isI a])]) [some (va.map I64)] ?_ hR (Nat.zero_le _)
  simp [enumL, DM, DMs, CM, CMs, HpOK, LowOK, hOf, upd, CMs_I, isI, flat_I, kf]
  exact (flat1 isI arr).symm
theorem ownM1 (m : Mm) (hv : m.vals.length ≤ 1000) (ha : m.arrays.length ≤ 2) (h4 : ∀ a ∈ m.arrays, a.length = 4) : DC Tryz.prog 58 [.agg m.cells] [] (fun d h => d = .agg [.msl 0 1 0 m.vals.length, .isl 1 (m.arrays.map fun a => [isI a])] ∧ h = [some (m.vals.map I64)]) :=
 DC.weaken (own m hv ha h4) fun d h' ⟨e1, e2⟩ _ => by subst e1 e2; exact RetOb.mem1 ha h4 ⟨rfl, rfl⟩ rfl
theorem extendsI (p q : Pg) (hp : p.vars.length ≤ 1000) (hp2 : p.arrays.length ≤ 1000) (hq : q.vars.length ≤ 1000) (hq2 : q.arrays.length ≤ 1000) (he : extOK p q = true) : DC Tryz.prog 98 [.agg p.cells, .agg q.cells] [] (fun r h => r = DB true ∧ h = []) := by
 have hmx := mx_eq
 have hvp := programValidI p (by omega) (by omega)
 have hvq := programValidI q (by omega) (by omega)
 have h1 := equalI p.vars (q.vars.take p.vars.length) (by omega)
 have h2 := equalI p.arrays q.arrays (by omega)
 simp only [extOK, Bool.and_eq_true, decide_eq_true_eq] at he
 obtain ⟨⟨⟨⟨e1, e2⟩, e3⟩, e4⟩, e5⟩ := he
 rw [e1] at hvp
 rw [e2] at hvq
 rw [decide_eq_true e4] at h1
 rw [decide_eq_true e5] at h2
 obtain ⟨vs, ar, bd⟩ := p
 obtain ⟨vs', ar', bd'⟩ := q
 simp only at e3 h1 h2 hp hp2 hq hq2
 have e3' : vs.length ≤ vs'.length := by omega
 have g3 := eq_true e3
 simp only [ints, List.map_take] at h1 h2
 refine dcZ Tryz.func98 ?_
 simp only [go_sem]
 iterate 8 ((try (refine drvZ Tryz.func98 ?_; simp only [go_sem, g3, e3, e3', List.map_take])); ((with_reducible and_intros) <;> try exact sd); (try first | refine XK.p hvp ok16 ?_ | refine XK.gp hvp ok16 ?_ | refine XK.p hvq ok16 ?_ | refine XK.gp hvq ok16 ?_ | refine XK.p h1 ok55 ?_ | refine XK.gp h1 ok55 ?_ | refine XK.p h2 ok55 ?_ | refine XK.gp h2 ok55 ?_))
 exact RetOb.plain (d := DB true) ⟨rfl, rfl⟩ rfl
theorem mem_facts {p : Pg} {m : Mm} (hp : progOK p = true) (hm : memOK p.vars p.arrays m = true) : m.vals.length = p.vars.length ∧ m.arrays.length = p.arrays.length ∧ m.vals.length ≤ 12 ∧ m.arrays.length ≤ 2 ∧ ∀ a ∈ m.arrays, a.length = 4 := by
 have h := memFits_of (p := p) (m := m) (by rw [hp, hm]; rfl)
 exact ⟨h.nv, h.na, by have := h.nv12; have := h.nv; omega, by have := h.na2; have := h.na; omega, fun a ha => (h.arr a ha).1⟩
theorem extendI (p q : Pg) (m : Mm) (hp : p.vars.length ≤ 1000) (hp2 : p.arrays.length ≤ 1000) (hq : q.vars.length ≤ 1000) (hq2 : q.arrays.length ≤ 1000) (he : extOK p q = true) (hm : memOK p.vars p.arrays m = true) :
 DC Tryz.prog 32 [.agg p.cells, .agg q.cells, .agg m.cells] [] (fun r h => r = .tup [.agg (extM q.vars.length m).cells, DB true] ∧ h = []) := by
 have hmx := mx_eq
 have hx := extendsI p q hp hp2 hq hq2 he
 have him := isMemory p.vars p.arrays m (by omega) (by omega)
 rw [hm] at him
 simp only [extOK, Bool.and_eq_true, decide_eq_true_eq] at he
 obtain ⟨f1, f2, f3, f4, f5⟩ := mem_facts he.1.1.1.1 hm
 have ho := ownM1 m (by omega) f4 f5
 have hle : m.vals.length ≤ q.vars.length := by have := he.1.1.2; omega
 generalize hR : (fun (r : D) (h : List (Option (List C))) => r = .tup [.agg (extM q.vars.length m).cells, DB true] ∧ h = []) = R
 obtain ⟨vs, ar, bd⟩ := p
 obtain ⟨vs', ar', bd'⟩ := q
 obtain ⟨va, arr⟩ := m
 simp only [ints, Mm.cells] at him hle ho f3 hq
 refine dcZ Tryz.func32 ?_
 simp only [go_sem, Mm.cells]
 iterate 6 ((try (refine drvZ Tryz.func32 ?_; simp only [go_sem])); ((with_reducible and_intros) <;> try exact sd); (try first | refine XK.p hx ok98 ?_ | refine XK.gp hx ok98 ?_ | refine XK.p him ok99 ?_ | refine XK.gp him ok99 ?_))
 refine XK.callG [] ho ok58 (fun i' x h => by simp at h) (hbT ()) (fun d h' ⟨_, e⟩ => by subst e; simp) ?_
 rintro _ _ ⟨rfl, rfl⟩ _
 ((try (refine drvZ Tryz.func32 ?_; simp only [go_sem, renCs_I])); ((with_reducible and_intros) <;> try exact sd))
 refine Go.loopQ (fun i : Nat => [(4, .c (.ptr 64 0)), (6, .c (.ptr 192 0)), (7, DB false), (8, .c (.ptr 1280 0))])
  (fun i => [(64, some (Pg.cells ⟨vs', ar', bd'⟩)), (192, some [.v (.slice none 0 0), .v (.slice none 0 0)]), (1216, some ((va ++ List.replicate i 0).map I64)), (1280, some [.msl 1216 1 0 (va ++ List.replicate i 0).length, .isl 1 (arr.map fun a => [isI a])])])
  4096 (fun i => va.length + i ≤ vs'.length) (fun i => vs'.length - i) ?_ 0 some [] _ (by omega) ?_
 ·intro i hi again
  have hW : (va ++ List.replicate i 0).length = va.length + i := by simp
  have hS : va ++ List.replicate (i + 1) 0 = (va ++ List.replicate i 0) ++ [0] := by rw [List.replicate_succ', List.append_assoc]
  rcases Nat.lt_or_ge (va.length + i) vs'.length with hlt | hge
  ·generalize va ++ List.replicate i 0 = W at *
   have hlt' : W.length < vs'.length := by omega
   refine drvL Tryz.func32 ?_
   simp only [go_sem, hlt']
   iterate 3 ((try (refine drvZ Tryz.func32 ?_; simp only [go_sem, hlt'])); ((with_reducible and_intros) <;> try exact sd))
   refine again (i + 1) (fun j => if j = 1216 then some 4736 else some j) [] _ (by omega) (by omega) ?_
   rw [hS]
   simp only [go_sem, TmOK, DM, DMs, CM, CMs, forall_eq, exists_eq_left, Mq, HpOK, LowOK]
   simp
   exact CMs.app (CMs.kf (kf_I W)) (by simp [CMs, CM])
  ·have hE : extM vs'.length ⟨va, arr⟩ = ⟨va ++ List.replicate i 0, arr⟩ := by
    simp only [extM]; rw [show vs'.length - va.length = i from by omega]
   rw [hE] at hR
   clear hE hS again
   generalize va ++ List.replicate i 0 = W at *
   have hn : ¬ W.length < vs'.length := by omega
   refine drvL Tryz.func32 ?_
   simp only [go_sem, hn]
   iterate 3 ((try (refine drvZ Tryz.func32 ?_; simp only [go_sem, hn])); ((with_reducible and_intros) <;> try exact sd))
   refine RetOb.ofQ (fun _ => none) [1216] (.tup [.agg (Mm.cells ⟨W, arr⟩), DB true]) [] ?_ (by rw [← hR]; exact ⟨rfl, rfl⟩) (by simp)
   simp [enumL, DM, DMs, CM, CMs, HpOK, LowOK, hOf, upd, Mm.cells, isI, flat_I, kf]
 ·simp only [go_sem, TmOK, DM, DMs, CM, CMs, forall_eq, exists_eq_left, Mq, HpOK, LowOK]
  simp [CMs_I]
end Go.Proofs.YtjjjidcbokbhpaaGreat.CtD
namespace Go.Proofs.YtjjjidcbokbhpaaGreat.CtL
open Go Go.CT CtF CtR
open CtD (rel rel_app rel_eval)
end Go.Proofs.YtjjjidcbokbhpaaGreat.CtL
namespace Go.Proofs.YtjjjidcbokbhpaaGreat.CtD
open Go Go.CT CtF CtR
theorem stC_app2 (a b : List St1) : stC (a ++ b) = stC a ++ stC b := by simp [stC]
end Go.Proofs.YtjjjidcbokbhpaaGreat.CtD
namespace Go.Proofs.YtjjjidcbokbhpaaGreat.CtL
open Go Go.CT CtF CtR
def LeN (a b : Nat) : Prop := ∀ β, b.testBit β = false → a.testBit β = false
theorem LeN.rfl {a : Nat} : LeN a a := fun _ h => h
theorem LeN.or {a b c d : Nat} (h : LeN a c) (h2 : LeN b d) : LeN (a ||| b) (c ||| d) := fun β hb => by
 simp only [Nat.testBit_or, Bool.or_eq_false_iff] at hb ⊢
 exact ⟨h β hb.1, h2 β hb.2⟩
theorem LeN.orl {a c d : Nat} (h : LeN a c) : LeN a (c ||| d) := fun β hb => by
 simp only [Nat.testBit_or, Bool.or_eq_false_iff] at hb
 exact h β hb.1
theorem LeN.zero {a : Nat} (h : LeN a 0) : a = 0 := Nat.eq_of_testBit_eq fun β => by rw [h β (Nat.zero_testBit β), Nat.zero_testBit]
theorem LeN.sub {a b t : Nat} (h : LeN a b) (hs : subL b t = true) : subL a t = true := by
 have : a ||| t = t := Nat.eq_of_testBit_eq fun β => by
  cases ht : t.testBit β with
  | true => simp [ht]
  | false => simp [ht, h β (subL_low hs ht)]
 simp [subL, this]
theorem lab_false {vs ar : List Int} {β d : Nat} {k v : Int} {ks : List Ex} : (labN vs ar (d + 1) (.mk k v ks)).testBit β = false ↔ (labB vs ar k v).testBit β = false ∧ ∀ x ∈ ks, (labN vs ar d x).testBit β = false := by
 rw [labN, or_bit]
 simp
theorem lab_up {p : Pg} {vs ar : List Int} : ∀ (d : Nat) (e : Ex), CtR.shape p d e = true → labN vs ar (d + 1) e = labN vs ar d e
 | 0, _, h => by simp [CtR.shape] at h
 | d + 1, .mk k v ks, h => by
  obtain ⟨g1, g2, g3⟩ := shape_succ h
  have e1 : ks.map (labN vs ar (d + 1)) = ks.map (labN vs ar d) := List.map_congr_left fun x hx => lab_up d x (g2 x hx)
  rw [labN, labN, e1]
theorem sec_up {p : Pg} {vs ar : List Int} : ∀ (d : Nat) (e : Ex), CtR.shape p d e = true → secE vs ar (d + 1) e = secE vs ar d e
 | 0, _, h => by simp [CtR.shape] at h
 | d + 1, .mk k v ks, h => by
  obtain ⟨g1, g2, g3⟩ := shape_succ h
  have e1 : ks.any (secE vs ar (d + 1)) = ks.any (secE vs ar d) := by
   rw [Bool.eq_iff_iff, List.any_eq_true, List.any_eq_true]
   exact ⟨fun ⟨x, hx, hs⟩ => ⟨x, hx, by rw [← sec_up d x (g2 x hx)]; exact hs⟩, fun ⟨x, hx, hs⟩ => ⟨x, hx, by rw [sec_up d x (g2 x hx)]; exact hs⟩⟩
  rw [secE, secE, e1]
  by_cases hk : k = 3
  ·subst hk
   obtain ⟨a, rfl, ha, _⟩ := read_kid h
   rw [show kid0 [a] = a from rfl, lab_up d a ha]
  ·have : (k == 3) = false := by simp [hk]
   rw [this]; rfl
theorem fold_lab {p : Pg} {vs ar : List Int} : ∀ (d : Nat) (e : Ex), CtR.shape p d e = true → LeN (labN vs ar d (foldE d e)) (labN vs ar d e) ∧ (secE vs ar d e = false → secE vs ar d (foldE d e) = false)
 | 0, _, h => by simp [CtR.shape] at h
 | d + 1, .mk k v ks, h => by
  rcases shape_form h with ⟨_, rfl⟩ | ⟨a, rfl, rfl, ha, hat⟩ | ⟨a, b, k4, k10, rfl, ha, hb⟩ | ⟨a, b, c, rfl, rfl, ha, hb, hc⟩
  ·exact ⟨LeN.rfl, id⟩
  ·have : foldE (d + 1) (.mk 3 v [a]) = .mk 3 v [a] := by
    simp only [foldE, List.map_cons, List.map_nil, foldN]
    rw [fold_atom ha hat]
   rw [this]; exact ⟨LeN.rfl, id⟩
  ·have ia := fold_lab (vs := vs) (ar := ar) d a ha
   have ib := fold_lab (vs := vs) (ar := ar) d b hb
   have sa := (fold_shape d a ha).1
   have sb := (fold_shape d b hb).1
   have e1 : foldE (d + 1) (.mk k v [a, b]) = binN k v (foldE d a) (foldE d b) := rfl
   rw [e1]
   generalize foldE d a = a' at *
   generalize foldE d b = b' at *
   have ua := lab_up (vs := vs) (ar := ar) d a' sa
   have ub := lab_up (vs := vs) (ar := ar) d b' sb
   have wa := sec_up (vs := vs) (ar := ar) d a' sa
   have wb := sec_up (vs := vs) (ar := ar) d b' sb
   have k3 : (k == 3) = false := by simp; omega
   have hsec : secE vs ar (d + 1) (.mk k v [a, b]) = false → secE vs ar d a = false ∧ secE vs ar d b = false := by
    intro hs; simpa [secE, k3] using hs
   unfold binN
   split
   ·refine ⟨fun β hβ => ?_, fun _ => by simp [secE, cE]⟩
    simp [cE, labN, labB]
   split
   ·refine ⟨fun β hβ => ?_, fun hs => by rw [wb]; exact ib.2 (hsec hs).2⟩
    rw [ub]; exact ib.1 β ((lab_false.1 hβ).2 b (by simp))
   split
   ·refine ⟨fun β hβ => ?_, fun hs => by rw [wa]; exact ia.2 (hsec hs).1⟩
    rw [ua]; exact ia.1 β ((lab_false.1 hβ).2 a (by simp))
   ·refine ⟨fun β hβ => ?_, fun hs => ?_⟩
    ·have := lab_false.1 hβ
     refine lab_false.2 ⟨this.1, fun x hx => ?_⟩
     rcases List.mem_cons.1 hx with rfl | hx
     ·exact ia.1 β (this.2 a (by simp))
     ·rw [List.mem_singleton.1 hx]; exact ib.1 β (this.2 b (by simp))
    ·simp [secE, k3, ia.2 (hsec hs).1, ib.2 (hsec hs).2]
  ·have ia := fold_lab (vs := vs) (ar := ar) d a ha
   have ib := fold_lab (vs := vs) (ar := ar) d b hb
   have ic := fold_lab (vs := vs) (ar := ar) d c hc
   have sa := (fold_shape d a ha).1
   have sb := (fold_shape d b hb).1
   have sc := (fold_shape d c hc).1
   have e1 : foldE (d + 1) (.mk 11 v [a, b, c]) = selN d v (foldE d a) (foldE d b) (foldE d c) := rfl
   rw [e1]
   generalize foldE d a = a' at *
   generalize foldE d b = b' at *
   generalize foldE d c = c' at *
   have ub := lab_up (vs := vs) (ar := ar) d b' sb
   have uc := lab_up (vs := vs) (ar := ar) d c' sc
   have wb := sec_up (vs := vs) (ar := ar) d b' sb
   have wc := sec_up (vs := vs) (ar := ar) d c' sc
   have hsec : secE vs ar (d + 1) (.mk 11 v [a, b, c]) = false → secE vs ar d a = false ∧ secE vs ar d b = false ∧ secE vs ar d c = false := by
    intro hs; simpa [secE] using hs
   unfold selN
   split
   ·split
    ·refine ⟨fun β hβ => ?_, fun hs => by rw [wb]; exact ib.2 (hsec hs).2.1⟩
     rw [ub]; exact ib.1 β ((lab_false.1 hβ).2 b (by simp))
    ·refine ⟨fun β hβ => ?_, fun hs => by rw [wc]; exact ic.2 (hsec hs).2.2⟩
     rw [uc]; exact ic.1 β ((lab_false.1 hβ).2 c (by simp))
   ·refine ⟨fun β hβ => ?_, fun hs => ?_⟩
    ·have := lab_false.1 hβ
     refine lab_false.2 ⟨this.1, fun x hx => ?_⟩
     rcases List.mem_cons.1 hx with rfl | hx
     ·exact ia.1 β (this.2 a (by simp))
     rcases List.mem_cons.1 hx with rfl | hx
     ·exact ib.1 β (this.2 b (by simp))
     ·rw [List.mem_singleton.1 hx]; exact ic.1 β (this.2 c (by simp))
    ·simp [secE, ia.2 (hsec hs).1, ib.2 (hsec hs).2.1, ic.2 (hsec hs).2.2]
theorem foldV_lab {p : Pg} {vs ar : List Int} {k : Int} {v : Ex} (h : k ≠ 4 → CtR.shape p 5 v = true) : LeN (labN vs ar 5 (foldV k v)) (labN vs ar 5 v) ∧ (secE vs ar 5 v = false → secE vs ar 5 (foldV k v) = false) := by
 unfold foldV
 split
 ·exact ⟨LeN.rfl, id⟩
 ·rename_i hk; exact fold_lab 5 v (h hk)
def ResOK (vs ar : List Int) (p : Pg) (res : St1 → Nat → Int) : Prop := ∀ (k t : Int) (ix v : Ex) (c : Int) (b e b' e' : List St1) (x x' : Nat), (k ≠ 4 → CtR.shape p 5 v = true) → LeN x' x → res (.mk k t ix v c b e) x = 0 → res (.mk k t ix (foldV k v) c b' e') x' = 0
theorem flow_res {p : Pg} {vs ar : List Int} : ResOK vs ar p (flowR vs ar) := by
 intro k t ix v c b e b' e' x x' hv hx h
 have hl := (foldV_lab (vs := vs) (ar := ar) hv).1
 unfold flowR storedN at h ⊢
 simp only [St1.kind, St1.target, St1.value, St1.index] at h ⊢
 by_cases k1 : k = 1
 ·subst k1
  simp at h ⊢
  exact LeN.sub (LeN.or hl hx) h
 by_cases k2 : k = 2
 ·subst k2
  simp at h ⊢
  exact LeN.sub (LeN.or (LeN.or hl hx) LeN.rfl) h
 by_cases k5 : k = 5
 ·subst k5
  simp [trustL] at h ⊢
  refine ⟨hl 1 h.1, ?_⟩
  exact LeN.zero (by rw [← h.2]; exact hx)
 ·simp [k1, k2, k5]
theorem leak_res {p : Pg} {vs ar : List Int} : ResOK vs ar p (leakR vs ar) := by
 intro k t ix v c b e b' e' x x' hv hx h
 have hl := foldV_lab (vs := vs) (ar := ar) hv
 obtain ⟨h1, h2, h3⟩ := leak_spec h
 simp only [St1.kind, St1.value, St1.index] at h1 h2 h3
 have g3 := hl.2 h3
 have g1 : ¬ (k = 3 ∧ secL (labN vs ar 5 (foldV k v)) = true) := fun ⟨hk, hs⟩ => by
  have := hl.1 0 (h1 hk)
  unfold secL at hs
  rw [this] at hs; simp at hs
 have g2 : ¬ ((k = 2 ∧ secL (labN vs ar 5 ix) = true) ∨ secE vs ar 5 (foldV k v) = true) := by
  rintro (⟨hk, hs⟩ | hs)
  ·rw [h2 hk] at hs; simp at hs
  ·rw [g3] at hs; simp at hs
 show (if k = 3 ∧ secL (labN vs ar 5 (foldV k v)) = true then 3 else if (k = 2 ∧ secL (labN vs ar 5 ix) = true) ∨ secE vs ar 5 (foldV k v) = true then (4 : Int) else 0) = 0
 rw [if_neg g1, if_neg g2]
theorem fine_up {p : Pg} {vs ar : List Int} {res : St1 → Nat → Int} : ∀ (d c : Nat) (l : List St1), (∀ s ∈ l, stmtOK p d s = true) → fineL res vs ar d c l = true → fineL res vs ar (d + 1) c l = true
 | 0, c, l, hok, _ => by
  cases l with
  | nil => simp [fineL]
  | cons a r => have := hok a (by simp); simp [stmtOK] at this
 | d + 1, c, l, hok, h => by
  rw [fineL, List.all_eq_true] at h ⊢
  intro s hs
  have g := h s hs
  simp only [Bool.and_eq_true] at g ⊢
  have hk := hok s hs
  obtain ⟨k, t, ix, v, cc, b, e⟩ := s
  obtain ⟨_, hb, he⟩ := stmtOK_succ hk
  exact ⟨⟨g.1.1, fine_up d _ b hb g.1.2⟩, fine_up d _ e he g.2⟩
theorem fine_app {vs ar : List Int} {res : St1 → Nat → Int} {d c : Nat} {a b : List St1} (h1 : fineL res vs ar d c a = true) (h2 : fineL res vs ar d c b = true) : fineL res vs ar d c (a ++ b) = true := by
 cases d with
 | zero => rfl
 | succ d =>
  rw [fineL, List.all_eq_true] at *
  exact fun s hs => (List.mem_append.1 hs).elim (h1 s) (h2 s)
theorem fine_fold {p : Pg} {vs ar : List Int} {res : St1 → Nat → Int} (hres : ResOK vs ar p res) : ∀ (d c c' : Nat) (l : List St1), (∀ s ∈ l, stmtOK p d s = true) → fineL res vs ar d c l = true → LeN c' c → fineL res vs ar d c' (foldL (foldS d) l) = true
 | 0, _, _, _, _, _, _ => rfl
 | d + 1, c, c', [], _, _, _ => by simp [foldL, fineL]
 | d + 1, c, c', .mk k t ix v cc b e :: r, hok, h, hc => by
  have hk := hok _ (List.mem_cons_self ..)
  obtain ⟨hh, hb, he⟩ := stmtOK_succ hk
  have hf : fineL res vs ar (d + 1) c r = true := by
   rw [fineL, List.all_eq_true] at h ⊢
   exact fun s hs => h s (List.mem_cons_of_mem _ hs)
  have h0 : res (.mk k t ix v cc b e) c = 0 ∧ fineL res vs ar d (ctxI vs ar (.mk k t ix v cc b e) c) b = true ∧ fineL res vs ar d (ctxI vs ar (.mk k t ix v cc b e) c) e = true := by
   rw [fineL, List.all_eq_true] at h
   have := h _ (List.mem_cons_self ..)
   simp only [Bool.and_eq_true, beq_iff_eq] at this
   exact ⟨this.1.1, this.1.2, this.2⟩
  have hr := fine_fold hres (d + 1) c c' r (fun s hs => hok s (List.mem_cons_of_mem _ hs)) hf hc
  rw [foldL_cons]
  refine fine_app ?_ hr
  have hv : k ≠ 4 → CtR.shape p 5 v = true := (shapeV hk).1
  have hl := (foldV_lab (vs := vs) (ar := ar) hv).1
  have gb := foldL_ok b fun s hs => fold_stmt d s (hb s hs)
  have ge := foldL_ok e fun s hs => fold_stmt d s (he s hs)
  have ib := fun x' hx => fine_fold hres d (ctxI vs ar (.mk k t ix v cc b e) c) x' b hb h0.2.1 hx
  have ie := fun x' hx => fine_fold hres d (ctxI vs ar (.mk k t ix v cc b e) c) x' e he h0.2.2 hx
  have hle : LeN c' (ctxI vs ar (.mk k t ix v cc b e) c) := by
   unfold ctxI; split
   ·exact hc.orl
   ·exact hc
  rw [foldS]
  have i0 := fun b' e' => hres k t ix v cc b e b' e' c c' hv hc h0.1
  generalize foldL (foldS d) b = b' at *
  generalize foldL (foldS d) e = e' at *
  unfold foldC
  split
  ·split
   ·exact fine_up d _ _ gb.1 (ib _ hle)
   ·exact fine_up d _ _ ge.1 (ie _ hle)
  split
  ·exact fine_up d _ _ gb.1 (ib _ hle)
  split
  ·simp [fineL]
  ·have hx : LeN (ctxI vs ar (.mk k t ix (foldV k v) cc b' e') c') (ctxI vs ar (.mk k t ix v cc b e) c) := by
    unfold ctxI
    by_cases k3 : k = 3
    ·simp only [St1.kind, St1.value, k3, if_true]
     rw [← k3]
     exact LeN.or hc hl
    ·simp only [St1.kind, St1.value, k3, if_false]
     exact hc
   simp only [fineL, List.all_cons, List.all_nil, Bool.and_true, Bool.and_eq_true, beq_iff_eq, St1.body, St1.els]
   exact ⟨⟨i0 b' e', ib _ hx⟩, ie _ hx⟩
theorem fold_fine {p : Pg} {res : List Int → List Int → St1 → Nat → Int} (hres : ResOK p.vars p.arrays p (res p.vars p.arrays)) (h : fineP res p = true) : fineP res (foldP p) = true := by
 obtain ⟨hok, hf⟩ := fineP_ok h
 simp only [fineP, fold_valid hok, Bool.true_and]
 exact fine_fold hres 5 0 0 p.body (body_of hok).1 hf LeN.rfl
theorem fold_strict {p : Pg} (h1 : fineP flowR p = true) (h2 : fineP leakR p = true) : (strictR (foldP p)).1 = 0 :=
 (strict_fine _).2 ⟨fold_fine flow_res h1, fold_fine leak_res h2⟩
structure In where
 op : Int
 a : Int
 b : Int
 c : Int
 d : Int
def halt : In := ⟨13, 0, 0, 0, 0⟩
def stp (X : List Ev) : Nat := X.countP fun e => e.kind == 5
end Go.Proofs.YtjjjidcbokbhpaaGreat.CtL
namespace Go.Proofs.YtjjjidcbokbhpaaGreat.CtR
open Go Go.CT CtF
open CtL (quietE isC isN binN selN foldN foldE)
theorem indexFuncC (g : Nat) (q : Ex → Bool) (xs : List Ex) (hl : xs.length ≤ 3) (hok : fnOK Tryz.prog g = true) (hg : ∀ e ∈ xs, DC Tryz.prog g [.agg e.cells] [] (fun d h => d = DB (q e) ∧ h = [])) :
 DC Tryz.prog 239 [.c (.isl 3 (Ex.cellsL xs)), .c (.clo g [])] [] (fun d h => d = DI .i64 (idxE q xs 0) ∧ h = []) := by
 have hmx := mx_eq
 have ret : ∀ (n : Int) (hp : Hp), n = idxE q xs 0 → RetOb 0 (fun d h => d = DI .i64 (idxE q xs 0) ∧ h = []) (DI .i64 n) hp := fun n hp h => RetOb.plain (d := DI .i64 _) ⟨by rw [h], rfl⟩ rfl
 generalize hR : (fun (d : D) (h : List (Option (List C))) => d = DI .i64 (idxE q xs 0) ∧ h = []) = R at ret ⊢
 clear hR
 refine dcZ Tryz.func239 ?_
 simp only [go_sem]
 ((try (refine drvZ Tryz.func239 ?_; simp only [go_sem])); ((with_reducible and_intros) <;> try exact sd))
 refine Go.loopQ (fun i : Nat => [(0, .c (.isl 3 (Ex.cellsL xs))), (1, .c (.clo g [])), (7, DI .i64 xs.length), (8, DI .i64 i)]) (fun _ => []) 1024 (fun i => i ≤ xs.length ∧ idxE q (xs.drop i) i = idxE q xs 0) (fun i => xs.length - i) ?_ 0 some [] _ ⟨Nat.zero_le _, rfl⟩ ?_
 ·intro i hi again
  rcases Nat.lt_or_ge i xs.length with hlt | hge
  ·obtain ⟨⟨k, v, ks⟩, hx⟩ : ∃ x, xs[i]? = some x := ⟨xs[i], by simp [hlt]⟩
   have hgx := hg _ (List.mem_of_getElem? hx)
   have hdrop : xs.drop i = .mk k v ks :: xs.drop (i + 1) := by
    obtain ⟨_, e⟩ := List.getElem?_eq_some_iff.1 hx
    rw [List.drop_eq_getElem_cons hlt, e]
   have hI := hi.2
   rw [hdrop] at hI
   simp only [idxE] at hI
   cases hq : q (.mk k v ks) with
   | true =>
    rw [hq] at hgx hI
    refine drvL Tryz.func239 ?_
    simp only [go_sem, hx, hlt]
    iterate 3 ((try (refine drvZ Tryz.func239 ?_; simp only [go_sem, hx, hlt])); ((with_reducible and_intros) <;> try exact sd); (try first | refine XK.p hgx hok ?_ | refine XK.gp hgx hok ?_))
    exact ret _ _ (by simpa using hI)
   | false =>
    rw [hq] at hgx hI
    refine drvL Tryz.func239 ?_
    simp only [go_sem, hx, hlt]
    iterate 4 ((try (refine drvZ Tryz.func239 ?_; simp only [go_sem, hx, hlt])); ((with_reducible and_intros) <;> try exact sd); (try first | refine XK.p hgx hok ?_ | refine XK.gp hgx hok ?_))
    refine again (i + 1) some [] _ ⟨hlt, by simpa using hI⟩ (by omega) ?_
    simp only [go_sem, TmOK, DM, DMs, CM, CMs, forall_eq, exists_eq_left, Mq, HpOK, LowOK]
    try simp
  ·have hn : ¬ i < xs.length := by omega
   refine drvL Tryz.func239 ?_
   simp only [go_sem, hn]
   iterate 3 ((try (refine drvZ Tryz.func239 ?_; simp only [go_sem, hn])); ((with_reducible and_intros) <;> try exact sd))
   refine ret _ _ ?_
   rw [← hi.2, List.drop_of_length_le hge]; rfl
 ·simp only [go_sem, TmOK, DM, DMs, CM, CMs, forall_eq, exists_eq_left, Mq, HpOK, LowOK]
  try simp
theorem containsFuncC (g : Nat) (q : Ex → Bool) (xs : List Ex) (hl : xs.length ≤ 3) (hok : fnOK Tryz.prog g = true) (hg : ∀ e ∈ xs, DC Tryz.prog g [.agg e.cells] [] (fun d h => d = DB (q e) ∧ h = [])) :
 DC Tryz.prog 221 [.c (.isl 3 (Ex.cellsL xs)), .c (.clo g [])] [] (fun d h => d = DB (xs.any q) ∧ h = []) := by
 have hif := indexFuncC g q xs hl hok hg
 have hia := idxE_any q xs 0 (by omega)
 rw [← hia]
 generalize idxE q xs 0 = n at *
 refine dcZ Tryz.func221 ?_
 simp only [go_sem]
 iterate 3 ((try (refine drvZ Tryz.func221 ?_; simp only [go_sem])); ((with_reducible and_intros) <;> try exact sd); (try first | refine XK.p hif ok239 ?_ | refine XK.gp hif ok239 ?_))
 exact RetOb.plain (d := DB _) ⟨rfl, rfl⟩ rfl
theorem readsI : ∀ (d : Nat) (e : Ex) (p : Pg), shape p d e = true → DC Tryz.prog 175 [.agg e.cells] [] (fun r h => r = DB (!quietE d e) ∧ h = []) := by
 have hmx := mx_eq
 intro d
 induction d with
 | zero => intro e p h; simp [shape] at h
 | succ d ih =>
  intro e p hsh
  obtain ⟨k, v, ks⟩ := e
  obtain ⟨g1, g2, g3⟩ := shape_succ hsh
  obtain ⟨hl3, hla, hv0, hv1⟩ := fits_len g1
  have hcf := containsFuncC 175 (fun e => !quietE d e) ks hl3 ok175 (fun e he => ih e p (g2 e he))
  have ret : ∀ (b : Bool) (hp : Hp), b = (!quietE (d + 1) (.mk k v ks)) → RetOb 0 (fun r h => r = DB (!quietE (d + 1) (.mk k v ks)) ∧ h = []) (DB b) hp := fun b hp h => RetOb.plain (d := DB _) ⟨by rw [h], rfl⟩ rfl
  generalize hR : (fun (r : D) (h : List (Option (List C))) => r = DB (!quietE (d + 1) (.mk k v ks)) ∧ h = []) = R at ret ⊢
  clear hR
  have hq : (!quietE (d + 1) (.mk k v ks)) = (k == 3 || ks.any fun e => !quietE d e) := by
   simp only [quietE]
   cases hk : k == 3 <;> simp [List.any_eq_not_all_not]
  rw [hq] at ret
  generalize (ks.any fun e => !quietE d e) = B at *
  by_cases hk : k = 3
  ·subst hk
   refine dcZ Tryz.func175 ?_
   simp only [go_sem]
   iterate 4 ((try (refine drvZ Tryz.func175 ?_; simp only [go_sem])); ((with_reducible and_intros) <;> try exact sd); (try first | refine XK.gs (DB false) ?_ | refine XK.p hcf ok221 ?_ | refine XK.gp hcf ok221 ?_))
   exact ret _ _ (by simp)
  ·have e3 : (k == 3) = false := by simp [hk]
   refine dcZ Tryz.func175 ?_
   simp only [go_sem, e3, hk]
   iterate 4 ((try (refine drvZ Tryz.func175 ?_; simp only [go_sem, e3, hk])); ((with_reducible and_intros) <;> try exact sd); (try first | refine XK.p hcf ok221 ?_ | refine XK.gp hcf ok221 ?_))
   exact ret _ _ (by simp [e3])
theorem isNumberI (e : Ex) (n : Int) : DC Tryz.prog 178 [.agg e.cells, DI .i64 n] [] (fun d h => d = DB (isN e n) ∧ h = []) := by
 obtain ⟨k, v, ks⟩ := e
 refine dc_of_go Tryz.func178 rfl (by simp) ?_
 refine drv_sound (n := 100) (rs := _) Tryz.func178 mo rfl none _ _ ?_
 simp only [go_sem]
 repeat' (first | with_reducible apply And.intro | with_reducible intro _)
 all_goals first | omega | skip
 all_goals refine RetOb.plain (d := DB _) ⟨?_, rfl⟩ rfl
 all_goals simp [DB, isN, Ex.kind, Ex.value]
theorem l8Known (e : Ex) (n : Int) : DC Tryz.prog 232 [.agg e.cells, DI .i64 n] [] (fun d h => d = DB (isN e n) ∧ h = []) := by
 obtain ⟨k, v, ks⟩ := e
 refine dc_of_go Tryz.func232 rfl (by simp) ?_
 refine drv_sound (n := 100) (rs := _) Tryz.func232 mo rfl none _ _ ?_
 simp only [go_sem]
 repeat' (first | with_reducible apply And.intro | with_reducible intro _)
 all_goals first | omega | skip
 all_goals refine RetOb.plain (d := DB _) ⟨?_, rfl⟩ rfl
 all_goals simp [DB, isN, Ex.kind, Ex.value]
theorem l8Quiet : ∀ (d : Nat) (e : Ex) (p : Pg), shape p d e = true → DC Tryz.prog 230 [.agg e.cells] [] (fun r h => r = DB (quietE d e) ∧ h = []) := by
 have hmx := mx_eq
 intro d
 induction d with
 | zero => intro e p h; simp [shape] at h
 | succ d ih =>
  intro e p hsh
  obtain ⟨k, v, ks⟩ := e
  obtain ⟨g1, g2, g3⟩ := shape_succ hsh
  obtain ⟨hl3, hla, hv0, hv1⟩ := fits_len g1
  have ret : ∀ (b : Bool) (hp : Hp), b = quietE (d + 1) (.mk k v ks) → RetOb 0 (fun r h => r = DB (quietE (d + 1) (.mk k v ks)) ∧ h = []) (DB b) hp := fun b hp h => RetOb.plain (d := DB _) ⟨by rw [h], rfl⟩ rfl
  generalize hR : (fun (r : D) (h : List (Option (List C))) => r = DB (quietE (d + 1) (.mk k v ks)) ∧ h = []) = R at ret ⊢
  clear hR
  simp only [quietE] at ret
  by_cases hk : k = 3
  ·subst hk
   refine dcZ Tryz.func230 ?_
   simp only [go_sem]
   iterate 2 ((try (refine drvZ Tryz.func230 ?_; simp only [go_sem])); ((with_reducible and_intros) <;> try exact sd))
   exact ret _ _ (by simp)
  ·have e3 : (k == 3) = false := by simp [hk]
   simp only [e3, Bool.not_false, Bool.true_and] at ret
   refine dcZ Tryz.func230 ?_
   simp only [go_sem, e3, hk]
   iterate 2 ((try (refine drvZ Tryz.func230 ?_; simp only [go_sem, e3, hk])); ((with_reducible and_intros) <;> try exact sd))
   generalize hB : ks.all (quietE d) = B at *
   refine Go.loopQ (fun i : Nat => [(1, .c (.ptr 0 0)), (3, DI .i64 i)]) (fun i => [(0, some (Ex.cells (.mk k v ks)))])
    4096 (fun i => i ≤ ks.length ∧ B = (ks.drop i).all (quietE d)) (fun i => ks.length - i) ?_ 0 some [] _ ⟨Nat.zero_le _, hB.symm⟩ ?_
   ·intro i hi again
    rcases Nat.lt_or_ge i ks.length with hlt | hge
    ·obtain ⟨⟨k', v', ks'⟩, hx⟩ : ∃ x, ks[i]? = some x := ⟨ks[i], by simp [hlt]⟩
     have hI := hi.2
     obtain ⟨_, he⟩ := List.getElem?_eq_some_iff.1 hx
     rw [List.drop_eq_getElem_cons hlt, he, List.all_cons] at hI
     have hc := ih _ p (g2 _ (List.mem_of_getElem? hx))
     cases hq : quietE d (.mk k' v' ks') with
     | false =>
      rw [hq] at hc hI
      refine drvL Tryz.func230 ?_
      simp only [go_sem, hx, hlt]
      iterate 5 ((try (refine drvZ Tryz.func230 ?_; simp only [go_sem, hx, hlt])); ((with_reducible and_intros) <;> try exact sd); (try first | refine XK.p hc ok230 ?_ | refine XK.gp hc ok230 ?_))
      exact ret _ _ (by rw [hI]; rfl)
     | true =>
      rw [hq] at hc hI
      refine drvL Tryz.func230 ?_
      simp only [go_sem, hx, hlt]
      iterate 6 ((try (refine drvZ Tryz.func230 ?_; simp only [go_sem, hx, hlt])); ((with_reducible and_intros) <;> try exact sd); (try first | refine XK.p hc ok230 ?_ | refine XK.gp hc ok230 ?_))
      refine again (i + 1) some [] _ ⟨hlt, by rw [hI]; rfl⟩ (by omega) ?_
      simp only [go_sem, TmOK, DM, DMs, CM, CMs, forall_eq, exists_eq_left, Mq, HpOK, LowOK]
      try simp
    ·have hn : ¬ i < ks.length := by omega
     refine drvL Tryz.func230 ?_
     simp only [go_sem, hn]
     iterate 3 ((try (refine drvZ Tryz.func230 ?_; simp only [go_sem, hn])); ((with_reducible and_intros) <;> try exact sd))
     refine ret _ _ ?_
     rw [hi.2, List.drop_of_length_le hge]; rfl
   ·simp only [go_sem, TmOK, DM, DMs, CM, CMs, forall_eq, exists_eq_left, Mq, HpOK, LowOK]
    try simp
end Go.Proofs.YtjjjidcbokbhpaaGreat.CtR
namespace Go.Proofs.YtjjjidcbokbhpaaGreat.CtD
open Go Go.CT CtF CtR
open CtL (quietE isC isN binN selN foldN foldE cE)
theorem nodeB {p : Pg} {d : Nat} (k v : Int) (a b : Ex) (hk4 : 4 ≤ k) (hk10 : k ≤ 10) (ha : CtR.shape p d a = true) (hb : CtR.shape p d b = true) :
 DC Tryz.prog 182 [.agg (Ex.cells (.mk k v [a, b]))] [] (fun r h => r = .agg (binN k v a b).cells ∧ h = []) := by
 have hmx := mx_eq
 have ret : ∀ (e : Ex) (cs : List C) (hp : Hp), e = binN k v a b → cs = e.cells → RetOb 0 (fun r h => r = .agg (binN k v a b).cells ∧ h = []) (.agg cs) hp := fun e cs hp h hc => RetOb.kfA ⟨by rw [hc, h], rfl⟩ (by rw [hc]; exact ex_kf e)
 generalize hR : (fun (r : D) (h : List (Option (List C))) => r = .agg (binN k v a b).cells ∧ h = []) = R at ret ⊢
 clear hR
 have kc := fun h => CtL.isC_form ha h
 have kc2 := fun h => CtL.isC_form hb h
 have ka0 := l8Known a 0
 have ka1 := l8Known a 1
 have kb0 := l8Known b 0
 have kb1 := l8Known b 1
 have n11 : (k = 11) = False := eq_false (by omega)
 have m11 : (k == 11) = false := by simp; omega
 have lt4 : (k < 4) = False := eq_false (by omega)
 obtain ⟨ak, av, az⟩ := a
 obtain ⟨bk, bv, bz⟩ := b
 by_cases hc : ak = 1 ∧ bk = 1
 ·obtain ⟨rfl, rfl⟩ := hc
  obtain ⟨x, hx, x0, x1⟩ := kc rfl
  obtain ⟨y, hy, y0, y1⟩ := kc2 rfl
  cases hx; cases hy
  have hop := CtR.l3Bin k av bv ⟨x0, x1⟩ ⟨y0, y1⟩
  have hcs := constS (bin k av bv)
  simp only [cE, Ex.cells, Ex.cellsL] at hcs
  refine dcZ Tryz.func182 ?_
  simp only [go_sem, Ex.cellsL, n11, m11, lt4]
  iterate 8 ((try (refine drvZ Tryz.func182 ?_; simp only [go_sem, Ex.cellsL, n11, m11, lt4])); ((with_reducible and_intros) <;> try exact sd); (try first | refine XK.p hop ok231 ?_ | refine XK.gp hop ok231 ?_ | refine XK.p hcs ok45 ?_ | refine XK.gp hcs ok45 ?_))
  exact ret (cE (bin k av bv)) _ _ (by simp [binN, isC, Ex.kind, Ex.value, CtL.cE]) (by simp [cE, Ex.cells, Ex.cellsL])
 have hcb : (ak == 1 && bk == 1) = false := by simpa using hc
 have hb0 : (isC (.mk ak av az) && isC (.mk bk bv bz)) = false := hcb
 by_cases h48 : k = 4 ∨ k = 8
 ·have hS : (k == 4 || k == 8) = true := by simpa using h48
  have e6 : (k == 6) = false := by simp; omega
  have f6 : (k = 6) = False := eq_false (by omega)
  have e5 : (k == 5) = false := by simp; omega
  cases hn : isN (.mk ak av az) 0 with
  | true =>
   rw [hn] at ka0
   refine dcZ Tryz.func182 ?_
   simp only [go_sem, Ex.cellsL, n11, m11, lt4, hcb, hS, e6, f6]
   iterate 16 ((try (refine drvZ Tryz.func182 ?_; simp only [go_sem, Ex.cellsL, n11, m11, lt4, hcb, hS, e6, f6])); ((with_reducible and_intros) <;> try exact sd); (try first | refine XK.p ka0 ok232 ?_ | refine XK.gp ka0 ok232 ?_ | refine XK.gs (DB false) ?_))
   exact ret (.mk bk bv bz) _ _ (by simp [binN, hb0, hn, hS]) (by simp [Ex.cells, Ex.cellsL])
  | false =>
   rw [hn] at ka0
   cases hm : isN (.mk bk bv bz) 0 with
   | true =>
    rw [hm] at kb0
    refine dcZ Tryz.func182 ?_
    simp only [go_sem, Ex.cellsL, n11, m11, lt4, hcb, hS, e6, f6]
    iterate 16 ((try (refine drvZ Tryz.func182 ?_; simp only [go_sem, Ex.cellsL, n11, m11, lt4, hcb, hS, e6, f6])); ((with_reducible and_intros) <;> try exact sd); (try first | refine XK.p ka0 ok232 ?_ | refine XK.gp ka0 ok232 ?_ | refine XK.p kb0 ok232 ?_ | refine XK.gp kb0 ok232 ?_ | refine XK.gs (DB false) ?_))
    exact ret (.mk ak av az) _ _ (by simp [binN, hb0, hn, hm, hS, e6]) (by simp [Ex.cells, Ex.cellsL])
   | false =>
    rw [hm] at kb0
    refine dcZ Tryz.func182 ?_
    simp only [go_sem, Ex.cellsL, n11, m11, lt4, hcb, hS, e6, f6]
    iterate 16 ((try (refine drvZ Tryz.func182 ?_; simp only [go_sem, Ex.cellsL, n11, m11, lt4, hcb, hS, e6, f6])); ((with_reducible and_intros) <;> try exact sd); (try first | refine XK.p ka0 ok232 ?_ | refine XK.gp ka0 ok232 ?_ | refine XK.p kb0 ok232 ?_ | refine XK.gp kb0 ok232 ?_ | refine XK.gs (DB false) ?_))
    exact ret (.mk k v [.mk ak av az, .mk bk bv bz]) _ _ (by simp [binN, hb0, hn, hm, hS, e6]) (by simp [Ex.cells, Ex.cellsL])
 by_cases h6 : k = 6
 ·subst h6
  cases hn : isN (.mk ak av az) 1 with
  | true =>
   rw [hn] at ka1
   refine dcZ Tryz.func182 ?_
   simp only [go_sem, Ex.cellsL, n11, m11, lt4, hcb]
   iterate 16 ((try (refine drvZ Tryz.func182 ?_; simp only [go_sem, Ex.cellsL, n11, m11, lt4, hcb])); ((with_reducible and_intros) <;> try exact sd); (try first | refine XK.p ka1 ok232 ?_ | refine XK.gp ka1 ok232 ?_ | refine XK.gs (DB false) ?_))
   exact ret (.mk bk bv bz) _ _ (by simp [binN, hb0, hn]) (by simp [Ex.cells, Ex.cellsL])
  | false =>
   rw [hn] at ka1
   cases hm : isN (.mk bk bv bz) 1 with
   | true =>
    rw [hm] at kb1
    refine dcZ Tryz.func182 ?_
    simp only [go_sem, Ex.cellsL, n11, m11, lt4, hcb]
    iterate 16 ((try (refine drvZ Tryz.func182 ?_; simp only [go_sem, Ex.cellsL, n11, m11, lt4, hcb])); ((with_reducible and_intros) <;> try exact sd); (try first | refine XK.p ka1 ok232 ?_ | refine XK.gp ka1 ok232 ?_ | refine XK.p kb1 ok232 ?_ | refine XK.gp kb1 ok232 ?_ | refine XK.gs (DB false) ?_))
    exact ret (.mk ak av az) _ _ (by simp [binN, hb0, hn, hm]) (by simp [Ex.cells, Ex.cellsL])
   | false =>
    rw [hm] at kb1
    refine dcZ Tryz.func182 ?_
    simp only [go_sem, Ex.cellsL, n11, m11, lt4, hcb]
    iterate 16 ((try (refine drvZ Tryz.func182 ?_; simp only [go_sem, Ex.cellsL, n11, m11, lt4, hcb])); ((with_reducible and_intros) <;> try exact sd); (try first | refine XK.p ka1 ok232 ?_ | refine XK.gp ka1 ok232 ?_ | refine XK.p kb1 ok232 ?_ | refine XK.gp kb1 ok232 ?_ | refine XK.gs (DB false) ?_))
    exact ret (.mk 6 v [.mk ak av az, .mk bk bv bz]) _ _ (by simp [binN, hb0, hn, hm]) (by simp [Ex.cells, Ex.cellsL])
 by_cases h5 : k = 5
 ·subst h5
  cases hm : isN (.mk bk bv bz) 0 with
  | true =>
   rw [hm] at kb0
   refine dcZ Tryz.func182 ?_
   simp only [go_sem, Ex.cellsL, n11, m11, lt4, hcb]
   iterate 16 ((try (refine drvZ Tryz.func182 ?_; simp only [go_sem, Ex.cellsL, n11, m11, lt4, hcb])); ((with_reducible and_intros) <;> try exact sd); (try first | refine XK.p kb0 ok232 ?_ | refine XK.gp kb0 ok232 ?_ | refine XK.gs (DB false) ?_))
   exact ret (.mk ak av az) _ _ (by simp [binN, hb0, hm]) (by simp [Ex.cells, Ex.cellsL])
  | false =>
   rw [hm] at kb0
   refine dcZ Tryz.func182 ?_
   simp only [go_sem, Ex.cellsL, n11, m11, lt4, hcb]
   iterate 16 ((try (refine drvZ Tryz.func182 ?_; simp only [go_sem, Ex.cellsL, n11, m11, lt4, hcb])); ((with_reducible and_intros) <;> try exact sd); (try first | refine XK.p kb0 ok232 ?_ | refine XK.gp kb0 ok232 ?_ | refine XK.gs (DB false) ?_))
   exact ret (.mk 5 v [.mk ak av az, .mk bk bv bz]) _ _ (by simp [binN, hb0, hm]) (by simp [Ex.cells, Ex.cellsL])
 have e4 : (k == 4) = false := by simp; omega
 have e8 : (k == 8) = false := by simp; omega
 have e6 : (k == 6) = false := by simp; omega
 have e5 : (k == 5) = false := by simp; omega
 have f4 : (k = 4) = False := eq_false (by omega)
 have f8 : (k = 8) = False := eq_false (by omega)
 have f6 : (k = 6) = False := eq_false (by omega)
 have f5 : (k = 5) = False := eq_false (by omega)
 refine dcZ Tryz.func182 ?_
 simp only [go_sem, Ex.cellsL, n11, m11, lt4, hcb, e4, e8, e6, e5, f4, f8, f6, f5]
 iterate 16 ((try (refine drvZ Tryz.func182 ?_; simp only [go_sem, Ex.cellsL, n11, m11, lt4, hcb, e4, e8, e6, e5, f4, f8, f6, f5])); ((with_reducible and_intros) <;> try exact sd); (try first | refine XK.gs (DB false) ?_))
 exact ret (.mk k v [.mk ak av az, .mk bk bv bz]) _ _ (by simp [binN, hb0, e4, e5, e6, e8]) (by simp [Ex.cells, Ex.cellsL])
theorem nodeS3 {p : Pg} {d : Nat} (v : Int) (a b c : Ex) (hb : CtR.shape p d b = true) (hc : CtR.shape p d c = true) :
 DC Tryz.prog 182 [.agg (Ex.cells (.mk 11 v [a, b, c]))] [] (fun r h => r = .agg (selN d v a b c).cells ∧ h = []) := by
 have hmx := mx_eq
 have ret : ∀ (e : Ex) (cs : List C) (hp : Hp), e = selN d v a b c → cs = e.cells → RetOb 0 (fun r h => r = .agg (selN d v a b c).cells ∧ h = []) (.agg cs) hp := fun e cs hp h hc => RetOb.kfA ⟨by rw [hc, h], rfl⟩ (by rw [hc]; exact ex_kf e)
 generalize hR : (fun (r : D) (h : List (Option (List C))) => r = .agg (selN d v a b c).cells ∧ h = []) = R at ret ⊢
 clear hR
 have qb := l8Quiet d b p hb
 have qc := l8Quiet d c p hc
 obtain ⟨ak, av, az⟩ := a
 unfold selN at ret
 by_cases h1 : ak = 1
 ·subst h1
  have i1 : isC (.mk 1 av az) = true := rfl
  have i2 : (Ex.mk 1 av az).value = av := rfl
  rw [i1, i2] at ret
  cases hqb : quietE d b with
  | false =>
   rw [hqb] at qb ret
   obtain ⟨bk, bv, bz⟩ := b
   obtain ⟨ck, cv, cz⟩ := c
   refine dcZ Tryz.func182 ?_
   simp only [go_sem, Ex.cellsL]
   iterate 8 ((try (refine drvZ Tryz.func182 ?_; simp only [go_sem, Ex.cellsL])); ((with_reducible and_intros) <;> try exact sd); (try first | refine XK.p qb ok230 ?_ | refine XK.gp qb ok230 ?_ | refine XK.gs (DB false) ?_))
   exact ret (.mk 11 v [.mk 1 av az, .mk bk bv bz, .mk ck cv cz]) _ _ (by simp) (by simp [Ex.cells, Ex.cellsL])
  | true =>
   rw [hqb] at qb ret
   cases hqc : quietE d c with
   | false =>
    rw [hqc] at qc ret
    obtain ⟨bk, bv, bz⟩ := b
    obtain ⟨ck, cv, cz⟩ := c
    refine dcZ Tryz.func182 ?_
    simp only [go_sem, Ex.cellsL]
    iterate 8 ((try (refine drvZ Tryz.func182 ?_; simp only [go_sem, Ex.cellsL])); ((with_reducible and_intros) <;> try exact sd); (try first | refine XK.p qb ok230 ?_ | refine XK.gp qb ok230 ?_ | refine XK.p qc ok230 ?_ | refine XK.gp qc ok230 ?_))
    exact ret (.mk 11 v [.mk 1 av az, .mk bk bv bz, .mk ck cv cz]) _ _ (by simp) (by simp [Ex.cells, Ex.cellsL])
   | true =>
    rw [hqc] at qc ret
    obtain ⟨bk, bv, bz⟩ := b
    obtain ⟨ck, cv, cz⟩ := c
    by_cases h0 : av = 0
    ·subst h0
     refine dcZ Tryz.func182 ?_
     simp only [go_sem, Ex.cellsL]
     iterate 10 ((try (refine drvZ Tryz.func182 ?_; simp only [go_sem, Ex.cellsL])); ((with_reducible and_intros) <;> try exact sd); (try first | refine XK.p qb ok230 ?_ | refine XK.gp qb ok230 ?_ | refine XK.p qc ok230 ?_ | refine XK.gp qc ok230 ?_))
     exact ret (.mk ck cv cz) _ _ (by simp) (by simp [Ex.cells, Ex.cellsL])
    ·have g0 : (av != 0) = true := by simp [h0]
     refine dcZ Tryz.func182 ?_
     simp only [go_sem, Ex.cellsL, g0, h0]
     iterate 10 ((try (refine drvZ Tryz.func182 ?_; simp only [go_sem, Ex.cellsL, g0, h0])); ((with_reducible and_intros) <;> try exact sd); (try first | refine XK.p qb ok230 ?_ | refine XK.gp qb ok230 ?_ | refine XK.p qc ok230 ?_ | refine XK.gp qc ok230 ?_))
     exact ret (.mk bk bv bz) _ _ (by simp [h0]) (by simp [Ex.cells, Ex.cellsL])
 ·have i1 : isC (.mk ak av az) = false := by simp [isC, Ex.kind, h1]
  have g1 : (ak != 1) = true := by simp [h1]
  rw [i1] at ret
  obtain ⟨bk, bv, bz⟩ := b
  obtain ⟨ck, cv, cz⟩ := c
  refine dcZ Tryz.func182 ?_
  simp only [go_sem, Ex.cellsL, h1, g1]
  iterate 8 ((try (refine drvZ Tryz.func182 ?_; simp only [go_sem, Ex.cellsL, h1, g1])); ((with_reducible and_intros) <;> try exact sd); (try first | refine XK.gs (DB false) ?_))
  exact ret (.mk 11 v [.mk ak av az, .mk bk bv bz, .mk ck cv cz]) _ _ (by simp) (by simp [Ex.cells, Ex.cellsL])
theorem nodeS0 (k v : Int) (ks : List Ex) (h : k < 4) : DC Tryz.prog 182 [.agg (Ex.cells (.mk k v ks))] [] (fun r h => r = .agg (Ex.cells (.mk k v ks)) ∧ h = []) := by
 have n11 : (k = 11) = False := eq_false (by omega)
 have m11 : (k == 11) = false := by simp; omega
 have lt4 : (k < 4) = True := eq_true h
 refine dcZ Tryz.func182 ?_
 simp only [go_sem, n11, m11, lt4]
 iterate 4 ((try (refine drvZ Tryz.func182 ?_; simp only [go_sem, n11, m11, lt4])); ((with_reducible and_intros) <;> try exact sd))
 exact RetOb.kfA ⟨rfl, rfl⟩ (ex_kf (.mk k v ks))
theorem foldSE : ∀ (d : Nat) (e : Ex) (p : Pg), CtR.shape p d e = true → DC Tryz.prog 121 [.agg e.cells] [] (fun r h => r = .agg (foldE d e).cells ∧ h = []) := by
 have hmx := mx_eq
 intro d
 induction d with
 | zero => intro e p h; simp [CtR.shape] at h
 | succ d ih =>
  intro e p hsh
  obtain ⟨k, v, ks⟩ := e
  obtain ⟨g1, g2, g3⟩ := shape_succ hsh
  obtain ⟨hl3, hla, hv0, hv1⟩ := fits_len g1
  have hN : DC Tryz.prog 182 [.agg (Ex.cells (.mk k v (ks.map (foldE d))))] [] (fun r h => r = .agg (foldE (d + 1) (.mk k v ks)).cells ∧ h = []) := by
   rcases CtL.shape_form hsh with ⟨hk, rfl⟩ | ⟨a, rfl, rfl, ha, hat⟩ | ⟨a, b, k4, k10, rfl, ha, hb⟩ | ⟨a, b, c, rfl, rfl, ha, hb, hc⟩
   ·exact nodeS0 k v [] (by omega)
   ·exact nodeS0 3 v [foldE d a] (by omega)
   ·exact nodeB k v (foldE d a) (foldE d b) k4 k10 (CtL.fold_shape d a ha).1 (CtL.fold_shape d b hb).1
   ·exact nodeS3 v (foldE d a) (foldE d b) (foldE d c) (CtL.fold_shape d b hb).1 (CtL.fold_shape d c hc).1
  generalize foldE (d + 1) (.mk k v ks) = RE at *
  obtain ⟨rk, rv, rz⟩ := RE
  refine dcZ Tryz.func121 ?_
  simp only [go_sem]
  iterate 2 ((try (refine drvZ Tryz.func121 ?_; simp only [go_sem])); ((with_reducible and_intros) <;> try exact sd))
  refine Go.loopQ (fun i : Nat => [(1, .c (.ptr 0 0)), (2, .c (.ptr 64 0)), (3, .c (.ptr 448 0)), (4, DI .i64 i)])
   (fun i => [(0, some (Ex.cells (.mk k v ks))), (64, some [I64 0, I64 0, .v (.slice none 0 0)]), (448, some [I64 k, I64 v, .msl 67 3 0 i]), (67, some (exC ((ks.take i).map (foldE d))))])
   4096 (fun i => i ≤ ks.length) (fun i => ks.length - i) ?_ 0 (fun j => if j = 67 then none else some j) [] _ (Nat.zero_le _) ?_
  ·intro i hi again
   rcases Nat.lt_or_ge i ks.length with hlt | hge
   ·obtain ⟨⟨k', v', ks'⟩, hx⟩ : ∃ x, ks[i]? = some x := ⟨ks[i], by simp [hlt]⟩
    have hic := ih _ p (g2 _ (List.mem_of_getElem? hx))
    have hsx : (ks.take (i + 1)).map (foldE d) = (ks.take i).map (foldE d) ++ [foldE d (.mk k' v' ks')] := by rw [List.take_add_one, hx]; simp
    have hel : (exC ((ks.take i).map (foldE d))).length = i * 3 := by rw [exC_len, List.length_map, List.length_take]; congr 1; omega
    generalize (ks.take i).map (foldE d) = T at *
    generalize foldE d (.mk k' v' ks') = E at *
    obtain ⟨ek, ev, eks⟩ := E
    refine drvL Tryz.func121 ?_
    simp only [go_sem, hx, hlt]
    iterate 6 ((try (refine drvZ Tryz.func121 ?_; simp only [go_sem, hx, hlt, hel])); ((with_reducible and_intros) <;> try exact sd); (try first | refine XK.p hic ok121 ?_ | refine XK.gp hic ok121 ?_))
    refine again (i + 1) (fun j => if j = 67 then some 4992 else some j) [] _ hlt (by omega) ?_
    rw [hsx]
    simp only [go_sem, TmOK, DM, DMs, CM, CMs, forall_eq, exists_eq_left, Mq, HpOK, LowOK, exC_snoc]
    simp
    exact CMs.kf (kf_app (exC_kf _) (by simp [kf]))
   ·have hn2 : ¬ i < ks.length := by omega
    obtain rfl : i = ks.length := by omega
    rw [List.take_length]
    refine Go.subQ (r := some) (fz := [67]) (tl := [(1, .c (.ptr 0 0)), (2, .c (.ptr 64 0)), (3, .c (.ptr 448 0)), (4, DI .i64 ks.length)])
     (hl := [(0, some (Ex.cells (.mk k v ks))), (64, some [I64 0, I64 0, .v (.slice none 0 0)]), (448, some (Ex.cells (.mk k v (ks.map (foldE d)))))]) 4096 ?_ ?_
    ·have hkl : (ks.map (foldE d)).length = ks.length := List.length_map _
     generalize ks.map (foldE d) = ki at *
     have g1 : (Ex.cellsL ki).flatten = exC ki := by rw [Ex.cellsL_eq]; rfl
     have g2 : ∀ x ∈ Ex.cellsL ki, x.length = 3 := fun x hx => by rw [Ex.cellsL_eq] at hx; obtain ⟨e, _, rfl⟩ := List.mem_map.1 hx; exact Ex.cells_len e
     have g3 : ∀ x ∈ Ex.cellsL ki, ∀ c ∈ x, kf c = true := fun x hx => by rw [Ex.cellsL_eq] at hx; obtain ⟨e, _, rfl⟩ := List.mem_map.1 hx; exact ex_kf e
     simp only [go_sem, TmOK, DM, DMs, CM, CMs, forall_eq, exists_eq_left, Mq, HpOK, LowOK, hOf]
     simp [g1, hkl, upd]
     exact ⟨g2, g3⟩
    generalize ks.map (foldE d) = ki at *
    refine drvL Tryz.func121 ?_
    simp only [go_sem, hn2]
    iterate 5 ((try (refine drvZ Tryz.func121 ?_; simp only [go_sem, hn2])); ((with_reducible and_intros) <;> try exact sd); (try first | refine XK.p hN ok182 ?_ | refine XK.gp hN ok182 ?_))
    exact RetOb.kfA ⟨rfl, rfl⟩ (ex_kf (.mk rk rv rz))
  ·simp only [go_sem, TmOK, DM, DMs, CM, CMs, forall_eq, exists_eq_left, Mq, HpOK, LowOK]
   simp [exC]
end Go.Proofs.YtjjjidcbokbhpaaGreat.CtD
