/- Contracts of functions of the program, one behind the other, as plain data: what each call returns and which blocks it leaves. -/
import Derived.Test.YtjjjidcbokbhpaaGreatJFacts
import Derived.Test.YtjjjidcbokbhpaaGreatJAh
import Derived.Test.YtjjjidcbokbhpaaGreatJAj
import Derived.Test.YtjjjidcbokbhpaaGreatJAk
import Derived.Test.YtjjjidcbokbhpaaGreatJAn
import Derived.Test.YtjjjidcbokbhpaaGreatJAo
import Derived.Test.YtjjjidcbokbhpaaGreatJAm
import Derived.Test.YtjjjidcbokbhpaaGreatJAl
set_option linter.unusedVariables false
set_option linter.unusedSimpArgs false
set_option maxHeartbeats 16000000
set_option maxRecDepth 100000
namespace Go.Proofs.YtjjjidcbokbhpaaGreat.CtD
open Go Go.CT CtF CtR
theorem fits_take {k : IntKind} {bs : List Int} (h : Fits k bs) (n : Nat) : Fits k (bs.take n) := fun x hx => h x (List.mem_of_mem_take hx)
theorem renCs_rdr (r : Nat → Nat) (bs : List Int) (n : Int) : renCs r (rdr bs n) = rdr bs n := renCs_kf r _ (rdr_kf bs n)
theorem prog_len {p : Pg} (h : progOK p = true) : 1 ≤ p.vars.length ∧ p.vars.length ≤ 12 ∧ p.arrays.length ≤ 2 := by
 simp only [progOK, headsOK, Bool.and_eq_true, decide_eq_true_eq] at h
 obtain ⟨⟨⟨⟨⟨_, h1⟩, h2⟩, h3⟩, _⟩, _⟩ := h
 omega
end Go.Proofs.YtjjjidcbokbhpaaGreat.CtD
namespace Go.Proofs.YtjjjidcbokbhpaaGreat.CtR
open Go Go.CT CtF
theorem memSame_refl (m : Mm) : memSame m m = true := by simp [memSame]
theorem foldR_app (f : Mm → St1 → Mm × List Ev) : ∀ (a b : List St1) (m : Mm), foldR f m (a ++ b) = ((foldR f (foldR f m a).1 b).1, (foldR f m a).2 ++ (foldR f (foldR f m a).1 b).2)
 | [], b, m => by simp [foldR]
 | x :: r, b, m => by simp only [List.cons_append, foldR, foldR_app f r b, List.append_assoc]
theorem shape_bd (vs ar : List Int) (b1 b2 : List St1) : ∀ (d : Nat) (e : Ex), shape ⟨vs, ar, b1⟩ d e = shape ⟨vs, ar, b2⟩ d e
 | 0, _ => rfl
 | d + 1, .mk k v ks => by
  have h : shape ⟨vs, ar, b1⟩ d = shape ⟨vs, ar, b2⟩ d := funext (shape_bd vs ar b1 b2 d)
  simp only [shape, h]
  rfl
theorem right_bd (vs ar : List Int) (b1 b2 : List St1) (e : Ex) : right ⟨vs, ar, b1⟩ e = right ⟨vs, ar, b2⟩ e := by simp only [right, shape_bd vs ar b1 b2]
theorem stmtOK_bd (vs ar : List Int) (b1 b2 : List St1) : ∀ (d : Nat) (s : St1), stmtOK ⟨vs, ar, b1⟩ d s = stmtOK ⟨vs, ar, b2⟩ d s
 | 0, _ => rfl
 | d + 1, .mk k t ix v c b e => by
  have h : stmtOK ⟨vs, ar, b1⟩ d = stmtOK ⟨vs, ar, b2⟩ d := funext (stmtOK_bd vs ar b1 b2 d)
  simp only [stmtOK, headOK, right_bd vs ar b1 b2, h]
theorem foldR_congr {f g : Mm → St1 → Mm × List Ev} : ∀ (l : List St1) (m : Mm), (∀ s ∈ l, ∀ m, f m s = g m s) → foldR f m l = foldR g m l
 | [], _, _ => rfl
 | a :: r, m, h => by
  simp only [foldR, h a (by simp), foldR_congr r _ fun s hs => h s (by simp [hs])]
theorem runS_more {p : Pg} : ∀ (d : Nat) (m : Mm) (s : St1), stmtOK p d s = true → runS (d + 1) m s = runS d m s
 | 0, _, s, h => by simp [stmtOK] at h
 | d + 1, m, .mk k t ix v c b e, h => by
  obtain ⟨_, hb, he⟩ := stmtOK_succ h
  have fb : ∀ m, foldR (runS (d + 1)) m b = foldR (runS d) m b := fun m => foldR_congr b m fun s hs m => runS_more d m s (hb s hs)
  have fe : ∀ m, foldR (runS (d + 1)) m e = foldR (runS d) m e := fun m => foldR_congr e m fun s hs m => runS_more d m s (he s hs)
  rw [runS, runS]
  simp only [fb, fe]
theorem runL_more {p : Pg} {d : Nat} {m : Mm} {l : List St1} (h : ∀ s ∈ l, stmtOK p d s = true) : runL (d + 1) m l = runL d m l :=
 foldR_congr l m fun s hs m => runS_more d m s (h s hs)
theorem memOK_of {p : Pg} {m : Mm} (h : MemFits p m) : memOK p.vars p.arrays m = true := by
 simp only [memOK, vals01, arrOK, Bool.and_eq_true, decide_eq_true_eq, List.all_eq_true]
 refine ⟨⟨⟨by rw [h.nv], by rw [h.na]⟩, fun x hx => h.val x hx⟩, fun a ha => ⟨by have := (h.arr a ha).1; omega, fun x hx => (h.arr a ha).2 x hx⟩⟩
theorem runP_of {p : Pg} {m : Mm} (h1 : progOK p = true) (h2 : memOK p.vars p.arrays m = true) : runP p m = ((runL 5 m p.body).1, (runL 5 m p.body).2, true) := runP_true (by rw [h1, h2]; rfl)
theorem lsize_app (d : Nat) (a b : List St1) : lsize d (a ++ b) = lsize d a + lsize d b := by simp [lsize]
def labB (vs ar : List Int) (k v : Int) : Nat := if k = 2 then (nth vs v).toNat else if k = 3 then (nth ar v).toNat else 0
def labN (vs ar : List Int) : Nat → Ex → Nat
 | 0, _ => 0
 | d + 1, .mk k v ks => (ks.map (labN vs ar d)).foldl (fun a b => a ||| b) (labB vs ar k v)
def lab3 (l : List Int) : Prop := ∀ x ∈ l, 0 ≤ x ∧ x ≤ 3
theorem or3 {a b : Nat} (ha : a ≤ 3) (hb : b ≤ 3) : a ||| b ≤ 3 := by
 have := Nat.or_lt_two_pow (x := a) (y := b) (n := 2) (by omega) (by omega)
 omega
theorem nth_lab {l : List Int} (h : lab3 l) (v : Int) : 0 ≤ nth l v ∧ nth l v ≤ 3 := by
 unfold nth
 rw [List.getD_eq_getElem?_getD]
 cases hx : l[v.toNat]? with
 | none => simp
 | some x => simpa using h x (List.mem_of_getElem? hx)
theorem foldl_or3 : ∀ (l : List Nat) (a : Nat), a ≤ 3 → (∀ x ∈ l, x ≤ 3) → l.foldl (fun a b => a ||| b) a ≤ 3
 | [], a, h, _ => h
 | x :: r, a, h, h2 => foldl_or3 r _ (or3 h (h2 x (by simp))) fun y hy => h2 y (by simp [hy])
theorem labN_le {vs ar : List Int} (h1 : lab3 vs) (h2 : lab3 ar) : ∀ (d : Nat) (e : Ex), labN vs ar d e ≤ 3
 | 0, _ => Nat.zero_le _
 | d + 1, .mk k v ks => by
  refine foldl_or3 _ _ ?_ fun x hx => ?_
  ·unfold labB
   have := nth_lab h1 v
   have := nth_lab h2 v
   split
   ·omega
   ·split <;> omega
  ·obtain ⟨y, _, rfl⟩ := List.mem_map.1 hx
   exact labN_le h1 h2 d y
theorem lab_succ (f : Ex → Nat) (a : Nat) (ks : List Ex) (i : Nat) (x : Ex) (h : ks[i]? = some x) : ((ks.take (i + 1)).map f).foldl (fun a b => a ||| b) a = ((ks.take i).map f).foldl (fun a b => a ||| b) a ||| f x := by
 rw [List.take_add_one, h]
 simp
theorem labs_of {p : Pg} (h : progOK p = true) : lab3 p.vars ∧ lab3 p.arrays := by
 simp only [progOK, headsOK, labs, Bool.and_eq_true, decide_eq_true_eq, List.all_eq_true] at h
 exact ⟨fun x hx => h.1.1.1.2 x hx, fun x hx => h.1.1.2 x hx⟩
theorem labelI (p : Pg) (hl : p.vars.length ≤ mx) (hl2 : p.arrays.length ≤ mx) (h1 : lab3 p.vars) (h2 : lab3 p.arrays) : ∀ (d : Nat) (e : Ex), shape p d e = true → DC Tryz.prog 167 [.agg p.cells, .agg e.cells] [] (fun r h => r = DI .i64 (labN p.vars p.arrays d e) ∧ h = []) := by
 have hmx := mx_eq
 intro d
 induction d with
 | zero => intro e h; simp [shape] at h
 | succ d ih =>
  intro e hsh
  obtain ⟨k, v, ks⟩ := e
  obtain ⟨g1, g2, g3⟩ := shape_succ hsh
  obtain ⟨hl3, hla, hv0, hv1⟩ := fits_len g1
  obtain ⟨vs, ar, bd⟩ := p
  have h1 : lab3 vs := h1
  have h2 : lab3 ar := h2
  generalize hR : (fun (r : D) (h : List (Option (List C))) => r = DI .i64 (labN vs ar (d + 1) (.mk k v ks)) ∧ h = []) = R
  have hle := fun e => labN_le h1 h2 d e
  have hacc : ∀ i, ((ks.take i).map (labN vs ar d)).foldl (fun a b => a ||| b) (labB vs ar k v) ≤ 3 := fun i => by
   have := labN_le h1 h2 (d + 1) (.mk k v (ks.take i))
   exact this
  have hlb : labB vs ar k v ≤ 3 := hacc 0
  have key : k = 2 ∨ k = 3 ∨ (k ≠ 2 ∧ k ≠ 3) := by omega
  rcases key with hk | hk | ⟨hk2, hk3⟩
  ·have hv1' : v < vs.length := by subst hk; simpa [limit] using hv1
   have hx := (nth_mem (l := vs) hv0 hv1').1
   have hB : ((labB vs ar k v : Nat) : Int) = nth vs v := by have := nth_lab h1 v; simp [labB, hk]; omega
   have e2 : (k == 2) = true := by simp [hk]
   have e3 : (k == 3) = false := by simp [hk]
   have f2 : (k = 2) = True := by simp [hk]
   have f3 : (k = 3) = False := by simp [hk]
   refine dcZ Tryz.func167 ?_
   simp only [go_sem]
   iterate 4 ((try (refine drvZ Tryz.func167 ?_; simp only [go_sem, e2, e3, f2, f3, hx])); ((with_reducible and_intros) <;> try exact sd))
   refine Go.loopQ (fun i : Nat => [(2, .c (.ptr 0 0)), (5, DI .i64 (((ks.take i).map (labN vs ar d)).foldl (fun a b => a ||| b) (labB vs ar k v) : Nat)), (27, .c (.isl 3 (Ex.cellsL ks))), (28, DI .i64 ks.length), (29, DI .i64 i)]) (fun i => [(0, some (Pg.cells ⟨vs, ar, bd⟩))])
    4096 (fun i => i ≤ ks.length) (fun i => ks.length - i) ?_ 0 some [] _ (Nat.zero_le _) ?_
   ·intro i hi again
    rcases Nat.lt_or_ge i ks.length with hlt | hge
    ·obtain ⟨⟨k', v', ks'⟩, hx⟩ : ∃ x, ks[i]? = some x := ⟨ks[i], by simp [hlt]⟩
     have hsc := lab_succ (labN vs ar d) (labB vs ar k v) ks i _ hx
     have ha := hacc i
     have hb := hle (.mk k' v' ks')
     have hc := hacc (i + 1)
     rw [hsc] at hc
     generalize ((ks.take i).map (labN vs ar d)).foldl (fun a b => a ||| b) (labB vs ar k v) = acc at *
     refine drvL Tryz.func167 ?_
     simp only [go_sem, hx, hlt]
     iterate 2 ((try (refine drvZ Tryz.func167 ?_; simp only [go_sem, hx, hlt])); ((with_reducible and_intros) <;> try exact sd))
     refine XK.plain (ih (.mk k' v' ks') (g2 _ (List.mem_of_getElem? hx))) ok167 ?_ (hbT ())
     iterate 3 ((try (refine drvZ Tryz.func167 ?_; simp only [go_sem, hx, hlt])); ((with_reducible and_intros) <;> try exact sd))
     refine again (i + 1) some [] _ hlt (by omega) ?_
     simp only [go_sem, TmOK, DM, DMs, CM, CMs, forall_eq, exists_eq_left, Mq, HpOK, LowOK, hsc]
     simp
     rw [← List.map_take, hsc]
    ·have hn : ¬ i < ks.length := by omega
     obtain rfl : i = ks.length := by omega
     refine drvL Tryz.func167 ?_
     simp only [go_sem, hn, List.take_length]
     iterate 2 ((try (refine drvZ Tryz.func167 ?_; simp only [go_sem, hn, List.take_length])); ((with_reducible and_intros) <;> try exact sd))
     exact RetOb.plain (d := DI .i64 _) (by rw [← hR]; exact ⟨rfl, rfl⟩) rfl
   ·simp only [go_sem, TmOK, DM, DMs, CM, CMs, forall_eq, exists_eq_left, Mq, HpOK, LowOK, List.take_zero, List.map_nil, List.foldl_nil]
    simp [hB]
  ·have hv1' : v < ar.length := by subst hk; simpa [limit] using hv1
   have hx := (nth_mem (l := ar) hv0 hv1').1
   have hB : ((labB vs ar k v : Nat) : Int) = nth ar v := by have := nth_lab h2 v; simp [labB, hk]; omega
   have e2 : (k == 2) = false := by simp [hk]
   have e3 : (k == 3) = true := by simp [hk]
   have f2 : (k = 2) = False := by simp [hk]
   have f3 : (k = 3) = True := by simp [hk]
   refine dcZ Tryz.func167 ?_
   simp only [go_sem]
   iterate 4 ((try (refine drvZ Tryz.func167 ?_; simp only [go_sem, e2, e3, f2, f3, hx])); ((with_reducible and_intros) <;> try exact sd))
   refine Go.loopQ (fun i : Nat => [(2, .c (.ptr 0 0)), (5, DI .i64 (((ks.take i).map (labN vs ar d)).foldl (fun a b => a ||| b) (labB vs ar k v) : Nat)), (27, .c (.isl 3 (Ex.cellsL ks))), (28, DI .i64 ks.length), (29, DI .i64 i)]) (fun i => [(0, some (Pg.cells ⟨vs, ar, bd⟩))])
    4096 (fun i => i ≤ ks.length) (fun i => ks.length - i) ?_ 0 some [] _ (Nat.zero_le _) ?_
   ·intro i hi again
    rcases Nat.lt_or_ge i ks.length with hlt | hge
    ·obtain ⟨⟨k', v', ks'⟩, hx⟩ : ∃ x, ks[i]? = some x := ⟨ks[i], by simp [hlt]⟩
     have hsc := lab_succ (labN vs ar d) (labB vs ar k v) ks i _ hx
     have ha := hacc i
     have hb := hle (.mk k' v' ks')
     have hc := hacc (i + 1)
     rw [hsc] at hc
     generalize ((ks.take i).map (labN vs ar d)).foldl (fun a b => a ||| b) (labB vs ar k v) = acc at *
     refine drvL Tryz.func167 ?_
     simp only [go_sem, hx, hlt]
     iterate 2 ((try (refine drvZ Tryz.func167 ?_; simp only [go_sem, hx, hlt])); ((with_reducible and_intros) <;> try exact sd))
     refine XK.plain (ih (.mk k' v' ks') (g2 _ (List.mem_of_getElem? hx))) ok167 ?_ (hbT ())
     iterate 3 ((try (refine drvZ Tryz.func167 ?_; simp only [go_sem, hx, hlt])); ((with_reducible and_intros) <;> try exact sd))
     refine again (i + 1) some [] _ hlt (by omega) ?_
     simp only [go_sem, TmOK, DM, DMs, CM, CMs, forall_eq, exists_eq_left, Mq, HpOK, LowOK, hsc]
     simp
     rw [← List.map_take, hsc]
    ·have hn : ¬ i < ks.length := by omega
     obtain rfl : i = ks.length := by omega
     refine drvL Tryz.func167 ?_
     simp only [go_sem, hn, List.take_length]
     iterate 2 ((try (refine drvZ Tryz.func167 ?_; simp only [go_sem, hn, List.take_length])); ((with_reducible and_intros) <;> try exact sd))
     exact RetOb.plain (d := DI .i64 _) (by rw [← hR]; exact ⟨rfl, rfl⟩) rfl
   ·simp only [go_sem, TmOK, DM, DMs, CM, CMs, forall_eq, exists_eq_left, Mq, HpOK, LowOK, List.take_zero, List.map_nil, List.foldl_nil]
    simp [hB]
  ·have hB : labB vs ar k v = 0 := by simp [labB, hk2, hk3]
   have e2 : (k == 2) = false := by simp [hk2]
   have e3 : (k == 3) = false := by simp [hk3]
   refine dcZ Tryz.func167 ?_
   simp only [go_sem]
   iterate 4 ((try (refine drvZ Tryz.func167 ?_; simp only [go_sem, e2, e3, hk2, hk3])); ((with_reducible and_intros) <;> try exact sd))
   refine Go.loopQ (fun i : Nat => [(2, .c (.ptr 0 0)), (5, DI .i64 (((ks.take i).map (labN vs ar d)).foldl (fun a b => a ||| b) (labB vs ar k v) : Nat)), (27, .c (.isl 3 (Ex.cellsL ks))), (28, DI .i64 ks.length), (29, DI .i64 i)]) (fun i => [(0, some (Pg.cells ⟨vs, ar, bd⟩))])
    4096 (fun i => i ≤ ks.length) (fun i => ks.length - i) ?_ 0 some [] _ (Nat.zero_le _) ?_
   ·intro i hi again
    rcases Nat.lt_or_ge i ks.length with hlt | hge
    ·obtain ⟨⟨k', v', ks'⟩, hx⟩ : ∃ x, ks[i]? = some x := ⟨ks[i], by simp [hlt]⟩
     have hsc := lab_succ (labN vs ar d) (labB vs ar k v) ks i _ hx
     have ha := hacc i
     have hb := hle (.mk k' v' ks')
     have hc := hacc (i + 1)
     rw [hsc] at hc
     generalize ((ks.take i).map (labN vs ar d)).foldl (fun a b => a ||| b) (labB vs ar k v) = acc at *
     refine drvL Tryz.func167 ?_
     simp only [go_sem, hx, hlt]
     iterate 2 ((try (refine drvZ Tryz.func167 ?_; simp only [go_sem, hx, hlt])); ((with_reducible and_intros) <;> try exact sd))
     refine XK.plain (ih (.mk k' v' ks') (g2 _ (List.mem_of_getElem? hx))) ok167 ?_ (hbT ())
     iterate 3 ((try (refine drvZ Tryz.func167 ?_; simp only [go_sem, hx, hlt])); ((with_reducible and_intros) <;> try exact sd))
     refine again (i + 1) some [] _ hlt (by omega) ?_
     simp only [go_sem, TmOK, DM, DMs, CM, CMs, forall_eq, exists_eq_left, Mq, HpOK, LowOK, hsc]
     simp
     rw [← List.map_take, hsc]
    ·have hn : ¬ i < ks.length := by omega
     obtain rfl : i = ks.length := by omega
     refine drvL Tryz.func167 ?_
     simp only [go_sem, hn, List.take_length]
     iterate 2 ((try (refine drvZ Tryz.func167 ?_; simp only [go_sem, hn, List.take_length])); ((with_reducible and_intros) <;> try exact sd))
     exact RetOb.plain (d := DI .i64 _) (by rw [← hR]; exact ⟨rfl, rfl⟩) rfl
   ·simp only [go_sem, TmOK, DM, DMs, CM, CMs, forall_eq, exists_eq_left, Mq, HpOK, LowOK, List.take_zero, List.map_nil, List.foldl_nil]
    simp [hB]
def ctxI (vs ar : List Int) (s : St1) (c : Nat) : Nat := if s.kind = 3 then c ||| labN vs ar 5 s.value else c
def eachF {X : Type} (vs ar : List Int) (step : X → St1 → Nat → X) : Nat → Nat → X → List St1 → X
 | 0, _, x, _ => x
 | d + 1, c, x, l => l.foldl (fun x s => eachF vs ar step d (ctxI vs ar s c) (eachF vs ar step d (ctxI vs ar s c) (step x s c) s.body) s.els) x
theorem RetOb.two {R : D → List (Option (List C)) → Prop} {a b : Int} {hp : Hp} (h : R (.tup [DI .i64 a, DI .i64 b]) []) : RetOb 0 R (.tup [DI .i64 a, DI .i64 b]) hp :=
 RetOb.ofQ (fun _ => none) [] (.tup [DI .i64 a, DI .i64 b]) [] (by simp [enumL, DM, DMs, CM, HpOK, LowOK]) h (by simp)
theorem prog_len2 {p : Pg} (h : progOK p = true) : 1 ≤ p.vars.length ∧ p.vars.length ≤ 12 ∧ p.arrays.length ≤ 2 := by
 simp only [progOK, headsOK, Bool.and_eq_true, decide_eq_true_eq] at h
 obtain ⟨⟨⟨⟨⟨_, h1⟩, h2⟩, h3⟩, _⟩, _⟩ := h
 omega
abbrev BC (b : Bool) : C := .v (.bool b)
def boolsC (bs : List Bool) : List C := bs.map BC
theorem boolsC_kf (bs : List Bool) : ∀ c ∈ boolsC bs, kf c = true := by
 intro c hc; obtain ⟨x, _, rfl⟩ := List.mem_map.1 hc; rfl
end Go.Proofs.YtjjjidcbokbhpaaGreat.CtR
namespace Go.Proofs.YtjjjidcbokbhpaaGreat.CtD
open Go Go.CT CtF CtR
theorem runP_sm (p : Pg) (m : Mm) : (runP p m).1.vals.length ≤ 12 ∧ (runP p m).1.arrays.length ≤ 2 ∧ (∀ a ∈ (runP p m).1.arrays, a.length ≤ 4) ∧ (runP p m).2.1.length ≤ 1000000 := by
 cases hq : (progOK p && memOK p.vars p.arrays m) with
 | false => rw [runP_false hq]; simp
 | true =>
  rw [runP_true hq]
  have hm := memFits_of hq
  simp only [Bool.and_eq_true] at hq
  have hb := body_of hq.1
  have h := runL_ok hm hb.1
  have h2 := h.2
  rw [wt5] at h2
  refine ⟨by rw [h.1.nv]; exact hm.nv12.2, by rw [h.1.na]; exact hm.na2, fun a ha => by have := (h.1.arr a ha).1; omega, ?_⟩
  have := hb.2
  simp only
  omega
end Go.Proofs.YtjjjidcbokbhpaaGreat.CtD
namespace Go.Proofs.YtjjjidcbokbhpaaGreat.CtR
open Go Go.CT CtF
end Go.Proofs.YtjjjidcbokbhpaaGreat.CtR
namespace Go.Proofs.YtjjjidcbokbhpaaGreat.CtD
open Go Go.CT CtF CtR
theorem ownExpr (p : Pg) : ∀ (d : Nat) (e : Ex), CtR.shape p d e = true → DC Tryz.prog 114 [.agg e.cells] [] (fun r h => r = .agg e.cells ∧ h = []) := by
 have hmx := mx_eq
 intro d
 induction d with
 | zero => intro e h; simp [CtR.shape] at h
 | succ d ih =>
  intro e hsh
  obtain ⟨k, v, ks⟩ := e
  obtain ⟨g1, g2, g3⟩ := shape_succ hsh
  obtain ⟨hl3, hla, hv0, hv1⟩ := fits_len g1
  refine dcZ Tryz.func114 ?_
  simp only [go_sem]
  iterate 2 ((try (refine drvZ Tryz.func114 ?_; simp only [go_sem])); ((with_reducible and_intros) <;> try exact sd))
  refine Go.loopQ (fun i : Nat => [(1, .c (.ptr 0 0)), (2, .c (.ptr 64 0)), (3, .c (.ptr 66 0)), (12, .c (.isl 3 (Ex.cellsL ks))), (13, DI .i64 ks.length), (14, DI .i64 i)])
   (fun i => [(0, some (Ex.cells (.mk k v ks))), (64, some [I64 0, I64 0, .v (.slice none 0 0)]), (66, some [I64 k, I64 v, .msl 67 3 0 i]), (67, some (exC (ks.take i)))])
   4096 (fun i => i ≤ ks.length) (fun i => ks.length - i) ?_ 0 (fun j => if j = 66 then some 448 else if j = 67 then none else some j) [] _ (Nat.zero_le _) ?_
  ·intro i hi again
   rcases Nat.lt_or_ge i ks.length with hlt | hge
   ·obtain ⟨⟨k', v', ks'⟩, hx⟩ : ∃ x, ks[i]? = some x := ⟨ks[i], by simp [hlt]⟩
    have hsx : ks.take (i + 1) = ks.take i ++ [.mk k' v' ks'] := by rw [List.take_add_one, hx]; rfl
    have hel : (exC (ks.take i)).length = i * 3 := by rw [exC_len, List.length_take]; congr 1; omega
    refine drvL Tryz.func114 ?_
    simp only [go_sem, hx, hlt]
    iterate 2 ((try (refine drvZ Tryz.func114 ?_; simp only [go_sem, hx, hlt])); ((with_reducible and_intros) <;> try exact sd))
    refine XK.plain (ih _ (g2 _ (List.mem_of_getElem? hx))) ok114 ?_ (hbT ()) (fun _ => by kernel_rfl)
    iterate 4 ((try (refine drvZ Tryz.func114 ?_; simp only [go_sem, hx, hlt, hel])); ((with_reducible and_intros) <;> try exact sd))
    refine again (i + 1) (fun j => if j = 67 then some 4736 else some j) [] _ hlt (by omega) ?_
    simp only [go_sem, TmOK, DM, DMs, CM, CMs, forall_eq, exists_eq_left, Mq, HpOK, LowOK, hsx, exC_snoc]
    simp
    exact CMs.kf (kf_app (exC_kf _) (by simp [kf]))
   ·have hn : ¬ i < ks.length := by omega
    obtain rfl : i = ks.length := by omega
    refine drvL Tryz.func114 ?_
    simp only [go_sem, hn, List.take_length]
    iterate 2 ((try (refine drvZ Tryz.func114 ?_; simp only [go_sem, hn, List.take_length])); ((with_reducible and_intros) <;> try exact sd))
    refine RetOb.ofQ (fun j => none) [67] (.agg (Ex.cells (.mk k v ks))) [] ?_ ⟨rfl, rfl⟩ (by simp)
    have g1 : (Ex.cellsL ks).flatten = exC ks := by rw [Ex.cellsL_eq]; rfl
    have g2 : ∀ x ∈ Ex.cellsL ks, x.length = 3 := fun x hx => by rw [Ex.cellsL_eq] at hx; obtain ⟨e, _, rfl⟩ := List.mem_map.1 hx; exact Ex.cells_len e
    have g3 : ∀ x ∈ Ex.cellsL ks, ∀ c ∈ x, kf c = true := fun x hx => by rw [Ex.cellsL_eq] at hx; obtain ⟨e, _, rfl⟩ := List.mem_map.1 hx; exact ex_kf e
    simp only [enumL, hOf, DM, DMs, CM, CMs, HpOK, LowOK, upd, Ex.cells, Ex.cellsL_length, g1]
    first | (simp; exact ⟨g2, g3⟩) | (simp [g2]; exact g3) | exact ⟨g2, g3⟩
  ·simp only [go_sem, TmOK, DM, DMs, CM, CMs, forall_eq, exists_eq_left, Mq, HpOK, LowOK]
   simp [exC]
theorem ownExpr0 : DC Tryz.prog 114 [.agg (Ex.cells (.mk 0 0 []))] [] (fun r h => r = .agg (Ex.cells (.mk 0 0 [])) ∧ h = []) := by
 refine dcZ Tryz.func114 ?_
 simp only [go_sem, Ex.cellsL, Int.natCast_zero]
 iterate 2 ((try (refine drvZ Tryz.func114 ?_; simp only [go_sem, Ex.cellsL, Int.natCast_zero])); ((with_reducible and_intros) <;> try exact sd))
 refine Go.loop ?_
 have hz : ((0 : Int) < 0) = False := eq_false (by omega)
 refine drvL Tryz.func114 ?_
 simp only [go_sem, Ex.cellsL, Int.natCast_zero, hz]
 iterate 2 ((try (refine drvZ Tryz.func114 ?_; simp only [go_sem, Ex.cellsL, Int.natCast_zero, hz])); ((with_reducible and_intros) <;> try exact sd))
 refine RetOb.ofQ (fun j => none) [] (.agg (Ex.cells (.mk 0 0 []))) [] ?_ ⟨rfl, rfl⟩ (by simp)
 simp [enumL, hOf, DM, DMs, CM, CMs, HpOK, LowOK, upd, Ex.cells, Ex.cellsL]
theorem none0_eq {e : Ex} (h : none0 e = true) : e = .mk 0 0 [] := by
 obtain ⟨k, v, ks⟩ := e
 simp only [none0, Ex.kind, Ex.value, Ex.kids, Bool.and_eq_true, beq_iff_eq, decide_eq_true_eq] at h
 obtain ⟨⟨rfl, rfl⟩, h3⟩ := h
 have : ks = [] := List.isEmpty_iff.1 h3
 rw [this]
theorem exprs_of {p : Pg} {d : Nat} {k t : Int} {ix v : Ex} {c : Int} {b e : List St1} (h : stmtOK p (d + 1) (.mk k t ix v c b e) = true) :
 (CtR.shape p 5 ix = true ∨ ix = .mk 0 0 []) ∧ (CtR.shape p 5 v = true ∨ v = .mk 0 0 []) := by
 have h1 := (stmtOK_succ h).1
 have hk := head_kind h1
 unfold headOK parts at h1
 rcases hk with ⟨hk, _, _, hr⟩ | ⟨rfl, _, _, hr, _, hr2⟩ | ⟨rfl, hr⟩ | ⟨rfl, _⟩
 ·refine ⟨.inr (none0_eq ?_), .inl (right_shape hr).1⟩
  have hk4 : k ≠ 4 := by omega
  have hk2 : (k == 2) = false := by simp; omega
  simp [hk4, hk2] at h1
  exact h1.1.2.2
 ·exact ⟨.inl (right_shape hr).1, .inl (right_shape hr2).1⟩
 ·refine ⟨.inr (none0_eq ?_), .inl (right_shape hr).1⟩
  simp at h1
  exact h1.1.2.2
 ·simp at h1
  refine ⟨.inr (none0_eq ?_), .inr (none0_eq ?_)⟩ <;> grind
theorem val_none {p : Pg} {d : Nat} {t : Int} {ix v : Ex} {c : Int} {b e : List St1} (h : stmtOK p (d + 1) (.mk 4 t ix v c b e) = true) : ix = .mk 0 0 [] ∧ v = .mk 0 0 [] := by
 have h1 := (stmtOK_succ h).1
 unfold headOK parts at h1
 simp at h1
 exact ⟨none0_eq (by grind), none0_eq (by grind)⟩
theorem ownE {p : Pg} {e : Ex} (h : CtR.shape p 5 e = true ∨ e = .mk 0 0 []) : DC Tryz.prog 114 [.agg e.cells] [] (fun r h => r = .agg e.cells ∧ h = []) := by
 rcases h with h | rfl
 ·exact ownExpr p 5 e h
 ·exact ownExpr0
theorem ownStmts (p : Pg) : ∀ (d : Nat) (l : List St1), (∀ s ∈ l, stmtOK p d s = true) → lsize d l ≤ 1000 → DC Tryz.prog 50 [.c (.isl 11 (St1.cellsL l))] [] (fun r h => r = .c (.isl 11 (St1.cellsL l)) ∧ h = []) := by
 have hmx := mx_eq
 intro d
 induction d with
 | zero =>
  intro l hok hsz
  have hnil : l = [] := by
   cases l with
   | nil => rfl
   | cons a r => have := hok a (by simp); simp [stmtOK] at this
  subst hnil
  refine dcZ Tryz.func50 ?_
  simp only [go_sem, St1.cellsL, Int.natCast_zero]
  ((try (refine drvZ Tryz.func50 ?_; simp only [go_sem, St1.cellsL, Int.natCast_zero])); ((with_reducible and_intros) <;> try exact sd))
  refine Go.loop ?_
  have hz : ((0 : Int) < 0) = False := eq_false (by omega)
  refine drvL Tryz.func50 ?_
  simp only [go_sem, St1.cellsL, Int.natCast_zero, hz]
  ((try (refine drvZ Tryz.func50 ?_; simp only [go_sem, St1.cellsL, Int.natCast_zero, hz])); ((with_reducible and_intros) <;> try exact sd))
  refine RetOb.ofQ (fun j => none) [] (.c (.isl 11 [])) [] ?_ ⟨rfl, rfl⟩ (by simp)
  simp [enumL, hOf, DM, CM, HpOK, LowOK, upd]
 | succ d ih =>
  intro l hok hsz
  have hsub := lsize_subs d l
  refine dcZ Tryz.func50 ?_
  simp only [go_sem]
  ((try (refine drvZ Tryz.func50 ?_; simp only [go_sem])); ((with_reducible and_intros) <;> try exact sd))
  refine Go.loopQ (fun i : Nat => [(3, .c (.msl 67 11 0 i)), (6, .c (.isl 11 (St1.cellsL l))), (7, DI .i64 l.length), (8, DI .i64 i)]) (fun i => [(67, some (stC (l.take i)))])
   4096 (fun i => i ≤ l.length) (fun i => l.length - i) ?_ 0 (fun j => none) [] _ (Nat.zero_le _) ?_
  ·intro i hi again
   rcases Nat.lt_or_ge i l.length with hlt | hge
   ·obtain ⟨⟨k, t, ⟨ik, iv, iks⟩, ⟨vk, vv, vks⟩, c, b, e⟩, hx⟩ : ∃ x, l[i]? = some x := ⟨l[i], by simp [hlt]⟩
    have hsx : l.take (i + 1) = l.take i ++ [.mk k t (.mk ik iv iks) (.mk vk vv vks) c b e] := by rw [List.take_add_one, hx]; rfl
    have hel : (stC (l.take i)).length = i * 11 := by rw [stC_len, List.length_take]; congr 1; omega
    have hsok := hok _ (List.mem_of_getElem? hx)
    have hex := exprs_of hsok
    have hbe := stmtOK_succ hsok
    have a1 := tsum_succ (subs d) l i _ hx
    have a2 := tsum_le (subs d) l (i + 1)
    simp only [subs, St1.body, St1.els] at a1 a2
    have ihb := ih b hbe.2.1 (by omega)
    have ihe := ih e hbe.2.2 (by omega)
    refine drvL Tryz.func50 ?_
    simp only [go_sem, hx, hlt]
    iterate 3 ((try (refine drvZ Tryz.func50 ?_; simp only [go_sem, hx, hlt])); ((with_reducible and_intros) <;> try exact sd))
    refine XK.plain (ownE hex.1) ok114 ?_ (hbT ()) (fun _ => by kernel_rfl)
    iterate 2 ((try (refine drvZ Tryz.func50 ?_; simp only [go_sem])); ((with_reducible and_intros) <;> try exact sd))
    refine XK.plain (ownE hex.2) ok114 ?_ (hbT ()) (fun _ => by kernel_rfl)
    iterate 2 ((try (refine drvZ Tryz.func50 ?_; simp only [go_sem])); ((with_reducible and_intros) <;> try exact sd))
    refine XK.plain ihb ok50 ?_ (hbT ()) (fun _ => by kernel_rfl)
    iterate 2 ((try (refine drvZ Tryz.func50 ?_; simp only [go_sem])); ((with_reducible and_intros) <;> try exact sd))
    refine XK.plain ihe ok50 ?_ (hbT ()) (fun _ => by kernel_rfl)
    iterate 4 ((try (refine drvZ Tryz.func50 ?_; simp only [go_sem, hel])); ((with_reducible and_intros) <;> try exact sd))
    refine again (i + 1) (fun j => if j = 67 then some 5760 else some j) [] _ hlt (by omega) ?_
    simp only [go_sem, TmOK, DM, DMs, CM, CMs, forall_eq, exists_eq_left, Mq, HpOK, LowOK, hsx, stC_snoc, List.cons_append, List.nil_append]
    simp
    exact CMs.kf (kf_app (stC_kf _) (by simp [kf]))
   ·have hn : ¬ i < l.length := by omega
    obtain rfl : i = l.length := by omega
    refine drvL Tryz.func50 ?_
    simp only [go_sem, hn, List.take_length]
    iterate 2 ((try (refine drvZ Tryz.func50 ?_; simp only [go_sem, hn, List.take_length])); ((with_reducible and_intros) <;> try exact sd))
    refine RetOb.ofQ (fun j => none) [67] (.c (.isl 11 (St1.cellsL l))) [] ?_ ⟨rfl, rfl⟩ (by simp)
    have g1 : (St1.cellsL l).flatten = stC l := by rw [St1.cellsL_eq]; rfl
    have g2 : ∀ x ∈ St1.cellsL l, x.length = 11 := fun x hx => by rw [St1.cellsL_eq] at hx; obtain ⟨e, _, rfl⟩ := List.mem_map.1 hx; exact St1.cells_len e
    have g3 : ∀ x ∈ St1.cellsL l, ∀ c ∈ x, kf c = true := fun x hx => by rw [St1.cellsL_eq] at hx; obtain ⟨e, _, rfl⟩ := List.mem_map.1 hx; exact st_kf e
    simp only [enumL, hOf, DM, DMs, CM, CMs, HpOK, LowOK, upd, St1.cellsL_length, g1]
    first | (simp; exact ⟨g2, g3⟩) | (simp [g2]; exact g3) | exact ⟨g2, g3⟩
  ·simp only [go_sem, TmOK, DM, DMs, CM, CMs, forall_eq, exists_eq_left, Mq, HpOK, LowOK]
   simp [stC]
end Go.Proofs.YtjjjidcbokbhpaaGreat.CtD
namespace Go.Proofs.YtjjjidcbokbhpaaGreat.CtR
end Go.Proofs.YtjjjidcbokbhpaaGreat.CtR
namespace Go.Proofs.YtjjjidcbokbhpaaGreat.CtD
open Go Go.CT CtF CtR
theorem SmE_shape {p : Pg} : ∀ (d : Nat) (e : Ex), CtR.shape p d e = true → SmE e
 | 0, e, h => by simp [CtR.shape] at h
 | d + 1, .mk k v ks, h => by
  obtain ⟨g1, g2, g3⟩ := shape_succ h
  exact .mk k v ks (fits_len g1).1 fun x hx => SmE_shape d x (g2 x hx)
theorem SmE_of {p : Pg} {e : Ex} (h : CtR.shape p 5 e = true ∨ e = .mk 0 0 []) : SmE e := by
 rcases h with h | rfl
 ·exact SmE_shape 5 e h
 ·exact .mk 0 0 [] (by simp) (fun x h => by simp at h)
theorem eqFE (ks : List Ex) (hl : ks.length ≤ 1000) (h : ∀ e ∈ ks, DC Tryz.prog 124 [.agg e.cells, .agg e.cells] [] (fun r h => r = DB true ∧ h = [])) :
 DC Tryz.prog 183 [.c (.isl 3 (Ex.cellsL ks)), .c (.isl 3 (Ex.cellsL ks)), .c (.clo 124 [])] [] (fun r h => r = DB true ∧ h = []) := by
 have hmx := mx_eq
 generalize hR : (fun (r : D) (h : List (Option (List C))) => r = DB true ∧ h = []) = R at h ⊢
 have hb : ((ks.length : Int) != ks.length) = false := by simp
 have he : ((ks.length : Int) = ks.length) = True := eq_true rfl
 refine dcZ Tryz.func183 ?_
 simp only [go_sem, hb, he]
 iterate 2 ((try (refine drvZ Tryz.func183 ?_; simp only [go_sem, hb, he])); ((with_reducible and_intros) <;> try exact sd))
 refine Go.loopQ (fun i : Nat => [(1, .c (.isl 3 (Ex.cellsL ks))), (2, .c (.clo 124 [])), (15, .c (.isl 3 (Ex.cellsL ks))), (16, DI .i64 ks.length), (17, DI .i64 i)]) (fun _ => [])
  4096 (fun i => i ≤ ks.length) (fun i => ks.length - i) ?_ 0 some [] _ (Nat.zero_le _) ?_
 ·intro i hi again
  rcases Nat.lt_or_ge i ks.length with hlt | hge
  ·obtain ⟨⟨k', v', ks'⟩, hx⟩ : ∃ x, ks[i]? = some x := ⟨ks[i], by simp [hlt]⟩
   have hc := h _ (List.mem_of_getElem? hx)
   rw [← hR] at hc
   refine drvL Tryz.func183 ?_
   simp only [go_sem, hx, hlt]
   iterate 3 ((try (refine drvZ Tryz.func183 ?_; simp only [go_sem, hx, hlt])); ((with_reducible and_intros) <;> try exact sd))
   refine XK.plain hc ok124 ?_ (hbT ())
   iterate 3 ((try (refine drvZ Tryz.func183 ?_; simp only [go_sem, hx, hlt])); ((with_reducible and_intros) <;> try exact sd))
   refine again (i + 1) some [] _ hlt (by omega) ?_
   simp only [go_sem, TmOK, DM, DMs, CM, CMs, forall_eq, exists_eq_left, Mq, HpOK, LowOK]
   try simp
  ·have hn : ¬ i < ks.length := by omega
   refine drvL Tryz.func183 ?_
   simp only [go_sem, hn]
   iterate 2 ((try (refine drvZ Tryz.func183 ?_; simp only [go_sem, hn])); ((with_reducible and_intros) <;> try exact sd))
   exact RetOb.plain (d := DB true) (by rw [← hR]; exact ⟨rfl, rfl⟩) rfl
 ·simp only [go_sem, TmOK, DM, DMs, CM, CMs, forall_eq, exists_eq_left, Mq, HpOK, LowOK]
  try simp
theorem exprSame (e : Ex) (he : SmE e) : DC Tryz.prog 124 [.agg e.cells, .agg e.cells] [] (fun r h => r = DB true ∧ h = []) := by
 have hmx := mx_eq
 induction he with
 | mk k v ks h3 hs ih =>
  have hq := eqFE ks (by omega) ih
  have e1 : (k == k) = true := by simp
  have e2 : (v == v) = true := by simp
  refine dcZ Tryz.func124 ?_
  simp only [go_sem, e1, e2]
  iterate 2 ((try (refine drvZ Tryz.func124 ?_; simp only [go_sem, e1, e2])); ((with_reducible and_intros) <;> try exact sd))
  refine XK.gplain 12 true true (fun _ => hq) ok183 ?_ (hbT ())
  iterate 2 ((try (refine drvZ Tryz.func124 ?_; simp only [go_sem])); ((with_reducible and_intros) <;> try exact sd))
  exact RetOb.plain (d := DB true) ⟨rfl, rfl⟩ rfl
theorem eqFS (l : List St1) (hl : l.length ≤ 1000) (h : ∀ s ∈ l, DC Tryz.prog 123 [.agg s.cells, .agg s.cells] [] (fun r h => r = DB true ∧ h = [])) :
 DC Tryz.prog 122 [.c (.isl 11 (St1.cellsL l)), .c (.isl 11 (St1.cellsL l)), .c (.clo 123 [])] [] (fun r h => r = DB true ∧ h = []) := by
 have hmx := mx_eq
 generalize hR : (fun (r : D) (h : List (Option (List C))) => r = DB true ∧ h = []) = R at h ⊢
 have hb : ((l.length : Int) != l.length) = false := by simp
 have he : ((l.length : Int) = l.length) = True := eq_true rfl
 refine dcZ Tryz.func122 ?_
 simp only [go_sem, hb, he]
 iterate 2 ((try (refine drvZ Tryz.func122 ?_; simp only [go_sem, hb, he])); ((with_reducible and_intros) <;> try exact sd))
 refine Go.loopQ (fun i : Nat => [(1, .c (.isl 11 (St1.cellsL l))), (2, .c (.clo 123 [])), (15, .c (.isl 11 (St1.cellsL l))), (16, DI .i64 l.length), (17, DI .i64 i)]) (fun _ => [])
  4096 (fun i => i ≤ l.length) (fun i => l.length - i) ?_ 0 some [] _ (Nat.zero_le _) ?_
 ·intro i hi again
  rcases Nat.lt_or_ge i l.length with hlt | hge
  ·obtain ⟨⟨k, t, ⟨ik, iv, iks⟩, ⟨vk, vv, vks⟩, c, b, e⟩, hx⟩ : ∃ x, l[i]? = some x := ⟨l[i], by simp [hlt]⟩
   have hc := h _ (List.mem_of_getElem? hx)
   rw [← hR] at hc
   refine drvL Tryz.func122 ?_
   simp only [go_sem, hx, hlt]
   iterate 3 ((try (refine drvZ Tryz.func122 ?_; simp only [go_sem, hx, hlt])); ((with_reducible and_intros) <;> try exact sd))
   refine XK.plain hc ok123 ?_ (hbT ())
   iterate 3 ((try (refine drvZ Tryz.func122 ?_; simp only [go_sem, hx, hlt])); ((with_reducible and_intros) <;> try exact sd))
   refine again (i + 1) some [] _ hlt (by omega) ?_
   simp only [go_sem, TmOK, DM, DMs, CM, CMs, forall_eq, exists_eq_left, Mq, HpOK, LowOK, List.cons_append, List.nil_append]
   try simp
  ·have hn : ¬ i < l.length := by omega
   refine drvL Tryz.func122 ?_
   simp only [go_sem, hn]
   iterate 2 ((try (refine drvZ Tryz.func122 ?_; simp only [go_sem, hn])); ((with_reducible and_intros) <;> try exact sd))
   exact RetOb.plain (d := DB true) (by rw [← hR]; exact ⟨rfl, rfl⟩) rfl
 ·simp only [go_sem, TmOK, DM, DMs, CM, CMs, forall_eq, exists_eq_left, Mq, HpOK, LowOK]
  try simp
theorem sameStmts (l : List St1) (hl : l.length ≤ 1000) (h : ∀ s ∈ l, DC Tryz.prog 123 [.agg s.cells, .agg s.cells] [] (fun r h => r = DB true ∧ h = [])) :
 DC Tryz.prog 56 [.c (.isl 11 (St1.cellsL l)), .c (.isl 11 (St1.cellsL l))] [] (fun r h => r = DB true ∧ h = []) := by
 refine dcZ Tryz.func56 ?_
 simp only [go_sem]
 ((try (refine drvZ Tryz.func56 ?_; simp only [go_sem])); ((with_reducible and_intros) <;> try exact sd))
 refine XK.plain (eqFS l hl h) ok122 ?_ (hbT ())
 ((try (refine drvZ Tryz.func56 ?_; simp only [go_sem])); ((with_reducible and_intros) <;> try exact sd))
 exact RetOb.plain (d := DB true) ⟨rfl, rfl⟩ rfl
theorem sameStmt (p : Pg) : ∀ (d : Nat) (s : St1), stmtOK p d s = true → tsize d s ≤ 1000 → DC Tryz.prog 123 [.agg s.cells, .agg s.cells] [] (fun r h => r = DB true ∧ h = [])
 | 0, s, h, _ => by simp [stmtOK] at h
 | d + 1, ⟨k, t, ⟨ik, iv, iks⟩, ⟨vk, vv, vks⟩, c, b, e⟩, h, hsz => by
  have hmx := mx_eq
  have hex := exprs_of h
  have hbe := stmtOK_succ h
  have hs1 := lsize_subs d b
  have hs2 := lsize_subs d e
  have hz : tsize (d + 1) (.mk k t (.mk ik iv iks) (.mk vk vv vks) c b e) = 1 + (b.map (tsize d)).sum + (e.map (tsize d)).sum := rfl
  have hlen : ∀ l : List St1, (∀ s ∈ l, stmtOK p d s = true) → l.length ≤ (l.map (tsize d)).sum := fun l hl => by
   induction l with
   | nil => simp
   | cons a r ih =>
    have := ih (fun s hs => hl s (by simp [hs]))
    have h1 : 1 ≤ tsize d a := by
     cases d with
     | zero => have := hl a (by simp); simp [stmtOK] at this
     | succ d => obtain ⟨k, t, ix, v, c, b, e⟩ := a; simp only [tsize]; omega
    simp only [List.length_cons, List.map_cons, List.sum_cons]; omega
  have hmem : ∀ (l : List St1), (∀ s ∈ l, tsize d s ≤ (l.map (tsize d)).sum) := fun l => by
   induction l with
   | nil => simp
   | cons a r ih =>
    intro s hs
    simp only [List.map_cons, List.sum_cons]
    rcases List.mem_cons.1 hs with rfl | hs
    ·omega
    ·have := ih s hs; omega
  have hb := sameStmts b (by have := hlen b hbe.2.1; omega) (fun s hs => sameStmt p d s (hbe.2.1 s hs) (by have := hmem b s hs; omega))
  have he := sameStmts e (by have := hlen e hbe.2.2; omega) (fun s hs => sameStmt p d s (hbe.2.2 s hs) (by have := hmem e s hs; omega))
  have x1 := exprSame _ (SmE_of hex.1)
  have x2 := exprSame _ (SmE_of hex.2)
  have e1 : (k == k) = true := by simp
  have e2 : (t == t) = true := by simp
  have e3 : (c == c) = true := by simp
  refine dcZ Tryz.func123 ?_
  simp only [go_sem, e1, e2, e3]
  iterate 2 ((try (refine drvZ Tryz.func123 ?_; simp only [go_sem, e1, e2, e3])); ((with_reducible and_intros) <;> try exact sd))
  refine XK.gplain 12 true true (fun _ => x1) ok124 ?_ (hbT ())
  iterate 2 ((try (refine drvZ Tryz.func123 ?_; simp only [go_sem, e1, e2, e3])); ((with_reducible and_intros) <;> try exact sd))
  refine XK.gplain 19 true true (fun _ => x2) ok124 ?_ (hbT ())
  iterate 3 ((try (refine drvZ Tryz.func123 ?_; simp only [go_sem, e1, e2, e3])); ((with_reducible and_intros) <;> try exact sd))
  refine XK.gplain 33 true true (fun _ => hb) ok56 ?_ (hbT ())
  iterate 2 ((try (refine drvZ Tryz.func123 ?_; simp only [go_sem, e1, e2, e3])); ((with_reducible and_intros) <;> try exact sd))
  refine XK.gplain 40 true true (fun _ => he) ok56 ?_ (hbT ())
  iterate 2 ((try (refine drvZ Tryz.func123 ?_; simp only [go_sem, e1, e2, e3])); ((with_reducible and_intros) <;> try exact sd))
  exact RetOb.plain (d := DB true) ⟨rfl, rfl⟩ rfl
theorem programSame (p : Pg) (hl : p.vars.length ≤ mx) (hl2 : p.arrays.length ≤ mx) (hb : p.body.length ≤ 1000) (h : ∀ s ∈ p.body, DC Tryz.prog 123 [.agg s.cells, .agg s.cells] [] (fun r h => r = DB true ∧ h = [])) :
 DC Tryz.prog 14 [.agg p.cells, .agg p.cells] [] (fun r h => r = DB true ∧ h = []) := by
 have hmx := mx_eq
 have h1 := equalI p.vars p.vars hl
 have h2 := equalI p.arrays p.arrays hl2
 rw [show decide (p.vars = p.vars) = true by simp] at h1
 rw [show decide (p.arrays = p.arrays) = true by simp] at h2
 have h3 := sameStmts p.body hb h
 obtain ⟨vs, ar, bd⟩ := p
 refine dcZ Tryz.func14 ?_
 simp only [go_sem]
 ((try (refine drvZ Tryz.func14 ?_; simp only [go_sem])); ((with_reducible and_intros) <;> try exact sd))
 refine XK.plain h1 ok55 ?_ (hbT ())
 iterate 2 ((try (refine drvZ Tryz.func14 ?_; simp only [go_sem])); ((with_reducible and_intros) <;> try exact sd))
 refine XK.gplain 5 true true (fun _ => h2) ok55 ?_ (hbT ())
 iterate 2 ((try (refine drvZ Tryz.func14 ?_; simp only [go_sem])); ((with_reducible and_intros) <;> try exact sd))
 refine XK.gplain 12 true true (fun _ => h3) ok56 ?_ (hbT ())
 iterate 2 ((try (refine drvZ Tryz.func14 ?_; simp only [go_sem])); ((with_reducible and_intros) <;> try exact sd))
 exact RetOb.plain (d := DB true) ⟨rfl, rfl⟩ rfl
end Go.Proofs.YtjjjidcbokbhpaaGreat.CtD
namespace Go.Proofs.YtjjjidcbokbhpaaGreat.CtR
end Go.Proofs.YtjjjidcbokbhpaaGreat.CtR
namespace Go.Proofs.YtjjjidcbokbhpaaGreat.CtD
open Go Go.CT CtF CtR
theorem sameBody {p : Pg} (h : progOK p = true) : ∀ s ∈ p.body, DC Tryz.prog 123 [.agg s.cells, .agg s.cells] [] (fun r h => r = DB true ∧ h = []) := fun s hs => by
 have hb := body_of h
 refine sameStmt p 5 s (hb.1 s hs) ?_
 have : ∀ l : List St1, s ∈ l → tsize 5 s ≤ (l.map (tsize 5)).sum := fun l => by
  induction l with
  | nil => simp
  | cons a r ih =>
   intro hs
   simp only [List.map_cons, List.sum_cons]
   rcases List.mem_cons.1 hs with rfl | hs
   ·omega
   ·have := ih hs; omega
 have h1 := this p.body hs
 have h2 : (p.body.map (tsize 5)).sum = lsize 5 p.body := rfl
 omega
def rel (l : List Ev) : List Ev := l.filter fun e => e.kind == 4
theorem rel_app (a b : List Ev) : rel (a ++ b) = rel a ++ rel b := by simp [rel]
theorem evalE_no4 (m : Mm) : ∀ (d : Nat) (e : Ex), ∀ x ∈ (evalE m d e).2, x.kind ≠ 4
 | 0, e => by simp [evalE]
 | d + 1, .mk k v ks => by
  have hf : ∀ x ∈ (ks.map fun e => (evalE m d e).2).flatten, x.kind ≠ 4 := fun x hx => by
   obtain ⟨l, hl, hxl⟩ := List.mem_flatten.1 hx
   obtain ⟨e, _, rfl⟩ := List.mem_map.1 hl
   exact evalE_no4 m d e x hxl
  intro x hx
  simp only [evalE] at hx
  split at hx
  ·cases hx
  split at hx
  ·cases hx
  split at hx
  ·rcases List.mem_append.1 hx with hx | hx
   ·exact hf x hx
   ·rw [List.mem_singleton.1 hx]; simp
  split at hx
  ·exact hf x hx
  ·exact hf x hx
theorem rel_eval (m : Mm) (d : Nat) (e : Ex) : rel (evalE m d e).2 = [] := by
 unfold rel
 rw [List.filter_eq_nil_iff]
 intro x hx
 simpa using evalE_no4 m d e x hx
theorem len0 {l : List St1} (h : ¬ 0 < l.length) : l = [] := List.eq_nil_of_length_eq_zero (by omega)
end Go.Proofs.YtjjjidcbokbhpaaGreat.CtD
