/- Contracts of functions of the program, one behind the other, as plain data: what each call returns and which blocks it leaves. -/
import Derived.Test.YtpphageokplgoaaGreatPFacts
import Derived.Test.YtpphageokplgoaaGreatPAj
import Derived.Test.YtpphageokplgoaaGreatPAk
import Derived.Test.YtpphageokplgoaaGreatPAl
import Derived.Test.YtpphageokplgoaaGreatPAn
import Derived.Test.YtpphageokplgoaaGreatPAo
import Derived.Test.YtpphageokplgoaaGreatPAr
import Derived.Test.YtpphageokplgoaaGreatPAs
import Derived.Test.YtpphageokplgoaaGreatPAt
import Derived.Test.YtpphageokplgoaaGreatPAy
import Derived.Test.YtpphageokplgoaaGreatPAz
import Derived.Test.YtpphageokplgoaaGreatPAm
import Derived.Test.YtpphageokplgoaaGreatPAv
import Derived.Test.YtpphageokplgoaaGreatPAiF
import Derived.Test.YtpphageokplgoaaGreatPAp
import Derived.Test.YtpphageokplgoaaGreatPAw
import Derived.Test.YtpphageokplgoaaGreatPBa
set_option linter.unusedVariables false
set_option linter.unusedSimpArgs false
set_option maxHeartbeats 16000000
set_option maxRecDepth 100000
namespace Go.Proofs.YtpphageokplgoaaGreat.CtL
open Go Go.CT CtF CtR
open CtD (rel rel_app rel_eval)
def shE (n k : Nat) : Nat → Ex → Ex
 | 0, e => e
 | d + 1, .mk kd v ks => .mk kd (if kd = 2 then v + n else if kd = 3 then v + k else v) (ks.map (shE n k d))
def dupS (n k : Nat) : Nat → St1 → List St1
 | 0, s => [s]
 | d + 1, .mk kd t ix v c b e =>
  if kd = 1 ∨ kd = 5 then [.mk kd t ix v c b e, .mk kd (t + n) e0 (shE n k 5 v) 0 [] []]
  else if kd = 2 then [.mk kd t ix v c b e, .mk kd (t + k) (shE n k 5 ix) (shE n k 5 v) 0 [] []]
  else [.mk kd t ix v c (b.map (dupS n k d)).flatten (e.map (dupS n k d)).flatten]
def dupL (n k d : Nat) (l : List St1) : List St1 := (l.map (dupS n k d)).flatten
def pairM (a b : Mm) : Mm := ⟨a.vals ++ b.vals, a.arrays ++ b.arrays⟩
theorem arr_fst {a b : Mm} {v : Int} (h0 : 0 ≤ v) (h : v < a.arrays.length) : arrAt (pairM a b) v = arrAt a v := by
 unfold arrAt pairM
 rw [List.getD_eq_getElem?_getD, List.getD_eq_getElem?_getD, List.getElem?_append_left (by omega)]
theorem arr_snd {a b : Mm} {v : Int} (h0 : 0 ≤ v) : arrAt (pairM a b) (v + a.arrays.length) = arrAt b v := by
 unfold arrAt pairM
 rw [List.getD_eq_getElem?_getD, List.getD_eq_getElem?_getD, List.getElem?_append_right (by omega)]
 congr 2; omega
theorem nth_snd {a b : List Int} {v : Int} (h0 : 0 ≤ v) : nth (a ++ b) (v + a.length) = nth b v := by
 unfold nth
 rw [List.getD_eq_getElem?_getD, List.getD_eq_getElem?_getD, List.getElem?_append_right (by omega)]
 congr 2; omega
theorem eval_fst {p : Pg} {m m2 : Mm} (hm : MemFits p m) : ∀ (d : Nat) (e : Ex), CtR.shape p d e = true → evalE (pairM m m2) d e = evalE m d e
 | 0, _, h => by simp [CtR.shape] at h
 | d + 1, .mk k v ks, h => by
  obtain ⟨g1, g2, g3⟩ := shape_succ h
  obtain ⟨_, _, c, gl⟩ := fits_len g1
  have e1 : (ks.map fun e => (evalE (pairM m m2) d e).1) = ks.map fun e => (evalE m d e).1 := List.map_congr_left fun x hx => by rw [eval_fst hm d x (g2 x hx)]
  have e2 : (ks.map fun e => (evalE (pairM m m2) d e).2) = ks.map fun e => (evalE m d e).2 := List.map_congr_left fun x hx => by rw [eval_fst hm d x (g2 x hx)]
  simp only [evalE, e1, e2]
  by_cases k2 : k = 2
  ·subst k2
   have hv : v < p.vars.length := by simpa [limit] using gl
   have : nth (pairM m m2).vals v = nth m.vals v := nth_app c (by rw [hm.nv]; exact hv)
   simp [this]
  ·by_cases k3 : k = 3
   ·subst k3
    have hv : v < p.arrays.length := by simpa [limit] using gl
    have := arr_fst (b := m2) c (by rw [hm.na]; exact hv)
    simp [this]
   ·simp only [k2, k3, if_false]
theorem eval_snd {p : Pg} {m m2 : Mm} (hm : MemFits p m) : ∀ (d : Nat) (e : Ex), CtR.shape p d e = true → (evalE (pairM m m2) d (shE p.vars.length p.arrays.length d e)).1 = (evalE m2 d e).1
 | 0, _, h => by simp [CtR.shape] at h
 | d + 1, .mk k v ks, h => by
  obtain ⟨g1, g2, g3⟩ := shape_succ h
  obtain ⟨_, _, c, gl⟩ := fits_len g1
  have e1 : ((ks.map (shE p.vars.length p.arrays.length d)).map fun e => (evalE (pairM m m2) d e).1) = ks.map fun e => (evalE m2 d e).1 := by
   rw [List.map_map]
   exact List.map_congr_left fun x hx => eval_snd hm d x (g2 x hx)
  simp only [shE, evalE, e1]
  by_cases k1 : k = 1
  ·subst k1; simp
  by_cases k2 : k = 2
  ·subst k2
   have : nth (pairM m m2).vals (v + p.vars.length) = nth m2.vals v := by rw [← hm.nv]; exact nth_snd c
   simp [this]
  ·by_cases k3 : k = 3
   ·subst k3
    have : arrAt (pairM m m2) (v + p.arrays.length) = arrAt m2 v := by rw [← hm.na]; exact arr_snd c
    simp [this]
   ·simp only [k1, k2, k3, if_false]
    split <;> rfl
theorem setV_fst {a b : Mm} {t x : Int} (h0 : 0 ≤ t) (h : t < a.vals.length) : setV (pairM a b) t x = pairM (setV a t x) b := by
 simp only [setV, pairM]
 rw [List.set_append_left _ _ (by omega)]
theorem setV_snd {a b : Mm} {t x : Int} (h0 : 0 ≤ t) : setV (pairM a b) (t + a.vals.length) x = pairM a (setV b t x) := by
 simp only [setV, pairM]
 rw [List.set_append_right _ _ (by omega)]
 congr 3; omega
theorem setA_fst {a b : Mm} {t i x : Int} (h0 : 0 ≤ t) (h : t < a.arrays.length) : setA (pairM a b) t i x = pairM (setA a t i x) b := by
 have := arr_fst (b := b) h0 h
 simp only [setA]
 rw [this]
 simp only [pairM]
 rw [List.set_append_left _ _ (by omega)]
theorem setA_snd {a b : Mm} {t i x : Int} (h0 : 0 ≤ t) : setA (pairM a b) (t + a.arrays.length) i x = pairM a (setA b t i x) := by
 have := arr_snd (a := a) (b := b) h0
 simp only [setA]
 rw [this]
 simp only [pairM]
 rw [List.set_append_right _ _ (by omega)]
 congr 3; omega
structure DupR (p : Pg) (q : Prop) (x x2 y : Mm × List Ev) (z : Mm) : Prop where
 fit : MemFits p z
 eq : y.1 = pairM x.1 z
 sec : q → z = x2.1 ∧ (rel y.2).length = (rel x.2).length + (rel x2.2).length
theorem DupR.seq {p : Pg} {q q2 : Prop} {x x2 y x' x2' y' : Mm × List Ev} {z z' : Mm} (h : DupR p q x x2 y z) (h2 : DupR p q2 x' x2' y' z') (hq : q → q2) : DupR p q (x'.1, x.2 ++ x'.2) (x2'.1, x2.2 ++ x2'.2) (y'.1, y.2 ++ y'.2) z' :=
 ⟨h2.fit, h2.eq, fun hh => by
  obtain ⟨a, b⟩ := h.sec hh
  obtain ⟨a', b'⟩ := h2.sec (hq hh)
  refine ⟨a', ?_⟩
  simp only [rel_app, List.length_append]
  omega⟩
theorem DupR.mono {p : Pg} {q q2 : Prop} {x x2 y : Mm × List Ev} {z : Mm} (h : DupR p q x x2 y z) (hq : q2 → q) : DupR p q2 x x2 y z := ⟨h.fit, h.eq, fun hh => h.sec (hq hh)⟩
structure DupK (Q : Mm → Mm → Prop) (K : Nat → List St1 → Prop) : Prop where
 body : ∀ d l s, K (d + 1) l → s ∈ l → K d s.body
 els : ∀ d l s, K (d + 1) l → s ∈ l → K d s.els
 run : ∀ d l s, K (d + 1) l → s ∈ l → ∀ m m2, Q m m2 → Q (runS (d + 1) m s).1 (runS (d + 1) m2 s).1
 br : ∀ d l s, K (d + 1) l → s ∈ l → s.kind = 3 → ∀ m m2, Q m m2 → ((evalE m 5 s.value).1 = 0 ↔ (evalE m2 5 s.value).1 = 0)
theorem dup_fold {p : Pg} {Q : Mm → Mm → Prop} {d : Nat} {g : St1 → List St1} : ∀ (l : List St1) (m m2 : Mm), (∀ s ∈ l, stmtOK p d s = true) → (∀ s ∈ l, ∀ m m2, Q m m2 → Q (runS d m s).1 (runS d m2 s).1) → MemFits p m → MemFits p m2 →
 (∀ s ∈ l, ∀ m m2, MemFits p m → MemFits p m2 → ∃ z, DupR p (Q m m2) (runS d m s) (runS d m2 s) (foldR (runS d) (pairM m m2) (g s)) z) →
 ∃ z, DupR p (Q m m2) (foldR (runS d) m l) (foldR (runS d) m2 l) (foldR (runS d) (pairM m m2) (l.map g).flatten) z
 | [], m, m2, _, _, hm, hm2, _ => ⟨m2, hm2, rfl, fun _ => ⟨rfl, by simp [foldR, rel]⟩⟩
 | s :: r, m, m2, hok, hQ, hm, hm2, hS => by
  obtain ⟨z, h1⟩ := hS s (by simp) m m2 hm hm2
  have hf := (runS_ok d m s hm (hok s (by simp))).1
  obtain ⟨z', h2⟩ := dup_fold r (runS d m s).1 z (fun s hs => hok s (by simp [hs])) (fun s hs => hQ s (by simp [hs])) hf h1.fit (fun s hs => hS s (by simp [hs]))
  refine ⟨z', ?_⟩
  have he : foldR (runS d) (pairM m m2) ((s :: r).map g).flatten = ((foldR (runS d) (pairM (runS d m s).1 z) (r.map g).flatten).1, (foldR (runS d) (pairM m m2) (g s)).2 ++ (foldR (runS d) (pairM (runS d m s).1 z) (r.map g).flatten).2) := by
   rw [List.map_cons, List.flatten_cons, foldR_app, h1.eq]
  rw [he]
  simp only [foldR]
  refine ⟨h2.fit, h2.eq, fun hh => ?_⟩
  obtain ⟨a, b⟩ := h1.sec hh
  obtain ⟨a', b'⟩ := h2.sec (by rw [a]; exact hQ s (by simp) m m2 hh)
  rw [a] at a' b' ⊢
  refine ⟨a', ?_⟩
  simp only [rel_app, List.length_append]
  omega
theorem dup_iter {p : Pg} {Q : Mm → Mm → Prop} {f g : Mm → Mm × List Ev} (hf : ∀ m, MemFits p m → MemFits p (f m).1) (hQ : ∀ m m2, Q m m2 → Q (f m).1 (f m2).1)
 (hS : ∀ m m2, MemFits p m → MemFits p m2 → ∃ z, DupR p (Q m m2) (f m) (f m2) (g (pairM m m2)) z) : ∀ (n : Nat) (m m2 : Mm), MemFits p m → MemFits p m2 →
 ∃ z, DupR p (Q m m2) (iterR f n m) (iterR f n m2) (iterR g n (pairM m m2)) z
 | 0, m, m2, hm, hm2 => ⟨m2, hm2, rfl, fun _ => ⟨rfl, by simp [iterR, rel]⟩⟩
 | n + 1, m, m2, hm, hm2 => by
  obtain ⟨z, h1⟩ := dup_iter hf hQ hS n m m2 hm hm2
  have hfi : MemFits p (iterR f n m).1 := iterR_conf (Q := MemFits p) (fun m h => hf m h) n m hm
  obtain ⟨z', h2⟩ := hS (iterR f n m).1 z hfi h1.fit
  refine ⟨z', ?_⟩
  simp only [iterR]
  rw [h1.eq]
  refine ⟨h2.fit, h2.eq, fun hh => ?_⟩
  obtain ⟨a, b⟩ := h1.sec hh
  have hqn := iterR_two (Q := Q) hQ n m m2 hh
  obtain ⟨a', b'⟩ := h2.sec (by rw [a]; exact hqn)
  rw [a] at a' b' ⊢
  refine ⟨a', ?_⟩
  simp only [rel_app, List.length_append]
  omega
theorem dup_run {p : Pg} {Q : Mm → Mm → Prop} {K : Nat → List St1 → Prop} (hK : DupK Q K) : ∀ (d : Nat) (l : List St1) (m m2 : Mm), (∀ s ∈ l, stmtOK p d s = true) → K d l → MemFits p m → MemFits p m2 →
 ∃ z, DupR p (Q m m2) (foldR (runS d) m l) (foldR (runS d) m2 l) (foldR (runS d) (pairM m m2) (dupL p.vars.length p.arrays.length d l)) z
 | 0, l, m, m2, hok, _, hm, hm2 => by
  cases l with
  | nil => exact ⟨m2, hm2, rfl, fun _ => ⟨rfl, by simp [foldR, rel, dupL]⟩⟩
  | cons s r => have := hok s (by simp); simp [stmtOK] at this
 | d + 1, l, m, m2, hok, hk, hm, hm2 => by
  refine dup_fold l m m2 hok (fun s hs => hK.run d l s hk hs) hm hm2 fun s hs m m2 hm hm2 => ?_
  have hb := fun m m2 (hb : ∀ x ∈ s.body, stmtOK p d x = true) (hm : MemFits p m) (hm2 : MemFits p m2) => dup_run hK d s.body m m2 hb (hK.body d l s hk hs) hm hm2
  have he := fun m m2 (hb : ∀ x ∈ s.els, stmtOK p d x = true) (hm : MemFits p m) (hm2 : MemFits p m2) => dup_run hK d s.els m m2 hb (hK.els d l s hk hs) hm hm2
  have hbr := hK.br d l s hk hs
  have hrb : (∀ x ∈ s.body, stmtOK p d x = true) → ∀ m m2, Q m m2 → Q (foldR (runS d) m s.body).1 (foldR (runS d) m2 s.body).1 := fun hb m m2 h => by
   have hKb := hK.body d l s hk hs
   cases d with
   | zero =>
    cases hl : s.body with
    | nil => exact h
    | cons a r => have := hb a (by rw [hl]; simp); simp [stmtOK] at this
   | succ d => exact foldR_two (Q := Q) s.body m m2 h fun x hx => hK.run d s.body x hKb hx
  have hso := hok s hs
  obtain ⟨k, t, ix, v, c, b, e⟩ := s
  obtain ⟨hh, hbo, heo⟩ := stmtOK_succ hso
  simp only [St1.body, St1.els, St1.value, St1.kind] at hb he hbr hrb
  have hb := fun m m2 hm hm2 => hb m m2 hbo hm hm2
  have he := fun m m2 hm hm2 => he m m2 heo hm hm2
  obtain ⟨s1, s2⟩ := shapeV hso
  rcases head_kind hh with ⟨hk1, h0, h1, _⟩ | ⟨rfl, h0, h1, _⟩ | ⟨rfl, _⟩ | ⟨rfl, _⟩
  ·have hv := s1 (by omega)
   have r2 := evalE_range hm2 5 v hv
   have r1 := evalE_range hm 5 v hv
   have hsf := hm.setV (t := t) r1
   have ev1 := eval_fst (m2 := m2) hm 5 v hv
   have ev2 := eval_snd (m := setV m t (evalE m 5 v).1) (m2 := m2) hsf 5 v hv
   have hz := hm2.setV (t := t) r2
   have w1 : setV (pairM m m2) t (evalE m 5 v).1 = pairM (setV m t (evalE m 5 v).1) m2 := setV_fst h0 (by rw [hm.nv]; exact h1)
   have w2 : setV (pairM (setV m t (evalE m 5 v).1) m2) (t + p.vars.length) (evalE m2 5 v).1 = pairM (setV m t (evalE m 5 v).1) (setV m2 t (evalE m2 5 v).1) := by
    rw [← hsf.nv]; exact setV_snd h0
   refine ⟨setV m2 t (evalE m2 5 v).1, hz, ?_, fun _ => ?_⟩
   ·rcases hk1 with rfl | rfl
    ·simp only [dupS, true_or, if_true, foldR, runS_1, ev1, w1, ev2, w2]
    ·simp only [dupS, or_true, if_true, foldR, runS_5, ev1, w1, ev2, w2]
   ·rcases hk1 with rfl | rfl
    ·simp only [dupS, true_or, if_true, foldR, runS_1, ev1, w1, ev2, w2, true_and, List.append_nil]
     simp only [rel_app, rel_eval]; simp [rel]
    ·simp only [dupS, or_true, if_true, foldR, runS_5, ev1, w1, ev2, w2, true_and]
     simp only [rel_app, rel_eval]; simp [rel]
  ·have hv := s1 (by omega)
   have hi := s2 rfl
   have r2 := evalE_range hm2 5 v hv
   have r1 := evalE_range hm 5 v hv
   have hsf := hm.setA (t := t) (i := (evalE m 5 ix).1 % 4) ⟨h0, by rw [hm.na]; exact h1⟩ r1
   have ev1 := eval_fst (m2 := m2) hm 5 v hv
   have ei1 := eval_fst (m2 := m2) hm 5 ix hi
   have ev2 := eval_snd (m2 := m2) hsf 5 v hv
   have ei2 := eval_snd (m2 := m2) hsf 5 ix hi
   have hz := hm2.setA (t := t) (i := (evalE m2 5 ix).1 % 4) ⟨h0, by rw [hm2.na]; exact h1⟩ r2
   have w1 : setA (pairM m m2) t ((evalE m 5 ix).1 % 4) (evalE m 5 v).1 = pairM (setA m t ((evalE m 5 ix).1 % 4) (evalE m 5 v).1) m2 := setA_fst h0 (by rw [hm.na]; exact h1)
   have w2 : setA (pairM (setA m t ((evalE m 5 ix).1 % 4) (evalE m 5 v).1) m2) (t + p.arrays.length) ((evalE m2 5 ix).1 % 4) (evalE m2 5 v).1 = pairM (setA m t ((evalE m 5 ix).1 % 4) (evalE m 5 v).1) (setA m2 t ((evalE m2 5 ix).1 % 4) (evalE m2 5 v).1) := by
    rw [← hsf.na]; exact setA_snd h0
   refine ⟨setA m2 t ((evalE m2 5 ix).1 % 4) (evalE m2 5 v).1, hz, ?_, fun _ => ?_⟩
   ·simp only [dupS, show ¬ ((2 : Int) = 1 ∨ (2 : Int) = 5) by decide, if_false, if_true, foldR, runS_2, ev1, ei1, w1, ev2, ei2, w2]
   ·simp only [dupS, show ¬ ((2 : Int) = 1 ∨ (2 : Int) = 5) by decide, if_false, if_true, foldR, runS_2, ev1, ei1, w1, ev2, ei2, w2, true_and]
    simp only [rel_app, rel_eval]; simp [rel]
  ·have hv := s1 (by omega)
   have ev1 := eval_fst (m2 := m2) hm 5 v hv
   have hbr := hbr rfl m m2
   have hi := fun m b e => runS_if (d := d) (m := m) (k := 3) (t := t) (ix := ix) (v := v) (c := c) (b := b) (e := e) (by decide) (by decide) (by decide) (by decide)
   have hd : dupS p.vars.length p.arrays.length (d + 1) (.mk 3 t ix v c b e) = [.mk 3 t ix v c (dupL p.vars.length p.arrays.length d b) (dupL p.vars.length p.arrays.length d e)] := by
    simp only [dupS, show ¬ ((3 : Int) = 1 ∨ (3 : Int) = 5) by decide, show ¬ ((3 : Int) = 2) by decide, if_false]; rfl
   rw [hd]
   simp only [foldR, List.append_nil]
   by_cases hz : (evalE m 5 v).1 = 0
   ·obtain ⟨z, h1⟩ := he m m2 hm hm2
    rw [(hi m b e).2 hz, (hi (pairM m m2) _ _).2 (by rw [ev1]; exact hz)]
    refine ⟨z, h1.fit, h1.eq, fun hh => ?_⟩
    obtain ⟨a, b'⟩ := h1.sec hh
    rw [(hi m2 b e).2 ((hbr hh).1 hz)]
    refine ⟨a, ?_⟩
    simp only [rel_app, rel_eval, List.length_append, List.length_nil]
    simp only [rel] at b' ⊢
    simp at b' ⊢
    omega
   ·obtain ⟨z, h1⟩ := hb m m2 hm hm2
    rw [(hi m b e).1 hz, (hi (pairM m m2) _ _).1 (by rw [ev1]; exact hz)]
    refine ⟨z, h1.fit, h1.eq, fun hh => ?_⟩
    obtain ⟨a, b'⟩ := h1.sec hh
    rw [(hi m2 b e).1 (fun h => hz ((hbr hh).2 h))]
    refine ⟨a, ?_⟩
    simp only [rel_app, rel_eval, List.length_append, List.length_nil]
    simp only [rel] at b' ⊢
    simp at b' ⊢
    omega
  ·have hd : dupS p.vars.length p.arrays.length (d + 1) (.mk 4 t ix v c b e) = [.mk 4 t ix v c (dupL p.vars.length p.arrays.length d b) (dupL p.vars.length p.arrays.length d e)] := by
    simp only [dupS, show ¬ ((4 : Int) = 1 ∨ (4 : Int) = 5) by decide, show ¬ ((4 : Int) = 2) by decide, if_false]; rfl
   rw [hd]
   simp only [foldR, List.append_nil, runS_4]
   exact dup_iter (f := fun m => foldR (runS d) m b) (g := fun m => foldR (runS d) m (dupL p.vars.length p.arrays.length d b)) (fun m hm => (runL_ok hm hbo).1) (fun m m2 h => hrb hbo m m2 h) (fun m m2 hm hm2 => hb m m2 hm hm2) c.toNat m m2 hm hm2
end Go.Proofs.YtpphageokplgoaaGreat.CtL
namespace Go.Proofs.YtpphageokplgoaaGreat.CtL
open Go Go.CT CtF CtR
open CtD (rel rel_app rel_eval)
def pairP (p : Pg) : Pg := ⟨p.vars ++ p.vars, p.arrays ++ p.arrays, dupL p.vars.length p.arrays.length 5 p.body⟩
def dblOK (p : Pg) : Bool := progOK p && decide (2 * p.vars.length ≤ 12) && decide (2 * p.arrays.length ≤ 2)
def prodP (p : Pg) : Pg × Bool := if dblOK p = true ∧ (strictR p).1 = 0 ∧ progOK (pairP p) = true then (pairP p, true) else (⟨[], [], []⟩, false)
def spl1 (p : Pg) (m : Mm) : Mm := ⟨m.vals.take p.vars.length, m.arrays.take p.arrays.length⟩
def spl2 (p : Pg) (m : Mm) : Mm := ⟨m.vals.drop p.vars.length, m.arrays.drop p.arrays.length⟩
theorem dbl_ok {p : Pg} (h : dblOK p = true) : progOK p = true ∧ 2 * p.vars.length ≤ 12 ∧ 2 * p.arrays.length ≤ 2 := by
 simp only [dblOK, Bool.and_eq_true, decide_eq_true_eq] at h
 exact ⟨h.1.1, h.1.2, h.2⟩
theorem pair_fits {p : Pg} {a b : Mm} (hp : dblOK p = true) (ha : MemFits p a) (hb : MemFits p b) : MemFits (pairP p) (pairM a b) := by
 obtain ⟨hok, h1, h2⟩ := dbl_ok hp
 have hl := prog_len2 hok
 refine ⟨by simp [pairP, pairM, ha.nv, hb.nv], by simp [pairP, pairM, ha.na, hb.na], ?_, ?_, fun x hx => ?_, fun x hx => ?_⟩
 ·simp only [pairP, List.length_append]; omega
 ·simp only [pairP, List.length_append]; omega
 ·rcases List.mem_append.1 hx with h | h
  ·exact ha.val x h
  ·exact hb.val x h
 ·rcases List.mem_append.1 hx with h | h
  ·exact ha.arr x h
  ·exact hb.arr x h
theorem spl1_pair {p : Pg} {a b : Mm} (ha : MemFits p a) : spl1 p (pairM a b) = a := by
 obtain ⟨va, aa⟩ := a
 have h1 := ha.nv
 have h2 := ha.na
 simp only at h1 h2
 simp [spl1, pairM, ← h1, ← h2]
theorem spl2_pair {p : Pg} {a b : Mm} (ha : MemFits p a) : spl2 p (pairM a b) = b := by
 obtain ⟨va, aa⟩ := a
 have h1 := ha.nv
 have h2 := ha.na
 simp only at h1 h2
 simp [spl2, pairM, ← h1, ← h2]
def KLow (p : Pg) (d : Nat) (l : List St1) : Prop := ∃ c, (∀ s ∈ l, stmtOK p d s = true) ∧ fineL (flowR p.vars p.arrays) p.vars p.arrays d c l = true ∧ fineL (leakR p.vars p.arrays) p.vars p.arrays d c l = true ∧ freeL d l = true
theorem dupK_low {p : Pg} : DupK (LowM 0 p) (KLow p) where
 body := fun d l s ⟨c, h1, h2, h3, h4⟩ hs => by
  simp only [fineL, freeL, List.all_eq_true, Bool.and_eq_true] at h2 h3 h4
  refine ⟨ctxI p.vars p.arrays s c, ?_, (h2 s hs).1.2, (h3 s hs).1.2, (h4 s hs).1.2⟩
  have h := h1 s hs
  obtain ⟨k, t, ix, v, cc, b, e⟩ := s
  exact (stmtOK_succ h).2.1
 els := fun d l s ⟨c, h1, h2, h3, h4⟩ hs => by
  simp only [fineL, freeL, List.all_eq_true, Bool.and_eq_true] at h2 h3 h4
  refine ⟨ctxI p.vars p.arrays s c, ?_, (h2 s hs).2, (h3 s hs).2, (h4 s hs).2⟩
  have h := h1 s hs
  obtain ⟨k, t, ix, v, cc, b, e⟩ := s
  exact (stmtOK_succ h).2.2
 run := fun d l s ⟨c, h1, h2, h3, h4⟩ hs m m2 hQ => by
  have hf := fineL_sub (l2 := [s]) h2 (by simpa using hs)
  have hr : freeL (d + 1) [s] = true := by
   simp only [freeL, List.all_eq_true] at h4 ⊢
   exact fun x hx => by rw [List.mem_singleton.1 hx]; exact h4 s hs
  have := run_low (β := 0) (p := p) (d + 1) c [s] (fun x hx => by rw [List.mem_singleton.1 hx]; exact h1 s hs) hf hr m m2 hQ
  simpa only [foldR] using this
 br := fun d l s ⟨c, h1, h2, h3, h4⟩ hs hk m m2 hQ => by
  simp only [fineL, List.all_eq_true, Bool.and_eq_true, beq_iff_eq] at h3
  have hle := (leak_spec (h3 s hs).1.1).1 hk
  have hso := h1 s hs
  obtain ⟨k, t, ix, v, cc, b, e⟩ := s
  have hsv := (shapeV hso).1 (by simp only [St1.kind] at hk; omega)
  have := evalE_low (β := 0) hQ 5 v hsv hle
  simp only [St1.value]
  rw [this]
theorem dupK_eq : DupK (fun a b : Mm => a = b) (fun _ _ => True) :=
 ⟨fun _ _ _ _ _ => trivial, fun _ _ _ _ _ => trivial, fun _ _ _ _ _ _ _ h => by rw [h], fun _ _ _ _ _ _ _ _ h => by rw [h]⟩
theorem dupK_no : DupK (fun _ _ : Mm => False) (fun _ _ => True) :=
 ⟨fun _ _ _ _ _ => trivial, fun _ _ _ _ _ => trivial, fun _ _ _ _ _ _ _ h => h.elim, fun _ _ _ _ _ _ _ _ h => h.elim⟩
theorem prod_run {p : Pg} {a b : Mm} (hp : dblOK p = true) (hq : progOK (pairP p) = true) (ha : MemFits p a) (hb : MemFits p b) :
 memOK (pairP p).vars (pairP p).arrays (pairM a b) = true ∧ runP (pairP p) (pairM a b) = ((runL 5 (pairM a b) (pairP p).body).1, (runL 5 (pairM a b) (pairP p).body).2, true) ∧
 memOK (pairP p).vars (pairP p).arrays (runL 5 (pairM a b) (pairP p).body).1 = true ∧ spl1 p (runL 5 (pairM a b) (pairP p).body).1 = (runL 5 a p.body).1 := by
 have hf := pair_fits hp ha hb
 have hm := memOK_of hf
 have hok := (dbl_ok hp).1
 obtain ⟨z, hz⟩ := dup_run dupK_no 5 p.body a b (body_of hok).1 trivial ha hb
 have h1 : (runL 5 (pairM a b) (pairP p).body).1 = pairM (runL 5 a p.body).1 z := hz.eq
 exact ⟨hm, runP_of hq hm, memOK_of (runL_ok hf (body_of hq).1).1, by rw [h1]; exact spl1_pair (runL_ok ha (body_of hok).1).1⟩
theorem prod_low {p : Pg} {a b : Mm} (hp : dblOK p = true) (hs : (strictR p).1 = 0) (hr : freeP p = true) (ha : MemFits p a) (hb : MemFits p b) (hl : LowM 0 p a b) :
 spl2 p (runL 5 (pairM a b) (pairP p).body).1 = (runL 5 b p.body).1 := by
 have hok := (dbl_ok hp).1
 have hf : (chkR flowR p).1 = 0 := by
  unfold strictR at hs
  by_cases h : (chkR flowR p).1 = 0
  ·exact h
  ·rw [if_pos h] at hs; exact hs
 have hk : (chkR leakR p).1 = 0 := by
  unfold strictR at hs
  rw [if_neg (by simpa using hf)] at hs; exact hs
 have h1 := fineP_ok ((chk_fine flowR p).1 hf)
 have h2 := fineP_ok ((chk_fine leakR p).1 hk)
 have hfr : freeL 5 p.body = true := by
  simp only [freeP, Bool.and_eq_true] at hr
  exact hr.2
 obtain ⟨z, hz⟩ := dup_run dupK_low 5 p.body a b (body_of hok).1 ⟨0, (body_of hok).1, h1.2, h2.2, hfr⟩ ha hb
 have h1 : (runL 5 (pairM a b) (pairP p).body).1 = pairM (runL 5 a p.body).1 z := hz.eq
 rw [h1, spl2_pair (runL_ok ha (body_of hok).1).1]
 exact (hz.sec hl).1
theorem prod_same {p : Pg} {a : Mm} (hp : dblOK p = true) (ha : MemFits p a) :
 spl2 p (runL 5 (pairM a a) (pairP p).body).1 = (runL 5 a p.body).1 ∧ (rel (runL 5 (pairM a a) (pairP p).body).2).length = 2 * (rel (runL 5 a p.body).2).length := by
 have hok := (dbl_ok hp).1
 obtain ⟨z, hz⟩ := dup_run dupK_eq 5 p.body a a (body_of hok).1 trivial ha ha
 have h1 : (runL 5 (pairM a a) (pairP p).body).1 = pairM (runL 5 a p.body).1 z := hz.eq
 have h2 := hz.sec rfl
 refine ⟨by rw [h1, spl2_pair (runL_ok ha (body_of hok).1).1]; exact h2.1, ?_⟩
 have : (rel (runL 5 (pairM a a) (pairP p).body).2).length = (rel (runL 5 a p.body).2).length + (rel (runL 5 a p.body).2).length := h2.2
 omega
end Go.Proofs.YtpphageokplgoaaGreat.CtL
namespace Go.Proofs.YtpphageokplgoaaGreat.CtL
open Go Go.CT CtF CtR
open CtD (rel rel_app rel_eval)
theorem sh_atom {n k d : Nat} {e : Ex} (h : atom e = true) : atom (shE n k d e) = true := by
 obtain ⟨kd, v, ks⟩ := e
 cases d with
 | zero => exact h
 | succ d => exact h
theorem sh_shape {p : Pg} : ∀ (d : Nat) (e : Ex), CtR.shape p d e = true → CtR.shape (pairP p) d (shE p.vars.length p.arrays.length d e) = true
 | 0, _, h => by simp [CtR.shape] at h
 | d + 1, .mk kd v ks, h => by
  obtain ⟨g1, g2, g3⟩ := shape_succ h
  obtain ⟨_, gb, c, gl⟩ := fits_len g1
  refine shape_of (fitsE_true (by rw [List.length_map]; exact gb) ?_ ?_) (fun x hx => ?_) (fun h3 => ?_)
  ·split
   ·omega
   ·split <;> omega
  ·by_cases k2 : kd = 2
   ·subst k2
    have : v < p.vars.length := by simpa [limit] using gl
    simp [limit, pairP]; omega
   ·by_cases k3 : kd = 3
    ·subst k3
     have : v < p.arrays.length := by simpa [limit] using gl
     simp [limit, pairP]; omega
    ·rw [if_neg k2, if_neg k3]
     simpa [limit, k2, k3] using gl
  ·obtain ⟨y, hy, rfl⟩ := List.mem_map.1 hx
   exact sh_shape d y (g2 y hy)
  ·have := g3 h3
   cases ks with
   | nil => simp [headAtom] at this
   | cons a r => exact sh_atom (this : atom a = true)
theorem sh_cnt {n k : Nat} : ∀ (d : Nat) (e : Ex), cnt d (shE n k d e) = cnt d e
 | 0, _ => rfl
 | d + 1, .mk kd v ks => by
  simp only [shE, cnt, List.map_map]
  congr 2
  exact List.map_congr_left fun x _ => sh_cnt d x
theorem limit_dbl {p : Pg} (k : Int) : limit p k ≤ limit (pairP p) k := by
 unfold limit; repeat' split
 all_goals (simp [pairP]; try omega)
theorem shape_dbl {p : Pg} : ∀ (d : Nat) (e : Ex), CtR.shape p d e = true → CtR.shape (pairP p) d e = true
 | 0, _, h => by simp [CtR.shape] at h
 | d + 1, .mk k v ks, h => by
  obtain ⟨g1, g2, g3⟩ := shape_succ h
  obtain ⟨_, gb, c, gl⟩ := fits_len g1
  exact shape_of (fitsE_true gb c (Int.lt_of_lt_of_le gl (limit_dbl k))) (fun x hx => shape_dbl d x (g2 x hx)) g3
theorem right_pair {p : Pg} {e : Ex} (h : right p e = true) : right (pairP p) e = true := by
 simp only [right, Bool.and_eq_true] at h ⊢
 refine ⟨shape_dbl 5 e h.1, h.2⟩
theorem right_sh {p : Pg} {e : Ex} (h : right p e = true) : right (pairP p) (shE p.vars.length p.arrays.length 5 e) = true := by
 simp only [right, Bool.and_eq_true] at h ⊢
 rw [sh_cnt]
 exact ⟨sh_shape 5 e h.1, h.2⟩
theorem head_mono {p : Pg} {k t : Int} {ix v : Ex} {c : Int} {bn en : Nat} (h : headOK p k t ix v c bn en = true) : headOK (pairP p) k t ix v c bn en = true := by
 simp only [headOK, Bool.and_eq_true] at h ⊢
 refine ⟨h.1, ?_⟩
 have h2 := h.2
 have hv : (pairP p).vars.length = p.vars.length + p.vars.length := by simp [pairP]
 have ha : (pairP p).arrays.length = p.arrays.length + p.arrays.length := by simp [pairP]
 by_cases k1 : k = 1 ∨ k = 5
 ·rw [if_pos k1] at h2 ⊢
  simp only [Bool.and_eq_true, decide_eq_true_eq] at h2 ⊢
  exact ⟨⟨h2.1.1, by omega⟩, right_pair h2.2⟩
 ·rw [if_neg k1] at h2 ⊢
  by_cases k2 : k = 2
  ·rw [if_pos k2] at h2 ⊢
   simp only [Bool.and_eq_true, decide_eq_true_eq] at h2 ⊢
   exact ⟨⟨⟨⟨h2.1.1.1.1, by omega⟩, right_pair h2.1.1.2⟩, h2.1.2⟩, right_pair h2.2⟩
  ·rw [if_neg k2] at h2 ⊢
   by_cases k3 : k = 3
   ·rw [if_pos k3] at h2 ⊢; exact right_pair h2
   ·rw [if_neg k3] at h2 ⊢; exact h2
theorem none0_of {e : Ex} (h : e = e0) : none0 e = true := by subst h; rfl
theorem dup_stmt {p : Pg} : ∀ (d : Nat) (s : St1), stmtOK p d s = true → (∀ x ∈ dupS p.vars.length p.arrays.length d s, stmtOK (pairP p) d x = true) ∧ ∀ D, lsize D (dupS p.vars.length p.arrays.length d s) ≤ 2 * tsize d s
 | 0, _, h => by simp [stmtOK] at h
 | d + 1, .mk k t ix v c b e, h => by
  obtain ⟨hh, hb, he⟩ := stmtOK_succ h
  have hsub : ∀ l : List St1, (∀ s ∈ l, stmtOK p d s = true) → (∀ x ∈ (l.map (dupS p.vars.length p.arrays.length d)).flatten, stmtOK (pairP p) d x = true) ∧ ∀ D, lsize D (l.map (dupS p.vars.length p.arrays.length d)).flatten ≤ 2 * lsize d l := fun l hl => by
   induction l with
   | nil => simp [lsize]
   | cons a r ih =>
    obtain ⟨i1, i2⟩ := ih fun s hs => hl s (by simp [hs])
    obtain ⟨j1, j2⟩ := dup_stmt d a (hl a (by simp))
    refine ⟨fun x hx => ?_, fun D => ?_⟩
    ·rw [List.map_cons, List.flatten_cons] at hx
     rcases List.mem_append.1 hx with h | h
     ·exact j1 x h
     ·exact i1 x h
    ·rw [List.map_cons, List.flatten_cons, lsize_app]
     have := i2 D
     have := j2 D
     have e : lsize d (a :: r) = tsize d a + lsize d r := by simp [lsize]
     omega
  have hts : tsize (d + 1) (.mk k t ix v c b e) = 1 + lsize d b + lsize d e := by simp [tsize, lsize]
  rw [hts]
  have hpp := head_parts hh
  rcases head_kind hh with ⟨hk, h0, h1, hr⟩ | ⟨rfl, h0, h1, hri, hat, hr⟩ | ⟨rfl, hr⟩ | ⟨rfl, hc1, hc3⟩
  ·obtain ⟨rfl, hix⟩ := hpp.2.1 (by omega)
   obtain rfl := hix (by omega)
   obtain ⟨rfl, rfl⟩ := hpp.2.2.1 (by omega) (by omega)
   have hd : dupS p.vars.length p.arrays.length (d + 1) (.mk k t e0 v 0 [] []) = [.mk k t e0 v 0 [] [], .mk k (t + p.vars.length) e0 (shE p.vars.length p.arrays.length 5 v) 0 [] []] := by
    simp only [dupS]; rw [if_pos hk]
   have g1 := right_pair hr
   have g2 := right_sh hr
   rw [hd]
   refine ⟨fun x hx => ?_, fun D => ?_⟩
   ·rcases List.mem_cons.1 hx with rfl | hx
    ·have := head_mono hh
     simp only [List.length_nil] at this
     simp [stmtOK, this]
    ·rw [List.mem_singleton.1 hx]
     have hb : blk k = false := by rcases hk with rfl | rfl <;> rfl
     have h4 : k ≠ 4 := by omega
     have hv : (pairP p).vars.length = p.vars.length + p.vars.length := by simp [pairP]
     have : headOK (pairP p) k (t + p.vars.length) e0 (shE p.vars.length p.arrays.length 5 v) 0 0 0 = true := by
      simp only [headOK, Bool.and_eq_true]
      refine ⟨by simp [parts, hb, h4, none0_of], ?_⟩
      rw [if_pos hk]
      simp only [Bool.and_eq_true, decide_eq_true_eq]
      exact ⟨⟨by omega, by omega⟩, g2⟩
     simp [stmtOK, this]
   ·cases D <;> simp [lsize, tsize]
  ·obtain ⟨rfl, _⟩ := hpp.2.1 (by omega)
   obtain ⟨rfl, rfl⟩ := hpp.2.2.1 (by omega) (by omega)
   have hd : dupS p.vars.length p.arrays.length (d + 1) (.mk 2 t ix v 0 [] []) = [.mk 2 t ix v 0 [] [], .mk 2 (t + p.arrays.length) (shE p.vars.length p.arrays.length 5 ix) (shE p.vars.length p.arrays.length 5 v) 0 [] []] := by
    simp [dupS]
   rw [hd]
   refine ⟨fun x hx => ?_, fun D => ?_⟩
   ·rcases List.mem_cons.1 hx with rfl | hx
    ·have := head_mono hh
     simp only [List.length_nil] at this
     simp [stmtOK, this]
    ·rw [List.mem_singleton.1 hx]
     have ha : (pairP p).arrays.length = p.arrays.length + p.arrays.length := by simp [pairP]
     have : headOK (pairP p) 2 (t + p.arrays.length) (shE p.vars.length p.arrays.length 5 ix) (shE p.vars.length p.arrays.length 5 v) 0 0 0 = true := by
      have g0 : (0 : Int) ≤ t + p.arrays.length := by omega
      have g1 : t + (p.arrays.length : Int) < (pairP p).arrays.length := by omega
      simp [headOK, parts, blk, g0, g1, right_sh hri, right_sh hr, sh_atom (n := p.vars.length) (k := p.arrays.length) (d := 5) hat]
     simp [stmtOK, this]
   ·cases D <;> simp [lsize, tsize]
  ·obtain ⟨rfl, hix⟩ := hpp.2.1 (by omega)
   obtain rfl := hix (by omega)
   obtain rfl := hpp.2.2.2 (.inl rfl)
   have hd : dupS p.vars.length p.arrays.length (d + 1) (.mk 3 0 e0 v 0 b e) = [.mk 3 0 e0 v 0 (b.map (dupS p.vars.length p.arrays.length d)).flatten (e.map (dupS p.vars.length p.arrays.length d)).flatten] := by simp [dupS]
   obtain ⟨b1, b2⟩ := hsub b hb
   obtain ⟨e1, e2⟩ := hsub e he
   rw [hd]
   refine ⟨fun x hx => ?_, fun D => ?_⟩
   ·rw [List.mem_singleton.1 hx]
    simp only [stmtOK, Bool.and_eq_true, List.all_eq_true]
    refine ⟨⟨?_, b1⟩, e1⟩
    simp only [headOK, Bool.and_eq_true]
    exact ⟨by simp [parts, blk, none0_of], by simpa using right_pair hr⟩
   ·cases D with
    | zero => simp [lsize, tsize]
    | succ D =>
     have := b2 D
     have := e2 D
     rw [lsize_one]
     simp only [tsize]
     unfold lsize at *
     omega
  ·obtain ⟨rfl, rfl, rfl⟩ := hpp.1 rfl
   obtain rfl := hpp.2.2.2 (.inr rfl)
   have hd : dupS p.vars.length p.arrays.length (d + 1) (.mk 4 0 e0 e0 c b []) = [.mk 4 0 e0 e0 c (b.map (dupS p.vars.length p.arrays.length d)).flatten []] := by simp [dupS]
   obtain ⟨b1, b2⟩ := hsub b hb
   rw [hd]
   refine ⟨fun x hx => ?_, fun D => ?_⟩
   ·rw [List.mem_singleton.1 hx]
    simp only [stmtOK, Bool.and_eq_true, List.all_eq_true]
    refine ⟨⟨?_, b1⟩, by simp⟩
    simp only [headOK, Bool.and_eq_true]
    exact ⟨by simp [parts, blk, none0_of, hc1, hc3], by simp⟩
   ·cases D with
    | zero => simp [lsize, tsize]
    | succ D =>
     have := b2 D
     rw [lsize_one]
     simp only [tsize, List.map_nil, List.sum_nil]
     unfold lsize at *
     omega
theorem pair_body {p : Pg} (hok : progOK p = true) : (∀ x ∈ (pairP p).body, stmtOK (pairP p) 5 x = true) ∧ ∀ D, lsize D (pairP p).body ≤ 120 := by
 have hb := body_of hok
 have key : ∀ l : List St1, (∀ s ∈ l, stmtOK p 5 s = true) → (∀ x ∈ dupL p.vars.length p.arrays.length 5 l, stmtOK (pairP p) 5 x = true) ∧ ∀ D, lsize D (dupL p.vars.length p.arrays.length 5 l) ≤ 2 * lsize 5 l := fun l hl => by
  induction l with
  | nil => simp [lsize, dupL]
  | cons a r ih =>
   obtain ⟨i1, i2⟩ := ih fun s hs => hl s (by simp [hs])
   obtain ⟨j1, j2⟩ := dup_stmt 5 a (hl a (by simp))
   have hd : dupL p.vars.length p.arrays.length 5 (a :: r) = dupS p.vars.length p.arrays.length 5 a ++ dupL p.vars.length p.arrays.length 5 r := by simp [dupL]
   rw [hd]
   refine ⟨fun x hx => ?_, fun D => ?_⟩
   ·rcases List.mem_append.1 hx with h | h
    ·exact j1 x h
    ·exact i1 x h
   ·rw [lsize_app]
    have := i2 D
    have := j2 D
    have e : lsize 5 (a :: r) = tsize 5 a + lsize 5 r := by simp [lsize]
    omega
 have h := key p.body hb.1
 refine ⟨h.1, fun D => ?_⟩
 have := h.2 D
 have := hb.2
 show lsize D (dupL _ _ 5 p.body) ≤ 120
 omega
end Go.Proofs.YtpphageokplgoaaGreat.CtL
namespace Go.Proofs.YtpphageokplgoaaGreat.CtD
open Go Go.CT CtF CtR
open CtL (shE dupS dupL pairP prodP dblOK)
theorem shiftOf (n k : Nat) (hn : n ≤ 1000) (hk : k ≤ 1000) (d : Nat) (kd v : Int) (ks : List Ex) (hl3 : ks.length ≤ 3) (hvb : kd = 2 ∨ kd = 3 → 0 ≤ v ∧ v ≤ 1000) (ih : ∀ x ∈ ks, DC Tryz.prog 139 [.agg x.cells, DI .i64 n, DI .i64 k] [] (fun r h => r = .agg (shE n k d x).cells ∧ h = [])) :
 DC Tryz.prog 139 [.agg (Ex.cells (.mk kd v ks)), DI .i64 n, DI .i64 k] [] (fun r h => r = .agg (shE n k (d + 1) (.mk kd v ks)).cells ∧ h = []) := by
 have hmx := mx_eq
 generalize hR : (fun (r : D) (h : List (Option (List C))) => r = .agg (shE n k (d + 1) (.mk kd v ks)).cells ∧ h = []) = R
 obtain ⟨kx, hkx⟩ : ∃ x, x = kd := ⟨_, rfl⟩
 obtain ⟨V, hV⟩ : ∃ x, x = (if kd = 2 then v + (n : Int) else if kd = 3 then v + (k : Int) else v) := ⟨_, rfl⟩
 have key : kd = 2 ∨ kd = 3 ∨ (kd ≠ 2 ∧ kd ≠ 3) := by omega
 rcases key with hk | hk | hk
 case' inl =>
  have hB : V = v + n := hV.trans (if_pos hk)
  have hk' : kx = 2 := hkx.trans hk
  have hv2 := hvb (by omega)
  refine dcZ Tryz.func139 ?_
  simp (maxSteps := 9999999) only [go_sem]
  iterate 4 ((try (refine drvZ Tryz.func139 ?_; simp (maxSteps := 9999999) only [go_sem, hk])); (try ((with_reducible refine And.intro ?_ ?_) <;> (repeat' with_reducible apply And.intro) <;> try exact sd)))
 case' inr.inl =>
  have hB : V = v + k := by rw [hV, if_neg (by omega), if_pos hk]
  have hk' : kx = 3 := hkx.trans hk
  have hv2 := hvb (by omega)
  refine dcZ Tryz.func139 ?_
  simp (maxSteps := 9999999) only [go_sem]
  iterate 4 ((try (refine drvZ Tryz.func139 ?_; simp (maxSteps := 9999999) only [go_sem, hk])); (try ((with_reducible refine And.intro ?_ ?_) <;> (repeat' with_reducible apply And.intro) <;> try exact sd)))
 case' inr.inr =>
  have hB : V = v := by rw [hV, if_neg hk.1, if_neg hk.2]
  have hk' : kx = kd := hkx
  have e2 : (kd == 2) = false := by simp [hk.1]
  have e3 : (kd == 3) = false := by simp [hk.2]
  have f2 := hk.1
  have f3 := hk.2
  refine dcZ Tryz.func139 ?_
  simp (maxSteps := 9999999) only [go_sem]
  iterate 4 ((try (refine drvZ Tryz.func139 ?_; simp (maxSteps := 9999999) only [go_sem, e2, e3, f2, f3])); (try ((with_reducible refine And.intro ?_ ?_) <;> (repeat' with_reducible apply And.intro) <;> try exact sd)))
 all_goals
  refine Go.loopQ (fun i : Nat => [(1, DI .i64 n), (2, DI .i64 k), (3, .c (.ptr 0 0)), (6, .c (.ptr 64 0)), (7, .c (.ptr 448 0)), (8, DI .i64 i)])
   (fun i => [(0, some [I64 kx, I64 v, .isl 3 (Ex.cellsL ks)]), (64, some [I64 0, I64 0, .v (.slice none 0 0)]), (448, some [I64 kx, I64 V, .msl 449 3 0 i]), (449, some (exC ((ks.take i).map (shE n k d))))])
   4096 (fun i => i ≤ ks.length) (fun i => ks.length - i) ?_ 0 (fun j => if j = 449 then none else some j) [] _ (Nat.zero_le _) ?_
  ·intro i hi again
   rcases Nat.lt_or_ge i ks.length with hlt | hge
   ·obtain ⟨⟨k', v', ks'⟩, hx⟩ : ∃ x, ks[i]? = some x := ⟨ks[i], by simp [hlt]⟩
    have hic := ih _ (List.mem_of_getElem? hx)
    have hsx : (ks.take (i + 1)).map (shE n k d) = (ks.take i).map (shE n k d) ++ [shE n k d (.mk k' v' ks')] := by rw [List.take_add_one, hx]; simp
    have hel : (exC ((ks.take i).map (shE n k d))).length = i * 3 := by rw [exC_len, List.length_map, List.length_take]; congr 1; omega
    generalize (ks.take i).map (shE n k d) = T at *
    generalize shE n k d (.mk k' v' ks') = E at *
    obtain ⟨ek, ev, eks⟩ := E
    refine drvL Tryz.func139 ?_
    simp (maxSteps := 9999999) only [go_sem, hx, hlt]
    iterate 6 ((try (refine drvZ Tryz.func139 ?_; simp (maxSteps := 9999999) only [go_sem, hx, hlt, hel])); (try ((with_reducible refine And.intro ?_ ?_) <;> (repeat' with_reducible apply And.intro) <;> try exact sd)); (try first | refine XK.p hic ok139 ?_ | refine XK.gp hic ok139 ?_))
    refine again (i + 1) (fun j => if j = 449 then some 5120 else some j) [] _ hlt (by omega) ?_
    rw [hsx]
    simp (maxSteps := 9999999) only [go_sem, TmOK, DM, DMs, CM, CMs, forall_eq, exists_eq_left, Mq, HpOK, LowOK, exC_snoc]
    simp
    exact CMs.kf (kf_app (exC_kf _) (by simp [kf]))
   ·have hn2 : ¬ i < ks.length := by omega
    obtain rfl : i = ks.length := by omega
    rw [List.take_length]
    refine drvL Tryz.func139 ?_
    simp (maxSteps := 9999999) only [go_sem, hn2, List.take_length]
    iterate 2 ((try (refine drvZ Tryz.func139 ?_; simp (maxSteps := 9999999) only [go_sem, hn2, List.take_length])); (try ((with_reducible refine And.intro ?_ ?_) <;> (repeat' with_reducible apply And.intro) <;> try exact sd)))
    have hE : shE n k (d + 1) (.mk kd v ks) = .mk kx V (ks.map (shE n k d)) := by rw [hkx, hV]; rfl
    rw [hE] at hR
    exact RetOb.node (ks := ks.map (shE n k d)) (by rw [← hR]; exact ⟨rfl, rfl⟩) (by simp [upd]) rfl (by simp)
  ·simp (maxSteps := 9999999) only [go_sem, TmOK, DM, DMs, CM, CMs, forall_eq, exists_eq_left, Mq, HpOK, LowOK, hk', hB]
   simp [exC]
theorem shiftS (p : Pg) (n k : Nat) (hpv : p.vars.length ≤ 1000) (hpa : p.arrays.length ≤ 1000) (hn : n ≤ 1000) (hk : k ≤ 1000) : ∀ (d : Nat) (e : Ex), CtR.shape p d e = true → DC Tryz.prog 139 [.agg e.cells, DI .i64 n, DI .i64 k] [] (fun r h => r = .agg (shE n k d e).cells ∧ h = [])
 | 0, _, h => by simp [CtR.shape] at h
 | d + 1, .mk kd v ks, h => by
  obtain ⟨g1, g2, g3⟩ := shape_succ h
  obtain ⟨hl3, hla, hv0, hv1⟩ := fits_len g1
  refine shiftOf n k hn hk d kd v ks (by omega) (fun hk => ?_) fun x hx => shiftS p n k hpv hpa hn hk d x (g2 x hx)
  rcases hk with rfl | rfl
  ·have : v < p.vars.length := by simpa [limit] using hv1
   omega
  ·have : v < p.arrays.length := by simpa [limit] using hv1
   omega
end Go.Proofs.YtpphageokplgoaaGreat.CtD
namespace Go.Proofs.YtpphageokplgoaaGreat.CtD
open Go Go.CT CtF CtR
open CtL (shE dupS dupL pairP prodP dblOK)
theorem copiedOf (p : Pg) (hpv : p.vars.length ≤ 1000) (hpa : p.arrays.length ≤ 1000) (d : Nat) (kd v : Int) (ks : List Ex) (hl3 : ks.length ≤ 3) (hvb : kd = 2 ∨ kd = 3 → 0 ≤ v ∧ v ≤ 1000) (ih : ∀ x ∈ ks, DC Tryz.prog 138 [.agg p.cells, .agg x.cells] [] (fun r h => r = .agg (shE p.vars.length p.arrays.length d x).cells ∧ h = [])) :
 DC Tryz.prog 138 [.agg p.cells, .agg (Ex.cells (.mk kd v ks))] [] (fun r h => r = .agg (shE p.vars.length p.arrays.length (d + 1) (.mk kd v ks)).cells ∧ h = []) := by
 have hmx := mx_eq
 obtain ⟨vs, ar, bd⟩ := p
 simp only at hpv hpa
 generalize hn : vs.length = n at *
 generalize hk0 : ar.length = k at *
 generalize hR : (fun (r : D) (h : List (Option (List C))) => r = .agg (shE n k (d + 1) (.mk kd v ks)).cells ∧ h = []) = R
 obtain ⟨kx, hkx⟩ : ∃ x, x = kd := ⟨_, rfl⟩
 obtain ⟨V, hV⟩ : ∃ x, x = (if kd = 2 then v + (n : Int) else if kd = 3 then v + (k : Int) else v) := ⟨_, rfl⟩
 have key : kd = 2 ∨ kd = 3 ∨ (kd ≠ 2 ∧ kd ≠ 3) := by omega
 rcases key with hk | hk | hk
 case' inl =>
  have hB : V = v + n := hV.trans (if_pos hk)
  have hk' : kx = 2 := hkx.trans hk
  have hv2 := hvb (by omega)
  refine dcZ Tryz.func138 ?_
  simp (maxSteps := 9999999) only [go_sem]
  iterate 5 ((try (refine drvZ Tryz.func138 ?_; simp (maxSteps := 9999999) only [go_sem, hk, hn, hk0])); (try ((with_reducible refine And.intro ?_ ?_) <;> (repeat' with_reducible apply And.intro) <;> try exact sd)))
 case' inr.inl =>
  have hB : V = v + k := by rw [hV, if_neg (by omega), if_pos hk]
  have hk' : kx = 3 := hkx.trans hk
  have hv2 := hvb (by omega)
  refine dcZ Tryz.func138 ?_
  simp (maxSteps := 9999999) only [go_sem]
  iterate 5 ((try (refine drvZ Tryz.func138 ?_; simp (maxSteps := 9999999) only [go_sem, hk, hn, hk0])); (try ((with_reducible refine And.intro ?_ ?_) <;> (repeat' with_reducible apply And.intro) <;> try exact sd)))
 case' inr.inr =>
  have hB : V = v := by rw [hV, if_neg hk.1, if_neg hk.2]
  have hk' : kx = kd := hkx
  have e2 : (kd == 2) = false := by simp [hk.1]
  have e3 : (kd == 3) = false := by simp [hk.2]
  have f2 := hk.1
  have f3 := hk.2
  refine dcZ Tryz.func138 ?_
  simp (maxSteps := 9999999) only [go_sem]
  iterate 5 ((try (refine drvZ Tryz.func138 ?_; simp (maxSteps := 9999999) only [go_sem, e2, e3, f2, f3, hn, hk0])); (try ((with_reducible refine And.intro ?_ ?_) <;> (repeat' with_reducible apply And.intro) <;> try exact sd)))
 all_goals
  refine Go.loopQ (fun i : Nat => [(2, .c (.ptr 0 0)), (4, .c (.ptr 128 0)), (5, .c (.ptr 512 0)), (34, .c (.isl 3 (Ex.cellsL ks))), (35, DI .i64 ks.length), (36, DI .i64 i)])
   (fun i => [(0, some (Pg.cells ⟨vs, ar, bd⟩)), (128, some [I64 0, I64 0, .v (.slice none 0 0)]), (512, some [I64 kx, I64 V, .msl 513 3 0 i]), (513, some (exC ((ks.take i).map (shE n k d))))])
   4096 (fun i => i ≤ ks.length) (fun i => ks.length - i) ?_ 0 (fun j => if j = 513 then none else some j) [] _ (Nat.zero_le _) ?_
  ·intro i hi again
   rcases Nat.lt_or_ge i ks.length with hlt | hge
   ·obtain ⟨⟨k', v', ks'⟩, hx⟩ : ∃ x, ks[i]? = some x := ⟨ks[i], by simp [hlt]⟩
    have hic := ih _ (List.mem_of_getElem? hx)
    have hsx : (ks.take (i + 1)).map (shE n k d) = (ks.take i).map (shE n k d) ++ [shE n k d (.mk k' v' ks')] := by rw [List.take_add_one, hx]; simp
    have hel : (exC ((ks.take i).map (shE n k d))).length = i * 3 := by rw [exC_len, List.length_map, List.length_take]; congr 1; omega
    generalize (ks.take i).map (shE n k d) = T at *
    generalize shE n k d (.mk k' v' ks') = E at *
    obtain ⟨ek, ev, eks⟩ := E
    refine drvL Tryz.func138 ?_
    simp (maxSteps := 9999999) only [go_sem, hx, hlt]
    iterate 6 ((try (refine drvZ Tryz.func138 ?_; simp (maxSteps := 9999999) only [go_sem, hx, hlt, hel])); (try ((with_reducible refine And.intro ?_ ?_) <;> (repeat' with_reducible apply And.intro) <;> try exact sd)); (try first | refine XK.p hic ok138 ?_ | refine XK.gp hic ok138 ?_))
    refine again (i + 1) (fun j => if j = 513 then some 4800 else some j) [] _ hlt (by omega) ?_
    rw [hsx]
    simp (maxSteps := 9999999) only [go_sem, TmOK, DM, DMs, CM, CMs, forall_eq, exists_eq_left, Mq, HpOK, LowOK, exC_snoc]
    simp
    exact CMs.kf (kf_app (exC_kf _) (by simp [kf]))
   ·have hn2 : ¬ i < ks.length := by omega
    obtain rfl : i = ks.length := by omega
    rw [List.take_length]
    refine drvL Tryz.func138 ?_
    simp (maxSteps := 9999999) only [go_sem, hn2, List.take_length]
    iterate 2 ((try (refine drvZ Tryz.func138 ?_; simp (maxSteps := 9999999) only [go_sem, hn2, List.take_length])); (try ((with_reducible refine And.intro ?_ ?_) <;> (repeat' with_reducible apply And.intro) <;> try exact sd)))
    have hE : shE n k (d + 1) (.mk kd v ks) = .mk kx V (ks.map (shE n k d)) := by rw [hkx, hV]; rfl
    rw [hE] at hR
    exact RetOb.node (ks := ks.map (shE n k d)) (by rw [← hR]; exact ⟨rfl, rfl⟩) (by simp [upd]) rfl (by simp)
  ·simp (maxSteps := 9999999) only [go_sem, TmOK, DM, DMs, CM, CMs, forall_eq, exists_eq_left, Mq, HpOK, LowOK, hk', hB]
   simp [exC]
theorem copiedI (p : Pg) (hpv : p.vars.length ≤ 1000) (hpa : p.arrays.length ≤ 1000) : ∀ (d : Nat) (e : Ex), CtR.shape p d e = true → DC Tryz.prog 138 [.agg p.cells, .agg e.cells] [] (fun r h => r = .agg (shE p.vars.length p.arrays.length d e).cells ∧ h = [])
 | 0, _, h => by simp [CtR.shape] at h
 | d + 1, .mk kd v ks, h => by
  obtain ⟨g1, g2, g3⟩ := shape_succ h
  obtain ⟨hl3, hla, hv0, hv1⟩ := fits_len g1
  refine copiedOf p hpv hpa d kd v ks (by omega) (fun hk => ?_) fun x hx => copiedI p hpv hpa d x (g2 x hx)
  rcases hk with rfl | rfl
  ·have : v < p.vars.length := by simpa [limit] using hv1
   omega
  ·have : v < p.arrays.length := by simpa [limit] using hv1
   omega
end Go.Proofs.YtpphageokplgoaaGreat.CtD
