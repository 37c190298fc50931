/- Contracts of functions of the program, one behind the other, as plain data: what each call returns and which blocks it leaves. -/
import Derived.Test.YtmagbjbanpgmhaaFacts
import Derived.Test.YtmagbjbanpgmhaaAj
import Derived.Test.YtmagbjbanpgmhaaAk
import Derived.Test.YtmagbjbanpgmhaaAl
import Derived.Test.YtmagbjbanpgmhaaAn
import Derived.Test.YtmagbjbanpgmhaaAo
import Derived.Test.YtmagbjbanpgmhaaAt
import Derived.Test.YtmagbjbanpgmhaaAs
import Derived.Test.YtmagbjbanpgmhaaAm
set_option linter.unusedVariables false
set_option linter.unusedSimpArgs false
set_option maxHeartbeats 16000000
set_option maxRecDepth 100000
namespace Go.Proofs.Ytmagbjbanpgmhaa.CtR
open Go Go.CT CtF

/-- Two memories agree on cells that do not depend on an input. -/
structure AgD (k nv : Nat) (s : List Nat) (m m' : Mm) : Prop where
  lv : m.vals.length = m'.vals.length
  la : m.arrays.length = m'.arrays.length
  val : ∀ i, i < nv → bt k s i = false → m.vals[i]? = m'.vals[i]?
  arr : ∀ i, bt k s (nv + i) = false → m.arrays[i]? = m'.arrays[i]?
theorem AgD.wide {k nv : Nat} {s s' : List Nat} {m m' : Mm} (h : AgD k nv s m m') (hs : ∀ i, bt k s' i = false → bt k s i = false) : AgD k nv s' m m' :=
  ⟨h.lv, h.la, fun i hi x => h.val i hi (hs i x), fun i x => h.arr i (hs _ x)⟩
theorem AgD.conf {k nv : Nat} {s r r' : List Nat} {m m' x x' : Mm} (h : AgD k nv s m m') (h1 : Conf k nv r s m x) (h2 : Conf k nv r' s m' x') {u : List Nat}
    (hu : ∀ i, bt k u i = false → bt k r i = false ∧ bt k r' i = false) : AgD k nv u x x' :=
  ⟨h1.lv.symm.trans (h.lv.trans h2.lv), h1.la.symm.trans (h.la.trans h2.la),
    fun i hi hb => (h1.val i hi (hu i hb).1).symm.trans ((h.val i hi (h1.low i (hu i hb).1)).trans (h2.val i hi (hu i hb).2)),
    fun i hb => (h1.arr i (hu _ hb).1).symm.trans ((h.arr i (h1.low _ (hu _ hb).1)).trans (h2.arr i (hu _ hb).2))⟩

theorem eval_val {k : Nat} {p : Pg} {s : List Nat} {m m' : Mm} (h : AgD k p.vars.length s m m') : ∀ (d : Nat) (e : Ex), shape p d e = true → (setE p.vars.length s d e).1.testBit k = false → (evalE m d e).1 = (evalE m' d e).1
  | 0, _, _, _ => rfl
  | d + 1, .mk kd v ks, hs, hb => by
    obtain ⟨g1, g2, g3⟩ := shape_succ hs
    obtain ⟨_, _, hv0, hv1⟩ := fits_len g1
    have hkids : (∀ x ∈ ks.map (fun e => (setE p.vars.length s d e).1), x.testBit k = false) → (ks.map fun e => (evalE m d e).1) = ks.map fun e => (evalE m' d e).1 := fun hx =>
      List.map_congr_left fun e he => eval_val h d e (g2 e he) (hx _ (List.mem_map.2 ⟨e, he, rfl⟩))
    by_cases k2 : kd = 2
    · subst k2
      simp only [setE, if_true, bit_or] at hb
      have hvn : v.toNat < p.vars.length := by simp [limit] at hv1; omega
      have := nth_eq (h.val _ hvn hb.2)
      simp [evalE, this]
    · by_cases k3 : kd = 3
      · subst k3
        simp [setE, bit_or] at hb
        have hx := hkids ((orL_bit _).1 hb.1)
        have := arrAt_eq (h.arr _ hb.2)
        simp only [evalE, hx, this]
        simp
      · simp only [setE, k2, k3, if_false] at hb
        have hx := hkids ((orL_bit _).1 hb)
        simp only [evalE, hx, k2, k3, if_false]
        repeat' split
        all_goals simp
theorem eval_ev {k : Nat} {p : Pg} {s : List Nat} {m m' : Mm} (h : AgD k p.vars.length s m m') : ∀ (d : Nat) (e : Ex), shape p d e = true → (setE p.vars.length s d e).2.testBit k = false → (evalE m d e).2 = (evalE m' d e).2
  | 0, _, _, _ => rfl
  | d + 1, .mk kd v ks, hs, hb => by
    obtain ⟨g1, g2, g3⟩ := shape_succ hs
    have hkids : (∀ x ∈ ks.map (fun e => (setE p.vars.length s d e).2), x.testBit k = false) → (ks.map fun e => (evalE m d e).2) = ks.map fun e => (evalE m' d e).2 := fun hx =>
      List.map_congr_left fun e he => eval_ev h d e (g2 e he) (hx _ (List.mem_map.2 ⟨e, he, rfl⟩))
    by_cases k2 : kd = 2
    · subst k2
      simp [evalE]
    · by_cases k3 : kd = 3
      · subst k3
        simp [setE, bit_or] at hb
        have hx := hkids ((orL_bit _).1 hb.1)
        have hy : (ks.map fun e => (evalE m d e).1) = ks.map fun e => (evalE m' d e).1 := List.map_congr_left fun e he => eval_val h d e (g2 e he) ((orL_bit _).1 hb.2 _ (List.mem_map.2 ⟨e, he, rfl⟩))
        simp only [evalE, hx, hy]
        simp
      · simp only [setE, k2, k3, if_false] at hb
        have hx := hkids ((orL_bit _).1 hb)
        simp only [evalE, hx, k2, k3, if_false]
        repeat' split
        all_goals simp

theorem AgD.set1 {k w : Nat} {p : Pg} {s : List Nat} {m m' : Mm} (h : AgD k p.vars.length s m m') (hw : p.vars.length + p.arrays.length = w) (hl : s.length = w) {t x y : Int} {z : Nat} (t0 : 0 ≤ t) (t1 : t < p.vars.length)
    (hx : z.testBit k = false → x = y) : AgD k p.vars.length (s.set t.toNat z) (setV m t x) (setV m' t y) := by
  refine ⟨by simp [setV, h.lv], h.la, fun i hi hb => ?_, fun i hb => ?_⟩
  · rw [bt_set] at hb
    simp only [setV, List.getElem?_set, h.lv]
    by_cases ht : t.toNat = i
    · rw [if_pos ⟨ht, by omega⟩] at hb
      simp [ht, hx hb]
    · rw [if_neg (fun e => ht e.1)] at hb
      simp [ht, h.val i hi hb]
  · rw [bt_set, if_neg (fun e => by omega)] at hb
    exact h.arr i hb
theorem AgD.set2 {k w : Nat} {p : Pg} {s : List Nat} {m m' : Mm} (h : AgD k p.vars.length s m m') (hw : p.vars.length + p.arrays.length = w) (hl : s.length = w) {t i j x y : Int} {z : Nat} (t0 : 0 ≤ t) (t1 : t < p.arrays.length)
    (hx : z.testBit k = false → i = j ∧ x = y ∧ bt k s (p.vars.length + t.toNat) = false) : AgD k p.vars.length (s.set (p.vars.length + t.toNat) z) (setA m t i x) (setA m' t j y) := by
  refine ⟨h.lv, by simp [setA, h.la], fun n hn hb => ?_, fun n hb => ?_⟩
  · rw [bt_set, if_neg (fun e => by omega)] at hb
    exact h.val n hn hb
  · rw [bt_set] at hb
    simp only [setA, List.getElem?_set, h.la]
    by_cases ht : t.toNat = n
    · subst ht
      rw [if_pos ⟨rfl, by omega⟩] at hb
      obtain ⟨rfl, rfl, hb2⟩ := hx hb
      rw [arrAt_eq (h.arr _ hb2)]; simp
    · rw [if_neg (fun e => ht (by omega))] at hb
      simp [ht, h.arr n hb]

theorem agree_list {k nv w : Nat} {G : Dp → St1 → Dp} {F : Mm → St1 → Mm × List Ev} : ∀ (l : List St1) (s : Dp) (m m' : Mm), Okd w s → (∀ x ∈ l, ∀ s, Okd w s → Okd w (G s x)) → (∀ x ∈ l, ∀ s, Okd w s → Le0 k s (G s x)) →
    (∀ x ∈ l, ∀ s m m', Okd w s → AgD k nv s.sets m m' → AgD k nv (G s x).sets (F m x).1 (F m' x).1 ∧ ((G s x).tr.testBit k = false → (F m x).2 = (F m' x).2)) →
    AgD k nv s.sets m m' → AgD k nv (l.foldl G s).sets (foldR F m l).1 (foldR F m' l).1 ∧ ((l.foldl G s).tr.testBit k = false → (foldR F m l).2 = (foldR F m' l).2)
  | [], s, m, m', _, _, _, _, ha => ⟨ha, fun _ => rfl⟩
  | x :: r, s, m, m', h, h1, h2, h3, ha => by
    obtain ⟨a1, a2⟩ := h3 x (by simp) s m m' h ha
    have ho := h1 x (by simp) s h
    have hle := fold_le (k := k) (G := G) r _ ho (fun y hy => h1 y (by simp [hy])) fun y hy => h2 y (by simp [hy])
    obtain ⟨b1, b2⟩ := agree_list r (G s x) _ _ ho (fun y hy => h1 y (by simp [hy])) (fun y hy => h2 y (by simp [hy])) (fun y hy => h3 y (by simp [hy])) a1
    refine ⟨b1, fun hb => ?_⟩
    rw [List.foldl_cons] at hb
    simp only [foldR]
    rw [a2 (hle.1 hb), b2 hb]
theorem agree_iter {k nv : Nat} {s' s : List Nat} {f : Mm → Mm × List Ev} {T : Prop} (hs : ∀ i, bt k s i = false → bt k s' i = false) (hf : ∀ m m', AgD k nv s m m' → AgD k nv s' (f m).1 (f m').1 ∧ (T → (f m).2 = (f m').2)) :
    ∀ (n : Nat) (m m' : Mm), AgD k nv s m m' → AgD k nv s (iterR f n m).1 (iterR f n m').1 ∧ (T → (iterR f n m).2 = (iterR f n m').2)
  | 0, m, m', h => ⟨h, fun _ => rfl⟩
  | n + 1, m, m', h => by
    obtain ⟨a1, a2⟩ := agree_iter hs hf n m m' h
    obtain ⟨b1, b2⟩ := hf _ _ a1
    exact ⟨b1.wide hs, fun ht => by simp only [iterR]; rw [a2 ht, b2 ht]⟩

/-- Runs of memories that agree where nothing depends on an input. -/
theorem dep_two {k w : Nat} {p : Pg} (hw : p.vars.length + p.arrays.length = w) : ∀ (d c : Nat) (s : Dp) (t : St1) (m m' : Mm), c < 2 ^ w → c.testBit k = false → Okd w s → stmtOK p d t = true → AgD k p.vars.length s.sets m m' →
    AgD k p.vars.length (depS p.vars.length d c s t).sets (runS d m t).1 (runS d m' t).1 ∧ ((depS p.vars.length d c s t).tr.testBit k = false → (runS d m t).2 = (runS d m' t).2)
  | 0, _, s, _, m, m', _, _, _, _, ha => ⟨ha, fun _ => rfl⟩
  | d + 1, c, s, .mk kd t ix v cc b e, m, m', hc, hk, h, hso, ha => by
    have hV := setE_lt (nv := p.vars.length) h.row 5 v
    have hbo := stmtOK_succ hso
    have hh := head_kind hbo.1
    obtain ⟨s1, s2⟩ := shapeV hso
    have hl : ∀ (c : Nat) (l : List St1) (s : Dp) (m m' : Mm), (∀ x ∈ l, stmtOK p d x = true) → c < 2 ^ w → c.testBit k = false → Okd w s → AgD k p.vars.length s.sets m m' →
        AgD k p.vars.length (l.foldl (depS p.vars.length d c) s).sets (foldR (runS d) m l).1 (foldR (runS d) m' l).1 ∧ ((l.foldl (depS p.vars.length d c) s).tr.testBit k = false → (foldR (runS d) m l).2 = (foldR (runS d) m' l).2) := fun c l s m m' hlo hc hk h ha =>
      agree_list l s m m' h (fun x _ s hs => dep_ok d c s x hc hs) (fun x _ s hs => dep_le d c s x hc hs) (fun x hx s m m' hs ha => dep_two hw d c s x m m' hc hk hs (hlo x hx) ha) ha
    by_cases k4 : kd = 4
    · subst k4
      rw [depS_4, runS_4, runS_4]
      obtain ⟨t, ht, hq, e1, e2⟩ := fix_spec (f := fun s => b.foldl (depS p.vars.length d c) s) (fun s hs => foldl_ok hc b hs) (fun t => ∀ i, bt k t.sets i = false → bt k s.sets i = false)
        (fun t ht hq i hi => hq i (by rw [bt_unite (by rw [(foldl_ok hc b ht).len, ht.len])] at hi; exact (Bool.or_eq_false_iff.1 hi).1)) FU s h (fun _ h => h) (fu_big h.le _)
      rw [e1]
      exact agree_iter (fun i hi => bt_fix ht (foldl_ok hc b ht) e2 i hi) (fun m m' ha => hl c b t m m' hbo.2.1 hc hk ht ha) _ m m' (ha.wide hq)
    have hval := eval_val ha 5 v (s1 k4)
    have hev := eval_ev ha 5 v (s1 k4)
    by_cases k1 : kd = 1
    · subst k1; rw [depS_1, runS_1, runS_1]
      exact ⟨ha.set1 hw h.len (by omega) (by omega) fun hb => hval (bit_or.1 hb).1, fun hb => hev (bit_or.1 hb).2⟩
    by_cases k5 : kd = 5
    · subst k5; rw [depS_5, runS_5, runS_5]
      refine ⟨ha.set1 hw h.len (by omega) (by omega) fun hb => hval (bit_or.1 hb).1, fun hb => ?_⟩
      simp only [bit_or] at hb
      show _ ++ _ = _ ++ _
      rw [hev hb.1.2, hval hb.2.1]
    by_cases k2 : kd = 2
    · subst k2; rw [depS_2, runS_2, runS_2]
      have hiv := eval_val ha 5 ix (s2 rfl)
      refine ⟨ha.set2 hw h.len (by omega) (by omega) fun hb => ?_, fun hb => ?_⟩
      · simp only [bit_or] at hb
        exact ⟨by rw [hiv hb.2.1.2], hval hb.2.1.1, hb.1⟩
      · simp only [bit_or] at hb
        show _ ++ _ = _ ++ _
        rw [hev hb.1.1.2, hiv hb.2]
    have k3 : kd = 3 := by omega
    subst k3
    rw [depS_3]
    have ho := Nat.or_lt_two_pow hc hV.1
    have i1 : Okd w ⟨s.sets, s.tr ||| (setE p.vars.length s.sets 5 v).2 ||| (setE p.vars.length s.sets 5 v).1, s.re⟩ := ⟨h.len, h.le, h.row, Nat.or_lt_two_pow (Nat.or_lt_two_pow h.tr hV.2) hV.1, h.re⟩
    have oy : Okd w (ifY p.vars.length d c s v b) := foldl_ok ho b i1
    have i2 : Okd w ⟨s.sets, (ifY p.vars.length d c s v b).tr, (ifY p.vars.length d c s v b).re⟩ := ⟨h.len, h.le, h.row, oy.tr, oy.re⟩
    have on : Okd w (ifN p.vars.length d c s v b e) := foldl_ok ho e i2
    have hu : ∀ i, bt k (unite (ifY p.vars.length d c s v b).sets (ifN p.vars.length d c s v b e).sets) i = false → bt k (ifY p.vars.length d c s v b).sets i = false ∧ bt k (ifN p.vars.length d c s v b e).sets i = false := fun i hi => by
      rw [bt_unite (by rw [on.len, oy.len])] at hi; exact Bool.or_eq_false_iff.1 hi
    have hi := fun m => runS_if (d := d) (m := m) (t := t) (ix := ix) (v := v) (c := cc) (b := b) (e := e) k4 k1 k5 k2
    cases hVb : (setE p.vars.length s.sets 5 v).1.testBit k with
    | true =>
      refine ⟨?_, fun hb => ?_⟩
      · have hk2 : (c ||| (setE p.vars.length s.sets 5 v).1).testBit k = true := by simp [Nat.testBit_or, hVb]
        have hy : ∀ m, Conf k p.vars.length (ifY p.vars.length d c s v b).sets s.sets m (foldR (runS d) m b).1 := fun m => conf_list b _ m i1 (fun x _ s hs => dep_ok d _ s x ho hs) fun x hx s m hs => dep_conf hw d _ s x m ho hk2 hs (hbo.2.1 x hx)
        have hn : ∀ m, Conf k p.vars.length (ifN p.vars.length d c s v b e).sets s.sets m (foldR (runS d) m e).1 := fun m => conf_list e _ m i2 (fun x _ s hs => dep_ok d _ s x ho hs) fun x hx s m hs => dep_conf hw d _ s x m ho hk2 hs (hbo.2.2 x hx)
        have hz : ∀ m, Conf k p.vars.length (unite (ifY p.vars.length d c s v b).sets (ifN p.vars.length d c s v b e).sets) s.sets m (runS (d + 1) m (.mk 3 t ix v cc b e)).1 := fun m => by
          by_cases hv : (evalE m 5 v).1 = 0
          · rw [(hi m).2 hv]; exact (hn m).wide (fun i h => (hu i h).2) fun i _ h => h
          · rw [(hi m).1 hv]; exact (hy m).wide (fun i h => (hu i h).1) fun i _ h => h
        exact ha.conf (hz m) (hz m') fun i h => ⟨h, h⟩
      · have := (if_trace hc h hb).2.1
        rw [hVb] at this; cases this
    | false =>
      have hk2 : (c ||| (setE p.vars.length s.sets 5 v).1).testBit k = false := bit_or.2 ⟨hk, hVb⟩
      have hy := hl _ b _ m m' hbo.2.1 ho hk2 i1 ha
      have hn := hl _ e _ m m' hbo.2.2 ho hk2 i2 ha
      have hvv := hval hVb
      by_cases hv : (evalE m 5 v).1 = 0
      · rw [(hi m).2 hv, (hi m').2 (by rw [← hvv]; exact hv)]
        refine ⟨hn.1.wide fun i h => (hu i h).2, fun hb => ?_⟩
        obtain ⟨t1, t2, t3⟩ := if_trace hc h hb
        show _ ++ _ ++ _ = _ ++ _ ++ _
        rw [hev t3, hn.2 hb]
      · rw [(hi m).1 hv, (hi m').1 (by rw [← hvv]; exact hv)]
        refine ⟨hy.1.wide fun i h => (hu i h).1, fun hb => ?_⟩
        obtain ⟨t1, t2, t3⟩ := if_trace hc h hb
        show _ ++ _ ++ _ = _ ++ _ ++ _
        rw [hev t3, hy.2 t1]
end Go.Proofs.Ytmagbjbanpgmhaa.CtR

namespace Go.Proofs.Ytmagbjbanpgmhaa.CtD
open Go Go.CT CtF CtR

def nI (S : List Nat) : List Int := S.map fun (n : Nat) => (n : Int)
theorem nI_len (S : List Nat) : (nI S).length = S.length := by simp [nI]
theorem nI_at {S : List Nat} {i : Nat} (h : i < S.length) : (nI S)[i]? = some ((dat S i : Nat) : Int) := by
  unfold nI dat; rw [List.getElem?_map, List.getD_eq_getElem?_getD, List.getElem?_eq_getElem h]; rfl
theorem nI_set (S : List Nat) (i x : Nat) : (nI S).set i (x : Int) = nI (S.set i x) := by unfold nI; rw [List.map_set]
theorem nI_put (S : List Nat) (i x : Nat) : ((nI S).map I64).set i (.v (.int .i64 (x : Int))) = (nI (S.set i x)).map I64 := by rw [← nI_set, List.map_set]
theorem nI_inj : ∀ {S T : List Nat}, nI S = nI T → S = T
  | [], [], _ => rfl
  | [], _ :: _, h => by simp [nI] at h
  | _ :: _, [], h => by simp [nI] at h
  | a :: r, b :: q, h => by
    simp only [nI, List.map_cons, List.cons.injEq] at h
    rw [nI_inj (S := r) (T := q) h.2, show a = b by omega]
def dpB (p : Pg) (tr re : Nat) : List C := p.cells ++ [I64 (tr : Int), I64 (re : Int)]
theorem dpB_eq (p : Pg) (tr re : Nat) : dpB p tr re = [isI p.vars, isI p.arrays, .isl 11 (St1.cellsL p.body), I64 (tr : Int), I64 (re : Int)] := rfl
theorem dpB_kf (p : Pg) (tr re : Nat) : kfs (dpB p tr re) = true := by
  rw [dpB_eq]; rfl
theorem dpB_ren (r : Nat → Nat) (p : Pg) (tr re : Nat) : renCs r (dpB p tr re) = dpB p tr re := renCs_plain _ (dpB_kf _ _ _)
theorem dpB_all (p : Pg) (tr re : Nat) : ∀ c ∈ dpB p tr re, kf c = true := by
  rw [dpB_eq]; intro c hc
  simp only [List.mem_cons, List.not_mem_nil, or_false] at hc
  rcases hc with rfl | rfl | rfl | rfl | rfl <;> rfl
theorem pow14 {w x : Nat} (hw : w ≤ 14) (h : x < 2 ^ w) : x < 16384 := by
  have : 2 ^ w ≤ 2 ^ 14 := Nat.pow_le_pow_right (by omega) hw
  omega
theorem dat_get {S : List Nat} {i : Nat} (h : i < S.length) : S[i]? = some (dat S i) := by
  unfold dat; rw [List.getD_eq_getElem?_getD, List.getElem?_eq_getElem h]; rfl
def fst1 (f : Ex → Nat × Nat) (ks : List Ex) (i : Nat) : Nat := orL ((ks.take i).map fun e => (f e).1)
def snd1 (f : Ex → Nat × Nat) (ks : List Ex) (i : Nat) : Nat := orL ((ks.take i).map fun e => (f e).2)
theorem fst1_succ (f : Ex → Nat × Nat) (ks : List Ex) (i : Nat) (x : Ex) (h : ks[i]? = some x) : fst1 f ks (i + 1) = fst1 f ks i ||| (f x).1 := by
  unfold fst1 orL; rw [List.take_add_one, h]; simp
theorem snd1_succ (f : Ex → Nat × Nat) (ks : List Ex) (i : Nat) (x : Ex) (h : ks[i]? = some x) : snd1 f ks (i + 1) = snd1 f ks i ||| (f x).2 := by
  unfold snd1 orL; rw [List.take_add_one, h]; simp
theorem fst1_lt {w : Nat} {f : Ex → Nat × Nat} (hf : ∀ e, (f e).1 < 2 ^ w) (ks : List Ex) (i : Nat) : fst1 f ks i < 2 ^ w := orL_lt (Nat.two_pow_pos w) fun x hx => by
  obtain ⟨e, _, rfl⟩ := List.mem_map.1 hx; exact hf e
theorem snd1_lt {w : Nat} {f : Ex → Nat × Nat} (hf : ∀ e, (f e).2 < 2 ^ w) (ks : List Ex) (i : Nat) : snd1 f ks i < 2 ^ w := orL_lt (Nat.two_pow_pos w) fun x hx => by
  obtain ⟨e, _, rfl⟩ := List.mem_map.1 hx; exact hf e
theorem setE_succ (nv : Nat) (S : List Nat) (d : Nat) (k v : Int) (ks : List Ex) : setE nv S (d + 1) (.mk k v ks) =
    (if k = 2 then (fst1 (setE nv S d) ks ks.length ||| dat S v.toNat, snd1 (setE nv S d) ks ks.length)
     else if k = 3 then (fst1 (setE nv S d) ks ks.length ||| dat S (nv + v.toNat), snd1 (setE nv S d) ks ks.length ||| fst1 (setE nv S d) ks ks.length)
     else (fst1 (setE nv S d) ks ks.length, snd1 (setE nv S d) ks ks.length)) := by
  simp only [setE, fst1, snd1, List.take_length]
theorem cellI (p : Pg) (hl : p.vars.length ≤ 14) (n : Nat) (hn : n ≤ 14) : DC Try.prog 95 [.agg p.cells, DI .i64 (n : Int)] [] (fun r h => r = DI .i64 ((p.vars.length + n : Nat) : Int) ∧ h = []) := by
  obtain ⟨vs, ar, bd⟩ := p
  have hl : vs.length ≤ 14 := hl
  simp only
  have hmx := mx_eq
  generalize hR : (fun (r : D) (h : List (Option (List C))) => r = DI .i64 ((vs.length + n : Nat) : Int) ∧ h = []) = R
  refine dcZ Try.func95 ?_
  simp (maxSteps := 9999999) only [go_sem]
  iterate 3 ((try (refine drvZ Try.func95 ?_; simp (maxSteps := 9999999) only [go_sem])); (try ((with_reducible refine And.intro ?_ ?_) <;> (repeat' with_reducible apply And.intro) <;> try exact sd)); (try first | refine XK.gs (DB false) ?_))
  refine RetOb.plain (d := DI .i64 _) ?_ rfl
  rw [← hR]
  exact ⟨by push_cast; rfl, rfl⟩
end Go.Proofs.Ytmagbjbanpgmhaa.CtD

namespace Go.Proofs.Ytmagbjbanpgmhaa.CtD
open Go Go.CT CtF CtR

theorem cloneM (xs : List Int) (hl : xs.length ≤ 1000000) (h0 : 0 < xs.length) : DC Try.prog 75 [.c (.msl 0 1 0 xs.length)] [some (xs.map I64)] (fun d h => d = .c (.msl 1 1 0 xs.length) ∧ h = [some (xs.map I64), some (xs.map I64)]) := by
  have hmx := mx_eq
  have ht : List.take xs.length (xs.map I64) = xs.map I64 := List.take_of_length_le (by simp)
  generalize hR : (fun (r : D) (h : List (Option (List C))) => r = .c (.msl 1 1 0 xs.length) ∧ h = [some (xs.map I64), some (xs.map I64)]) = R
  refine dcZ Try.func75 ?_
  simp (maxSteps := 9999999) only [go_sem, h0]
  iterate 4 ((try (refine drvZ Try.func75 ?_; simp (maxSteps := 9999999) only [go_sem, h0, ht])); (try ((with_reducible refine And.intro ?_ ?_) <;> (repeat' with_reducible apply And.intro) <;> try exact sd)); (try first | refine XK.gs (DB false) ?_))
  refine RetOb.ofQ (fun j => if j = 0 then some 0 else if j = 1 then some 321 else none) [] (.c (.msl 1 1 0 xs.length)) [some (xs.map I64), some (xs.map I64)] ?_ (by rw [← hR]; exact ⟨rfl, rfl⟩) (by simp)
  simp [enumL, DM, DMs, CM, HpOK, LowOK, hOf, upd, hpL]
  exact CMs.kf (kf_I _)

theorem equalM (xs ys : List Int) (hl : xs.length ≤ mx) (hlen : xs.length = ys.length) : DC Try.prog 93 [.c (.msl 0 1 0 xs.length), .c (.msl 1 1 0 xs.length)] [some (xs.map I64), some (ys.map I64)] (fun r h => r = DB (decide (xs = ys)) ∧ h = [some (xs.map I64), some (ys.map I64)]) := by
  have hmx := mx_eq
  have ret : ∀ (b : Bool) (hp : Hp), b = decide (xs = ys) → hp 0 = some (some (xs.map I64)) → hp 1 = some (some (ys.map I64)) → RetOb 2 (fun r h => r = DB (decide (xs = ys)) ∧ h = [some (xs.map I64), some (ys.map I64)]) (DB b) hp := fun b hp h h0 h1 => by
    refine RetOb.ofQ some [] (DB b) [some (xs.map I64), some (ys.map I64)] ?_ ⟨by rw [h], rfl⟩ (by simp)
    simp [enumL, DM, DMs, CM, HpOK, LowOK, hOf, upd, h0, h1]
    exact ⟨CMs.kf (kf_I _), CMs.kf (kf_I _)⟩
  generalize hR : (fun (r : D) (h : List (Option (List C))) => r = DB (decide (xs = ys)) ∧ h = [some (xs.map I64), some (ys.map I64)]) = R at *
  have hb : ((xs.length : Int) != xs.length) = false := by simp
  refine dcZ Try.func93 ?_
  simp (maxSteps := 9999999) only [go_sem, hb]
  iterate 3 ((try (refine drvZ Try.func93 ?_; simp (maxSteps := 9999999) only [go_sem, hb])); (try ((with_reducible refine And.intro ?_ ?_) <;> (repeat' with_reducible apply And.intro) <;> try exact sd)))
  refine Go.loopQ (fun i : Nat => [(0, .c (.msl 0 1 0 xs.length)), (1, .c (.msl 1 1 0 xs.length)), (12, DI .i64 xs.length), (13, DI .i64 i)]) (fun _ => [(0, some (xs.map I64)), (1, some (ys.map I64))]) 1024 (fun i => i ≤ xs.length ∧ decide (xs = ys) = decide (xs.drop i = ys.drop i)) (fun i => xs.length - i) ?_ 0 some [] _ ⟨Nat.zero_le _, rfl⟩ ?_
  · intro i hi again
    have hi' := hi.1
    rcases Nat.lt_or_ge i xs.length with hlt | hge
    · obtain ⟨x, hx⟩ : ∃ x, xs[i]? = some x := ⟨xs[i], by simp [hlt]⟩
      obtain ⟨y, hy⟩ : ∃ y, ys[i]? = some y := ⟨ys[i]'(by omega), by simp⟩
      have hI := hi.2
      obtain ⟨_, ex⟩ := List.getElem?_eq_some_iff.1 hx
      obtain ⟨hyl, ey⟩ := List.getElem?_eq_some_iff.1 hy
      rw [List.drop_eq_getElem_cons hlt, List.drop_eq_getElem_cons hyl, ex, ey] at hI
      by_cases hxy : x = y
      · have hq : (x != y) = false := by simp [hxy]
        refine drvL Try.func93 ?_
        simp (maxSteps := 9999999) only [go_sem, hlt, hx, hy, hq]
        iterate 6 ((try (refine drvZ Try.func93 ?_; simp (maxSteps := 9999999) only [go_sem, hlt, hx, hy, hq])); (try ((with_reducible refine And.intro ?_ ?_) <;> (repeat' with_reducible apply And.intro) <;> try exact sd)); (try first | refine XK.gs (DB false) ?_))
        refine again (i + 1) some [] _ ⟨by omega, by rw [hI]; simp [hxy]⟩ (by omega) ?_
        simp (maxSteps := 9999999) only [go_sem, TmOK, DM, DMs, CM, CMs, forall_eq, exists_eq_left, Mq, HpOK, LowOK]
        simp
        try exact ⟨CMs.kf (kf_I _), CMs.kf (kf_I _)⟩
      · have hq : (x != y) = true := by simp [hxy]
        refine drvL Try.func93 ?_
        simp (maxSteps := 9999999) only [go_sem, hlt, hx, hy, hq]
        iterate 6 ((try (refine drvZ Try.func93 ?_; simp (maxSteps := 9999999) only [go_sem, hlt, hx, hy, hq])); (try ((with_reducible refine And.intro ?_ ?_) <;> (repeat' with_reducible apply And.intro) <;> try exact sd)); (try first | refine XK.gs (DB false) ?_))
        exact ret _ _ (by rw [hI]; simp [hxy]) rfl rfl
    · have hn : ¬ i < xs.length := by omega
      refine drvL Try.func93 ?_
      simp (maxSteps := 9999999) only [go_sem, hn]
      iterate 6 ((try (refine drvZ Try.func93 ?_; simp (maxSteps := 9999999) only [go_sem, hn])); (try ((with_reducible refine And.intro ?_ ?_) <;> (repeat' with_reducible apply And.intro) <;> try exact sd)); (try first | refine XK.gs (DB false) ?_))
      exact ret _ _ (by rw [hi.2, List.drop_of_length_le hge, List.drop_of_length_le (by omega)]; rfl) rfl rfl
  · simp (maxSteps := 9999999) only [go_sem, TmOK, DM, DMs, CM, CMs, forall_eq, exists_eq_left, Mq, HpOK, LowOK]
    simp
    try exact ⟨CMs.kf (kf_I _), CMs.kf (kf_I _)⟩

/-- The first sets are united. -/
def uniA (a b : List Nat) : Nat → List Nat
  | 0 => a
  | i + 1 => (uniA a b i).set i (dat (uniA a b i) i ||| dat b i)
theorem uniA_len (a b : List Nat) : ∀ i, (uniA a b i).length = a.length
  | 0 => rfl
  | i + 1 => by rw [uniA, List.length_set, uniA_len a b i]
theorem uniA_dat (a b : List Nat) : ∀ i j, i ≤ a.length → dat (uniA a b i) j = if j < i then dat a j ||| dat b j else dat a j
  | 0, j, _ => by simp [uniA]
  | i + 1, j, h => by
    have h1 := uniA_dat a b i j (by omega)
    have h2 := uniA_dat a b i i (by omega)
    rw [uniA, dat_set, uniA_len]
    by_cases e : i = j
    · subst e
      rw [if_pos ⟨rfl, by omega⟩, h2, if_neg (by omega), if_pos (by omega)]
    · rw [if_neg (fun x => e x.1), h1]
      by_cases e2 : j < i
      · rw [if_pos e2, if_pos (by omega)]
      · rw [if_neg e2, if_neg (by omega)]
theorem dat_ext {a b : List Nat} (hl : a.length = b.length) (h : ∀ i, i < a.length → dat a i = dat b i) : a = b := by
  refine List.ext_getElem hl fun i h1 h2 => ?_
  have := h i h1
  rw [dat, dat, List.getD_eq_getElem?_getD, List.getD_eq_getElem?_getD, List.getElem?_eq_getElem h1, List.getElem?_eq_getElem h2] at this
  exact this
theorem uniA_all {a b : List Nat} (h : b.length = a.length) : uniA a b a.length = unite a b :=
  dat_ext (by rw [uniA_len, unite_len h]) fun i hi => by
    rw [uniA_len] at hi
    rw [uniA_dat a b _ i (Nat.le_refl _), if_pos hi, dat_unite h]

theorem unitedI (a b : List Nat) (n : Nat) (ha : a.length = n) (hb : b.length = n) (h0 : 0 < n) (hn : n ≤ 14) (ra : ∀ x ∈ a, x < 16384) (rb : ∀ x ∈ b, x < 16384) : DC Try.prog 92 [.c (.msl 0 1 0 n), .c (.msl 1 1 0 n)] [some ((nI a).map I64), some ((nI b).map I64)]
    (fun r h => r = .c (.msl 2 1 0 n) ∧ h = [some ((nI a).map I64), some ((nI b).map I64), some ((nI (unite a b)).map I64)]) := by
  have hmx := mx_eq
  rw [← uniA_all (hb.trans ha.symm), ha]
  have hcl := cloneM (nI a) (by rw [nI_len]; omega) (by rw [nI_len]; omega)
  rw [nI_len, ha] at hcl
  have hla := nI_len a
  have hlb := nI_len b
  generalize hR : (fun (r : D) (h : List (Option (List C))) => r = .c (.msl 2 1 0 n) ∧ h = [some ((nI a).map I64), some ((nI b).map I64), some ((nI (uniA a b n)).map I64)]) = R
  refine dcZ Try.func92 ?_
  simp (maxSteps := 9999999) only [go_sem]
  iterate 2 ((try (refine drvZ Try.func92 ?_; simp (maxSteps := 9999999) only [go_sem])); (try ((with_reducible refine And.intro ?_ ?_) <;> (repeat' with_reducible apply And.intro) <;> try exact sd)))
  refine XK.callG [0] hcl ok75 (hhpG (by simp [HH, upd, hpL, renCs_I])) (hbT ()) (fun d h' ⟨_, e⟩ => by subst e; simp) ?_
  rintro _ _ ⟨rfl, rfl⟩ _
  iterate 3 ((try (refine drvZ Try.func92 ?_; simp (maxSteps := 9999999) only [go_sem, renCs_I])); (try ((with_reducible refine And.intro ?_ ?_) <;> (repeat' with_reducible apply And.intro) <;> try exact sd)))
  refine Go.loopQ (fun i : Nat => [(5, .c (.msl 2 1 0 n)), (10, .c (.msl 1 1 0 n)), (11, DI .i64 n), (12, DI .i64 i)])
    (fun i => [(0, some ((nI a).map I64)), (1, some ((nI b).map I64)), (2, some ((nI (uniA a b i)).map I64))]) 1024 (fun i => i ≤ n) (fun i => n - i) ?_ 0 (fun j => if j = 2 then some 130 else if j < 2 then some j else none) [] _ (Nat.zero_le _) ?_
  · intro i hi again
    rcases Nat.lt_or_ge i n with hlt | hge
    · have hlu := uniA_len a b i
      have hx : (nI (uniA a b i))[i]? = some ((dat (uniA a b i) i : Nat) : Int) := nI_at (by omega)
      have hy : (nI b)[i]? = some ((dat b i : Nat) : Int) := nI_at (by omega)
      have hlU := nI_len (uniA a b i)
      have hs := nI_put (uniA a b i) i (dat (uniA a b i) i ||| dat b i)
      have e1 : uniA a b (i + 1) = (uniA a b i).set i (dat (uniA a b i) i ||| dat b i) := rfl
      have hq : dat (uniA a b i) i < 16384 := by
        rw [uniA_dat a b i i (by omega), if_neg (by omega)]; exact dat_lt (w := 14) ra i
      have hq2 : dat b i < 16384 := dat_lt (w := 14) rb i
      generalize uniA a b i = U at *
      generalize dat U i = u at *
      generalize dat b i = v at *
      refine drvL Try.func92 ?_
      simp (maxSteps := 9999999) only [go_sem, hlt, hx, hy]
      iterate 6 ((try (refine drvZ Try.func92 ?_; simp (maxSteps := 9999999) only [go_sem, hlt, hx, hy, hs])); (try ((with_reducible refine And.intro ?_ ?_) <;> (repeat' with_reducible apply And.intro) <;> try exact sd)))
      refine again (i + 1) some [] _ hlt (by omega) ?_
      simp (maxSteps := 9999999) only [go_sem, TmOK, DM, DMs, CM, CMs, forall_eq, exists_eq_left, Mq, HpOK, LowOK, e1]
      simp
      exact ⟨CMs.kf (kf_I _), CMs.kf (kf_I _), CMs.kf (kf_I _)⟩
    · have hn2 : ¬ i < n := by omega
      obtain rfl : i = n := by omega
      refine drvL Try.func92 ?_
      simp (maxSteps := 9999999) only [go_sem, hn2]
      iterate 6 ((try (refine drvZ Try.func92 ?_; simp (maxSteps := 9999999) only [go_sem, hn2])); (try ((with_reducible refine And.intro ?_ ?_) <;> (repeat' with_reducible apply And.intro) <;> try exact sd)); (try first | refine XK.gs (DB false) ?_))
      refine RetOb.ofQ some [] (.c (.msl 2 1 0 i)) [some ((nI a).map I64), some ((nI b).map I64), some ((nI (uniA a b i)).map I64)] ?_ (by rw [← hR]; exact ⟨rfl, rfl⟩) (by simp)
      simp [enumL, DM, DMs, CM, HpOK, LowOK, hOf, upd, hpL]
      exact ⟨CMs.kf (kf_I _), CMs.kf (kf_I _), CMs.kf (kf_I _)⟩
  · simp (maxSteps := 9999999) only [go_sem, TmOK, DM, DMs, CM, CMs, forall_eq, exists_eq_left, Mq, HpOK, LowOK, uniA]
    simp
    exact ⟨CMs.kf (kf_I _), CMs.kf (kf_I _), CMs.kf (kf_I _)⟩
end Go.Proofs.Ytmagbjbanpgmhaa.CtD

namespace Go.Proofs.Ytmagbjbanpgmhaa.CtD
open Go Go.CT CtF CtR

theorem setI {w : Nat} (p : Pg) (hw : p.vars.length + p.arrays.length = w) (hw14 : w ≤ 14) (w0 : 0 < w) (S : List Nat) (hS : S.length = w) (hr : ∀ a ∈ S, a < 2 ^ w) (re : Nat) : ∀ (d : Nat) (e : Ex) (tr : Nat), CtR.shape p d e = true → tr < 2 ^ w →
    DC Try.prog 94 [.c (.ptr 0 0), .agg e.cells, .c (.msl 1 1 0 w)] [some (dpB p tr re), some ((nI S).map I64)] (fun r h => r = DI .i64 ((setE p.vars.length S d e).1 : Nat) ∧ h = [some (dpB p (tr ||| (setE p.vars.length S d e).2) re), some ((nI S).map I64)]) := by
  have hmx := mx_eq
  intro d
  induction d with
  | zero => intro e tr h; simp [CtR.shape] at h
  | succ d ih =>
    intro e tr hsh htr
    obtain ⟨k, v, ks⟩ := e
    obtain ⟨g1, g2, g3⟩ := shape_succ hsh
    obtain ⟨hl3, hla, hv0, hv1⟩ := fits_len g1
    have hlim : k = 2 → v < p.vars.length := fun hk => by subst hk; simpa [limit] using hv1
    have hlim3 : k = 3 → v < p.arrays.length := fun hk => by subst hk; simpa [limit] using hv1
    have hcell := cellI p (by omega) v.toNat
    obtain ⟨vs, ar, bd⟩ := p
    have hw : vs.length + ar.length = w := hw
    simp only at hlim hlim3 ih hcell
    rw [setE_succ]
    simp only at ih ⊢
    have hlt1 := fun e => pow14 hw14 (setE_lt (nv := vs.length) hr d e).1
    have hlt2 := fun e => pow14 hw14 (setE_lt (nv := vs.length) hr d e).2
    have hltp := fun e => (setE_lt (nv := vs.length) hr d e).2
    have ho := fun i => pow14 hw14 (fst1_lt (fun e => (setE_lt (nv := vs.length) hr d e).1) ks i)
    have ha := fun i => pow14 hw14 (snd1_lt (fun e => (setE_lt (nv := vs.length) hr d e).2) ks i)
    have hta := fun i => Nat.or_lt_two_pow htr (snd1_lt (fun e => (setE_lt (nv := vs.length) hr d e).2) ks i)
    have hda := fun i => pow14 hw14 (dat_lt hr i)
    have hf0 : fst1 (setE vs.length S d) ks 0 = 0 := by simp [fst1]
    have hs0 : tr ||| snd1 (setE vs.length S d) ks 0 = tr := by simp [snd1]
    have hstep := fun i x h => And.intro (fst1_succ (setE vs.length S d) ks i x h) (snd1_succ (setE vs.length S d) ks i x h)
    generalize setE vs.length S d = F at *
    generalize hR : (fun (r : D) (h : List (Option (List C))) => r = DI .i64 _ ∧ h = _) = R
    refine dcZ Try.func94 ?_
    simp (maxSteps := 9999999) only [go_sem]
    iterate 4 ((try (refine drvZ Try.func94 ?_; simp (maxSteps := 9999999) only [go_sem])); (try ((with_reducible refine And.intro ?_ ?_) <;> (repeat' with_reducible apply And.intro) <;> try exact sd)))
    refine Go.loopQ (fun i : Nat => [(0, .c (.ptr 0 0)), (2, .c (.msl 1 1 0 w)), (4, .c (.ptr 2 0)), (7, DI .i64 (fst1 F ks i : Nat)), (11, .c (.isl 3 (Ex.cellsL ks))), (12, DI .i64 ks.length), (13, DI .i64 i)])
      (fun i => [(0, some (dpB ⟨vs, ar, bd⟩ (tr ||| snd1 F ks i) re)), (1, some ((nI S).map I64)), (2, some (Ex.cells (.mk k v ks)))])
      4096 (fun i => i ≤ ks.length) (fun i => ks.length - i) ?_ 0 some [] _ (Nat.zero_le _) ?_
    · intro i hi again
      rcases Nat.lt_or_ge i ks.length with hlt | hge
      · obtain ⟨⟨k', v', ks'⟩, hx⟩ : ∃ x, ks[i]? = some x := ⟨ks[i], by simp [hlt]⟩
        obtain ⟨hsc, hsd⟩ := hstep i _ hx
        have hih := ih (.mk k' v' ks') (tr ||| snd1 F ks i) (g2 _ (List.mem_of_getElem? hx)) (hta i)
        have h1 := hlt1 (.mk k' v' ks')
        have h2 := ho i
        refine drvL Try.func94 ?_
        simp (maxSteps := 9999999) only [go_sem, hx, hlt, dpB_eq]
        iterate 2 ((try (refine drvZ Try.func94 ?_; simp (maxSteps := 9999999) only [go_sem, hx, hlt, dpB_eq])); (try ((with_reducible refine And.intro ?_ ?_) <;> (repeat' with_reducible apply And.intro) <;> try exact sd)))
        refine XK.callG [0, 1] hih ok94 (hhpG (by simp [HH, renCs_I, dpB_ren, upd, hOf]; rfl)) (hbT ()) (fun d h' ⟨_, e⟩ => by subst e; simp) ?_ (fun _ => ⟨by kernel_rfl, _, _, ⟨rfl, rfl⟩, by simp⟩)
        rintro _ _ ⟨rfl, rfl⟩ _
        iterate 3 ((try (refine drvZ Try.func94 ?_; simp (maxSteps := 9999999) only [go_sem, hx, hlt, dpB_eq, renCs_I])); (try ((with_reducible refine And.intro ?_ ?_) <;> (repeat' with_reducible apply And.intro) <;> try exact sd)))
        refine again (i + 1) some [] _ hlt (by omega) ?_
        simp (maxSteps := 9999999) only [go_sem, TmOK, DM, DMs, CM, CMs, forall_eq, exists_eq_left, Mq, HpOK, LowOK, hsc, hsd, dpB_eq]
        simp [Nat.or_assoc]
        exact CMs.kf (kf_I _)
      · have hn2 : ¬ i < ks.length := by omega
        obtain rfl : i = ks.length := by omega
        have h2 := ho ks.length
        have h3 := ha ks.length
        have hta := hta ks.length
        generalize fst1 F ks ks.length = fo at *
        generalize snd1 F ks ks.length = so at *
        have htl := pow14 hw14 hta
        have key : k = 2 ∨ k = 3 ∨ (k ≠ 2 ∧ k ≠ 3) := by omega
        rcases key with hk | hk | ⟨hk2, hk3⟩
        · have hv2 := hlim hk
          have e2 : (k == 2) = true := by simp [hk]
          have f2 : (k = 2) = True := by simp [hk]
          have hx : (nI S)[v.toNat]? = some ((dat S v.toNat : Nat) : Int) := nI_at (by omega)
          have hd := hda v.toNat
          generalize dat S v.toNat = q at *
          refine drvL Try.func94 ?_
          simp (maxSteps := 9999999) only [go_sem, hn2, e2, f2, hx, dpB_eq]
          iterate 4 ((try (refine drvZ Try.func94 ?_; simp (maxSteps := 9999999) only [go_sem, hn2, e2, f2, hx, dpB_eq])); (try ((with_reducible refine And.intro ?_ ?_) <;> (repeat' with_reducible apply And.intro) <;> try exact sd)))
          refine RetOb.ofQ some [] (DI .i64 _) [some (dpB ⟨vs, ar, bd⟩ (tr ||| so) re), some ((nI S).map I64)] ?_ (by rw [← hR, if_pos hk]; exact ⟨rfl, rfl⟩) (by simp)
          simp [enumL, DM, DMs, HpOK, LowOK, hOf, upd, dpB_eq]
          exact ⟨CM.kf rfl, CMs.kf (dpB_all ⟨vs, ar, bd⟩ _ _), CMs.kf (kf_I _)⟩
        · have hv3 := hlim3 hk
          have e2 : (k == 2) = false := by simp [hk]
          have f2 : (k = 2) = False := by simp [hk]
          have e3 : (k == 3) = true := by simp [hk]
          have f3 : (k = 3) = True := by simp [hk]
          have hx : (nI S)[vs.length + v.toNat]? = some ((dat S (vs.length + v.toNat) : Nat) : Int) := nI_at (by omega)
          have hd := hda (vs.length + v.toNat)
          have hcell := hcell (by omega)
          have hvn : ((v.toNat : Nat) : Int) = v := by omega
          rw [hvn] at hcell
          have hi4 : ((vs.length : Int) + (v.toNat : Int)).toNat = vs.length + v.toNat := by omega
          generalize dat S (vs.length + v.toNat) = q at *
          refine drvL Try.func94 ?_
          simp (maxSteps := 9999999) only [go_sem, hn2, e2, f2, e3, f3, hx, dpB_eq]
          iterate 6 ((try (refine drvZ Try.func94 ?_; simp (maxSteps := 9999999) only [go_sem, hn2, e2, f2, e3, f3, hx, hi4, dpB_eq])); (try ((with_reducible refine And.intro ?_ ?_) <;> (repeat' with_reducible apply And.intro) <;> try exact sd)); (try first | refine XK.p hcell ok95 ?_ | refine XK.gp hcell ok95 ?_))
          refine RetOb.ofQ some [] (DI .i64 _) [some (dpB ⟨vs, ar, bd⟩ (tr ||| (so ||| fo)) re), some ((nI S).map I64)] ?_ (by rw [← hR, if_neg (by omega), if_pos hk]; exact ⟨rfl, rfl⟩) (by simp)
          simp [enumL, DM, DMs, HpOK, LowOK, hOf, upd, dpB_eq, Nat.or_assoc]
          exact ⟨CM.kf rfl, CMs.kf (dpB_all ⟨vs, ar, bd⟩ _ _), CMs.kf (kf_I _)⟩
        · have e2 : (k == 2) = false := by simp [hk2]
          have f2 : (k = 2) = False := by simp [hk2]
          have e3 : (k == 3) = false := by simp [hk3]
          have f3 : (k = 3) = False := by simp [hk3]
          refine drvL Try.func94 ?_
          simp (maxSteps := 9999999) only [go_sem, hn2, e2, f2, e3, f3, dpB_eq]
          iterate 4 ((try (refine drvZ Try.func94 ?_; simp (maxSteps := 9999999) only [go_sem, hn2, e2, f2, e3, f3, dpB_eq])); (try ((with_reducible refine And.intro ?_ ?_) <;> (repeat' with_reducible apply And.intro) <;> try exact sd)); (try first | refine XK.p hcell ok95 ?_ | refine XK.gp hcell ok95 ?_))
          refine RetOb.ofQ some [] (DI .i64 _) [some (dpB ⟨vs, ar, bd⟩ (tr ||| so) re), some ((nI S).map I64)] ?_ (by rw [← hR, if_neg hk2, if_neg hk3]; exact ⟨rfl, rfl⟩) (by simp)
          simp [enumL, DM, DMs, HpOK, LowOK, hOf, upd, dpB_eq]
          exact ⟨CM.kf rfl, CMs.kf (dpB_all ⟨vs, ar, bd⟩ _ _), CMs.kf (kf_I _)⟩
    · simp (maxSteps := 9999999) only [go_sem, TmOK, DM, DMs, CM, CMs, forall_eq, exists_eq_left, Mq, HpOK, LowOK, hf0, hs0, dpB_eq]
      simp
      exact CMs.kf (kf_I _)
end Go.Proofs.Ytmagbjbanpgmhaa.CtD
