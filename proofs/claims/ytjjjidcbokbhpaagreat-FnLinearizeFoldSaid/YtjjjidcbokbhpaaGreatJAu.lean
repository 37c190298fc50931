/- Contracts of functions of the program, one behind the other, as plain data: what each call returns and which blocks it leaves. -/
import Derived.Test.YtjjjidcbokbhpaaGreatJFacts
import Derived.Test.YtjjjidcbokbhpaaGreatJAi
import Derived.Test.YtjjjidcbokbhpaaGreatJAj
import Derived.Test.YtjjjidcbokbhpaaGreatJAk
import Derived.Test.YtjjjidcbokbhpaaGreatJAm
import Derived.Test.YtjjjidcbokbhpaaGreatJAp
import Derived.Test.YtjjjidcbokbhpaaGreatJAq
import Derived.Test.YtjjjidcbokbhpaaGreatJAr
import Derived.Test.YtjjjidcbokbhpaaGreatJAt
import Derived.Test.YtjjjidcbokbhpaaGreatJAh
import Derived.Test.YtjjjidcbokbhpaaGreatJAl
import Derived.Test.YtjjjidcbokbhpaaGreatJAn
import Derived.Test.YtjjjidcbokbhpaaGreatJAs
set_option linter.unusedVariables false
set_option linter.unusedSimpArgs false
set_option maxHeartbeats 16000000
set_option maxRecDepth 100000
namespace Go.Proofs.YtjjjidcbokbhpaaGreat.CtR
open Go Go.CT CtF
theorem secretRead0 (p : Pg) : DC Tryz.prog 168 [.agg p.cells, .agg (Ex.cells (.mk 0 0 []))] [] (fun r h => r = DB false ∧ h = []) := by
 have hmx := mx_eq
 have hcf := containsFuncE 168 (fun _ => false) p [] (by simp) ok168 (fun e he => by simp at he)
 simp only [List.any_nil, Ex.cellsL] at hcf
 have ret : ∀ (hp : Hp), RetOb 0 (fun r h => r = DB false ∧ h = []) (DB false) hp := fun hp => RetOb.plain (d := DB _) ⟨rfl, rfl⟩ rfl
 generalize hR : (fun (r : D) (h : List (Option (List C))) => r = DB false ∧ h = []) = R at ret ⊢
 clear hR
 obtain ⟨vs, ar, bd⟩ := p
 have ek : ((0 : Int) == 3) = false := by decide
 have fk : ((0 : Int) = 3) = False := by simp
 refine dcZ Tryz.func168 ?_
 simp only [go_sem, Ex.cellsL, ek, fk]
 iterate 6 ((try (refine drvZ Tryz.func168 ?_; simp only [go_sem, Ex.cellsL, ek, fk])); ((with_reducible and_intros) <;> try exact sd); (try first | refine XK.p hcf ok221 ?_ | refine XK.gp hcf ok221 ?_ | refine XK.gs (DB false) ?_ | refine XK.gs (DI .i64 0) ?_))
 exact ret _
theorem leakI (p : Pg) (hl : p.vars.length ≤ mx) (hl2 : p.arrays.length ≤ mx) (h1 : lab3 p.vars) (h2 : lab3 p.arrays) (d : Nat) (s : St1) (hs : stmtOK p (d + 1) s = true) (c : Nat) :
 DC Tryz.prog 101 [.agg p.cells, .agg s.cells, DI .i64 c] [] (fun r h => r = DI .i64 (leakR p.vars p.arrays s c) ∧ h = []) := by
 have hmx := mx_eq
 have hlab := labelI p hl hl2 h1 h2 5
 have hsec := secretReadI p hl hl2 h1 h2 5
 have hs0 := secretRead0 p
 have hle := labN_le h1 h2 5
 obtain ⟨vs, ar, bd⟩ := p
 have ret : ∀ (n : Int) (hp : Hp), n = leakR vs ar s c → RetOb 0 (fun r h => r = DI .i64 (leakR vs ar s c) ∧ h = []) (DI .i64 n) hp := fun n hp h => RetOb.plain (d := DI .i64 _) ⟨by rw [h], rfl⟩ rfl
 simp only at ret hle ⊢
 generalize hR : (fun (r : D) (h : List (Option (List C))) => r = DI .i64 (leakR vs ar s c) ∧ h = []) = R at ret ⊢
 clear hR
 obtain ⟨k, t, ⟨ik, iv, iks⟩, ⟨vk, vv, vks⟩, cc, b, e⟩ := s
 have hho := (stmtOK_succ hs).1
 have hh := head_kind hho
 obtain ⟨sv, si⟩ := shapeV hs
 have hkey : k = 4 ∨ k = 3 ∨ k = 2 ∨ (k = 1 ∨ k = 5) := by omega
 rcases hkey with hk | hk | hk | hk
 ·subst hk
  have hz : vk = 0 ∧ vv = 0 ∧ vks = [] := by
   unfold headOK parts at hho
   simp [none0, Ex.kind, Ex.value, Ex.kids] at hho
   grind
  obtain ⟨rfl, rfl, rfl⟩ := hz
  simp only [Ex.cells, Ex.cellsL] at hs0
  refine dcZ Tryz.func101 ?_
  simp only [go_sem, Ex.cellsL]
  iterate 10 ((try (refine drvZ Tryz.func101 ?_; simp only [go_sem, Ex.cellsL])); ((with_reducible and_intros) <;> try exact sd); (try first | refine XK.p hs0 ok168 ?_ | refine XK.gp hs0 ok168 ?_ | refine XK.gs (DB false) ?_ | refine XK.gs (DI .i64 0) ?_))
  exact ret _ _ (by simp [leakR, St1.kind, St1.value, St1.index, secE])
 ·subst hk
  have hlv := hlab _ (sv (by decide))
  have hlvl := hle (.mk vk vv vks)
  have hse := hsec _ (sv (by decide))
  simp only at hlv hse
  have hls := labelSecretI _ hlvl
  cases hs1 : secL (labN vs ar 5 (.mk vk vv vks)) <;> cases hs2 : secE vs ar 5 (.mk vk vv vks)
  all_goals
   rw [hs1] at hls
   rw [hs2] at hse
   refine dcZ Tryz.func101 ?_
   simp only [go_sem]
   iterate 10 ((try (refine drvZ Tryz.func101 ?_; simp only [go_sem])); ((with_reducible and_intros) <;> try exact sd); (try first | refine XK.p hlv ok167 ?_ | refine XK.gp hlv ok167 ?_ | refine XK.p hls ok166 ?_ | refine XK.gp hls ok166 ?_ | refine XK.p hse ok168 ?_ | refine XK.gp hse ok168 ?_ | refine XK.gs (DB false) ?_ | refine XK.gs (DI .i64 0) ?_))
  all_goals exact ret _ _ (by simp [leakR, St1.kind, St1.value, St1.index, hs1, hs2])
 ·subst hk
  have hlv := hlab _ (si rfl)
  have hlvl := hle (.mk ik iv iks)
  have hse := hsec _ (sv (by decide))
  simp only at hlv hse
  have hls := labelSecretI _ hlvl
  cases hs1 : secL (labN vs ar 5 (.mk ik iv iks)) <;> cases hs2 : secE vs ar 5 (.mk vk vv vks)
  all_goals
   rw [hs1] at hls
   rw [hs2] at hse
   refine dcZ Tryz.func101 ?_
   simp only [go_sem]
   iterate 10 ((try (refine drvZ Tryz.func101 ?_; simp only [go_sem])); ((with_reducible and_intros) <;> try exact sd); (try first | refine XK.p hlv ok167 ?_ | refine XK.gp hlv ok167 ?_ | refine XK.p hls ok166 ?_ | refine XK.gp hls ok166 ?_ | refine XK.p hse ok168 ?_ | refine XK.gp hse ok168 ?_ | refine XK.gs (DB false) ?_ | refine XK.gs (DI .i64 0) ?_))
  all_goals exact ret _ _ (by simp [leakR, St1.kind, St1.value, St1.index, hs1, hs2])
 ·have e3 : (k == 3) = false := by rcases hk with rfl | rfl <;> decide
  have f3 : (k = 3) = False := by rcases hk with rfl | rfl <;> simp
  have e2 : (k == 2) = false := by rcases hk with rfl | rfl <;> decide
  have f2 : (k = 2) = False := by rcases hk with rfl | rfl <;> simp
  have hse := hsec _ (sv (by omega))
  simp only at hse
  cases hs2 : secE vs ar 5 (.mk vk vv vks)
  all_goals
   rw [hs2] at hse
   refine dcZ Tryz.func101 ?_
   simp only [go_sem, e3, f3, e2, f2]
   iterate 10 ((try (refine drvZ Tryz.func101 ?_; simp only [go_sem, e3, f3, e2, f2])); ((with_reducible and_intros) <;> try exact sd); (try first | refine XK.p hse ok168 ?_ | refine XK.gp hse ok168 ?_ | refine XK.gs (DB false) ?_ | refine XK.gs (DI .i64 0) ?_))
  all_goals exact ret _ _ (by simp [leakR, St1.kind, St1.value, St1.index, hs2, f3, f2])
theorem checkCTI (p : Pg) (hl : p.vars.length ≤ mx) (hl2 : p.arrays.length ≤ mx) : DC Tryz.prog 33 [.agg p.cells] [] (fun r h => r = .tup [DI .i64 (strictR p).1, DI .i64 (strictR p).2] ∧ h = []) := by
 have hmx := mx_eq
 have hc := checkFlowI p hl hl2
 have ret : ∀ (x : Int × Int) (hp : Hp), x = strictR p → RetOb 0 (fun r h => r = .tup [DI .i64 (strictR p).1, DI .i64 (strictR p).2] ∧ h = []) (.tup [DI .i64 x.1, DI .i64 x.2]) hp := fun x hp h => by
  subst h
  exact RetOb.two ⟨rfl, rfl⟩
 generalize hR : (fun (r : D) (h : List (Option (List C))) => r = .tup [DI .i64 (strictR p).1, DI .i64 (strictR p).2] ∧ h = []) = R at ret ⊢
 clear hR
 by_cases hf : (chkR flowR p).1 = 0
 ·have hq : progOK p = true := by
   have := (chk_fine flowR p).1 hf
   unfold fineP at this
   simp only [Bool.and_eq_true] at this
   exact this.1
  have he : strictR p = chkR leakR p := by unfold strictR; rw [if_neg (by simpa using hf)]
  rw [he, chk_fir leakR hq] at ret
  have hlab := labs_of hq
  have hfo := firstOf p hq 101 ok101 leakR (fun d s c hc hs => leakI p hl hl2 hlab.1 hlab.2 d s hs c)
  rw [hf] at hc
  generalize (chkR flowR p).2 = y at *
  generalize firR leakR p = x at *
  obtain ⟨vs, ar, bd⟩ := p
  refine dcZ Tryz.func33 ?_
  simp only [go_sem]
  iterate 6 ((try (refine drvZ Tryz.func33 ?_; simp only [go_sem, bne_self_eq_false])); ((with_reducible and_intros) <;> try exact sd); (try first | refine XK.p hc ok93 ?_ | refine XK.gp hc ok93 ?_ | refine XK.p hfo ok100 ?_ | refine XK.gp hfo ok100 ?_))
  exact ret x _ rfl
 ·have he : strictR p = chkR flowR p := by unfold strictR; rw [if_pos hf]
  rw [he] at ret
  generalize chkR flowR p = x at *
  obtain ⟨x1, x2⟩ := x
  simp only at hf hc
  have g1 : (x1 = 0) = False := eq_false hf
  have g2 : (x1 != 0) = true := by simp [hf]
  obtain ⟨vs, ar, bd⟩ := p
  refine dcZ Tryz.func33 ?_
  simp only [go_sem]
  iterate 6 ((try (refine drvZ Tryz.func33 ?_; simp only [go_sem, g1, g2])); ((with_reducible and_intros) <;> try exact sd); (try first | refine XK.p hc ok93 ?_ | refine XK.gp hc ok93 ?_))
  exact ret (x1, x2) _ rfl
end Go.Proofs.YtjjjidcbokbhpaaGreat.CtR
namespace Go.Proofs.YtjjjidcbokbhpaaGreat.CtL
open Go Go.CT CtF CtR
open CtD (rel rel_app rel_eval)
def e0 : Ex := .mk 0 0 []
def cE (n : Int) : Ex := .mk 1 n []
def vE (v : Int) : Ex := .mk 2 v []
def rdE (a : Int) (i : Ex) : Ex := .mk 3 a [i]
def bE (k : Int) (a b : Ex) : Ex := .mk k 0 [a, b]
def selE (a b c : Ex) : Ex := .mk 11 0 [a, b, c]
def hitE (i : Ex) (k : Int) : Ex := bE 9 (bE 7 i (cE 3)) (cE k)
def asg (v : Int) (e : Ex) : St1 := .mk 1 v e0 e 0 [] []
def sto (t : Int) (i e : Ex) : St1 := .mk 2 t i e 0 [] []
def maskE (mk : Int) (e f : Ex) : Ex := if mk < 0 then e else selE (vE mk) e f
def readN (w : Nat) (a : Int) (i : Ex) (k : Nat) : St1 := asg w (selE (hitE i k) (rdE a (cE k)) (vE w))
def readS (w : Nat) (a : Int) (i : Ex) : List St1 := [asg w (rdE a (cE 0)), readN w a i 1, readN w a i 2, readN w a i 3]
def stoN (mk : Int) (w : Nat) (t : Int) (i : Ex) (k : Nat) : St1 := sto t (cE k) (selE (maskE mk (hitE i k) (cE 0)) (vE w) (rdE t (cE k)))
def stoS (mk : Int) (w : Nat) (t : Int) (i : Ex) : List St1 := [stoN mk w t i 0, stoN mk w t i 1, stoN mk w t i 2, stoN mk w t i 3]
def linK (f : List Int → Ex → List Int × List St1 × Ex) : List Int → List Ex → List Int × List St1 × List Ex
 | vs, [] => (vs, [], [])
 | vs, e :: r => ((linK f (f vs e).1 r).1, (f vs e).2.1 ++ (linK f (f vs e).1 r).2.1, (f vs e).2.2 :: (linK f (f vs e).1 r).2.2)
def lab1 (a b : Nat) : List Int := [((a ||| b : Nat) : Int)]
def linE (ar : List Int) (pc : Nat) : Nat → List Int → Ex → List Int × List St1 × Ex
 | 0, vs, e => (vs, [], e)
 | d + 1, vs, .mk k v ks =>
  if k = 3 ∧ secL (labN (linK (linE ar pc d) vs ks).1 ar d (kid0 ks)) = true then
   ((linK (linE ar pc d) vs ks).1 ++ lab1 (labN (linK (linE ar pc d) vs ks).1 ar (d + 1) (.mk k v ks)) pc,
    (linK (linE ar pc d) vs ks).2.1 ++ readS (linK (linE ar pc d) vs ks).1.length v (kid0 ks), vE (linK (linE ar pc d) vs ks).1.length)
  else ((linK (linE ar pc d) vs ks).1, (linK (linE ar pc d) vs ks).2.1, .mk k v (linK (linE ar pc d) vs ks).2.2)
def linB (f : List Int → St1 → List Int × List St1) : List Int → List St1 → List Int × List St1
 | vs, [] => (vs, [])
 | vs, s :: r => ((linB f (f vs s).1 r).1, (f vs s).2 ++ (linB f (f vs s).1 r).2)
def linO (ar : List Int) (mk : Int) (pc : Nat) (E : List Int × List St1 × Ex) (k t : Int) (ix : Ex) : List Int × List St1 :=
 if k = 5 then (E.1, E.2.1 ++ [.mk 5 t e0 E.2.2 0 [] []])
 else if k = 1 then (E.1, E.2.1 ++ [asg t (maskE mk E.2.2 (vE t))])
 else if secL (labN E.1 ar 5 ix) = true then (E.1 ++ lab1 (labN E.1 ar 5 E.2.2) pc, E.2.1 ++ asg E.1.length E.2.2 :: stoS mk E.1.length t ix)
 else (E.1, E.2.1 ++ [sto t ix (maskE mk E.2.2 (rdE t ix))])
def maskS (mk : Int) (w : Nat) (e : Ex) : List St1 := [asg w (maskE mk e (cE 0)), asg (w + 1 : Nat) (maskE mk (bE 9 (vE w) (cE 0)) (cE 0))]
def linI (f : Int → Nat → List Int → List St1 → List Int × List St1) (mk : Int) (pc l : Nat) (E : List Int × List St1 × Ex) (b e : List St1) : List Int × List St1 :=
 if secL l = true then
  ((f (E.1.length + 1 : Nat) (pc ||| l) (f E.1.length (pc ||| l) (E.1 ++ lab1 pc l ++ lab1 pc l) b).1 e).1,
   E.2.1 ++ maskS mk E.1.length E.2.2 ++ (f E.1.length (pc ||| l) (E.1 ++ lab1 pc l ++ lab1 pc l) b).2 ++ (f (E.1.length + 1 : Nat) (pc ||| l) (f E.1.length (pc ||| l) (E.1 ++ lab1 pc l ++ lab1 pc l) b).1 e).2)
 else ((f mk (pc ||| l) (f mk (pc ||| l) E.1 b).1 e).1, E.2.1 ++ [.mk 3 0 e0 E.2.2 0 (f mk (pc ||| l) E.1 b).2 (f mk (pc ||| l) (f mk (pc ||| l) E.1 b).1 e).2])
def linS (ar : List Int) : Nat → Int → Nat → List Int → St1 → List Int × List St1
 | 0, _, _, vs, _ => (vs, [])
 | d + 1, mk, pc, vs, .mk k t ix v c b e =>
  if k = 4 then ((linB (linS ar d mk pc) vs b).1, [.mk 4 0 e0 e0 c (linB (linS ar d mk pc) vs b).2 []])
  else if k = 3 then linI (fun mk pc vs l => linB (linS ar d mk pc) vs l) mk pc (labN vs ar 5 v) (linE ar pc 5 vs v) b e
  else linO ar mk pc (linE ar pc 5 vs v) k t ix
theorem linS_4 {ar : List Int} {d : Nat} {mk : Int} {pc : Nat} {vs : List Int} {t : Int} {ix v : Ex} {c : Int} {b e : List St1} : linS ar (d + 1) mk pc vs (.mk 4 t ix v c b e) = ((linB (linS ar d mk pc) vs b).1, [.mk 4 0 e0 e0 c (linB (linS ar d mk pc) vs b).2 []]) := by simp [linS]
theorem linS_3 {ar : List Int} {d : Nat} {mk : Int} {pc : Nat} {vs : List Int} {t : Int} {ix v : Ex} {c : Int} {b e : List St1} : linS ar (d + 1) mk pc vs (.mk 3 t ix v c b e) = linI (fun mk pc vs l => linB (linS ar d mk pc) vs l) mk pc (labN vs ar 5 v) (linE ar pc 5 vs v) b e := by simp [linS]
theorem linS_o {ar : List Int} {d : Nat} {mk : Int} {pc : Nat} {vs : List Int} {k t : Int} {ix v : Ex} {c : Int} {b e : List St1} (h4 : k ≠ 4) (h3 : k ≠ 3) : linS ar (d + 1) mk pc vs (.mk k t ix v c b e) = linO ar mk pc (linE ar pc 5 vs v) k t ix := by simp [linS, h3, h4]
theorem linO_5 {ar : List Int} {mk : Int} {pc : Nat} {E : List Int × List St1 × Ex} {t : Int} {ix : Ex} : linO ar mk pc E 5 t ix = (E.1, E.2.1 ++ [.mk 5 t e0 E.2.2 0 [] []]) := by simp [linO]
theorem linO_1 {ar : List Int} {mk : Int} {pc : Nat} {E : List Int × List St1 × Ex} {t : Int} {ix : Ex} : linO ar mk pc E 1 t ix = (E.1, E.2.1 ++ [asg t (maskE mk E.2.2 (vE t))]) := by simp [linO]
theorem linO_2 {ar : List Int} {mk : Int} {pc : Nat} {E : List Int × List St1 × Ex} {t : Int} {ix : Ex} : linO ar mk pc E 2 t ix = if secL (labN E.1 ar 5 ix) = true then (E.1 ++ lab1 (labN E.1 ar 5 E.2.2) pc, E.2.1 ++ asg E.1.length E.2.2 :: stoS mk E.1.length t ix)
 else (E.1, E.2.1 ++ [sto t ix (maskE mk E.2.2 (rdE t ix))]) := by simp [linO]
def linQ (p : Pg) : Pg := ⟨(linB (linS p.arrays 5 (-1) 0) p.vars p.body).1, p.arrays, (linB (linS p.arrays 5 (-1) 0) p.vars p.body).2⟩
def linP (p : Pg) : Pg × Bool := if fineP flowR p = true ∧ progOK (linQ p) = true then (linQ p, true) else (⟨[], [], []⟩, false)
theorem shape_of {p : Pg} {d : Nat} {k v : Int} {ks : List Ex} (h1 : fitsE p k v ks.length = true) (h2 : ∀ x ∈ ks, CtR.shape p d x = true) (h3 : k = 3 → headAtom ks = true) : CtR.shape p (d + 1) (.mk k v ks) = true := by
 simp only [CtR.shape, Bool.and_eq_true, List.all_eq_true, Bool.or_eq_true]
 refine ⟨⟨h1, h2⟩, ?_⟩
 by_cases hk : k = 3
 ·exact .inr (h3 hk)
 ·exact .inl (by simpa using hk)
theorem limit_le {p q : Pg} (h1 : p.vars.length ≤ q.vars.length) (h2 : p.arrays.length = q.arrays.length) (k : Int) : limit p k ≤ limit q k := by
 unfold limit; repeat' split
 all_goals omega
theorem shape_mono {p q : Pg} (h1 : p.vars.length ≤ q.vars.length) (h2 : p.arrays.length = q.arrays.length) : ∀ (d : Nat) (e : Ex), CtR.shape p d e = true → CtR.shape q d e = true
 | 0, _, h => by simp [CtR.shape] at h
 | d + 1, .mk k v ks, h => by
  obtain ⟨g1, g2, g3⟩ := shape_succ h
  have hl := limit_le h1 h2 k
  obtain ⟨a, b, c, e⟩ := fits_len g1
  exact shape_of (fitsE_true b c (by omega)) (fun x hx => shape_mono h1 h2 d x (g2 x hx)) g3
theorem shape_up {p : Pg} : ∀ (d : Nat) (e : Ex), CtR.shape p d e = true → CtR.shape p (d + 1) e = true
 | 0, _, h => by simp [CtR.shape] at h
 | d + 1, .mk k v ks, h => by
  obtain ⟨g1, g2, g3⟩ := shape_succ h
  exact shape_of g1 (fun x hx => shape_up d x (g2 x hx)) g3
theorem evalE_up {p : Pg} {m : Mm} : ∀ (d : Nat) (e : Ex), CtR.shape p d e = true → evalE m (d + 1) e = evalE m d e
 | 0, _, h => by simp [CtR.shape] at h
 | d + 1, .mk k v ks, h => by
  obtain ⟨g1, g2, g3⟩ := shape_succ h
  have e1 : (ks.map fun e => (evalE m (d + 1) e).1) = ks.map fun e => (evalE m d e).1 := List.map_congr_left fun x hx => by rw [evalE_up d x (g2 x hx)]
  have e2 : (ks.map fun e => (evalE m (d + 1) e).2) = ks.map fun e => (evalE m d e).2 := List.map_congr_left fun x hx => by rw [evalE_up d x (g2 x hx)]
  rw [evalE, evalE]
  simp only [e1, e2]
theorem nth_app {a b : List Int} {v : Int} (h0 : 0 ≤ v) (h : v < a.length) : nth (a ++ b) v = nth a v := by
 unfold nth
 rw [List.getD_eq_getElem?_getD, List.getD_eq_getElem?_getD, List.getElem?_append_left (by omega)]
theorem labN_app {vs more ar : List Int} {bd : List St1} : ∀ (d : Nat) (e : Ex), CtR.shape ⟨vs, ar, bd⟩ d e = true → labN (vs ++ more) ar d e = labN vs ar d e
 | 0, _, h => by simp [CtR.shape] at h
 | d + 1, .mk k v ks, h => by
  obtain ⟨g1, g2, g3⟩ := shape_succ h
  obtain ⟨_, _, c, e⟩ := fits_len g1
  have e1 : (ks.map (labN (vs ++ more) ar d)) = ks.map (labN vs ar d) := List.map_congr_left fun x hx => labN_app d x (g2 x hx)
  rw [labN, labN, e1]
  congr 1
  unfold labB
  by_cases k2 : k = 2
  ·subst k2
   rw [if_pos rfl, if_pos rfl, nth_app c (by simpa [limit] using e)]
  ·rw [if_neg k2, if_neg k2]
theorem read_kid {p : Pg} {d : Nat} {v : Int} {ks : List Ex} (h : CtR.shape p (d + 1) (.mk 3 v ks) = true) : ∃ a, ks = [a] ∧ CtR.shape p d a = true ∧ atom a = true ∧ 0 ≤ v ∧ v < p.arrays.length := by
 obtain ⟨g1, g2, g3⟩ := shape_succ h
 obtain ⟨_, b, c, e⟩ := fits_len g1
 have g3 := g3 rfl
 match ks, b, g2, g3 with
 | [a], _, g2, g3 => exact ⟨a, rfl, g2 a (by simp), g3, c, by simpa [limit] using e⟩
 | [], b, _, _ => simp [arity] at b
 | _ :: _ :: r, b, _, _ => simp [arity] at b; omega
theorem atom_mk {p : Pg} {d : Nat} {a : Ex} (hs : CtR.shape p d a = true) (ha : atom a = true) : ∃ k v, a = .mk k v [] ∧ (k = 1 ∧ 0 ≤ v ∧ v ≤ 255 ∨ k = 2 ∧ 0 ≤ v ∧ v < p.vars.length) := by
 match d, a, hs with
 | 0, _, hs => simp [CtR.shape] at hs
 | d + 1, .mk k v ks, hs =>
  obtain ⟨g1, g2, g3⟩ := shape_succ hs
  obtain ⟨_, b, c, e⟩ := fits_len g1
  have hk : k = 1 ∨ k = 2 := by simpa [atom, Ex.kind] using ha
  refine ⟨k, v, ?_, ?_⟩
  ·have : ks.length = 0 := by rcases hk with rfl | rfl <;> simp [arity] at b <;> simpa using b
   rw [List.length_eq_zero_iff.1 this]
  ·rcases hk with rfl | rfl
   ·exact .inl ⟨rfl, c, by simp [limit] at e; omega⟩
   ·exact .inr ⟨rfl, c, by simpa [limit] using e⟩
theorem lin_atom {ar : List Int} {pc : Nat} {vs : List Int} {p : Pg} {d : Nat} {a : Ex} (hs : CtR.shape p d a = true) (ha : atom a = true) : linE ar pc d vs a = (vs, [], a) := by
 obtain ⟨k, v, rfl, hk⟩ := atom_mk hs ha
 have hk3 : k ≠ 3 := by omega
 match d with
 | 0 => rfl
 | d + 1 => simp [linE, linK, hk3]
theorem lin_read {ar : List Int} {pc : Nat} {vs : List Int} {p : Pg} {d : Nat} {v : Int} {a : Ex} (hs : CtR.shape p d a = true) (ha : atom a = true) :
 linE ar pc (d + 1) vs (.mk 3 v [a]) = if secL (labN vs ar d a) = true then (vs ++ lab1 (labN vs ar (d + 1) (.mk 3 v [a])) pc, readS vs.length v a, vE vs.length) else (vs, [], .mk 3 v [a]) := by
 have h1 := lin_atom (ar := ar) (pc := pc) (vs := vs) hs ha
 simp only [linE, linK, h1, kid0, true_and, List.nil_append]
structure Agr (n : Nat) (m m' : Mm) : Prop where
 ar : m.arrays = m'.arrays
 va : ∀ i, i < n → m.vals[i]? = m'.vals[i]?
theorem Agr.refl (n : Nat) (m : Mm) : Agr n m m := ⟨rfl, fun _ _ => rfl⟩
theorem Agr.symm {n : Nat} {m m' : Mm} (h : Agr n m m') : Agr n m' m := ⟨h.ar.symm, fun i hi => (h.va i hi).symm⟩
theorem Agr.trans {n : Nat} {a b c : Mm} (h : Agr n a b) (g : Agr n b c) : Agr n a c := ⟨h.ar.trans g.ar, fun i hi => (h.va i hi).trans (g.va i hi)⟩
theorem Agr.le {n k : Nat} {m m' : Mm} (h : Agr n m m') (hk : k ≤ n) : Agr k m m' := ⟨h.ar, fun i hi => h.va i (by omega)⟩
theorem Agr.nth {n : Nat} {m m' : Mm} (h : Agr n m m') {v : Int} (h0 : 0 ≤ v) (hv : v < n) : CtR.nth m.vals v = CtR.nth m'.vals v := by
 unfold CtR.nth
 rw [List.getD_eq_getElem?_getD, List.getD_eq_getElem?_getD, h.va _ (by omega)]
theorem evalE_agr {p : Pg} {n : Nat} {m m' : Mm} (hn : p.vars.length ≤ n) (h : Agr n m m') : ∀ (d : Nat) (e : Ex), CtR.shape p d e = true → evalE m d e = evalE m' d e
 | 0, _, _ => rfl
 | d + 1, .mk k v ks, hs => by
  obtain ⟨g1, g2, g3⟩ := shape_succ hs
  obtain ⟨_, _, c, e⟩ := fits_len g1
  have e1 : (ks.map fun e => (evalE m d e).1) = ks.map fun e => (evalE m' d e).1 := List.map_congr_left fun x hx => by rw [evalE_agr hn h d x (g2 x hx)]
  have e2 : (ks.map fun e => (evalE m d e).2) = ks.map fun e => (evalE m' d e).2 := List.map_congr_left fun x hx => by rw [evalE_agr hn h d x (g2 x hx)]
  have e3 : arrAt m v = arrAt m' v := by unfold arrAt; rw [h.ar]
  simp only [evalE, e1, e2, e3]
  by_cases k2 : k = 2
  ·subst k2
   have hv : v < p.vars.length := by simpa [limit] using e
   rw [h.nth c (by omega)]
  ·simp only [k2, if_false]
theorem Agr.setV {n : Nat} {m : Mm} {w : Nat} {x : Int} (hw : n ≤ w) : Agr n m (CtR.setV m w x) := ⟨rfl, fun i hi => by
 simp only [CtR.setV, Int.toNat_natCast, List.getElem?_set]
 rw [if_neg (by omega)]⟩
theorem nth_set {l : List Int} {w : Nat} {x : Int} (hw : w < l.length) : nth (l.set w x) (w : Int) = x := by
 unfold nth
 rw [List.getD_eq_getElem?_getD, Int.toNat_natCast, List.getElem?_set_self hw]
 rfl
def atV (m : Mm) (a : Ex) : Int := (evalE m 1 a).1
theorem eval_atom {p : Pg} {m : Mm} {d0 d : Nat} {a : Ex} (hs : CtR.shape p d0 a = true) (ha : atom a = true) : evalE m (d + 1) a = (atV m a, []) := by
 obtain ⟨k, v, rfl, hk⟩ := atom_mk hs ha
 rcases hk with ⟨rfl, _⟩ | ⟨rfl, _⟩ <;> simp [evalE, atV]
theorem eval_c {m : Mm} {d : Nat} {n : Int} : evalE m (d + 1) (cE n) = (n, []) := by simp [evalE, cE]
theorem eval_v {m : Mm} {d : Nat} {v : Int} : evalE m (d + 1) (vE v) = (nth m.vals v, []) := by simp [evalE, vE]
theorem eval_sel {m : Mm} {d : Nat} {a b c : Ex} : (evalE m (d + 1) (selE a b c)).1 = if (evalE m d a).1 ≠ 0 then (evalE m d b).1 else (evalE m d c).1 := by simp [evalE, selE]
theorem eval_rdc {m : Mm} {d : Nat} {a k : Int} : (evalE m (d + 2) (rdE a (cE k))).1 = nth (arrAt m a) (k % 4) := by simp [evalE, rdE, cE]
theorem and3 {x : Int} (h : 0 ≤ x) : ((x.toNat &&& 3 : Nat) : Int) = x % 4 := by
 have h1 : x.toNat &&& 3 = x.toNat % 4 := Nat.and_two_pow_sub_one_eq_mod x.toNat 2
 rw [h1]; omega
theorem eval_hit {p : Pg} {m : Mm} {d0 d : Nat} {a : Ex} {k : Int} (hs : CtR.shape p d0 a = true) (ha : atom a = true) (h0 : 0 ≤ atV m a) : (evalE m (d + 3) (hitE a k)).1 = if atV m a % 4 = k then 1 else 0 := by
 have e1 := eval_atom (m := m) (d := d) hs ha
 have e2 := and3 h0
 simp only [hitE, bE, cE]
 rw [evalE]
 simp only [List.map_cons, List.map_nil]
 rw [evalE, evalE]
 simp only [List.map_cons, List.map_nil, e1]
 simp [evalE, bin, e2]
theorem eval_mask {m : Mm} {d : Nat} {mk : Int} {e f : Ex} (hm : 0 ≤ mk) : (evalE m (d + 2) (maskE mk e f)).1 = if nth m.vals mk ≠ 0 then (evalE m (d + 1) e).1 else (evalE m (d + 1) f).1 := by
 unfold maskE
 rw [if_neg (by omega), eval_sel, eval_v]
theorem shape_sel {p : Pg} {d : Nat} {a b c : Ex} (h : CtR.shape p (d + 1) (selE a b c) = true) : CtR.shape p d a = true ∧ CtR.shape p d b = true ∧ CtR.shape p d c = true := by
 obtain ⟨_, g2, _⟩ := shape_succ h
 exact ⟨g2 a (by simp), g2 b (by simp), g2 c (by simp)⟩
theorem rel_plain {D : Nat} : ∀ (l : List St1) (m : Mm), (∀ s ∈ l, s.kind = 1 ∨ s.kind = 2) → rel (foldR (runS (D + 1)) m l).2 = []
 | [], _, _ => rfl
 | .mk k t ix v c b e :: r, m, h => by
  have ih := fun m => rel_plain (D := D) r m fun s hs => h s (by simp [hs])
  have hk := h _ List.mem_cons_self
  simp only [foldR, rel_app, ih, List.append_nil]
  simp only [St1.kind] at hk
  rcases hk with rfl | rfl
  ·rw [runS_1]; exact rel_eval m 5 v
  ·rw [runS_2]; simp only [rel_app, rel_eval, List.nil_append]; rfl
theorem setV_setV (m : Mm) (w : Nat) (x y : Int) : setV (setV m w x) w y = setV m w y := by simp [setV]
theorem atV_setV {p : Pg} {d : Nat} {m : Mm} {a : Ex} {w : Nat} {x : Int} (hs : CtR.shape p d a = true) (ha : atom a = true) (hw : p.vars.length ≤ w) : atV (setV m w x) a = atV m a := by
 obtain ⟨k, v, rfl, hk⟩ := atom_mk hs ha
 rcases hk with ⟨rfl, _⟩ | ⟨rfl, h0, h1⟩
 ·simp [atV, evalE]
 ·simp only [atV, evalE]
  simp only [Int.reduceEq, if_false, if_true]
  exact ((Agr.setV (m := m) (x := x) hw).nth h0 h1).symm
theorem run_read {p : Pg} {D d : Nat} {m : Mm} {w : Nat} {v : Int} {a : Ex} (hs : CtR.shape p d a = true) (ha : atom a = true) (hw : p.vars.length ≤ w) (hl : w < m.vals.length) (h0 : 0 ≤ atV m a) :
 (foldR (runS (D + 1)) m (readS w v a)).1 = setV m w (nth (arrAt m v) (atV m a % 4)) := by
 have hv : ∀ x, nth (setV m w x).vals (w : Int) = x := fun x => by unfold setV; rw [Int.toNat_natCast]; exact nth_set hl
 have har : ∀ x, arrAt (setV m w x) v = arrAt m v := fun x => rfl
 have step : ∀ (k : Nat) (x : Int), k < 4 → (runS (D + 1) (setV m w x) (readN w v a k)).1 = setV m w (if atV m a % 4 = k then nth (arrAt m v) k else x) := fun k x hk => by
  have e0 : atV (setV m w x) a = atV m a := atV_setV hs ha hw
  have e1 := eval_hit (m := setV m w x) (d := 1) (k := k) hs ha (by rw [e0]; exact h0)
  have hk4 : (k : Int) % 4 = k := by omega
  unfold readN asg
  rw [runS_1]
  simp only [eval_sel, e1, eval_v, eval_rdc, e0, hv, har, setV_setV, hk4]
  congr 1
  split <;> simp_all
 have s0 : (runS (D + 1) m (asg w (rdE v (cE 0)))).1 = setV m w (nth (arrAt m v) 0) := by
  unfold asg; rw [runS_1]; simp only [eval_rdc]; rfl
 simp only [readS, foldR, s0]
 rw [step 1 _ (by omega), step 2 _ (by omega), step 3 _ (by omega)]
 congr 1
 have : atV m a % 4 = 0 ∨ atV m a % 4 = 1 ∨ atV m a % 4 = 2 ∨ atV m a % 4 = 3 := by omega
 rcases this with h | h | h | h <;> simp [h]
structure LinE (ar : List Int) (q : Pg) (vs : List Int) (d : Nat) (e : Ex) (R : List Int × List St1 × Ex) : Prop where
 more : ∃ w, R.1 = vs ++ w
 shp : CtR.shape ⟨R.1, ar, []⟩ d R.2.2 = true
 knd : ∀ s ∈ R.2.1, s.kind = 1
 run : ∀ D m, (∀ s ∈ R.2.1, stmtOK q (D + 1) s = true) → MemFits q m → R.1.length ≤ q.vars.length →
  Agr vs.length m (foldR (runS (D + 1)) m R.2.1).1 ∧ ∀ m2, Agr R.1.length (foldR (runS (D + 1)) m R.2.1).1 m2 → (evalE m2 d R.2.2).1 = (evalE m d e).1
structure LinK (ar : List Int) (q : Pg) (vs : List Int) (d : Nat) (ks : List Ex) (R : List Int × List St1 × List Ex) : Prop where
 more : ∃ w, R.1 = vs ++ w
 len : R.2.2.length = ks.length
 shp : ∀ x ∈ R.2.2, CtR.shape ⟨R.1, ar, []⟩ d x = true
 knd : ∀ s ∈ R.2.1, s.kind = 1
 run : ∀ D m, (∀ s ∈ R.2.1, stmtOK q (D + 1) s = true) → MemFits q m → R.1.length ≤ q.vars.length →
  Agr vs.length m (foldR (runS (D + 1)) m R.2.1).1 ∧ ∀ m2, Agr R.1.length (foldR (runS (D + 1)) m R.2.1).1 m2 → (R.2.2.map fun e => (evalE m2 d e).1) = ks.map fun e => (evalE m d e).1
theorem linK_ok {ar : List Int} {q : Pg} {d : Nat} {f : List Int → Ex → List Int × List St1 × Ex} : ∀ (ks : List Ex) (vs : List Int), (∀ x ∈ ks, CtR.shape ⟨vs, ar, []⟩ d x = true) →
 (∀ vs e, CtR.shape ⟨vs, ar, []⟩ d e = true → LinE ar q vs d e (f vs e)) → LinK ar q vs d ks (linK f vs ks)
 | [], vs, _, _ => ⟨⟨[], by simp [linK]⟩, rfl, by simp [linK], by simp [linK], fun D m _ _ _ => ⟨Agr.refl _ _, fun _ _ => rfl⟩⟩
 | e :: r, vs, hs, hf => by
  have h1 := hf vs e (hs e (by simp))
  obtain ⟨w1, e1⟩ := h1.more
  have hle1 : vs.length ≤ (f vs e).1.length := by rw [e1]; simp
  have h2 := linK_ok r (f vs e).1 (fun x hx => shape_mono (p := ⟨vs, ar, []⟩) (q := ⟨(f vs e).1, ar, []⟩) hle1 rfl d x (hs x (by simp [hx]))) hf
  obtain ⟨w2, e2⟩ := h2.more
  have hle2 : (f vs e).1.length ≤ (linK f (f vs e).1 r).1.length := by rw [e2]; simp
  refine ⟨⟨w1 ++ w2, by simp only [linK]; rw [e2, e1, List.append_assoc]⟩, by simp [linK, h2.len], ?_, ?_, ?_⟩
  ·intro x hx
   simp only [linK, List.mem_cons] at hx ⊢
   rcases hx with rfl | hx
   ·exact shape_mono (p := ⟨(f vs e).1, ar, []⟩) (q := ⟨(linK f (f vs e).1 r).1, ar, []⟩) hle2 rfl d _ h1.shp
   ·exact h2.shp x hx
  ·intro s hs
   simp only [linK, List.mem_append] at hs
   rcases hs with hs | hs
   ·exact h1.knd s hs
   ·exact h2.knd s hs
  ·intro D m hok hm hle
   simp only [linK] at hok hle ⊢
   have ok1 : ∀ s ∈ (f vs e).2.1, stmtOK q (D + 1) s = true := fun s hs => hok s (by simp [hs])
   have ok2 : ∀ s ∈ (linK f (f vs e).1 r).2.1, stmtOK q (D + 1) s = true := fun s hs => hok s (by simp [hs])
   obtain ⟨a1, b1⟩ := h1.run D m ok1 hm (by omega)
   have hm1 : MemFits q (foldR (runS (D + 1)) m (f vs e).2.1).1 := (runL_ok hm ok1).1
   obtain ⟨a2, b2⟩ := h2.run D _ ok2 hm1 hle
   rw [foldR_app]
   refine ⟨a1.trans (a2.le hle1), fun m2 hm2 => ?_⟩
   simp only [List.map_cons]
   rw [b1 m2 (a2.trans (hm2.le hle2)), b2 m2 hm2]
   congr 1
   refine List.map_congr_left fun x hx => ?_
   rw [evalE_agr (p := ⟨vs, ar, []⟩) (Nat.le_refl _) a1 d x (hs x (by simp [hx]))]
theorem linE_ok {ar : List Int} {q : Pg} (hna : q.arrays.length = ar.length) (pc : Nat) : ∀ (d : Nat) (vs : List Int) (e : Ex), CtR.shape ⟨vs, ar, []⟩ d e = true → LinE ar q vs d e (linE ar pc d vs e)
 | 0, vs, e, h => by simp [CtR.shape] at h
 | d + 1, vs, .mk k v ks, h => by
  by_cases k3 : k = 3
  ·subst k3
   obtain ⟨a, rfl, hs, ha, hv0, hv1⟩ := read_kid h
   rw [lin_read hs ha]
   split
   ·have hc : (vs.length : Int) < (vs ++ lab1 (labN vs ar (d + 1) (.mk 3 v [a])) pc).length := by simp [lab1]; omega
    refine ⟨⟨_, rfl⟩, shape_of (fitsE_true rfl (by omega) (by simpa [limit] using hc)) (by simp) (by simp), by simp [readS, readN, asg, St1.kind], ?_⟩
    intro D m hok hm hle
    simp only [List.length_append, lab1, List.length_singleton] at hle
    have hl : vs.length < m.vals.length := by rw [hm.nv]; omega
    have h0 : 0 ≤ atV m a := by
     have hs1 := shape_mono (q := q) (by simp; omega) (by simpa using hna.symm) d a hs
     match d, hs1 with
     | 0, hs1 => simp [CtR.shape] at hs1
     | d + 1, hs1 =>
      have := evalE_range hm (d + 1) a hs1
      rw [eval_atom hs ha] at this
      exact this.1
    have hr := run_read (D := D) (v := v) hs ha (Nat.le_refl _) hl h0
    simp only at hr
    rw [hr]
    refine ⟨Agr.setV (Nat.le_refl _), fun m2 hm2 => ?_⟩
    rw [eval_v]
    simp only
    rw [← hm2.nth (by omega) hc]
    have : (setV m (vs.length : Int) (nth (arrAt m v) (atV m a % 4))).vals = m.vals.set vs.length (nth (arrAt m v) (atV m a % 4)) := by unfold setV; rw [Int.toNat_natCast]
    rw [this, nth_set hl]
    match d, hs with
    | 0, hs => simp [CtR.shape] at hs
    | d + 1, hs =>
     rw [evalE]
     simp [eval_atom hs ha]
   ·refine ⟨⟨[], by simp⟩, h, by simp, fun D m _ _ _ => ⟨Agr.refl _ _, fun m2 hm2 => ?_⟩⟩
    simp only [foldR] at hm2
    rw [evalE_agr (p := ⟨vs, ar, []⟩) (Nat.le_refl _) hm2 (d + 1) _ h]
  ·obtain ⟨g1, g2, g3⟩ := shape_succ h
   obtain ⟨_, gb, c, gl⟩ := fits_len g1
   have hk := linK_ok ks vs g2 fun vs e hs => linE_ok (q := q) hna pc d vs e hs
   have he : linE ar pc (d + 1) vs (.mk k v ks) = ((linK (linE ar pc d) vs ks).1, (linK (linE ar pc d) vs ks).2.1, .mk k v (linK (linE ar pc d) vs ks).2.2) := by
    rw [linE, if_neg (fun h => k3 h.1)]
   rw [he]
   generalize linK (linE ar pc d) vs ks = R at hk
   obtain ⟨w, ew⟩ := hk.more
   have hle : vs.length ≤ R.1.length := by rw [ew]; simp
   have hlim := limit_le (p := ⟨vs, ar, []⟩) (q := ⟨R.1, ar, []⟩) hle rfl k
   refine ⟨hk.more, shape_of (fitsE_true (by rw [hk.len]; exact gb) c (Int.lt_of_lt_of_le gl hlim)) hk.shp (fun h => absurd h k3), hk.knd, fun D m hok hm hl => ?_⟩
   obtain ⟨a1, b1⟩ := hk.run D m hok hm hl
   refine ⟨a1, fun m2 hm2 => ?_⟩
   have e1 := b1 m2 hm2
   simp only [evalE, e1]
   by_cases k2 : k = 2
   ·subst k2
    have hv : v < vs.length := by simpa [limit] using gl
    have hn := (a1.trans (hm2.le hle)).nth c hv
    simp [hn]
   ·simp [k2, k3]
    split
    ·rfl
    ·split <;> simp
def quietE : Nat → Ex → Bool
 | 0, _ => true
 | d + 1, .mk k v ks => !(k == 3) && ks.all (quietE d)
def isC (e : Ex) : Bool := e.kind == 1
def isN (e : Ex) (n : Int) : Bool := e.kind == 1 && e.value == n
def binN (k v : Int) (a b : Ex) : Ex :=
 if isC a && isC b then cE (bin k a.value b.value)
 else if ((k == 4 || k == 8) && isN a 0) || (k == 6 && isN a 1) then b
 else if ((k == 4 || k == 8 || k == 5) && isN b 0) || (k == 6 && isN b 1) then a
 else .mk k v [a, b]
def selN (d : Nat) (v : Int) (a b c : Ex) : Ex :=
 if isC a && quietE d b && quietE d c then (if a.value ≠ 0 then b else c) else .mk 11 v [a, b, c]
def foldN (d : Nat) (k v : Int) : List Ex → Ex
 | [a, b] => binN k v a b
 | [a, b, c] => selN d v a b c
 | ks => .mk k v ks
def foldE : Nat → Ex → Ex
 | 0, e => e
 | d + 1, .mk k v ks => foldN d k v (ks.map (foldE d))
theorem shape_form {p : Pg} {d : Nat} {k v : Int} {ks : List Ex} (h : CtR.shape p (d + 1) (.mk k v ks) = true) :
 ((k = 1 ∧ 0 ≤ v ∧ v < 256 ∨ k = 2) ∧ ks = []) ∨ (∃ a, k = 3 ∧ ks = [a] ∧ CtR.shape p d a = true ∧ atom a = true) ∨ (∃ a b, 4 ≤ k ∧ k ≤ 10 ∧ ks = [a, b] ∧ CtR.shape p d a = true ∧ CtR.shape p d b = true)
 ∨ (∃ a b c, k = 11 ∧ ks = [a, b, c] ∧ CtR.shape p d a = true ∧ CtR.shape p d b = true ∧ CtR.shape p d c = true) := by
 obtain ⟨g1, g2, g3⟩ := shape_succ h
 obtain ⟨_, b, c, e⟩ := fits_len g1
 by_cases k1 : k = 1 ∨ k = 2
 ·left
  have : ks.length = 0 := by rcases k1 with rfl | rfl <;> simp [arity] at b <;> simpa using b
  refine ⟨?_, List.length_eq_zero_iff.1 this⟩
  rcases k1 with rfl | rfl
  ·exact .inl ⟨rfl, c, by simpa [limit] using e⟩
  ·exact .inr rfl
 by_cases k3 : k = 3
 ·subst k3
  obtain ⟨a, h1, h2, h3, _⟩ := read_kid h
  exact .inr (.inl ⟨a, rfl, h1, h2, h3⟩)
 by_cases k4 : 4 ≤ k ∧ k ≤ 10
 ·have : ks.length = 2 := by
   have : arity k = 2 := by unfold arity; rw [if_neg k1, if_neg k3, if_pos k4]
   omega
  match ks, this with
  | [x, y], _ => exact .inr (.inr (.inl ⟨x, y, k4.1, k4.2, rfl, g2 x (by simp), g2 y (by simp)⟩))
 by_cases k11 : k = 11
 ·subst k11
  have : ks.length = 3 := by simp [arity] at b; omega
  match ks, this with
  | [x, y, z], _ => exact .inr (.inr (.inr ⟨x, y, z, rfl, rfl, g2 x (by simp), g2 y (by simp), g2 z (by simp)⟩))
 ·have : arity k = -1 := by unfold arity; rw [if_neg k1, if_neg k3, if_neg k4, if_neg k11]
  omega
theorem shape_c {p : Pg} {d : Nat} {n : Int} (h0 : 0 ≤ n) (h1 : n ≤ 255) : CtR.shape p (d + 1) (cE n) = true :=
 shape_of (fitsE_true (by simp [arity]) h0 (by simp [limit]; omega)) (by simp) (fun h => by simp at h)
theorem isC_form {p : Pg} {d : Nat} {a : Ex} (hs : CtR.shape p d a = true) (h : isC a = true) : ∃ n, a = cE n ∧ 0 ≤ n ∧ n ≤ 255 := by
 have ha : atom a = true := by simp [isC] at h; simp [atom, h]
 obtain ⟨k, v, rfl, hk⟩ := atom_mk hs ha
 simp [isC, Ex.kind] at h
 exact ⟨v, by rw [h]; rfl, by omega, by omega⟩
theorem isN_form {p : Pg} {d : Nat} {a : Ex} {n : Int} (hs : CtR.shape p d a = true) (h : isN a n = true) : a = cE n := by
 simp only [isN, Bool.and_eq_true, beq_iff_eq] at h
 obtain ⟨x, rfl, _⟩ := isC_form hs (by simp [isC, h.1])
 rw [← h.2]; rfl
theorem cnt_up {p : Pg} : ∀ (d : Nat) (e : Ex), CtR.shape p d e = true → cnt (d + 1) e = cnt d e
 | 0, _, h => by simp [CtR.shape] at h
 | d + 1, .mk k v ks, h => by
  obtain ⟨g1, g2, g3⟩ := shape_succ h
  have e1 : (ks.map (cnt (d + 1))) = ks.map (cnt d) := List.map_congr_left fun x hx => cnt_up d x (g2 x hx)
  rw [cnt, cnt, e1]
theorem fold_atom {p : Pg} {d d' : Nat} {a : Ex} (hs : CtR.shape p d a = true) (ha : atom a = true) : foldE d' a = a := by
 obtain ⟨k, v, rfl, hk⟩ := atom_mk hs ha
 match d' with
 | 0 => rfl
 | d' + 1 => rfl
theorem quiet_ev {p : Pg} {m : Mm} : ∀ (d : Nat) (e : Ex), CtR.shape p d e = true → quietE d e = true → (evalE m d e).2 = []
 | 0, _, h, _ => by simp [CtR.shape] at h
 | d + 1, .mk k v ks, h, hq => by
  obtain ⟨g1, g2, g3⟩ := shape_succ h
  simp only [quietE, Bool.and_eq_true, List.all_eq_true, Bool.not_eq_true', beq_eq_false_iff_ne] at hq
  have e2 : (ks.map fun e => (evalE m d e).2).flatten = [] := by
   rw [List.flatten_eq_nil_iff]
   intro l hl
   obtain ⟨x, hx, rfl⟩ := List.mem_map.1 hl
   exact quiet_ev d x (g2 x hx) (hq.2 x hx)
  simp only [evalE, e2, hq.1, if_false]
  repeat' split
  all_goals rfl
theorem bin_c {p : Pg} {k a b : Int} (ha : 0 ≤ a ∧ a ≤ 255) (hb : 0 ≤ b ∧ b ≤ 255) : 0 ≤ bin k a b ∧ bin k a b ≤ 255 := bin_range ha hb
theorem binN_ok {p : Pg} {m : Mm} (hm : MemFits p m) {d : Nat} {k v : Int} {a b : Ex} (hk : 4 ≤ k ∧ k ≤ 10) (ha : CtR.shape p d a = true) (hb : CtR.shape p d b = true) (h : CtR.shape p (d + 1) (.mk k v [a, b]) = true) :
 evalE m (d + 1) (binN k v a b) = evalE m (d + 1) (.mk k v [a, b]) := by
 have ra := evalE_range hm d a ha
 have rb := evalE_range hm d b hb
 have hd : ∃ d', d = d' + 1 := by
  match d, ha with
  | 0, ha => simp [CtR.shape] at ha
  | d' + 1, _ => exact ⟨d', rfl⟩
 obtain ⟨d', rfl⟩ := hd
 have hE : evalE m (d' + 1 + 1) (.mk k v [a, b]) = (bin k (evalE m (d' + 1) a).1 (evalE m (d' + 1) b).1, (evalE m (d' + 1) a).2 ++ (evalE m (d' + 1) b).2) := by
  rw [evalE]; simp [show k ≠ 1 by omega, show k ≠ 2 by omega, show k ≠ 3 by omega, show k ≠ 11 by omega]
 have ua := evalE_up (m := m) _ a ha
 have ub := evalE_up (m := m) _ b hb
 unfold binN
 split
 ·rename_i hc
  simp only [Bool.and_eq_true] at hc
  obtain ⟨x, rfl, _⟩ := isC_form ha hc.1
  obtain ⟨y, rfl, _⟩ := isC_form hb hc.2
  rw [hE, eval_c, eval_c, eval_c]; rfl
 split
 ·rename_i _ hc
  rw [hE, ub]
  simp only [Bool.or_eq_true, Bool.and_eq_true, beq_iff_eq] at hc
  rcases hc with ⟨hk, hn⟩ | ⟨hk, hn⟩
  ·rw [isN_form ha hn, eval_c]
   refine Prod.ext ?_ rfl
   rcases hk with rfl | rfl
   ·simp [bin]; omega
   ·simp [bin]; omega
  ·rw [isN_form ha hn, eval_c]
   refine Prod.ext ?_ rfl
   subst hk
   simp [bin]; omega
 split
 ·rename_i _ _ hc
  rw [hE, ua]
  simp only [Bool.or_eq_true, Bool.and_eq_true, beq_iff_eq] at hc
  rcases hc with ⟨hk, hn⟩ | ⟨hk, hn⟩
  ·rw [isN_form hb hn, eval_c]
   refine Prod.ext ?_ (by simp)
   rcases hk with (rfl | rfl) | rfl
   ·simp [bin]; omega
   ·simp [bin]; omega
   ·simp [bin]; omega
  ·rw [isN_form hb hn, eval_c]
   refine Prod.ext ?_ (by simp)
   subst hk
   simp [bin]; omega
 ·rfl
theorem binN_shape {p : Pg} {d : Nat} {k v : Int} {a b : Ex} (ha : CtR.shape p d a = true) (hb : CtR.shape p d b = true) (h : CtR.shape p (d + 1) (.mk k v [a, b]) = true) :
 CtR.shape p (d + 1) (binN k v a b) = true ∧ cnt (d + 1) (binN k v a b) ≤ 1 + cnt d a + cnt d b := by
 have ua := cnt_up d a ha
 have ub := cnt_up d b hb
 unfold binN
 split
 ·rename_i hc
  simp only [Bool.and_eq_true] at hc
  obtain ⟨x, rfl, hx⟩ := isC_form ha hc.1
  obtain ⟨y, rfl, hy⟩ := isC_form hb hc.2
  have := bin_c (p := p) (k := k) hx hy
  exact ⟨shape_c this.1 this.2, by simp [cnt, cE]; omega⟩
 split
 ·exact ⟨shape_up d b hb, by omega⟩
 split
 ·exact ⟨shape_up d a ha, by omega⟩
 ·exact ⟨h, by simp [cnt]; omega⟩
theorem selN_ok {p : Pg} {m : Mm} {d : Nat} {v : Int} {a b c : Ex} (ha : CtR.shape p d a = true) (hb : CtR.shape p d b = true) (hc : CtR.shape p d c = true) :
 evalE m (d + 1) (selN d v a b c) = evalE m (d + 1) (.mk 11 v [a, b, c]) := by
 have hd : ∃ d', d = d' + 1 := by
  match d, ha with
  | 0, ha => simp [CtR.shape] at ha
  | d' + 1, _ => exact ⟨d', rfl⟩
 obtain ⟨d', rfl⟩ := hd
 have hE : evalE m (d' + 1 + 1) (.mk 11 v [a, b, c]) = (if (evalE m (d' + 1) a).1 ≠ 0 then (evalE m (d' + 1) b).1 else (evalE m (d' + 1) c).1, (evalE m (d' + 1) a).2 ++ ((evalE m (d' + 1) b).2 ++ (evalE m (d' + 1) c).2)) := by
  rw [evalE]; simp
 unfold selN
 split
 ·rename_i hq
  simp only [Bool.and_eq_true] at hq
  obtain ⟨x, rfl, _⟩ := isC_form ha hq.1.1
  have qb := quiet_ev (m := m) _ b hb hq.1.2
  have qc := quiet_ev (m := m) _ c hc hq.2
  rw [hE, eval_c, qb, qc]
  have hx : (cE x).value = x := rfl
  rw [hx]
  by_cases h0 : x ≠ 0
  ·rw [if_pos h0, if_pos h0, evalE_up _ b hb]
   exact Prod.ext rfl (by rw [qb]; rfl)
  ·rw [if_neg h0, if_neg h0, evalE_up _ c hc]
   exact Prod.ext rfl (by rw [qc]; rfl)
 ·rfl
theorem selN_shape {p : Pg} {d : Nat} {v : Int} {a b c : Ex} (ha : CtR.shape p d a = true) (hb : CtR.shape p d b = true) (hc : CtR.shape p d c = true) (h : CtR.shape p (d + 1) (.mk 11 v [a, b, c]) = true) :
 CtR.shape p (d + 1) (selN d v a b c) = true ∧ cnt (d + 1) (selN d v a b c) ≤ 1 + cnt d a + cnt d b + cnt d c := by
 have ub := cnt_up d b hb
 have uc := cnt_up d c hc
 unfold selN
 split
 ·split
  ·exact ⟨shape_up d b hb, by omega⟩
  ·exact ⟨shape_up d c hc, by omega⟩
 ·exact ⟨h, by simp [cnt]; omega⟩
theorem fold_shape {p : Pg} : ∀ (d : Nat) (e : Ex), CtR.shape p d e = true → CtR.shape p d (foldE d e) = true ∧ cnt d (foldE d e) ≤ cnt d e
 | 0, _, h => by simp [CtR.shape] at h
 | d + 1, .mk k v ks, h => by
  obtain ⟨g1, g2, g3⟩ := shape_succ h
  rcases shape_form h with ⟨hk, rfl⟩ | ⟨a, rfl, rfl, ha, hat⟩ | ⟨a, b, h4, h10, rfl, ha, hb⟩ | ⟨a, b, c, rfl, rfl, ha, hb, hc⟩
  ·exact ⟨h, Nat.le_refl _⟩
  ·have : foldE (d + 1) (.mk 3 v [a]) = .mk 3 v [a] := by simp [foldE, foldN, fold_atom ha hat]
   rw [this]; exact ⟨h, Nat.le_refl _⟩
  ·have ia := fold_shape d a ha
   have ib := fold_shape d b hb
   have := binN_shape (v := v) (k := k) ia.1 ib.1 (shape_of (by simpa using g1) (by simp [ia.1, ib.1]) (fun h => by omega))
   refine ⟨by simpa [foldE, foldN] using this.1, ?_⟩
   simp only [foldE, foldN, List.map_cons, List.map_nil]
   refine Nat.le_trans this.2 ?_
   simp [cnt]; omega
  ·have ia := fold_shape d a ha
   have ib := fold_shape d b hb
   have ic := fold_shape d c hc
   have := selN_shape (v := v) ia.1 ib.1 ic.1 (shape_of (by simpa using g1) (by simp [ia.1, ib.1, ic.1]) (fun h => by omega))
   refine ⟨by simpa [foldE, foldN] using this.1, ?_⟩
   simp only [foldE, foldN, List.map_cons, List.map_nil]
   refine Nat.le_trans this.2 ?_
   simp [cnt]; omega
theorem fold_eval {p : Pg} {m : Mm} (hm : MemFits p m) : ∀ (d : Nat) (e : Ex), CtR.shape p d e = true → evalE m d (foldE d e) = evalE m d e
 | 0, _, h => by simp [CtR.shape] at h
 | d + 1, .mk k v ks, h => by
  obtain ⟨g1, g2, g3⟩ := shape_succ h
  rcases shape_form h with ⟨hk, rfl⟩ | ⟨a, rfl, rfl, ha, hat⟩ | ⟨a, b, h4, h10, rfl, ha, hb⟩ | ⟨a, b, c, rfl, rfl, ha, hb, hc⟩
  ·rfl
  ·have : foldE (d + 1) (.mk 3 v [a]) = .mk 3 v [a] := by simp [foldE, foldN, fold_atom ha hat]
   rw [this]
  ·have ia := fold_shape d a ha
   have ib := fold_shape d b hb
   have ea := fold_eval hm d a ha
   have eb := fold_eval hm d b hb
   have := binN_ok hm (v := v) (k := k) ⟨h4, h10⟩ ia.1 ib.1 (shape_of (by simpa using g1) (by simp [ia.1, ib.1]) (fun h => by omega))
   simp only [foldE, foldN, List.map_cons, List.map_nil]
   rw [this, evalE, evalE]
   simp only [List.map_cons, List.map_nil, ea, eb]
  ·have ia := fold_shape d a ha
   have ib := fold_shape d b hb
   have ic := fold_shape d c hc
   have ea := fold_eval hm d a ha
   have eb := fold_eval hm d b hb
   have ec := fold_eval hm d c hc
   have := selN_ok (m := m) (v := v) ia.1 ib.1 ic.1
   simp only [foldE, foldN, List.map_cons, List.map_nil]
   rw [this, evalE, evalE]
   simp only [List.map_cons, List.map_nil, ea, eb, ec]
def foldL (f : St1 → List St1) (l : List St1) : List St1 := (l.map f).flatten
def foldC (k t : Int) (ix v : Ex) (c : Int) (b e : List St1) : List St1 :=
 if k == 3 && isC v then (if v.value ≠ 0 then b else e)
 else if k == 4 && c == 1 then b
 else if k == 4 && b.isEmpty then []
 else [.mk k t ix v c b e]
def foldV (k : Int) (v : Ex) : Ex := if k = 4 then v else foldE 5 v
def foldS : Nat → St1 → List St1
 | 0, _ => []
 | d + 1, .mk k t ix v c b e => foldC k t ix (foldV k v) c (foldL (foldS d) b) (foldL (foldS d) e)
def foldP (p : Pg) : Pg := ⟨p.vars, p.arrays, foldL (foldS 5) p.body⟩
theorem stmt_up {p : Pg} : ∀ (d : Nat) (s : St1), stmtOK p d s = true → stmtOK p (d + 1) s = true
 | 0, _, h => by simp [stmtOK] at h
 | d + 1, .mk k t ix v c b e, h => by
  obtain ⟨hh, hb, he⟩ := stmtOK_succ h
  rw [stmtOK]
  simp only [Bool.and_eq_true, List.all_eq_true]
  exact ⟨⟨hh, fun x hx => stmt_up d x (hb x hx)⟩, fun x hx => stmt_up d x (he x hx)⟩
theorem size_up {p : Pg} : ∀ (d : Nat) (s : St1), stmtOK p d s = true → tsize (d + 1) s = tsize d s
 | 0, _, h => by simp [stmtOK] at h
 | d + 1, .mk k t ix v c b e, h => by
  obtain ⟨hh, hb, he⟩ := stmtOK_succ h
  have e1 : b.map (tsize (d + 1)) = b.map (tsize d) := List.map_congr_left fun x hx => size_up d x (hb x hx)
  have e2 : e.map (tsize (d + 1)) = e.map (tsize d) := List.map_congr_left fun x hx => size_up d x (he x hx)
  rw [tsize, tsize, e1, e2]
theorem lsize_up {p : Pg} {d : Nat} {l : List St1} (h : ∀ s ∈ l, stmtOK p d s = true) : lsize (d + 1) l = lsize d l := by
 unfold lsize
 rw [List.map_congr_left fun x hx => size_up d x (h x hx)]
theorem right_fold {p : Pg} {v : Ex} (h : right p v = true) : right p (foldE 5 v) = true := by
 have hs := right_shape h
 have := fold_shape 5 v hs.1
 simp only [right, Bool.and_eq_true, decide_eq_true_eq]
 exact ⟨this.1, by omega⟩
theorem head_fold {p : Pg} {k t : Int} {ix v : Ex} {c : Int} {bn en bn' en' : Nat} (h : headOK p k t ix v c bn en = true) (hb : bn = 0 → bn' = 0) (he : en = 0 → en' = 0) : headOK p k t ix (foldV k v) c bn' en' = true := by
 have hr := right_fold (p := p) (v := v)
 unfold foldV
 simp only [headOK, Bool.and_eq_true] at h ⊢
 obtain ⟨h1, h2⟩ := h
 by_cases k4 : k = 4
 ·subst k4
  simp only [parts, blk] at h1 ⊢
  simp at h1 ⊢
  exact ⟨h1.1, ⟨⟨⟨he h1.2.1.1.1.1, h1.2.1.1.1.2⟩, h1.2.1.1.2⟩, h1.2.1.2⟩, h1.2.2⟩
 ·simp only [if_neg k4]
  refine ⟨?_, ?_⟩
  ·unfold parts at h1 ⊢
   simp only [if_neg k4] at h1 ⊢
   simp only [Bool.and_eq_true] at h1 ⊢
   refine ⟨?_, h1.2⟩
   have := h1.1
   cases hk : blk k with
   | true => simpa [hk] using this
   | false =>
    simp [hk] at this ⊢
    exact ⟨hb this.1, he this.2⟩
  ·by_cases k1 : k = 1 ∨ k = 5
   ·rw [if_pos k1] at h2 ⊢
    simp only [Bool.and_eq_true] at h2 ⊢
    exact ⟨h2.1, hr h2.2⟩
   ·rw [if_neg k1] at h2 ⊢
    by_cases k2 : k = 2
    ·rw [if_pos k2] at h2 ⊢
     simp only [Bool.and_eq_true] at h2 ⊢
     exact ⟨h2.1, hr h2.2⟩
    ·rw [if_neg k2] at h2 ⊢
     by_cases k3 : k = 3
     ·rw [if_pos k3] at h2 ⊢; exact hr h2
     ·rw [if_neg k3] at h2 ⊢; exact h2
theorem foldL_cons (f : St1 → List St1) (a : St1) (r : List St1) : foldL f (a :: r) = f a ++ foldL f r := by simp [foldL]
theorem foldL_ok {p : Pg} {d : Nat} : ∀ (l : List St1), (∀ s ∈ l, (∀ x ∈ foldS d s, stmtOK p d x = true) ∧ lsize d (foldS d s) ≤ tsize d s) → (∀ x ∈ foldL (foldS d) l, stmtOK p d x = true) ∧ lsize d (foldL (foldS d) l) ≤ lsize d l
 | [], _ => ⟨by simp [foldL], by simp [foldL, lsize]⟩
 | a :: r, h => by
  have h1 := h a (by simp)
  have h2 := foldL_ok r fun s hs => h s (by simp [hs])
  rw [foldL_cons]
  refine ⟨fun x hx => (List.mem_append.1 hx).elim (h1.1 x) (h2.1 x), ?_⟩
  rw [lsize_app]
  have : lsize d (a :: r) = tsize d a + lsize d r := by simp [lsize]
  omega
theorem fold_stmt {p : Pg} : ∀ (d : Nat) (s : St1), stmtOK p d s = true → (∀ x ∈ foldS d s, stmtOK p d x = true) ∧ lsize d (foldS d s) ≤ tsize d s
 | 0, _, h => by simp [stmtOK] at h
 | d + 1, .mk k t ix v c b e, h => by
  obtain ⟨hh, hb, he⟩ := stmtOK_succ h
  have gb := foldL_ok b fun s hs => fold_stmt d s (hb s hs)
  have ge := foldL_ok e fun s hs => fold_stmt d s (he s hs)
  have hd := head_fold (bn' := (foldL (foldS d) b).length) (en' := (foldL (foldS d) e).length) hh (fun h => by rw [List.length_eq_zero_iff.1 h]; rfl) (fun h => by rw [List.length_eq_zero_iff.1 h]; rfl)
  have hts : tsize (d + 1) (.mk k t ix v c b e) = 1 + lsize d b + lsize d e := rfl
  rw [foldS, hts]
  generalize foldL (foldS d) b = b' at *
  generalize foldL (foldS d) e = e' at *
  have ub := lsize_up gb.1
  have ue := lsize_up ge.1
  have sb : ∀ x ∈ b', stmtOK p (d + 1) x = true := fun x hx => stmt_up d x (gb.1 x hx)
  have se : ∀ x ∈ e', stmtOK p (d + 1) x = true := fun x hx => stmt_up d x (ge.1 x hx)
  unfold foldC
  split
  ·split
   ·exact ⟨sb, by omega⟩
   ·exact ⟨se, by omega⟩
  split
  ·exact ⟨sb, by omega⟩
  split
  ·exact ⟨by simp, by simp [lsize]⟩
  ·refine ⟨fun x hx => ?_, ?_⟩
   ·rw [List.mem_singleton.1 hx, stmtOK]
    simp only [Bool.and_eq_true, List.all_eq_true]
    exact ⟨⟨hd, gb.1⟩, ge.1⟩
   ·have : lsize (d + 1) [St1.mk k t ix (foldV k v) c b' e'] = 1 + lsize d b' + lsize d e' := by simp [lsize, tsize]
    omega
theorem fold_valid {p : Pg} (h : progOK p = true) : progOK (foldP p) = true := by
 obtain ⟨vs, ar, bd⟩ := p
 have hb := body_of h
 have := foldL_ok bd fun s hs => fold_stmt 5 s (hb.1 s hs)
 simp only [progOK, Bool.and_eq_true, decide_eq_true_eq, List.all_eq_true] at h ⊢
 refine ⟨⟨h.1.1, fun s hx => ?_⟩, ?_⟩
 ·show stmtOK ⟨vs, ar, foldL (foldS 5) bd⟩ 5 s = true
  rw [stmtOK_bd vs ar _ bd]; exact this.1 s hx
 ·have h2 : lsize 5 (foldP ⟨vs, ar, bd⟩).body ≤ lsize 5 bd := this.2
  omega
def prj (l : List Ev) : List Ev := l.filter fun e => decide (2 ≤ e.kind) && decide (e.kind ≤ 4)
theorem prj_app (a b : List Ev) : prj (a ++ b) = prj a ++ prj b := by simp [prj]
def Eqp (x y : Mm × List Ev) : Prop := x.1 = y.1 ∧ prj x.2 = prj y.2
theorem Eqp.rfl (x : Mm × List Ev) : Eqp x x := ⟨Eq.refl _, Eq.refl _⟩
theorem foldL_run {p : Pg} {f g : Mm → St1 → Mm × List Ev} {F : St1 → List St1} : ∀ (l : List St1) (m : Mm), MemFits p m → (∀ s ∈ l, ∀ m, MemFits p m → MemFits p (g m s).1) → (∀ s ∈ l, ∀ m, MemFits p m → Eqp (foldR f m (F s)) (g m s)) → Eqp (foldR f m (foldL F l)) (foldR g m l)
 | [], m, _, _, _ => Eqp.rfl _
 | a :: r, m, hm, hg, h => by
  have h1 := h a (by simp) m hm
  have h2 := foldL_run r (g m a).1 (hg a (by simp) m hm) (fun s hs => hg s (by simp [hs])) (fun s hs => h s (by simp [hs]))
  rw [foldL_cons, foldR_app]
  simp only [foldR]
  rw [h1.1]
  exact ⟨h2.1, by simp only [prj_app, h1.2, h2.2]⟩
theorem iter_run {p : Pg} {f g : Mm → Mm × List Ev} (hg : ∀ m, MemFits p m → MemFits p (g m).1) (h : ∀ m, MemFits p m → Eqp (f m) (g m)) : ∀ (n : Nat) (m : Mm), MemFits p m → Eqp (iterR f n m) (iterR g n m) ∧ MemFits p (iterR g n m).1
 | 0, m, hm => ⟨Eqp.rfl _, hm⟩
 | n + 1, m, hm => by
  obtain ⟨h1, h2⟩ := iter_run hg h n m hm
  have h3 := h _ h2
  simp only [iterR]
  rw [h1.1]
  exact ⟨⟨h3.1, by simp only [prj_app, h1.2, h3.2]⟩, hg _ h2⟩
theorem iter_nil' {f : Mm → St1 → Mm × List Ev} (n : Nat) (m : Mm) : iterR (fun m => foldR f m []) n m = (m, []) := by
 induction n with
 | zero => rfl
 | succ n ih => simp only [iterR, ih]; rfl
theorem foldV_eval {p : Pg} {m : Mm} (hm : MemFits p m) {k : Int} {v : Ex} (h : right p v = true) : evalE m 5 (foldV k v) = evalE m 5 v := by
 unfold foldV
 split
 ·rfl
 ·exact fold_eval hm 5 v (right_shape h).1
theorem foldR_one2 (f : Mm → St1 → Mm × List Ev) (m : Mm) (s : St1) : foldR f m [s] = ((f m s).1, (f m s).2 ++ []) := rfl
theorem fold_run {p : Pg} : ∀ (d : Nat) (s : St1) (m : Mm), MemFits p m → stmtOK p d s = true → Eqp (foldR (runS d) m (foldS d s)) (runS d m s)
 | 0, _, _, _, h => by simp [stmtOK] at h
 | d + 1, .mk k t ix v c b e, m, hm, h => by
  obtain ⟨hh, hb, he⟩ := stmtOK_succ h
  have gb := (foldL_ok b fun s hs => fold_stmt d s (hb s hs)).1
  have ge := (foldL_ok e fun s hs => fold_stmt d s (he s hs)).1
  have rb : ∀ m, MemFits p m → Eqp (foldR (runS d) m (foldL (foldS d) b)) (foldR (runS d) m b) := fun m hm => foldL_run b m hm (fun s hs m hm => (runS_ok d m s hm (hb s hs)).1) fun s hs m hm => fold_run d s m hm (hb s hs)
  have re : ∀ m, MemFits p m → Eqp (foldR (runS d) m (foldL (foldS d) e)) (foldR (runS d) m e) := fun m hm => foldL_run e m hm (fun s hs m hm => (runS_ok d m s hm (he s hs)).1) fun s hs m hm => fold_run d s m hm (he s hs)
  have kb : ∀ m, MemFits p m → MemFits p (foldR (runS d) m b).1 := fun m hm => (runL_ok hm hb).1
  have ub : ∀ m, foldR (runS (d + 1)) m (foldL (foldS d) b) = foldR (runS d) m (foldL (foldS d) b) := fun m => runL_more (m := m) gb
  have ue : ∀ m, foldR (runS (d + 1)) m (foldL (foldS d) e) = foldR (runS d) m (foldL (foldS d) e) := fun m => runL_more (m := m) ge
  rw [foldS]
  have hcases := head_kind hh
  generalize hB : foldL (foldS d) b = b' at *
  generalize hE : foldL (foldS d) e = e' at *
  rcases hcases with ⟨hk, ht0, ht1, hr⟩ | ⟨hk, ht0, ht1, hri, hai, hr⟩ | ⟨hk, hr⟩ | ⟨hk, hc1, hc3⟩
  ·have hv := foldV_eval hm (k := k) hr
   have n3 : (k == 3) = false := by rcases hk with rfl | rfl <;> rfl
   have n4 : (k == 4) = false := by rcases hk with rfl | rfl <;> rfl
   simp only [foldC, n3, n4, Bool.false_and, Bool.false_eq_true, if_false, foldR_one2]
   rcases hk with rfl | rfl
   ·simp only [runS, Int.reduceEq, if_false, if_true, hv, List.append_nil]; exact Eqp.rfl _
   ·simp only [runS, Int.reduceEq, if_false, if_true, hv, List.append_nil]; exact Eqp.rfl _
  ·have hv := foldV_eval hm (k := k) hr
   subst hk
   simp only [foldC, foldR_one2, show ((2 : Int) == 3) = false from rfl, show ((2 : Int) == 4) = false from rfl, Bool.false_and, Bool.false_eq_true, if_false]
   simp only [runS, Int.reduceEq, if_false, if_true, hv, List.append_nil]; exact Eqp.rfl _
  ·have hv := foldV_eval hm (k := k) hr
   subst hk
   have hsh := (right_shape (right_fold hr)).1
   have hf : foldV 3 v = foldE 5 v := rfl
   simp only [foldC, show ((3 : Int) == 3) = true from rfl, show ((3 : Int) == 4) = false from rfl, Bool.true_and, Bool.false_and, Bool.false_eq_true, if_false]
   by_cases hc : isC (foldV 3 v) = true
   ·obtain ⟨x, hx, _⟩ := isC_form (by rw [hf]; exact hsh) hc
    rw [if_pos hc]
    have hev : evalE m 5 v = (x, []) := by rw [← hv, hx, eval_c]
    have hval : (foldV 3 v).value = x := by rw [hx]; rfl
    rw [hval]
    simp only [runS, Int.reduceEq, if_false, hev, List.nil_append]
    by_cases h0 : x ≠ 0
    ·rw [if_pos h0, if_pos h0, ub]
     have := rb m hm
     exact ⟨this.1, by rw [this.2, prj_app]; rfl⟩
    ·rw [if_neg h0, if_neg h0, ue]
     have := re m hm
     exact ⟨this.1, by rw [this.2, prj_app]; rfl⟩
   ·rw [if_neg hc]
    simp only [foldR_one2, runS, Int.reduceEq, if_false, hv, List.append_nil]
    have h1 := rb m hm
    have h2 := re m hm
    split
    ·exact ⟨h1.1, by simp only [prj_app, h1.2]⟩
    ·exact ⟨h2.1, by simp only [prj_app, h2.2]⟩
  ·subst hk
   have hit := iter_run (f := fun m => foldR (runS d) m b') (g := fun m => foldR (runS d) m b) kb rb c.toNat m hm
   simp only [foldC, show ((4 : Int) == 3) = false from rfl, show ((4 : Int) == 4) = true from rfl, Bool.true_and, Bool.false_and, Bool.false_eq_true, if_false]
   have hrun : runS (d + 1) m (.mk 4 t ix v c b e) = iterR (fun m => foldR (runS d) m b) c.toNat m := by simp only [runS, if_true]
   rw [hrun]
   by_cases h1 : c = 1
   ·subst h1
    simp only [beq_self_eq_true, if_true]
    rw [ub]
    have := hit.1
    simp only [show (1 : Int).toNat = 1 from rfl, iterR, List.nil_append] at this ⊢
    exact this
   ·rw [if_neg (by simpa using h1)]
    by_cases h2 : b'.isEmpty = true
    ·rw [if_pos h2]
     have hb0 : b' = [] := by simpa using h2
     rw [hb0, iter_nil'] at hit
     exact hit.1
    ·rw [if_neg h2, foldR_one2]
     simp only [runS, if_true, List.append_nil]
     exact hit.1
theorem fold_prog {p : Pg} {m : Mm} (h1 : progOK p = true) (h2 : memOK p.vars p.arrays m = true) : Eqp (runL 5 m (foldP p).body) (runL 5 m p.body) := by
 have hb := body_of h1
 exact foldL_run p.body m (memFits_of (by rw [h1, h2]; rfl)) (fun s hs m hm => (runS_ok 5 m s hm (hb.1 s hs)).1) fun s hs m hm => fold_run 5 s m hm (hb.1 s hs)
end Go.Proofs.YtjjjidcbokbhpaaGreat.CtL
