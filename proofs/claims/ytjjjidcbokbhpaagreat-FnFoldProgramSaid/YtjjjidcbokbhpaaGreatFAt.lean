/- Contracts of functions of the program, one behind the other, as plain data: what each call returns and which blocks it leaves. -/
import Derived.Test.YtjjjidcbokbhpaaGreatFFacts
import Derived.Test.YtjjjidcbokbhpaaGreatFAi
import Derived.Test.YtjjjidcbokbhpaaGreatFAj
import Derived.Test.YtjjjidcbokbhpaaGreatFAn
import Derived.Test.YtjjjidcbokbhpaaGreatFAr
import Derived.Test.YtjjjidcbokbhpaaGreatFAs
import Derived.Test.YtjjjidcbokbhpaaGreatFAl
import Derived.Test.YtjjjidcbokbhpaaGreatFAq
set_option linter.unusedVariables false
set_option linter.unusedSimpArgs false
set_option maxHeartbeats 16000000
set_option maxRecDepth 100000
namespace Go.Proofs.YtjjjidcbokbhpaaGreat.CtD
open Go Go.CT CtF CtR
open CtL (quietE isC isN binN selN foldN foldE cE)

theorem nodeB {p : Pg} {d : Nat} (k v : Int) (a b : Ex) (hk4 : 4 ≤ k) (hk10 : k ≤ 10) (ha : CtR.shape p d a = true) (hb : CtR.shape p d b = true) :
    DC Tryz.prog 182 [.agg (Ex.cells (.mk k v [a, b]))] [] (fun r h => r = .agg (binN k v a b).cells ∧ h = []) := by
  have hmx := mx_eq
  have ret : ∀ (e : Ex) (cs : List C) (hp : Hp), e = binN k v a b → cs = e.cells → RetOb 0 (fun r h => r = .agg (binN k v a b).cells ∧ h = []) (.agg cs) hp := fun e cs hp h hc => RetOb.kfA ⟨by rw [hc, h], rfl⟩ (by rw [hc]; exact ex_kf e)
  generalize hR : (fun (r : D) (h : List (Option (List C))) => r = .agg (binN k v a b).cells ∧ h = []) = R at ret ⊢
  clear hR
  have kc := fun h => CtL.isC_form ha h
  have kc2 := fun h => CtL.isC_form hb h
  have ka0 := l8Known a 0
  have ka1 := l8Known a 1
  have kb0 := l8Known b 0
  have kb1 := l8Known b 1
  have n11 : (k = 11) = False := eq_false (by omega)
  have m11 : (k == 11) = false := by simp; omega
  have lt4 : (k < 4) = False := eq_false (by omega)
  obtain ⟨ak, av, az⟩ := a
  obtain ⟨bk, bv, bz⟩ := b
  by_cases hc : ak = 1 ∧ bk = 1
  · obtain ⟨rfl, rfl⟩ := hc
    obtain ⟨x, hx, x0, x1⟩ := kc rfl
    obtain ⟨y, hy, y0, y1⟩ := kc2 rfl
    cases hx; cases hy
    have hop := CtR.l3Bin k av bv ⟨x0, x1⟩ ⟨y0, y1⟩
    have hcs := constS (bin k av bv)
    simp only [cE, Ex.cells, Ex.cellsL] at hcs
    refine dcZ Tryz.func182 ?_
    simp (maxSteps := 9999999) only [go_sem, Ex.cellsL, n11, m11, lt4]
    iterate 8 ((try (refine drvZ Tryz.func182 ?_; simp (maxSteps := 9999999) only [go_sem, Ex.cellsL, n11, m11, lt4])); (try ((with_reducible refine And.intro ?_ ?_) <;> (repeat' with_reducible apply And.intro) <;> try exact sd)); (try first | refine XK.p hop ok231 ?_ | refine XK.gp hop ok231 ?_ | refine XK.p hcs ok45 ?_ | refine XK.gp hcs ok45 ?_))
    exact ret (cE (bin k av bv)) _ _ (by simp [binN, isC, Ex.kind, Ex.value, CtL.cE]) (by simp [cE, Ex.cells, Ex.cellsL])
  have hcb : (ak == 1 && bk == 1) = false := by simpa using hc
  have hb0 : (isC (.mk ak av az) && isC (.mk bk bv bz)) = false := hcb
  by_cases h48 : k = 4 ∨ k = 8
  · have hS : (k == 4 || k == 8) = true := by simpa using h48
    have e6 : (k == 6) = false := by simp; omega
    have f6 : (k = 6) = False := eq_false (by omega)
    have e5 : (k == 5) = false := by simp; omega
    cases hn : isN (.mk ak av az) 0 with
    | true =>
      rw [hn] at ka0
      refine dcZ Tryz.func182 ?_
      simp (maxSteps := 9999999) only [go_sem, Ex.cellsL, n11, m11, lt4, hcb, hS, e6, f6]
      iterate 16 ((try (refine drvZ Tryz.func182 ?_; simp (maxSteps := 9999999) only [go_sem, Ex.cellsL, n11, m11, lt4, hcb, hS, e6, f6])); (try ((with_reducible refine And.intro ?_ ?_) <;> (repeat' with_reducible apply And.intro) <;> try exact sd)); (try first | refine XK.p ka0 ok232 ?_ | refine XK.gp ka0 ok232 ?_ | refine XK.gs (DB false) ?_))
      exact ret (.mk bk bv bz) _ _ (by simp [binN, hb0, hn, hS]) (by simp [Ex.cells, Ex.cellsL])
    | false =>
      rw [hn] at ka0
      cases hm : isN (.mk bk bv bz) 0 with
      | true =>
        rw [hm] at kb0
        refine dcZ Tryz.func182 ?_
        simp (maxSteps := 9999999) only [go_sem, Ex.cellsL, n11, m11, lt4, hcb, hS, e6, f6]
        iterate 16 ((try (refine drvZ Tryz.func182 ?_; simp (maxSteps := 9999999) only [go_sem, Ex.cellsL, n11, m11, lt4, hcb, hS, e6, f6])); (try ((with_reducible refine And.intro ?_ ?_) <;> (repeat' with_reducible apply And.intro) <;> try exact sd)); (try first | refine XK.p ka0 ok232 ?_ | refine XK.gp ka0 ok232 ?_ | refine XK.p kb0 ok232 ?_ | refine XK.gp kb0 ok232 ?_ | refine XK.gs (DB false) ?_))
        exact ret (.mk ak av az) _ _ (by simp [binN, hb0, hn, hm, hS, e6]) (by simp [Ex.cells, Ex.cellsL])
      | false =>
        rw [hm] at kb0
        refine dcZ Tryz.func182 ?_
        simp (maxSteps := 9999999) only [go_sem, Ex.cellsL, n11, m11, lt4, hcb, hS, e6, f6]
        iterate 16 ((try (refine drvZ Tryz.func182 ?_; simp (maxSteps := 9999999) only [go_sem, Ex.cellsL, n11, m11, lt4, hcb, hS, e6, f6])); (try ((with_reducible refine And.intro ?_ ?_) <;> (repeat' with_reducible apply And.intro) <;> try exact sd)); (try first | refine XK.p ka0 ok232 ?_ | refine XK.gp ka0 ok232 ?_ | refine XK.p kb0 ok232 ?_ | refine XK.gp kb0 ok232 ?_ | refine XK.gs (DB false) ?_))
        exact ret (.mk k v [.mk ak av az, .mk bk bv bz]) _ _ (by simp [binN, hb0, hn, hm, hS, e6]) (by simp [Ex.cells, Ex.cellsL])
  by_cases h6 : k = 6
  · subst h6
    cases hn : isN (.mk ak av az) 1 with
    | true =>
      rw [hn] at ka1
      refine dcZ Tryz.func182 ?_
      simp (maxSteps := 9999999) only [go_sem, Ex.cellsL, n11, m11, lt4, hcb]
      iterate 16 ((try (refine drvZ Tryz.func182 ?_; simp (maxSteps := 9999999) only [go_sem, Ex.cellsL, n11, m11, lt4, hcb])); (try ((with_reducible refine And.intro ?_ ?_) <;> (repeat' with_reducible apply And.intro) <;> try exact sd)); (try first | refine XK.p ka1 ok232 ?_ | refine XK.gp ka1 ok232 ?_ | refine XK.gs (DB false) ?_))
      exact ret (.mk bk bv bz) _ _ (by simp [binN, hb0, hn]) (by simp [Ex.cells, Ex.cellsL])
    | false =>
      rw [hn] at ka1
      cases hm : isN (.mk bk bv bz) 1 with
      | true =>
        rw [hm] at kb1
        refine dcZ Tryz.func182 ?_
        simp (maxSteps := 9999999) only [go_sem, Ex.cellsL, n11, m11, lt4, hcb]
        iterate 16 ((try (refine drvZ Tryz.func182 ?_; simp (maxSteps := 9999999) only [go_sem, Ex.cellsL, n11, m11, lt4, hcb])); (try ((with_reducible refine And.intro ?_ ?_) <;> (repeat' with_reducible apply And.intro) <;> try exact sd)); (try first | refine XK.p ka1 ok232 ?_ | refine XK.gp ka1 ok232 ?_ | refine XK.p kb1 ok232 ?_ | refine XK.gp kb1 ok232 ?_ | refine XK.gs (DB false) ?_))
        exact ret (.mk ak av az) _ _ (by simp [binN, hb0, hn, hm]) (by simp [Ex.cells, Ex.cellsL])
      | false =>
        rw [hm] at kb1
        refine dcZ Tryz.func182 ?_
        simp (maxSteps := 9999999) only [go_sem, Ex.cellsL, n11, m11, lt4, hcb]
        iterate 16 ((try (refine drvZ Tryz.func182 ?_; simp (maxSteps := 9999999) only [go_sem, Ex.cellsL, n11, m11, lt4, hcb])); (try ((with_reducible refine And.intro ?_ ?_) <;> (repeat' with_reducible apply And.intro) <;> try exact sd)); (try first | refine XK.p ka1 ok232 ?_ | refine XK.gp ka1 ok232 ?_ | refine XK.p kb1 ok232 ?_ | refine XK.gp kb1 ok232 ?_ | refine XK.gs (DB false) ?_))
        exact ret (.mk 6 v [.mk ak av az, .mk bk bv bz]) _ _ (by simp [binN, hb0, hn, hm]) (by simp [Ex.cells, Ex.cellsL])
  by_cases h5 : k = 5
  · subst h5
    cases hm : isN (.mk bk bv bz) 0 with
    | true =>
      rw [hm] at kb0
      refine dcZ Tryz.func182 ?_
      simp (maxSteps := 9999999) only [go_sem, Ex.cellsL, n11, m11, lt4, hcb]
      iterate 16 ((try (refine drvZ Tryz.func182 ?_; simp (maxSteps := 9999999) only [go_sem, Ex.cellsL, n11, m11, lt4, hcb])); (try ((with_reducible refine And.intro ?_ ?_) <;> (repeat' with_reducible apply And.intro) <;> try exact sd)); (try first | refine XK.p kb0 ok232 ?_ | refine XK.gp kb0 ok232 ?_ | refine XK.gs (DB false) ?_))
      exact ret (.mk ak av az) _ _ (by simp [binN, hb0, hm]) (by simp [Ex.cells, Ex.cellsL])
    | false =>
      rw [hm] at kb0
      refine dcZ Tryz.func182 ?_
      simp (maxSteps := 9999999) only [go_sem, Ex.cellsL, n11, m11, lt4, hcb]
      iterate 16 ((try (refine drvZ Tryz.func182 ?_; simp (maxSteps := 9999999) only [go_sem, Ex.cellsL, n11, m11, lt4, hcb])); (try ((with_reducible refine And.intro ?_ ?_) <;> (repeat' with_reducible apply And.intro) <;> try exact sd)); (try first | refine XK.p kb0 ok232 ?_ | refine XK.gp kb0 ok232 ?_ | refine XK.gs (DB false) ?_))
      exact ret (.mk 5 v [.mk ak av az, .mk bk bv bz]) _ _ (by simp [binN, hb0, hm]) (by simp [Ex.cells, Ex.cellsL])
  have e4 : (k == 4) = false := by simp; omega
  have e8 : (k == 8) = false := by simp; omega
  have e6 : (k == 6) = false := by simp; omega
  have e5 : (k == 5) = false := by simp; omega
  have f4 : (k = 4) = False := eq_false (by omega)
  have f8 : (k = 8) = False := eq_false (by omega)
  have f6 : (k = 6) = False := eq_false (by omega)
  have f5 : (k = 5) = False := eq_false (by omega)
  refine dcZ Tryz.func182 ?_
  simp (maxSteps := 9999999) only [go_sem, Ex.cellsL, n11, m11, lt4, hcb, e4, e8, e6, e5, f4, f8, f6, f5]
  iterate 16 ((try (refine drvZ Tryz.func182 ?_; simp (maxSteps := 9999999) only [go_sem, Ex.cellsL, n11, m11, lt4, hcb, e4, e8, e6, e5, f4, f8, f6, f5])); (try ((with_reducible refine And.intro ?_ ?_) <;> (repeat' with_reducible apply And.intro) <;> try exact sd)); (try first | refine XK.gs (DB false) ?_))
  exact ret (.mk k v [.mk ak av az, .mk bk bv bz]) _ _ (by simp [binN, hb0, e4, e5, e6, e8]) (by simp [Ex.cells, Ex.cellsL])
theorem nodeS3 {p : Pg} {d : Nat} (v : Int) (a b c : Ex) (hb : CtR.shape p d b = true) (hc : CtR.shape p d c = true) :
    DC Tryz.prog 182 [.agg (Ex.cells (.mk 11 v [a, b, c]))] [] (fun r h => r = .agg (selN d v a b c).cells ∧ h = []) := by
  have hmx := mx_eq
  have ret : ∀ (e : Ex) (cs : List C) (hp : Hp), e = selN d v a b c → cs = e.cells → RetOb 0 (fun r h => r = .agg (selN d v a b c).cells ∧ h = []) (.agg cs) hp := fun e cs hp h hc => RetOb.kfA ⟨by rw [hc, h], rfl⟩ (by rw [hc]; exact ex_kf e)
  generalize hR : (fun (r : D) (h : List (Option (List C))) => r = .agg (selN d v a b c).cells ∧ h = []) = R at ret ⊢
  clear hR
  have qb := l8Quiet d b p hb
  have qc := l8Quiet d c p hc
  obtain ⟨ak, av, az⟩ := a
  unfold selN at ret
  by_cases h1 : ak = 1
  · subst h1
    have i1 : isC (.mk 1 av az) = true := rfl
    have i2 : (Ex.mk 1 av az).value = av := rfl
    rw [i1, i2] at ret
    cases hqb : quietE d b with
    | false =>
      rw [hqb] at qb ret
      obtain ⟨bk, bv, bz⟩ := b
      obtain ⟨ck, cv, cz⟩ := c
      refine dcZ Tryz.func182 ?_
      simp (maxSteps := 9999999) only [go_sem, Ex.cellsL]
      iterate 8 ((try (refine drvZ Tryz.func182 ?_; simp (maxSteps := 9999999) only [go_sem, Ex.cellsL])); (try ((with_reducible refine And.intro ?_ ?_) <;> (repeat' with_reducible apply And.intro) <;> try exact sd)); (try first | refine XK.p qb ok230 ?_ | refine XK.gp qb ok230 ?_ | refine XK.gs (DB false) ?_))
      exact ret (.mk 11 v [.mk 1 av az, .mk bk bv bz, .mk ck cv cz]) _ _ (by simp) (by simp [Ex.cells, Ex.cellsL])
    | true =>
      rw [hqb] at qb ret
      cases hqc : quietE d c with
      | false =>
        rw [hqc] at qc ret
        obtain ⟨bk, bv, bz⟩ := b
        obtain ⟨ck, cv, cz⟩ := c
        refine dcZ Tryz.func182 ?_
        simp (maxSteps := 9999999) only [go_sem, Ex.cellsL]
        iterate 8 ((try (refine drvZ Tryz.func182 ?_; simp (maxSteps := 9999999) only [go_sem, Ex.cellsL])); (try ((with_reducible refine And.intro ?_ ?_) <;> (repeat' with_reducible apply And.intro) <;> try exact sd)); (try first | refine XK.p qb ok230 ?_ | refine XK.gp qb ok230 ?_ | refine XK.p qc ok230 ?_ | refine XK.gp qc ok230 ?_))
        exact ret (.mk 11 v [.mk 1 av az, .mk bk bv bz, .mk ck cv cz]) _ _ (by simp) (by simp [Ex.cells, Ex.cellsL])
      | true =>
        rw [hqc] at qc ret
        obtain ⟨bk, bv, bz⟩ := b
        obtain ⟨ck, cv, cz⟩ := c
        by_cases h0 : av = 0
        · subst h0
          refine dcZ Tryz.func182 ?_
          simp (maxSteps := 9999999) only [go_sem, Ex.cellsL]
          iterate 10 ((try (refine drvZ Tryz.func182 ?_; simp (maxSteps := 9999999) only [go_sem, Ex.cellsL])); (try ((with_reducible refine And.intro ?_ ?_) <;> (repeat' with_reducible apply And.intro) <;> try exact sd)); (try first | refine XK.p qb ok230 ?_ | refine XK.gp qb ok230 ?_ | refine XK.p qc ok230 ?_ | refine XK.gp qc ok230 ?_))
          exact ret (.mk ck cv cz) _ _ (by simp) (by simp [Ex.cells, Ex.cellsL])
        · have g0 : (av != 0) = true := by simp [h0]
          refine dcZ Tryz.func182 ?_
          simp (maxSteps := 9999999) only [go_sem, Ex.cellsL, g0, h0]
          iterate 10 ((try (refine drvZ Tryz.func182 ?_; simp (maxSteps := 9999999) only [go_sem, Ex.cellsL, g0, h0])); (try ((with_reducible refine And.intro ?_ ?_) <;> (repeat' with_reducible apply And.intro) <;> try exact sd)); (try first | refine XK.p qb ok230 ?_ | refine XK.gp qb ok230 ?_ | refine XK.p qc ok230 ?_ | refine XK.gp qc ok230 ?_))
          exact ret (.mk bk bv bz) _ _ (by simp [h0]) (by simp [Ex.cells, Ex.cellsL])
  · have i1 : isC (.mk ak av az) = false := by simp [isC, Ex.kind, h1]
    have g1 : (ak != 1) = true := by simp [h1]
    rw [i1] at ret
    obtain ⟨bk, bv, bz⟩ := b
    obtain ⟨ck, cv, cz⟩ := c
    refine dcZ Tryz.func182 ?_
    simp (maxSteps := 9999999) only [go_sem, Ex.cellsL, h1, g1]
    iterate 8 ((try (refine drvZ Tryz.func182 ?_; simp (maxSteps := 9999999) only [go_sem, Ex.cellsL, h1, g1])); (try ((with_reducible refine And.intro ?_ ?_) <;> (repeat' with_reducible apply And.intro) <;> try exact sd)); (try first | refine XK.gs (DB false) ?_))
    exact ret (.mk 11 v [.mk ak av az, .mk bk bv bz, .mk ck cv cz]) _ _ (by simp) (by simp [Ex.cells, Ex.cellsL])
theorem nodeS0 (k v : Int) (ks : List Ex) (h : k < 4) : DC Tryz.prog 182 [.agg (Ex.cells (.mk k v ks))] [] (fun r h => r = .agg (Ex.cells (.mk k v ks)) ∧ h = []) := by
  have n11 : (k = 11) = False := eq_false (by omega)
  have m11 : (k == 11) = false := by simp; omega
  have lt4 : (k < 4) = True := eq_true h
  refine dcZ Tryz.func182 ?_
  simp (maxSteps := 9999999) only [go_sem, n11, m11, lt4]
  iterate 4 ((try (refine drvZ Tryz.func182 ?_; simp (maxSteps := 9999999) only [go_sem, n11, m11, lt4])); (try ((with_reducible refine And.intro ?_ ?_) <;> (repeat' with_reducible apply And.intro) <;> try exact sd)))
  exact RetOb.kfA ⟨rfl, rfl⟩ (ex_kf (.mk k v ks))
end Go.Proofs.YtjjjidcbokbhpaaGreat.CtD

namespace Go.Proofs.YtjjjidcbokbhpaaGreat.CtD
open Go Go.CT CtF CtR
open CtL (quietE isC isN binN selN foldN foldE cE)

theorem foldSE : ∀ (d : Nat) (e : Ex) (p : Pg), CtR.shape p d e = true → DC Tryz.prog 121 [.agg e.cells] [] (fun r h => r = .agg (foldE d e).cells ∧ h = []) := by
  have hmx := mx_eq
  intro d
  induction d with
  | zero => intro e p h; simp [CtR.shape] at h
  | succ d ih =>
    intro e p hsh
    obtain ⟨k, v, ks⟩ := e
    obtain ⟨g1, g2, g3⟩ := shape_succ hsh
    obtain ⟨hl3, hla, hv0, hv1⟩ := fits_len g1
    have hN : DC Tryz.prog 182 [.agg (Ex.cells (.mk k v (ks.map (foldE d))))] [] (fun r h => r = .agg (foldE (d + 1) (.mk k v ks)).cells ∧ h = []) := by
      rcases CtL.shape_form hsh with ⟨hk, rfl⟩ | ⟨a, rfl, rfl, ha, hat⟩ | ⟨a, b, k4, k10, rfl, ha, hb⟩ | ⟨a, b, c, rfl, rfl, ha, hb, hc⟩
      · exact nodeS0 k v [] (by omega)
      · exact nodeS0 3 v [foldE d a] (by omega)
      · exact nodeB k v (foldE d a) (foldE d b) k4 k10 (CtL.fold_shape d a ha).1 (CtL.fold_shape d b hb).1
      · exact nodeS3 v (foldE d a) (foldE d b) (foldE d c) (CtL.fold_shape d b hb).1 (CtL.fold_shape d c hc).1
    generalize foldE (d + 1) (.mk k v ks) = RE at *
    obtain ⟨rk, rv, rz⟩ := RE
    refine dcZ Tryz.func121 ?_
    simp (maxSteps := 9999999) only [go_sem]
    iterate 2 ((try (refine drvZ Tryz.func121 ?_; simp (maxSteps := 9999999) only [go_sem])); (try ((with_reducible refine And.intro ?_ ?_) <;> (repeat' with_reducible apply And.intro) <;> try exact sd)))
    refine Go.loopQ (fun i : Nat => [(1, .c (.ptr 0 0)), (2, .c (.ptr 64 0)), (3, .c (.ptr 448 0)), (4, DI .i64 i)])
      (fun i => [(0, some (Ex.cells (.mk k v ks))), (64, some [I64 0, I64 0, .v (.slice none 0 0)]), (448, some [I64 k, I64 v, .msl 67 3 0 i]), (67, some (exC ((ks.take i).map (foldE d))))])
      4096 (fun i => i ≤ ks.length) (fun i => ks.length - i) ?_ 0 (fun j => if j = 67 then none else some j) [] _ (Nat.zero_le _) ?_
    · intro i hi again
      rcases Nat.lt_or_ge i ks.length with hlt | hge
      · obtain ⟨⟨k', v', ks'⟩, hx⟩ : ∃ x, ks[i]? = some x := ⟨ks[i], by simp [hlt]⟩
        have hic := ih _ p (g2 _ (List.mem_of_getElem? hx))
        have hsx : (ks.take (i + 1)).map (foldE d) = (ks.take i).map (foldE d) ++ [foldE d (.mk k' v' ks')] := by rw [List.take_add_one, hx]; simp
        have hel : (exC ((ks.take i).map (foldE d))).length = i * 3 := by rw [exC_len, List.length_map, List.length_take]; congr 1; omega
        generalize (ks.take i).map (foldE d) = T at *
        generalize foldE d (.mk k' v' ks') = E at *
        obtain ⟨ek, ev, eks⟩ := E
        refine drvL Tryz.func121 ?_
        simp (maxSteps := 9999999) only [go_sem, hx, hlt]
        iterate 6 ((try (refine drvZ Tryz.func121 ?_; simp (maxSteps := 9999999) only [go_sem, hx, hlt, hel])); (try ((with_reducible refine And.intro ?_ ?_) <;> (repeat' with_reducible apply And.intro) <;> try exact sd)); (try first | refine XK.p hic ok121 ?_ | refine XK.gp hic ok121 ?_))
        refine again (i + 1) (fun j => if j = 67 then some 4992 else some j) [] _ hlt (by omega) ?_
        rw [hsx]
        simp (maxSteps := 9999999) only [go_sem, TmOK, DM, DMs, CM, CMs, forall_eq, exists_eq_left, Mq, HpOK, LowOK, exC_snoc]
        simp
        exact CMs.kf (kf_app (exC_kf _) (by simp [kf]))
      · have hn2 : ¬ i < ks.length := by omega
        obtain rfl : i = ks.length := by omega
        rw [List.take_length]
        refine Go.subQ (r := some) (fz := [67]) (tl := [(1, .c (.ptr 0 0)), (2, .c (.ptr 64 0)), (3, .c (.ptr 448 0)), (4, DI .i64 ks.length)])
          (hl := [(0, some (Ex.cells (.mk k v ks))), (64, some [I64 0, I64 0, .v (.slice none 0 0)]), (448, some (Ex.cells (.mk k v (ks.map (foldE d)))))]) 4096 ?_ ?_
        · have hkl : (ks.map (foldE d)).length = ks.length := List.length_map _
          generalize ks.map (foldE d) = ki at *
          have g1 : (Ex.cellsL ki).flatten = exC ki := by rw [Ex.cellsL_eq]; rfl
          have g2 : ∀ x ∈ Ex.cellsL ki, x.length = 3 := fun x hx => by rw [Ex.cellsL_eq] at hx; obtain ⟨e, _, rfl⟩ := List.mem_map.1 hx; exact Ex.cells_len e
          have g3 : ∀ x ∈ Ex.cellsL ki, ∀ c ∈ x, kf c = true := fun x hx => by rw [Ex.cellsL_eq] at hx; obtain ⟨e, _, rfl⟩ := List.mem_map.1 hx; exact ex_kf e
          simp (maxSteps := 9999999) only [go_sem, TmOK, DM, DMs, CM, CMs, forall_eq, exists_eq_left, Mq, HpOK, LowOK, hOf]
          simp [g1, hkl, upd]
          exact ⟨g2, g3⟩
        generalize ks.map (foldE d) = ki at *
        refine drvL Tryz.func121 ?_
        simp (maxSteps := 9999999) only [go_sem, hn2]
        iterate 5 ((try (refine drvZ Tryz.func121 ?_; simp (maxSteps := 9999999) only [go_sem, hn2])); (try ((with_reducible refine And.intro ?_ ?_) <;> (repeat' with_reducible apply And.intro) <;> try exact sd)); (try first | refine XK.p hN ok182 ?_ | refine XK.gp hN ok182 ?_))
        exact RetOb.kfA ⟨rfl, rfl⟩ (ex_kf (.mk rk rv rz))
    · simp (maxSteps := 9999999) only [go_sem, TmOK, DM, DMs, CM, CMs, forall_eq, exists_eq_left, Mq, HpOK, LowOK]
      simp [exC]
end Go.Proofs.YtjjjidcbokbhpaaGreat.CtD

namespace Go.Proofs.YtjjjidcbokbhpaaGreat.CtD
open Go Go.CT CtF CtR
open CtL (quietE isC isN binN selN foldN foldE cE)

theorem foldIE : ∀ (d : Nat) (e : Ex) (p : Pg), CtR.shape p d e = true → DC Tryz.prog 115 [.agg e.cells] [] (fun r h => r = .agg (foldE d e).cells ∧ h = []) := by
  have hmx := mx_eq
  intro d
  induction d with
  | zero => intro e p h; simp [CtR.shape] at h
  | succ d ih =>
    intro e p hsh
    obtain ⟨k, v, ks⟩ := e
    obtain ⟨g1, g2, g3⟩ := shape_succ hsh
    obtain ⟨hl3, hla, hv0, hv1⟩ := fits_len g1
    have hwi := CtR.within k 4 10
    have ret : ∀ (e : Ex) (cs : List C) (hp : Hp), e = foldN d k v (ks.map (foldE d)) → cs = e.cells → RetOb 0 (fun r h => r = .agg (foldE (d + 1) (.mk k v ks)).cells ∧ h = []) (.agg cs) hp := fun e cs hp h hc => RetOb.kfA ⟨by rw [hc, h]; rfl, rfl⟩ (by rw [hc]; exact ex_kf e)
    generalize hR : (fun (r : D) (h : List (Option (List C))) => r = .agg (foldE (d + 1) (.mk k v ks)).cells ∧ h = []) = R at ret ⊢
    clear hR
    refine dcZ Tryz.func115 ?_
    simp (maxSteps := 9999999) only [go_sem]
    iterate 2 ((try (refine drvZ Tryz.func115 ?_; simp (maxSteps := 9999999) only [go_sem])); (try ((with_reducible refine And.intro ?_ ?_) <;> (repeat' with_reducible apply And.intro) <;> try exact sd)))
    refine Go.loopQ (fun i : Nat => [(1, .c (.ptr 0 0)), (2, .c (.ptr 64 0)), (3, .c (.ptr 448 0)), (15, .c (.isl 3 (Ex.cellsL ks))), (16, DI .i64 ks.length), (17, DI .i64 i)])
      (fun i => [(0, some (Ex.cells (.mk k v ks))), (64, some [I64 0, I64 0, .v (.slice none 0 0)]), (448, some [I64 k, I64 v, .msl 67 3 0 i]), (67, some (exC ((ks.take i).map (foldE d))))])
      4096 (fun i => i ≤ ks.length) (fun i => ks.length - i) ?_ 0 (fun j => if j = 67 then none else some j) [] _ (Nat.zero_le _) ?_
    · intro i hi again
      rcases Nat.lt_or_ge i ks.length with hlt | hge
      · obtain ⟨⟨k', v', ks'⟩, hx⟩ : ∃ x, ks[i]? = some x := ⟨ks[i], by simp [hlt]⟩
        have hic := ih _ p (g2 _ (List.mem_of_getElem? hx))
        have hsx : (ks.take (i + 1)).map (foldE d) = (ks.take i).map (foldE d) ++ [foldE d (.mk k' v' ks')] := by rw [List.take_add_one, hx]; simp
        have hel : (exC ((ks.take i).map (foldE d))).length = i * 3 := by rw [exC_len, List.length_map, List.length_take]; congr 1; omega
        generalize (ks.take i).map (foldE d) = T at *
        generalize foldE d (.mk k' v' ks') = E at *
        obtain ⟨ek, ev, eks⟩ := E
        refine drvL Tryz.func115 ?_
        simp (maxSteps := 9999999) only [go_sem, hx, hlt]
        iterate 6 ((try (refine drvZ Tryz.func115 ?_; simp (maxSteps := 9999999) only [go_sem, hx, hlt, hel])); (try ((with_reducible refine And.intro ?_ ?_) <;> (repeat' with_reducible apply And.intro) <;> try exact sd)); (try first | refine XK.p hic ok115 ?_ | refine XK.gp hic ok115 ?_))
        refine again (i + 1) (fun j => if j = 67 then some 4736 else some j) [] _ hlt (by omega) ?_
        rw [hsx]
        simp (maxSteps := 9999999) only [go_sem, TmOK, DM, DMs, CM, CMs, forall_eq, exists_eq_left, Mq, HpOK, LowOK, exC_snoc]
        simp
        exact CMs.kf (kf_app (exC_kf _) (by simp [kf]))
      · have hn2 : ¬ i < ks.length := by omega
        obtain rfl : i = ks.length := by omega
        rw [List.take_length]
        clear ih again
        refine Go.subQ (r := some) (fz := [67]) (tl := [(1, .c (.ptr 0 0)), (2, .c (.ptr 64 0)), (3, .c (.ptr 448 0)), (15, .c (.isl 3 (Ex.cellsL ks))), (16, DI .i64 ks.length), (17, DI .i64 ks.length)])
          (hl := [(0, some (Ex.cells (.mk k v ks))), (64, some [I64 0, I64 0, .v (.slice none 0 0)]), (448, some (Ex.cells (.mk k v (ks.map (foldE d)))))]) 4096 ?_ ?_
        · have hkl : (ks.map (foldE d)).length = ks.length := List.length_map _
          generalize ks.map (foldE d) = ki at *
          have g1 : (Ex.cellsL ki).flatten = exC ki := by rw [Ex.cellsL_eq]; rfl
          have g2 : ∀ x ∈ Ex.cellsL ki, x.length = 3 := fun x hx => by rw [Ex.cellsL_eq] at hx; obtain ⟨e, _, rfl⟩ := List.mem_map.1 hx; exact Ex.cells_len e
          have g3 : ∀ x ∈ Ex.cellsL ki, ∀ c ∈ x, kf c = true := fun x hx => by rw [Ex.cellsL_eq] at hx; obtain ⟨e, _, rfl⟩ := List.mem_map.1 hx; exact ex_kf e
          simp (maxSteps := 9999999) only [go_sem, TmOK, DM, DMs, CM, CMs, forall_eq, exists_eq_left, Mq, HpOK, LowOK, hOf]
          simp [g1, hkl, upd]
          exact ⟨g2, g3⟩
        rcases CtL.shape_form hsh with ⟨hk, rfl⟩ | ⟨a, rfl, rfl, ha, hat⟩ | ⟨a, b, k4, k10, rfl, ha, hb⟩ | ⟨a, b, c, rfl, rfl, ha, hb, hc⟩
        · have n11 : (k = 11) = False := eq_false (by omega)
          have m11 : (k == 11) = false := by simp; omega
          have w4 : decide (4 ≤ k) = false := by simp; omega
          rw [w4] at hwi
          simp only [List.map_nil] at ret ⊢
          refine drvL Tryz.func115 ?_
          simp (maxSteps := 9999999) only [go_sem, Ex.cellsL, n11, m11]
          iterate 6 ((try (refine drvZ Tryz.func115 ?_; simp (maxSteps := 9999999) only [go_sem, Ex.cellsL, n11, m11])); (try ((with_reducible refine And.intro ?_ ?_) <;> (repeat' with_reducible apply And.intro) <;> try exact sd)); (try first | refine XK.p hwi ok64 ?_ | refine XK.gp hwi ok64 ?_))
          exact ret (.mk k v []) _ _ rfl (by simp [Ex.cells, Ex.cellsL])
        · rw [show (decide ((4 : Int) ≤ 3) && decide ((3 : Int) ≤ 10)) = false from rfl] at hwi
          simp only [List.map_cons, List.map_nil] at ret ⊢
          generalize foldE d a = a' at *
          obtain ⟨ak, av, az⟩ := a'
          refine drvL Tryz.func115 ?_
          simp (maxSteps := 9999999) only [go_sem, Ex.cellsL]
          iterate 6 ((try (refine drvZ Tryz.func115 ?_; simp (maxSteps := 9999999) only [go_sem, Ex.cellsL])); (try ((with_reducible refine And.intro ?_ ?_) <;> (repeat' with_reducible apply And.intro) <;> try exact sd)); (try first | refine XK.p hwi ok64 ?_ | refine XK.gp hwi ok64 ?_))
          exact ret (.mk 3 v [.mk ak av az]) _ _ rfl (by simp [Ex.cells, Ex.cellsL])
        · have n11 : (k = 11) = False := eq_false (by omega)
          have m11 : (k == 11) = false := by simp; omega
          have w4 : decide (4 ≤ k) = true := by simp; omega
          have w10 : decide (k ≤ 10) = true := by simp; omega
          rw [w4, w10] at hwi
          simp only [List.map_cons, List.map_nil] at ret ⊢
          have kc := fun h => CtL.isC_form (CtL.fold_shape d a ha).1 h
          have kc2 := fun h => CtL.isC_form (CtL.fold_shape d b hb).1 h
          have ka0 := isNumberI (foldE d a) 0
          have ka1 := isNumberI (foldE d a) 1
          have kb0 := isNumberI (foldE d b) 0
          have kb1 := isNumberI (foldE d b) 1
          generalize foldE d a = a' at *
          generalize foldE d b = b' at *
          obtain ⟨ak, av, az⟩ := a'
          obtain ⟨bk, bv, bz⟩ := b'
          by_cases hc : ak = 1 ∧ bk = 1
          · obtain ⟨rfl, rfl⟩ := hc
            obtain ⟨x, hx, x0, x1⟩ := kc rfl
            obtain ⟨y, hy, y0, y1⟩ := kc2 rfl
            cases hx; cases hy
            have hop := CtR.operate k av bv ⟨x0, x1⟩ ⟨y0, y1⟩
            have hcs := constI (bin k av bv)
            simp only [cE, Ex.cells, Ex.cellsL] at hcs
            refine drvL Tryz.func115 ?_
            simp (maxSteps := 9999999) only [go_sem, Ex.cellsL, n11, m11]
            iterate 12 ((try (refine drvZ Tryz.func115 ?_; simp (maxSteps := 9999999) only [go_sem, Ex.cellsL, n11, m11])); (try ((with_reducible refine And.intro ?_ ?_) <;> (repeat' with_reducible apply And.intro) <;> try exact sd)); (try first | refine XK.p hwi ok64 ?_ | refine XK.gp hwi ok64 ?_ | refine XK.p hop ok177 ?_ | refine XK.gp hop ok177 ?_ | refine XK.p hcs ok176 ?_ | refine XK.gp hcs ok176 ?_))
            exact ret (cE (bin k av bv)) _ _ (by simp [foldN, binN, isC, Ex.kind, Ex.value, CtL.cE]) (by simp [cE, Ex.cells, Ex.cellsL])
          have hcb : (ak == 1 && bk == 1) = false := by simpa using hc
          have hb0 : (isC (.mk ak av az) && isC (.mk bk bv bz)) = false := hcb
          by_cases h48 : k = 4 ∨ k = 8
          · have hS : (k == 4 || k == 8) = true := by simpa using h48
            have e6 : (k == 6) = false := by simp; omega
            have f6 : (k = 6) = False := eq_false (by omega)
            have e5 : (k == 5) = false := by simp; omega
            cases hn : isN (.mk ak av az) 0 with
            | true =>
              rw [hn] at ka0
              refine drvL Tryz.func115 ?_
              simp (maxSteps := 9999999) only [go_sem, Ex.cellsL, n11, m11, hcb, hS, e6, f6]
              iterate 16 ((try (refine drvZ Tryz.func115 ?_; simp (maxSteps := 9999999) only [go_sem, Ex.cellsL, n11, m11, hcb, hS, e6, f6])); (try ((with_reducible refine And.intro ?_ ?_) <;> (repeat' with_reducible apply And.intro) <;> try exact sd)); (try first | refine XK.p hwi ok64 ?_ | refine XK.gp hwi ok64 ?_ | refine XK.p ka0 ok178 ?_ | refine XK.gp ka0 ok178 ?_ | refine XK.gs (DB false) ?_))
              exact ret (.mk bk bv bz) _ _ (by simp [foldN, binN, hb0, hn, hS]) (by simp [Ex.cells, Ex.cellsL])
            | false =>
              rw [hn] at ka0
              cases hm : isN (.mk bk bv bz) 0 with
              | true =>
                rw [hm] at kb0
                refine drvL Tryz.func115 ?_
                simp (maxSteps := 9999999) only [go_sem, Ex.cellsL, n11, m11, hcb, hS, e6, f6]
                iterate 20 ((try (refine drvZ Tryz.func115 ?_; simp (maxSteps := 9999999) only [go_sem, Ex.cellsL, n11, m11, hcb, hS, e6, f6])); (try ((with_reducible refine And.intro ?_ ?_) <;> (repeat' with_reducible apply And.intro) <;> try exact sd)); (try first | refine XK.p hwi ok64 ?_ | refine XK.gp hwi ok64 ?_ | refine XK.p ka0 ok178 ?_ | refine XK.gp ka0 ok178 ?_ | refine XK.p kb0 ok178 ?_ | refine XK.gp kb0 ok178 ?_ | refine XK.gs (DB false) ?_))
                exact ret (.mk ak av az) _ _ (by simp [foldN, binN, hb0, hn, hm, hS, e6]) (by simp [Ex.cells, Ex.cellsL])
              | false =>
                rw [hm] at kb0
                refine drvL Tryz.func115 ?_
                simp (maxSteps := 9999999) only [go_sem, Ex.cellsL, n11, m11, hcb, hS, e6, f6]
                iterate 20 ((try (refine drvZ Tryz.func115 ?_; simp (maxSteps := 9999999) only [go_sem, Ex.cellsL, n11, m11, hcb, hS, e6, f6])); (try ((with_reducible refine And.intro ?_ ?_) <;> (repeat' with_reducible apply And.intro) <;> try exact sd)); (try first | refine XK.p hwi ok64 ?_ | refine XK.gp hwi ok64 ?_ | refine XK.p ka0 ok178 ?_ | refine XK.gp ka0 ok178 ?_ | refine XK.p kb0 ok178 ?_ | refine XK.gp kb0 ok178 ?_ | refine XK.gs (DB false) ?_))
                exact ret (.mk k v [.mk ak av az, .mk bk bv bz]) _ _ (by simp [foldN, binN, hb0, hn, hm, hS, e6]) (by simp [Ex.cells, Ex.cellsL])
          by_cases h6 : k = 6
          · subst h6
            cases hn : isN (.mk ak av az) 1 with
            | true =>
              rw [hn] at ka1
              refine drvL Tryz.func115 ?_
              simp (maxSteps := 9999999) only [go_sem, Ex.cellsL, n11, m11, hcb]
              iterate 16 ((try (refine drvZ Tryz.func115 ?_; simp (maxSteps := 9999999) only [go_sem, Ex.cellsL, n11, m11, hcb])); (try ((with_reducible refine And.intro ?_ ?_) <;> (repeat' with_reducible apply And.intro) <;> try exact sd)); (try first | refine XK.p hwi ok64 ?_ | refine XK.gp hwi ok64 ?_ | refine XK.p ka1 ok178 ?_ | refine XK.gp ka1 ok178 ?_ | refine XK.gs (DB false) ?_))
              exact ret (.mk bk bv bz) _ _ (by simp [foldN, binN, hb0, hn]) (by simp [Ex.cells, Ex.cellsL])
            | false =>
              rw [hn] at ka1
              cases hm : isN (.mk bk bv bz) 1 with
              | true =>
                rw [hm] at kb1
                refine drvL Tryz.func115 ?_
                simp (maxSteps := 9999999) only [go_sem, Ex.cellsL, n11, m11, hcb]
                iterate 20 ((try (refine drvZ Tryz.func115 ?_; simp (maxSteps := 9999999) only [go_sem, Ex.cellsL, n11, m11, hcb])); (try ((with_reducible refine And.intro ?_ ?_) <;> (repeat' with_reducible apply And.intro) <;> try exact sd)); (try first | refine XK.p hwi ok64 ?_ | refine XK.gp hwi ok64 ?_ | refine XK.p ka1 ok178 ?_ | refine XK.gp ka1 ok178 ?_ | refine XK.p kb1 ok178 ?_ | refine XK.gp kb1 ok178 ?_ | refine XK.gs (DB false) ?_))
                exact ret (.mk ak av az) _ _ (by simp [foldN, binN, hb0, hn, hm]) (by simp [Ex.cells, Ex.cellsL])
              | false =>
                rw [hm] at kb1
                refine drvL Tryz.func115 ?_
                simp (maxSteps := 9999999) only [go_sem, Ex.cellsL, n11, m11, hcb]
                iterate 20 ((try (refine drvZ Tryz.func115 ?_; simp (maxSteps := 9999999) only [go_sem, Ex.cellsL, n11, m11, hcb])); (try ((with_reducible refine And.intro ?_ ?_) <;> (repeat' with_reducible apply And.intro) <;> try exact sd)); (try first | refine XK.p hwi ok64 ?_ | refine XK.gp hwi ok64 ?_ | refine XK.p ka1 ok178 ?_ | refine XK.gp ka1 ok178 ?_ | refine XK.p kb1 ok178 ?_ | refine XK.gp kb1 ok178 ?_ | refine XK.gs (DB false) ?_))
                exact ret (.mk 6 v [.mk ak av az, .mk bk bv bz]) _ _ (by simp [foldN, binN, hb0, hn, hm]) (by simp [Ex.cells, Ex.cellsL])
          by_cases h5 : k = 5
          · subst h5
            cases hm : isN (.mk bk bv bz) 0 with
            | true =>
              rw [hm] at kb0
              refine drvL Tryz.func115 ?_
              simp (maxSteps := 9999999) only [go_sem, Ex.cellsL, n11, m11, hcb]
              iterate 20 ((try (refine drvZ Tryz.func115 ?_; simp (maxSteps := 9999999) only [go_sem, Ex.cellsL, n11, m11, hcb])); (try ((with_reducible refine And.intro ?_ ?_) <;> (repeat' with_reducible apply And.intro) <;> try exact sd)); (try first | refine XK.p hwi ok64 ?_ | refine XK.gp hwi ok64 ?_ | refine XK.p kb0 ok178 ?_ | refine XK.gp kb0 ok178 ?_ | refine XK.gs (DB false) ?_))
              exact ret (.mk ak av az) _ _ (by simp [foldN, binN, hb0, hm]) (by simp [Ex.cells, Ex.cellsL])
            | false =>
              rw [hm] at kb0
              refine drvL Tryz.func115 ?_
              simp (maxSteps := 9999999) only [go_sem, Ex.cellsL, n11, m11, hcb]
              iterate 20 ((try (refine drvZ Tryz.func115 ?_; simp (maxSteps := 9999999) only [go_sem, Ex.cellsL, n11, m11, hcb])); (try ((with_reducible refine And.intro ?_ ?_) <;> (repeat' with_reducible apply And.intro) <;> try exact sd)); (try first | refine XK.p hwi ok64 ?_ | refine XK.gp hwi ok64 ?_ | refine XK.p kb0 ok178 ?_ | refine XK.gp kb0 ok178 ?_ | refine XK.gs (DB false) ?_))
              exact ret (.mk 5 v [.mk ak av az, .mk bk bv bz]) _ _ (by simp [foldN, binN, hb0, hm]) (by simp [Ex.cells, Ex.cellsL])
          have e4 : (k == 4) = false := by simp; omega
          have f4 : (k = 4) = False := eq_false (by omega)
          have e8 : (k == 8) = false := by simp; omega
          have f8 : (k = 8) = False := eq_false (by omega)
          have e6 : (k == 6) = false := by simp; omega
          have f6 : (k = 6) = False := eq_false (by omega)
          have e5 : (k == 5) = false := by simp; omega
          have f5 : (k = 5) = False := eq_false (by omega)
          refine drvL Tryz.func115 ?_
          simp (maxSteps := 9999999) only [go_sem, Ex.cellsL, n11, m11, hcb, e4, e8, e6, e5, f4, f8, f6, f5]
          iterate 20 ((try (refine drvZ Tryz.func115 ?_; simp (maxSteps := 9999999) only [go_sem, Ex.cellsL, n11, m11, hcb, e4, e8, e6, e5, f4, f8, f6, f5])); (try ((with_reducible refine And.intro ?_ ?_) <;> (repeat' with_reducible apply And.intro) <;> try exact sd)); (try first | refine XK.p hwi ok64 ?_ | refine XK.gp hwi ok64 ?_ | refine XK.gs (DB false) ?_))
          exact ret (.mk k v [.mk ak av az, .mk bk bv bz]) _ _ (by simp [foldN, binN, hb0, e4, e5, e6, e8]) (by simp [Ex.cells, Ex.cellsL])
        · simp only [List.map_cons, List.map_nil] at ret ⊢
          have qb := CtR.readsI d (foldE d b) p (CtL.fold_shape d b hb).1
          have qc := CtR.readsI d (foldE d c) p (CtL.fold_shape d c hc).1
          generalize foldE d a = a' at *
          generalize foldE d b = b' at *
          generalize foldE d c = c' at *
          obtain ⟨ak, av, az⟩ := a'
          simp only [foldN, selN] at ret
          by_cases h1 : ak = 1
          · subst h1
            have i1 : isC (.mk 1 av az) = true := rfl
            have i2 : (Ex.mk 1 av az).value = av := rfl
            rw [i1, i2] at ret
            cases hqb : quietE d b' with
            | false =>
              rw [hqb] at qb ret
              obtain ⟨bk, bv, bz⟩ := b'
              obtain ⟨ck, cv, cz⟩ := c'
              simp only [Bool.not_false] at qb
              refine drvL Tryz.func115 ?_
              simp (maxSteps := 9999999) only [go_sem, Ex.cellsL]
              iterate 8 ((try (refine drvZ Tryz.func115 ?_; simp (maxSteps := 9999999) only [go_sem, Ex.cellsL])); (try ((with_reducible refine And.intro ?_ ?_) <;> (repeat' with_reducible apply And.intro) <;> try exact sd)); (try first | refine XK.p qb ok175 ?_ | refine XK.gp qb ok175 ?_ | refine XK.gs (DB false) ?_))
              exact ret (.mk 11 v [.mk 1 av az, .mk bk bv bz, .mk ck cv cz]) _ _ (by simp) (by simp [Ex.cells, Ex.cellsL])
            | true =>
              rw [hqb] at qb ret
              simp only [Bool.not_true] at qb
              cases hqc : quietE d c' with
              | false =>
                rw [hqc] at qc ret
                obtain ⟨bk, bv, bz⟩ := b'
                obtain ⟨ck, cv, cz⟩ := c'
                simp only [Bool.not_false] at qc
                refine drvL Tryz.func115 ?_
                simp (maxSteps := 9999999) only [go_sem, Ex.cellsL]
                iterate 8 ((try (refine drvZ Tryz.func115 ?_; simp (maxSteps := 9999999) only [go_sem, Ex.cellsL])); (try ((with_reducible refine And.intro ?_ ?_) <;> (repeat' with_reducible apply And.intro) <;> try exact sd)); (try first | refine XK.p qb ok175 ?_ | refine XK.gp qb ok175 ?_ | refine XK.p qc ok175 ?_ | refine XK.gp qc ok175 ?_))
                exact ret (.mk 11 v [.mk 1 av az, .mk bk bv bz, .mk ck cv cz]) _ _ (by simp) (by simp [Ex.cells, Ex.cellsL])
              | true =>
                rw [hqc] at qc ret
                obtain ⟨bk, bv, bz⟩ := b'
                obtain ⟨ck, cv, cz⟩ := c'
                simp only [Bool.not_true] at qc
                by_cases h0 : av = 0
                · subst h0
                  refine drvL Tryz.func115 ?_
                  simp (maxSteps := 9999999) only [go_sem, Ex.cellsL]
                  iterate 10 ((try (refine drvZ Tryz.func115 ?_; simp (maxSteps := 9999999) only [go_sem, Ex.cellsL])); (try ((with_reducible refine And.intro ?_ ?_) <;> (repeat' with_reducible apply And.intro) <;> try exact sd)); (try first | refine XK.p qb ok175 ?_ | refine XK.gp qb ok175 ?_ | refine XK.p qc ok175 ?_ | refine XK.gp qc ok175 ?_))
                  exact ret (.mk ck cv cz) _ _ (by simp) (by simp [Ex.cells, Ex.cellsL])
                · have g0 : (av != 0) = true := by simp [h0]
                  refine drvL Tryz.func115 ?_
                  simp (maxSteps := 9999999) only [go_sem, Ex.cellsL, g0, h0]
                  iterate 10 ((try (refine drvZ Tryz.func115 ?_; simp (maxSteps := 9999999) only [go_sem, Ex.cellsL, g0, h0])); (try ((with_reducible refine And.intro ?_ ?_) <;> (repeat' with_reducible apply And.intro) <;> try exact sd)); (try first | refine XK.p qb ok175 ?_ | refine XK.gp qb ok175 ?_ | refine XK.p qc ok175 ?_ | refine XK.gp qc ok175 ?_))
                  exact ret (.mk bk bv bz) _ _ (by simp [h0]) (by simp [Ex.cells, Ex.cellsL])
          · have i1 : isC (.mk ak av az) = false := by simp [isC, Ex.kind, h1]
            have g1 : (ak != 1) = true := by simp [h1]
            rw [i1] at ret
            obtain ⟨bk, bv, bz⟩ := b'
            obtain ⟨ck, cv, cz⟩ := c'
            refine drvL Tryz.func115 ?_
            simp (maxSteps := 9999999) only [go_sem, Ex.cellsL, h1, g1]
            iterate 8 ((try (refine drvZ Tryz.func115 ?_; simp (maxSteps := 9999999) only [go_sem, Ex.cellsL, h1, g1])); (try ((with_reducible refine And.intro ?_ ?_) <;> (repeat' with_reducible apply And.intro) <;> try exact sd)); (try first | refine XK.gs (DB false) ?_))
            exact ret (.mk 11 v [.mk ak av az, .mk bk bv bz, .mk ck cv cz]) _ _ (by simp) (by simp [Ex.cells, Ex.cellsL])
    · simp (maxSteps := 9999999) only [go_sem, TmOK, DM, DMs, CM, CMs, forall_eq, exists_eq_left, Mq, HpOK, LowOK]
      simp [exC]
end Go.Proofs.YtjjjidcbokbhpaaGreat.CtD
