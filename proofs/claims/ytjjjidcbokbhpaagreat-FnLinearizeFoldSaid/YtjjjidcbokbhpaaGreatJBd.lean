/- Contracts of functions of the program, one behind the other, as plain data: what each call returns and which blocks it leaves. -/
import Derived.Test.YtjjjidcbokbhpaaGreatJFacts
import Derived.Test.YtjjjidcbokbhpaaGreatJAi
import Derived.Test.YtjjjidcbokbhpaaGreatJAj
import Derived.Test.YtjjjidcbokbhpaaGreatJAl
import Derived.Test.YtjjjidcbokbhpaaGreatJAn
import Derived.Test.YtjjjidcbokbhpaaGreatJAp
import Derived.Test.YtjjjidcbokbhpaaGreatJAt
import Derived.Test.YtjjjidcbokbhpaaGreatJAu
import Derived.Test.YtjjjidcbokbhpaaGreatJAv
import Derived.Test.YtjjjidcbokbhpaaGreatJAw
import Derived.Test.YtjjjidcbokbhpaaGreatJAx
import Derived.Test.YtjjjidcbokbhpaaGreatJAz
import Derived.Test.YtjjjidcbokbhpaaGreatJBc
import Derived.Test.YtjjjidcbokbhpaaGreatJAk
import Derived.Test.YtjjjidcbokbhpaaGreatJAm
import Derived.Test.YtjjjidcbokbhpaaGreatJAq
set_option linter.unusedVariables false
set_option linter.unusedSimpArgs false
set_option maxHeartbeats 16000000
set_option maxRecDepth 100000
namespace Go.Proofs.YtjjjidcbokbhpaaGreat.CtD
open Go Go.CT CtF CtR
open CtL (quietE isC isN binN selN foldN foldE cE)
theorem foldIE : ∀ (d : Nat) (e : Ex) (p : Pg), CtR.shape p d e = true → DC Tryz.prog 115 [.agg e.cells] [] (fun r h => r = .agg (foldE d e).cells ∧ h = []) := by
  have hmx := mx_eq
  intro d
  induction d with
  | zero => intro e p h; simp [CtR.shape] at h
  | succ d ih =>
    intro e p hsh
    obtain ⟨k, v, ks⟩ := e
    obtain ⟨g1, g2, g3⟩ := shape_succ hsh
    obtain ⟨hl3, hla, hv0, hv1⟩ := fits_len g1
    have hwi := CtR.within k 4 10
    have ret : ∀ (e : Ex) (cs : List C) (hp : Hp), e = foldN d k v (ks.map (foldE d)) → cs = e.cells → RetOb 0 (fun r h => r = .agg (foldE (d + 1) (.mk k v ks)).cells ∧ h = []) (.agg cs) hp := fun e cs hp h hc => RetOb.kfA ⟨by rw [hc, h]; rfl, rfl⟩ (by rw [hc]; exact ex_kf e)
    generalize hR : (fun (r : D) (h : List (Option (List C))) => r = .agg (foldE (d + 1) (.mk k v ks)).cells ∧ h = []) = R at ret ⊢
    clear hR
    refine dcZ Tryz.func115 ?_
    simp only [go_sem]
    iterate 2 ((try (refine drvZ Tryz.func115 ?_; simp only [go_sem])); ((with_reducible and_intros) <;> try exact sd))
    refine Go.loopQ (fun i : Nat => [(1, .c (.ptr 0 0)), (2, .c (.ptr 64 0)), (3, .c (.ptr 448 0)), (15, .c (.isl 3 (Ex.cellsL ks))), (16, DI .i64 ks.length), (17, DI .i64 i)])
      (fun i => [(0, some (Ex.cells (.mk k v ks))), (64, some [I64 0, I64 0, .v (.slice none 0 0)]), (448, some [I64 k, I64 v, .msl 67 3 0 i]), (67, some (exC ((ks.take i).map (foldE d))))])
      4096 (fun i => i ≤ ks.length) (fun i => ks.length - i) ?_ 0 (fun j => if j = 67 then none else some j) [] _ (Nat.zero_le _) ?_
    · intro i hi again
      rcases Nat.lt_or_ge i ks.length with hlt | hge
      · obtain ⟨⟨k', v', ks'⟩, hx⟩ : ∃ x, ks[i]? = some x := ⟨ks[i], by simp [hlt]⟩
        have hic := ih _ p (g2 _ (List.mem_of_getElem? hx))
        have hsx : (ks.take (i + 1)).map (foldE d) = (ks.take i).map (foldE d) ++ [foldE d (.mk k' v' ks')] := by rw [List.take_add_one, hx]; simp
        have hel : (exC ((ks.take i).map (foldE d))).length = i * 3 := by rw [exC_len, List.length_map, List.length_take]; congr 1; omega
        generalize (ks.take i).map (foldE d) = T at *
        generalize foldE d (.mk k' v' ks') = E at *
        obtain ⟨ek, ev, eks⟩ := E
        refine drvL Tryz.func115 ?_
        simp only [go_sem, hx, hlt]
        iterate 6 ((try (refine drvZ Tryz.func115 ?_; simp only [go_sem, hx, hlt, hel])); ((with_reducible and_intros) <;> try exact sd); (try first | refine XK.p hic ok115 ?_ | refine XK.gp hic ok115 ?_))
        refine again (i + 1) (fun j => if j = 67 then some 4736 else some j) [] _ hlt (by omega) ?_
        rw [hsx]
        simp only [go_sem, TmOK, DM, DMs, CM, CMs, forall_eq, exists_eq_left, Mq, HpOK, LowOK, exC_snoc]
        simp
        exact CMs.kf (kf_app (exC_kf _) (by simp [kf]))
      · have hn2 : ¬ i < ks.length := by omega
        obtain rfl : i = ks.length := by omega
        rw [List.take_length]
        clear ih again
        refine Go.subQ (r := some) (fz := [67]) (tl := [(1, .c (.ptr 0 0)), (2, .c (.ptr 64 0)), (3, .c (.ptr 448 0)), (15, .c (.isl 3 (Ex.cellsL ks))), (16, DI .i64 ks.length), (17, DI .i64 ks.length)])
          (hl := [(0, some (Ex.cells (.mk k v ks))), (64, some [I64 0, I64 0, .v (.slice none 0 0)]), (448, some (Ex.cells (.mk k v (ks.map (foldE d)))))]) 4096 ?_ ?_
        · have hkl : (ks.map (foldE d)).length = ks.length := List.length_map _
          generalize ks.map (foldE d) = ki at *
          have g1 : (Ex.cellsL ki).flatten = exC ki := by rw [Ex.cellsL_eq]; rfl
          have g2 : ∀ x ∈ Ex.cellsL ki, x.length = 3 := fun x hx => by rw [Ex.cellsL_eq] at hx; obtain ⟨e, _, rfl⟩ := List.mem_map.1 hx; exact Ex.cells_len e
          have g3 : ∀ x ∈ Ex.cellsL ki, ∀ c ∈ x, kf c = true := fun x hx => by rw [Ex.cellsL_eq] at hx; obtain ⟨e, _, rfl⟩ := List.mem_map.1 hx; exact ex_kf e
          simp only [go_sem, TmOK, DM, DMs, CM, CMs, forall_eq, exists_eq_left, Mq, HpOK, LowOK, hOf]
          simp [g1, hkl, upd]
          exact ⟨g2, g3⟩
        rcases CtL.shape_form hsh with ⟨hk, rfl⟩ | ⟨a, rfl, rfl, ha, hat⟩ | ⟨a, b, k4, k10, rfl, ha, hb⟩ | ⟨a, b, c, rfl, rfl, ha, hb, hc⟩
        · have n11 : (k = 11) = False := eq_false (by omega)
          have m11 : (k == 11) = false := by simp; omega
          have w4 : decide (4 ≤ k) = false := by simp; omega
          rw [w4] at hwi
          simp only [List.map_nil] at ret ⊢
          refine drvL Tryz.func115 ?_
          simp only [go_sem, Ex.cellsL, n11, m11]
          iterate 6 ((try (refine drvZ Tryz.func115 ?_; simp only [go_sem, Ex.cellsL, n11, m11])); ((with_reducible and_intros) <;> try exact sd); (try first | refine XK.p hwi ok64 ?_ | refine XK.gp hwi ok64 ?_))
          exact ret (.mk k v []) _ _ rfl (by simp [Ex.cells, Ex.cellsL])
        · rw [show (decide ((4 : Int) ≤ 3) && decide ((3 : Int) ≤ 10)) = false from rfl] at hwi
          simp only [List.map_cons, List.map_nil] at ret ⊢
          generalize foldE d a = a' at *
          obtain ⟨ak, av, az⟩ := a'
          refine drvL Tryz.func115 ?_
          simp only [go_sem, Ex.cellsL]
          iterate 6 ((try (refine drvZ Tryz.func115 ?_; simp only [go_sem, Ex.cellsL])); ((with_reducible and_intros) <;> try exact sd); (try first | refine XK.p hwi ok64 ?_ | refine XK.gp hwi ok64 ?_))
          exact ret (.mk 3 v [.mk ak av az]) _ _ rfl (by simp [Ex.cells, Ex.cellsL])
        · have n11 : (k = 11) = False := eq_false (by omega)
          have m11 : (k == 11) = false := by simp; omega
          have w4 : decide (4 ≤ k) = true := by simp; omega
          have w10 : decide (k ≤ 10) = true := by simp; omega
          rw [w4, w10] at hwi
          simp only [List.map_cons, List.map_nil] at ret ⊢
          have kc := fun h => CtL.isC_form (CtL.fold_shape d a ha).1 h
          have kc2 := fun h => CtL.isC_form (CtL.fold_shape d b hb).1 h
          have ka0 := isNumberI (foldE d a) 0
          have ka1 := isNumberI (foldE d a) 1
          have kb0 := isNumberI (foldE d b) 0
          have kb1 := isNumberI (foldE d b) 1
          generalize foldE d a = a' at *
          generalize foldE d b = b' at *
          obtain ⟨ak, av, az⟩ := a'
          obtain ⟨bk, bv, bz⟩ := b'
          by_cases hc : ak = 1 ∧ bk = 1
          · obtain ⟨rfl, rfl⟩ := hc
            obtain ⟨x, hx, x0, x1⟩ := kc rfl
            obtain ⟨y, hy, y0, y1⟩ := kc2 rfl
            cases hx; cases hy
            have hop := CtR.operate k av bv ⟨x0, x1⟩ ⟨y0, y1⟩
            have hcs := constI (bin k av bv)
            simp only [cE, Ex.cells, Ex.cellsL] at hcs
            refine drvL Tryz.func115 ?_
            simp only [go_sem, Ex.cellsL, n11, m11]
            iterate 12 ((try (refine drvZ Tryz.func115 ?_; simp only [go_sem, Ex.cellsL, n11, m11])); ((with_reducible and_intros) <;> try exact sd); (try first | refine XK.p hwi ok64 ?_ | refine XK.gp hwi ok64 ?_ | refine XK.p hop ok177 ?_ | refine XK.gp hop ok177 ?_ | refine XK.p hcs ok176 ?_ | refine XK.gp hcs ok176 ?_))
            exact ret (cE (bin k av bv)) _ _ (by simp [foldN, binN, isC, Ex.kind, Ex.value, CtL.cE]) (by simp [cE, Ex.cells, Ex.cellsL])
          have hcb : (ak == 1 && bk == 1) = false := by simpa using hc
          have hb0 : (isC (.mk ak av az) && isC (.mk bk bv bz)) = false := hcb
          by_cases h48 : k = 4 ∨ k = 8
          · have hS : (k == 4 || k == 8) = true := by simpa using h48
            have e6 : (k == 6) = false := by simp; omega
            have f6 : (k = 6) = False := eq_false (by omega)
            have e5 : (k == 5) = false := by simp; omega
            cases hn : isN (.mk ak av az) 0 with
            | true =>
              rw [hn] at ka0
              refine drvL Tryz.func115 ?_
              simp only [go_sem, Ex.cellsL, n11, m11, hcb, hS, e6, f6]
              iterate 16 ((try (refine drvZ Tryz.func115 ?_; simp only [go_sem, Ex.cellsL, n11, m11, hcb, hS, e6, f6])); ((with_reducible and_intros) <;> try exact sd); (try first | refine XK.p hwi ok64 ?_ | refine XK.gp hwi ok64 ?_ | refine XK.p ka0 ok178 ?_ | refine XK.gp ka0 ok178 ?_ | refine XK.gs (DB false) ?_))
              exact ret (.mk bk bv bz) _ _ (by simp [foldN, binN, hb0, hn, hS]) (by simp [Ex.cells, Ex.cellsL])
            | false =>
              rw [hn] at ka0
              cases hm : isN (.mk bk bv bz) 0 with
              | true =>
                rw [hm] at kb0
                refine drvL Tryz.func115 ?_
                simp only [go_sem, Ex.cellsL, n11, m11, hcb, hS, e6, f6]
                iterate 20 ((try (refine drvZ Tryz.func115 ?_; simp only [go_sem, Ex.cellsL, n11, m11, hcb, hS, e6, f6])); ((with_reducible and_intros) <;> try exact sd); (try first | refine XK.p hwi ok64 ?_ | refine XK.gp hwi ok64 ?_ | refine XK.p ka0 ok178 ?_ | refine XK.gp ka0 ok178 ?_ | refine XK.p kb0 ok178 ?_ | refine XK.gp kb0 ok178 ?_ | refine XK.gs (DB false) ?_))
                exact ret (.mk ak av az) _ _ (by simp [foldN, binN, hb0, hn, hm, hS, e6]) (by simp [Ex.cells, Ex.cellsL])
              | false =>
                rw [hm] at kb0
                refine drvL Tryz.func115 ?_
                simp only [go_sem, Ex.cellsL, n11, m11, hcb, hS, e6, f6]
                iterate 20 ((try (refine drvZ Tryz.func115 ?_; simp only [go_sem, Ex.cellsL, n11, m11, hcb, hS, e6, f6])); ((with_reducible and_intros) <;> try exact sd); (try first | refine XK.p hwi ok64 ?_ | refine XK.gp hwi ok64 ?_ | refine XK.p ka0 ok178 ?_ | refine XK.gp ka0 ok178 ?_ | refine XK.p kb0 ok178 ?_ | refine XK.gp kb0 ok178 ?_ | refine XK.gs (DB false) ?_))
                exact ret (.mk k v [.mk ak av az, .mk bk bv bz]) _ _ (by simp [foldN, binN, hb0, hn, hm, hS, e6]) (by simp [Ex.cells, Ex.cellsL])
          by_cases h6 : k = 6
          · subst h6
            cases hn : isN (.mk ak av az) 1 with
            | true =>
              rw [hn] at ka1
              refine drvL Tryz.func115 ?_
              simp only [go_sem, Ex.cellsL, n11, m11, hcb]
              iterate 16 ((try (refine drvZ Tryz.func115 ?_; simp only [go_sem, Ex.cellsL, n11, m11, hcb])); ((with_reducible and_intros) <;> try exact sd); (try first | refine XK.p hwi ok64 ?_ | refine XK.gp hwi ok64 ?_ | refine XK.p ka1 ok178 ?_ | refine XK.gp ka1 ok178 ?_ | refine XK.gs (DB false) ?_))
              exact ret (.mk bk bv bz) _ _ (by simp [foldN, binN, hb0, hn]) (by simp [Ex.cells, Ex.cellsL])
            | false =>
              rw [hn] at ka1
              cases hm : isN (.mk bk bv bz) 1 with
              | true =>
                rw [hm] at kb1
                refine drvL Tryz.func115 ?_
                simp only [go_sem, Ex.cellsL, n11, m11, hcb]
                iterate 20 ((try (refine drvZ Tryz.func115 ?_; simp only [go_sem, Ex.cellsL, n11, m11, hcb])); ((with_reducible and_intros) <;> try exact sd); (try first | refine XK.p hwi ok64 ?_ | refine XK.gp hwi ok64 ?_ | refine XK.p ka1 ok178 ?_ | refine XK.gp ka1 ok178 ?_ | refine XK.p kb1 ok178 ?_ | refine XK.gp kb1 ok178 ?_ | refine XK.gs (DB false) ?_))
                exact ret (.mk ak av az) _ _ (by simp [foldN, binN, hb0, hn, hm]) (by simp [Ex.cells, Ex.cellsL])
              | false =>
                rw [hm] at kb1
                refine drvL Tryz.func115 ?_
                simp only [go_sem, Ex.cellsL, n11, m11, hcb]
                iterate 20 ((try (refine drvZ Tryz.func115 ?_; simp only [go_sem, Ex.cellsL, n11, m11, hcb])); ((with_reducible and_intros) <;> try exact sd); (try first | refine XK.p hwi ok64 ?_ | refine XK.gp hwi ok64 ?_ | refine XK.p ka1 ok178 ?_ | refine XK.gp ka1 ok178 ?_ | refine XK.p kb1 ok178 ?_ | refine XK.gp kb1 ok178 ?_ | refine XK.gs (DB false) ?_))
                exact ret (.mk 6 v [.mk ak av az, .mk bk bv bz]) _ _ (by simp [foldN, binN, hb0, hn, hm]) (by simp [Ex.cells, Ex.cellsL])
          by_cases h5 : k = 5
          · subst h5
            cases hm : isN (.mk bk bv bz) 0 with
            | true =>
              rw [hm] at kb0
              refine drvL Tryz.func115 ?_
              simp only [go_sem, Ex.cellsL, n11, m11, hcb]
              iterate 20 ((try (refine drvZ Tryz.func115 ?_; simp only [go_sem, Ex.cellsL, n11, m11, hcb])); ((with_reducible and_intros) <;> try exact sd); (try first | refine XK.p hwi ok64 ?_ | refine XK.gp hwi ok64 ?_ | refine XK.p kb0 ok178 ?_ | refine XK.gp kb0 ok178 ?_ | refine XK.gs (DB false) ?_))
              exact ret (.mk ak av az) _ _ (by simp [foldN, binN, hb0, hm]) (by simp [Ex.cells, Ex.cellsL])
            | false =>
              rw [hm] at kb0
              refine drvL Tryz.func115 ?_
              simp only [go_sem, Ex.cellsL, n11, m11, hcb]
              iterate 20 ((try (refine drvZ Tryz.func115 ?_; simp only [go_sem, Ex.cellsL, n11, m11, hcb])); ((with_reducible and_intros) <;> try exact sd); (try first | refine XK.p hwi ok64 ?_ | refine XK.gp hwi ok64 ?_ | refine XK.p kb0 ok178 ?_ | refine XK.gp kb0 ok178 ?_ | refine XK.gs (DB false) ?_))
              exact ret (.mk 5 v [.mk ak av az, .mk bk bv bz]) _ _ (by simp [foldN, binN, hb0, hm]) (by simp [Ex.cells, Ex.cellsL])
          have e4 : (k == 4) = false := by simp; omega
          have f4 : (k = 4) = False := eq_false (by omega)
          have e8 : (k == 8) = false := by simp; omega
          have f8 : (k = 8) = False := eq_false (by omega)
          have e6 : (k == 6) = false := by simp; omega
          have f6 : (k = 6) = False := eq_false (by omega)
          have e5 : (k == 5) = false := by simp; omega
          have f5 : (k = 5) = False := eq_false (by omega)
          refine drvL Tryz.func115 ?_
          simp only [go_sem, Ex.cellsL, n11, m11, hcb, e4, e8, e6, e5, f4, f8, f6, f5]
          iterate 20 ((try (refine drvZ Tryz.func115 ?_; simp only [go_sem, Ex.cellsL, n11, m11, hcb, e4, e8, e6, e5, f4, f8, f6, f5])); ((with_reducible and_intros) <;> try exact sd); (try first | refine XK.p hwi ok64 ?_ | refine XK.gp hwi ok64 ?_ | refine XK.gs (DB false) ?_))
          exact ret (.mk k v [.mk ak av az, .mk bk bv bz]) _ _ (by simp [foldN, binN, hb0, e4, e5, e6, e8]) (by simp [Ex.cells, Ex.cellsL])
        · simp only [List.map_cons, List.map_nil] at ret ⊢
          have qb := CtR.readsI d (foldE d b) p (CtL.fold_shape d b hb).1
          have qc := CtR.readsI d (foldE d c) p (CtL.fold_shape d c hc).1
          generalize foldE d a = a' at *
          generalize foldE d b = b' at *
          generalize foldE d c = c' at *
          obtain ⟨ak, av, az⟩ := a'
          simp only [foldN, selN] at ret
          by_cases h1 : ak = 1
          · subst h1
            have i1 : isC (.mk 1 av az) = true := rfl
            have i2 : (Ex.mk 1 av az).value = av := rfl
            rw [i1, i2] at ret
            cases hqb : quietE d b' with
            | false =>
              rw [hqb] at qb ret
              obtain ⟨bk, bv, bz⟩ := b'
              obtain ⟨ck, cv, cz⟩ := c'
              simp only [Bool.not_false] at qb
              refine drvL Tryz.func115 ?_
              simp only [go_sem, Ex.cellsL]
              iterate 8 ((try (refine drvZ Tryz.func115 ?_; simp only [go_sem, Ex.cellsL])); ((with_reducible and_intros) <;> try exact sd); (try first | refine XK.p qb ok175 ?_ | refine XK.gp qb ok175 ?_ | refine XK.gs (DB false) ?_))
              exact ret (.mk 11 v [.mk 1 av az, .mk bk bv bz, .mk ck cv cz]) _ _ (by simp) (by simp [Ex.cells, Ex.cellsL])
            | true =>
              rw [hqb] at qb ret
              simp only [Bool.not_true] at qb
              cases hqc : quietE d c' with
              | false =>
                rw [hqc] at qc ret
                obtain ⟨bk, bv, bz⟩ := b'
                obtain ⟨ck, cv, cz⟩ := c'
                simp only [Bool.not_false] at qc
                refine drvL Tryz.func115 ?_
                simp only [go_sem, Ex.cellsL]
                iterate 8 ((try (refine drvZ Tryz.func115 ?_; simp only [go_sem, Ex.cellsL])); ((with_reducible and_intros) <;> try exact sd); (try first | refine XK.p qb ok175 ?_ | refine XK.gp qb ok175 ?_ | refine XK.p qc ok175 ?_ | refine XK.gp qc ok175 ?_))
                exact ret (.mk 11 v [.mk 1 av az, .mk bk bv bz, .mk ck cv cz]) _ _ (by simp) (by simp [Ex.cells, Ex.cellsL])
              | true =>
                rw [hqc] at qc ret
                obtain ⟨bk, bv, bz⟩ := b'
                obtain ⟨ck, cv, cz⟩ := c'
                simp only [Bool.not_true] at qc
                by_cases h0 : av = 0
                · subst h0
                  refine drvL Tryz.func115 ?_
                  simp only [go_sem, Ex.cellsL]
                  iterate 10 ((try (refine drvZ Tryz.func115 ?_; simp only [go_sem, Ex.cellsL])); ((with_reducible and_intros) <;> try exact sd); (try first | refine XK.p qb ok175 ?_ | refine XK.gp qb ok175 ?_ | refine XK.p qc ok175 ?_ | refine XK.gp qc ok175 ?_))
                  exact ret (.mk ck cv cz) _ _ (by simp) (by simp [Ex.cells, Ex.cellsL])
                · have g0 : (av != 0) = true := by simp [h0]
                  refine drvL Tryz.func115 ?_
                  simp only [go_sem, Ex.cellsL, g0, h0]
                  iterate 10 ((try (refine drvZ Tryz.func115 ?_; simp only [go_sem, Ex.cellsL, g0, h0])); ((with_reducible and_intros) <;> try exact sd); (try first | refine XK.p qb ok175 ?_ | refine XK.gp qb ok175 ?_ | refine XK.p qc ok175 ?_ | refine XK.gp qc ok175 ?_))
                  exact ret (.mk bk bv bz) _ _ (by simp [h0]) (by simp [Ex.cells, Ex.cellsL])
          · have i1 : isC (.mk ak av az) = false := by simp [isC, Ex.kind, h1]
            have g1 : (ak != 1) = true := by simp [h1]
            rw [i1] at ret
            obtain ⟨bk, bv, bz⟩ := b'
            obtain ⟨ck, cv, cz⟩ := c'
            refine drvL Tryz.func115 ?_
            simp only [go_sem, Ex.cellsL, h1, g1]
            iterate 8 ((try (refine drvZ Tryz.func115 ?_; simp only [go_sem, Ex.cellsL, h1, g1])); ((with_reducible and_intros) <;> try exact sd); (try first | refine XK.gs (DB false) ?_))
            exact ret (.mk 11 v [.mk ak av az, .mk bk bv bz, .mk ck cv cz]) _ _ (by simp) (by simp [Ex.cells, Ex.cellsL])
    · simp only [go_sem, TmOK, DM, DMs, CM, CMs, forall_eq, exists_eq_left, Mq, HpOK, LowOK]
      simp [exC]
end Go.Proofs.YtjjjidcbokbhpaaGreat.CtD
namespace Go.Proofs.YtjjjidcbokbhpaaGreat.CtD
open Go Go.CT CtF CtR
open CtL (isC foldE foldL foldC foldV foldS foldP)
theorem foldL_snoc (f : St1 → List St1) (l : List St1) (x : St1) : foldL f (l ++ [x]) = foldL f l ++ f x := by simp [foldL]
theorem foldL_len {p : Pg} {d : Nat} {l : List St1} (hok : ∀ s ∈ l, stmtOK p d s = true) (hz : lsize d l ≤ 1000) : (foldL (foldS d) l).length ≤ 1000 := by
  cases d with
  | zero =>
    cases l with
    | nil => simp [foldL]
    | cons a r => have := hok a (by simp); simp [stmtOK] at this
  | succ d =>
    have h := CtL.foldL_ok l fun s hs => CtL.fold_stmt (d + 1) s (hok s hs)
    have := len_le_lsize (d := d) (foldL (foldS (d + 1)) l)
    omega
theorem take_lsize (d : Nat) (l : List St1) (i : Nat) : lsize d (l.take i) ≤ lsize d l := by
  have := tsum_le (tsize d) l i
  unfold tsum at this
  exact this
theorem stC_cells (l : List St1) : (St1.cellsL l).flatten = stC l := by rw [St1.cellsL_eq]; rfl
theorem CMs_st {hT hS : Hp} {r : Nat → Option Nat} {fz : List Nat} (l : List St1) : CMs hT r hS fz (stC l) (stC l) = True := eq_true (CMs.kf (stC_kf l))
def BlkF (p : Pg) (d : Nat) : Prop := ∀ (l : List St1), (∀ s ∈ l, stmtOK p d s = true) → lsize d l ≤ 1000 →
  DC Tryz.prog 51 [.c (.isl 11 (St1.cellsL l))] [] (fun r h => r = .c (.isl 11 (St1.cellsL (foldL (foldS d) l))) ∧ h = [])
theorem stC_one (s : St1) : stC [s] = s.cells := by simp [stC]
theorem foldSt1 {p : Pg} (d : Nat) (ih : ∀ d', d = d' + 1 → BlkF p d') : BlkF p d := by
  have hmx := mx_eq
  intro l hok hz
  have hll : l.length ≤ 1000 := by
    have h : ∀ s ∈ l, 1 ≤ tsize d s := fun s hs => by
      cases d with
      | zero => have := hok s hs; simp [stmtOK] at this
      | succ d => exact tsize_pos s
    have := len_le_sum (tsize d) l h
    unfold lsize at hz
    omega
  have hT : ∀ i x, l[i]? = some x → foldL (foldS d) (l.take (i + 1)) = foldL (foldS d) (l.take i) ++ foldS d x := fun i x hx => by
    rw [List.take_add_one, hx]; exact foldL_snoc _ _ _
  have hTl : ∀ i, (foldL (foldS d) (l.take i)).length ≤ 1000 := fun i => foldL_len (fun s hs => hok s (List.mem_of_mem_take hs)) (Nat.le_trans (take_lsize d l i) hz)
  have hsumz := fun i => tsum_le (tsize d) l i
  have hlz : lsize d l = (l.map (tsize d)).sum := rfl
  generalize hR : (fun (r : D) (h : List (Option (List C))) => r = .c (.isl 11 (St1.cellsL (foldL (foldS d) l))) ∧ h = []) = R
  have hfe := fun e he => foldIE 5 e p he
  unfold BlkF at ih
  refine dcZ Tryz.func51 ?_
  simp only [go_sem]
  iterate 3 ((try (refine drvZ Tryz.func51 ?_; simp only [go_sem])); ((with_reducible and_intros) <;> try exact sd))
  refine Go.loopQ (fun i : Nat => [(3, .c (.msl 67 11 0 (foldL (foldS d) (l.take i)).length)), (6, .c (.isl 11 (St1.cellsL l))), (7, DI .i64 l.length), (8, DI .i64 i)])
    (fun i => [(67, some (stC (foldL (foldS d) (l.take i))))])
    8192 (fun i => i ≤ l.length) (fun i => l.length - i) ?_ 0 (fun j => if j = 67 then none else some j) [] _ (Nat.zero_le _) ?_
  · intro i hi again
    rcases Nat.lt_or_ge i l.length with hlt | hge
    · obtain ⟨⟨k, t, ix, ⟨vk, vv, vks⟩, c, b, e⟩, hx⟩ : ∃ x, l[i]? = some x := ⟨l[i], by simp [hlt]⟩
      have hso := hok _ (List.mem_of_getElem? hx)
      obtain ⟨d, rfl⟩ : ∃ d', d = d' + 1 := by
        cases d with
        | zero => simp [stmtOK] at hso
        | succ d => exact ⟨d, rfl⟩
      have ih := ih d rfl
      have hTi := hT i _ hx
      have hTl := hTl i
      have hsu := hsumz (i + 1)
      rw [tsum_succ (tsize (d + 1)) l i _ hx] at hsu
      obtain ⟨hh, hbo, heo⟩ := stmtOK_succ hso
      have hts : tsize (d + 1) (.mk k t ix (.mk vk vv vks) c b e) = 1 + lsize d b + lsize d e := by simp [tsize, lsize]
      clear hT
      generalize foldL (foldS (d + 1)) (l.take i) = T at *
      have hclT := stC_len T
      rcases head_kind hh with ⟨hk | hk, ht0, ht1, hrv⟩ | ⟨hk, ht0, ht1, hri, hat, hrv⟩ | ⟨hk, hrv⟩ | ⟨hk, hc1, hc3⟩
      · subst hk
        obtain ⟨rfl, hix⟩ := (CtL.head_parts hh).2.1 (by decide)
        obtain rfl := hix (by decide)
        obtain ⟨rfl, rfl⟩ := (CtL.head_parts hh).2.2.1 (by decide) (by decide)
        have hfo := hfe _ (right_shape hrv).1
        have hib := ih [] (by simp) (by simp [lsize])
        rw [show foldL (foldS d) [] = [] from rfl] at hib
        have hdS : foldS (d + 1) (.mk 1 t CtL.e0 (.mk vk vv vks) 0 [] []) = [.mk 1 t CtL.e0 (foldE 5 (.mk vk vv vks)) 0 [] []] := by simp [foldS, foldC, foldV, foldL]
        rw [hdS] at hTi
        generalize foldE 5 (.mk vk vv vks) = E at *
        obtain ⟨ek, ev, ez⟩ := E
        have hie := hib
        simp only [Ex.cells, Ex.cellsL, CtL.e0] at hfo hx
        refine drvL Tryz.func51 ?_
        simp only [go_sem, hx, hlt, hclT, List.length_append]
        iterate 18 ((try (refine drvZ Tryz.func51 ?_; simp only [go_sem, hx, hlt, hclT, List.length_append])); ((with_reducible and_intros) <;> try exact sd); (try first | refine XK.p hfo ok115 ?_ | refine XK.gp hfo ok115 ?_ | refine XK.p hib ok51 ?_ | refine XK.gp hib ok51 ?_ | refine XK.p hie ok51 ?_ | refine XK.gp hie ok51 ?_))
        refine again (i + 1) (fun j => if j = 67 then some 12736 else some j) [] _ hlt (by omega) ?_
        rw [hTi]
        simp only [go_sem, TmOK, DM, DMs, CM, CMs, forall_eq, exists_eq_left, Mq, HpOK, LowOK, stC_app2, List.length_append, List.append_nil, List.length_nil, Nat.add_zero]
        simp [stC_cells, stC_one, St1.cells, St1.cellsL, Ex.cells, Ex.cellsL, CtL.e0, CMs_st]
        try exact CMs.app (CMs.kf (stC_kf T)) (by simp [CMs, CM, CMs_st, CtL.e0, St1.cells, St1.cellsL, Ex.cells, Ex.cellsL])
        try exact CMs.app (CMs.kf (stC_kf T)) (CMs.kf (stC_kf _))
      · subst hk
        obtain ⟨rfl, hix⟩ := (CtL.head_parts hh).2.1 (by decide)
        obtain rfl := hix (by decide)
        obtain ⟨rfl, rfl⟩ := (CtL.head_parts hh).2.2.1 (by decide) (by decide)
        have hfo := hfe _ (right_shape hrv).1
        have hib := ih [] (by simp) (by simp [lsize])
        rw [show foldL (foldS d) [] = [] from rfl] at hib
        have hdS : foldS (d + 1) (.mk 5 t CtL.e0 (.mk vk vv vks) 0 [] []) = [.mk 5 t CtL.e0 (foldE 5 (.mk vk vv vks)) 0 [] []] := by simp [foldS, foldC, foldV, foldL]
        rw [hdS] at hTi
        generalize foldE 5 (.mk vk vv vks) = E at *
        obtain ⟨ek, ev, ez⟩ := E
        have hie := hib
        simp only [Ex.cells, Ex.cellsL, CtL.e0] at hfo hx
        refine drvL Tryz.func51 ?_
        simp only [go_sem, hx, hlt, hclT, List.length_append]
        iterate 18 ((try (refine drvZ Tryz.func51 ?_; simp only [go_sem, hx, hlt, hclT, List.length_append])); ((with_reducible and_intros) <;> try exact sd); (try first | refine XK.p hfo ok115 ?_ | refine XK.gp hfo ok115 ?_ | refine XK.p hib ok51 ?_ | refine XK.gp hib ok51 ?_ | refine XK.p hie ok51 ?_ | refine XK.gp hie ok51 ?_))
        refine again (i + 1) (fun j => if j = 67 then some 12736 else some j) [] _ hlt (by omega) ?_
        rw [hTi]
        simp only [go_sem, TmOK, DM, DMs, CM, CMs, forall_eq, exists_eq_left, Mq, HpOK, LowOK, stC_app2, List.length_append, List.append_nil, List.length_nil, Nat.add_zero]
        simp [stC_cells, stC_one, St1.cells, St1.cellsL, Ex.cells, Ex.cellsL, CtL.e0, CMs_st]
        try exact CMs.app (CMs.kf (stC_kf T)) (by simp [CMs, CM, CMs_st, CtL.e0, St1.cells, St1.cellsL, Ex.cells, Ex.cellsL])
        try exact CMs.app (CMs.kf (stC_kf T)) (CMs.kf (stC_kf _))
      · subst hk
        obtain ⟨ik, iv, iks⟩ := ix
        obtain ⟨rfl, _⟩ := (CtL.head_parts hh).2.1 (by decide)
        obtain ⟨rfl, rfl⟩ := (CtL.head_parts hh).2.2.1 (by decide) (by decide)
        have hfo := hfe _ (right_shape hrv).1
        have hib := ih [] (by simp) (by simp [lsize])
        rw [show foldL (foldS d) [] = [] from rfl] at hib
        have hdS : foldS (d + 1) (.mk 2 t (.mk ik iv iks) (.mk vk vv vks) 0 [] []) = [.mk 2 t (.mk ik iv iks) (foldE 5 (.mk vk vv vks)) 0 [] []] := by simp [foldS, foldC, foldV, foldL]
        rw [hdS] at hTi
        generalize foldE 5 (.mk vk vv vks) = E at *
        obtain ⟨ek, ev, ez⟩ := E
        have hie := hib
        simp only [Ex.cells] at hfo
        refine drvL Tryz.func51 ?_
        simp only [go_sem, hx, hlt, hclT, List.length_append]
        iterate 18 ((try (refine drvZ Tryz.func51 ?_; simp only [go_sem, hx, hlt, hclT, List.length_append])); ((with_reducible and_intros) <;> try exact sd); (try first | refine XK.p hfo ok115 ?_ | refine XK.gp hfo ok115 ?_ | refine XK.p hib ok51 ?_ | refine XK.gp hib ok51 ?_ | refine XK.p hie ok51 ?_ | refine XK.gp hie ok51 ?_))
        refine again (i + 1) (fun j => if j = 67 then some 12736 else some j) [] _ hlt (by omega) ?_
        rw [hTi]
        simp only [go_sem, TmOK, DM, DMs, CM, CMs, forall_eq, exists_eq_left, Mq, HpOK, LowOK, stC_app2, List.length_append, List.append_nil, List.length_nil, Nat.add_zero]
        simp [stC_cells, stC_one, St1.cells, St1.cellsL, Ex.cells, Ex.cellsL, CtL.e0, CMs_st]
        try exact CMs.app (CMs.kf (stC_kf T)) (by simp [CMs, CM, CMs_st, CtL.e0, St1.cells, St1.cellsL, Ex.cells, Ex.cellsL])
        try exact CMs.app (CMs.kf (stC_kf T)) (CMs.kf (stC_kf _))
      · subst hk
        obtain ⟨rfl, hix⟩ := (CtL.head_parts hh).2.1 (by decide)
        obtain rfl := hix (by decide)
        obtain rfl := (CtL.head_parts hh).2.2.2 (.inl rfl)
        have hfo := hfe _ (right_shape hrv).1
        have hib := ih b hbo (by omega)
        have hie := ih e heo (by omega)
        have hbl := foldL_len hbo (by omega)
        have hel := foldL_len heo (by omega)
        have hdS : foldS (d + 1) (.mk 3 0 CtL.e0 (.mk vk vv vks) 0 b e) = foldC 3 0 CtL.e0 (foldE 5 (.mk vk vv vks)) 0 (foldL (foldS d) b) (foldL (foldS d) e) := by simp [foldS, foldV]
        rw [hdS] at hTi
        generalize foldE 5 (.mk vk vv vks) = E at *
        generalize foldL (foldS d) b = B1 at *
        generalize foldL (foldS d) e = B2 at *
        have hc1 := stC_len B1
        have hc2 := stC_len B2
        obtain ⟨ek, ev, ez⟩ := E
        simp only [Ex.cells, Ex.cellsL, CtL.e0] at hfo hx
        by_cases hek : ek = 1
        · subst hek
          by_cases hev : ev = 0
          · subst hev
            rw [show foldC 3 0 CtL.e0 (.mk 1 0 ez) 0 B1 B2 = B2 from rfl] at hTi
            refine drvL Tryz.func51 ?_
            simp only [go_sem, hx, hlt, hclT, List.length_append, stC_cells]
            iterate 18 ((try (refine drvZ Tryz.func51 ?_; simp only [go_sem, hx, hlt, hclT, List.length_append, stC_cells])); ((with_reducible and_intros) <;> try exact sd); (try first | refine XK.p hfo ok115 ?_ | refine XK.gp hfo ok115 ?_ | refine XK.p hib ok51 ?_ | refine XK.gp hib ok51 ?_ | refine XK.p hie ok51 ?_ | refine XK.gp hie ok51 ?_))
            refine again (i + 1) (fun j => if j = 67 then some 11520 else some j) [] _ hlt (by omega) ?_
            rw [hTi]
            simp only [go_sem, TmOK, DM, DMs, CM, CMs, forall_eq, exists_eq_left, Mq, HpOK, LowOK, stC_app2, List.length_append, List.append_nil, List.length_nil, Nat.add_zero]
            simp [stC_cells, stC_one, St1.cells, St1.cellsL, Ex.cells, Ex.cellsL, CtL.e0, CMs_st]
            try exact CMs.app (CMs.kf (stC_kf T)) (by simp [CMs, CM, CMs_st, CtL.e0, St1.cells, St1.cellsL, Ex.cells, Ex.cellsL])
            try exact CMs.app (CMs.kf (stC_kf T)) (CMs.kf (stC_kf _))
          · have g1 : (ev != 0) = true := by simp [hev]
            rw [show foldC 3 0 CtL.e0 (.mk 1 ev ez) 0 B1 B2 = B1 by simp [foldC, isC, Ex.kind, Ex.value, hev]] at hTi
            refine drvL Tryz.func51 ?_
            simp only [go_sem, hx, hlt, hclT, List.length_append, g1, hev, stC_cells]
            iterate 18 ((try (refine drvZ Tryz.func51 ?_; simp only [go_sem, hx, hlt, hclT, List.length_append, g1, hev, stC_cells])); ((with_reducible and_intros) <;> try exact sd); (try first | refine XK.p hfo ok115 ?_ | refine XK.gp hfo ok115 ?_ | refine XK.p hib ok51 ?_ | refine XK.gp hib ok51 ?_ | refine XK.p hie ok51 ?_ | refine XK.gp hie ok51 ?_))
            refine again (i + 1) (fun j => if j = 67 then some 10880 else some j) [] _ hlt (by omega) ?_
            rw [hTi]
            simp only [go_sem, TmOK, DM, DMs, CM, CMs, forall_eq, exists_eq_left, Mq, HpOK, LowOK, stC_app2, List.length_append, List.append_nil, List.length_nil, Nat.add_zero]
            simp [stC_cells, stC_one, St1.cells, St1.cellsL, Ex.cells, Ex.cellsL, CtL.e0, CMs_st]
            try exact CMs.app (CMs.kf (stC_kf T)) (by simp [CMs, CM, CMs_st, CtL.e0, St1.cells, St1.cellsL, Ex.cells, Ex.cellsL])
            try exact CMs.app (CMs.kf (stC_kf T)) (CMs.kf (stC_kf _))
        · have g1 : (ek == 1) = false := by simp [hek]
          rw [show foldC 3 0 CtL.e0 (.mk ek ev ez) 0 B1 B2 = [.mk 3 0 CtL.e0 (.mk ek ev ez) 0 B1 B2] by simp [foldC, isC, Ex.kind, hek]] at hTi
          refine drvL Tryz.func51 ?_
          simp only [go_sem, hx, hlt, hclT, List.length_append, g1, hek]
          iterate 18 ((try (refine drvZ Tryz.func51 ?_; simp only [go_sem, hx, hlt, hclT, List.length_append, g1, hek])); ((with_reducible and_intros) <;> try exact sd); (try first | refine XK.p hfo ok115 ?_ | refine XK.gp hfo ok115 ?_ | refine XK.p hib ok51 ?_ | refine XK.gp hib ok51 ?_ | refine XK.p hie ok51 ?_ | refine XK.gp hie ok51 ?_))
          refine again (i + 1) (fun j => if j = 67 then some 12736 else some j) [] _ hlt (by omega) ?_
          rw [hTi]
          simp only [go_sem, TmOK, DM, DMs, CM, CMs, forall_eq, exists_eq_left, Mq, HpOK, LowOK, stC_app2, List.length_append, List.append_nil, List.length_nil, Nat.add_zero]
          simp [stC_cells, stC_one, St1.cells, St1.cellsL, Ex.cells, Ex.cellsL, CtL.e0, CMs_st]
          try exact CMs.app (CMs.kf (stC_kf T)) (by simp [CMs, CM, CMs_st, CtL.e0, St1.cells, St1.cellsL, Ex.cells, Ex.cellsL])
          try exact CMs.app (CMs.kf (stC_kf T)) (CMs.kf (stC_kf _))
      · subst hk
        obtain ⟨rfl, hix, hv0⟩ := (CtL.head_parts hh).1 rfl
        subst hix
        obtain ⟨rfl, rfl, rfl⟩ : vk = 0 ∧ vv = 0 ∧ vks = [] := by simpa [CtL.e0] using hv0
        obtain rfl := (CtL.head_parts hh).2.2.2 (.inr rfl)
        have hib := ih b hbo (by omega)
        have hie := ih [] (by simp) (by simp [lsize])
        rw [show foldL (foldS d) [] = [] from rfl] at hie
        have hbl := foldL_len hbo (by omega)
        have hdS : foldS (d + 1) (.mk 4 0 CtL.e0 (.mk 0 0 []) c b []) = foldC 4 0 CtL.e0 (.mk 0 0 []) c (foldL (foldS d) b) [] := by simp [foldS, foldV, foldL]
        rw [hdS] at hTi
        generalize foldL (foldS d) b = B1 at *
        have hc1 := stC_len B1
        have hfo := hib
        simp only [Ex.cells, Ex.cellsL, CtL.e0] at hx
        by_cases hcc : c = 1
        · subst hcc
          rw [show foldC 4 0 CtL.e0 (.mk 0 0 []) 1 B1 [] = B1 from rfl] at hTi
          refine drvL Tryz.func51 ?_
          simp only [go_sem, hx, hlt, hclT, List.length_append, stC_cells]
          iterate 18 ((try (refine drvZ Tryz.func51 ?_; simp only [go_sem, hx, hlt, hclT, List.length_append, stC_cells])); ((with_reducible and_intros) <;> try exact sd); (try first | refine XK.p hfo ok115 ?_ | refine XK.gp hfo ok115 ?_ | refine XK.p hib ok51 ?_ | refine XK.gp hib ok51 ?_ | refine XK.p hie ok51 ?_ | refine XK.gp hie ok51 ?_))
          refine again (i + 1) (fun j => if j = 67 then some 11776 else some j) [] _ hlt (by omega) ?_
          rw [hTi]
          simp only [go_sem, TmOK, DM, DMs, CM, CMs, forall_eq, exists_eq_left, Mq, HpOK, LowOK, stC_app2, List.length_append, List.append_nil, List.length_nil, Nat.add_zero]
          simp [stC_cells, stC_one, St1.cells, St1.cellsL, Ex.cells, Ex.cellsL, CtL.e0, CMs_st]
          try exact CMs.app (CMs.kf (stC_kf T)) (by simp [CMs, CM, CMs_st, CtL.e0, St1.cells, St1.cellsL, Ex.cells, Ex.cellsL])
          try exact CMs.app (CMs.kf (stC_kf T)) (CMs.kf (stC_kf _))
        · have g1 : (c == 1) = false := by simp [hcc]
          cases B1 with
          | nil =>
            rw [show foldC 4 0 CtL.e0 (.mk 0 0 []) c [] [] = [] by simp [foldC, hcc]] at hTi
            refine drvL Tryz.func51 ?_
            simp only [go_sem, hx, hlt, hclT, List.length_append, g1, hcc, Int.natCast_zero, St1.cellsL, beq_self_eq_true]
            iterate 18 ((try (refine drvZ Tryz.func51 ?_; simp only [go_sem, hx, hlt, hclT, List.length_append, g1, hcc, Int.natCast_zero, St1.cellsL, beq_self_eq_true])); ((with_reducible and_intros) <;> try exact sd); (try first | refine XK.p hfo ok115 ?_ | refine XK.gp hfo ok115 ?_ | refine XK.p hib ok51 ?_ | refine XK.gp hib ok51 ?_ | refine XK.p hie ok51 ?_ | refine XK.gp hie ok51 ?_))
            refine again (i + 1) some [] _ hlt (by omega) ?_
            rw [hTi]
            simp only [go_sem, TmOK, DM, DMs, CM, CMs, forall_eq, exists_eq_left, Mq, HpOK, LowOK, stC_app2, List.length_append, List.append_nil, List.length_nil, Nat.add_zero]
            simp [stC_cells, stC_one, St1.cells, St1.cellsL, Ex.cells, Ex.cellsL, CtL.e0, CMs_st]
            try exact CMs.app (CMs.kf (stC_kf T)) (by simp [CMs, CM, CMs_st, CtL.e0, St1.cells, St1.cellsL, Ex.cells, Ex.cellsL])
            try exact CMs.app (CMs.kf (stC_kf T)) (CMs.kf (stC_kf _))
          | cons s0 r0 =>
            rw [show foldC 4 0 CtL.e0 (.mk 0 0 []) c (s0 :: r0) [] = [.mk 4 0 CtL.e0 (.mk 0 0 []) c (s0 :: r0) []] by simp [foldC, hcc]] at hTi
            have hne : ((((s0 :: r0).length : Nat) : Int) == 0) = false := by simp; omega
            have hne2 : ((((s0 :: r0).length : Nat) : Int) = 0) = False := eq_false (by simp; omega)
            generalize s0 :: r0 = B1 at *
            refine drvL Tryz.func51 ?_
            simp only [go_sem, hx, hlt, hclT, List.length_append, g1, hcc, hne, hne2]
            iterate 18 ((try (refine drvZ Tryz.func51 ?_; simp only [go_sem, hx, hlt, hclT, List.length_append, g1, hcc, hne, hne2])); ((with_reducible and_intros) <;> try exact sd); (try first | refine XK.p hfo ok115 ?_ | refine XK.gp hfo ok115 ?_ | refine XK.p hib ok51 ?_ | refine XK.gp hib ok51 ?_ | refine XK.p hie ok51 ?_ | refine XK.gp hie ok51 ?_))
            refine again (i + 1) (fun j => if j = 67 then some 12416 else some j) [] _ hlt (by omega) ?_
            rw [hTi]
            simp only [go_sem, TmOK, DM, DMs, CM, CMs, forall_eq, exists_eq_left, Mq, HpOK, LowOK, stC_app2, List.length_append, List.append_nil, List.length_nil, Nat.add_zero]
            simp [stC_cells, stC_one, St1.cells, St1.cellsL, Ex.cells, Ex.cellsL, CtL.e0, CMs_st]
            try exact CMs.app (CMs.kf (stC_kf T)) (by simp [CMs, CM, CMs_st, CtL.e0, St1.cells, St1.cellsL, Ex.cells, Ex.cellsL])
            try exact CMs.app (CMs.kf (stC_kf T)) (CMs.kf (stC_kf _))
    · have hn2 : ¬ i < l.length := by omega
      obtain rfl : i = l.length := by omega
      clear hT hTl again
      rw [List.take_length]
      generalize foldL (foldS d) l = T at *
      refine drvL Tryz.func51 ?_
      simp only [go_sem, hn2]
      iterate 3 ((try (refine drvZ Tryz.func51 ?_; simp only [go_sem, hn2])); ((with_reducible and_intros) <;> try exact sd))
      refine RetOb.ofQ (fun _ => none) [67] (.c (.isl 11 (St1.cellsL T))) [] ?_ (by rw [← hR]; exact ⟨rfl, rfl⟩) (by simp)
      have g1 := stC_cells T
      have g2 : ∀ x ∈ St1.cellsL T, x.length = 11 := fun x hx => by rw [St1.cellsL_eq] at hx; obtain ⟨e, _, rfl⟩ := List.mem_map.1 hx; exact St1.cells_len e
      have g3 : ∀ x ∈ St1.cellsL T, ∀ c ∈ x, kf c = true := fun x hx => by rw [St1.cellsL_eq] at hx; obtain ⟨e, _, rfl⟩ := List.mem_map.1 hx; exact st_kf e
      simp [enumL, hOf, DM, CM, CMs, HpOK, LowOK, upd, g1, St1.cellsL_length]
      exact ⟨g2, g3⟩
  · simp only [go_sem, TmOK, DM, DMs, CM, CMs, forall_eq, exists_eq_left, Mq, HpOK, LowOK]
    simp [foldL, stC, CMs]
theorem foldSt {p : Pg} : ∀ d, BlkF p d
  | 0 => foldSt1 0 fun _ h => by omega
  | d + 1 => foldSt1 (d + 1) fun d' h => by
    obtain rfl : d = d' := by omega
    exact foldSt d
end Go.Proofs.YtjjjidcbokbhpaaGreat.CtD
