/- Contracts of functions of the program, one behind the other, as plain data: what each call returns and which blocks it leaves. -/
import Derived.Test.YtpphageokplgoaaGreatPFacts
import Derived.Test.YtpphageokplgoaaGreatPAj
import Derived.Test.YtpphageokplgoaaGreatPAk
import Derived.Test.YtpphageokplgoaaGreatPAl
import Derived.Test.YtpphageokplgoaaGreatPAn
import Derived.Test.YtpphageokplgoaaGreatPAp
import Derived.Test.YtpphageokplgoaaGreatPAt
import Derived.Test.YtpphageokplgoaaGreatPAy
import Derived.Test.YtpphageokplgoaaGreatPAz
import Derived.Test.YtpphageokplgoaaGreatPBb
import Derived.Test.YtpphageokplgoaaGreatPBc
import Derived.Test.YtpphageokplgoaaGreatPAiF
import Derived.Test.YtpphageokplgoaaGreatPAw
import Derived.Test.YtpphageokplgoaaGreatPAx
import Derived.Test.YtpphageokplgoaaGreatPAm
import Derived.Test.YtpphageokplgoaaGreatPAo
import Derived.Test.YtpphageokplgoaaGreatPAr
set_option linter.unusedVariables false
set_option linter.unusedSimpArgs false
set_option maxHeartbeats 16000000
set_option maxRecDepth 100000
namespace Go.Proofs.YtpphageokplgoaaGreat.CtD
open Go Go.CT CtF CtR
open CtL (shE dupS dupL pairP prodP dblOK)
theorem stC_app2 (a b : List St1) : stC (a ++ b) = stC a ++ stC b := by simp [stC]
theorem dupS_len (n k : Nat) : ∀ (d : Nat) (s : St1), (dupS n k d s).length ≤ 2
 | 0, s => by simp [dupS]
 | d + 1, .mk kd t ix v c b e => by
  simp only [dupS]
  split
  ·simp
  ·split <;> simp
theorem dupL_len (n k d : Nat) : ∀ l : List St1, (dupL n k d l).length ≤ 2 * l.length
 | [] => by simp [dupL]
 | s :: r => by
  have h1 := dupS_len n k d s
  have h2 := dupL_len n k d r
  simp only [dupL, List.map_cons, List.flatten_cons, List.length_append, List.length_cons] at h2 ⊢
  omega
theorem dupL_snoc (n k d : Nat) (l : List St1) (s : St1) : dupL n k d (l ++ [s]) = dupL n k d l ++ dupS n k d s := by simp [dupL]
def BlkD (p : Pg) (d : Nat) : Prop := ∀ (l : List St1), (∀ s ∈ l, stmtOK p d s = true) → lsize d l ≤ 1000 →
 DC Tryz.prog 85 [.agg p.cells, .c (.isl 11 (St1.cellsL l))] [] (fun r h => r = .c (.isl 11 (St1.cellsL (dupL p.vars.length p.arrays.length d l))) ∧ h = [])
theorem blockD1 {p : Pg} (hpv : p.vars.length ≤ 1000) (hpa : p.arrays.length ≤ 1000) (d : Nat) (ih : ∀ d', d = d' + 1 → BlkD p d') : BlkD p d := by
 have hmx := mx_eq
 intro l hok hz
 have hll : l.length ≤ 1000 := by
  have h : ∀ s ∈ l, 1 ≤ tsize d s := fun s hs => by
   cases d with
   | zero => have := hok s hs; simp [stmtOK] at this
   | succ d => exact tsize_pos s
  have := len_le_sum (tsize d) l h
  unfold lsize at hz
  omega
 have hT : ∀ i x, l[i]? = some x → dupL p.vars.length p.arrays.length d (l.take (i + 1)) = dupL p.vars.length p.arrays.length d (l.take i) ++ dupS p.vars.length p.arrays.length d x := fun i x hx => by
  rw [List.take_add_one, hx]; exact dupL_snoc _ _ _ _ _
 have hTl : ∀ i, (dupL p.vars.length p.arrays.length d (l.take i)).length ≤ 2000 := fun i => by
  have := dupL_len p.vars.length p.arrays.length d (l.take i)
  rw [List.length_take] at this
  omega
 have hsumz := fun i => tsum_le (tsize d) l i
 have hlz : lsize d l = (l.map (tsize d)).sum := rfl
 generalize hR : (fun (r : D) (h : List (Option (List C))) => r = .c (.isl 11 (St1.cellsL (dupL p.vars.length p.arrays.length d l))) ∧ h = []) = R
 have hsS := fun e he => shiftS p p.vars.length p.arrays.length hpv hpa hpv hpa 5 e he
 have hs0 := shiftOf p.vars.length p.arrays.length hpv hpa 4 0 0 [] (by simp) (by omega) (by simp)
 unfold BlkD at ih
 obtain ⟨vs, ar, bd⟩ := p
 simp only at hpv hpa hT hTl hsS hs0
 generalize hn : vs.length = n at *
 generalize hk0 : ar.length = kk at *
 refine dcZ Tryz.func85 ?_
 simp (maxSteps := 9999999) only [go_sem, hn, hk0]
 iterate 3 ((try (refine drvZ Tryz.func85 ?_; simp (maxSteps := 9999999) only [go_sem, hn, hk0])); (try ((with_reducible refine And.intro ?_ ?_) <;> (repeat' with_reducible apply And.intro) <;> try exact sd)))
 refine Go.loopQ (fun i : Nat => [(1, .c (.isl 11 (St1.cellsL l))), (2, .c (.ptr 0 0)), (5, DI .i64 n), (6, DI .i64 kk), (7, .c (.msl 67 11 0 (dupL n kk d (l.take i)).length)), (8, DI .i64 i)])
  (fun i => [(0, some (Pg.cells ⟨vs, ar, bd⟩)), (67, some (stC (dupL n kk d (l.take i))))])
  8192 (fun i => i ≤ l.length) (fun i => l.length - i) ?_ 0 (fun j => if j = 67 then some 640 else some j) [] _ (Nat.zero_le _) ?_
 ·intro i hi again
  rcases Nat.lt_or_ge i l.length with hlt | hge
  ·obtain ⟨⟨k, t, ix, ⟨vk, vv, vks⟩, c, b, e⟩, hx⟩ : ∃ x, l[i]? = some x := ⟨l[i], by simp [hlt]⟩
   have hso := hok _ (List.mem_of_getElem? hx)
   obtain ⟨d, rfl⟩ : ∃ d', d = d' + 1 := by
    cases d with
    | zero => simp [stmtOK] at hso
    | succ d => exact ⟨d, rfl⟩
   have ih := ih d rfl
   have hTi := hT i _ hx
   have hTl := hTl i
   have hsu := hsumz (i + 1)
   rw [tsum_succ (tsize (d + 1)) l i _ hx] at hsu
   obtain ⟨hh, hbo, heo⟩ := stmtOK_succ hso
   have hts : tsize (d + 1) (.mk k t ix (.mk vk vv vks) c b e) = 1 + lsize d b + lsize d e := by simp [tsize, lsize]
   clear hT
   generalize dupL n kk (d + 1) (l.take i) = T at *
   have hclT := stC_len T
   have hkd := head_kind hh
   simp only [hn, hk0] at hkd
   rcases hkd with ⟨hk | hk, ht0, ht1, hrv⟩ | ⟨hk, ht0, ht1, hri, hat, hrv⟩ | ⟨hk, hrv⟩ | ⟨hk, hc1, hc3⟩
   ·subst hk
    obtain ⟨rfl, hix⟩ := (CtL.head_parts hh).2.1 (by decide)
    obtain rfl := hix (by decide)
    obtain ⟨rfl, rfl⟩ := (CtL.head_parts hh).2.2.1 (by decide) (by decide)
    have hci := copyE _ CtL.FE_e0
    have hcv := copyE _ (FE_right hrv)
    have hsh := hsS _ (right_shape hrv).1
    have hib := ih [] (by simp) (by simp [lsize])
    rw [show dupL n kk d [] = [] from rfl] at hib
    have hdS : dupS n kk (d + 1) (.mk 1 t CtL.e0 (.mk vk vv vks) 0 [] []) = [.mk 1 t CtL.e0 (.mk vk vv vks) 0 [] [], .mk 1 (t + n) CtL.e0 (shE n kk 5 (.mk vk vv vks)) 0 [] []] := by simp [dupS]
    rw [hdS] at hTi
    generalize shE n kk 5 (.mk vk vv vks) = E at *
    obtain ⟨ek, ev, ez⟩ := E
    simp only [Ex.cells, Ex.cellsL, CtL.e0] at hci hcv hsh hx
    refine drvL Tryz.func85 ?_
    simp (maxSteps := 9999999) only [go_sem, hx, hlt, hn, hk0]
    iterate 14 ((try (refine drvZ Tryz.func85 ?_; simp (maxSteps := 9999999) only [go_sem, hx, hlt, hn, hk0, hclT, List.length_append])); (try ((with_reducible refine And.intro ?_ ?_) <;> (repeat' with_reducible apply And.intro) <;> try exact sd)); (try first | refine XK.p hci ok98 ?_ | refine XK.gp hci ok98 ?_ | refine XK.p hcv ok98 ?_ | refine XK.gp hcv ok98 ?_ | refine XK.p hib ok85 ?_ | refine XK.gp hib ok85 ?_ | refine XK.p hsh ok139 ?_ | refine XK.gp hsh ok139 ?_))
    refine again (i + 1) (fun j => if j = 67 then some 12288 else some j) [] _ hlt (by omega) ?_
    rw [hTi]
    simp (maxSteps := 9999999) only [go_sem, TmOK, DM, DMs, CM, CMs, forall_eq, exists_eq_left, Mq, HpOK, LowOK, stC_app2, List.length_append]
    simp [stC, CtL.e0, St1.cells, St1.cellsL, Ex.cells, Ex.cellsL]
    exact CMs.app (CMs.kf (stC_kf T)) (by simp [CMs, CM, CtL.e0, St1.cells, St1.cellsL, Ex.cells, Ex.cellsL])
   ·subst hk
    obtain ⟨rfl, hix⟩ := (CtL.head_parts hh).2.1 (by decide)
    obtain rfl := hix (by decide)
    obtain ⟨rfl, rfl⟩ := (CtL.head_parts hh).2.2.1 (by decide) (by decide)
    have hci := copyE _ CtL.FE_e0
    have hcv := copyE _ (FE_right hrv)
    have hsh := hsS _ (right_shape hrv).1
    have hib := ih [] (by simp) (by simp [lsize])
    rw [show dupL n kk d [] = [] from rfl] at hib
    have hdS : dupS n kk (d + 1) (.mk 5 t CtL.e0 (.mk vk vv vks) 0 [] []) = [.mk 5 t CtL.e0 (.mk vk vv vks) 0 [] [], .mk 5 (t + n) CtL.e0 (shE n kk 5 (.mk vk vv vks)) 0 [] []] := by simp [dupS]
    rw [hdS] at hTi
    generalize shE n kk 5 (.mk vk vv vks) = E at *
    obtain ⟨ek, ev, ez⟩ := E
    simp only [Ex.cells, Ex.cellsL, CtL.e0] at hci hcv hsh hx
    refine drvL Tryz.func85 ?_
    simp (maxSteps := 9999999) only [go_sem, hx, hlt, hn, hk0]
    iterate 14 ((try (refine drvZ Tryz.func85 ?_; simp (maxSteps := 9999999) only [go_sem, hx, hlt, hn, hk0, hclT, List.length_append])); (try ((with_reducible refine And.intro ?_ ?_) <;> (repeat' with_reducible apply And.intro) <;> try exact sd)); (try first | refine XK.p hci ok98 ?_ | refine XK.gp hci ok98 ?_ | refine XK.p hcv ok98 ?_ | refine XK.gp hcv ok98 ?_ | refine XK.p hib ok85 ?_ | refine XK.gp hib ok85 ?_ | refine XK.p hsh ok139 ?_ | refine XK.gp hsh ok139 ?_))
    refine again (i + 1) (fun j => if j = 67 then some 12416 else some j) [] _ hlt (by omega) ?_
    rw [hTi]
    simp (maxSteps := 9999999) only [go_sem, TmOK, DM, DMs, CM, CMs, forall_eq, exists_eq_left, Mq, HpOK, LowOK, stC_app2, List.length_append]
    simp [stC, CtL.e0, St1.cells, St1.cellsL, Ex.cells, Ex.cellsL]
    exact CMs.app (CMs.kf (stC_kf T)) (by simp [CMs, CM, CtL.e0, St1.cells, St1.cellsL, Ex.cells, Ex.cellsL])
   ·subst hk
    obtain ⟨ik, iv, iks⟩ := ix
    obtain ⟨rfl, _⟩ := (CtL.head_parts hh).2.1 (by decide)
    obtain ⟨rfl, rfl⟩ := (CtL.head_parts hh).2.2.1 (by decide) (by decide)
    have hci := copyE _ (FE_right hri)
    have hcv := copyE _ (FE_right hrv)
    have hsh := hsS _ (right_shape hrv).1
    have hsi := hsS _ (right_shape hri).1
    have hib := ih [] (by simp) (by simp [lsize])
    rw [show dupL n kk d [] = [] from rfl] at hib
    have hdS : dupS n kk (d + 1) (.mk 2 t (.mk ik iv iks) (.mk vk vv vks) 0 [] []) = [.mk 2 t (.mk ik iv iks) (.mk vk vv vks) 0 [] [], .mk 2 (t + kk) (shE n kk 5 (.mk ik iv iks)) (shE n kk 5 (.mk vk vv vks)) 0 [] []] := by simp [dupS]
    rw [hdS] at hTi
    generalize shE n kk 5 (.mk vk vv vks) = E at *
    generalize shE n kk 5 (.mk ik iv iks) = I at *
    obtain ⟨ek, ev, ez⟩ := E
    obtain ⟨jk, jv, jz⟩ := I
    simp only [Ex.cells] at hci hcv hsh hsi
    refine drvL Tryz.func85 ?_
    simp (maxSteps := 9999999) only [go_sem, hx, hlt, hn, hk0]
    iterate 14 ((try (refine drvZ Tryz.func85 ?_; simp (maxSteps := 9999999) only [go_sem, hx, hlt, hn, hk0, hclT, List.length_append])); (try ((with_reducible refine And.intro ?_ ?_) <;> (repeat' with_reducible apply And.intro) <;> try exact sd)); (try first | refine XK.p hci ok98 ?_ | refine XK.gp hci ok98 ?_ | refine XK.p hcv ok98 ?_ | refine XK.gp hcv ok98 ?_ | refine XK.p hib ok85 ?_ | refine XK.gp hib ok85 ?_ | refine XK.p hsh ok139 ?_ | refine XK.gp hsh ok139 ?_ | refine XK.p hsi ok139 ?_ | refine XK.gp hsi ok139 ?_))
    refine again (i + 1) (fun j => if j = 67 then some 13376 else some j) [] _ hlt (by omega) ?_
    rw [hTi]
    simp (maxSteps := 9999999) only [go_sem, TmOK, DM, DMs, CM, CMs, forall_eq, exists_eq_left, Mq, HpOK, LowOK, stC_app2, List.length_append]
    simp [stC, CtL.e0, St1.cells, St1.cellsL, Ex.cells, Ex.cellsL]
    exact CMs.app (CMs.kf (stC_kf T)) (by simp [CMs, CM, CtL.e0, St1.cells, St1.cellsL, Ex.cells, Ex.cellsL])
   ·subst hk
    obtain ⟨rfl, hix⟩ := (CtL.head_parts hh).2.1 (by decide)
    obtain rfl := hix (by decide)
    obtain rfl := (CtL.head_parts hh).2.2.2 (.inl rfl)
    have hci := copyE _ CtL.FE_e0
    have hcv := copyE _ (FE_right hrv)
    have hsh := hsS _ (right_shape hrv).1
    have hib := ih b hbo (by omega)
    have hie := ih e heo (by omega)
    have hdS : dupS n kk (d + 1) (.mk 3 0 CtL.e0 (.mk vk vv vks) 0 b e) = [.mk 3 0 CtL.e0 (.mk vk vv vks) 0 (dupL n kk d b) (dupL n kk d e)] := by simp [dupS, dupL]
    rw [hdS] at hTi
    generalize shE n kk 5 (.mk vk vv vks) = E at *
    generalize dupL n kk d b = B1 at *
    generalize dupL n kk d e = B2 at *
    obtain ⟨ek, ev, ez⟩ := E
    simp only [Ex.cells, Ex.cellsL, CtL.e0] at hci hcv hsh hx
    refine drvL Tryz.func85 ?_
    simp (maxSteps := 9999999) only [go_sem, hx, hlt, hn, hk0]
    iterate 14 ((try (refine drvZ Tryz.func85 ?_; simp (maxSteps := 9999999) only [go_sem, hx, hlt, hn, hk0, hclT, List.length_append])); (try ((with_reducible refine And.intro ?_ ?_) <;> (repeat' with_reducible apply And.intro) <;> try exact sd)); (try first | refine XK.p hci ok98 ?_ | refine XK.gp hci ok98 ?_ | refine XK.p hcv ok98 ?_ | refine XK.gp hcv ok98 ?_ | refine XK.p hib ok85 ?_ | refine XK.gp hib ok85 ?_ | refine XK.p hie ok85 ?_ | refine XK.gp hie ok85 ?_ | refine XK.p hsh ok139 ?_ | refine XK.gp hsh ok139 ?_))
    refine again (i + 1) (fun j => if j = 67 then some 10816 else some j) [] _ hlt (by omega) ?_
    rw [hTi]
    simp (maxSteps := 9999999) only [go_sem, TmOK, DM, DMs, CM, CMs, forall_eq, exists_eq_left, Mq, HpOK, LowOK, stC_app2, List.length_append]
    simp [stC, CtL.e0, St1.cells, St1.cellsL, Ex.cells, Ex.cellsL]
    exact CMs.app (CMs.kf (stC_kf T)) (by simp [CMs, CM, CtL.e0, St1.cells, St1.cellsL, Ex.cells, Ex.cellsL])
   ·subst hk
    obtain ⟨rfl, hix, hv0⟩ := (CtL.head_parts hh).1 rfl
    subst hix
    obtain ⟨rfl, rfl, rfl⟩ : vk = 0 ∧ vv = 0 ∧ vks = [] := by simpa [CtL.e0] using hv0
    obtain rfl := (CtL.head_parts hh).2.2.2 (.inr rfl)
    have hci := copyE _ CtL.FE_e0
    have hsh := hs0
    rw [show shE n kk (4 + 1) (.mk 0 0 []) = CtL.e0 from rfl] at hsh
    have hib := ih b hbo (by omega)
    have hie := ih [] (by simp) (by simp [lsize])
    rw [show dupL n kk d [] = [] from rfl] at hie
    have hdS : dupS n kk (d + 1) (.mk 4 0 CtL.e0 (.mk 0 0 []) c b []) = [.mk 4 0 CtL.e0 (.mk 0 0 []) c (dupL n kk d b) []] := by simp [dupS, dupL]
    rw [hdS] at hTi
    generalize dupL n kk d b = B1 at *
    simp only [Ex.cells, Ex.cellsL, CtL.e0] at hci hsh hx
    refine drvL Tryz.func85 ?_
    simp (maxSteps := 9999999) only [go_sem, hx, hlt, hn, hk0]
    iterate 14 ((try (refine drvZ Tryz.func85 ?_; simp (maxSteps := 9999999) only [go_sem, hx, hlt, hn, hk0, hclT, List.length_append])); (try ((with_reducible refine And.intro ?_ ?_) <;> (repeat' with_reducible apply And.intro) <;> try exact sd)); (try first | refine XK.p hci ok98 ?_ | refine XK.gp hci ok98 ?_ | refine XK.p hib ok85 ?_ | refine XK.gp hib ok85 ?_ | refine XK.p hie ok85 ?_ | refine XK.gp hie ok85 ?_ | refine XK.p hsh ok139 ?_ | refine XK.gp hsh ok139 ?_))
    refine again (i + 1) (fun j => if j = 67 then some 10816 else some j) [] _ hlt (by omega) ?_
    rw [hTi]
    simp (maxSteps := 9999999) only [go_sem, TmOK, DM, DMs, CM, CMs, forall_eq, exists_eq_left, Mq, HpOK, LowOK, stC_app2, List.length_append]
    simp [stC, CtL.e0, St1.cells, St1.cellsL, Ex.cells, Ex.cellsL]
    exact CMs.app (CMs.kf (stC_kf T)) (by simp [CMs, CM, CtL.e0, St1.cells, St1.cellsL, Ex.cells, Ex.cellsL])
  ·have hn2 : ¬ i < l.length := by omega
   obtain rfl : i = l.length := by omega
   clear hT hTl again
   rw [List.take_length]
   generalize dupL n kk d l = T at *
   refine drvL Tryz.func85 ?_
   simp (maxSteps := 9999999) only [go_sem, hn2]
   iterate 3 ((try (refine drvZ Tryz.func85 ?_; simp (maxSteps := 9999999) only [go_sem, hn2])); (try ((with_reducible refine And.intro ?_ ?_) <;> (repeat' with_reducible apply And.intro) <;> try exact sd)))
   refine RetOb.ofQ (fun _ => none) [67] (.c (.isl 11 (St1.cellsL T))) [] ?_ (by rw [← hR]; exact ⟨rfl, rfl⟩) (by simp)
   have g1 : (St1.cellsL T).flatten = stC T := by rw [St1.cellsL_eq]; rfl
   have g2 : ∀ x ∈ St1.cellsL T, x.length = 11 := fun x hx => by rw [St1.cellsL_eq] at hx; obtain ⟨e, _, rfl⟩ := List.mem_map.1 hx; exact St1.cells_len e
   have g3 : ∀ x ∈ St1.cellsL T, ∀ c ∈ x, kf c = true := fun x hx => by rw [St1.cellsL_eq] at hx; obtain ⟨e, _, rfl⟩ := List.mem_map.1 hx; exact st_kf e
   simp [enumL, hOf, DM, CM, CMs, HpOK, LowOK, upd, g1, St1.cellsL_length]
   exact ⟨g2, g3⟩
 ·simp (maxSteps := 9999999) only [go_sem, TmOK, DM, DMs, CM, CMs, forall_eq, exists_eq_left, Mq, HpOK, LowOK]
  simp [dupL, stC, CMs]
theorem blockD {p : Pg} (hpv : p.vars.length ≤ 1000) (hpa : p.arrays.length ≤ 1000) : ∀ d, BlkD p d
 | 0 => blockD1 hpv hpa 0 fun _ h => by omega
 | d + 1 => blockD1 hpv hpa (d + 1) fun d' h => by
  obtain rfl : d = d' := by omega
  exact blockD hpv hpa d
end Go.Proofs.YtpphageokplgoaaGreat.CtD
namespace Go.Proofs.YtpphageokplgoaaGreat.CtD
open Go Go.CT CtF CtR
open CtL (shE dupS dupL pairP prodP dblOK)
def BlkT (p : Pg) (d : Nat) : Prop := ∀ (l : List St1), (∀ s ∈ l, stmtOK p d s = true) → lsize d l ≤ 1000 →
 DC Tryz.prog 82 [.agg p.cells, .c (.isl 11 (St1.cellsL l))] [] (fun r h => r = .c (.isl 11 (St1.cellsL (dupL p.vars.length p.arrays.length d l))) ∧ h = [])
theorem blockT1 {p : Pg} (hpv : p.vars.length ≤ 1000) (hpa : p.arrays.length ≤ 1000) (d : Nat) (ih : ∀ d', d = d' + 1 → BlkT p d') : BlkT p d := by
 have hmx := mx_eq
 intro l hok hz
 have hll : l.length ≤ 1000 := by
  have h : ∀ s ∈ l, 1 ≤ tsize d s := fun s hs => by
   cases d with
   | zero => have := hok s hs; simp [stmtOK] at this
   | succ d => exact tsize_pos s
  have := len_le_sum (tsize d) l h
  unfold lsize at hz
  omega
 have hT : ∀ i x, l[i]? = some x → dupL p.vars.length p.arrays.length d (l.take (i + 1)) = dupL p.vars.length p.arrays.length d (l.take i) ++ dupS p.vars.length p.arrays.length d x := fun i x hx => by
  rw [List.take_add_one, hx]; exact dupL_snoc _ _ _ _ _
 have hTl : ∀ i, (dupL p.vars.length p.arrays.length d (l.take i)).length ≤ 2000 := fun i => by
  have := dupL_len p.vars.length p.arrays.length d (l.take i)
  rw [List.length_take] at this
  omega
 have hsumz := fun i => tsum_le (tsize d) l i
 have hlz : lsize d l = (l.map (tsize d)).sum := rfl
 generalize hR : (fun (r : D) (h : List (Option (List C))) => r = .c (.isl 11 (St1.cellsL (dupL p.vars.length p.arrays.length d l))) ∧ h = []) = R
 have hsS := fun e he => copiedI p hpv hpa 5 e he
 have hs0 := copiedOf p hpv hpa 4 0 0 [] (by simp) (by omega) (by simp)
 unfold BlkT at ih
 obtain ⟨vs, ar, bd⟩ := p
 simp only at hpv hpa hT hTl hsS hs0
 generalize hn : vs.length = n at *
 generalize hk0 : ar.length = kk at *
 refine dcZ Tryz.func82 ?_
 simp (maxSteps := 9999999) only [go_sem, hn, hk0]
 iterate 3 ((try (refine drvZ Tryz.func82 ?_; simp (maxSteps := 9999999) only [go_sem, hn, hk0])); (try ((with_reducible refine And.intro ?_ ?_) <;> (repeat' with_reducible apply And.intro) <;> try exact sd)))
 refine Go.loopQ (fun i : Nat => [(2, .c (.ptr 0 0)), (5, .c (.msl 67 11 0 (dupL n kk d (l.take i)).length)), (9, .c (.isl 11 (St1.cellsL l))), (10, DI .i64 l.length), (11, DI .i64 i)])
  (fun i => [(0, some (Pg.cells ⟨vs, ar, bd⟩)), (67, some (stC (dupL n kk d (l.take i))))])
  8192 (fun i => i ≤ l.length) (fun i => l.length - i) ?_ 0 (fun j => if j = 67 then none else some j) [] _ (Nat.zero_le _) ?_
 ·intro i hi again
  rcases Nat.lt_or_ge i l.length with hlt | hge
  ·obtain ⟨⟨k, t, ix, ⟨vk, vv, vks⟩, c, b, e⟩, hx⟩ : ∃ x, l[i]? = some x := ⟨l[i], by simp [hlt]⟩
   have hso := hok _ (List.mem_of_getElem? hx)
   obtain ⟨d, rfl⟩ : ∃ d', d = d' + 1 := by
    cases d with
    | zero => simp [stmtOK] at hso
    | succ d => exact ⟨d, rfl⟩
   have ih := ih d rfl
   have hTi := hT i _ hx
   have hTl := hTl i
   have hsu := hsumz (i + 1)
   rw [tsum_succ (tsize (d + 1)) l i _ hx] at hsu
   obtain ⟨hh, hbo, heo⟩ := stmtOK_succ hso
   have hts : tsize (d + 1) (.mk k t ix (.mk vk vv vks) c b e) = 1 + lsize d b + lsize d e := by simp [tsize, lsize]
   clear hT
   generalize dupL n kk (d + 1) (l.take i) = T at *
   have hclT := stC_len T
   have hkd := head_kind hh
   simp only [hn, hk0] at hkd
   rcases hkd with ⟨hk | hk, ht0, ht1, hrv⟩ | ⟨hk, ht0, ht1, hri, hat, hrv⟩ | ⟨hk, hrv⟩ | ⟨hk, hc1, hc3⟩
   ·subst hk
    obtain ⟨rfl, hix⟩ := (CtL.head_parts hh).2.1 (by decide)
    obtain rfl := hix (by decide)
    obtain ⟨rfl, rfl⟩ := (CtL.head_parts hh).2.2.1 (by decide) (by decide)
    have hsh := hsS _ (right_shape hrv).1
    have hib := ih [] (by simp) (by simp [lsize])
    rw [show dupL n kk d [] = [] from rfl] at hib
    have hdS : dupS n kk (d + 1) (.mk 1 t CtL.e0 (.mk vk vv vks) 0 [] []) = [.mk 1 t CtL.e0 (.mk vk vv vks) 0 [] [], .mk 1 (t + n) CtL.e0 (shE n kk 5 (.mk vk vv vks)) 0 [] []] := by simp [dupS]
    rw [hdS] at hTi
    generalize shE n kk 5 (.mk vk vv vks) = E at *
    obtain ⟨ek, ev, ez⟩ := E
    simp only [Ex.cells, Ex.cellsL, CtL.e0] at hsh hx
    refine drvL Tryz.func82 ?_
    simp (maxSteps := 9999999) only [go_sem, hx, hlt, hn, hk0]
    iterate 14 ((try (refine drvZ Tryz.func82 ?_; simp (maxSteps := 9999999) only [go_sem, hx, hlt, hn, hk0, hclT, List.length_append])); (try ((with_reducible refine And.intro ?_ ?_) <;> (repeat' with_reducible apply And.intro) <;> try exact sd)); (try first | refine XK.p hib ok82 ?_ | refine XK.gp hib ok82 ?_ | refine XK.p hsh ok138 ?_ | refine XK.gp hsh ok138 ?_))
    refine again (i + 1) (fun j => if j = 67 then some 10112 else some j) [] _ hlt (by omega) ?_
    rw [hTi]
    simp (maxSteps := 9999999) only [go_sem, TmOK, DM, DMs, CM, CMs, forall_eq, exists_eq_left, Mq, HpOK, LowOK, stC_app2, List.length_append]
    simp [stC, CtL.e0, St1.cells, St1.cellsL, Ex.cells, Ex.cellsL]
    exact CMs.app (CMs.kf (stC_kf T)) (by simp [CMs, CM, CtL.e0, St1.cells, St1.cellsL, Ex.cells, Ex.cellsL])
   ·subst hk
    obtain ⟨rfl, hix⟩ := (CtL.head_parts hh).2.1 (by decide)
    obtain rfl := hix (by decide)
    obtain ⟨rfl, rfl⟩ := (CtL.head_parts hh).2.2.1 (by decide) (by decide)
    have hsh := hsS _ (right_shape hrv).1
    have hib := ih [] (by simp) (by simp [lsize])
    rw [show dupL n kk d [] = [] from rfl] at hib
    have hdS : dupS n kk (d + 1) (.mk 5 t CtL.e0 (.mk vk vv vks) 0 [] []) = [.mk 5 t CtL.e0 (.mk vk vv vks) 0 [] [], .mk 5 (t + n) CtL.e0 (shE n kk 5 (.mk vk vv vks)) 0 [] []] := by simp [dupS]
    rw [hdS] at hTi
    generalize shE n kk 5 (.mk vk vv vks) = E at *
    obtain ⟨ek, ev, ez⟩ := E
    simp only [Ex.cells, Ex.cellsL, CtL.e0] at hsh hx
    refine drvL Tryz.func82 ?_
    simp (maxSteps := 9999999) only [go_sem, hx, hlt, hn, hk0]
    iterate 14 ((try (refine drvZ Tryz.func82 ?_; simp (maxSteps := 9999999) only [go_sem, hx, hlt, hn, hk0, hclT, List.length_append])); (try ((with_reducible refine And.intro ?_ ?_) <;> (repeat' with_reducible apply And.intro) <;> try exact sd)); (try first | refine XK.p hib ok82 ?_ | refine XK.gp hib ok82 ?_ | refine XK.p hsh ok138 ?_ | refine XK.gp hsh ok138 ?_))
    refine again (i + 1) (fun j => if j = 67 then some 10240 else some j) [] _ hlt (by omega) ?_
    rw [hTi]
    simp (maxSteps := 9999999) only [go_sem, TmOK, DM, DMs, CM, CMs, forall_eq, exists_eq_left, Mq, HpOK, LowOK, stC_app2, List.length_append]
    simp [stC, CtL.e0, St1.cells, St1.cellsL, Ex.cells, Ex.cellsL]
    exact CMs.app (CMs.kf (stC_kf T)) (by simp [CMs, CM, CtL.e0, St1.cells, St1.cellsL, Ex.cells, Ex.cellsL])
   ·subst hk
    obtain ⟨ik, iv, iks⟩ := ix
    obtain ⟨rfl, _⟩ := (CtL.head_parts hh).2.1 (by decide)
    obtain ⟨rfl, rfl⟩ := (CtL.head_parts hh).2.2.1 (by decide) (by decide)
    have hsh := hsS _ (right_shape hrv).1
    have hsi := hsS _ (right_shape hri).1
    have hib := ih [] (by simp) (by simp [lsize])
    rw [show dupL n kk d [] = [] from rfl] at hib
    have hdS : dupS n kk (d + 1) (.mk 2 t (.mk ik iv iks) (.mk vk vv vks) 0 [] []) = [.mk 2 t (.mk ik iv iks) (.mk vk vv vks) 0 [] [], .mk 2 (t + kk) (shE n kk 5 (.mk ik iv iks)) (shE n kk 5 (.mk vk vv vks)) 0 [] []] := by simp [dupS]
    rw [hdS] at hTi
    generalize shE n kk 5 (.mk vk vv vks) = E at *
    generalize shE n kk 5 (.mk ik iv iks) = I at *
    obtain ⟨ek, ev, ez⟩ := E
    obtain ⟨jk, jv, jz⟩ := I
    simp only [Ex.cells] at hsh hsi
    refine drvL Tryz.func82 ?_
    simp (maxSteps := 9999999) only [go_sem, hx, hlt, hn, hk0]
    iterate 14 ((try (refine drvZ Tryz.func82 ?_; simp (maxSteps := 9999999) only [go_sem, hx, hlt, hn, hk0, hclT, List.length_append])); (try ((with_reducible refine And.intro ?_ ?_) <;> (repeat' with_reducible apply And.intro) <;> try exact sd)); (try first | refine XK.p hib ok82 ?_ | refine XK.gp hib ok82 ?_ | refine XK.p hsh ok138 ?_ | refine XK.gp hsh ok138 ?_ | refine XK.p hsi ok138 ?_ | refine XK.gp hsi ok138 ?_))
    refine again (i + 1) (fun j => if j = 67 then some 10752 else some j) [] _ hlt (by omega) ?_
    rw [hTi]
    simp (maxSteps := 9999999) only [go_sem, TmOK, DM, DMs, CM, CMs, forall_eq, exists_eq_left, Mq, HpOK, LowOK, stC_app2, List.length_append]
    simp [stC, CtL.e0, St1.cells, St1.cellsL, Ex.cells, Ex.cellsL]
    exact CMs.app (CMs.kf (stC_kf T)) (by simp [CMs, CM, CtL.e0, St1.cells, St1.cellsL, Ex.cells, Ex.cellsL])
   ·subst hk
    obtain ⟨rfl, hix⟩ := (CtL.head_parts hh).2.1 (by decide)
    obtain rfl := hix (by decide)
    obtain rfl := (CtL.head_parts hh).2.2.2 (.inl rfl)
    have hsh := hsS _ (right_shape hrv).1
    have hib := ih b hbo (by omega)
    have hie := ih e heo (by omega)
    have hdS : dupS n kk (d + 1) (.mk 3 0 CtL.e0 (.mk vk vv vks) 0 b e) = [.mk 3 0 CtL.e0 (.mk vk vv vks) 0 (dupL n kk d b) (dupL n kk d e)] := by simp [dupS, dupL]
    rw [hdS] at hTi
    generalize shE n kk 5 (.mk vk vv vks) = E at *
    generalize dupL n kk d b = B1 at *
    generalize dupL n kk d e = B2 at *
    obtain ⟨ek, ev, ez⟩ := E
    simp only [Ex.cells, Ex.cellsL, CtL.e0] at hsh hx
    refine drvL Tryz.func82 ?_
    simp (maxSteps := 9999999) only [go_sem, hx, hlt, hn, hk0]
    iterate 14 ((try (refine drvZ Tryz.func82 ?_; simp (maxSteps := 9999999) only [go_sem, hx, hlt, hn, hk0, hclT, List.length_append])); (try ((with_reducible refine And.intro ?_ ?_) <;> (repeat' with_reducible apply And.intro) <;> try exact sd)); (try first | refine XK.p hib ok82 ?_ | refine XK.gp hib ok82 ?_ | refine XK.p hie ok82 ?_ | refine XK.gp hie ok82 ?_ | refine XK.p hsh ok138 ?_ | refine XK.gp hsh ok138 ?_))
    refine again (i + 1) (fun j => if j = 67 then some 10560 else some j) [] _ hlt (by omega) ?_
    rw [hTi]
    simp (maxSteps := 9999999) only [go_sem, TmOK, DM, DMs, CM, CMs, forall_eq, exists_eq_left, Mq, HpOK, LowOK, stC_app2, List.length_append]
    simp [stC, CtL.e0, St1.cells, St1.cellsL, Ex.cells, Ex.cellsL]
    exact CMs.app (CMs.kf (stC_kf T)) (by simp [CMs, CM, CtL.e0, St1.cells, St1.cellsL, Ex.cells, Ex.cellsL])
   ·subst hk
    obtain ⟨rfl, hix, hv0⟩ := (CtL.head_parts hh).1 rfl
    subst hix
    obtain ⟨rfl, rfl, rfl⟩ : vk = 0 ∧ vv = 0 ∧ vks = [] := by simpa [CtL.e0] using hv0
    obtain rfl := (CtL.head_parts hh).2.2.2 (.inr rfl)
    have hsh := hs0
    rw [show shE n kk (4 + 1) (.mk 0 0 []) = CtL.e0 from rfl] at hsh
    have hib := ih b hbo (by omega)
    have hie := ih [] (by simp) (by simp [lsize])
    rw [show dupL n kk d [] = [] from rfl] at hie
    have hdS : dupS n kk (d + 1) (.mk 4 0 CtL.e0 (.mk 0 0 []) c b []) = [.mk 4 0 CtL.e0 (.mk 0 0 []) c (dupL n kk d b) []] := by simp [dupS, dupL]
    rw [hdS] at hTi
    generalize dupL n kk d b = B1 at *
    simp only [Ex.cells, Ex.cellsL, CtL.e0] at hsh hx
    refine drvL Tryz.func82 ?_
    simp (maxSteps := 9999999) only [go_sem, hx, hlt, hn, hk0]
    iterate 14 ((try (refine drvZ Tryz.func82 ?_; simp (maxSteps := 9999999) only [go_sem, hx, hlt, hn, hk0, hclT, List.length_append])); (try ((with_reducible refine And.intro ?_ ?_) <;> (repeat' with_reducible apply And.intro) <;> try exact sd)); (try first | refine XK.p hib ok82 ?_ | refine XK.gp hib ok82 ?_ | refine XK.p hie ok82 ?_ | refine XK.gp hie ok82 ?_ | refine XK.p hsh ok138 ?_ | refine XK.gp hsh ok138 ?_))
    refine again (i + 1) (fun j => if j = 67 then some 10560 else some j) [] _ hlt (by omega) ?_
    rw [hTi]
    simp (maxSteps := 9999999) only [go_sem, TmOK, DM, DMs, CM, CMs, forall_eq, exists_eq_left, Mq, HpOK, LowOK, stC_app2, List.length_append]
    simp [stC, CtL.e0, St1.cells, St1.cellsL, Ex.cells, Ex.cellsL]
    exact CMs.app (CMs.kf (stC_kf T)) (by simp [CMs, CM, CtL.e0, St1.cells, St1.cellsL, Ex.cells, Ex.cellsL])
  ·have hn2 : ¬ i < l.length := by omega
   obtain rfl : i = l.length := by omega
   clear hT hTl again
   rw [List.take_length]
   generalize dupL n kk d l = T at *
   refine drvL Tryz.func82 ?_
   simp (maxSteps := 9999999) only [go_sem, hn2]
   iterate 3 ((try (refine drvZ Tryz.func82 ?_; simp (maxSteps := 9999999) only [go_sem, hn2])); (try ((with_reducible refine And.intro ?_ ?_) <;> (repeat' with_reducible apply And.intro) <;> try exact sd)))
   refine RetOb.ofQ (fun _ => none) [67] (.c (.isl 11 (St1.cellsL T))) [] ?_ (by rw [← hR]; exact ⟨rfl, rfl⟩) (by simp)
   have g1 : (St1.cellsL T).flatten = stC T := by rw [St1.cellsL_eq]; rfl
   have g2 : ∀ x ∈ St1.cellsL T, x.length = 11 := fun x hx => by rw [St1.cellsL_eq] at hx; obtain ⟨e, _, rfl⟩ := List.mem_map.1 hx; exact St1.cells_len e
   have g3 : ∀ x ∈ St1.cellsL T, ∀ c ∈ x, kf c = true := fun x hx => by rw [St1.cellsL_eq] at hx; obtain ⟨e, _, rfl⟩ := List.mem_map.1 hx; exact st_kf e
   simp [enumL, hOf, DM, CM, CMs, HpOK, LowOK, upd, g1, St1.cellsL_length]
   exact ⟨g2, g3⟩
 ·simp (maxSteps := 9999999) only [go_sem, TmOK, DM, DMs, CM, CMs, forall_eq, exists_eq_left, Mq, HpOK, LowOK]
  simp [dupL, stC, CMs]
theorem blockT {p : Pg} (hpv : p.vars.length ≤ 1000) (hpa : p.arrays.length ≤ 1000) : ∀ d, BlkT p d
 | 0 => blockT1 hpv hpa 0 fun _ h => by omega
 | d + 1 => blockT1 hpv hpa (d + 1) fun d' h => by
  obtain rfl : d = d' := by omega
  exact blockT hpv hpa d
end Go.Proofs.YtpphageokplgoaaGreat.CtD
namespace Go.Proofs.YtpphageokplgoaaGreat.CtD
open Go Go.CT CtF CtR
theorem growD (n : Nat) (hn : n ≤ 1000) : DC Tryz.prog 182 [.c (.v (.slice none 0 0)), DI .i64 n] [] (fun r h => r = .c (.msl 0 1 0 0) ∧ h = [some []]) := fun I w s vs H hv => by
 obtain ⟨hsz, hall⟩ := hv
 simp only [List.length_cons, List.length_nil] at hsz
 have h0 := hall 0 (by omega) (by simp)
 have h1 := hall 1 (by omega) (by simp)
 have e0 : vs[0]'(by omega) = .slice none 0 0 := (rd_scalar h0).1
 have e1 : vs[1]'(by omega) = .int .i64 n := (rd_scalar h1).1
 have hvs : vs = #[.slice none 0 0, .int .i64 (n : Int)] := by
  apply Array.ext
  ·simp [hsz]
  ·intro i g1 g2
   match i, g1, g2 with
   | 0, _, _ => simpa using e0
   | 1, _, _ => simpa using e1
   | i + 2, g1, _ => omega
 subst hvs
 have hup : hpL [some []] = upd (hpL []) 0 (some (some [])) := by
  funext k
  match k with
  | 0 => rfl
  | k + 1 => simp [hpL, upd]
 rcases Nat.eq_zero_or_pos n with rfl | hpos
 ·refine (CtG.grow_nil0 w).mono ?_
  rintro e w' ⟨rfl, rfl⟩
  have hk : ∀ k, hpL [some []] k ≠ none → k = 0 := fun k h => by
   match k with
   | 0 => rfl
   | k + 1 => exact absurd rfl h
  have hno : ∀ k b, upd s 0 (some none) k = some (some b) → k ≠ 0 := fun k b h e => by subst e; rw [upd_same] at h; cases h
  refine ⟨_, I, upd s 0 (some none), _, [some []], rfl, ⟨rfl, rfl⟩, .c _ _ (.msl0 _ _ _ _ (upd_same _ _ _)), ⟨fun k h => ?_, fun k cs h => ?_, fun k k' b cs cs' h1 h2 h3 h4 => ?_, H.imm⟩,
   ⟨rfl, rfl, rfl, Nat.le_refl _, fun _ _ _ => rfl, Shp.refl _, fun k hk => by simp at hk, fun _ h => h, fun _ h => .inl h, fun b ⟨k, cs, h1, h2⟩ => absurd (hk k (by rw [h1]; simp)) (hno k b h2)⟩, by simp⟩
  ·have : k ≠ 0 := by rintro rfl; simp [hpL] at h
   rw [upd_ne _ _ this]; exact H.top k (by simp [hpL])
  ·obtain rfl := hk k (by rw [h]; simp)
   simp [hpL] at h
   exact .inl ⟨upd_same _ _ _, h⟩
  ·exact absurd (hk k (by rw [h1]; simp)) (hno k b h3)
 ·refine (CtG.grow_nil n hpos hn w).mono ?_
  rintro e w' ⟨rfl, rfl⟩
  have hG := grownCap_ge w n 0 3
  have hmx := mx_eq
  obtain ⟨s', hle, H2, E2, R2⟩ := grow_sound (m := 0) H none (by simp) 0 rfl (Nat.le_refl _) 3 [] [] ⟨rfl, fun j h => by simp at h⟩ (Builtin.zeroCells #[.int .i64 0] n ++ Builtin.zeroCells #[.int .i64 0] (grownCap w n 0 3 - n)) 1 0 (grownCap w n 0 3) ⟨Nat.zero_le _, Nat.zero_le _⟩ (by simp [size_zeroCells]; omega)
  refine ⟨_, I, s', _, _, rfl, ⟨rfl, rfl⟩, R2, ?_, ?_, by simp⟩
  ·rw [hup]; exact H2
  ·rw [hup]; exact E2
end Go.Proofs.YtpphageokplgoaaGreat.CtD
namespace Go.Proofs.YtpphageokplgoaaGreat.CtD
open Go Go.CT CtF CtR
theorem renCs_rows (r : Nat → Nat) (L : List (List Int)) : renCs r (L.map isI) = L.map isI := by
 rw [renCs_eq, List.map_map]
 exact List.map_congr_left fun x _ => rfl
theorem CMs_rows2 {hT hS : Hp} {r : Nat → Option Nat} {fz : List Nat} (L : List (List Int)) : CMs hT r hS fz (L.map isI) (L.map isI) = True := eq_true (CMs.kf (fun c hc => by obtain ⟨a, _, rfl⟩ := List.mem_map.1 hc; rfl))
theorem concatD (L : List (List Int)) (hL : L.length ≤ 1000) (hz : L.flatten.length ≤ 1000) : DC Tryz.prog 137 [.c (.msl 0 1 0 L.length)] [some (L.map isI)] (fun r h => r = .c (isI L.flatten) ∧ h = [some (L.map isI)]) := by
 have hmx := mx_eq
 have hTs : ∀ i x, L[i]? = some x → (L.take (i + 1)).flatten = (L.take i).flatten ++ x := fun i x hx => by rw [List.take_add_one, hx]; simp
 have hTl : ∀ i, (L.take i).flatten.length ≤ L.flatten.length := fun i => by
  have : L.flatten = (L.take i).flatten ++ (L.drop i).flatten := by rw [← List.flatten_append, List.take_append_drop]
  rw [this, List.length_append]; omega
 generalize hR : (fun (r : D) (h : List (Option (List C))) => r = .c (isI L.flatten) ∧ h = [some (L.map isI)]) = R
 have hgr := growD L.flatten.length hz
 refine dcZ Tryz.func137 ?_
 simp (maxSteps := 9999999) only [go_sem]
 iterate 2 ((try (refine drvZ Tryz.func137 ?_; simp (maxSteps := 9999999) only [go_sem])); (try ((with_reducible refine And.intro ?_ ?_) <;> (repeat' with_reducible apply And.intro) <;> try exact sd)))
 refine Go.loopQ (fun i : Nat => [(0, .c (.msl 0 1 0 L.length)), (3, DI .i64 (L.take i).flatten.length), (9, .c (.msl 0 1 0 L.length)), (10, DI .i64 L.length), (11, DI .i64 i)]) (fun i => [(0, some (L.map isI))])
  4096 (fun i => i ≤ L.length) (fun i => L.length - i) ?_ 0 some [] _ (Nat.zero_le _) ?_
 ·intro i hi again
  have hli := hTl i
  rcases Nat.lt_or_ge i L.length with hlt | hge
  ·obtain ⟨x, hx⟩ : ∃ x, L[i]? = some x := ⟨L[i], by simp [hlt]⟩
   have hs := hTs i x hx
   have hl2 := hTl (i + 1)
   rw [hs, List.length_append] at hl2
   generalize (L.take i).flatten = T at *
   have hneg : (((T.length : Int) + (x.length : Int)) < 0) = False := eq_false (by omega)
   refine drvL Tryz.func137 ?_
   simp (maxSteps := 9999999) only [go_sem, hx, hlt]
   iterate 4 ((try (refine drvZ Tryz.func137 ?_; simp (maxSteps := 9999999) only [go_sem, hx, hlt, isI, hneg])); (try ((with_reducible refine And.intro ?_ ?_) <;> (repeat' with_reducible apply And.intro) <;> try exact sd)))
   refine again (i + 1) some [] _ hlt (by omega) ?_
   simp (maxSteps := 9999999) only [go_sem, TmOK, DM, DMs, CM, CMs, forall_eq, exists_eq_left, Mq, HpOK, LowOK, hs, List.length_append]
   simp [CMs_rows2]
  ·have hn : ¬ i < L.length := by omega
   obtain rfl : i = L.length := by omega
   rw [List.take_length]
   refine drvL Tryz.func137 ?_
   simp (maxSteps := 9999999) only [go_sem, hn]
   iterate 2 ((try (refine drvZ Tryz.func137 ?_; simp (maxSteps := 9999999) only [go_sem, hn])); (try ((with_reducible refine And.intro ?_ ?_) <;> (repeat' with_reducible apply And.intro) <;> try exact sd)))
   refine XK.callG [] hgr ok182 (fun i' x h => by simp at h) (hbT ()) (fun d h' ⟨_, e⟩ => by subst e; simp) ?_
   rintro _ _ ⟨rfl, rfl⟩ _
   iterate 3 ((try (refine drvZ Tryz.func137 ?_; simp (maxSteps := 9999999) only [go_sem, renCs])); (try ((with_reducible refine And.intro ?_ ?_) <;> (repeat' with_reducible apply And.intro) <;> try exact sd)))
   refine Go.loopQ (fun i : Nat => [(6, .c (.msl 5 1 0 (L.take i).flatten.length)), (25, .c (.msl 0 1 0 L.length)), (26, DI .i64 L.length), (27, DI .i64 i)]) (fun i => [(0, some (L.map isI)), (5, some ((L.take i).flatten.map I64))])
    8192 (fun i => i ≤ L.length) (fun i => L.length - i) ?_ 0 (fun j => if j = 5 then some 4224 else some j) [] _ (Nat.zero_le _) ?_
   ·intro i hi again
    have hli := hTl i
    rcases Nat.lt_or_ge i L.length with hlt | hge
    ·obtain ⟨x, hx⟩ : ∃ x, L[i]? = some x := ⟨L[i], by simp [hlt]⟩
     have hs := hTs i x hx
     have hl2 := hTl (i + 1)
     rw [hs, List.length_append] at hl2
     generalize (L.take i).flatten = T at *
     refine drvL Tryz.func137 ?_
     simp (maxSteps := 9999999) only [go_sem, hx, hlt]
     iterate 4 ((try (refine drvZ Tryz.func137 ?_; simp (maxSteps := 9999999) only [go_sem, hx, hlt, isI, flat_I'])); (try ((with_reducible refine And.intro ?_ ?_) <;> (repeat' with_reducible apply And.intro) <;> try exact sd)))
     refine again (i + 1) (fun j => if j = 5 then some 8576 else some j) [] _ hlt (by omega) ?_
     rw [hs]
     simp (maxSteps := 9999999) only [go_sem, TmOK, DM, DMs, CM, CMs, forall_eq, exists_eq_left, Mq, HpOK, LowOK, List.length_append]
     simp [-List.map_append, CMs_I, CMs_rows2]
     rw [List.map_append]; exact CMs.app (CMs.kf (kf_I T)) (CMs.kf (kf_I x))
    ·have hn : ¬ i < L.length := by omega
     obtain rfl : i = L.length := by omega
     rw [List.take_length]
     clear hTs hTl hz hgr again
     generalize L.flatten = W at *
     refine drvL Tryz.func137 ?_
     simp (maxSteps := 9999999) only [go_sem, hn]
     iterate 2 ((try (refine drvZ Tryz.func137 ?_; simp (maxSteps := 9999999) only [go_sem, hn])); (try ((with_reducible refine And.intro ?_ ?_) <;> (repeat' with_reducible apply And.intro) <;> try exact sd)))
     refine RetOb.ofQ (fun j => some j) [5] (.c (isI W)) [some (L.map isI)] ?_ (by rw [← hR]; exact ⟨rfl, rfl⟩) (by simp)
     simp [enumL, hOf, DM, CM, CMs, HpOK, LowOK, upd, CMs_rows2]
     simp [isI, CM, flat_I, kf, upd]
   ·simp (maxSteps := 9999999) only [go_sem, TmOK, DM, DMs, CM, CMs, forall_eq, exists_eq_left, Mq, HpOK, LowOK]
    simp [CMs_rows2, CMs]
 ·simp (maxSteps := 9999999) only [go_sem, TmOK, DM, DMs, CM, CMs, forall_eq, exists_eq_left, Mq, HpOK, LowOK]
  simp [CMs_rows2]
end Go.Proofs.YtpphageokplgoaaGreat.CtD
namespace Go.Proofs.YtpphageokplgoaaGreat.CtD
open Go Go.CT CtF CtR
open CtL (shE dupS dupL pairP prodP dblOK)
def dblP (p : Pg) : Pg := if dblOK p = true then ⟨p.vars ++ p.vars, p.arrays ++ p.arrays, []⟩ else ⟨[], [], []⟩
theorem doubleI (p : Pg) (hok : progOK p = true) : DC Tryz.prog 81 [.agg p.cells] [] (fun r h => r = .tup [.agg (dblP p).cells, DB (dblOK p)] ∧ h = []) := by
 have hmx := mx_eq
 have hln := prog_len hok
 have hv := programValidI p (by omega) (by omega)
 rw [hok] at hv
 have hcv := concatD [p.vars, p.vars] (by simp) (by simp; omega)
 have hca := concatD [p.arrays, p.arrays] (by simp) (by simp; omega)
 have hdb : dblOK p = (decide (2 * p.vars.length ≤ 12) && decide (2 * p.arrays.length ≤ 2)) := by simp [dblOK, hok]
 have hdp : dblP p = if dblOK p = true then ⟨p.vars ++ p.vars, p.arrays ++ p.arrays, []⟩ else ⟨[], [], []⟩ := rfl
 generalize hR : (fun (r : D) (h : List (Option (List C))) => r = .tup [.agg (dblP p).cells, DB (dblOK p)] ∧ h = []) = R
 simp only [List.map, List.length_cons, List.length_nil, List.flatten_cons, List.flatten_nil, List.append_nil] at hcv hca
 by_cases h1 : 2 * p.vars.length ≤ 12
 case neg =>
  have hdf : dblOK p = false := by rw [hdb, decide_eq_false h1]; rfl
  rw [hdf, if_neg (by simp)] at hdp
  rw [hdp, hdf] at hR
  obtain ⟨vs, ar, bd⟩ := p
  have hz : ((12 : Int) < 2 * (vs.length : Int)) = True := eq_true (by simp only at h1; omega)
  simp only at hln
  refine dcZ Tryz.func81 ?_
  simp (maxSteps := 9999999) only [go_sem]
  iterate 6 ((try (refine drvZ Tryz.func81 ?_; simp (maxSteps := 9999999) only [go_sem, hz])); (try ((with_reducible refine And.intro ?_ ?_) <;> (repeat' with_reducible apply And.intro) <;> try exact sd)); (try first | refine XK.p hv ok20 ?_ | refine XK.gp hv ok20 ?_ | refine XK.gs (DB false) ?_))
  exact RetOb.pg0 (by rw [← hR]; exact ⟨rfl, rfl⟩)
 by_cases h2 : 2 * p.arrays.length ≤ 2
 case neg =>
  have hdf : dblOK p = false := by rw [hdb, decide_eq_false h2]; simp
  rw [hdf, if_neg (by simp)] at hdp
  rw [hdp, hdf] at hR
  obtain ⟨vs, ar, bd⟩ := p
  have hz : ((12 : Int) < 2 * (vs.length : Int)) = False := eq_false (by simp only at h1; omega)
  have hz2 : ((2 : Int) < 2 * (ar.length : Int)) = True := eq_true (by simp only at h2; omega)
  simp only at hln
  refine dcZ Tryz.func81 ?_
  simp (maxSteps := 9999999) only [go_sem]
  iterate 6 ((try (refine drvZ Tryz.func81 ?_; simp (maxSteps := 9999999) only [go_sem, hz, hz2])); (try ((with_reducible refine And.intro ?_ ?_) <;> (repeat' with_reducible apply And.intro) <;> try exact sd)); (try first | refine XK.p hv ok20 ?_ | refine XK.gp hv ok20 ?_))
  exact RetOb.pg0 (by rw [← hR]; exact ⟨rfl, rfl⟩)
 have hdt : dblOK p = true := by rw [hdb, decide_eq_true h1, decide_eq_true h2]; rfl
 rw [hdt, if_pos rfl] at hdp
 rw [hdp, hdt] at hR
 obtain ⟨vs, ar, bd⟩ := p
 have hz : ((12 : Int) < 2 * (vs.length : Int)) = False := eq_false (by simp only at h1; omega)
 have hz2 : ((2 : Int) < 2 * (ar.length : Int)) = False := eq_false (by simp only at h2; omega)
 simp only at hln hR hcv hca
 refine dcZ Tryz.func81 ?_
 simp (maxSteps := 9999999) only [go_sem]
 iterate 7 ((try (refine drvZ Tryz.func81 ?_; simp (maxSteps := 9999999) only [go_sem, hz, hz2])); (try ((with_reducible refine And.intro ?_ ?_) <;> (repeat' with_reducible apply And.intro) <;> try exact sd)); (try first | refine XK.p hv ok20 ?_ | refine XK.gp hv ok20 ?_))
 refine XK.callG [1536] hcv ok137 (hhpG (by simp [HH, upd, hpL, renCs, renC, isI])) (hbT ()) (fun d h' ⟨_, e⟩ => by subst e; simp) ?_ (fun _ => ⟨by kernel_rfl, _, _, ⟨rfl, rfl⟩, by simp⟩)
 rintro _ _ ⟨rfl, rfl⟩ _
 iterate 2 ((try (refine drvZ Tryz.func81 ?_; simp (maxSteps := 9999999) only [go_sem, renCs, renC])); (try ((with_reducible refine And.intro ?_ ?_) <;> (repeat' with_reducible apply And.intro) <;> try exact sd)))
 refine XK.callG [1920] hca ok137 (hhpG (by simp [HH, upd, hpL, renCs, renC, isI])) (hbT ()) (fun d h' ⟨_, e⟩ => by subst e; simp) ?_ (fun _ => ⟨by kernel_rfl, _, _, ⟨rfl, rfl⟩, by simp⟩)
 rintro _ _ ⟨rfl, rfl⟩ _
 iterate 3 ((try (refine drvZ Tryz.func81 ?_; simp (maxSteps := 9999999) only [go_sem, renCs, renC])); (try ((with_reducible refine And.intro ?_ ?_) <;> (repeat' with_reducible apply And.intro) <;> try exact sd)))
 refine RetOb.ofQ (fun _ => none) [] (.tup [.agg (Pg.cells ⟨vs ++ vs, ar ++ ar, []⟩), DB true]) [] ?_ (by rw [← hR]; exact ⟨rfl, rfl⟩) (by simp)
 simp [enumL, DM, DMs, CM, CMs, HpOK, LowOK, Pg.cells, isI, St1.cellsL]
theorem doubleS (p : Pg) (hok : progOK p = true) : DC Tryz.prog 83 [.agg p.cells] [] (fun r h => r = .tup [.agg (dblP p).cells, DB (dblOK p)] ∧ h = []) := by
 have hmx := mx_eq
 have hln := prog_len hok
 have hv := programValidS p (by omega) (by omega) (by have := (body_of hok).2; omega)
 rw [hok] at hv
 have hdb : dblOK p = (decide (2 * p.vars.length ≤ 12) && decide (2 * p.arrays.length ≤ 2)) := by simp [dblOK, hok]
 have hdp : dblP p = if dblOK p = true then ⟨p.vars ++ p.vars, p.arrays ++ p.arrays, []⟩ else ⟨[], [], []⟩ := rfl
 generalize hR : (fun (r : D) (h : List (Option (List C))) => r = .tup [.agg (dblP p).cells, DB (dblOK p)] ∧ h = []) = R
 by_cases h1 : 2 * p.vars.length ≤ 12
 case neg =>
  have hdf : dblOK p = false := by rw [hdb, decide_eq_false h1]; rfl
  rw [hdf, if_neg (by simp)] at hdp
  rw [hdp, hdf] at hR
  obtain ⟨vs, ar, bd⟩ := p
  have hz : ((12 : Int) < 2 * (vs.length : Int)) = True := eq_true (by simp only at h1; omega)
  simp only at hln
  refine dcZ Tryz.func83 ?_
  simp (maxSteps := 9999999) only [go_sem]
  iterate 6 ((try (refine drvZ Tryz.func83 ?_; simp (maxSteps := 9999999) only [go_sem, hz])); (try ((with_reducible refine And.intro ?_ ?_) <;> (repeat' with_reducible apply And.intro) <;> try exact sd)); (try first | refine XK.p hv ok52 ?_ | refine XK.gp hv ok52 ?_ | refine XK.gs (DB false) ?_))
  exact RetOb.pg0 (by rw [← hR]; exact ⟨rfl, rfl⟩)
 by_cases h2 : 2 * p.arrays.length ≤ 2
 case neg =>
  have hdf : dblOK p = false := by rw [hdb, decide_eq_false h2]; simp
  rw [hdf, if_neg (by simp)] at hdp
  rw [hdp, hdf] at hR
  obtain ⟨vs, ar, bd⟩ := p
  have hz : ((12 : Int) < 2 * (vs.length : Int)) = False := eq_false (by simp only at h1; omega)
  have hz2 : ((2 : Int) < 2 * (ar.length : Int)) = True := eq_true (by simp only at h2; omega)
  simp only at hln
  refine dcZ Tryz.func83 ?_
  simp (maxSteps := 9999999) only [go_sem]
  iterate 6 ((try (refine drvZ Tryz.func83 ?_; simp (maxSteps := 9999999) only [go_sem, hz, hz2])); (try ((with_reducible refine And.intro ?_ ?_) <;> (repeat' with_reducible apply And.intro) <;> try exact sd)); (try first | refine XK.p hv ok52 ?_ | refine XK.gp hv ok52 ?_))
  exact RetOb.pg0 (by rw [← hR]; exact ⟨rfl, rfl⟩)
 have hdt : dblOK p = true := by rw [hdb, decide_eq_true h1, decide_eq_true h2]; rfl
 rw [hdt, if_pos rfl] at hdp
 rw [hdp, hdt] at hR
 obtain ⟨vs, ar, bd⟩ := p
 have hz : ((12 : Int) < 2 * (vs.length : Int)) = False := eq_false (by simp only at h1; omega)
 have hz2 : ((2 : Int) < 2 * (ar.length : Int)) = False := eq_false (by simp only at h2; omega)
 simp only at hln hR
 refine dcZ Tryz.func83 ?_
 simp (maxSteps := 9999999) only [go_sem]
 iterate 9 ((try (refine drvZ Tryz.func83 ?_; simp (maxSteps := 9999999) only [go_sem, hz, hz2, flat_I'])); (try ((with_reducible refine And.intro ?_ ?_) <;> (repeat' with_reducible apply And.intro) <;> try exact sd)); (try first | refine XK.p hv ok52 ?_ | refine XK.gp hv ok52 ?_))
 refine RetOb.ofQ (fun _ => none) [1664, 2112] (.tup [.agg (Pg.cells ⟨vs ++ vs, ar ++ ar, []⟩), DB true]) [] ?_ (by rw [← hR]; exact ⟨rfl, rfl⟩) (by simp)
 simp [-List.map_append, enumL, DM, DMs, CM, CMs, HpOK, LowOK, Pg.cells, isI, St1.cellsL, upd, flat_I, kf]
 exact ⟨(List.map_append).symm, (List.map_append).symm⟩
end Go.Proofs.YtpphageokplgoaaGreat.CtD
