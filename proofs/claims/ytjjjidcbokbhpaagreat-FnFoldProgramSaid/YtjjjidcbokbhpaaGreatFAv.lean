/- Contracts of functions of the program, one behind the other, as plain data: what each call returns and which blocks it leaves. -/
import Derived.Test.YtjjjidcbokbhpaaGreatFFacts
import Derived.Test.YtjjjidcbokbhpaaGreatFAi
import Derived.Test.YtjjjidcbokbhpaaGreatFAj
import Derived.Test.YtjjjidcbokbhpaaGreatFAn
import Derived.Test.YtjjjidcbokbhpaaGreatFAo
import Derived.Test.YtjjjidcbokbhpaaGreatFAp
import Derived.Test.YtjjjidcbokbhpaaGreatFAq
import Derived.Test.YtjjjidcbokbhpaaGreatFAr
import Derived.Test.YtjjjidcbokbhpaaGreatFAs
import Derived.Test.YtjjjidcbokbhpaaGreatFAk
import Derived.Test.YtjjjidcbokbhpaaGreatFAl
import Derived.Test.YtjjjidcbokbhpaaGreatFAu
set_option linter.unusedVariables false
set_option linter.unusedSimpArgs false
set_option maxHeartbeats 16000000
set_option maxRecDepth 100000
namespace Go.Proofs.YtjjjidcbokbhpaaGreat.CtD
open Go Go.CT CtF CtR
open CtL (cE)

theorem SmS_up : ∀ (d : Nat) (s : St1), SmS d s → SmS (d + 1) s
  | 0, .mk k t ix v c b e, h => by
    simp only [SmS] at h
    obtain ⟨h1, h2, rfl, rfl⟩ := h
    exact SmS.leaf h1 h2
  | d + 1, .mk k t ix v c b e, h => by
    simp only [SmS] at h
    obtain ⟨h1, h2, h3, h4, h5, h6⟩ := h
    rw [SmS]
    exact ⟨h1, h2, h3, h4, fun x hx => SmS_up d x (h5 x hx), fun x hx => SmS_up d x (h6 x hx)⟩
/-- A drawn program, of one more depth. -/
def dfR (r : D) (h : List (Option (List C))) : Prop := ∃ p : Pg, r = .agg p.cells ∧ SmQ 3 p ∧ h = []
theorem drawFoldProgram (bs : List Int) (hb : Fits .u8 bs) (hl : bs.length ≤ mx) : DC Tryz.prog 10 [bytesD bs] [] dfR := by
  have hmx := mx_eq
  have hop := l17Open bs hl
  have hb' := fits_take hb 2000
  have hl' : (bs.take 2000).length ≤ 2000 := by rw [List.length_take]; omega
  generalize hR : dfR = R
  generalize hbs : bs.take 2000 = b2 at *
  unfold bytesD
  unfold bytesD at hop
  refine dcZ Tryz.func10 ?_
  simp (maxSteps := 9999999) only [go_sem]
  ((try (refine drvZ Tryz.func10 ?_; simp (maxSteps := 9999999) only [go_sem])); (try ((with_reducible refine And.intro ?_ ?_) <;> (repeat' with_reducible apply And.intro) <;> try exact sd)))
  refine XK.callG [] hop ok42 (fun i' x h => by simp at h) (hbT ()) (fun d h' ⟨_, e⟩ => by subst e; simp) ?_
  rintro _ _ ⟨rfl, rfl⟩ _
  iterate 2 ((try (refine drvZ Tryz.func10 ?_; simp (maxSteps := 9999999) only [go_sem, renCs_rdr])); (try ((with_reducible refine And.intro ?_ ?_) <;> (repeat' with_reducible apply And.intro) <;> try exact sd)))
  have hpr := l2Program b2 0 hb' hl' (by omega)
  refine XK.callG [128] hpr ok43 (hhp_one (by simp [upd, renCs_rdr])) (hbT ()) (fun d h' ⟨_, _, _, _, _, _, e⟩ => by subst e; simp) ?_
  rintro _ _ ⟨p, rfl, hp, n1, hn1, hn2, rfl⟩ _
  have hln := prog_len hp.ok
  have hpk := pick b2 n1 2 hb' hl' (by omega) (by simp only [InK]; omega)
  have hds := (draws b2 p hb' hl' (by omega) (by omega) 1 (by omega)).1
  have hmu := fun n h => l2MutateD 3 b2 n p hb' hl' h hp.nv hp.na hp.nb fun s hs => SmS_up 2 s (hp.sm s hs)
  obtain ⟨vs, ar, bd⟩ := p
  iterate 3 ((try (refine drvZ Tryz.func10 ?_; simp (maxSteps := 9999999) only [go_sem, renCs_rdr])); (try ((with_reducible refine And.intro ?_ ?_) <;> (repeat' with_reducible apply And.intro) <;> try exact sd)))
  refine XK.callG [128] hpk ok44 (hhp_one (by simp [upd, renCs_rdr])) (hbT ()) (fun d h' ⟨_, _, _, e⟩ => by subst e; simp) ?_
  rintro _ _ ⟨v, rfl, hv, rfl⟩ _
  by_cases h0 : v = 0
  · subst h0
    iterate 3 ((try (refine drvZ Tryz.func10 ?_; simp (maxSteps := 9999999) only [go_sem, renCs_rdr])); (try ((with_reducible refine And.intro ?_ ?_) <;> (repeat' with_reducible apply And.intro) <;> try exact sd)))
    refine XK.callG [128] (pick b2 (n1 + 1) 2 hb' hl' (by omega) (by simp only [InK]; omega)) ok44 (hhp_one (by simp [upd, renCs_rdr])) (hbT ()) (fun d h' ⟨_, _, _, e⟩ => by subst e; simp) ?_ (fun _ => ⟨by kernel_rfl, _, _, ⟨0, rfl, .inr (by omega), rfl⟩, by simp⟩)
    rintro _ _ ⟨v1, rfl, hv1, rfl⟩ _
    have hcs := constS v1
    simp only [cE, Ex.cells, Ex.cellsL] at hcs
    iterate 3 ((try (refine drvZ Tryz.func10 ?_; simp (maxSteps := 9999999) only [go_sem, renCs_rdr])); (try ((with_reducible refine And.intro ?_ ?_) <;> (repeat' with_reducible apply And.intro) <;> try exact sd)); (try first | refine XK.p hcs ok45 ?_ | refine XK.gp hcs ok45 ?_))
    refine XK.callG [128] (pick b2 (n1 + 1 + 1) 2 hb' hl' (by omega) (by simp only [InK]; omega)) ok44 (hhp_one (by simp [upd, renCs_rdr])) (hbT ()) (fun d h' ⟨_, _, _, e⟩ => by subst e; simp) ?_ (fun _ => ⟨by kernel_rfl, _, _, ⟨0, rfl, .inr (by omega), rfl⟩, by simp⟩)
    rintro _ _ ⟨v2, rfl, hv2, rfl⟩ _
    iterate 3 ((try (refine drvZ Tryz.func10 ?_; simp (maxSteps := 9999999) only [go_sem, renCs_rdr])); (try ((with_reducible refine And.intro ?_ ?_) <;> (repeat' with_reducible apply And.intro) <;> try exact sd)))
    have hK := KS_le 1 (by omega)
    refine XK.callG [128] (hds (n1 + 1 + 1 + 1) (by omega)) ok46 (hhp_one (by simp [upd, renCs_rdr])) (hbT ()) (fun d h' ⟨_, _, _, _, _, _, e⟩ => by subst e; simp) ?_ (fun _ => ⟨by kernel_rfl, _, _, ⟨.mk 0 0 Ex0 Ex0 0 [] [], rfl, SmS.leaf SmE0 SmE0, n1 + 1 + 1 + 1, by omega, by omega, rfl⟩, by simp⟩)
    rintro _ _ ⟨s, rfl, hs, n2, hn3, hn4, rfl⟩ _
    obtain ⟨sk, st, ⟨ik, iv, iks⟩, ⟨vk, vv, vks⟩, sc, sb, se⟩ := s
    iterate 6 ((try (refine drvZ Tryz.func10 ?_; simp (maxSteps := 9999999) only [go_sem, renCs_rdr])); (try ((with_reducible refine And.intro ?_ ?_) <;> (repeat' with_reducible apply And.intro) <;> try exact sd)))
    refine XK.subQ (r := some) (fz := []) (tl := [(2, .c (.ptr 0 0)), (30, .c (.ptr 128 0)), (31, .agg [isI vs, isI ar, .msl 1728 11 0 2])])
      (hl := [(0, some [.v (.slice none 0 0), .v (.slice none 0 0), .v (.slice none 0 0)]), (128, some (rdr b2 n2)), (1280, some (St1.cells (.mk 4 0 Ex0 Ex0 (1 + v2) [] []))),
        (1728, some ([I64 3, I64 0, I64 0, I64 0, .isl 3 [], I64 1, I64 v1, .isl 3 [], I64 0, .isl 11 (St1.cellsL bd), .msl 1280 11 0 1] ++ St1.cells (.mk sk st (.mk ik iv iks) (.mk vk vv vks) sc sb se)))]) ?_ ?_
    · simp (maxSteps := 9999999) only [go_sem, TmOK, DM, DMs, CM, CMs, forall_eq, exists_eq_left, Mq, HpOK, LowOK, Ex0, Ex.cellsL, St1.cellsL, List.cons_append, List.nil_append]
      simp [CMs.kf (rdr_kf _ _), Ex.cellsL, St1.cellsL]
    refine XK.subQ (r := some) (fz := [1280]) (tl := [(2, .c (.ptr 0 0)), (30, .c (.ptr 128 0)), (31, .agg [isI vs, isI ar, .msl 1728 11 0 2])])
      (hl := [(0, some [.v (.slice none 0 0), .v (.slice none 0 0), .v (.slice none 0 0)]), (128, some (rdr b2 n2)),
        (1728, some (stC [.mk 3 0 Ex0 (.mk 1 v1 []) 0 bd [.mk 4 0 Ex0 Ex0 (1 + v2) [] []], .mk sk st (.mk ik iv iks) (.mk vk vv vks) sc sb se]))]) ?_ ?_
    · simp (maxSteps := 9999999) only [go_sem, TmOK, DM, DMs, CM, CMs, forall_eq, exists_eq_left, Mq, HpOK, LowOK, Ex0, Ex.cellsL, St1.cellsL, List.cons_append, List.nil_append, stC_cons, stC_nil]
      simp [CMs.kf (rdr_kf _ _), Ex.cellsL, St1.cellsL, kf, upd, hOf]
    refine XK.subQ (r := some) (fz := [1728]) (tl := [(2, .c (.ptr 0 0)), (30, .c (.ptr 128 0)), (31, .agg (Pg.cells ⟨vs, ar, [.mk 3 0 Ex0 (.mk 1 v1 []) 0 bd [.mk 4 0 Ex0 Ex0 (1 + v2) [] []], .mk sk st (.mk ik iv iks) (.mk vk vv vks) sc sb se]⟩))])
      (hl := [(0, some [.v (.slice none 0 0), .v (.slice none 0 0), .v (.slice none 0 0)]), (128, some (rdr b2 n2))]) ?_ ?_
    · simp (maxSteps := 9999999) only [go_sem, TmOK, DM, DMs, CM, CMs, forall_eq, exists_eq_left, Mq, HpOK, LowOK, Ex0, Ex.cellsL, St1.cellsL, List.cons_append, List.nil_append, stC_cons, stC_nil]
      simp [CMs.kf (rdr_kf _ _), Ex.cellsL, St1.cellsL, kf, upd, hOf]
    have hmu2 := l2MutateD 3 b2 n2 ⟨vs, ar, [.mk 3 0 Ex0 (.mk 1 v1 []) 0 bd [.mk 4 0 Ex0 Ex0 (1 + v2) [] []], .mk sk st (.mk ik iv iks) (.mk vk vv vks) sc sb se]⟩ hb' hl' (by omega) hp.nv hp.na (by simp) (by
      intro x hx
      rcases List.mem_cons.1 hx with rfl | hx
      · rw [SmS]
        refine ⟨SmE0, .mk 1 v1 [] (by simp) (fun x h => by simp at h), hp.nb, by simp, hp.sm, fun x hx => ?_⟩
        rw [List.mem_singleton.1 hx]; exact SmS.leaf SmE0 SmE0
      · rw [List.mem_singleton.1 hx]; exact SmS_up 2 _ (SmS_up 1 _ hs))
    refine XK.callG [128] hmu2 ok47 (hhp_one (by simp [hOf, upd, renCs_rdr])) (hbT ()) (fun d h' ⟨_, _, _, _, _, _, e⟩ => by subst e; simp) ?_
    rintro _ _ ⟨p2, rfl, hp2, n4, hn7, hn8, rfl⟩ _
    obtain ⟨vs2, ar2, bd2⟩ := p2
    iterate 3 ((try (refine drvZ Tryz.func10 ?_; simp (maxSteps := 9999999) only [go_sem, renCs_rdr])); (try ((with_reducible refine And.intro ?_ ?_) <;> (repeat' with_reducible apply And.intro) <;> try exact sd)))
    refine RetOb.ofQ (fun _ => none) [] (.agg (Pg.cells ⟨vs2, ar2, bd2⟩)) [] ?_ (by rw [← hR]; exact ⟨_, rfl, hp2, rfl⟩) (by simp)
    simp [enumL, DM, DMs, CM, CMs, HpOK, LowOK, hOf, Pg.cells, isI]
  · have e1 : (v == 0) = false := by simp [h0]
    iterate 3 ((try (refine drvZ Tryz.func10 ?_; simp (maxSteps := 9999999) only [go_sem, renCs_rdr, e1, h0])); (try ((with_reducible refine And.intro ?_ ?_) <;> (repeat' with_reducible apply And.intro) <;> try exact sd)))
    refine XK.callG [128] (hmu (n1 + 1) (by omega)) ok47 (hhp_one (by simp [hOf, upd, renCs_rdr])) (hbT ()) (fun d h' ⟨_, _, _, _, _, _, e⟩ => by subst e; simp) ?_
    rintro _ _ ⟨p2, rfl, hp2, n4, hn7, hn8, rfl⟩ _
    obtain ⟨vs2, ar2, bd2⟩ := p2
    iterate 3 ((try (refine drvZ Tryz.func10 ?_; simp (maxSteps := 9999999) only [go_sem, renCs_rdr])); (try ((with_reducible refine And.intro ?_ ?_) <;> (repeat' with_reducible apply And.intro) <;> try exact sd)))
    refine RetOb.ofQ (fun _ => none) [] (.agg (Pg.cells ⟨vs2, ar2, bd2⟩)) [] ?_ (by rw [← hR]; exact ⟨_, rfl, hp2, rfl⟩) (by simp)
    simp [enumL, DM, DMs, CM, CMs, HpOK, LowOK, hOf, Pg.cells, isI]
end Go.Proofs.YtjjjidcbokbhpaaGreat.CtD

namespace Go.Proofs.YtjjjidcbokbhpaaGreat.CtD
open Go Go.CT CtF CtR
open CtL (foldP prj)

theorem fold_runP {p : Pg} (h : progOK p = true) (m : Mm) : (runP (foldP p) m).1 = (runP p m).1 ∧ prj (runP (foldP p) m).2.1 = prj (runP p m).2.1 ∧ (runP (foldP p) m).2.2 = (runP p m).2.2 := by
  have hq := CtL.fold_valid h
  cases hm : memOK p.vars p.arrays m with
  | true =>
    have hm' : memOK (foldP p).vars (foldP p).arrays m = true := hm
    have := CtL.fold_prog h hm
    rw [runP_of h hm, runP_of hq hm']
    exact ⟨this.1, this.2, rfl⟩
  | false =>
    have hm' : memOK (foldP p).vars (foldP p).arrays m = false := hm
    simp [runP, hm, hm']
theorem lawFP (bs : List Int) (hb : Fits .u8 bs) (hl : bs.length ≤ mx) : DC Tryz.prog 3 [bytesD bs] [] (fun d h => d = DB true ∧ h = []) := by
  have hmx := mx_eq
  have hdr := drawFoldProgram bs hb hl
  have hdm := drawRunProgram bs hb hl
  unfold bytesD
  unfold bytesD at hdr hdm
  have ret : ∀ hp : Hp, RetOb 0 (fun d h => d = DB true ∧ h = []) (DB true) hp := fun hp => RetOb.plain (d := DB true) ⟨rfl, rfl⟩ rfl
  generalize hRR : (fun (d : D) (h : List (Option (List C))) => d = DB true ∧ h = []) = R at ret ⊢
  by_cases hbig : 1048576 < bs.length
  · have hz : ((1048576 : Int) < (bs.length : Int)) = True := eq_true (by omega)
    refine dcZ Tryz.func3 ?_
    simp (maxSteps := 9999999) only [go_sem, hz]
    iterate 3 ((try (refine drvZ Tryz.func3 ?_; simp (maxSteps := 9999999) only [go_sem, hz])); (try ((with_reducible refine And.intro ?_ ?_) <;> (repeat' with_reducible apply And.intro) <;> try exact sd)))
    exact ret _
  have hz : ((1048576 : Int) < (bs.length : Int)) = False := eq_false (by omega)
  refine dcZ Tryz.func3 ?_
  simp (maxSteps := 9999999) only [go_sem, hz]
  iterate 3 ((try (refine drvZ Tryz.func3 ?_; simp (maxSteps := 9999999) only [go_sem, hz])); (try ((with_reducible refine And.intro ?_ ?_) <;> (repeat' with_reducible apply And.intro) <;> try exact sd)))
  refine XK.callG [] hdr ok10 (fun i' x h => by simp at h) (hbT ()) (fun d h' ⟨_, _, _, e⟩ => by subst e; simp) ?_
  rintro _ _ ⟨p, rfl, hp, rfl⟩ _
  have h1 := hp.nv
  have h2 := hp.na
  have h3 := hp.nb
  have hls := lsize_sm 3 5 p.body hp.sm
  have hls2 : p.body.length * 9 ^ 3 ≤ 4 * 9 ^ 3 := Nat.mul_le_mul_right _ h3
  have hfi := foldProgI p (by omega) (by omega)
  have hfs := foldProgS p (by omega) (by omega) (by omega) (fun s hs => SmT_sm 3 s (hp.sm s hs)) (by omega)
  clear hdr
  cases hok : progOK p with
  | false =>
    rw [show foldPR p = (⟨[], [], []⟩, false) by simp [foldPR, hok]] at hfi hfs
    have hps := programSame ⟨[], [], []⟩ (by simp) (by simp) (by simp) (by simp)
    obtain ⟨vs, ar, bd⟩ := p
    iterate 2 ((try (refine drvZ Tryz.func3 ?_; simp (maxSteps := 9999999) only [go_sem])); (try ((with_reducible refine And.intro ?_ ?_) <;> (repeat' with_reducible apply And.intro) <;> try exact sd)))
    refine XK.callG [] hdm ok11 (fun i' x h => by simp at h) (hbT ()) (fun d h' ⟨_, _, _, _, _, e⟩ => by subst e; simp) ?_
    rintro _ _ ⟨p2, m, rfl, hp2, hm, rfl⟩ _
    clear hdm
    obtain ⟨vs2, ar2, bd2⟩ := p2
    obtain ⟨va, arr⟩ := m
    iterate 12 ((try (refine drvZ Tryz.func3 ?_; simp (maxSteps := 9999999) only [go_sem, Mm.cells, bne_self_eq_false, List.map_nil])); (try ((with_reducible refine And.intro ?_ ?_) <;> (repeat' with_reducible apply And.intro) <;> try exact sd)); (try first | refine XK.p hfi ok12 ?_ | refine XK.gp hfi ok12 ?_ | refine XK.p hfs ok13 ?_ | refine XK.gp hfs ok13 ?_ | refine XK.p hps ok14 ?_ | refine XK.gp hps ok14 ?_))
    exact ret _
  | true =>
    rw [show foldPR p = (foldP p, true) by simp [foldPR, hok]] at hfi hfs
    have hq := CtL.fold_valid hok
    have hlq := prog_len hq
    have hqf := (CtL.prog_FS hq).1
    have hps := programSame (foldP p) (by omega) (by omega) (by omega) (sameBody hq)
    have hpv := programValidI (foldP p) (by omega) (by omega)
    rw [hq] at hpv
    have hrun := fold_runP hok
    have hr1 := fun m => runProgI p m (by omega) (by omega)
    have hr2 := fun m => runProgI (foldP p) m (by omega) (by omega)
    have hs1 := runP_sm p
    have hs2 := runP_sm (foldP p)
    obtain ⟨vs, ar, bd⟩ := p
    generalize foldP ⟨vs, ar, bd⟩ = q at *
    obtain ⟨qv, qa, qb⟩ := q
    iterate 2 ((try (refine drvZ Tryz.func3 ?_; simp (maxSteps := 9999999) only [go_sem])); (try ((with_reducible refine And.intro ?_ ?_) <;> (repeat' with_reducible apply And.intro) <;> try exact sd)))
    refine XK.callG [] hdm ok11 (fun i' x h => by simp at h) (hbT ()) (fun d h' ⟨_, _, _, _, _, e⟩ => by subst e; simp) ?_
    rintro _ _ ⟨p2, m, rfl, hp2, hm, rfl⟩ _
    clear hdm
    have hrun := hrun m
    have hr1 := hr1 m
    have hr2 := hr2 m
    have hs1 := hs1 m
    have hs2 := hs2 m
    generalize runP ⟨vs, ar, bd⟩ m = X1 at *
    generalize runP ⟨qv, qa, qb⟩ m = X2 at *
    obtain ⟨⟨u1, u2⟩, t1, b1⟩ := X1
    obtain ⟨⟨w1, w2⟩, t2, b2⟩ := X2
    obtain ⟨e1, e2, e3⟩ := hrun
    simp only at e1 e2 e3 hs1 hs2 hr1 hr2
    cases e1
    subst e3
    have hpa := projI t1 (by omega)
    have hpb := projI t2 (by omega)
    rw [e2] at hpb
    have hpl : (prj t1).length ≤ t1.length := List.length_filter_le _ _
    have hms := memorySame ⟨u1, u2⟩ ⟨u1, u2⟩ (by simp only; omega) (by simp only; omega) (fun a h => by have := hs1.2.2.1 a h; omega)
    rw [memSame_refl] at hms
    have hts := traceSame (prj t1) (prj t1) (by omega)
    rw [trSame_refl] at hts
    obtain ⟨vs2, ar2, bd2⟩ := p2
    obtain ⟨va, arr⟩ := m
    iterate 26 ((try (refine drvZ Tryz.func3 ?_; simp (maxSteps := 9999999) only [go_sem, Mm.cells, trD, bne_self_eq_false, beq_self_eq_true])); (try ((with_reducible refine And.intro ?_ ?_) <;> (repeat' with_reducible apply And.intro) <;> try exact sd)); (try first | refine XK.p hfi ok12 ?_ | refine XK.gp hfi ok12 ?_ | refine XK.p hfs ok13 ?_ | refine XK.gp hfs ok13 ?_ | refine XK.p hps ok14 ?_ | refine XK.gp hps ok14 ?_ | refine XK.p hr1 ok15 ?_ | refine XK.gp hr1 ok15 ?_ | refine XK.p hr2 ok15 ?_ | refine XK.gp hr2 ok15 ?_ | refine XK.p hpv ok16 ?_ | refine XK.gp hpv ok16 ?_ | refine XK.p hms ok17 ?_ | refine XK.gp hms ok17 ?_ | refine XK.p hpa ok19 ?_ | refine XK.gp hpa ok19 ?_ | refine XK.p hpb ok19 ?_ | refine XK.gp hpb ok19 ?_ | refine XK.p hts ok18 ?_ | refine XK.gp hts ok18 ?_))
    exact ret _
end Go.Proofs.YtjjjidcbokbhpaaGreat.CtD
