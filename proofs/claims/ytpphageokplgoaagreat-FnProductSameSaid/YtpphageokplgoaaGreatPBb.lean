/- Contracts of functions of the program, one behind the other, as plain data: what each call returns and which blocks it leaves. -/
import Derived.Test.YtpphageokplgoaaGreatPFacts
import Derived.Test.YtpphageokplgoaaGreatPAj
import Derived.Test.YtpphageokplgoaaGreatPAk
import Derived.Test.YtpphageokplgoaaGreatPAl
import Derived.Test.YtpphageokplgoaaGreatPAn
import Derived.Test.YtpphageokplgoaaGreatPAp
import Derived.Test.YtpphageokplgoaaGreatPAr
import Derived.Test.YtpphageokplgoaaGreatPAs
import Derived.Test.YtpphageokplgoaaGreatPAt
import Derived.Test.YtpphageokplgoaaGreatPAy
import Derived.Test.YtpphageokplgoaaGreatPAz
import Derived.Test.YtpphageokplgoaaGreatPBa
import Derived.Test.YtpphageokplgoaaGreatPAu
import Derived.Test.YtpphageokplgoaaGreatPAm
import Derived.Test.YtpphageokplgoaaGreatPAo
import Derived.Test.YtpphageokplgoaaGreatPAv
set_option linter.unusedVariables false
set_option linter.unusedSimpArgs false
set_option maxHeartbeats 16000000
set_option maxRecDepth 100000
namespace Go.Proofs.YtpphageokplgoaaGreat.CtD
open Go Go.CT CtF CtR
open CtL (e0 cE vE rdE bE selE hitE asg sto maskE readN readS stoN stoS linK lab1 linE linB linO maskS linI linS linQ linP)
theorem linB_sz2 {p : Pg} (d : Nat) (mk : Int) (pc : Nat) (l : List St1) : ∀ (vs : List Int), (∀ s ∈ l, stmtOK p d s = true) → p.vars.length ≤ vs.length → (linB (linS p.arrays d mk pc) vs l).1.length ≤ vs.length + 17 * lsize d l ∧ ∀ D, lsize D (linB (linS p.arrays d mk pc) vs l).2 ≤ 70 * lsize d l := by
 induction l with
 | nil => intro vs _ _; simp [linB, lsize]
 | cons s r ihr =>
  intro vs hok hl
  have h1 := CtL.linS_sz d mk pc s vs (hok s (by simp)) hl
  have hm := CtL.more_le (CtL.lin_more (p := p) d mk pc vs [s] (by simpa using hok s (by simp)) hl)
  simp only [linB] at hm
  have h2 := ihr (linS p.arrays d mk pc vs s).1 (fun s hs => hok s (by simp [hs])) (by omega)
  have e : lsize d (s :: r) = tsize d s + lsize d r := by simp [lsize]
  refine ⟨by simp only [linB]; omega, fun D => ?_⟩
  have := h1.2 D
  have := h2.2 D
  simp only [linB, lsize_app]
  omega
theorem len_le_lsize1 (l : List St1) : l.length ≤ lsize 1 l := CtL.len_lsize l
theorem RetOb.linT {R : D → List (Option (List C)) → Prop} {V ar : List Int} {out' : List St1} {hp : Hp} {kt n : Nat} {cs : List C}
 (hR : R (.agg [isI V, isI ar, .v (.slice none 0 0), .msl 1 11 0 out'.length]) [none, some (stC out')])
 (h : hp kt = some (some cs)) (hc : ∀ hT r fz, CMs hT r hp fz (stC out') cs) (hn : n = out'.length) (hk : 1 ≤ kt) :
 RetOb 1 R (.agg [isI V, isI ar, .v (.slice none 0 0), .msl kt 11 0 n]) hp := by
 subst hn
 refine RetOb.ofQ (fun j => if j = 1 then some kt else some j) [] (.agg [isI V, isI ar, .v (.slice none 0 0), .msl 1 11 0 out'.length]) [none, some (stC out')] ?_ hR (by simp)
 simp [enumL, hOf, DM, DMs, CM, CMs, HpOK, LowOK, upd, isI, h]
 exact hc _ _ _
theorem ifS {p : Pg} {d : Nat} (ih : BlkH p d) (hla : p.arrays.length ≤ 1048576) (h2 : lab3 p.arrays) (mk : Int) (pc : Nat) (vs : List Int) (out : List St1) (w t : Int) (ix v : Ex) (c : Int) (b e : List St1) (hw : w = 3) (hp : pc ≤ 3) (hso : stmtOK p (d + 1) (.mk w t ix v c b e) = true) (hl : p.vars.length ≤ vs.length) (h1 : lab3 vs)
 (hb1 : vs.length + 17 * tsize (d + 1) (.mk w t ix v c b e) ≤ 1000000) (hb2 : out.length + 70 * tsize (d + 1) (.mk w t ix v c b e) ≤ 1000000) :
 DC Tryz.prog 123 [.agg [isI vs, isI p.arrays, .v (.slice none 0 0), .msl 0 11 0 out.length], .agg (St1.cells (.mk w t ix v c b e)), DI .i64 mk, DI .i64 pc] [some (stC out)]
  (StR p.arrays out (linS p.arrays (d + 1) mk pc vs (.mk w t ix v c b e))) := by
 have hmx := mx_eq
 obtain ⟨hh, hbo, heo⟩ := stmtOK_succ hso
 have hts : tsize (d + 1) (.mk w t ix v c b e) = 1 + lsize d b + lsize d e := by simp [tsize, lsize]
 rw [hts] at hb1 hb2
 have hsv := CtL.shape_mono (p := p) (q := ⟨vs, p.arrays, []⟩) hl rfl 5 v ((shapeV hso).1 (by omega))
 have hcnt : cnt 5 v ≤ 15 := by
  have hkk := head_kind hh
  have : right p v = true := by
   rcases hkk with h | h | h | h
   ·exact h.2.2.2
   ·exact h.2.2.2.2.2
   ·exact h.2
   ·omega
  exact (right_shape this).2
 have hlab := labelL vs p.arrays (by omega) (by omega) h1 h2 5 v hsv
 have hle := labN_le h1 h2 5 v
 have hex := exprS p.arrays pc hp h2 hla 5 v vs out hsv h1 (by omega) (by omega)
 have hEl := linE_lab3 hp h2 5 vs v h1
 have hEz := CtL.linE_sz (ar := p.arrays) (pc := pc) 5 vs v
 have hEm := CtL.more_le (CtL.linE_ok (q := ⟨[], p.arrays, []⟩) rfl pc 5 vs v hsv).more
 have hSz : ∀ mk pc (vs : List Int) (l : List St1), (∀ s ∈ l, stmtOK p d s = true) → p.vars.length ≤ vs.length → vs.length ≤ (linB (linS p.arrays d mk pc) vs l).1.length := fun mk pc vs l hok hl => CtL.more_le (CtL.lin_more (p := p) d mk pc vs l hok hl)
 have hls := CtL.linS_3 (ar := p.arrays) (d := d) (mk := mk) (pc := pc) (vs := vs) (t := t) (ix := ix) (v := v) (c := c) (b := b) (e := e)
 rw [hw] at *
 rw [hls]
 clear hls hso hh
 have hor := or3 hp hle
 have hse := labelSecretS (labN vs p.arrays 5 v) hle
 generalize labN vs p.arrays 5 v = l at *
 generalize linE p.arrays pc 5 vs v = E at *
 obtain ⟨vi, oi, xe⟩ := E
 simp only at hex hEl hEz hEm ⊢
 unfold linI
 dsimp only
 cases hsec : secL l with
 | false =>
  rw [if_neg (by simp)]
  rw [hsec] at hse
  have hI1 := innerS ih mk (pc ||| l) vi (out ++ oi) b hor hbo (by omega) hEl (by omega) (by omega) (by rw [List.length_append]; omega)
  have hs1 := hSz mk (pc ||| l) vi b hbo (by omega)
  have hl1 := linB_lab3 (fun vs s h => linS_lab3 h2 d mk (pc ||| l) vs s hor h) b vi hEl
  have hz1 := (linB_sz2 (p := p) d mk (pc ||| l) b vi hbo (by omega)).1
  generalize linB (linS p.arrays d mk (pc ||| l)) vi b = B1 at *
  obtain ⟨vj, oj⟩ := B1
  simp only at hI1 hs1 hl1 hz1 ⊢
  have hI2 := innerS ih mk (pc ||| l) vj (out ++ oi) e hor heo (by omega) hl1 (by omega) (by omega) (by rw [List.length_append]; omega)
  generalize linB (linS p.arrays d mk (pc ||| l)) vj e = B2 at *
  obtain ⟨vk, ok⟩ := B2
  simp only at hI2 ⊢
  have hcl := stC_len (out ++ oi)
  have hlen : (out ++ oi).length ≤ 1000000 := by rw [List.length_append]; omega
  obtain ⟨pv, ar, pb⟩ := p
  obtain ⟨ik, iv, iks⟩ := ix
  obtain ⟨k', v', ks'⟩ := v
  obtain ⟨xk, xv, xks⟩ := xe
  generalize hR : StR ar out (vk, oi ++ [.mk 3 0 e0 (.mk xk xv xks) 0 oj ok]) = R
  refine dcZ Tryz.func123 ?_
  simp (maxSteps := 9999999) only [go_sem]
  iterate 3 ((try (refine drvZ Tryz.func123 ?_; simp (maxSteps := 9999999) only [go_sem])); (try ((with_reducible refine And.intro ?_ ?_) <;> (repeat' with_reducible apply And.intro) <;> try exact sd)); (try first | refine XK.p hlab ok130 ?_ | refine XK.gp hlab ok130 ?_))
  refine XK.callG [0] hex ok125 (hhpG (by simp [HH, upd, hpL, renCs_stC])) (hbT ()) (fun d h' ⟨_, e⟩ => by subst e; simp) ?_
  rintro _ _ ⟨rfl, rfl⟩ _
  iterate 3 ((try (refine drvZ Tryz.func123 ?_; simp (maxSteps := 9999999) only [go_sem, renCs_stC])); (try ((with_reducible refine And.intro ?_ ?_) <;> (repeat' with_reducible apply And.intro) <;> try exact sd)); (try first | refine XK.p hse ok129 ?_ | refine XK.gp hse ok129 ?_))
  refine XK.callG [1025] hI1 ok124 (hhpG (by simp [HH, upd, renCs_stC])) (hbT ()) (fun d h' ⟨_, e⟩ => by subst e; simp) ?_
  rintro _ _ ⟨rfl, rfl⟩ _
  iterate 2 ((try (refine drvZ Tryz.func123 ?_; simp (maxSteps := 9999999) only [go_sem, renCs_stC])); (try ((with_reducible refine And.intro ?_ ?_) <;> (repeat' with_reducible apply And.intro) <;> try exact sd)))
  refine XK.callG [1025] hI2 ok124 (hhpG (by simp [HH, upd, renCs_stC])) (hbT ()) (fun d h' ⟨_, e⟩ => by subst e; simp) ?_
  rintro _ _ ⟨rfl, rfl⟩ _
  iterate 5 ((try (refine drvZ Tryz.func123 ?_; simp (maxSteps := 9999999) only [go_sem, renCs_stC, hcl])); (try ((with_reducible refine And.intro ?_ ?_) <;> (repeat' with_reducible apply And.intro) <;> try exact sd)))
  refine RetOb.linT (R := R) (out' := out ++ (oi ++ [.mk 3 0 e0 (.mk xk xv xks) 0 oj ok])) (by rw [← hR]; exact ⟨rfl, rfl⟩) (by simp [upd]; rfl) (fun _ _ _ => ?_) (by simp [Nat.add_assoc]) (by omega)
  rw [← List.append_assoc, stC_snoc]
  exact CMs.app (CMs.kf (stC_kf _)) (by simp [CMs, CM, St1.cells, St1.cellsL, Ex.cells, Ex.cellsL, e0])
 | true =>
  rw [if_pos rfl]
  rw [hsec] at hse
  have hl2 : (vi ++ lab1 pc l ++ lab1 pc l).length = vi.length + 2 := by simp [lab1]
  have hlv := lab3_app (lab3_app hEl (lab3_lab1 hp hle)) (lab3_lab1 hp hle)
  have hf1 := freshS vi p.arrays (out ++ oi) ((pc ||| l : Nat) : Int) (by rw [List.length_append]; omega) (by omega)
  have hf2 := freshS (vi ++ lab1 pc l) p.arrays (out ++ oi ++ [asg vi.length (maskE mk xe (cE 0))]) ((pc ||| l : Nat) : Int) (by simp only [List.length_append, List.length_singleton]; omega) (by simp [lab1]; omega)
  have hmS : out ++ oi ++ [asg vi.length (maskE mk xe (cE 0))] ++ [asg ((vi.length + 1 : Nat) : Int) (maskE mk (bE 9 (vE vi.length) (cE 0)) (cE 0))] = out ++ oi ++ maskS mk vi.length xe := by simp [maskS]
  have ha1 := asgS (vi ++ lab1 pc l) p.arrays (out ++ oi) vi.length (maskE mk xe (cE 0)) (by rw [List.length_append]; omega)
  have ha2 := asgS (vi ++ lab1 pc l ++ lab1 pc l) p.arrays (out ++ oi ++ [asg vi.length (maskE mk xe (cE 0))]) ((vi.length + 1 : Nat) : Int) (maskE mk (bE 9 (vE vi.length) (cE 0)) (cE 0)) (by simp only [List.length_append, List.length_singleton]; omega)
  rw [hmS] at ha2
  have c0 := constS 0
  have cv := varS vi.length
  have hm1 := maskES mk xe (cE 0)
  have hm2 := maskES mk (bE 9 (vE vi.length) (cE 0)) (cE 0)
  have hn := nodeS 9 [vE vi.length, cE 0]
  have hB1 := ih vi.length (pc ||| l) (vi ++ lab1 pc l ++ lab1 pc l) (out ++ oi ++ maskS mk vi.length xe) b hor hbo (by omega) hlv (by omega) (by simp only [List.length_append, maskS, List.length_cons, List.length_nil]; omega)
  have hs1 := hSz vi.length (pc ||| l) (vi ++ lab1 pc l ++ lab1 pc l) b hbo (by omega)
  have hl1 := linB_lab3 (fun vs s h => linS_lab3 h2 d vi.length (pc ||| l) vs s hor h) b (vi ++ lab1 pc l ++ lab1 pc l) hlv
  have hz1 := linB_sz2 (p := p) d vi.length (pc ||| l) b (vi ++ lab1 pc l ++ lab1 pc l) hbo (by omega)
  have hz2 := len_le_lsize1 (linB (linS p.arrays d vi.length (pc ||| l)) (vi ++ lab1 pc l ++ lab1 pc l) b).2
  have hz3 := hz1.2 1
  have hz1 := hz1.1
  unfold StR at hB1
  generalize linB (linS p.arrays d vi.length (pc ||| l)) (vi ++ lab1 pc l ++ lab1 pc l) b = B1 at *
  obtain ⟨vj, oj⟩ := B1
  simp only at hB1 hs1 hl1 hz1 hz2 hz3 ⊢
  have hB2 := ih ((vi.length + 1 : Nat) : Int) (pc ||| l) vj (out ++ oi ++ maskS mk vi.length xe ++ oj) e hor heo (by omega) hl1 (by omega) (by simp only [List.length_append, maskS, List.length_cons, List.length_nil]; omega)
  unfold StR at hB2
  generalize linB (linS p.arrays d ((vi.length + 1 : Nat) : Int) (pc ||| l)) vj e = B2 at *
  obtain ⟨vk, ok⟩ := B2
  simp only at hB2 ⊢
  obtain ⟨pv, ar, pb⟩ := p
  obtain ⟨ik, iv, iks⟩ := ix
  obtain ⟨k', v', ks'⟩ := v
  obtain ⟨xk, xv, xks⟩ := xe
  generalize hR : StR ar out (vk, oi ++ maskS mk vi.length (.mk xk xv xks) ++ oj ++ ok) = R
  generalize hM1 : maskE mk (.mk xk xv xks) (cE 0) = M1 at *
  generalize hM2 : maskE mk (bE 9 (vE vi.length) (cE 0)) (cE 0) = M2 at *
  obtain ⟨m1k, m1v, m1s⟩ := M1
  obtain ⟨m2k, m2v, m2s⟩ := M2
  rw [exC2] at hn
  have hln : (vi ++ lab1 pc l).length = vi.length + 1 := by simp [lab1]
  rw [hln] at hf2
  simp only [cE, vE, bE, lab1, Ex.cells, Ex.cellsL, List.cons_append, List.nil_append, List.length_cons, List.length_nil] at c0 cv hm1 hm2 hn hf1 hf2 ha1 ha2 hB1
  refine dcZ Tryz.func123 ?_
  simp (maxSteps := 9999999) only [go_sem]
  iterate 3 ((try (refine drvZ Tryz.func123 ?_; simp (maxSteps := 9999999) only [go_sem])); (try ((with_reducible refine And.intro ?_ ?_) <;> (repeat' with_reducible apply And.intro) <;> try exact sd)); (try first | refine XK.p hlab ok130 ?_ | refine XK.gp hlab ok130 ?_))
  refine XK.callG [0] hex ok125 (hhpG (by simp [HH, upd, hpL, renCs_stC])) (hbT ()) (fun d h' ⟨_, e⟩ => by subst e; simp) ?_
  rintro _ _ ⟨rfl, rfl⟩ _
  iterate 3 ((try (refine drvZ Tryz.func123 ?_; simp (maxSteps := 9999999) only [go_sem, renCs_stC])); (try ((with_reducible refine And.intro ?_ ?_) <;> (repeat' with_reducible apply And.intro) <;> try exact sd)); (try first | refine XK.p hse ok129 ?_ | refine XK.gp hse ok129 ?_))
  refine XK.callG [1025] hf1 ok178 (hhpG (by simp [HH, upd, renCs_stC])) (hbT ()) (fun d h' ⟨_, e⟩ => by subst e; simp) ?_
  rintro _ _ ⟨rfl, rfl⟩ _
  iterate 5 ((try (refine drvZ Tryz.func123 ?_; simp (maxSteps := 9999999) only [go_sem, renCs_stC])); (try ((with_reducible refine And.intro ?_ ?_) <;> (repeat' with_reducible apply And.intro) <;> try exact sd)); (try first | refine XK.p c0 ok44 ?_ | refine XK.gp c0 ok44 ?_ | refine XK.p hm1 ok127 ?_ | refine XK.gp hm1 ok127 ?_))
  refine XK.callG [1025] ha1 ok126 (hhpG (by simp [HH, upd, renCs_stC])) (hbT ()) (fun d h' ⟨_, e⟩ => by subst e; simp) ?_ (fun _ => ⟨by kernel_rfl, _, _, ⟨rfl, rfl⟩, by simp⟩)
  rintro _ _ ⟨rfl, rfl⟩ _
  iterate 2 ((try (refine drvZ Tryz.func123 ?_; simp (maxSteps := 9999999) only [go_sem, renCs_stC])); (try ((with_reducible refine And.intro ?_ ?_) <;> (repeat' with_reducible apply And.intro) <;> try exact sd)))
  refine XK.callG [2753] hf2 ok178 (hhpG (by simp [HH, upd, renCs_stC])) (hbT ()) (fun d h' ⟨_, e⟩ => by subst e; simp) ?_
  rintro _ _ ⟨rfl, rfl⟩ _
  iterate 4 ((try (refine drvZ Tryz.func123 ?_; simp (maxSteps := 9999999) only [go_sem, renCs_stC])); (try ((with_reducible refine And.intro ?_ ?_) <;> (repeat' with_reducible apply And.intro) <;> try exact sd)); (try first | refine XK.p cv ok128 ?_ | refine XK.gp cv ok128 ?_ | refine XK.p c0 ok44 ?_ | refine XK.gp c0 ok44 ?_))
  refine XK.callG [3905] hn ok179 (hhpG (by simp [HH, upd, renCs, renC])) (hbT ()) (fun d h' ⟨_, e⟩ => by subst e; simp) ?_ (fun _ => ⟨by kernel_rfl, _, _, ⟨rfl, rfl⟩, by simp⟩)
  rintro _ _ ⟨rfl, rfl⟩ _
  iterate 3 ((try (refine drvZ Tryz.func123 ?_; simp (maxSteps := 9999999) only [go_sem, renCs_stC])); (try ((with_reducible refine And.intro ?_ ?_) <;> (repeat' with_reducible apply And.intro) <;> try exact sd)); (try first | refine XK.p c0 ok44 ?_ | refine XK.gp c0 ok44 ?_ | refine XK.p hm2 ok127 ?_ | refine XK.gp hm2 ok127 ?_))
  refine XK.callG [2753] ha2 ok126 (hhpG (by simp [HH, upd, renCs_stC])) (hbT ()) (fun d h' ⟨_, e⟩ => by subst e; simp) ?_ (fun _ => ⟨by kernel_rfl, _, _, ⟨rfl, rfl⟩, by simp⟩)
  rintro _ _ ⟨rfl, rfl⟩ _
  iterate 2 ((try (refine drvZ Tryz.func123 ?_; simp (maxSteps := 9999999) only [go_sem, renCs_stC])); (try ((with_reducible refine And.intro ?_ ?_) <;> (repeat' with_reducible apply And.intro) <;> try exact sd)))
  refine XK.callG [4161] hB1 ok77 (hhpG (by simp [HH, upd, renCs_stC])) (hbT ()) (fun d h' ⟨_, e⟩ => by subst e; simp) ?_
  rintro _ _ ⟨rfl, rfl⟩ _
  iterate 2 ((try (refine drvZ Tryz.func123 ?_; simp (maxSteps := 9999999) only [go_sem, renCs_stC])); (try ((with_reducible refine And.intro ?_ ?_) <;> (repeat' with_reducible apply And.intro) <;> try exact sd)))
  refine XK.callG [4737] hB2 ok77 (hhpG (by simp [HH, upd, renCs_stC])) (hbT ()) (fun d h' ⟨_, e⟩ => by subst e; simp) ?_
  rintro _ _ ⟨rfl, rfl⟩ _
  iterate 2 ((try (refine drvZ Tryz.func123 ?_; simp (maxSteps := 9999999) only [go_sem, renCs_stC])); (try ((with_reducible refine And.intro ?_ ?_) <;> (repeat' with_reducible apply And.intro) <;> try exact sd)))
  exact RetOb.linS (R := R) (out' := out ++ (oi ++ maskS mk vi.length (.mk xk xv xks) ++ oj ++ ok)) (cs := stC (out ++ oi ++ maskS mk vi.length (.mk xk xv xks) ++ oj ++ ok)) (by rw [← hR]; exact ⟨rfl, rfl⟩) (by simp [upd]) (by simp only [List.append_assoc]) (by simp only [List.append_assoc]) (by omega)
end Go.Proofs.YtpphageokplgoaaGreat.CtD
namespace Go.Proofs.YtpphageokplgoaaGreat.CtD
open Go Go.CT CtF CtR
open CtL (e0 cE vE rdE bE selE hitE asg sto maskE readN readS stoN stoS linK lab1 linE linB linO maskS linI linS linQ linP)
theorem FE_right {p : Pg} {e : Ex} (h : right p e = true) : FE e := CtL.FE_shape 5 e (right_shape h).1
theorem linB_snoc {f : List Int → St1 → List Int × List St1} (a : List St1) (x : St1) (vs : List Int) : linB f vs (a ++ [x]) = ((f (linB f vs a).1 x).1, (linB f vs a).2 ++ (f (linB f vs a).1 x).2) := by
 rw [CtL.linB_app]; simp [linB]
theorem blockS1 {p : Pg} (hla : p.arrays.length ≤ 1048576) (h2 : lab3 p.arrays) (d : Nat) (ih : ∀ d', d = d' + 1 → BlkH p d') : BlkH p d := by
 have hmx := mx_eq
 intro mk pc vs out l hp hok hl h1 hb1 hb2
 have hT : ∀ i x, l[i]? = some x → linB (linS p.arrays d mk pc) vs (l.take (i + 1)) = ((linS p.arrays d mk pc (linB (linS p.arrays d mk pc) vs (l.take i)).1 x).1, (linB (linS p.arrays d mk pc) vs (l.take i)).2 ++ (linS p.arrays d mk pc (linB (linS p.arrays d mk pc) vs (l.take i)).1 x).2) := fun i x hx => by
  rw [List.take_add_one, hx]; exact linB_snoc _ _ _
 have hTs : ∀ i, (linB (linS p.arrays d mk pc) vs (l.take i)).1.length ≤ vs.length + 17 * tsum (tsize d) l i ∧ (linB (linS p.arrays d mk pc) vs (l.take i)).2.length ≤ 70 * tsum (tsize d) l i := fun i => by
  have h := linB_sz2 (p := p) d mk pc (l.take i) vs (fun s hs => hok s (List.mem_of_mem_take hs)) hl
  have h4 := len_le_lsize1 (linB (linS p.arrays d mk pc) vs (l.take i)).2
  have h5 := h.2 1
  exact ⟨h.1, by unfold tsum; unfold lsize at h5 h4; omega⟩
 have hT3 : ∀ i, lab3 (linB (linS p.arrays d mk pc) vs (l.take i)).1 := fun i => linB_lab3 (fun vs s h => linS_lab3 h2 d mk pc vs s hp h) _ _ h1
 have hTm : ∀ i, p.vars.length ≤ (linB (linS p.arrays d mk pc) vs (l.take i)).1.length := fun i =>
  Nat.le_trans hl (CtL.more_le (CtL.lin_more (p := p) d mk pc vs _ (fun s hs => hok s (List.mem_of_mem_take hs)) hl))
 have hsum := fun i => tsum_le (tsize d) l i
 have hlz : lsize d l = (l.map (tsize d)).sum := rfl
 have hll : l.length ≤ 1000000 := by
  have : ∀ s ∈ l, 1 ≤ tsize d s := fun s hs => by
   cases d with
   | zero => have := hok s hs; simp [stmtOK] at this
   | succ d => exact tsize_pos s
  have := len_le_sum (tsize d) l this
  omega
 generalize hR : StR p.arrays out (linB (linS p.arrays d mk pc) vs l) = R
 obtain ⟨pv, ar, pb⟩ := p
 simp only at *
 have hmx := mx_eq
 refine dcZ Tryz.func77 ?_
 simp (maxSteps := 9999999) only [go_sem]
 iterate 2 ((try (refine drvZ Tryz.func77 ?_; simp (maxSteps := 9999999) only [go_sem])); (try ((with_reducible refine And.intro ?_ ?_) <;> (repeat' with_reducible apply And.intro) <;> try exact sd)))
 refine Go.loopQ (fun i : Nat => [(1, .c (.isl 11 (St1.cellsL l))), (2, DI .i64 mk), (3, DI .i64 pc), (4, .c (.ptr 1 0)), (8, .c (.ptr 65 0)), (9, DI .i64 i)])
  (fun i => [(0, none), (1, some [isI (linB (linS ar d mk pc) vs (l.take i)).1, isI ar, .v (.slice none 0 0), .msl 2 11 0 (out ++ (linB (linS ar d mk pc) vs (l.take i)).2).length]), (2, some (stC (out ++ (linB (linS ar d mk pc) vs (l.take i)).2))), (65, some [.v (.slice none 0 0), .v (.slice none 0 0), .v (.slice none 0 0), .v (.slice none 0 0)])])
  8192 (fun i => i ≤ l.length) (fun i => l.length - i) ?_ 0 (fun j => if j = 2 then some 0 else some j) [] _ (Nat.zero_le _) ?_
 ·intro i hi again
  rcases Nat.lt_or_ge i l.length with hlt | hge
  ·obtain ⟨⟨k, t, ⟨ik, iv, iks⟩, ⟨vk, vv, vks⟩, c, b, e⟩, hx⟩ : ∃ x, l[i]? = some x := ⟨l[i], by simp [hlt]⟩
   have hso := hok _ (List.mem_of_getElem? hx)
   obtain ⟨d, rfl⟩ : ∃ d', d = d' + 1 := by
    cases d with
    | zero => simp [stmtOK] at hso
    | succ d => exact ⟨d, rfl⟩
   have ih := ih d rfl
   have hTi := hT i _ hx
   have hsz := hTs i
   have hsu := hsum (i + 1)
   rw [tsum_succ (tsize (d + 1)) l i _ hx] at hsu
   have hl3i := hT3 i
   have hlm := hTm i
   clear hT hTs hT3 hTm hsum
   generalize linB (linS ar (d + 1) mk pc) vs (l.take i) = T at *
   obtain ⟨vi, oi⟩ := T
   simp only at hTi hsz hl3i hlm
   obtain ⟨hh, hbo, heo⟩ := stmtOK_succ hso
   have hts : tsize (d + 1) (.mk k t (.mk ik iv iks) (.mk vk vv vks) c b e) = 1 + lsize d b + lsize d e := by simp [tsize, lsize]
   have hcl := stC_len (out ++ oi)
   have hlen : (out ++ oi).length ≤ 1000000 := by rw [List.length_append]; omega
   rcases head_kind hh with ⟨hk, _, _, hrv⟩ | ⟨hk, _, _, hri, hat, hrv⟩ | ⟨hk, hrv⟩ | ⟨hk, _⟩
   ·have hsv := CtL.shape_mono (p := ⟨pv, ar, pb⟩) (q := ⟨vi, ar, []⟩) hlm rfl 5 _ (right_shape hrv).1
    have hcnt := (right_shape hrv).2
    have hex := exprS ar pc hp h2 hla 5 _ vi (out ++ oi) hsv hl3i (by omega) (by omega)
    have hEs := CtL.linE_sz (ar := ar) (pc := pc) 5 vi (.mk vk vv vks)
    rcases hk with hk | hk
    ·have hls : linS ar (d + 1) mk pc vi (.mk k t (.mk ik iv iks) (.mk vk vv vks) c b e) = ((linE ar pc 5 vi (.mk vk vv vks)).1, (linE ar pc 5 vi (.mk vk vv vks)).2.1 ++ [asg t (maskE mk (linE ar pc 5 vi (.mk vk vv vks)).2.2 (vE t))]) := by
      subst hk; rw [CtL.linS_o (by decide) (by decide), CtL.linO_1]
     rw [hls] at hTi
     clear hls
     generalize linE ar pc 5 vi (.mk vk vv vks) = E at *
     obtain ⟨vj, oj, xe⟩ := E
     simp only at hex hEs hTi
     have cv := varS t
     have hm := maskES mk xe (vE t)
     have ha := asgS vj ar (out ++ oi ++ oj) t (maskE mk xe (vE t)) (by simp only [List.length_append] at hlen ⊢; omega)
     obtain ⟨xk, xv, xks⟩ := xe
     generalize hM : maskE mk (.mk xk xv xks) (vE t) = M at *
     obtain ⟨mk', mv', mks'⟩ := M
     simp only [vE, Ex.cells, Ex.cellsL, List.cons_append, List.nil_append, List.length_cons, List.length_nil] at cv hm
     refine drvL Tryz.func77 ?_
     simp (maxSteps := 9999999) only [go_sem, hx, hlt]
     iterate 5 ((try (refine drvZ Tryz.func77 ?_; simp (maxSteps := 9999999) only [go_sem, hx, hlt, hk])); (try ((with_reducible refine And.intro ?_ ?_) <;> (repeat' with_reducible apply And.intro) <;> try exact sd)))
     iterate 2 ((try (refine drvZ Tryz.func77 ?_; simp (maxSteps := 9999999) only [go_sem, hx, hlt, hk])); (try ((with_reducible refine And.intro ?_ ?_) <;> (repeat' with_reducible apply And.intro) <;> try exact sd)))
     refine XK.callG [2] hex ok125 (hhpG (by simp [HH, upd, hpL, renCs_stC])) (hbT ()) (fun d h' ⟨_, e⟩ => by subst e; simp) ?_
     rintro _ _ ⟨rfl, rfl⟩ _
     iterate 7 ((try (refine drvZ Tryz.func77 ?_; simp (maxSteps := 9999999) only [go_sem, renCs_stC])); (try ((with_reducible refine And.intro ?_ ?_) <;> (repeat' with_reducible apply And.intro) <;> try exact sd)); (try first | refine XK.p cv ok128 ?_ | refine XK.gp cv ok128 ?_ | refine XK.p hm ok127 ?_ | refine XK.gp hm ok127 ?_))
     refine XK.callG [9664] ha ok126 (hhpG (by simp [HH, upd, hpL, renCs_stC])) (hbT ()) (fun d h' ⟨_, e⟩ => by subst e; simp) ?_ (fun _ => ⟨by kernel_rfl, _, _, ⟨rfl, rfl⟩, by simp⟩)
     rintro _ _ ⟨rfl, rfl⟩ _
     iterate 3 ((try (refine drvZ Tryz.func77 ?_; simp (maxSteps := 9999999) only [go_sem, renCs_stC])); (try ((with_reducible refine And.intro ?_ ?_) <;> (repeat' with_reducible apply And.intro) <;> try exact sd)))
     refine again (i + 1) (fun j => if j = 2 then some 11136 else some j) [] _ hlt (by omega) ?_
     rw [hTi]
     simp only [← List.append_assoc]
     simp (maxSteps := 9999999) only [go_sem, TmOK, DM, DMs, CM, CMs, forall_eq, exists_eq_left, Mq, HpOK, LowOK]
     simp
     exact CMs.kf (stC_kf _)
    ·have hls : linS ar (d + 1) mk pc vi (.mk k t (.mk ik iv iks) (.mk vk vv vks) c b e) = ((linE ar pc 5 vi (.mk vk vv vks)).1, (linE ar pc 5 vi (.mk vk vv vks)).2.1 ++ [.mk 5 t e0 (linE ar pc 5 vi (.mk vk vv vks)).2.2 0 [] []]) := by
      subst hk; rw [CtL.linS_o (by decide) (by decide), CtL.linO_5]
     rw [hls] at hTi
     clear hls
     generalize linE ar pc 5 vi (.mk vk vv vks) = E at *
     obtain ⟨vj, oj, ⟨xk, xv, xks⟩⟩ := E
     simp only at hex hEs hTi
     have hcl2 := stC_len (out ++ oi ++ oj)
     have hlen2 : (out ++ oi ++ oj).length ≤ 1000000 := by simp only [List.length_append] at hlen ⊢; omega
     refine drvL Tryz.func77 ?_
     simp (maxSteps := 9999999) only [go_sem, hx, hlt]
     iterate 5 ((try (refine drvZ Tryz.func77 ?_; simp (maxSteps := 9999999) only [go_sem, hx, hlt, hk])); (try ((with_reducible refine And.intro ?_ ?_) <;> (repeat' with_reducible apply And.intro) <;> try exact sd)))
     refine XK.callG [2] hex ok125 (hhpG (by simp [HH, upd, hpL, renCs_stC])) (hbT ()) (fun d h' ⟨_, e⟩ => by subst e; simp) ?_
     rintro _ _ ⟨rfl, rfl⟩ _
     iterate 5 ((try (refine drvZ Tryz.func77 ?_; simp (maxSteps := 9999999) only [go_sem, renCs_stC, hcl2])); (try ((with_reducible refine And.intro ?_ ?_) <;> (repeat' with_reducible apply And.intro) <;> try exact sd)))
     ((try (refine drvZ Tryz.func77 ?_; simp (maxSteps := 9999999) only [go_sem])); (try ((with_reducible refine And.intro ?_ ?_) <;> (repeat' with_reducible apply And.intro) <;> try exact sd)))
     refine again (i + 1) (fun j => if j = 2 then some 10752 else some j) [] _ hlt (by omega) ?_
     rw [hTi]
     simp only [← List.append_assoc]
     simp (maxSteps := 9999999) only [go_sem, TmOK, DM, DMs, CM, CMs, forall_eq, exists_eq_left, Mq, HpOK, LowOK, stC_snoc, List.length_append]
     simp [asg, sto, e0, St1.cells, St1.cellsL, Ex.cells, Ex.cellsL]
     exact CMs.app (CMs.kf (stC_kf _)) (by simp [CMs, CM, St1.cells, St1.cellsL, Ex.cells, Ex.cellsL])
   ·have hsv := CtL.shape_mono (p := ⟨pv, ar, pb⟩) (q := ⟨vi, ar, []⟩) hlm rfl 5 _ (right_shape hrv).1
    have hsi := CtL.shape_mono (p := ⟨pv, ar, pb⟩) (q := ⟨vi, ar, []⟩) hlm rfl 5 _ (right_shape hri).1
    have hcnt := (right_shape hrv).2
    have hex := exprS ar pc hp h2 hla 5 _ vi (out ++ oi) hsv hl3i (by omega) (by omega)
    have hEs := CtL.linE_sz (ar := ar) (pc := pc) 5 vi (.mk vk vv vks)
    have hls : linS ar (d + 1) mk pc vi (.mk k t (.mk ik iv iks) (.mk vk vv vks) c b e) = linO ar mk pc (linE ar pc 5 vi (.mk vk vv vks)) 2 t (.mk ik iv iks) := by
     subst hk; rw [CtL.linS_o (by decide) (by decide)]
    rw [hls, CtL.linO_2] at hTi
    clear hls
    have hEo := CtL.linE_ok (ar := ar) (q := ⟨[], ar, []⟩) rfl pc 5 vi _ hsv
    have hEl := linE_lab3 hp h2 5 vi (.mk vk vv vks) hl3i
    have hEm := CtL.more_le hEo.more
    have hEsh := hEo.shp
    have hsi2 := CtL.shape_mono (p := ⟨vi, ar, []⟩) (q := ⟨(linE ar pc 5 vi (.mk vk vv vks)).1, ar, []⟩) hEm rfl 5 _ hsi
    clear hEo
    generalize linE ar pc 5 vi (.mk vk vv vks) = E at *
    obtain ⟨vj, oj, xe⟩ := E
    simp only at hex hEs hTi hEl hEm hEsh hsi2
    have hlab := labelL vj ar (by omega) (by omega) hEl h2 5 _ hsi2
    have hle := labN_le hEl h2 5 (.mk ik iv iks)
    have hse := labelSecretS (labN vj ar 5 (.mk ik iv iks)) hle
    have hlen2 : (out ++ oi ++ oj).length ≤ 1000000 := by simp only [List.length_append] at hlen ⊢; omega
    cases hsec : secL (labN vj ar 5 (.mk ik iv iks)) with
    | true =>
     rw [hsec] at hse
     rw [hsec, if_pos rfl] at hTi
     have hst := storeS ar pc hp h2 hla mk k t (.mk ik iv iks) (.mk vk vv vks) xe c b e vj (out ++ oi ++ oj) hEsh hEl (by omega) (by omega)
     generalize labN vj ar 5 (.mk ik iv iks) = li at *
     obtain ⟨xk, xv, xks⟩ := xe
     rw [hk] at hst
     refine drvL Tryz.func77 ?_
     simp (maxSteps := 9999999) only [go_sem, hx, hlt]
     iterate 5 ((try (refine drvZ Tryz.func77 ?_; simp (maxSteps := 9999999) only [go_sem, hx, hlt, hk])); (try ((with_reducible refine And.intro ?_ ?_) <;> (repeat' with_reducible apply And.intro) <;> try exact sd)))
     refine XK.callG [2] hex ok125 (hhpG (by simp [HH, upd, hpL, renCs_stC])) (hbT ()) (fun d h' ⟨_, e⟩ => by subst e; simp) ?_
     rintro _ _ ⟨rfl, rfl⟩ _
     iterate 7 ((try (refine drvZ Tryz.func77 ?_; simp (maxSteps := 9999999) only [go_sem, renCs_stC])); (try ((with_reducible refine And.intro ?_ ?_) <;> (repeat' with_reducible apply And.intro) <;> try exact sd)); (try first | refine XK.p hlab ok130 ?_ | refine XK.gp hlab ok130 ?_ | refine XK.p hse ok129 ?_ | refine XK.gp hse ok129 ?_))
     refine XK.callG [9664] hst ok131 (hhpG (by simp [HH, upd, hpL, renCs_stC])) (hbT ()) (fun d h' ⟨_, e⟩ => by subst e; simp) ?_
     rintro _ _ ⟨rfl, rfl⟩ _
     iterate 3 ((try (refine drvZ Tryz.func77 ?_; simp (maxSteps := 9999999) only [go_sem, renCs_stC])); (try ((with_reducible refine And.intro ?_ ?_) <;> (repeat' with_reducible apply And.intro) <;> try exact sd)))
     refine again (i + 1) (fun j => if j = 2 then some 11328 else some j) [] _ hlt (by omega) ?_
     rw [hTi]
     simp only [← List.append_assoc]
     simp (maxSteps := 9999999) only [go_sem, TmOK, DM, DMs, CM, CMs, forall_eq, exists_eq_left, Mq, HpOK, LowOK]
     simp
     exact CMs.kf (stC_kf _)
    | false =>
     rw [hsec] at hse
     rw [hsec, if_neg (by simp)] at hTi
     have hcp := copyE _ (FE_right hri)
     have hrd := readS1 t (.mk ik iv iks)
     have hm := maskES mk xe (rdE t (.mk ik iv iks))
     generalize labN vj ar 5 (.mk ik iv iks) = li at *
     obtain ⟨xk, xv, xks⟩ := xe
     generalize hM : maskE mk (.mk xk xv xks) (rdE t (.mk ik iv iks)) = M at *
     obtain ⟨mk', mv', mks'⟩ := M
     have hcl2 := stC_len (out ++ oi ++ oj)
     simp only [rdE, Ex.cells, Ex.cellsL, List.cons_append, List.nil_append, List.length_cons, List.length_nil] at hrd hm
     refine drvL Tryz.func77 ?_
     simp (maxSteps := 9999999) only [go_sem, hx, hlt]
     iterate 5 ((try (refine drvZ Tryz.func77 ?_; simp (maxSteps := 9999999) only [go_sem, hx, hlt, hk])); (try ((with_reducible refine And.intro ?_ ?_) <;> (repeat' with_reducible apply And.intro) <;> try exact sd)))
     refine XK.callG [2] hex ok125 (hhpG (by simp [HH, upd, hpL, renCs_stC])) (hbT ()) (fun d h' ⟨_, e⟩ => by subst e; simp) ?_
     rintro _ _ ⟨rfl, rfl⟩ _
     iterate 9 ((try (refine drvZ Tryz.func77 ?_; simp (maxSteps := 9999999) only [go_sem, renCs_stC, hcl2])); (try ((with_reducible refine And.intro ?_ ?_) <;> (repeat' with_reducible apply And.intro) <;> try exact sd)); (try first | refine XK.p hlab ok130 ?_ | refine XK.gp hlab ok130 ?_ | refine XK.p hse ok129 ?_ | refine XK.gp hse ok129 ?_ | refine XK.p hcp ok98 ?_ | refine XK.gp hcp ok98 ?_ | refine XK.p hrd ok132 ?_ | refine XK.gp hrd ok132 ?_ | refine XK.p hm ok127 ?_ | refine XK.gp hm ok127 ?_))
     ((try (refine drvZ Tryz.func77 ?_; simp (maxSteps := 9999999) only [go_sem])); (try ((with_reducible refine And.intro ?_ ?_) <;> (repeat' with_reducible apply And.intro) <;> try exact sd)))
     refine again (i + 1) (fun j => if j = 2 then some 12160 else some j) [] _ hlt (by omega) ?_
     rw [hTi]
     simp only [← List.append_assoc]
     simp (maxSteps := 9999999) only [go_sem, TmOK, DM, DMs, CM, CMs, forall_eq, exists_eq_left, Mq, HpOK, LowOK, stC_snoc, List.length_append]
     simp [asg, sto, e0, St1.cells, St1.cellsL, Ex.cells, Ex.cellsL]
     exact CMs.app (CMs.kf (stC_kf _)) (by simp [CMs, CM, St1.cells, St1.cellsL, Ex.cells, Ex.cellsL])
   ·have hif := ifS ih hla h2 mk pc vi (out ++ oi) k t (.mk ik iv iks) (.mk vk vv vks) c b e hk hp hso hlm hl3i (by omega) (by rw [List.length_append]; omega)
    unfold StR at hif
    rw [hk] at hif hTi
    refine drvL Tryz.func77 ?_
    simp (maxSteps := 9999999) only [go_sem, hx, hlt]
    iterate 5 ((try (refine drvZ Tryz.func77 ?_; simp (maxSteps := 9999999) only [go_sem, hx, hlt, hk])); (try ((with_reducible refine And.intro ?_ ?_) <;> (repeat' with_reducible apply And.intro) <;> try exact sd)))
    refine XK.callG [2] hif ok123 (hhpG (by simp [HH, upd, hpL, renCs_stC])) (hbT ()) (fun d h' ⟨_, e⟩ => by subst e; simp) ?_
    rintro _ _ ⟨rfl, rfl⟩ _
    iterate 3 ((try (refine drvZ Tryz.func77 ?_; simp (maxSteps := 9999999) only [go_sem, renCs_stC])); (try ((with_reducible refine And.intro ?_ ?_) <;> (repeat' with_reducible apply And.intro) <;> try exact sd)))
    refine again (i + 1) (fun j => if j = 2 then some 9280 else some j) [] _ hlt (by omega) ?_
    rw [hTi]
    simp only [← List.append_assoc]
    simp (maxSteps := 9999999) only [go_sem, TmOK, DM, DMs, CM, CMs, forall_eq, exists_eq_left, Mq, HpOK, LowOK]
    simp
    exact CMs.kf (stC_kf _)
   ·have hin := innerS ih mk pc vi (out ++ oi) b hp hbo hlm hl3i (by omega) (by omega) hlen
    have hls : linS ar (d + 1) mk pc vi (.mk k t (.mk ik iv iks) (.mk vk vv vks) c b e) = ((linB (linS ar d mk pc) vi b).1, [.mk 4 0 e0 e0 c (linB (linS ar d mk pc) vi b).2 []]) := by
     subst hk; rw [CtL.linS_4]
    rw [hls] at hTi
    clear hls
    simp only at hin
    generalize linB (linS ar d mk pc) vi b = B at *
    obtain ⟨vj, oj⟩ := B
    simp only at hin hTi
    refine drvL Tryz.func77 ?_
    simp (maxSteps := 9999999) only [go_sem, hx, hlt]
    iterate 5 ((try (refine drvZ Tryz.func77 ?_; simp (maxSteps := 9999999) only [go_sem, hx, hlt, hk])); (try ((with_reducible refine And.intro ?_ ?_) <;> (repeat' with_reducible apply And.intro) <;> try exact sd)))
    refine XK.callG [2] hin ok124 (hhpG (by simp [HH, upd, hpL, renCs_stC])) (hbT ()) (fun d h' ⟨_, e⟩ => by subst e; simp) ?_
    rintro _ _ ⟨rfl, rfl⟩ _
    iterate 4 ((try (refine drvZ Tryz.func77 ?_; simp (maxSteps := 9999999) only [go_sem, renCs_stC, hcl])); (try ((with_reducible refine And.intro ?_ ?_) <;> (repeat' with_reducible apply And.intro) <;> try exact sd)))
    ((try (refine drvZ Tryz.func77 ?_; simp (maxSteps := 9999999) only [go_sem])); (try ((with_reducible refine And.intro ?_ ?_) <;> (repeat' with_reducible apply And.intro) <;> try exact sd)))
    refine again (i + 1) (fun j => if j = 2 then some 10496 else some j) [] _ hlt (by omega) ?_
    rw [hTi]
    simp only [← List.append_assoc]
    simp (maxSteps := 9999999) only [go_sem, TmOK, DM, DMs, CM, CMs, forall_eq, exists_eq_left, Mq, HpOK, LowOK, stC_snoc, List.length_append]
    simp [asg, sto, e0, St1.cells, St1.cellsL, Ex.cells, Ex.cellsL]
    exact CMs.app (CMs.kf (stC_kf _)) (by simp [CMs, CM, St1.cells, St1.cellsL, Ex.cells, Ex.cellsL])
  ·have hn : ¬ i < l.length := by omega
   obtain rfl : i = l.length := by omega
   clear again hT hTs hT3 hTm
   rw [List.take_length]
   generalize linB (linS ar d mk pc) vs l = T at *
   obtain ⟨vi, oi⟩ := T
   refine drvL Tryz.func77 ?_
   simp (maxSteps := 9999999) only [go_sem, hn]
   iterate 3 ((try (refine drvZ Tryz.func77 ?_; simp (maxSteps := 9999999) only [go_sem, hn])); (try ((with_reducible refine And.intro ?_ ?_) <;> (repeat' with_reducible apply And.intro) <;> try exact sd)))
   exact RetOb.linS (R := R) (out' := out ++ oi) (cs := stC (out ++ oi)) (by rw [← hR]; exact ⟨rfl, rfl⟩) (by simp [upd]) rfl rfl (by omega)
 ·simp (maxSteps := 9999999) only [go_sem, TmOK, DM, DMs, CM, CMs, forall_eq, exists_eq_left, Mq, HpOK, LowOK]
  simp [linB]
  exact CMs.kf (stC_kf _)
theorem blockS {p : Pg} (hla : p.arrays.length ≤ 1048576) (h2 : lab3 p.arrays) : ∀ d, BlkH p d
 | 0 => blockS1 hla h2 0 fun _ h => by omega
 | d + 1 => blockS1 hla h2 (d + 1) fun d' h => by
  obtain rfl : d = d' := by omega
  exact blockS hla h2 d
end Go.Proofs.YtpphageokplgoaaGreat.CtD
namespace Go.Proofs.YtpphageokplgoaaGreat.CtD
open Go Go.CT CtF CtR
open CtL (e0 cE vE rdE bE selE hitE asg sto maskE readN readS stoN stoS linK lab1 linE linB linO maskS linI linS linQ linP)
theorem RetOb.pg0 {R : D → List (Option (List C)) → Prop} {hp : Hp} {x : Bool} (hR : R (.tup [.agg (Pg.cells ⟨[], [], []⟩), DB x]) []) : RetOb 0 R (.tup [.agg [.v (.slice none 0 0), .v (.slice none 0 0), .v (.slice none 0 0)], DB x]) hp := by
 refine RetOb.ofQ (fun _ => none) [] (.tup [.agg (Pg.cells ⟨[], [], []⟩), DB x]) [] ?_ hR (by simp)
 simp [enumL, DM, DMs, CM, CMs, HpOK, LowOK, Pg.cells, isI, St1.cellsL]
theorem RetOb.pgP {R : D → List (Option (List C)) → Prop} {V A : List Int} {B : List St1} {hp : Hp} {x : Bool} (hR : R (.tup [.agg (Pg.cells ⟨V, A, B⟩), DB x]) []) : RetOb 0 R (.tup [.agg [isI V, isI A, .isl 11 (St1.cellsL B)], DB x]) hp := by
 refine RetOb.ofQ (fun _ => none) [] (.tup [.agg (Pg.cells ⟨V, A, B⟩), DB x]) [] ?_ hR (by simp)
 have g3 : ∀ x ∈ St1.cellsL B, ∀ c ∈ x, kf c = true := fun x hx => by rw [St1.cellsL_eq] at hx; obtain ⟨e, _, rfl⟩ := List.mem_map.1 hx; exact st_kf e
 simp [enumL, DM, DMs, CM, CMs, HpOK, LowOK, Pg.cells, isI, kf]
theorem chk_bad {res : List Int → List Int → St1 → Nat → Int} {p : Pg} (h : fineP res p = false) : ((chkR res p).1 = 0) = False := eq_false fun e => by
 rw [(chk_fine res p).1 e] at h; cases h
theorem linearizeS (p : Pg) (hok : progOK p = true) : DC Tryz.prog 32 [.agg p.cells] [] (fun r h => r = .tup [.agg (linP p).1.cells, DB (linP p).2] ∧ h = []) := by
 have hmx := mx_eq
 have hln := prog_len hok
 have hbo := body_of hok
 have hlab := labs_of hok
 have hfs := CtL.prog_FS hok
 have hcs := checkFlowS p (by omega) (by omega) (by omega)
 have hcp := copyP p (by omega) (by omega) (by omega) hfs.2
 have hqz := CtL.linQ_sz hok
 have hqa : (linQ p).arrays = p.arrays := rfl
 have hq3 : lab3 (linQ p).vars := linB_lab3 (fun vs s h => linS_lab3 hlab.2 5 (-1) 0 vs s (by omega) h) _ _ hlab.1
 have hcq := copyP (linQ p) (by omega) (by rw [hqa]; omega) (by omega) hqz.2.2.2
 have hvq := programValidS (linQ p) (by omega) (by rw [hqa]; omega) (by have := hqz.2.2.1 5; omega)
 have hbk := blockS (p := p) (by omega) hlab.2 5 (-1) 0 p.vars [] p.body (by omega) hbo.1 (by omega) hlab.1 (by omega) (by simp; omega)
 unfold StR at hbk
 have hBv : (linB (linS p.arrays 5 (-1) 0) p.vars p.body).1 = (linQ p).vars := rfl
 have hBb : (linB (linS p.arrays 5 (-1) 0) p.vars p.body).2 = (linQ p).body := rfl
 rw [hBv, hBb] at hbk
 have hbk := DC.nilAggOwn (pre := [isI p.vars, isI p.arrays, .v (.slice none 0 0)]) (h := []) hbk
 have hlp : linP p = if fineP flowR p = true ∧ progOK (linQ p) = true then (linQ p, true) else (⟨[], [], []⟩, false) := rfl
 generalize hR : (fun (r : D) (h : List (Option (List C))) => r = .tup [.agg (linP p).1.cells, DB (linP p).2] ∧ h = []) = R
 cases hf : fineP flowR p with
 | false =>
  have hbad := chk_bad hf
  rw [hf, if_neg (by simp)] at hlp
  rw [hlp] at hR
  generalize chkR flowR p = x at *
  obtain ⟨code, at_⟩ := x
  simp only at hbad
  have hne : (code != 0) = true := by simp [hbad]
  obtain ⟨vs, ar, bd⟩ := p
  refine dcZ Tryz.func32 ?_
  simp (maxSteps := 9999999) only [go_sem]
  iterate 5 ((try (refine drvZ Tryz.func32 ?_; simp (maxSteps := 9999999) only [go_sem, hne, hbad])); (try ((with_reducible refine And.intro ?_ ?_) <;> (repeat' with_reducible apply And.intro) <;> try exact sd)); (try first | refine XK.p hcs ok75 ?_ | refine XK.gp hcs ok75 ?_))
  exact RetOb.pg0 (by rw [← hR]; exact ⟨rfl, rfl⟩)
 | true =>
  rw [hf] at hlp
  have hgood := (chk_fine flowR p).2 hf
  generalize chkR flowR p = x at *
  obtain ⟨code, at_⟩ := x
  simp only at hgood
  subst hgood
  generalize hlq : linQ p = q at *
  obtain ⟨vs, ar, bd⟩ := p
  obtain ⟨qv, qa, qb⟩ := q
  obtain rfl : qa = ar := hqa
  refine dcZ Tryz.func32 ?_
  simp (maxSteps := 9999999) only [go_sem]
  iterate 5 ((try (refine drvZ Tryz.func32 ?_; simp (maxSteps := 9999999) only [go_sem, bne_self_eq_false])); (try ((with_reducible refine And.intro ?_ ?_) <;> (repeat' with_reducible apply And.intro) <;> try exact sd)); (try first | refine XK.p hcs ok75 ?_ | refine XK.gp hcs ok75 ?_))
  refine XK.callG [] hcp ok76 (fun i' x h => by simp at h) (hbT ()) (fun d h' ⟨_, e⟩ => by subst e; simp) ?_
  rintro _ _ ⟨rfl, rfl⟩ _
  iterate 1 ((try (refine drvZ Tryz.func32 ?_; simp (maxSteps := 9999999) only [go_sem, renCs_I, renCs_stC])); (try ((with_reducible refine And.intro ?_ ?_) <;> (repeat' with_reducible apply And.intro) <;> try exact sd)))
  refine XK.subQ (r := some) (fz := [832, 833, 834]) (tl := [(2, .c (.ptr 64 0)), (3, DB false), (24, .agg [isI vs, isI qa, .v (.slice none 0 0), .v (.slice none 0 0)]), (25, .c (.ptr 896 2))])
   (hl := [(64, some [.v (.slice none 0 0), .v (.slice none 0 0), .v (.slice none 0 0)]), (896, some (Pg.cells ⟨vs, qa, bd⟩))]) ?_ ?_
  ·have g1 : (St1.cellsL bd).flatten = stC bd := by rw [St1.cellsL_eq]; rfl
   have g2 : ∀ x ∈ St1.cellsL bd, x.length = 11 := fun x hx => by rw [St1.cellsL_eq] at hx; obtain ⟨e, _, rfl⟩ := List.mem_map.1 hx; exact St1.cells_len e
   have g3 : ∀ x ∈ St1.cellsL bd, ∀ c ∈ x, kf c = true := fun x hx => by rw [St1.cellsL_eq] at hx; obtain ⟨e, _, rfl⟩ := List.mem_map.1 hx; exact st_kf e
   simp (maxSteps := 9999999) only [go_sem, TmOK, DM, DMs, CM, CMs, forall_eq, exists_eq_left, Mq, HpOK, LowOK]
   simp [flat_I, kf, g1, CMs, CM]
   exact ⟨g2, g3⟩
  iterate 1 ((try (refine drvZ Tryz.func32 ?_; simp (maxSteps := 9999999) only [go_sem])); (try ((with_reducible refine And.intro ?_ ?_) <;> (repeat' with_reducible apply And.intro) <;> try exact sd)))
  refine XK.callG [] hbk ok77 (fun i' x h => by simp at h) (hbT ()) (fun d h' ⟨_, e⟩ => by subst e; simp) ?_
  rintro _ _ ⟨rfl, rfl⟩ _
  refine XK.subQ (r := some) (fz := [1537]) (tl := [(2, .c (.ptr 64 0)), (3, DB false), (27, .agg [isI qv, isI qa, .v (.slice none 0 0), .isl 11 (St1.cellsL qb)])])
   (hl := [(64, some [.v (.slice none 0 0), .v (.slice none 0 0), .v (.slice none 0 0)])]) ?_ ?_
  ·have g1 : (St1.cellsL qb).flatten = stC qb := by rw [St1.cellsL_eq]; rfl
   have g2 : ∀ x ∈ St1.cellsL qb, x.length = 11 := fun x hx => by rw [St1.cellsL_eq] at hx; obtain ⟨e, _, rfl⟩ := List.mem_map.1 hx; exact St1.cells_len e
   have g3 : ∀ x ∈ St1.cellsL qb, ∀ c ∈ x, kf c = true := fun x hx => by rw [St1.cellsL_eq] at hx; obtain ⟨e, _, rfl⟩ := List.mem_map.1 hx; exact st_kf e
   simp (maxSteps := 9999999) only [go_sem, TmOK, DM, DMs, CM, CMs, forall_eq, exists_eq_left, Mq, HpOK, LowOK, renCs_stC]
   simp [flat_I, kf, g1, CMs, CM]
   exact ⟨g2, g3⟩
  iterate 4 ((try (refine drvZ Tryz.func32 ?_; simp (maxSteps := 9999999) only [go_sem])); (try ((with_reducible refine And.intro ?_ ?_) <;> (repeat' with_reducible apply And.intro) <;> try exact sd)))
  refine XK.callG [] hcq ok76 (fun i' x h => by simp at h) (hbT ()) (fun d h' ⟨_, e⟩ => by subst e; simp) ?_
  rintro _ _ ⟨rfl, rfl⟩ _
  iterate 1 ((try (refine drvZ Tryz.func32 ?_; simp (maxSteps := 9999999) only [go_sem, renCs_I, renCs_stC])); (try ((with_reducible refine And.intro ?_ ?_) <;> (repeat' with_reducible apply And.intro) <;> try exact sd)))
  refine XK.subQ (r := some) (fz := [2304, 2305, 2306]) (tl := [(2, .c (.ptr 64 0)), (3, DB false), (8, .c (.ptr 2368 0)), (38, .agg (Pg.cells ⟨qv, qa, qb⟩))])
   (hl := [(64, some [.v (.slice none 0 0), .v (.slice none 0 0), .v (.slice none 0 0)]), (2368, some (Pg.cells ⟨qv, qa, qb⟩))]) ?_ ?_
  ·have g1 : (St1.cellsL qb).flatten = stC qb := by rw [St1.cellsL_eq]; rfl
   have g2 : ∀ x ∈ St1.cellsL qb, x.length = 11 := fun x hx => by rw [St1.cellsL_eq] at hx; obtain ⟨e, _, rfl⟩ := List.mem_map.1 hx; exact St1.cells_len e
   have g3 : ∀ x ∈ St1.cellsL qb, ∀ c ∈ x, kf c = true := fun x hx => by rw [St1.cellsL_eq] at hx; obtain ⟨e, _, rfl⟩ := List.mem_map.1 hx; exact st_kf e
   simp (maxSteps := 9999999) only [go_sem, TmOK, DM, DMs, CM, CMs, forall_eq, exists_eq_left, Mq, HpOK, LowOK]
   simp [flat_I, kf, g1, CMs, CM]
   exact ⟨g2, g3⟩
  cases hq : progOK ⟨qv, qa, qb⟩ with
  | false =>
   rw [hq, if_neg (by simp)] at hlp
   rw [hlp] at hR
   rw [hq] at hvq
   iterate 4 ((try (refine drvZ Tryz.func32 ?_; simp (maxSteps := 9999999) only [go_sem])); (try ((with_reducible refine And.intro ?_ ?_) <;> (repeat' with_reducible apply And.intro) <;> try exact sd)); (try first | refine XK.p hvq ok52 ?_ | refine XK.gp hvq ok52 ?_))
   exact RetOb.pg0 (by rw [← hR]; exact ⟨rfl, rfl⟩)
  | true =>
   rw [hq, if_pos ⟨rfl, rfl⟩] at hlp
   rw [hlp] at hR
   rw [hq] at hvq
   iterate 4 ((try (refine drvZ Tryz.func32 ?_; simp (maxSteps := 9999999) only [go_sem])); (try ((with_reducible refine And.intro ?_ ?_) <;> (repeat' with_reducible apply And.intro) <;> try exact sd)); (try first | refine XK.p hvq ok52 ?_ | refine XK.gp hvq ok52 ?_))
   exact RetOb.pgP (by rw [← hR]; exact ⟨rfl, rfl⟩)
end Go.Proofs.YtpphageokplgoaaGreat.CtD
namespace Go.Proofs.YtpphageokplgoaaGreat.CtD
open Go Go.CT CtF CtR
theorem ownM0 (m : Mm) (hv : m.vals.length ≤ 1000) (ha : m.arrays.length ≤ 2) (h4 : ∀ a ∈ m.arrays, a.length = 4) : DC Tryz.prog 57 [.agg m.cells] [] (fun d h => d = .agg m.cells ∧ h = []) :=
 DC.weaken (own m hv ha h4) fun d h' ⟨e1, e2⟩ _ => by subst e1 e2; exact RetOb.mem0 (k2 := 2) (k3 := 3) ha h4 ⟨rfl, rfl⟩ rfl rfl rfl rfl rfl rfl (by decide)
theorem mem_facts {p : Pg} {m : Mm} (hp : progOK p = true) (hm : memOK p.vars p.arrays m = true) : m.vals.length = p.vars.length ∧ m.arrays.length = p.arrays.length ∧ m.vals.length ≤ 12 ∧ m.arrays.length ≤ 2 ∧ ∀ a ∈ m.arrays, a.length = 4 := by
 have h := memFits_of (p := p) (m := m) (by rw [hp, hm]; rfl)
 exact ⟨h.nv, h.na, by have := h.nv12; have := h.nv; omega, by have := h.na2; have := h.na; omega, fun a ha => (h.arr a ha).1⟩
end Go.Proofs.YtpphageokplgoaaGreat.CtD
