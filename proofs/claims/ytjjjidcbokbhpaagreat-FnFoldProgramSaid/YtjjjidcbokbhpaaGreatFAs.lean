/- Contracts of functions of the program, one behind the other, as plain data: what each call returns and which blocks it leaves. -/
import Derived.Test.YtjjjidcbokbhpaaGreatFFacts
import Derived.Test.YtjjjidcbokbhpaaGreatFAh
import Derived.Test.YtjjjidcbokbhpaaGreatFAj
import Derived.Test.YtjjjidcbokbhpaaGreatFAk
import Derived.Test.YtjjjidcbokbhpaaGreatFAl
import Derived.Test.YtjjjidcbokbhpaaGreatFAm
import Derived.Test.YtjjjidcbokbhpaaGreatFAn
import Derived.Test.YtjjjidcbokbhpaaGreatFAp
import Derived.Test.YtjjjidcbokbhpaaGreatFAq
import Derived.Test.YtjjjidcbokbhpaaGreatFAr
import Derived.Test.YtjjjidcbokbhpaaGreatFAi
import Derived.Test.YtjjjidcbokbhpaaGreatFAo
set_option linter.unusedVariables false
set_option linter.unusedSimpArgs false
set_option maxHeartbeats 16000000
set_option maxRecDepth 100000
namespace Go.Proofs.YtjjjidcbokbhpaaGreat.CtL
open Go Go.CT CtF CtR
open CtD (rel rel_app)

/-! Plain: a linearized program does what the program does. -/
structure Sim (n nf : Nat) (x : Mm × List Ev) (m' : Mm) (y : Mm × List Ev) : Prop where
  ag : Agr n x.1 y.1
  fr : ∀ i, n ≤ i → i < nf → y.1.vals[i]? = m'.vals[i]?
  re : rel x.2 = rel y.2
theorem Sim.seq {n nf nf2 : Nat} {x x2 : Mm × List Ev} {m' : Mm} {y y2 : Mm × List Ev} (h : Sim n nf x m' y) (h2 : Sim n nf2 x2 y.1 y2) (hl : nf ≤ nf2) : Sim n nf (x2.1, x.2 ++ x2.2) m' (y2.1, y.2 ++ y2.2) :=
  ⟨h2.ag, fun i a b => (h2.fr i a (by omega)).trans (h.fr i a b), by simp only [rel_app, h.re, h2.re]⟩
theorem Sim.pre {n nf nf2 : Nat} {x : Mm × List Ev} {m' m1 : Mm} {y : Mm × List Ev} {ev : List Ev} (h : Agr nf m' m1) (hr : rel ev = []) (h2 : Sim n nf2 x m1 y) (hl : nf ≤ nf2) : Sim n nf x m' (y.1, ev ++ y.2) :=
  ⟨h2.ag, fun i a b => (h2.fr i a (by omega)).trans (h.va i b).symm, by simp only [rel_app, hr, h2.re, List.nil_append]⟩
theorem Sim.refl {n nf : Nat} {m m' : Mm} (h : Agr n m m') : Sim n nf (m, []) m' (m', []) := ⟨h, fun _ _ _ => rfl, rfl⟩
def OKM (p : Pg) (mk : Int) (vs : List Int) (pc : Nat) : Prop := mk < 0 ∨ p.vars.length ≤ mk ∧ mk < vs.length ∧ pc ≠ 0
theorem OKM.more {p : Pg} {mk : Int} {vs ws : List Int} {pc : Nat} (h : OKM p mk vs pc) (hl : vs.length ≤ ws.length) : OKM p mk ws pc := by
  rcases h with h | ⟨h1, h2, h3⟩
  · exact .inl h
  · exact .inr ⟨h1, by omega, h3⟩
def Ext (p : Pg) (vs : List Int) : Prop := ∃ w, vs = p.vars ++ w
theorem Ext.more {p : Pg} {vs ws : List Int} (h : Ext p vs) (h2 : ∃ w, ws = vs ++ w) : Ext p ws := by
  obtain ⟨a, rfl⟩ := h
  obtain ⟨b, rfl⟩ := h2
  exact ⟨a ++ b, by simp⟩
theorem Ext.le {p : Pg} {vs : List Int} (h : Ext p vs) : p.vars.length ≤ vs.length := by
  obtain ⟨a, rfl⟩ := h
  simp
theorem more_le {vs ws : List Int} (h : ∃ w, ws = vs ++ w) : vs.length ≤ ws.length := by
  obtain ⟨a, rfl⟩ := h
  simp
/-! Writing. -/
end Go.Proofs.YtjjjidcbokbhpaaGreat.CtL

namespace Go.Proofs.YtjjjidcbokbhpaaGreat.CtL
open Go Go.CT CtF CtR
open CtD (rel rel_app)

theorem Sim.evs {n nf : Nat} {m' : Mm} {x : Mm × List Ev} {y : Mm × List Ev} {ev : List Ev} (h : Sim n nf x m' y) (hr : rel x.2 = rel ev) : Sim n nf x m' (y.1, ev) := ⟨h.ag, h.fr, hr⟩
end Go.Proofs.YtjjjidcbokbhpaaGreat.CtL

namespace Go.Proofs.YtjjjidcbokbhpaaGreat.CtL
open Go Go.CT CtF CtR
open CtD (rel rel_app)

/-! Plain: a linearized program is constant-time. -/
def Sub (a b : Nat) : Prop := ∀ β, a.testBit β = true → b.testBit β = true
theorem Sub.refl (a : Nat) : Sub a a := fun _ h => h
theorem Sub.trans {a b c : Nat} (h : Sub a b) (g : Sub b c) : Sub a c := fun β x => g β (h β x)
theorem Sub.zero (a : Nat) : Sub 0 a := fun β h => by simp at h
theorem Sub.or {a b c : Nat} : Sub (a ||| b) c ↔ Sub a c ∧ Sub b c := by
  constructor
  · exact fun h => ⟨fun β x => h β (by simp [x]), fun β x => h β (by simp [x])⟩
  · rintro ⟨h1, h2⟩ β x
    rw [Nat.testBit_or, Bool.or_eq_true] at x
    exact x.elim (h1 β) (h2 β)
theorem Sub.left (a b : Nat) : Sub a (a ||| b) := fun β h => by simp [h]
theorem Sub.right (a b : Nat) : Sub b (a ||| b) := fun β h => by simp [h]
theorem Sub.l {a b c : Nat} (h : Sub a b) : Sub a (b ||| c) := h.trans (Sub.left _ _)
theorem Sub.r {a b c : Nat} (h : Sub a c) : Sub a (b ||| c) := h.trans (Sub.right _ _)
/-! No read at a secret index. -/
/-- A statement without statements that is fine in a context of a label. -/
def Fn1 (F ar : List Int) (pc : Nat) (s : St1) : Prop := s.body = [] ∧ s.els = [] ∧ s.kind ≠ 3 ∧ ∀ c, Sub c pc → flowR F ar s c = 0 ∧ leakR F ar s c = 0
/-! What is not secret stays. -/
end Go.Proofs.YtjjjidcbokbhpaaGreat.CtL

namespace Go.Proofs.YtjjjidcbokbhpaaGreat.CtL
open Go Go.CT CtF CtR
open CtD (rel rel_app)

/-- All statements of a block are fine, in every context that is no more than c. -/
def FnL (F ar : List Int) (c : Nat) (l : List St1) : Prop := ∀ D c', Sub c' c → fineL (flowR F ar) F ar D c' l = true ∧ fineL (leakR F ar) F ar D c' l = true
theorem FnL.app {F ar : List Int} {c : Nat} {a b : List St1} (h : FnL F ar c a) (g : FnL F ar c b) : FnL F ar c (a ++ b) := fun D c' hc => by
  have h := h D c' hc
  have g := g D c' hc
  cases D with
  | zero => exact ⟨rfl, rfl⟩
  | succ D =>
    simp only [fineL, List.all_append, Bool.and_eq_true] at h g ⊢
    exact ⟨⟨h.1, g.1⟩, h.2, g.2⟩
theorem FnL.nil {F ar : List Int} {c : Nat} : FnL F ar c [] := fun D c' hc => by cases D <;> exact ⟨rfl, rfl⟩
theorem FnL.of {F ar : List Int} {c : Nat} : ∀ {l : List St1}, (∀ s ∈ l, Fn1 F ar c s) → FnL F ar c l
  | [], _ => FnL.nil
  | s :: r, h => FnL.app (a := [s]) (fun D c' hc => by
      obtain ⟨h1, h2, h3, h4⟩ := h s (by simp)
      cases D with
      | zero => exact ⟨rfl, rfl⟩
      | succ D =>
        have n1 : ∀ res c, fineL res F ar D c [] = true := fun res c => by cases D <;> rfl
        simp [fineL, h1, h2, h4 c' hc, n1]) (FnL.of fun s hs => h s (by simp [hs]))
theorem FnL.le {F ar : List Int} {a b : Nat} {l : List St1} (h : FnL F ar b l) (hs : Sub a b) : FnL F ar a l := fun D c hc => h D c (hc.trans hs)
def MkL (p : Pg) (mk : Int) (vs : List Int) (pc : Nat) : Prop := mk < 0 ∨ p.vars.length ≤ mk ∧ mk < vs.length ∧ Sub (nth vs mk).toNat pc
theorem nth_more {vs ws : List Int} (h : ∃ w, ws = vs ++ w) {v : Int} (h0 : 0 ≤ v) (hv : v < vs.length) : nth ws v = nth vs v := by
  obtain ⟨w, rfl⟩ := h
  exact nth_app h0 hv
theorem MkL.more {p : Pg} {mk : Int} {vs ws : List Int} {pc pc2 : Nat} (h : MkL p mk vs pc) (hl : ∃ w, ws = vs ++ w) (hp : Sub pc pc2) : MkL p mk ws pc2 := by
  rcases h with h | ⟨h1, h2, h3⟩
  · exact .inl h
  · refine .inr ⟨h1, by have := more_le hl; omega, ?_⟩
    rw [nth_more hl (by omega) h2]; exact h3.trans hp
theorem MkL.sub {p : Pg} {mk : Int} {vs F : List Int} {pc : Nat} (h : MkL p mk vs pc) (hl : ∃ w, F = vs ++ w) : mk < 0 ∨ Sub (nth F mk).toNat pc := by
  rcases h with h | ⟨h1, h2, h3⟩
  · exact .inl h
  · rw [nth_more hl (by omega) h2]; exact .inr h3
end Go.Proofs.YtjjjidcbokbhpaaGreat.CtL

namespace Go.Proofs.YtjjjidcbokbhpaaGreat.CtL
open Go Go.CT CtF CtR
open CtD (rel rel_app)

/-! Plain: a constant-time program is linearized to itself. -/
theorem none0_e0 {e : Ex} (h : none0 e = true) : e = e0 := by
  obtain ⟨k, v, ks⟩ := e
  simp only [none0, Ex.kind, Ex.value, Ex.kids, Bool.and_eq_true, beq_iff_eq, List.isEmpty_iff] at h
  obtain ⟨⟨rfl, rfl⟩, rfl⟩ := h
  rfl
theorem head_parts {p : Pg} {k t : Int} {ix v : Ex} {c : Int} {b e : List St1} (h : headOK p k t ix v c b.length e.length = true) :
    (k = 4 → e = [] ∧ ix = e0 ∧ v = e0) ∧ (k ≠ 4 → c = 0 ∧ (k ≠ 2 → ix = e0)) ∧ (k ≠ 3 → k ≠ 4 → b = [] ∧ e = []) ∧ (k = 3 ∨ k = 4 → t = 0) := by
  simp only [headOK, parts, blk, Bool.and_eq_true] at h
  obtain ⟨⟨h1, h2⟩, _⟩ := h
  refine ⟨fun hk => ?_, fun hk => ?_, fun h3 h4 => ?_, fun hk => ?_⟩
  · rw [if_pos hk] at h2
    simp only [Bool.and_eq_true, beq_iff_eq] at h2
    exact ⟨List.length_eq_zero_iff.1 (by omega), none0_e0 h2.1.2, none0_e0 h2.2⟩
  · rw [if_neg hk] at h2
    simp only [Bool.and_eq_true, beq_iff_eq, Bool.or_eq_true] at h2
    exact ⟨h2.1, fun h => none0_e0 (h2.2.resolve_left h)⟩
  · have e1 : (k == 3) = false := by simpa using h3
    have e2 : (k == 4) = false := by simpa using h4
    have : b.length = 0 ∧ e.length = 0 := by
      cases b <;> cases e <;> simp_all
    exact ⟨List.length_eq_zero_iff.1 this.1, List.length_eq_zero_iff.1 this.2⟩
  · have : (k == 3 || k == 4) = true := by rcases hk with rfl | rfl <;> rfl
    rw [this] at h1
    simpa using h1
/-! Plain: what is linearized first stays. -/
def Bd (p : Pg) (e : Ex) : Prop := ∃ D, CtR.shape p D e = true
theorem Bd.mono {p q : Pg} {e : Ex} (h : Bd p e) (h1 : p.vars.length ≤ q.vars.length) (h2 : p.arrays.length = q.arrays.length) : Bd q e := by
  obtain ⟨D, hD⟩ := h
  exact ⟨D, shape_mono h1 h2 D e hD⟩
theorem shape_le {p : Pg} {e : Ex} : ∀ {d D : Nat}, d ≤ D → CtR.shape p d e = true → CtR.shape p D e = true
  | d, 0, h, hs => by
    have : d = 0 := by omega
    subst this; exact hs
  | d, D + 1, h, hs => by
    by_cases e1 : d = D + 1
    · subst e1; exact hs
    · exact shape_up D e (shape_le (by omega) hs)
theorem Bd.c {p : Pg} {n : Int} (h : 0 ≤ n ∧ n ≤ 255) : Bd p (cE n) := ⟨1, shape_of (fitsE_true rfl h.1 (by simp [limit]; omega)) (by simp) (by simp)⟩
theorem Bd.v {p : Pg} {n : Int} (h : 0 ≤ n ∧ n < p.vars.length) : Bd p (vE n) := ⟨1, shape_of (fitsE_true rfl h.1 (by simp [limit]; omega)) (by simp) (by simp)⟩
theorem Bd.b {p : Pg} {k : Int} {a b : Ex} (hk : k = 7 ∨ k = 9) (ha : Bd p a) (hb : Bd p b) : Bd p (bE k a b) := by
  obtain ⟨A, hA⟩ := ha
  obtain ⟨B, hB⟩ := hb
  refine ⟨A + B + 1, shape_of (by rcases hk with rfl | rfl <;> exact fitsE_true rfl (by omega) (by simp [limit])) (fun x hx => ?_) (by omega)⟩
  simp at hx
  rcases hx with rfl | rfl
  · exact shape_le (by omega) hA
  · exact shape_le (by omega) hB
theorem Bd.rd {p : Pg} {t : Int} {a : Ex} (ht : 0 ≤ t ∧ t < p.arrays.length) (ha : Bd p a) (hat : atom a = true) : Bd p (rdE t a) := by
  obtain ⟨A, hA⟩ := ha
  refine ⟨A + 1, shape_of (fitsE_true rfl ht.1 (by simp [limit]; omega)) (fun x hx => ?_) (fun _ => hat)⟩
  simp at hx
  subst hx; exact hA
theorem Bd.hit {p : Pg} {a : Ex} {k : Int} (ha : Bd p a) (hk : 0 ≤ k ∧ k ≤ 255) : Bd p (hitE a k) := Bd.b (.inr rfl) (Bd.b (.inl rfl) ha (Bd.c (by omega))) (Bd.c hk)
def BdS (p : Pg) : Nat → St1 → Prop
  | 0, _ => True
  | d + 1, .mk k t ix v c b e => (k = 1 ∨ k = 5 → t < p.vars.length) ∧ (k ≠ 4 → Bd p v) ∧ (k = 2 → Bd p ix) ∧ (∀ s ∈ b, BdS p d s) ∧ (∀ s ∈ e, BdS p d s) ∧ (k ≠ 2 → ix = e0) ∧ (k = 4 → v = e0)
theorem BdS.mono {p q : Pg} (h1 : p.vars.length ≤ q.vars.length) (h2 : p.arrays.length = q.arrays.length) : ∀ (d : Nat) (s : St1), BdS p d s → BdS q d s
  | 0, _, _ => trivial
  | d + 1, .mk k t ix v c b e, h => by
    obtain ⟨a1, a2, a3, a4, a5, a6, a7⟩ := h
    exact ⟨fun h => by have := a1 h; omega, fun h => (a2 h).mono h1 h2, fun h => (a3 h).mono h1 h2, fun s hs => BdS.mono h1 h2 d s (a4 s hs), fun s hs => BdS.mono h1 h2 d s (a5 s hs), a6, a7⟩
end Go.Proofs.YtjjjidcbokbhpaaGreat.CtL

namespace Go.Proofs.YtjjjidcbokbhpaaGreat.CtL
open Go Go.CT CtF CtR
open CtD (rel rel_app)

/-! Plain: what the statements on linearization ask. -/
def extM (n : Nat) (m : Mm) : Mm := ⟨m.vals ++ List.replicate (n - m.vals.length) 0, m.arrays⟩
def extOK (p q : Pg) : Bool := progOK p && progOK q && decide ((p.vars.length : Int) ≤ q.vars.length) && decide (p.vars = q.vars.take p.vars.length) && decide (p.arrays = q.arrays)
theorem LowM.ext {p q : Pg} {a b : Mm} (h : LowM 0 p a b) (ha : MemFits p a) (hb : MemFits p b) (he : extOK p q = true) : LowM 0 q (extM q.vars.length a) (extM q.vars.length b) := by
  simp only [extOK, Bool.and_eq_true, decide_eq_true_eq] at he
  obtain ⟨⟨⟨_, h1⟩, h2⟩, h3⟩ := he
  have e1 := ha.nv
  have e2 := hb.nv
  refine ⟨by simp [extM, e1, e2], h.la, fun i x hx hb => ?_, fun i x hx => h.arr i x (by rw [h3]; exact hx)⟩
  simp only [extM]
  by_cases hi : i < p.vars.length
  · rw [List.getElem?_append_left (by omega), List.getElem?_append_left (by omega)]
    refine h.val i x ?_ hb
    rw [h2, List.getElem?_take, if_pos hi]; exact hx
  · rw [List.getElem?_append_right (by omega), List.getElem?_append_right (by omega), e1, e2]
end Go.Proofs.YtjjjidcbokbhpaaGreat.CtL

namespace Go.Proofs.YtjjjidcbokbhpaaGreat.CtD
open Go Go.CT CtF CtR

/-- Expressions and statements whose lists are no longer than a million or so. -/
inductive FE : Ex → Prop
  | mk (k v : Int) (ks : List Ex) (h : ks.length ≤ 1048576) (h2 : ∀ x ∈ ks, FE x) : FE (.mk k v ks)
inductive FS : St1 → Prop
  | mk (k t : Int) (ix v : Ex) (c : Int) (b e : List St1) (h1 : FE ix) (h2 : FE v) (h3 : b.length ≤ 1048576) (h4 : e.length ≤ 1048576) (h5 : ∀ x ∈ b, FS x) (h6 : ∀ x ∈ e, FS x) : FS (.mk k t ix v c b e)

theorem copyE (e : Ex) (he : FE e) : DC Tryz.prog 120 [.agg e.cells] [] (fun r h => r = .agg e.cells ∧ h = []) := by
  have hmx := mx_eq
  induction he with
  | mk k v ks hlen hall ih =>
    refine dcZ Tryz.func120 ?_
    simp (maxSteps := 9999999) only [go_sem]
    iterate 2 (try (refine drvZ Tryz.func120 ?_; simp (maxSteps := 9999999) only [go_sem]))
    refine Go.loopQ (fun i : Nat => [(1, .c (.ptr 0 0)), (2, .c (.ptr 64 0)), (3, .c (.ptr 66 0)), (4, DI .i64 i)])
      (fun i => [(0, some (Ex.cells (.mk k v ks))), (64, some [I64 0, I64 0, .v (.slice none 0 0)]), (66, some [I64 k, I64 v, .msl 67 3 0 i]), (67, some (exC (ks.take i)))])
      4096 (fun i => i ≤ ks.length) (fun i => ks.length - i) ?_ 0 (fun j => if j = 66 then some 448 else if j = 67 then none else some j) [] _ (Nat.zero_le _) ?_
    · intro i hi again
      rcases Nat.lt_or_ge i ks.length with hlt | hge
      · obtain ⟨⟨k', v', ks'⟩, hx⟩ : ∃ x, ks[i]? = some x := ⟨ks[i], by simp [hlt]⟩
        have hsx : ks.take (i + 1) = ks.take i ++ [.mk k' v' ks'] := by rw [List.take_add_one, hx]; rfl
        have hel : (exC (ks.take i)).length = i * 3 := by rw [exC_len, List.length_take]; congr 1; omega
        refine drvL Tryz.func120 ?_
        simp (maxSteps := 9999999) only [go_sem, hx, hlt]
        (repeat' with_reducible apply And.intro) <;> (try first | omega | (simp only [InK]; omega) | (intro k e; cases e; rfl) | (intro hguard; exact ⟨hguard, by simp only [InK]; omega⟩) | kernel_rfl)
        iterate 2 (try (refine drvZ Tryz.func120 ?_; simp (maxSteps := 9999999) only [go_sem, hx, hlt]))
        (repeat' with_reducible apply And.intro) <;> (try first | omega | (simp only [InK]; omega) | (intro k e; cases e; rfl) | (intro hguard; exact ⟨hguard, by simp only [InK]; omega⟩) | kernel_rfl)
        refine XK.plain (ih _ (List.mem_of_getElem? hx)) ok120 ?_ (hbT ()) (fun _ => by kernel_rfl)
        iterate 3 (try (refine drvZ Tryz.func120 ?_; simp (maxSteps := 9999999) only [go_sem, hx, hlt]))
        (repeat' with_reducible apply And.intro) <;> (try first | omega | (simp only [InK]; omega) | (intro k e; cases e; rfl) | (intro hguard; exact ⟨hguard, by simp only [InK]; omega⟩) | kernel_rfl)
        iterate 2 (try (refine drvZ Tryz.func120 ?_; simp (maxSteps := 9999999) only [go_sem, hx, hlt]))
        (repeat' with_reducible apply And.intro) <;> (try first | omega | (simp only [InK]; omega) | (intro k e; cases e; rfl) | (intro hguard; exact ⟨hguard, by simp only [InK]; omega⟩) | kernel_rfl)
        refine again (i + 1) (fun j => if j = 67 then some 4992 else some j) [] _ hlt (by omega) ?_
        simp (maxSteps := 9999999) only [go_sem, TmOK, DM, DMs, CM, CMs, forall_eq, exists_eq_left, Mq, HpOK, LowOK, hsx, exC_snoc]
        simp
        exact CMs.kf (kf_app (exC_kf _) (by simp [kf]))
      · have hn : ¬ i < ks.length := by omega
        obtain rfl : i = ks.length := by omega
        refine drvL Tryz.func120 ?_
        simp (maxSteps := 9999999) only [go_sem, hn, List.take_length]
        iterate 2 (try (refine drvZ Tryz.func120 ?_; simp (maxSteps := 9999999) only [go_sem, hn, List.take_length]))
        refine RetOb.ofQ (fun j => none) [67] (.agg (Ex.cells (.mk k v ks))) [] ?_ ⟨rfl, rfl⟩ (by simp)
        have g1 : (Ex.cellsL ks).flatten = exC ks := by rw [Ex.cellsL_eq]; rfl
        have g2 : ∀ x ∈ Ex.cellsL ks, x.length = 3 := fun x hx => by rw [Ex.cellsL_eq] at hx; obtain ⟨e, _, rfl⟩ := List.mem_map.1 hx; exact Ex.cells_len e
        have g3 : ∀ x ∈ Ex.cellsL ks, ∀ c ∈ x, kf c = true := fun x hx => by rw [Ex.cellsL_eq] at hx; obtain ⟨e, _, rfl⟩ := List.mem_map.1 hx; exact ex_kf e
        simp only [enumL, hOf, DM, DMs, CM, CMs, HpOK, LowOK, upd, Ex.cells, Ex.cellsL_length, g1]
        first | (simp; exact ⟨g2, g3⟩) | (simp [g2]; exact g3) | exact ⟨g2, g3⟩
    · simp (maxSteps := 9999999) only [go_sem, TmOK, DM, DMs, CM, CMs, forall_eq, exists_eq_left, Mq, HpOK, LowOK]
      simp [exC]

end Go.Proofs.YtjjjidcbokbhpaaGreat.CtD

namespace Go.Proofs.YtjjjidcbokbhpaaGreat.CtL
open Go Go.CT CtF CtR
open CtD (rel rel_app FE FS)

/-! Plain: how long linearized programs are. -/
theorem FE_shape {p : Pg} : ∀ (d : Nat) (e : Ex), CtR.shape p d e = true → FE e
  | 0, e, h => by simp [CtR.shape] at h
  | d + 1, .mk k v ks, h => by
    obtain ⟨g1, g2, g3⟩ := shape_succ h
    have := fits_len g1
    exact .mk k v ks (by omega) fun x hx => FE_shape d x (g2 x hx)
theorem FE_e0 : FE e0 := .mk 0 0 [] (by simp) (by simp)
theorem FS_ok {p : Pg} : ∀ (d : Nat) (s : St1), stmtOK p d s = true → tsize d s ≤ 1048576 → FS s
  | 0, s, h, _ => by simp [stmtOK] at h
  | d + 1, .mk k t ix v c b e, h, hts => by
    obtain ⟨hh, hb, he⟩ := stmtOK_succ h
    obtain ⟨s1, s2⟩ := shapeV h
    obtain ⟨q1, q2, q3, q4⟩ := head_parts hh
    rw [tsize_subs] at hts
    simp only [subs, St1.body, St1.els] at hts
    have hlen : ∀ l : List St1, (∀ s ∈ l, stmtOK p d s = true) → l.length ≤ lsize d l := fun l hl => len_le_sum _ l fun s hs => stmtOK_pos (hl s hs)
    have := hlen b hb
    have := hlen e he
    refine .mk k t ix v c b e ?_ ?_ (by omega) (by omega) (fun x hx => FS_ok d x (hb x hx) ?_) fun x hx => FS_ok d x (he x hx) ?_
    · by_cases hk : k = 2
      · exact FE_shape 5 ix (s2 hk)
      · by_cases h4 : k = 4
        · rw [(q1 h4).2.1]; exact FE_e0
        · rw [(q2 h4).2 hk]; exact FE_e0
    · by_cases h4 : k = 4
      · rw [(q1 h4).2.2]; exact FE_e0
      · exact FE_shape 5 v (s1 h4)
    · have := mem_le_lsize (d := d) hx; omega
    · have := mem_le_lsize (d := d) hx; omega
theorem prog_FS {p : Pg} (h : progOK p = true) : p.body.length ≤ 60 ∧ ∀ s ∈ p.body, FS s := by
  obtain ⟨h1, h2⟩ := body_of h
  refine ⟨Nat.le_trans (len_le_sum _ _ fun s hs => stmtOK_pos (h1 s hs)) h2, fun s hs => FS_ok 5 s (h1 s hs) ?_⟩
  have := mem_le_lsize (d := 5) hs; omega
end Go.Proofs.YtjjjidcbokbhpaaGreat.CtL

namespace Go.Proofs.YtjjjidcbokbhpaaGreat.CtD
open Go Go.CT CtF CtR
open CtL (e0 cE vE rdE bE hitE)

theorem constS (n : Int) : DC Tryz.prog 45 [DI .i64 n] [] (fun r h => r = .agg (cE n).cells ∧ h = []) := by
  refine dcZ Tryz.func45 ?_
  simp (maxSteps := 9999999) only [go_sem]
  iterate 2 ((try (refine drvZ Tryz.func45 ?_; simp (maxSteps := 9999999) only [go_sem])); (try ((with_reducible refine And.intro ?_ ?_) <;> (repeat' with_reducible apply And.intro) <;> try exact sd)))
  refine RetOb.ofQ (fun _ => none) [] (.agg (Ex.cells (cE n))) [] ?_ ⟨rfl, rfl⟩ (by simp)
  simp [enumL, hOf, DM, DMs, CM, CMs, HpOK, LowOK, cE, Ex.cells, Ex.cellsL]
/-- An expression of a node and its children is what its cells say. -/
theorem RetOb.node {R : D → List (Option (List C)) → Prop} {k v : Int} {ks : List Ex} {hp : Hp} {j n : Nat} {cs : List C} (hR : R (.agg (Ex.cells (.mk k v ks))) []) (h : hp j = some (some cs)) (hc : cs = exC ks) (hn : n = ks.length) : RetOb 0 R (.agg [I64 k, I64 v, .msl j 3 0 n]) hp := by
  subst hc hn
  refine RetOb.ofQ (fun _ => none) [j] (.agg (Ex.cells (.mk k v ks))) [] ?_ hR (by simp)
  have g1 : (Ex.cellsL ks).flatten = exC ks := by rw [Ex.cellsL_eq]; rfl
  have g2 : ∀ x ∈ Ex.cellsL ks, x.length = 3 := fun x hx => by rw [Ex.cellsL_eq] at hx; obtain ⟨e, _, rfl⟩ := List.mem_map.1 hx; exact Ex.cells_len e
  have g3 : ∀ x ∈ Ex.cellsL ks, ∀ c ∈ x, kf c = true := fun x hx => by rw [Ex.cellsL_eq] at hx; obtain ⟨e, _, rfl⟩ := List.mem_map.1 hx; exact ex_kf e
  simp [enumL, hOf, DM, DMs, CM, CMs, HpOK, LowOK, upd, hpL, Ex.cells, Ex.cellsL_length, g1, h]
  exact ⟨g2, g3⟩
/-- Plain cells handed back. -/
theorem RetOb.kfA {R : D → List (Option (List C)) → Prop} {cs : List C} {hp : Hp} (hR : R (.agg cs) []) (h : ∀ c ∈ cs, kf c = true) : RetOb 0 R (.agg cs) hp := by
  refine RetOb.ofQ (fun _ => none) [] (.agg cs) [] ?_ hR (by simp)
  simp only [enumL, hOf, DM, HpOK, LowOK]
  simp
  exact CMs.kf h
end Go.Proofs.YtjjjidcbokbhpaaGreat.CtD

namespace Go.Proofs.YtjjjidcbokbhpaaGreat.CtD
open Go Go.CT CtF CtR
open CtL (e0 cE vE rdE bE hitE)

end Go.Proofs.YtjjjidcbokbhpaaGreat.CtD

namespace Go.Proofs.YtjjjidcbokbhpaaGreat.CtD
open Go Go.CT CtF CtR
open CtL (e0 cE vE rdE bE hitE)

end Go.Proofs.YtjjjidcbokbhpaaGreat.CtD

namespace Go.Proofs.YtjjjidcbokbhpaaGreat.CtD
open Go Go.CT CtF CtR
open CtL (e0 cE vE rdE bE hitE)

end Go.Proofs.YtjjjidcbokbhpaaGreat.CtD

namespace Go.Proofs.YtjjjidcbokbhpaaGreat.CtD
open Go Go.CT CtF CtR
open CtL (e0 cE vE rdE bE hitE)

end Go.Proofs.YtjjjidcbokbhpaaGreat.CtD

namespace Go.Proofs.YtjjjidcbokbhpaaGreat.CtD
open Go Go.CT CtF CtR
open CtL (e0 cE vE rdE bE hitE)

end Go.Proofs.YtjjjidcbokbhpaaGreat.CtD

namespace Go.Proofs.YtjjjidcbokbhpaaGreat.CtD
open Go Go.CT CtF CtR
open CtL (e0 cE vE rdE bE hitE)

end Go.Proofs.YtjjjidcbokbhpaaGreat.CtD

namespace Go.Proofs.YtjjjidcbokbhpaaGreat.CtD
open Go Go.CT CtF CtR
open CtL (e0 cE vE rdE bE hitE)

theorem RetOb.pg0 {R : D → List (Option (List C)) → Prop} {hp : Hp} {x : Bool} (hR : R (.tup [.agg (Pg.cells ⟨[], [], []⟩), DB x]) []) : RetOb 0 R (.tup [.agg [.v (.slice none 0 0), .v (.slice none 0 0), .v (.slice none 0 0)], DB x]) hp := by
  refine RetOb.ofQ (fun _ => none) [] (.tup [.agg (Pg.cells ⟨[], [], []⟩), DB x]) [] ?_ hR (by simp)
  simp [enumL, DM, DMs, CM, CMs, HpOK, LowOK, Pg.cells, isI, St1.cellsL]
theorem RetOb.pgP {R : D → List (Option (List C)) → Prop} {V A : List Int} {B : List St1} {hp : Hp} {x : Bool} (hR : R (.tup [.agg (Pg.cells ⟨V, A, B⟩), DB x]) []) : RetOb 0 R (.tup [.agg [isI V, isI A, .isl 11 (St1.cellsL B)], DB x]) hp := by
  refine RetOb.ofQ (fun _ => none) [] (.tup [.agg (Pg.cells ⟨V, A, B⟩), DB x]) [] ?_ hR (by simp)
  have g3 : ∀ x ∈ St1.cellsL B, ∀ c ∈ x, kf c = true := fun x hx => by rw [St1.cellsL_eq] at hx; obtain ⟨e, _, rfl⟩ := List.mem_map.1 hx; exact st_kf e
  simp [enumL, DM, DMs, CM, CMs, HpOK, LowOK, Pg.cells, isI, kf]
end Go.Proofs.YtjjjidcbokbhpaaGreat.CtD

namespace Go.Proofs.YtjjjidcbokbhpaaGreat.CtD
open Go Go.CT CtF CtR
open CtL (e0 cE vE rdE bE hitE)

theorem constI (n : Int) : DC Tryz.prog 176 [DI .i64 n] [] (fun r h => r = .agg (cE n).cells ∧ h = []) := by
  refine dcZ Tryz.func176 ?_
  simp (maxSteps := 9999999) only [go_sem]
  iterate 2 ((try (refine drvZ Tryz.func176 ?_; simp (maxSteps := 9999999) only [go_sem])); (try ((with_reducible refine And.intro ?_ ?_) <;> (repeat' with_reducible apply And.intro) <;> try exact sd)))
  refine RetOb.ofQ (fun _ => none) [] (.agg (Ex.cells (cE n))) [] ?_ ⟨rfl, rfl⟩ (by simp)
  simp [enumL, hOf, DM, DMs, CM, CMs, HpOK, LowOK, cE, Ex.cells, Ex.cellsL]
end Go.Proofs.YtjjjidcbokbhpaaGreat.CtD

namespace Go.Proofs.YtjjjidcbokbhpaaGreat.CtD
open Go Go.CT CtF CtR
open CtL (e0 cE vE rdE bE hitE)

end Go.Proofs.YtjjjidcbokbhpaaGreat.CtD

namespace Go.Proofs.YtjjjidcbokbhpaaGreat.CtD
open Go Go.CT CtF CtR
open CtL (e0 cE vE rdE bE hitE)

end Go.Proofs.YtjjjidcbokbhpaaGreat.CtD

namespace Go.Proofs.YtjjjidcbokbhpaaGreat.CtD
open Go Go.CT CtF CtR
open CtL (e0 cE vE rdE bE hitE)

theorem ownP (p : Pg) (q : Pg) (hv : p.vars.length ≤ 1000000) (ha : p.arrays.length ≤ 1000000) (hb : ∀ s ∈ p.body, stmtOK q 5 s = true) (hz : lsize 5 p.body ≤ 1000) : DC Tryz.prog 49 [.agg p.cells] [] (fun r h => r = .agg p.cells ∧ h = []) := by
  have hmx := mx_eq
  have hcv := cloneI p.vars hv
  have hca := cloneI p.arrays ha
  have hos := ownStmts q 5 p.body hb hz
  generalize hR : (fun (r : D) (h : List (Option (List C))) => r = .agg p.cells ∧ h = []) = R
  obtain ⟨vs, ar, bd⟩ := p
  simp only [ints] at hcv hca
  refine dcZ Tryz.func49 ?_
  simp (maxSteps := 9999999) only [go_sem]
  iterate 2 ((try (refine drvZ Tryz.func49 ?_; simp (maxSteps := 9999999) only [go_sem])); (try ((with_reducible refine And.intro ?_ ?_) <;> (repeat' with_reducible apply And.intro) <;> try exact sd)))
  refine XK.callG [] hcv ok66 (fun i' x h => by simp at h) (hbT ()) (fun d h' ⟨_, e⟩ => by subst e; simp) ?_ (fun _ => ⟨by kernel_rfl, _, _, ⟨rfl, rfl⟩, by simp⟩)
  rintro _ _ ⟨rfl, rfl⟩ _
  iterate 2 ((try (refine drvZ Tryz.func49 ?_; simp (maxSteps := 9999999) only [go_sem, renCs_I])); (try ((with_reducible refine And.intro ?_ ?_) <;> (repeat' with_reducible apply And.intro) <;> try exact sd)))
  refine XK.callG [] hca ok66 (fun i' x h => by simp at h) (hbT ()) (fun d h' ⟨_, e⟩ => by subst e; simp) ?_ (fun _ => ⟨by kernel_rfl, _, _, ⟨rfl, rfl⟩, by simp⟩)
  rintro _ _ ⟨rfl, rfl⟩ _
  iterate 4 ((try (refine drvZ Tryz.func49 ?_; simp (maxSteps := 9999999) only [go_sem, renCs_I])); (try ((with_reducible refine And.intro ?_ ?_) <;> (repeat' with_reducible apply And.intro) <;> try exact sd)); (try first | refine XK.p hos ok50 ?_ | refine XK.gp hos ok50 ?_))
  refine RetOb.ofQ (fun _ => none) [256, 448] (.agg (Pg.cells ⟨vs, ar, bd⟩)) [] ?_ (by rw [← hR]; exact ⟨rfl, rfl⟩) (by simp)
  have g3 : ∀ x ∈ St1.cellsL bd, ∀ c ∈ x, kf c = true := fun x hx => by rw [St1.cellsL_eq] at hx; obtain ⟨e, _, rfl⟩ := List.mem_map.1 hx; exact st_kf e
  simp [enumL, DM, DMs, CM, CMs, HpOK, LowOK, Pg.cells, isI, upd, flat_I, kf]
end Go.Proofs.YtjjjidcbokbhpaaGreat.CtD

namespace Go.Proofs.YtjjjidcbokbhpaaGreat.CtL
open Go Go.CT CtF CtR
open CtD (rel rel_app)

/-! Plain: products. -/
def pairM (a b : Mm) : Mm := ⟨a.vals ++ b.vals, a.arrays ++ b.arrays⟩

/-- What a doubled run has come to. -/
structure DupR (p : Pg) (q : Prop) (x x2 y : Mm × List Ev) (z : Mm) : Prop where
  fit : MemFits p z
  eq : y.1 = pairM x.1 z
  sec : q → z = x2.1 ∧ (rel y.2).length = (rel x.2).length + (rel x2.2).length
theorem DupR.seq {p : Pg} {q q2 : Prop} {x x2 y x' x2' y' : Mm × List Ev} {z z' : Mm} (h : DupR p q x x2 y z) (h2 : DupR p q2 x' x2' y' z') (hq : q → q2) : DupR p q (x'.1, x.2 ++ x'.2) (x2'.1, x2.2 ++ x2'.2) (y'.1, y.2 ++ y'.2) z' :=
  ⟨h2.fit, h2.eq, fun hh => by
    obtain ⟨a, b⟩ := h.sec hh
    obtain ⟨a', b'⟩ := h2.sec (hq hh)
    refine ⟨a', ?_⟩
    simp only [rel_app, List.length_append]
    omega⟩
theorem DupR.mono {p : Pg} {q q2 : Prop} {x x2 y : Mm × List Ev} {z : Mm} (h : DupR p q x x2 y z) (hq : q2 → q) : DupR p q2 x x2 y z := ⟨h.fit, h.eq, fun hh => h.sec (hq hh)⟩
end Go.Proofs.YtjjjidcbokbhpaaGreat.CtL

namespace Go.Proofs.YtjjjidcbokbhpaaGreat.CtL
open Go Go.CT CtF CtR
open CtD (rel rel_app)

/-! Plain: what the statements on products ask. -/
end Go.Proofs.YtjjjidcbokbhpaaGreat.CtL

namespace Go.Proofs.YtjjjidcbokbhpaaGreat.CtD
open Go Go.CT CtF CtR


theorem stC_app2 (a b : List St1) : stC (a ++ b) = stC a ++ stC b := by simp [stC]
end Go.Proofs.YtjjjidcbokbhpaaGreat.CtD

namespace Go.Proofs.YtjjjidcbokbhpaaGreat.CtL
open Go Go.CT CtF CtR

/-! Plain: folding keeps flows and leaks fine. -/
def LeN (a b : Nat) : Prop := ∀ β, b.testBit β = false → a.testBit β = false
theorem LeN.rfl {a : Nat} : LeN a a := fun _ h => h
theorem LeN.or {a b c d : Nat} (h : LeN a c) (h2 : LeN b d) : LeN (a ||| b) (c ||| d) := fun β hb => by
  simp only [Nat.testBit_or, Bool.or_eq_false_iff] at hb ⊢
  exact ⟨h β hb.1, h2 β hb.2⟩
theorem LeN.zero {a : Nat} (h : LeN a 0) : a = 0 := Nat.eq_of_testBit_eq fun β => by rw [h β (Nat.zero_testBit β), Nat.zero_testBit]
theorem LeN.sub {a b t : Nat} (h : LeN a b) (hs : subL b t = true) : subL a t = true := by
  have : a ||| t = t := Nat.eq_of_testBit_eq fun β => by
    cases ht : t.testBit β with
    | true => simp [ht]
    | false => simp [ht, h β (subL_low hs ht)]
  simp [subL, this]
end Go.Proofs.YtjjjidcbokbhpaaGreat.CtL

namespace Go.Proofs.YtjjjidcbokbhpaaGreat.CtL
open Go Go.CT CtF CtR

/-! Plain: the machine. -/
structure In where
  op : Int
  a : Int
  b : Int
  c : Int
  d : Int
structure Mc where
  pc : Nat
  regs : List Int
  mem : Mm
def halt : In := ⟨13, 0, 0, 0, 0⟩
def stepM (x : In) (s : Mc) : Mc × List Ev :=
  if x.op = 1 then (⟨s.pc + 1, s.regs.set x.a.toNat x.b, s.mem⟩, [⟨5, s.pc⟩])
  else if x.op = 2 then (⟨s.pc + 1, s.regs.set x.a.toNat (nth s.mem.vals x.b), s.mem⟩, [⟨5, s.pc⟩])
  else if x.op = 3 then (⟨s.pc + 1, s.regs, setV s.mem x.a (nth s.regs x.b)⟩, [⟨5, s.pc⟩])
  else if x.op = 4 then (⟨s.pc + 1, s.regs.set x.a.toNat (nth (arrAt s.mem x.b) (nth s.regs x.c % 4)), s.mem⟩, [⟨5, s.pc⟩, ⟨2, x.b * 4 + nth s.regs x.c % 4⟩])
  else if x.op = 5 then (⟨s.pc + 1, s.regs, setA s.mem x.a (nth s.regs x.b % 4) (nth s.regs x.c)⟩, [⟨5, s.pc⟩, ⟨3, x.a * 4 + nth s.regs x.b % 4⟩])
  else if x.op = 6 then (⟨s.pc + 1, s.regs.set x.a.toNat (bin x.b (nth s.regs x.c) (nth s.regs x.d)), s.mem⟩, [⟨5, s.pc⟩])
  else if x.op = 7 then (⟨s.pc + 1, s.regs.set x.a.toNat (if nth s.regs x.b ≠ 0 then nth s.regs x.c else nth s.regs x.d), s.mem⟩, [⟨5, s.pc⟩])
  else if x.op = 8 then (⟨x.a.toNat, s.regs, s.mem⟩, [⟨5, s.pc⟩])
  else if x.op = 9 then (⟨if nth s.regs x.a = 0 then x.b.toNat else s.pc + 1, s.regs, s.mem⟩, [⟨5, s.pc⟩])
  else if x.op = 10 then (⟨if (nth s.regs x.a + 255) % 256 ≠ 0 then x.b.toNat else s.pc + 1, s.regs.set x.a.toNat ((nth s.regs x.a + 255) % 256), s.mem⟩, [⟨5, s.pc⟩])
  else if x.op = 11 then (⟨s.pc + 1, s.regs, s.mem⟩, [⟨5, s.pc⟩, ⟨4, nth s.regs x.a⟩])
  else if x.op = 13 then (s, [⟨5, s.pc⟩])
  else (⟨s.pc + 1, s.regs, s.mem⟩, [⟨5, s.pc⟩])
def atC (C : List In) (i : Nat) : In := C.getD i halt
def runM (C : List In) : Nat → Mc → Option (Mm × List Ev)
  | 0, _ => none
  | n + 1, s => if (atC C s.pc).op = 13 then some ((stepM (atC C s.pc) s).1.mem, (stepM (atC C s.pc) s).2)
    else (runM C n (stepM (atC C s.pc) s).1).map fun q => (q.1, (stepM (atC C s.pc) s).2 ++ q.2)
def stp (X : List Ev) : Nat := X.countP fun e => e.kind == 5
def Reach (C : List In) (s s' : Mc) (X : List Ev) : Prop := ∀ n, runM C (stp X + n) s = (runM C n s').map fun q => (q.1, X ++ q.2)
theorem Reach.rfl {C : List In} {s : Mc} : Reach C s s [] := fun n => by simp [stp]
theorem Reach.trans {C : List In} {s s' s'' : Mc} {X Y : List Ev} (h : Reach C s s' X) (h2 : Reach C s' s'' Y) : Reach C s s'' (X ++ Y) := fun n => by
  have : stp (X ++ Y) + n = stp X + (stp Y + n) := by simp [stp, List.countP_append]; omega
  rw [this, h, h2, Option.map_map]
  congr 1
  funext q
  simp
theorem stp_step (x : In) (s : Mc) : stp (stepM x s).2 = 1 := by
  unfold stepM
  by_cases h1 : x.op = 1
  · rw [if_pos h1]; rfl
  rw [if_neg h1]
  by_cases h2 : x.op = 2
  · rw [if_pos h2]; rfl
  rw [if_neg h2]
  by_cases h3 : x.op = 3
  · rw [if_pos h3]; rfl
  rw [if_neg h3]
  by_cases h4 : x.op = 4
  · rw [if_pos h4]; rfl
  rw [if_neg h4]
  by_cases h5 : x.op = 5
  · rw [if_pos h5]; rfl
  rw [if_neg h5]
  by_cases h6 : x.op = 6
  · rw [if_pos h6]; rfl
  rw [if_neg h6]
  by_cases h7 : x.op = 7
  · rw [if_pos h7]; rfl
  rw [if_neg h7]
  by_cases h8 : x.op = 8
  · rw [if_pos h8]; rfl
  rw [if_neg h8]
  by_cases h9 : x.op = 9
  · rw [if_pos h9]; rfl
  rw [if_neg h9]
  by_cases h10 : x.op = 10
  · rw [if_pos h10]; rfl
  rw [if_neg h10]
  by_cases h11 : x.op = 11
  · rw [if_pos h11]; rfl
  rw [if_neg h11]
  by_cases h13 : x.op = 13
  · rw [if_pos h13]; rfl
  rw [if_neg h13]
  rfl
theorem Reach.one {C : List In} {s : Mc} {x : In} (h : C[s.pc]? = some x) (hx : x.op ≠ 13) : Reach C s (stepM x s).1 (stepM x s).2 := fun n => by
  have e : atC C s.pc = x := by simp [atC, List.getD, h]
  rw [stp_step, Nat.add_comm, runM, e, if_neg hx]
theorem Reach.one' {C : List In} {s s' : Mc} {x : In} {X : List Ev} (h : C[s.pc]? = some x) (hx : x.op ≠ 13) (he : stepM x s = (s', X)) : Reach C s s' X := by
  have := Reach.one h hx
  rw [he] at this
  exact this
theorem runM_halt {C : List In} {s : Mc} (h : C[s.pc]? = some halt) (n : Nat) : runM C (n + 1) s = some (s.mem, [⟨5, s.pc⟩]) := by
  have e : atC C s.pc = halt := by simp [atC, List.getD, h]
  rw [runM, e, if_pos (by rfl)]
  rfl
theorem runM_more {C : List In} : ∀ (n k : Nat) (s : Mc) (q : Mm × List Ev), runM C n s = some q → runM C (n + k) s = some q
  | 0, k, s, q, h => by simp [runM] at h
  | n + 1, k, s, q, h => by
    rw [show n + 1 + k = (n + k) + 1 by omega]
    rw [runM] at h ⊢
    split
    · rename_i hc; rw [if_pos hc] at h; exact h
    · rename_i hc
      rw [if_neg hc] at h
      obtain ⟨q', hq, rfl⟩ := Option.map_eq_some_iff.1 h
      rw [runM_more n k _ q' hq]; rfl
/-- Whole runs. -/
theorem Reach.run {C : List In} {s s' : Mc} {X : List Ev} (h : Reach C s s' X) (hh : C[s'.pc]? = some halt) (F : Nat) :
    runM C F s = if stp X + 1 ≤ F then some (s'.mem, X ++ [⟨5, s'.pc⟩]) else none := by
  split
  · rename_i hle
    obtain ⟨k, rfl⟩ : ∃ k, F = stp X + (k + 1) := ⟨F - stp X - 1, by omega⟩
    rw [h, runM_halt hh]; rfl
  · rename_i hle
    cases hr : runM C F s with
    | none => rfl
    | some q =>
      have := runM_more F (stp X - F) s q hr
      rw [show F + (stp X - F) = stp X + 0 by omega, h] at this
      simp [runM] at this

def At (C : List In) (b : Nat) (L : List In) : Prop := ∃ pre post, C = pre ++ L ++ post ∧ pre.length = b
theorem At.left {C : List In} {b : Nat} {L R : List In} (h : At C b (L ++ R)) : At C b L := by
  obtain ⟨pre, post, rfl, hl⟩ := h
  exact ⟨pre, R ++ post, by simp, hl⟩
theorem At.right {C : List In} {b n : Nat} {L R : List In} (h : At C b (L ++ R)) (hn : L.length = n) : At C (b + n) R := by
  obtain ⟨pre, post, rfl, hl⟩ := h
  exact ⟨pre ++ L, post, by simp, by simp [hl, hn]⟩
theorem At.head {C : List In} {b : Nat} {x : In} {R : List In} (h : At C b (x :: R)) : C[b]? = some x := by
  obtain ⟨pre, post, rfl, hl⟩ := h
  subst hl; simp
/-! Code of expressions. -/
/-! What the code of an expression tells. -/
def EOk (C : List In) (m : Mm) (n b l : Nat) (X : List Ev) (val : Int) : Prop := ∀ regs : List Int, regs.length = 14 → ∃ regs' : List Int, Reach C ⟨b, regs, m⟩ ⟨b + l, regs', m⟩ X ∧ regs'.length = 14 ∧ regs'.getD n 0 = val ∧ ∀ j, j < n ∨ 9 ≤ j → regs'.getD j 0 = regs.getD j 0
theorem getD_set (l : List Int) (i j : Nat) (x : Int) (hi : i < l.length) : (l.set i x).getD j 0 = if i = j then x else l.getD j 0 := by
  simp only [List.getD_eq_getElem?_getD, List.getElem?_set]
  by_cases h : i = j
  · subst h; simp [hi]
  · simp [h]
theorem EOk.fin {C : List In} {m : Mm} {n b : Nat} {x : In} {val : Int} {X : List Ev} {regs : List Int} (hr : regs.length = 14) (hn : n < 9) (h : C[b]? = some x) (hx : x.op ≠ 13) (he : stepM x ⟨b, regs, m⟩ = (⟨b + 1, regs.set n val, m⟩, X)) :
    ∃ regs' : List Int, Reach C ⟨b, regs, m⟩ ⟨b + 1, regs', m⟩ X ∧ regs'.length = 14 ∧ regs'.getD n 0 = val ∧ ∀ j, j < n ∨ 9 ≤ j → regs'.getD j 0 = regs.getD j 0 := by
  refine ⟨regs.set n val, Reach.one' h hx he, by simp [hr], by rw [getD_set _ _ _ _ (by omega), if_pos rfl], fun j hj => by rw [getD_set _ _ _ _ (by omega), if_neg (by omega)]⟩
end Go.Proofs.YtjjjidcbokbhpaaGreat.CtL

namespace Go.Proofs.YtjjjidcbokbhpaaGreat.CtR
open Go Go.CT CtF
open CtL (quietE isC isN binN selN foldN foldE)

theorem indexFuncC (g : Nat) (q : Ex → Bool) (xs : List Ex) (hl : xs.length ≤ 3) (hok : fnOK Tryz.prog g = true) (hg : ∀ e ∈ xs, DC Tryz.prog g [.agg e.cells] [] (fun d h => d = DB (q e) ∧ h = [])) :
    DC Tryz.prog 239 [.c (.isl 3 (Ex.cellsL xs)), .c (.clo g [])] [] (fun d h => d = DI .i64 (idxE q xs 0) ∧ h = []) := by
  have hmx := mx_eq
  have ret : ∀ (n : Int) (hp : Hp), n = idxE q xs 0 → RetOb 0 (fun d h => d = DI .i64 (idxE q xs 0) ∧ h = []) (DI .i64 n) hp := fun n hp h => RetOb.plain (d := DI .i64 _) ⟨by rw [h], rfl⟩ rfl
  generalize hR : (fun (d : D) (h : List (Option (List C))) => d = DI .i64 (idxE q xs 0) ∧ h = []) = R at ret ⊢
  clear hR
  refine dcZ Tryz.func239 ?_
  simp (maxSteps := 9999999) only [go_sem]
  ((try (refine drvZ Tryz.func239 ?_; simp (maxSteps := 9999999) only [go_sem])); (try ((with_reducible refine And.intro ?_ ?_) <;> (repeat' with_reducible apply And.intro) <;> try exact sd)))
  refine Go.loopQ (fun i : Nat => [(0, .c (.isl 3 (Ex.cellsL xs))), (1, .c (.clo g [])), (7, DI .i64 xs.length), (8, DI .i64 i)]) (fun _ => []) 1024 (fun i => i ≤ xs.length ∧ idxE q (xs.drop i) i = idxE q xs 0) (fun i => xs.length - i) ?_ 0 some [] _ ⟨Nat.zero_le _, rfl⟩ ?_
  · intro i hi again
    rcases Nat.lt_or_ge i xs.length with hlt | hge
    · obtain ⟨⟨k, v, ks⟩, hx⟩ : ∃ x, xs[i]? = some x := ⟨xs[i], by simp [hlt]⟩
      have hgx := hg _ (List.mem_of_getElem? hx)
      have hdrop : xs.drop i = .mk k v ks :: xs.drop (i + 1) := by
        obtain ⟨_, e⟩ := List.getElem?_eq_some_iff.1 hx
        rw [List.drop_eq_getElem_cons hlt, e]
      have hI := hi.2
      rw [hdrop] at hI
      simp only [idxE] at hI
      cases hq : q (.mk k v ks) with
      | true =>
        rw [hq] at hgx hI
        refine drvL Tryz.func239 ?_
        simp (maxSteps := 9999999) only [go_sem, hx, hlt]
        iterate 3 ((try (refine drvZ Tryz.func239 ?_; simp (maxSteps := 9999999) only [go_sem, hx, hlt])); (try ((with_reducible refine And.intro ?_ ?_) <;> (repeat' with_reducible apply And.intro) <;> try exact sd)); (try first | refine XK.p hgx hok ?_ | refine XK.gp hgx hok ?_))
        exact ret _ _ (by simpa using hI)
      | false =>
        rw [hq] at hgx hI
        refine drvL Tryz.func239 ?_
        simp (maxSteps := 9999999) only [go_sem, hx, hlt]
        iterate 4 ((try (refine drvZ Tryz.func239 ?_; simp (maxSteps := 9999999) only [go_sem, hx, hlt])); (try ((with_reducible refine And.intro ?_ ?_) <;> (repeat' with_reducible apply And.intro) <;> try exact sd)); (try first | refine XK.p hgx hok ?_ | refine XK.gp hgx hok ?_))
        refine again (i + 1) some [] _ ⟨hlt, by simpa using hI⟩ (by omega) ?_
        simp (maxSteps := 9999999) only [go_sem, TmOK, DM, DMs, CM, CMs, forall_eq, exists_eq_left, Mq, HpOK, LowOK]
        try simp
    · have hn : ¬ i < xs.length := by omega
      refine drvL Tryz.func239 ?_
      simp (maxSteps := 9999999) only [go_sem, hn]
      iterate 3 ((try (refine drvZ Tryz.func239 ?_; simp (maxSteps := 9999999) only [go_sem, hn])); (try ((with_reducible refine And.intro ?_ ?_) <;> (repeat' with_reducible apply And.intro) <;> try exact sd)))
      refine ret _ _ ?_
      rw [← hi.2, List.drop_of_length_le hge]; rfl
  · simp (maxSteps := 9999999) only [go_sem, TmOK, DM, DMs, CM, CMs, forall_eq, exists_eq_left, Mq, HpOK, LowOK]
    try simp
theorem containsFuncC (g : Nat) (q : Ex → Bool) (xs : List Ex) (hl : xs.length ≤ 3) (hok : fnOK Tryz.prog g = true) (hg : ∀ e ∈ xs, DC Tryz.prog g [.agg e.cells] [] (fun d h => d = DB (q e) ∧ h = [])) :
    DC Tryz.prog 221 [.c (.isl 3 (Ex.cellsL xs)), .c (.clo g [])] [] (fun d h => d = DB (xs.any q) ∧ h = []) := by
  have hif := indexFuncC g q xs hl hok hg
  have hia := idxE_any q xs 0 (by omega)
  rw [← hia]
  generalize idxE q xs 0 = n at *
  refine dcZ Tryz.func221 ?_
  simp (maxSteps := 9999999) only [go_sem]
  iterate 3 ((try (refine drvZ Tryz.func221 ?_; simp (maxSteps := 9999999) only [go_sem])); (try ((with_reducible refine And.intro ?_ ?_) <;> (repeat' with_reducible apply And.intro) <;> try exact sd)); (try first | refine XK.p hif ok239 ?_ | refine XK.gp hif ok239 ?_))
  exact RetOb.plain (d := DB _) ⟨rfl, rfl⟩ rfl
theorem readsI : ∀ (d : Nat) (e : Ex) (p : Pg), shape p d e = true → DC Tryz.prog 175 [.agg e.cells] [] (fun r h => r = DB (!quietE d e) ∧ h = []) := by
  have hmx := mx_eq
  intro d
  induction d with
  | zero => intro e p h; simp [shape] at h
  | succ d ih =>
    intro e p hsh
    obtain ⟨k, v, ks⟩ := e
    obtain ⟨g1, g2, g3⟩ := shape_succ hsh
    obtain ⟨hl3, hla, hv0, hv1⟩ := fits_len g1
    have hcf := containsFuncC 175 (fun e => !quietE d e) ks hl3 ok175 (fun e he => ih e p (g2 e he))
    have ret : ∀ (b : Bool) (hp : Hp), b = (!quietE (d + 1) (.mk k v ks)) → RetOb 0 (fun r h => r = DB (!quietE (d + 1) (.mk k v ks)) ∧ h = []) (DB b) hp := fun b hp h => RetOb.plain (d := DB _) ⟨by rw [h], rfl⟩ rfl
    generalize hR : (fun (r : D) (h : List (Option (List C))) => r = DB (!quietE (d + 1) (.mk k v ks)) ∧ h = []) = R at ret ⊢
    clear hR
    have hq : (!quietE (d + 1) (.mk k v ks)) = (k == 3 || ks.any fun e => !quietE d e) := by
      simp only [quietE]
      cases hk : k == 3 <;> simp [List.any_eq_not_all_not]
    rw [hq] at ret
    generalize (ks.any fun e => !quietE d e) = B at *
    by_cases hk : k = 3
    · subst hk
      refine dcZ Tryz.func175 ?_
      simp (maxSteps := 9999999) only [go_sem]
      iterate 4 ((try (refine drvZ Tryz.func175 ?_; simp (maxSteps := 9999999) only [go_sem])); (try ((with_reducible refine And.intro ?_ ?_) <;> (repeat' with_reducible apply And.intro) <;> try exact sd)); (try first | refine XK.gs (DB false) ?_ | refine XK.p hcf ok221 ?_ | refine XK.gp hcf ok221 ?_))
      exact ret _ _ (by simp)
    · have e3 : (k == 3) = false := by simp [hk]
      refine dcZ Tryz.func175 ?_
      simp (maxSteps := 9999999) only [go_sem, e3, hk]
      iterate 4 ((try (refine drvZ Tryz.func175 ?_; simp (maxSteps := 9999999) only [go_sem, e3, hk])); (try ((with_reducible refine And.intro ?_ ?_) <;> (repeat' with_reducible apply And.intro) <;> try exact sd)); (try first | refine XK.p hcf ok221 ?_ | refine XK.gp hcf ok221 ?_))
      exact ret _ _ (by simp [e3])
theorem isNumberI (e : Ex) (n : Int) : DC Tryz.prog 178 [.agg e.cells, DI .i64 n] [] (fun d h => d = DB (isN e n) ∧ h = []) := by
  obtain ⟨k, v, ks⟩ := e
  refine dc_of_go Tryz.func178 rfl (by simp) ?_
  refine drv_sound (n := 100) (rs := _) Tryz.func178 mo rfl none _ _ ?_
  simp (maxSteps := 9999999) only [go_sem]
  repeat' (first | with_reducible apply And.intro | with_reducible intro _)
  all_goals first | omega | skip
  all_goals refine RetOb.plain (d := DB _) ⟨?_, rfl⟩ rfl
  all_goals simp [DB, isN, Ex.kind, Ex.value]
theorem l8Known (e : Ex) (n : Int) : DC Tryz.prog 232 [.agg e.cells, DI .i64 n] [] (fun d h => d = DB (isN e n) ∧ h = []) := by
  obtain ⟨k, v, ks⟩ := e
  refine dc_of_go Tryz.func232 rfl (by simp) ?_
  refine drv_sound (n := 100) (rs := _) Tryz.func232 mo rfl none _ _ ?_
  simp (maxSteps := 9999999) only [go_sem]
  repeat' (first | with_reducible apply And.intro | with_reducible intro _)
  all_goals first | omega | skip
  all_goals refine RetOb.plain (d := DB _) ⟨?_, rfl⟩ rfl
  all_goals simp [DB, isN, Ex.kind, Ex.value]
theorem l8Quiet : ∀ (d : Nat) (e : Ex) (p : Pg), shape p d e = true → DC Tryz.prog 230 [.agg e.cells] [] (fun r h => r = DB (quietE d e) ∧ h = []) := by
  have hmx := mx_eq
  intro d
  induction d with
  | zero => intro e p h; simp [shape] at h
  | succ d ih =>
    intro e p hsh
    obtain ⟨k, v, ks⟩ := e
    obtain ⟨g1, g2, g3⟩ := shape_succ hsh
    obtain ⟨hl3, hla, hv0, hv1⟩ := fits_len g1
    have ret : ∀ (b : Bool) (hp : Hp), b = quietE (d + 1) (.mk k v ks) → RetOb 0 (fun r h => r = DB (quietE (d + 1) (.mk k v ks)) ∧ h = []) (DB b) hp := fun b hp h => RetOb.plain (d := DB _) ⟨by rw [h], rfl⟩ rfl
    generalize hR : (fun (r : D) (h : List (Option (List C))) => r = DB (quietE (d + 1) (.mk k v ks)) ∧ h = []) = R at ret ⊢
    clear hR
    simp only [quietE] at ret
    by_cases hk : k = 3
    · subst hk
      refine dcZ Tryz.func230 ?_
      simp (maxSteps := 9999999) only [go_sem]
      iterate 2 ((try (refine drvZ Tryz.func230 ?_; simp (maxSteps := 9999999) only [go_sem])); (try ((with_reducible refine And.intro ?_ ?_) <;> (repeat' with_reducible apply And.intro) <;> try exact sd)))
      exact ret _ _ (by simp)
    · have e3 : (k == 3) = false := by simp [hk]
      simp only [e3, Bool.not_false, Bool.true_and] at ret
      refine dcZ Tryz.func230 ?_
      simp (maxSteps := 9999999) only [go_sem, e3, hk]
      iterate 2 ((try (refine drvZ Tryz.func230 ?_; simp (maxSteps := 9999999) only [go_sem, e3, hk])); (try ((with_reducible refine And.intro ?_ ?_) <;> (repeat' with_reducible apply And.intro) <;> try exact sd)))
      generalize hB : ks.all (quietE d) = B at *
      refine Go.loopQ (fun i : Nat => [(1, .c (.ptr 0 0)), (3, DI .i64 i)]) (fun i => [(0, some (Ex.cells (.mk k v ks)))])
        4096 (fun i => i ≤ ks.length ∧ B = (ks.drop i).all (quietE d)) (fun i => ks.length - i) ?_ 0 some [] _ ⟨Nat.zero_le _, hB.symm⟩ ?_
      · intro i hi again
        rcases Nat.lt_or_ge i ks.length with hlt | hge
        · obtain ⟨⟨k', v', ks'⟩, hx⟩ : ∃ x, ks[i]? = some x := ⟨ks[i], by simp [hlt]⟩
          have hI := hi.2
          obtain ⟨_, he⟩ := List.getElem?_eq_some_iff.1 hx
          rw [List.drop_eq_getElem_cons hlt, he, List.all_cons] at hI
          have hc := ih _ p (g2 _ (List.mem_of_getElem? hx))
          cases hq : quietE d (.mk k' v' ks') with
          | false =>
            rw [hq] at hc hI
            refine drvL Tryz.func230 ?_
            simp (maxSteps := 9999999) only [go_sem, hx, hlt]
            iterate 5 ((try (refine drvZ Tryz.func230 ?_; simp (maxSteps := 9999999) only [go_sem, hx, hlt])); (try ((with_reducible refine And.intro ?_ ?_) <;> (repeat' with_reducible apply And.intro) <;> try exact sd)); (try first | refine XK.p hc ok230 ?_ | refine XK.gp hc ok230 ?_))
            exact ret _ _ (by rw [hI]; rfl)
          | true =>
            rw [hq] at hc hI
            refine drvL Tryz.func230 ?_
            simp (maxSteps := 9999999) only [go_sem, hx, hlt]
            iterate 6 ((try (refine drvZ Tryz.func230 ?_; simp (maxSteps := 9999999) only [go_sem, hx, hlt])); (try ((with_reducible refine And.intro ?_ ?_) <;> (repeat' with_reducible apply And.intro) <;> try exact sd)); (try first | refine XK.p hc ok230 ?_ | refine XK.gp hc ok230 ?_))
            refine again (i + 1) some [] _ ⟨hlt, by rw [hI]; rfl⟩ (by omega) ?_
            simp (maxSteps := 9999999) only [go_sem, TmOK, DM, DMs, CM, CMs, forall_eq, exists_eq_left, Mq, HpOK, LowOK]
            try simp
        · have hn : ¬ i < ks.length := by omega
          refine drvL Tryz.func230 ?_
          simp (maxSteps := 9999999) only [go_sem, hn]
          iterate 3 ((try (refine drvZ Tryz.func230 ?_; simp (maxSteps := 9999999) only [go_sem, hn])); (try ((with_reducible refine And.intro ?_ ?_) <;> (repeat' with_reducible apply And.intro) <;> try exact sd)))
          refine ret _ _ ?_
          rw [hi.2, List.drop_of_length_le hge]; rfl
      · simp (maxSteps := 9999999) only [go_sem, TmOK, DM, DMs, CM, CMs, forall_eq, exists_eq_left, Mq, HpOK, LowOK]
        try simp
end Go.Proofs.YtjjjidcbokbhpaaGreat.CtR
