/- Contracts of functions of the program, one behind the other, as plain data: what each call returns and which blocks it leaves. -/
import Derived.Test.YtlapccpnilomfaaJBg
import Derived.Test.YtlapccpnilomfaaJAo
import Derived.Test.YtlapccpnilomfaaJAs
import Derived.Test.YtlapccpnilomfaaJAu
import Derived.Test.YtlapccpnilomfaaJAw
import Derived.Test.YtlapccpnilomfaaJAv
import Derived.Test.YtlapccpnilomfaaJAr
set_option linter.unusedVariables false
set_option linter.unusedSimpArgs false
set_option linter.unusedSectionVars false
set_option maxHeartbeats 16000000
set_option maxRecDepth 100000
namespace Go.Proofs.Ytlapccpnilomfaa.CtT
open Go Go.CT Go.RowKit CtF CtR CtD
variable [Yn]

/-! How many places a tree has. -/
theorem sum_take1 {α : Type} (f : α → Nat) {l : List α} {i : Nat} {x : α} (h : l[i]? = some x) : ((l.take (i + 1)).map f).sum = ((l.take i).map f).sum + f x := (sum_take f h).1
theorem ctE_k (e : Ex) : ctE e = ctEL e.kids := by cases e; simp [ctE, Ex.kids]
theorem ctS_k (s : St1) : ctS s = ctEL s.index.kids + ctEL s.value.kids + ctSL s.body + ctSL s.els := by
  cases s; simp [ctS, St1.index, St1.value, St1.body, St1.els, ctE_k]
theorem trI {w : World} {v : Value} {l : List Int} {B : List Nat} {A : List Addr} (h : TR w v 1 (l.map fun n => [I64 n]) B A) : A.length = l.length := by
  generalize hxs : l.map (fun n => [I64 n]) = xs at h
  cases h with
  | nil => cases l with
    | nil => rfl
    | cons => simp at hxs
  | row b cap sz xs y Bs As arr ty hbk hsz hy hc hi hr hl hcap =>
    subst hxs
    have hf := flat_one l
    simp only [List.length_map, Nat.mul_one]
    have hAs : ∀ j, j < l.length → As j = [⟨b, j, none⟩] := fun j hj => (hi j l[j] (by rw [hf]; simp [hj])).2.1
    have hpl : ∀ i, i ≤ l.length → ((List.range i).flatMap As).length = i := fun i => by
      induction i with
      | zero => intro _; rfl
      | succ i ih => intro hi'; rw [pre_succ, List.length_append, ih (by omega), hAs i (by omega)]; rfl
    exact hpl _ (Nat.le_refl _)
theorem trE : ∀ (n : Nat) (es : List Ex), SizeOf.sizeOf es ≤ n → ∀ {w : World} {v : Value} {B : List Nat} {A : List Addr}, TR w v 3 (Ex.cellsL es) B A → A.length = ctEL es := by
  intro n
  induction n with
  | zero => intro es h; cases es <;> simp at h
  | succ n ih =>
    intro es hs w v B A h
    have hlen := exL_len es
    have hat := fun i e h => exL_at (es := es) (i := i) (e := e) h
    generalize Ex.cellsL es = xs at *
    cases h with
    | nil => cases es with
      | nil => rfl
      | cons => simp at hlen
    | row b cap sz xs y Bs As arr ty hbk hsz hy hc hi hr hl hcap =>
      have key : ∀ i, i ≤ es.length → ((List.range (i * 3)).flatMap As).length = ((es.take i).map fun e => 2 + ctE e).sum := fun i => by
        induction i with
        | zero => intro _; simp
        | succ i ihi =>
          intro hi'
          have he : es[i]? = some es[i] := by simp [show i < es.length by omega]
          have hx := hat i _ he
          rw [ex3] at hx
          have c0 := flat_at hsz i 0 _ hx (by omega)
          have c1 := flat_at hsz i 1 _ hx (by omega)
          have c2 := flat_at hsz i 2 _ hx (by omega)
          have a0 := (hi _ _ c0).2.1
          simp only [Nat.add_zero] at a0
          have a1 := (hi _ _ c1).2.1
          have a2 := ih es[i].kids (by
            have := List.sizeOf_lt_of_mem (List.mem_of_getElem? he)
            cases h : es[i] with
            | mk k v ks => rw [h] at this; simp only [Ex.mk.sizeOf_spec] at this; simp only [Ex.kids]; omega) (hr _ _ _ c2)
          rw [sum_take1 _ he, ← ihi (by omega), show (i + 1) * 3 = i * 3 + 1 + 1 + 1 by omega, pre_succ, pre_succ, pre_succ, List.length_append, List.length_append, List.length_append, a0, a1, show i * 3 + 1 + 1 = i * 3 + 2 by omega, a2, ctE_k]
          simp only [List.length_singleton, Nat.add_zero]; omega
      have := key es.length (Nat.le_refl _)
      rw [List.take_of_length_le (Nat.le_refl _), ← ctEL_eq] at this
      rw [hlen]; exact this
theorem trS : ∀ (n : Nat) (es : List St1), SizeOf.sizeOf es ≤ n → ∀ {w : World} {v : Value} {B : List Nat} {A : List Addr}, TR w v 11 (St1.cellsL es) B A → A.length = ctSL es := by
  intro n
  induction n with
  | zero => intro es h; cases es <;> simp at h
  | succ n ih =>
    intro es hs w v B A h
    have hlen := stL_len es
    have hat := fun i e h => stL_at (l := es) (i := i) (e := e) h
    generalize St1.cellsL es = xs at *
    cases h with
    | nil => cases es with
      | nil => rfl
      | cons => simp at hlen
    | row b cap sz xs y Bs As arr ty hbk hsz hy hc hi hr hl hcap =>
      have key : ∀ i, i ≤ es.length → ((List.range (i * 11)).flatMap As).length = ((es.take i).map fun e => 7 + ctS e).sum := fun i => by
        induction i with
        | zero => intro _; simp
        | succ i ihi =>
          intro hi'
          have he : es[i]? = some es[i] := by simp [show i < es.length by omega]
          have hx := hat i _ he
          rw [st11] at hx
          have a0 := (hi _ _ (flat_at hsz i 0 _ hx (by omega))).2.1
          have a1 := (hi _ _ (flat_at hsz i 1 _ hx (by omega))).2.1
          have a2 := (hi _ _ (flat_at hsz i 2 _ hx (by omega))).2.1
          have a3 := (hi _ _ (flat_at hsz i 3 _ hx (by omega))).2.1
          have a5 := (hi _ _ (flat_at hsz i 5 _ hx (by omega))).2.1
          have a6 := (hi _ _ (flat_at hsz i 6 _ hx (by omega))).2.1
          have a8 := (hi _ _ (flat_at hsz i 8 _ hx (by omega))).2.1
          have hz : SizeOf.sizeOf es[i].body ≤ n ∧ SizeOf.sizeOf es[i].els ≤ n := by
            have := List.sizeOf_lt_of_mem (List.mem_of_getElem? he)
            cases h : es[i] with
            | mk k t ix v c b e => rw [h] at this; simp only [St1.mk.sizeOf_spec] at this; simp only [St1.body, St1.els]; omega
          have a4 := trE _ _ (Nat.le_refl _) (hr _ _ _ (flat_at hsz i 4 _ hx (by omega)))
          have a7 := trE _ _ (Nat.le_refl _) (hr _ _ _ (flat_at hsz i 7 _ hx (by omega)))
          have a9 := ih _ hz.1 (hr _ _ _ (flat_at hsz i 9 _ hx (by omega)))
          have a10 := ih _ hz.2 (hr _ _ _ (flat_at hsz i 10 _ hx (by omega)))
          rw [sum_take1 _ he, ← ihi (by omega), show (i + 1) * 11 = i * 11 + 10 + 1 by omega, pre_succ, show i * 11 + 10 = i * 11 + 9 + 1 by omega, pre_succ, show i * 11 + 9 = i * 11 + 8 + 1 by omega, pre_succ, show i * 11 + 8 = i * 11 + 7 + 1 by omega, pre_succ, show i * 11 + 7 = i * 11 + 6 + 1 by omega, pre_succ, show i * 11 + 6 = i * 11 + 5 + 1 by omega, pre_succ, show i * 11 + 5 = i * 11 + 4 + 1 by omega, pre_succ, show i * 11 + 4 = i * 11 + 3 + 1 by omega, pre_succ, show i * 11 + 3 = i * 11 + 2 + 1 by omega, pre_succ, show i * 11 + 2 = i * 11 + 1 + 1 by omega, pre_succ, show i * 11 + 1 = i * 11 + 0 + 1 by omega, pre_succ]
          simp only [List.length_append]
          simp only [Nat.add_assoc, Nat.add_zero, Nat.reduceAdd] at a0 a1 a2 a3 a4 a5 a6 a7 a8 a9 a10 ⊢
          rw [a0, a1, a2, a3, a5, a6, a8, a4, a7, a9, a10, ctS_k]
          simp only [List.length_singleton]; omega
      have := key es.length (Nat.le_refl _)
      rw [List.take_of_length_le (Nat.le_refl _), ← ctSL_eq] at this
      rw [hlen]; exact this
theorem ctE_le2 : ∀ (n : Nat) (e : Ex), SizeOf.sizeOf e ≤ n → ctE e ≤ 7 * szE e
  | 0, .mk k v ks, h => by simp at h
  | n + 1, .mk k v ks, h => by
    have key : ∀ l : List Ex, (∀ x ∈ l, SizeOf.sizeOf x ≤ n) → ctEL l ≤ 7 * szEL l := fun l => by
      induction l with
      | nil => intro _; simp [ctEL, szEL]
      | cons a r ih =>
        intro hx
        have h1 := ctE_le2 n a (hx a (by simp))
        have h2 := ih fun x hx' => hx x (by simp [hx'])
        simp only [ctEL, szEL]; omega
    simp only [ctE, szE]
    exact key ks fun x hx => by have := List.sizeOf_lt_of_mem hx; simp only [Ex.mk.sizeOf_spec] at h; omega
theorem ctS_le2 : ∀ (n : Nat) (s : St1), SizeOf.sizeOf s ≤ n → ctS s ≤ 7 * szS s
  | 0, .mk k t ix v c b e, h => by simp at h
  | n + 1, .mk k t ix v c b e, h => by
    have key : ∀ l : List St1, (∀ x ∈ l, SizeOf.sizeOf x ≤ n) → ctSL l ≤ 7 * szSL l := fun l => by
      induction l with
      | nil => intro _; simp [ctSL, szSL]
      | cons a r ih =>
        intro hx
        have h1 := ctS_le2 n a (hx a (by simp))
        have h2 := ih fun x hx' => hx x (by simp [hx'])
        simp only [ctSL, szSL]; omega
    simp only [St1.mk.sizeOf_spec] at h
    have h1 := ctE_le2 _ ix (Nat.le_refl _)
    have h2 := ctE_le2 _ v (Nat.le_refl _)
    have h3 := key b fun x hx => by have := List.sizeOf_lt_of_mem hx; omega
    have h4 := key e fun x hx => by have := List.sizeOf_lt_of_mem hx; omega
    simp only [ctS, szS]; omega
theorem ctSL_le2 : ∀ l : List St1, ctSL l ≤ 7 * szSL l
  | [] => by simp [ctSL, szSL]
  | a :: r => by
    have h1 := ctS_le2 _ a (Nat.le_refl _)
    have h2 := ctSL_le2 r
    simp only [ctSL, szSL]; omega
theorem op_len {w : World} {lo : Nat} {g : Value} {q : Pg} {B : List Nat} {A : List Addr} (h : OP w lo g q B A) : A.length ≤ 7 * szP q := by
  obtain ⟨⟨a0, n0, c0, a1, n1, c1, a2, n2, c2, B0, A0, B1, A1, B2, A2, rfl, rfl, rfl, h0, h1, h2⟩, _⟩ := h
  have e0 := trI h0
  have e1 := trI h1
  have e2 := trS _ _ (Nat.le_refl _) h2
  have := ctSL_le2 q.body
  simp only [List.length_append, szP]; omega
/-! What a slice keeps is no larger. -/
theorem szSL_cut (q : Nat → Bool) (nv : Nat) : ∀ (d : Nat) (l : List St1), szSL (cutL q nv d l) ≤ szSL l
  | 0, l => by simp [cutL, szSL]
  | d + 1, l => by
    simp only [cutL]
    induction l with
    | nil => simp [szSL]
    | cons a r ih =>
      have one : ∀ a', CtD.cutS q nv (cutL q nv d) a = some a' → szS a' ≤ szS a := fun a' ha => by
        obtain ⟨k, t, ix, v, c, b, e⟩ := a
        have hb := szSL_cut q nv d b
        have he := szSL_cut q nv d e
        simp only [CtD.cutS] at ha
        repeat' split at ha
        all_goals first
          | cases ha; done
          | (cases ha; exact Nat.le_refl _)
          | (cases ha; simp only [szS]; omega)
      rw [List.filterMap_cons]
      split
      · simp only [szSL]; omega
      · rename_i a' ha
        have := one a' ha
        simp only [szSL]; omega
theorem szP_sl (p : Pg) (q : Nat → Bool) : szP (slP p q) ≤ szP p := by
  have := szSL_cut q p.vars.length 5 p.body
  simp only [szP, slP]; omega
/-! Bounds. -/
theorem nbE {e : Ex} (h : ExN e) : NB 3 (Ex.cellsL e.kids) := by
  induction h with
  | mk k v ks h hk ih =>
    simp only [Ex.kids, Ex.cellsL_eq]
    have hm : ∀ c ∈ (ks.map Ex.cells).flatten, ∃ e ∈ ks, c = I64 e.kind ∨ c = I64 e.value ∨ c = .isl 3 (Ex.cellsL e.kids) := fun c hc => by
      obtain ⟨x, hx, hc⟩ := List.mem_flatten.1 hc
      obtain ⟨e, he, rfl⟩ := List.mem_map.1 hx
      rw [ex3] at hc
      exact ⟨e, he, by simpa using hc⟩
    refine .mk _ _ (by simpa using h) (fun x hx => by obtain ⟨e, _, rfl⟩ := List.mem_map.1 hx; rw [ex3]; rfl) (fun c hc => ?_) (fun n l hc => ?_)
    · obtain ⟨e, he, rfl | rfl | rfl⟩ := hm c hc
      · exact .inl ⟨_, rfl, rfl⟩
      · exact .inl ⟨_, rfl, rfl⟩
      · exact .inr ⟨_, _, rfl⟩
    · obtain ⟨e, he, h1 | h1 | h1⟩ := hm _ hc
      · cases h1
      · cases h1
      · cases h1; exact ih e he
theorem nbS_of {l : List St1} (h : l.length ≤ 1048576) (hx : ∀ s ∈ l, NB 3 (Ex.cellsL s.index.kids) ∧ NB 3 (Ex.cellsL s.value.kids) ∧ NB 11 (St1.cellsL s.body) ∧ NB 11 (St1.cellsL s.els)) : NB 11 (St1.cellsL l) := by
  rw [St1.cellsL_eq]
  have hm : ∀ c ∈ (l.map St1.cells).flatten, ∃ s ∈ l, (∃ z, c = I64 z) ∨ c = .isl 3 (Ex.cellsL s.index.kids) ∨ c = .isl 3 (Ex.cellsL s.value.kids) ∨ c = .isl 11 (St1.cellsL s.body) ∨ c = .isl 11 (St1.cellsL s.els) := fun c hc => by
    obtain ⟨x, hx, hc⟩ := List.mem_flatten.1 hc
    obtain ⟨s, hs, rfl⟩ := List.mem_map.1 hx
    rw [st11] at hc
    simp only [List.mem_cons, List.not_mem_nil, or_false] at hc
    refine ⟨s, hs, ?_⟩
    rcases hc with h | h | h | h | h | h | h | h | h | h | h
    · exact .inl ⟨_, h⟩
    · exact .inl ⟨_, h⟩
    · exact .inl ⟨_, h⟩
    · exact .inl ⟨_, h⟩
    · exact .inr (.inl h)
    · exact .inl ⟨_, h⟩
    · exact .inl ⟨_, h⟩
    · exact .inr (.inr (.inl h))
    · exact .inl ⟨_, h⟩
    · exact .inr (.inr (.inr (.inl h)))
    · exact .inr (.inr (.inr (.inr h)))
  refine .mk _ _ (by simpa using h) (fun x hx => by obtain ⟨s, _, rfl⟩ := List.mem_map.1 hx; rw [st11]; rfl) (fun c hc => ?_) (fun n k hc => ?_)
  · obtain ⟨s, hs, ⟨z, rfl⟩ | rfl | rfl | rfl | rfl⟩ := hm c hc
    · exact .inl ⟨_, rfl, rfl⟩
    · exact .inr ⟨_, _, rfl⟩
    · exact .inr ⟨_, _, rfl⟩
    · exact .inr ⟨_, _, rfl⟩
    · exact .inr ⟨_, _, rfl⟩
  · obtain ⟨s, hs, ⟨z, h1⟩ | h1 | h1 | h1 | h1⟩ := hm _ hc
    · cases h1
    · cases h1; exact (hx s hs).1
    · cases h1; exact (hx s hs).2.1
    · cases h1; exact (hx s hs).2.2.1
    · cases h1; exact (hx s hs).2.2.2
theorem nbS {s : St1} (h : StN s) : NB 3 (Ex.cellsL s.index.kids) ∧ NB 3 (Ex.cellsL s.value.kids) ∧ NB 11 (St1.cellsL s.body) ∧ NB 11 (St1.cellsL s.els) := by
  induction h with
  | mk k t ix v c b e h1 h2 h3 h4 h5 h6 ih5 ih6 => exact ⟨nbE h1, nbE h2, nbS_of h3 ih5, nbS_of h4 ih6⟩
theorem nbp_of {p : Pg} (h : szP p ≤ 1048576) : NBp p := by
  have hn := pgN_of h
  exact ⟨hn.nv, hn.na, nbS_of hn.nb fun s hs => nbS (hn.st s hs)⟩
theorem exB_of {e : Ex} (h : ExN e) : ExB e := by
  induction h with
  | mk k v ks h hk ih => exact .mk k v ks (by have := mx_eq; omega) ih
theorem stB_of {s : St1} (h : StN s) : StB s := by
  induction h with
  | mk k t ix v c b e h1 h2 h3 h4 h5 h6 ih5 ih6 => exact .mk k t ix v c b e (exB_of h1) (exB_of h2) (by have := mx_eq; omega) (by have := mx_eq; omega) ih5 ih6
theorem pgB_of {p : Pg} (h : szP p ≤ 1048576) : PgB p := by
  have hn := pgN_of h
  have := mx_eq
  have h1 := hn.nv
  have h2 := hn.na
  have h3 := hn.nb
  exact ⟨by omega, by omega, by omega, fun s hs => stB_of (hn.st s hs)⟩
/-! The answer. -/
def SR (p : Pg) (ws : List Bool) (q : Pg) (o : Bool) : Prop :=
  ((progOK p && decide (ws.length = p.vars.length + p.arrays.length)) = true ∧ ∃ s, Least p ws s ∧ q = slP p s ∧ o = true) ∨ ((progOK p && decide (ws.length = p.vars.length + p.arrays.length)) = false ∧ q = ⟨[], [], []⟩ ∧ o = false)
theorem SR.eq {p : Pg} {ws : List Bool} {q q' : Pg} {o o' : Bool} (h : SR p ws q o) (h' : SR p ws q' o') : q = q' ∧ o = o' := by
  rcases h with ⟨h1, s, hs, rfl, rfl⟩ | ⟨h1, rfl, rfl⟩ <;> rcases h' with ⟨h1', s', hs', rfl, rfl⟩ | ⟨h1', rfl, rfl⟩
  · rw [hs.eq hs']; exact ⟨rfl, rfl⟩
  · rw [h1] at h1'; cases h1'
  · rw [h1] at h1'; cases h1'
  · exact ⟨rfl, rfl⟩
theorem SR.sz {p : Pg} {ws : List Bool} {q : Pg} {o : Bool} (h : SR p ws q o) : szP q ≤ szP p := by
  rcases h with ⟨h1, s, hs, rfl, rfl⟩ | ⟨h1, rfl, rfl⟩
  · exact szP_sl p s
  · simp [szP, szSL]
end Go.Proofs.Ytlapccpnilomfaa.CtT

namespace Go.Proofs.Ytlapccpnilomfaa.CtT
open Go Go.CT Go.RowKit CtF CtR CtD

theorem rds1 [Yn] {I : Nat → Prop} {w : World} {s : Sg} {v : Value} {d : D} (h : RD I w s v d) : RDs I w s #[v] [d] := ⟨rfl, fun j h1 h2 => by
  match j, h1 with
  | 0, _ => exact h⟩
theorem rds2 [Yn] {I : Nat → Prop} {w : World} {s : Sg} {v v1 : Value} {d d1 : D} (h : RD I w s v d) (h' : RD I w s v1 d1) : RDs I w s #[v, v1] [d, d1] := ⟨rfl, fun j h1 h2 => by
  match j, h1 with
  | 0, _ => exact h
  | 1, _ => exact h'⟩
theorem rds3 [Yn] {I : Nat → Prop} {w : World} {s : Sg} {v v1 v2 : Value} {d d1 d2 : D} (h : RD I w s v d) (h' : RD I w s v1 d1) (h'' : RD I w s v2 d2) : RDs I w s #[v, v1, v2] [d, d1, d2] := ⟨rfl, fun j h1 h2 => by
  match j, h1 with
  | 0, _ => exact h
  | 1, _ => exact h'
  | 2, _ => exact h''⟩
theorem rd_tup2 [Yn] {I : Nat → Prop} {w : World} {s : Sg} {x : Value} {a b : D} (h : RD I w s x (.tup [a, b])) : ∃ u v, x = .tuple #[u, v] ∧ RD I w s u a ∧ RD I w s v b := by
  cases h with
  | tup vs _ hl hr =>
    have hs : vs.size = 2 := hl
    refine ⟨vs[0], vs[1], ?_, hr 0 (by omega) (by simp), hr 1 (by omega) (by simp)⟩
    congr 1
    apply Array.ext
    · simp [hs]
    · intro i h1 h2
      match i, h1 with
      | 0, _ => rfl
      | 1, _ => rfl
theorem rd_c [Yn] {I : Nat → Prop} {w : World} {s : Sg} {x : Value} {c : C} (h : RD I w s x (.c c)) : RC I w s x c := by cases h with | c _ _ h => exact h
/-- A contract for plain data, as a walk. -/
theorem callsR {P : Program} {F : FuncId} {args : List D} {R : D → List (Option (List C)) → Prop} {w : World} {vs : Array Value} (hD : @DC (ynAt w) P F args [] R) (hv : ∀ s, @RDs (ynAt w) (fun b => b < w.heap.size) w s vs args) :
    Calls P F vs w fun e w' => ∃ (x : Value) (I' : Nat → Prop) (s' : Sg) (d : D) (h' : List (Option (List C))), e = .returned x ∧ R d h' ∧ @RD (ynAt w) I' w' s' x d ∧ (∀ b, I' b → b < w'.heap.size) ∧ (∀ b, I' b → w.heap.size ≤ b → ∃ arr T, w'.heap[b]? = some (.cells arr T (0, 0))) ∧ Below w.heap.size w w' := by
  letI : Yn := ynAt w
  exact (hD (fun b => b < w.heap.size) w (fun _ => none) vs ⟨fun _ _ => rfl, fun k cs hk => by simp [hpL] at hk, fun k k' b cs cs' hk => by simp [hpL] at hk, fun b hb => hb, ⟨Nat.le_refl _, fun b ⟨k, cs, hk, _⟩ => by simp [hpL] at hk, fun b _ => rfl⟩, fun b hb hn => absurd hb (Nat.not_lt.2 hn)⟩ (hv _)).mono fun e w' ⟨x, I', s', d, h', he, hd, hrd, hS, hE, _⟩ =>
    ⟨x, I', s', d, h', he, hd, hrd, hS.imm, hS.wri, hE.os, hE.tape, hE.output, hE.size, fun k hk => hE.same k hk fun ⟨j, cs, hj, _⟩ => by simp [hpL] at hj⟩

section
variable {p : Pg} {ws : List Bool}
theorem c_valid (hs : szP p ≤ 1048576) (w : World) (v : Value) (h : PP w v p) : Calls Try.prog 23 #[v] w fun e w' => e = .returned (.bool (progOK p)) ∧ Below w.heap.size w w' := by
  letI : Yn := ynAt w
  have hn := nbp_of hs
  have := mx_eq
  have h1 := hn.nv
  have h2 := hn.na
  exact DC.calls (@programValidI (ynAt w) p (by omega) (by omega)) fun s => rds1 (h.rd hn s)
theorem c_cells (hs : szP p ≤ 1048576) (w : World) (v : Value) (h : PP w v p) : Calls Try.prog 24 #[v] w fun e w' => e = .returned (.int .i64 ((p.vars.length + p.arrays.length : Nat) : Int)) ∧ Below w.heap.size w w' := by
  letI : Yn := ynAt w
  have hn := nbp_of hs
  have := mx_eq
  have h1 := hn.nv
  have h2 := hn.na
  exact DC.calls (@cellsI (ynAt w) p (by omega) (by omega)) fun s => rds1 (h.rd hn s)
theorem c_truth (b : Bool) (w : World) : Calls Try.prog 25 #[.bool b] w fun e w' => e = .returned (.int .i64 (if b then 1 else 0)) ∧ Below w.heap.size w w' :=
  DC.calls (@truth (ynAt w) b) fun s => @rds1 (ynAt w) _ _ _ _ _ (@rd_bool (ynAt w) _ _ _ b)
theorem c_sz (hs : szP p ≤ 1048576) (w : World) (v : Value) (h : PP w v p) : Calls Try.prog 4 #[v, .int .i64 1048576] w fun e w' => ∃ L : Int, e = .returned (.int .i64 L) ∧ 0 ≤ L ∧ Below w.heap.size w w' := by
  letI : Yn := ynAt w
  have hz := @szProgram_c (ynAt w) p (pgB_of hs) 1048576 (by omega) (by omega)
  rw [subZ, if_pos (by omega)] at hz
  refine (DC.calls hz fun s => rds2 (h.rd (nbp_of hs) s) (rd_int _ _)).mono ?_
  rintro e w' ⟨rfl, hb⟩
  exact ⟨_, rfl, by omega, hb⟩
theorem c_eq {q : Pg} (hs : szP q ≤ 1048576) (w : World) (a b : Value) (ha : PP w a q) (hb : PP w b q) : Calls Try.prog 9 #[a, b] w fun e w' => e = .returned (.bool true) ∧ Below w.heap.size w w' := by
  letI : Yn := ynAt w
  exact DC.calls (@eqProgram_c (ynAt w) q (pgB_of hs)) fun s => rds2 (ha.rd (nbp_of hs) s) (hb.rd (nbp_of hs) s)
theorem c_eqb (hw : ws.length ≤ 1048576) (w : World) (a b : Value) (ha : PL w a 1 (BL ws)) (hb : PL w b 1 (BL ws)) : Calls Try.prog 10 #[a, b] w fun e w' => e = .returned (.bool true) ∧ Below w.heap.size w w' := by
  letI : Yn := ynAt w
  have := mx_eq
  exact DC.calls (@eqBoolST (ynAt w) ws (by omega)) fun s => rds2 (.c _ _ ((nb_bools hw).rc ha s)) (.c _ _ ((nb_bools hw).rc hb s))
theorem c_slice (hs : szP p ≤ 1048576) (hok : progOK p = true) (N : Nat) (hN : N < 16384) (w : World) (v v2 : Value) (h : PP w v p) (h2 : PL w v2 11 (St1.cellsL p.body)) (hNB : NB 11 (St1.cellsL (cutL N.testBit p.vars.length 5 p.body))) :
    Calls Try.prog 26 #[v, v2, .int .i64 N] w fun e w' => ∃ a n c, e = .returned (.tuple #[.slice a n c, .int .i64 ((setN N.testBit p.vars.length 5 p.body : Nat) : Int)]) ∧ PL w' (.slice a n c) 11 (St1.cellsL (cutL N.testBit p.vars.length 5 p.body)) ∧ Below w.heap.size w w' := by
  letI : Yn := ynAt w
  have hn := nbp_of hs
  have hl := prog_len hok
  have hbo := body_of hok
  refine (callsR (@sliceI (ynAt w) p (by omega) N hN 5 p.body hbo.1 (by have := hbo.2; omega)) fun s => rds3 (h.rd hn s) (.c _ _ (hn.nb.rc h2 s)) (rd_int _ _)).mono ?_
  rintro e w' ⟨x, I', s', d, h', rfl, ⟨rfl, rfl⟩, hrd, hI, _, hb⟩
  obtain ⟨u, z, rfl, r1, r2⟩ := rd_tup2 hrd
  have hp := hNB.pl hI (rd_c r1)
  obtain ⟨a, n, c, rfl⟩ := hp.sl
  obtain ⟨rfl, _⟩ := rd_scalar r2
  exact ⟨a, n, c, rfl, hp, hb⟩
theorem c_to (hs : szP p ≤ 1048576) (w : World) (v : Value) (h : PP w v p) : Calls Try.prog 6 #[v] w fun e w' => ∃ g, e = .returned g ∧ PP w' g p ∧ (∀ wx, Below w'.heap.size w' wx → Calls Try.prog 11 #[g, .int .i64 1] wx fun e w2 => ∃ k : Int, e = .returned (.int .i64 k) ∧ 0 ≤ k ∧ k ≤ 100000000 ∧ MB w.heap.size w'.heap.size wx w2) ∧ Below w.heap.size w w' := by
  letI : Yn := ynAt w
  have hn := nbp_of hs
  have np := pgN_of hs
  refine (callsR (@toProgram_y (ynAt w) p np) fun s => rds1 (h.rd hn s)).mono ?_
  rintro e w' ⟨x, I', s', d, h', rfl, ⟨rfl, rfl⟩, hrd, hI, hW, hb⟩
  refine ⟨x, rfl, PP.of hn hI (hrd.er (.agg (cyP_co true p))), fun wx hx => ?_, hb⟩
  have hy := hrd.yt (.agg (cyP_yt p))
  have hk : Keeps (fun b => I' b ∧ Yn.n ≤ b) w' wx := fun b hb => hx.block b (hI b hb.1)
  have hy2 := @RD.mono ⟨0, fun _ => none⟩ _ _ _ _ (fun b hb => hb) hk (@shp_below ⟨0, fun _ => none⟩ _ _ hx) _ _ (Sg.le_refl _) _ _ hy
  have hct := ctSL_le2 p.body
  unfold szP at hs
  refine (@markProgramW ⟨0, fun _ => none⟩ rfl p np.nv np.na np.nb np.st 1 (by omega) (by omega) (fun b => I' b ∧ Yn.n ≤ b) wx #[x, .int .i64 1] (fun b hb => Nat.lt_of_lt_of_le (hI b hb.1) hx.size) (fun b hb => ?_) (@rds2 ⟨0, fun _ => none⟩ _ _ _ _ _ _ _ hy2 (@rd_int ⟨0, fun _ => none⟩ _ _ _ _ _))).mono ?_
  · obtain ⟨arr, T, e⟩ := hW b hb.1 hb.2
    exact ⟨arr, T, (hk b hb).trans e⟩
  · rintro e w2 ⟨n, rfl, rfl, M⟩
    refine ⟨_, rfl, by omega, by omega, M.os, M.tape, M.output, M.size, fun b hb1 hb2 => M.same b hb1 fun q => ?_⟩
    have q1 := hI b q.1
    have q2 : w.heap.size ≤ b := q.2
    omega
theorem c_spec (hs : szP p ≤ 1048576) (hw : ws.length ≤ 1048576) (w : World) (v v1 : Value) (h : PP w v p) (h1 : PL w v1 1 (BL ws)) : Calls Try.prog 5 #[v, v1] w fun e w' => ∃ g o q, e = .returned (.tuple #[g, .bool o]) ∧ SR p ws q o ∧ PP w' g q ∧ Below w.heap.size w w' := by
  letI : Yn := ynAt w
  have hn := nbp_of hs
  have := mx_eq
  have n1 := hn.nv
  have n2 := hn.na
  have n3 := lsize_le 5 p.body
  have n4 : szSL p.body ≤ szP p := by unfold szP; omega
  refine (callsR (@sliceProgS (ynAt w) p ws (by omega) (by omega) (by omega) hw) fun s => rds2 (h.rd hn s) (.c _ _ ((nb_bools hw).rc h1 s))).mono ?_
  rintro e w' ⟨x, I', s', d, h', rfl, ⟨rfl, ⟨hc, s, hS, rfl⟩ | ⟨hc, rfl⟩⟩, hrd, hI, _, hb⟩
  · obtain ⟨u, z, rfl, r1, r2⟩ := rd_tup2 hrd
    obtain ⟨rfl, _⟩ := rd_scalar r2
    have hR : SR p ws (slP p s) true := .inl ⟨hc, s, hS, rfl, rfl⟩
    exact ⟨u, _, _, rfl, hR, PP.of (nbp_of (Nat.le_trans hR.sz hs)) hI r1, hb⟩
  · obtain ⟨u, z, rfl, r1, r2⟩ := rd_tup2 hrd
    obtain ⟨rfl, _⟩ := rd_scalar r2
    have hR : SR p ws ⟨[], [], []⟩ false := .inr ⟨hc, rfl, rfl⟩
    exact ⟨u, _, _, rfl, hR, PP.of (nbp_of (Nat.le_trans hR.sz hs)) hI r1, hb⟩
theorem nb_cut (hs : szP p ≤ 1048576) (s : Nat → Bool) : NB 11 (St1.cellsL (cutL s p.vars.length 5 p.body)) := by
  letI : Yn := ⟨0, fun _ => none⟩
  exact (nbp_of (p := slP p s) (Nat.le_trans (szP_sl p s) hs)).nb
theorem c_impl (hs : szP p ≤ 1048576) (hw : ws.length ≤ 1048576) (w : World) (v v1 : Value) (h : PP w v p) (h1 : PL w v1 1 (BL ws)) : Calls Try.prog 8 #[v, v1] w fun e w' => ∃ g o q B A, e = .returned (.tuple #[g, .bool o]) ∧ SR p ws q o ∧ OP w' w.heap.size g q B A ∧ Below w.heap.size w w' := by
  letI : Yn := ⟨0, fun _ => none⟩
  have hn := nbp_of hs
  have n1 := hn.nv
  have n2 := hn.na
  cases hok : progOK p with
  | false =>
    have hv := c_valid hs
    rw [hok] at hv
    exact sliceR p hn ws hw false (p.vars.length + p.arrays.length) (fun _ => []) (fun _ => 0) (accN ws) (fun _ => False) (SR p ws) (fun _ => nbS_of (by simp) (by simp)) (fun _ => by omega) (fun h => by cases h) (by omega)
      hv (c_cells hs) c_truth (fun h => by cases h) rfl (fun _ => rfl) (accN_lt ws) (fun h => by cases h) (fun _ h => h.elim) (fun _ h => h.elim) (fun _ h => h.elim) (fun _ => .inr ⟨by rw [hok]; rfl, rfl, rfl⟩) h h1
  | true =>
    have hv := c_valid hs
    rw [hok] at hv
    have hl := prog_len hok
    have hset := fun q => setN_le p hok q
    refine sliceR p hn ws hw true (p.vars.length + p.arrays.length) (fun N => cutL N.testBit p.vars.length 5 p.body) (fun N => setN N.testBit p.vars.length 5 p.body) (accN ws)
      (fun N => N < 16384 ∧ ws.length = p.vars.length + p.arrays.length ∧ (∀ i, ws.getD i false = true → N.testBit i = true) ∧ (∀ q' : Nat → Bool, (∀ i, ws.getD i false = true → q' i = true) → subB (setN q' p.vars.length 5 p.body) q' → leB N.testBit q')) (SR p ws)
      (fun N => nb_cut hs _) (fun N => hset _) (fun _ => by omega) (by omega) hv (c_cells hs) c_truth (fun _ _ N hN w v v2 g g2 => c_slice hs hok N hN w v v2 g g2 (nb_cut hs _)) rfl (fun _ => rfl) (accN_lt ws)
      (fun _ hlen => ⟨accN_lt ws _ (by omega), hlen, fun i hi => ?_, fun q' a b i hi => ?_⟩) (fun N hN => hN.1) (fun N hN hne => ⟨?_, hN.2.1, fun i hi => by rw [Nat.testBit_or, hN.2.2.1 i hi, Bool.true_or], fun q' a b => subB_or.2 ⟨hN.2.2.2 q' a b, (cut_mono p.vars.length (hN.2.2.2 q' a b) 5 p.body).2 q' b⟩⟩)
      (fun N hN heq => .inl ⟨by rw [hok, hN.2.1]; simp, N.testBit, ⟨hN.2.2.1, fun i hi => by rw [← heq, Nat.testBit_or, hi, Bool.or_true], hN.2.2.2⟩, rfl, rfl⟩) (fun hb => .inr ⟨?_, rfl, rfl⟩) h h1
    · have hlt : i < ws.length := by
        rcases Nat.lt_or_ge i ws.length with h | h
        · exact h
        · rw [List.getD_eq_getElem?_getD, List.getElem?_eq_none h] at hi; cases hi
      rw [accN_bit, hi]; simp [hlt]
    · rw [accN_bit, Bool.and_eq_true] at hi
      exact a i hi.2
    · exact or_lt hN.1 (hset _)
    · rcases hb with hb | hb
      · cases hb
      · rw [hok]; simp [hb]
end
/-- The law, where it asks anything. -/
theorem lawA (p : Pg) (ws : List Bool) (hs : szP p ≤ 1048576) (hw : ws.length ≤ 1048576) : LW Try.prog 3 [.agg p.cells, .c (boolsD ws)] := fun w vs hvs => by
  letI : Yn := ynAt w
  have hn := nbp_of hs
  obtain ⟨hl, hr⟩ := hvs Sg0
  have hl : vs.size = 2 := hl
  have r0 := hr 0 (by omega) (by simp)
  have r1 := hr 1 (by omega) (by simp)
  have e : vs = #[vs[0], vs[1]] := by
    apply Array.ext
    · simp [hl]
    · intro i h1 h2
      match i, h1 with
      | 0, _ => rfl
      | 1, _ => rfl
  rw [e]
  exact lawR p ws hw (SR p ws) hn (fun q o h => nbp_of (Nat.le_trans h.sz hs)) (fun q o q' o' h h' => h.eq h') (fun q o w lo g B A h hO => by have := op_len hO; have := h.sz; omega)
    (c_sz hs) (c_to hs) (c_spec hs hw) (c_impl hs hw) (fun w a b => c_eq hs w a b) (fun q o w a b h => c_eq (Nat.le_trans h.sz hs) w a b) (c_eqb hw)
    (PP.of hn (fun b hb => hb) r0) ((nb_bools hw).pl (fun b hb => hb) (rd_c r1))
end Go.Proofs.Ytlapccpnilomfaa.CtT
