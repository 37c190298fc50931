/- Contracts of functions, in keys of their own; what they say in the keys of a caller. -/
import Derived.Test.YtknihhjejbljgaaCtL
set_option linter.unusedVariables false
set_option linter.unusedSimpArgs false
namespace Go.CT

mutual
def renC (r : Nat → Nat) : C → C
  | .v x => .v x
  | .isl sz xs => .isl sz xs
  | .msl k sz off len => .msl (r k) sz off len
  | .ptr k off => .ptr (r k) off
  | .eptr cs => .eptr cs
  | .clo f caps => .clo f (renCs r caps)
  | .z => .z
  | .unk => .unk
def renCs (r : Nat → Nat) : List C → List C
  | [] => []
  | c :: cs => renC r c :: renCs r cs
end

mutual
def renD (r : Nat → Nat) : D → D
  | .c x => .c (renC r x)
  | .agg cs => .agg (renCs r cs)
  | .tup ds => .tup (renDs r ds)
  | .when b d => .when b (renD r d)
def renDs (r : Nat → Nat) : List D → List D
  | [] => []
  | d :: ds => renD r d :: renDs r ds
end

theorem renCs_eq (r : Nat → Nat) : ∀ cs : List C, renCs r cs = cs.map (renC r)
  | [] => rfl
  | c :: cs => by simp only [renCs, List.map_cons, renCs_eq r cs]
theorem renDs_eq (r : Nat → Nat) : ∀ ds : List D, renDs r ds = ds.map (renD r)
  | [] => rfl
  | d :: ds => by simp only [renDs, List.map_cons, renDs_eq r ds]

section
variable {I : Nat → Prop} {w : World}

/-- From the callee's keys to the caller's. -/
theorem RC.ren {r : Nat → Nat} {s : Sg} {x : Value} {c : C} (h : RC I w s x c) : ∀ {s' : Sg}, (∀ k y, s k = some y → s' (r k) = some y) → RC I w s' x (renC r c) := by
  induction h with
  | v s x h1 => exact fun _ => .v _ x h1
  | unk s x h1 => exact fun _ => .unk _ x h1
  | z s a => exact fun _ => .z _ a
  | isl0 s a cap sz => exact fun _ => .isl0 _ a cap sz
  | isl s b off cap sz xs y hIb hl hc hr hcap ih => exact fun _ => .isl _ b off cap sz xs y hIb hl hc hr hcap
  | msl0 s a k sz h => exact fun hle => .msl0 _ a (r k) sz (hle _ _ h)
  | msl s k b sz off len cap arr T fr h hlen hb hcap => exact fun hle => .msl _ (r k) b sz off len cap arr T fr (hle _ _ h) hlen hb hcap
  | ptr s k b off h => exact fun hle => .ptr _ (r k) b off (hle _ _ h)
  | eptr s b off cs y hIb hc hr ih => exact fun _ => .eptr _ b off cs y hIb hc hr
  | clo s f caps vs hl hr ih =>
    intro s' hle
    simp only [renC]
    refine .clo _ f _ vs (by rw [renCs_eq]; simpa using hl) fun j h h' => ?_
    have h2 : j < caps.length := by omega
    have := ih j h h2 hle
    simpa [renCs_eq] using this

theorem RD.ren {r : Nat → Nat} {s s' : Sg} (hle : ∀ k y, s k = some y → s' (r k) = some y) {x : Value} {d : D} (h : RD I w s x d) : RD I w s' x (renD r d) := by
  induction h with
  | c x c h => exact .c _ _ (h.ren hle)
  | agg vs cs hl hr =>
    simp only [renD]
    refine .agg vs _ (by rw [renCs_eq]; simpa using hl) fun j h h' => ?_
    have := (hr j h (by omega)).ren hle
    simpa [renCs_eq] using this
  | tup vs ds hl hr ih =>
    simp only [renD]
    refine .tup vs _ (by rw [renDs_eq]; simpa using hl) fun j h h' => ?_
    have := ih j h (by omega)
    simpa [renDs_eq] using this
  | when x b d h h0 ih => exact .when x b _ (fun hb => ih hb) h0

theorem RC.isl_any {s : Sg} {x : Value} {sz : Nat} {xs : List (List C)} (h : RC I w s x (.isl sz xs)) (s' : Sg) : RC I w s' x (.isl sz xs) := by
  cases h with
  | isl0 _ a cap _ => exact .isl0 _ a cap sz
  | isl _ b off cap _ _ y hI hl hc hr hcap => exact .isl _ b off cap sz xs y hI hl hc hr hcap

mutual
/-- From the caller's keys to the callee's. -/
theorem RC.unren {r : Nat → Nat} {s s' : Sg} (hle : ∀ k y, s (r k) = some y → s' k = some y) : ∀ (c : C) {x : Value}, RC I w s x (renC r c) → RC I w s' x c
  | .v y, x, h => by
    simp only [renC] at h
    cases h with | v _ _ h1 => exact .v _ _ h1
  | .unk, x, h => by
    simp only [renC] at h
    cases h with | unk _ _ h1 => exact .unk _ _ h1
  | .z, x, h => by
    simp only [renC] at h
    cases h with | z _ a => exact .z _ a
  | .isl sz xs, x, h => by
    simp only [renC] at h
    exact h.isl_any s'
  | .msl k sz off len, x, h => by
    simp only [renC] at h
    cases h with
    | msl0 _ a _ _ h => exact .msl0 _ a k sz (hle _ _ h)
    | msl _ _ b _ _ _ cap arr T fr h hlen hb hcap => exact .msl _ k b sz off len cap arr T fr (hle _ _ h) hlen hb hcap
  | .ptr k off, x, h => by
    simp only [renC] at h
    cases h with | ptr _ _ b _ h => exact .ptr _ k b off (hle _ _ h)
  | .eptr cs, x, h => by
    simp only [renC] at h
    cases h with | eptr _ b off _ y hIb hc hr => exact .eptr _ b off cs y hIb hc hr
  | .clo f caps, x, h => by
    simp only [renC] at h
    cases h with
    | clo _ _ _ vs hl hr =>
      have hl' : vs.size = caps.length := by rw [renCs_eq] at hl; simpa using hl
      exact .clo _ f caps vs hl' (RCs.unren hle caps vs.toList (by simpa using hl') (fun j h1 h2 => by
        have := hr j (by simpa using h1) (by rw [renCs_eq]; simpa using h2)
        simpa [renCs_eq] using this))
theorem RCs.unren {r : Nat → Nat} {s s' : Sg} (hle : ∀ k y, s (r k) = some y → s' k = some y) : ∀ (cs : List C) (vs : List Value), vs.length = cs.length → (∀ j (h : j < vs.length) (h' : j < cs.length), RC I w s vs[j] (renC r cs[j])) →
    ∀ j (h : j < vs.toArray.size) (h' : j < cs.length), RC I w s' vs.toArray[j] cs[j]
  | [], vs, hl, hr => fun j h h' => by simp at h'
  | c :: cs, [], hl, hr => by simp at hl
  | c :: cs, v :: vs, hl, hr => fun j h h' => by
    cases j with
    | zero => exact RC.unren hle c (hr 0 (by simp) (by simp))
    | succ j =>
      exact RCs.unren hle cs vs (by simpa using hl) (fun i h1 h2 => hr (i + 1) (by simpa using h1) (by simpa using h2)) j (by simpa using h) (by simpa using h')
end

def RDs (I : Nat → Prop) (w : World) (s : Sg) (vs : Array Value) (ds : List D) : Prop := vs.size = ds.length ∧ ∀ j (h : j < vs.size) (h' : j < ds.length), RD I w s vs[j] ds[j]

theorem RD.unrenC {r : Nat → Nat} {s s' : Sg} (hle : ∀ k y, s (r k) = some y → s' k = some y) {x : Value} {d : D} (h : RD I w s x (renD r d)) : ∀ (n : Nat), SizeOf.sizeOf d < n → RD I w s' x d := by
  intro n
  induction n generalizing x d with
  | zero => intro hn; omega
  | succ n ih =>
    intro hn
    cases d with
    | c c =>
      simp only [renD] at h
      cases h with | c _ _ h => exact .c _ _ (RC.unren hle c h)
    | agg cs =>
      simp only [renD] at h
      cases h with
      | agg vs _ hl hr =>
        have hl' : vs.size = cs.length := by rw [renCs_eq] at hl; simpa using hl
        refine .agg vs cs hl' fun j h1 h2 => ?_
        have := hr j h1 (by rw [renCs_eq]; simpa using h2)
        exact RC.unren hle _ (by simpa [renCs_eq] using this)
    | tup ds =>
      simp only [renD] at h
      cases h with
      | tup vs _ hl hr =>
        have hl' : vs.size = ds.length := by rw [renDs_eq] at hl; simpa using hl
        refine .tup vs ds hl' fun j h1 h2 => ?_
        have := hr j h1 (by rw [renDs_eq]; simpa using h2)
        have hs : SizeOf.sizeOf ds[j] < SizeOf.sizeOf ds := List.sizeOf_lt_of_mem (List.getElem_mem h2)
        simp only [D.tup.sizeOf_spec] at hn
        exact ih (by simpa [renDs_eq] using this) (by omega)
    | when b d =>
      simp only [renD] at h
      cases h with
      | when _ _ _ h h0 =>
        simp only [D.when.sizeOf_spec] at hn
        exact .when x b d (fun hb => ih (h hb) (by omega)) h0

theorem RDs.unren {r : Nat → Nat} {s s' : Sg} (hle : ∀ k y, s (r k) = some y → s' k = some y) {vs : Array Value} {ds : List D} (h : RDs I w s vs (ds.map (renD r))) : RDs I w s' vs ds := by
  have hl : vs.size = ds.length := by simpa using h.1
  refine ⟨hl, fun j h1 h2 => ?_⟩
  have := h.2 j h1 (by simpa using h2)
  exact RD.unrenC hle (by simpa using this) _ (Nat.lt_succ_self _)

end

/-- A list of blocks as a heap: the keys are the places. -/
def hpL (h : List (Option (List C))) : Hp := fun k => h[k]?

/-- THE CONTRACT of a function: called with arguments that read as 'args', where the blocks 'h' are its to use: it returns, and what it returns and the blocks then (those it had, then new ones) are related by R; all else that was there is as it was. -/
def DC (P : Program) (F : FuncId) (args : List D) (h : List (Option (List C))) (R : D → List (Option (List C)) → Prop) : Prop :=
  ∀ I w s vs, SimH I w s (hpL h) → RDs I w s vs args → Calls P F vs w fun e w' => ∃ v I' s' d h', e = .returned v ∧ R d h' ∧ RD I' w' s' v d ∧ SimH I' w' s' (hpL h') ∧
    Ext h.length I w s (hpL h) I' w' s' (hpL h') ∧ h.length ≤ h'.length

/-- What a function leaves, in the caller's keys: 'ks' are the caller's names of the blocks that it handed over, 'b' the first of the names for new ones. -/
def rkey (ks : List Nat) (b : Nat) (k : Nat) : Nat := if k < ks.length then ks.getD k 0 else b + (k - ks.length)

def upsFrom (r : Nat → Nat) : Nat → List (Option (List C)) → List (Nat × Option (List C))
  | _, [] => []
  | i, x :: l => (r i, x.map (renCs r)) :: upsFrom r (i + 1) l

theorem appUp_append (hp : Hp) (a b : List (Nat × Option (List C))) : appUp hp (a ++ b) = appUp (appUp hp a) b := by
  induction a generalizing hp with
  | nil => rfl
  | cons x a ih => simp only [List.cons_append, appUp, ih]

/-- The heap behind the updates of a call, key by key. -/
theorem appUp_upsFrom (r : Nat → Nat) : ∀ (l : List (Option (List C))) (i : Nat) (hp : Hp), (∀ a b, i ≤ a → a < i + l.length → i ≤ b → b < i + l.length → r a = r b → a = b) →
    (∀ j, j < l.length → appUp hp (upsFrom r i l) (r (i + j)) = (l[j]?).map (·.map (renCs r))) ∧ (∀ k, (∀ j, j < l.length → k ≠ r (i + j)) → appUp hp (upsFrom r i l) k = hp k)
  | [], i, hp, _ => ⟨fun j h => by simp at h, fun k _ => rfl⟩
  | x :: l, i, hp, hinj => by
    obtain ⟨ih1, ih2⟩ := appUp_upsFrom r l (i + 1) (upd hp (r i) (some (x.map (renCs r)))) (fun a b h1 h2 h3 h4 => hinj a b (by omega) (by simp only [List.length_cons]; omega) (by omega) (by simp only [List.length_cons]; omega))
    refine ⟨fun j hj => ?_, fun k hk => ?_⟩
    · simp only [upsFrom, appUp]
      cases j with
      | zero =>
        rw [ih2 (r (i + 0)) (fun j' hj' => fun e => by
          have := hinj (i + 0) (i + 1 + j') (by omega) (by simp only [List.length_cons]; omega) (by omega) (by simp only [List.length_cons]; omega) e
          omega)]
        simp [upd]
      | succ j =>
        have := ih1 j (by simpa using hj)
        rw [show i + 1 + j = i + (j + 1) from by omega] at this
        rw [this]
        simp
    · simp only [upsFrom, appUp]
      rw [ih2 k (fun j hj => by have := hk (j + 1) (by simpa using hj); rwa [show i + 1 + j = i + (j + 1) from by omega])]
      exact upd_ne _ _ (by have := hk 0 (by simp); simpa using this)

end Go.CT
