/- Small lemmas for a walk that reckons by itself. -/
import Derived.Test.YtknihhjejbljgaaCtU
set_option linter.unusedVariables false
set_option linter.unusedSimpArgs false
namespace Go.CT

/-- No operation so far has read or written a block. -/
def Lt (lg : Lg) : Prop := ∀ j, lg j = none ∨ lg j = some ([], [])

theorem Lt_none : Lt (fun _ => none) = True := eq_true fun _ => .inl rfl
theorem Lt_upd {lg : Lg} (h : Lt lg) (i : Nat) : Lt (upd lg i (some ([], []))) = True := eq_true fun j => by
  by_cases e : j = i
  · subst e; exact .inr (upd_same _ _ _)
  · rw [upd_ne _ _ e]; exact h j
theorem lgok_plain {lg : Lg} (h : Lt lg) (nx : Nat) (all : Array Oper) (i : Nat) : lgok nx all lg i [] [] = true := by
  simp only [lgok, List.all_eq_true]
  intro j _
  rcases h j with e | e
  · simp [e]
  · simp [e, indep]

/-- A result that is plain data. -/
theorem RetOb.pure {R : D → List (Option (List C)) → Prop} {d : D} {hp : Hp} (hR : R d []) (hd : DM (hpL []) some hp [] d d) : RetOb 0 R d hp :=
  RetOb.of some [] d [] ⟨fun k cs h => by simp [hpL] at h, fun k k' cs cs' j h => by simp [hpL] at h, fun k h => by omega⟩ hd hR (Nat.le_refl _)

mutual
theorem CM.kf {hT hS : Hp} {r : Nat → Option Nat} {fz : List Nat} : ∀ {c : C}, kf c = true → CM hT r hS fz c c
  | .v _, _ => by simp [CM]
  | .isl _ _, _ => by simp [CM]
  | .z, _ => by simp [CM]
  | .unk, _ => by simp [CM]
  | .eptr _, _ => by simp [CM]
  | .msl _ _ _ _, h => by simp [Go.CT.kf] at h
  | .ptr _ _, h => by simp [Go.CT.kf] at h
  | .clo _ _, h => by simp [Go.CT.kf] at h
end
theorem CMs.kf {hT hS : Hp} {r : Nat → Option Nat} {fz : List Nat} : ∀ {cs : List C}, (∀ c ∈ cs, Go.CT.kf c = true) → CMs hT r hS fz cs cs
  | [], _ => by simp [CMs]
  | c :: r', h => by simp only [CMs]; exact ⟨CM.kf (h c (by simp)), CMs.kf fun c' hc' => h c' (by simp [hc'])⟩

/-- Plain data through and through. -/
def kD : D → Prop
  | .c a => kf a = true
  | .agg as => ∀ c ∈ as, kf c = true
  | _ => False
theorem DM.kD {hT hS : Hp} {r : Nat → Option Nat} {fz : List Nat} {d : D} (h : kD d) : DM hT r hS fz d d := by
  cases d with
  | c a => simp only [DM]; exact CM.kf h
  | agg as => simp only [DM]; exact CMs.kf h
  | _ => exact h.elim

theorem RetOb.plain {R : D → List (Option (List C)) → Prop} {d : D} {hp : Hp} (hR : R d []) (hk : kD d) : RetOb 0 R d hp := .pure hR (DM.kD hk)

/-- Nothing owned is kept. -/
theorem Mt.slots {fz : List Nat} {tl : List (Nat × D)} {S : Ms} (h : TmOK (hOf []) some S.hp fz S.tm tl) : Mt 0 some fz tl [] S := ⟨h, trivial, trivial, by simp⟩

theorem TmOK.cons {hT : Hp} {r : Nat → Option Nat} {hS : Hp} {fz : List Nat} {tS : Nat → Option D} {n : Nat} {d : D} {l : List (Nat × D)} {d' : D} (h : tS n = some d') (hd : DM hT r hS fz d d') (ht : TmOK hT r hS fz tS l) : TmOK hT r hS fz tS ((n, d) :: l) := by
  simp only [TmOK, h]; exact ⟨hd, ht⟩

theorem RetOb.frozen {R : D → List (Option (List C)) → Prop} {k sz n : Nat} {hp : Hp} {xs : List (List C)} (hR : R (.c (.isl sz xs)) []) (hk : hp k = some (some xs.flatten)) (hn : n = xs.length)
    (hl : ∀ x ∈ xs, x.length = sz) (hkf : ∀ x ∈ xs, ∀ c ∈ x, kf c = true) : RetOb 0 R (.c (.msl k sz 0 n)) hp :=
  RetOb.of (fun _ => none) [k] _ [] ⟨fun k cs h => by simp [hpL] at h, fun k k' cs cs' j h => by simp [hpL] at h, fun k h => by omega⟩
    (by simp only [DM, CM]; exact ⟨⟨trivial, trivial, hn⟩, by simp, hk, hl, hkf⟩) hR (Nat.le_refl _)

/-- A slice that is being filled from the left. -/
def fillL {α : Type} (g : α → List C) (z : List C) (xs : List α) (i : Nat) : List C := ((xs.take i).map g).flatten ++ (List.replicate (xs.length - i) z).flatten

theorem flat_len {α : Type} (g : α → List C) (sz : Nat) (xs : List α) (hg : ∀ x ∈ xs, (g x).length = sz) : ((xs.map g).flatten).length = xs.length * sz := by
  induction xs with
  | nil => simp
  | cons a r ih =>
    simp only [List.map_cons, List.flatten_cons, List.length_append, List.length_cons]
    rw [hg a (by simp), ih fun x hx => hg x (by simp [hx]), Nat.add_mul]
    omega

theorem putCells_skip : ∀ (ds as bs : List C), putCells (as ++ bs) as.length ds = as ++ putCells bs 0 ds := by
  intro ds
  have gen : ∀ (ds as bs : List C) (k : Nat), putCells (as ++ bs) (as.length + k) ds = as ++ putCells bs k ds := by
    intro ds
    induction ds with
    | nil => intro as bs k; rfl
    | cons c r ih =>
      intro as bs k
      simp only [putCells]
      rw [List.set_append_right _ _ (by omega), Nat.add_sub_cancel_left]
      exact ih as (bs.set k c) (k + 1)
  intro as bs
  exact gen ds as bs 0

theorem putCells_all : ∀ (ds as bs : List C), ds.length = as.length → putCells (as ++ bs) 0 ds = ds ++ bs := by
  intro ds
  have gen : ∀ (ds as bs done : List C), ds.length = as.length → putCells (done ++ (as ++ bs)) done.length ds = done ++ (ds ++ bs) := by
    intro ds
    induction ds with
    | nil => intro as bs done h; have : as = [] := List.eq_nil_of_length_eq_zero (by simpa using h.symm); subst this; rfl
    | cons c r ih =>
      intro as bs done h
      match as, h with
      | a :: as, h =>
        simp only [putCells]
        rw [List.set_append_right _ _ (by omega), Nat.sub_self]
        simp only [List.cons_append, List.set_cons_zero]
        have := ih as bs (done ++ [c]) (by simpa using h)
        simpa using this
  intro as bs h
  simpa using gen ds as bs [] h

theorem fillL_zero {α : Type} (g : α → List C) (z : List C) (xs : List α) : fillL g z xs 0 = (List.replicate xs.length z).flatten := by simp [fillL]
theorem fillL_all {α : Type} (g : α → List C) (z : List C) (xs : List α) {i : Nat} (h : xs.length ≤ i) : fillL g z xs i = (xs.map g).flatten := by
  simp [fillL, List.take_of_length_le h, Nat.sub_eq_zero_of_le h]
theorem fillL_succ {α : Type} (g : α → List C) (z : List C) (xs : List α) (sz i : Nat) (x : α) (hx : xs[i]? = some x) (hz : z.length = sz) (hg : ∀ x ∈ xs, (g x).length = sz) :
    putCells (fillL g z xs i) (i * sz) (g x) = fillL g z xs (i + 1) := by
  obtain ⟨hlt, e⟩ := List.getElem?_eq_some_iff.1 hx
  have hl : (((xs.take i).map g).flatten).length = i * sz := by
    rw [flat_len g sz _ fun y hy => hg y (List.mem_of_mem_take hy), List.length_take, Nat.min_eq_left (by omega)]
  unfold fillL
  rw [← hl, putCells_skip, show xs.length - i = (xs.length - (i + 1)) + 1 from by omega, List.replicate_succ, List.flatten_cons,
    putCells_all _ _ _ (by rw [hg x (e ▸ List.getElem_mem hlt), hz]), List.take_add_one, hx]
  simp
theorem fillL_len {α : Type} (g : α → List C) (z : List C) (xs : List α) (sz i : Nat) (hi : i ≤ xs.length) (hz : z.length = sz) (hg : ∀ x ∈ xs, (g x).length = sz) : (fillL g z xs i).length = xs.length * sz := by
  have h1 := flat_len g sz (xs.take i) fun y hy => hg y (List.mem_of_mem_take hy)
  have h2 : ((List.replicate (xs.length - i) z).flatten).length = (xs.length - i) * sz := by
    simp [hz]
  unfold fillL
  rw [List.length_append, h1, h2, List.length_take, Nat.min_eq_left hi, ← Nat.add_mul]
  congr 1; omega
theorem fillL_set1 {α : Type} (f : α → C) (z0 : C) (xs : List α) (i : Nat) (x : α) (hx : xs[i]? = some x) : (fillL (fun n => [f n]) [z0] xs i).set i (f x) = fillL (fun n => [f n]) [z0] xs (i + 1) := by
  have := fillL_succ (fun n => [f n]) [z0] xs 1 i x hx rfl fun _ _ => rfl
  simpa [putCells] using this
theorem fillL_len1 {α : Type} (f : α → C) (z0 : C) (xs : List α) (i : Nat) (hi : i ≤ xs.length) : (fillL (fun n => [f n]) [z0] xs i).length = xs.length := by
  have := fillL_len (fun n => [f n]) [z0] xs 1 i hi rfl fun _ _ => rfl
  simpa using this
theorem fillL_kf {α : Type} (g : α → List C) (z : List C) (xs : List α) (i : Nat) (hg : ∀ x, ∀ c ∈ g x, kf c = true) (hz : ∀ c ∈ z, kf c = true) : ∀ c ∈ fillL g z xs i, kf c = true := by
  intro c hc
  simp only [fillL, List.mem_append, List.mem_flatten, List.mem_map, List.mem_replicate] at hc
  rcases hc with ⟨l, ⟨x, _, rfl⟩, h⟩ | ⟨l, ⟨_, rfl⟩, h⟩
  · exact hg x c h
  · exact hz c h
/-- One owned block is kept, its cells plain data. -/
theorem Mt.one {fz : List Nat} {tl : List (Nat × D)} {S : Ms} {k : Nat} {cs : List C} (h : TmOK (hOf [(k, some cs)]) some S.hp fz S.tm tl) (hk : k ∉ fz) (hb : S.hp k = some (some cs)) (hkf : ∀ c ∈ cs, kf c = true) : Mt 0 some fz tl [(k, some cs)] S := by
  refine ⟨h, ⟨?_, trivial⟩, trivial, by simp⟩
  simp only [hb]
  exact ⟨hk, CMs.kf hkf⟩
theorem flat1 {α : Type} (f : α → C) (xs : List α) : (xs.map fun n => [f n]).flatten = xs.map f := by
  induction xs with
  | nil => rfl
  | cons a r ih => simp [ih]

theorem subH_one {r : Nat → Option Nat} {k : Nat} {cs : List C} {hp : Hp} (hr : r 0 = some k) (hb : hp k = some (some cs)) (hkf : ∀ c ∈ cs, kf c = true) : SubH 0 r [] (hpL [some cs]) hp where
  live j cs' hj := by
    match j with
    | 0 =>
      simp only [hpL, List.getElem?_cons_zero, Option.some.injEq] at hj
      subst hj
      exact .inl ⟨k, cs, hr, by simp, hb, CMs.kf hkf⟩
    | j + 1 => simp [hpL] at hj
  inj j j' cs1 cs2 b h1 h2 _ _ := by
    match j, j' with
    | 0, 0 => rfl
    | 0, j' + 1 => simp [hpL] at h2
    | j + 1, _ => simp [hpL] at h1
  low j hj := by omega
theorem subH_one' {r : Nat → Option Nat} {cs : List C} {hp : Hp} (hr : r 0 = some 0) (hb : hp 0 = some (some cs)) (hkf : ∀ c ∈ cs, kf c = true) (_ : True) : SubH 1 r [] (hpL [some cs]) hp where
  live := (subH_one hr hb hkf).live
  inj := (subH_one hr hb hkf).inj
  low j hj := by
    have : j = 0 := by omega
    subst this
    exact ⟨hr, by simp [hpL]⟩

theorem updM {α : Type} (f : Nat → α) (n : Nat) (x : α) (k : Nat) : upd f n x k = (match Nat.beq k n with | true => x | false => f k) := by
  unfold upd
  by_cases h : k = n
  · subst h; simp
  · have : Nat.beq k n = false := by
      cases hb : Nat.beq k n with
      | false => rfl
      | true => exact absurd (Nat.eq_of_beq_eq_true hb) h
    rw [if_neg h, this]
theorem setT_some (tm : Nat → Option D) (n : Nat) (d : Option D) : setT tm (some n) d = upd tm n d := rfl
theorem setT_none (tm : Nat → Option D) (d : Option D) : setT tm none d = tm := rfl

theorem hhp_one {hp : Hp} {r : Nat → Nat} {k : Nat} {x : Option (List C)} (h : hp k = some (x.map (renCs r))) : ∀ i' y, [x][i']? = some y → hp ([k].getD i' 0) = some (y.map (renCs r)) := by
  intro i' y hy
  match i' with
  | 0 => simp only [List.getElem?_cons_zero, Option.some.injEq] at hy; subst hy; exact h
  | i' + 1 => simp at hy

theorem RetOb.keep1 {R : D → List (Option (List C)) → Prop} {d : D} {cs : List C} {hp : Hp} (hR : R d [some cs]) (hb : hp 0 = some (some cs)) (hkf : ∀ c ∈ cs, kf c = true) (hd : kD d) : RetOb 1 R d hp :=
  RetOb.of (fun k => if k = 0 then some 0 else none) [] d [some cs] (subH_one' rfl hb hkf trivial) (DM.kD hd) hR (Nat.le_refl _)

theorem beq_tt (b : Bool) : (b == true) = b := by cases b <;> rfl
theorem beq_ff (b : Bool) : (b == false) = !b := by cases b <;> rfl
theorem mx_eq : mx = 281474976710656 := rfl


/-! ### Calls, their side conditions met by reckoning -/

def okB (tm : Nat → Option D) : List Operand → Bool
  | [] => true
  | x :: r => (match evT tm x with | some d => peelB d | none => true) && okB tm r
theorem okP_of {tm : Nat → Option D} : ∀ {l : List Operand}, okB tm l = true → okP tm l
  | [], _ => trivial
  | x :: r, h => by
    simp only [okB, Bool.and_eq_true] at h
    refine ⟨?_, okP_of h.2⟩
    cases hx : evT tm x with
    | none => trivial
    | some d => rw [hx] at h; exact h.1
def getCall (o : Oper) : Call := match o.op with | .call c => c | _ => { callee := .builtin .len, args := #[], argTypes := #[] }

section
variable {P : Program} {m : Nat} {f : FuncId} {nt : Nat} {R : D → List (Option (List C)) → Prop}

theorem XK.plain {all : Array Oper} {dr : Bool} {i : Nat} {o : Oper} {rest : List Oper} {lg : Lg} {nx0 : Nat} {k : List Item} {S : Ms} {F : FuncId} {args : List D} {d0 : D}
    (hD : DC P F args [] (fun d h' => d = d0 ∧ h' = [])) (hfn : fnOK P F = true)
    (next : XK P m f nt R (some ⟨all, dr, i + 1, rest, upd lg i (some ([], [])), nx0⟩) k ⟨setT S.tm o.dst (some d0), S.hp, S.nx⟩)
    (hb : ∀ j, j < 64 → S.hp (wkey nx0 i + j) = none := by intro j hj; rfl) (hdr : dr = true → lgok nx0 all lg i [] [] = true := by intro h; cases h)
    (hren : renD (rkey [] (wkey nx0 i)) d0 = d0 := by rfl) (hm : m ≤ wkey nx0 i := by exact Nat.zero_le _)
    (hop : o.op = .call (getCall o) := by rfl) (hg : o.guard = none := by rfl) (hc : calleeOf S.tm (getCall o) = some (F, args.map (renD (rk0 [] (wkey nx0 i)))) := by rfl) (hok : okB S.tm (getCall o).operands.toList = true := by rfl)
    (hf : fitsT nt o.dst = true := by rfl) :
    XK P m f nt R (some ⟨all, dr, i, o :: rest, lg, nx0⟩) k S :=
  XK.pure hD (getCall o) hop hg hc (okP_of hok) hfn hm hb hf hdr (by rw [hren]; exact next)

/-- An owned slice that is written no more, from here on plain data under the slot t. -/
theorem XK.freeze {all : Array Oper} {i : Nat} {rest : List Oper} {lg : Lg} {nx0 : Nat} {kk : List Item} {S : Ms} (t k sz n : Nat) (xs : List (List C))
    (h : XK P m f nt R (some ⟨all, false, i, rest, lg, nx0⟩) kk ⟨upd S.tm t (some (.c (.isl sz xs))), upd S.hp k (some none), S.nx⟩) (hk : S.hp k = some (some xs.flatten)) (ht : S.tm t = some (.c (.msl k sz 0 n)) := by rfl) (hn : n = xs.length := by rfl)
    (hl : ∀ x ∈ xs, x.length = sz := by simp) (hkf : ∀ x ∈ xs, ∀ c ∈ x, kf c = true := by simp [kf]) : XK P m f nt R (some ⟨all, false, i, rest, lg, nx0⟩) kk S :=
  XK.sub (S' := ⟨upd S.tm t (some (.c (.isl sz xs))), upd S.hp k (some none), S.nx⟩) (lg' := lg) (Sub.freeze t k sz n xs ht hk hn hl hkf) h

/-- A call that may hand over blocks. -/
theorem XK.callG {all : Array Oper} {dr : Bool} {i : Nat} {o : Oper} {rest : List Oper} {lg : Lg} {nx0 : Nat} {k : List Item} {S : Ms} {F : FuncId} {args : List D} {h : List (Option (List C))} {R' : D → List (Option (List C)) → Prop}
    (ks : List Nat) (hD : DC P F args h R') (hfn : fnOK P F = true)
    (hhp : ∀ i' x, h[i']? = some x → S.hp (ks.getD i' 0) = some (x.map (renCs (rk0 ks (wkey nx0 i))))) (hb : ∀ j, j < 64 → S.hp (wkey nx0 i + j) = none) (hlen : ∀ d h', R' d h' → h'.length ≤ h.length + 64)
    (next : ∀ d h', R' d h' → h.length ≤ h'.length → XK P m f nt R (some ⟨all, dr, i + 1, rest, upd lg i (some (ks, ks)), nx0⟩) k ⟨setT S.tm o.dst (some (renD (rkey ks (wkey nx0 i)) d)), appUp S.hp (upsFrom (rkey ks (wkey nx0 i)) 0 h'), S.nx⟩)
    (hdr : dr = true → lgok nx0 all lg i ks ks = true ∧ ∃ d h', R' d h' ∧ h.length ≤ h'.length := by intro h; cases h)
    (hm : m ≤ wkey nx0 i := by first | exact Nat.zero_le _ | (simp only [wkey]; decide))
    (hop : o.op = .call (getCall o) := by rfl) (hg : o.guard = none := by rfl) (hc : calleeOf S.tm (getCall o) = some (F, args.map (renD (rk0 ks (wkey nx0 i)))) := by rfl) (hok : okB S.tm (getCall o).operands.toList = true := by rfl)
    (hks : ks.length = h.length := by rfl) (hnd : ks.Nodup := by decide) (hf : fitsT nt o.dst = true := by rfl) :
    XK P m f nt R (some ⟨all, dr, i, o :: rest, lg, nx0⟩) k S :=
  XK.call hD ks (getCall o) hop hg hc (okP_of hok) hfn hks hnd hhp hm hb hlen hf hdr next
end
end Go.CT
