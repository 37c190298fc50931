/- Blocks handed over, all at once. -/
import Derived.Test.YtjjjidcbokbhpaaMAhX
set_option linter.unusedVariables false
set_option linter.unusedSimpArgs false
set_option maxHeartbeats 16000000
set_option maxRecDepth 100000
namespace Go.CT
def HH (hp : Hp) (r : Nat → Nat) : List Nat → List (Option (List C)) → Prop
  | [], [] => True
  | k :: ks, h :: hs => hp k = some (h.map (renCs r)) ∧ HH hp r ks hs
  | _, _ => False
theorem hhpG {hp : Hp} {r : Nat → Nat} : ∀ {ks : List Nat} {hs : List (Option (List C))}, HH hp r ks hs → ∀ i' x, hs[i']? = some x → hp (ks.getD i' 0) = some (x.map (renCs r))
  | [], [], _, i', x, hx => by simp at hx
  | k :: ks, h :: hs, hh, 0, x, hx => by simp only [List.getElem?_cons_zero, Option.some.injEq] at hx; subst hx; exact hh.1
  | k :: ks, h :: hs, hh, i' + 1, x, hx => by
    have := hhpG hh.2 i' x (by simpa using hx)
    simpa using this
section
variable {P : Program} {m : Nat} {f : FuncId} {nt : Nat} {R : D → List (Option (List C)) → Prop}
theorem kfs_mapI (l : List C) (h : ∀ c ∈ l, kf c = true) : kfs l = true := by
  induction l with
  | nil => rfl
  | cons a r ih => simp only [kfs, Bool.and_eq_true]; exact ⟨h a (by simp), ih fun c hc => h c (by simp [hc])⟩
/-- All blocks are plain data. -/
def KF : List (Option (List C)) → Prop
  | [] => True
  | none :: r => KF r
  | some cs :: r => kfs cs = true ∧ KF r
theorem KF.mem : ∀ {h : List (Option (List C))}, KF h → ∀ cs, some cs ∈ h → kfs cs = true
  | none :: r, hk, cs, hm => KF.mem (h := r) hk cs (by simpa using hm)
  | some c :: r, hk, cs, hm => by
    rcases List.mem_cons.1 hm with e | e
    · cases e; exact hk.1
    · exact KF.mem hk.2 cs e
/-- A call that reads blocks and leaves them as they are. -/
theorem XK.rp {all : Array Oper} {dr : Bool} {i : Nat} {o : Oper} {rest : List Oper} {lg : Lg} {nx0 : Nat} {k : List Item} {S : Ms} {F : FuncId} {args : List D} {h : List (Option (List C))} {d0 : D}
    (ks : List Nat) (hD : DC P F args h (fun d h' => d = d0 ∧ h' = h)) (hfn : fnOK P F = true) (hh : HH S.hp (rk0 ks (wkey nx0 i)) ks h) (hkf : KF h)
    (next : XK P m f nt R (some ⟨all, dr, i + 1, rest, upd lg i (some (ks, [])), nx0⟩) k ⟨setT S.tm o.dst (some (renD (rkey ks (wkey nx0 i)) d0)), S.hp, S.nx⟩)
    (hop : o.op = .call (getCall o) := by rfl) (hg : o.guard = none := by rfl) (hc : calleeOf S.tm (getCall o) = some (F, args.map (renD (rk0 ks (wkey nx0 i)))) := by rfl) (hok : okB S.tm (getCall o).operands.toList = true := by rfl)
    (hks : ks.length = h.length := by rfl) (hnd : ks.Nodup := by decide) (hm : m ≤ wkey nx0 i := by first | exact Nat.zero_le _ | (simp only [wkey]; decide)) (hf : fitsT nt o.dst = true := by rfl)
    (hb : ∀ j, j < 64 → S.hp (wkey nx0 i + j) = none := by exact hbT ()) (hdr : dr = true → lgok nx0 all lg i ks [] = true := by first | (intro h; cases h; done) | (intro _; kernel_rfl)) :
    XK P m f nt R (some ⟨all, dr, i, o :: rest, lg, nx0⟩) k S := by
  simp only [XK, dopsL]
  refine Pre.intro ⟨ks, [], _, .rcall (getCall o) F args ks h _ (.inl hg) hop hc (okP_of hok) hfn hD hks hnd (hhpG hh) hm hb (fun d h' e => e.2) hkf.mem, hf, fun e => ⟨hdr e, _, _, d0, ⟨rfl, rfl⟩, rfl, rfl⟩, fun d up ht => ?_⟩
  obtain ⟨d', ⟨rfl, _⟩, rfl, rfl⟩ := ht
  exact next
end
end Go.CT

namespace Go.CT
/-- A state with a family of rows. -/
def fam (hp : Hp) (b : Nat) (rows : List (List C)) : Hp := fun j => if b ≤ j ∧ j < b + 32 then (rows[j - b]?).map some else hp j
theorem fam_out {hp : Hp} {b j : Nat} {rows : List (List C)} (h : (decide (j < b) || decide (b + 32 ≤ j)) = true) : fam hp b rows j = hp j := by
  simp only [Bool.or_eq_true, decide_eq_true_eq] at h
  unfold fam; rw [if_neg (by omega)]
theorem fam_at {hp : Hp} {b i : Nat} {rows : List (List C)} (hi : i < 32) : fam hp b rows (b + i) = (rows[i]?).map some := by
  unfold fam; rw [if_pos (by omega), Nat.add_sub_cancel_left]
theorem fam_upd {hp : Hp} {b k : Nat} {rows : List (List C)} {x : Option (Option (List C))} (h : (decide (k < b) || decide (b + 32 ≤ k)) = true) : upd (fam hp b rows) k x = fam (upd hp k x) b rows := by
  simp only [Bool.or_eq_true, decide_eq_true_eq] at h
  funext j
  simp only [fam, upd]
  by_cases e : j = k
  · subst e
    rw [if_pos rfl, if_neg (by omega), if_pos rfl]
  · rw [if_neg e]
    by_cases h2 : b ≤ j ∧ j < b + 32
    · rw [if_pos h2, if_pos h2]
    · rw [if_neg h2, if_neg h2, if_neg e]
theorem fam_set {hp : Hp} {b i : Nat} {rows : List (List C)} {row : List C} (hi : i < rows.length) (hl : rows.length ≤ 32) : upd (fam hp b rows) (b + i) (some (some row)) = fam hp b (rows.set i row) := by
  funext j
  simp only [fam, upd]
  by_cases e : j = b + i
  · subst e
    rw [if_pos rfl, if_pos (by omega), Nat.add_sub_cancel_left, List.getElem?_set_self hi]
    rfl
  · rw [if_neg e]
    by_cases h2 : b ≤ j ∧ j < b + 32
    · rw [if_pos h2, if_pos h2, List.getElem?_set_ne (by omega)]
    · rw [if_neg h2, if_neg h2]
theorem fam_free {hp : Hp} {b c : Nat} {rows : List (List C)} (h : ∀ j, j < 64 → hp (c + j) = none) (hc : b + 32 ≤ c ∨ c + 64 ≤ b) : ∀ j, j < 64 → fam hp b rows (c + j) = none := fun j hj => by
  unfold fam; rw [if_neg (by omega)]; exact h j hj

/-- The slices of a family's rows. -/
def famC (b w n : Nat) : List C := (List.range n).map fun i => .msl (b + i) 1 0 w
theorem famC_len (b w n : Nat) : (famC b w n).length = n := by simp [famC]
theorem famC_at {b w n i : Nat} (h : i < n) : (famC b w n)[i]? = some (.msl (b + i) 1 0 w) := by
  unfold famC; rw [List.getElem?_map, List.getElem?_range h]; rfl
theorem famC_succ (b w n : Nat) : famC b w (n + 1) = famC b w n ++ [.msl (b + n) 1 0 w] := by simp [famC, List.range_succ]

/-- What a call leaves that hands over a slice and its rows. -/
theorem appUp_fam {hp : Hp} {B w : Nat} {rows : List (List C)} (hb : ∀ j, j < 64 → hp (B + j) = none) (hl : rows.length ≤ 32) (hren : ∀ (r : Nat → Nat), ∀ x ∈ rows, renCs r x = x) :
    appUp hp (upsFrom (rkey [] B) 0 (some (famC 1 w rows.length) :: rows.map some)) = fam (upd hp B (some (some (famC (B + 1) w rows.length)))) (B + 1) rows := by
  have hk : ∀ a, rkey [] B a = B + a := fun a => by simp [rkey]
  have h := appUp_upsFrom (rkey [] B) (some (famC 1 w rows.length) :: rows.map some) 0 hp (fun a b _ _ _ _ h => by rw [hk, hk] at h; omega)
  have hfc : renCs (rkey [] B) (famC 1 w rows.length) = famC (B + 1) w rows.length := by
    rw [renCs_eq]; unfold famC
    rw [List.map_map]
    refine List.map_congr_left fun i _ => ?_
    simp only [Function.comp, renC, hk]
    congr 1; omega
  funext j
  by_cases hj : B ≤ j ∧ j < B + (rows.length + 1)
  · have h1 := h.1 (j - B) (by simp; omega)
    rw [hk, show B + (0 + (j - B)) = j from by omega] at h1
    rw [h1]
    simp only [fam, upd]
    by_cases e : j = B
    · subst e
      rw [if_neg (by omega), if_pos rfl, Nat.sub_self]
      simp [hfc]
    · rw [if_pos (by omega), show j - B = (j - (B + 1)) + 1 from by omega, List.getElem?_cons_succ, List.getElem?_map]
      cases hr : rows[j - (B + 1)]? with
      | none => rfl
      | some x => simp [hren _ x (List.mem_of_getElem? hr)]
  · rw [h.2 j (fun i hi => by rw [hk]; simp at hi; omega)]
    simp only [fam, upd]
    by_cases h2 : B + 1 ≤ j ∧ j < B + 1 + 32
    · rw [if_pos h2, List.getElem?_eq_none (by omega), show j = B + (j - B) from by omega, hb _ (by omega)]
      rfl
    · rw [if_neg h2, if_neg (by omega)]

section
variable {P : Program} {m : Nat} {f : FuncId} {nt : Nat} {R : D → List (Option (List C)) → Prop}
/-- A state may be taken for another that is given as a function. -/
structure Mh (m : Nat) (r : Nat → Option Nat) (fz : List Nat) (tl : List (Nat × D)) (hT : Hp) (S : Ms) : Prop where
  tm : TmOK hT r S.hp fz S.tm tl
  hp : SubH m r fz hT S.hp
theorem Go.subH {r : Nat → Option Nat} {fz : List Nat} {tl : List (Nat × D)} {hT : Hp} {S : Ms} {k : List Item} (nx : Nat) (h : Mh m r fz tl hT S) (hg : Go P m f nt R k ⟨tOf tl, hT, nx⟩) : Go P m f nt R k S := fun I w s a hR cs => by
  obtain ⟨H', E'⟩ := h.hp.sim hR.H
  have hR' : Rc (subI fz S.hp s I) w (subS r hT s) a (tOf tl) hT nt := ⟨H', fun n d hd => by
    obtain ⟨d', h1, h2⟩ := h.tm.at n d hd
    exact DM.rd hR.H d d' h2 (hR.tm n d' h1), hR.df, hR.sz⟩
  obtain ⟨v, w', fr, I', s', d, h', g1, g2, g3, g4, g5, g6, g7⟩ := hg _ w _ a hR' cs
  exact ⟨v, w', fr, I', s', d, h', g1, g2, g3, E'.trans g4, g5, g6, g7⟩
theorem Mh.sub {r : Nat → Option Nat} {fz : List Nat} {tl : List (Nat × D)} {hT : Hp} {S : Ms} (h : Mh m r fz tl hT S) (lg lg' : Lg) : Sub m nt ⟨S.tm, S.hp, lg⟩ ⟨tOf tl, hT, lg'⟩ := fun I w s a hR => by
  obtain ⟨H', E'⟩ := h.hp.sim hR.H
  exact ⟨_, _, ⟨H', fun n d hd => by
    obtain ⟨d', h1, h2⟩ := h.tm.at n d hd
    exact DM.rd hR.H d d' h2 (hR.tm n d' h1), hR.df, hR.sz⟩, E'⟩
theorem XK.subH {all : Array Oper} {i : Nat} {rest : List Oper} {lg : Lg} {nx0 : Nat} {k : List Item} {S : Ms} {r : Nat → Option Nat} {fz : List Nat} {tl : List (Nat × D)} {hT : Hp} (h : Mh m r fz tl hT S)
    (hn : XK P m f nt R (some ⟨all, false, i, rest, lg, nx0⟩) k ⟨tOf tl, hT, S.nx⟩) : XK P m f nt R (some ⟨all, false, i, rest, lg, nx0⟩) k S :=
  XK.sub (S' := ⟨tOf tl, hT, S.nx⟩) (lg' := lg) (h.sub lg lg) hn
/-- A loop whose states are functions. -/
theorem Go.loopH {X : Type} {c : Code} {k : List Item} (tl : X → List (Nat × D)) (hT : X → Hp) (nx : Nat) (Inv : X → Prop) (μ : X → Nat)
    (round : ∀ x, Inv x → (∀ x' r fz S', Inv x' → μ x' < μ x → Mh m r fz (tl x') (hT x') S' → Go P m f nt R (.inLoop c :: k) S') → Go P m f nt R (.code c :: .inLoop c :: k) ⟨tOf (tl x), hT x, nx⟩) :
    ∀ x r fz S, Inv x → Mh m r fz (tl x) (hT x) S → Go P m f nt R (.code (.loop c) :: k) S := by
  intro x r fz S hI hM
  refine Go.loop (Go.subH nx hM ?_)
  exact round x hI fun x' r' fz' S' hi' hlt hm' => Go.rounds (P := P) (m := m) (f := f) (nt := nt) (R := R) (c := c) (k := k) (fun x S => Inv x ∧ ∃ r fz, Mh m r fz (tl x) (hT x) S) μ (fun x S ⟨hi, r, fz, hm⟩ ih =>
    Go.subH nx hm (round x hi fun x' r' fz' S' hi' hlt hm' => ih x' S' hlt ⟨hi', r', fz', hm'⟩)) x' S' ⟨hi', r', fz', hm'⟩
end

/-- A family, row i of which stands at key g i; the rest goes by lists. -/
theorem SubH.fam {m : Nat} {r : Nat → Option Nat} {fz : List Nat} {hl : List (Nat × Option (List C))} {hS : Hp} {b : Nat} {rows : List (List C)} (g : Nat → Nat) (hr : ∀ i, i < rows.length → r (b + i) = some (g i))
    (hg : ∀ i j, i < rows.length → j < rows.length → g i = g j → i = j)
    (hfz : ∀ i, i < rows.length → g i ∉ fz) (hS2 : ∀ i row, rows[i]? = some row → hS (g i) = some (some row)) (hkf : ∀ x ∈ rows, ∀ c ∈ x, kf c = true)
    (hok : HpOK (Go.CT.fam (hOf hl) b rows) r hS fz hl) (hlow : LowOK r (Go.CT.fam (hOf hl) b rows) m) (hnd : ((hl.filterMap fun p => p.2.map fun _ => p.1).filterMap r).Nodup)
    (hdis : ∀ k j cs, (k, some cs) ∈ hl → r k = some j → ∀ i, i < rows.length → j ≠ g i) : SubH m r fz (Go.CT.fam (hOf hl) b rows) hS where
  live := fun k cs hk => by
    unfold Go.CT.fam at hk
    by_cases h : b ≤ k ∧ k < b + 32
    · rw [if_pos h] at hk
      cases hx : rows[k - b]? with
      | none => rw [hx] at hk; simp at hk
      | some row =>
        rw [hx] at hk
        simp only [Option.map_some, Option.some.injEq] at hk
        subst hk
        have hlt : k - b < rows.length := (List.getElem?_eq_some_iff.1 hx).1
        have h1 := hr (k - b) hlt
        rw [show b + (k - b) = k from by omega] at h1
        exact .inl ⟨_, row, h1, hfz _ hlt, hS2 _ _ hx, CMs.kf (hkf row (List.mem_of_getElem? hx))⟩
    · rw [if_neg h] at hk
      exact HpOK.at hok k cs (hOf_mem hk)
  inj := fun k k' cs cs' j h1 h2 h3 h4 => by
    have key : ∀ k cs, Go.CT.fam (hOf hl) b rows k = some (some cs) → r k = some j → (∃ i, i < rows.length ∧ k = b + i ∧ j = g i) ∨ ((k, some cs) ∈ hl ∧ ∀ i, i < rows.length → j ≠ g i) := fun k cs hk hj => by
      unfold Go.CT.fam at hk
      by_cases h : b ≤ k ∧ k < b + 32
      · rw [if_pos h] at hk
        cases hx : rows[k - b]? with
        | none => rw [hx] at hk; simp at hk
        | some row =>
          have hlt : k - b < rows.length := (List.getElem?_eq_some_iff.1 hx).1
          have h1 := hr (k - b) hlt
          rw [show b + (k - b) = k from by omega, hj] at h1
          exact .inl ⟨k - b, hlt, by omega, by simpa using h1⟩
      · rw [if_neg h] at hk
        exact .inr ⟨hOf_mem hk, hdis k j cs (hOf_mem hk) hj⟩
    rcases key k cs h1 h3 with ⟨i, hi, e1, e2⟩ | ⟨hm1, hd1⟩ <;> rcases key k' cs' h2 h4 with ⟨i', hi', e1', e2'⟩ | ⟨hm2, hd2⟩
    · have := hg i i' hi hi' (by omega)
      omega
    · exact absurd e2 (hd2 i hi)
    · exact absurd e2' (hd1 i' hi')
    · exact filterMap_inj hnd k k' j (live_mem hm1) (live_mem hm2) h3 h4
  low := hlow.at
theorem CMs.app {hT hS : Hp} {r : Nat → Option Nat} {fz : List Nat} : ∀ {as as' bs bs' : List C}, CMs hT r hS fz as as' → CMs hT r hS fz bs bs' → CMs hT r hS fz (as ++ bs) (as' ++ bs')
  | [], as', bs, bs', h, h' => by simp only [CMs] at h; subst h; exact h'
  | a :: as, [], bs, bs', h, h' => by simp [CMs] at h
  | a :: as, a' :: as', bs, bs', h, h' => by
    simp only [CMs, List.cons_append] at h ⊢
    exact ⟨h.1, CMs.app h.2 h'⟩
theorem CMs.fam {hT hS : Hp} {r : Nat → Option Nat} {fz : List Nat} {b b' w n : Nat} (hr : ∀ i, i < n → r (b + i) = some (b' + i)) (hT2 : ∀ i, i < n → hT (b + i) ≠ none) : CMs hT r hS fz (famC b w n) (famC b' w n) := by
  have gen : ∀ (l : List Nat), (∀ i ∈ l, i < n) → CMs hT r hS fz (l.map fun i => C.msl (b + i) 1 0 w) (l.map fun i => C.msl (b' + i) 1 0 w) := fun l => by
    induction l with
    | nil => intro _; simp [CMs]
    | cons a t ih =>
      intro h
      simp only [List.map_cons, CMs, CM]
      exact ⟨⟨hr a (h a (by simp)), hT2 a (h a (by simp)), trivial, trivial, trivial⟩, ih fun i hi => h i (by simp [hi])⟩
  exact gen _ fun i hi => List.mem_range.1 hi
theorem hpL_fam {o : List C} {rows : List (List C)} (hl : rows.length ≤ 32) : hpL (some o :: rows.map some) = Go.CT.fam (hOf [(0, some o)]) 1 rows := by
  funext j
  simp only [hpL, Go.CT.fam, hOf, upd]
  cases j with
  | zero => simp
  | succ j =>
    rw [List.getElem?_cons_succ, List.getElem?_map]
    by_cases h : j + 1 < 33
    · rw [if_pos (by omega)]; simp
    · rw [if_neg (by omega), List.getElem?_eq_none (by omega)]; simp
theorem CMs.set {hT hS : Hp} {r : Nat → Option Nat} {fz : List Nat} : ∀ {as bs : List C} (i : Nat) {a b : C}, CMs hT r hS fz as bs → CM hT r hS fz a b → CMs hT r hS fz (as.set i a) (bs.set i b)
  | [], bs, i, a, b, h, _ => by simp only [CMs] at h; subst h; simp [CMs]
  | x :: as, [], i, a, b, h, _ => by simp [CMs] at h
  | x :: as, y :: bs, 0, a, b, h, h' => by
    simp only [CMs] at h
    simp only [List.set_cons_zero, CMs]
    exact ⟨h', h.2⟩
  | x :: as, y :: bs, i + 1, a, b, h, h' => by
    simp only [CMs] at h
    simp only [List.set_cons_succ, CMs]
    exact ⟨h.1, CMs.set i h.2 h'⟩
/-- The slices of a family whose rows are written no more. -/
def frzC (rows : List (List C)) : List C := rows.map fun row => .isl 1 (row.map fun c => [c])
theorem CMs.famFz {hT hS : Hp} {r : Nat → Option Nat} {fz : List Nat} {w : Nat} : ∀ (rows : List (List C)) (b : Nat), (∀ i row, rows[i]? = some row → b + i ∈ fz ∧ hS (b + i) = some (some row)) → (∀ row ∈ rows, row.length = w ∧ ∀ c ∈ row, Go.CT.kf c = true) →
    CMs hT r hS fz (frzC rows) ((List.range' b rows.length).map fun k => .msl k 1 0 w)
  | [], b, _, _ => by simp [frzC, CMs]
  | row :: rest, b, h, h2 => by
    have h0 := h 0 row rfl
    have hr := h2 row (by simp)
    simp only [frzC, List.map_cons, List.length_cons, List.range'_succ, CMs, CM]
    refine ⟨⟨⟨trivial, trivial, by simp [hr.1]⟩, by simpa using h0.1, ?_, ?_, ?_⟩, ?_⟩
    · have e : (row.map fun c => [c]).flatten = row := by
        have := flat1 (fun c : C => c) row
        simpa using this
      rw [e]; simpa using h0.2
    · intro x hx
      obtain ⟨c, _, rfl⟩ := List.mem_map.1 hx
      rfl
    · intro x hx c hc
      obtain ⟨c', hc', rfl⟩ := List.mem_map.1 hx
      simp only [List.mem_singleton] at hc
      subst hc; exact hr.2 _ hc'
    · exact CMs.famFz rest (b + 1) (fun i row' hi => by
        have := h (i + 1) row' (by simpa using hi)
        rw [show b + 1 + i = b + (i + 1) from by omega]; exact this) fun row' h' => h2 row' (by simp [h'])
theorem famC_range (b w n : Nat) : famC b w n = (List.range' b n).map fun k => .msl k 1 0 w := by
  unfold famC
  rw [List.range'_eq_map_range, List.map_map]
  rfl
theorem CMs.famFz' {hT hS : Hp} {r : Nat → Option Nat} {fz : List Nat} {w n : Nat} {rows : List (List C)} {b : Nat} (hn : n = rows.length) (h : ∀ i row, rows[i]? = some row → b + i ∈ fz ∧ hS (b + i) = some (some row)) (h2 : ∀ row ∈ rows, row.length = w ∧ ∀ c ∈ row, Go.CT.kf c = true) :
    CMs hT r hS fz (frzC rows) (famC b w n) := by
  subst hn; rw [famC_range]; exact CMs.famFz rows b h h2
end Go.CT

namespace Go.CT
/-- Some value reads as this cell. -/
def Real (c : C) : Prop := ∃ I w s x, RC I w s x c
theorem Real.isl {sz : Nat} {xs : List (List C)} (h : Real (.isl sz xs)) : xs.length ≤ mx ∧ ∀ x ∈ xs, ∀ c ∈ x, Real c := by
  obtain ⟨I, w, s, x, h⟩ := h
  cases h with
  | isl0 => exact ⟨by simp, by simp⟩
  | isl _ b off cap _ _ y hI hl hc hr hcap =>
    refine ⟨hcap.2, fun x hx c hc' => ?_⟩
    obtain ⟨i, hi, rfl⟩ := List.mem_iff_getElem.1 hx
    obtain ⟨j, hj, rfl⟩ := List.mem_iff_getElem.1 hc'
    exact ⟨_, _, _, _, hr i hi j hj⟩
end Go.CT

/- Blocks lent: a call that is known for plain data may be given blocks that somebody owns; it leaves them as they are. -/
namespace Go.CT
end Go.CT

/- A contract weakened: what is left may be taken for other data. -/
namespace Go.CT
end Go.CT
