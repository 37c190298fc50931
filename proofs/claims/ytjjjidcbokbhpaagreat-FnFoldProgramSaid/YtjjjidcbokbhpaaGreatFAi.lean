/- Blocks in a number that is not written out: row i stands at key b + i. -/
import Derived.Test.YtjjjidcbokbhpaaGreatFAh
set_option linter.unusedVariables false
set_option linter.unusedSimpArgs false
set_option maxHeartbeats 16000000
set_option maxRecDepth 100000
namespace Go.CT
section
variable {P : Program} {m : Nat} {f : FuncId} {nt : Nat} {R : D → List (Option (List C)) → Prop}
/-- A state may be taken for another that is given as a function. -/
structure Mh (m : Nat) (r : Nat → Option Nat) (fz : List Nat) (tl : List (Nat × D)) (hT : Hp) (S : Ms) : Prop where
  tm : TmOK hT r S.hp fz S.tm tl
  hp : SubH m r fz hT S.hp
theorem Go.subH {r : Nat → Option Nat} {fz : List Nat} {tl : List (Nat × D)} {hT : Hp} {S : Ms} {k : List Item} (nx : Nat) (h : Mh m r fz tl hT S) (hg : Go P m f nt R k ⟨tOf tl, hT, nx⟩) : Go P m f nt R k S := fun I w s a hR cs => by
  obtain ⟨H', E'⟩ := h.hp.sim hR.H
  have hR' : Rc (subI fz S.hp s I) w (subS r hT s) a (tOf tl) hT nt := ⟨H', fun n d hd => by
    obtain ⟨d', h1, h2⟩ := h.tm.at n d hd
    exact DM.rd hR.H d d' h2 (hR.tm n d' h1), hR.df, hR.sz⟩
  obtain ⟨v, w', fr, I', s', d, h', g1, g2, g3, g4, g5, g6, g7⟩ := hg _ w _ a hR' cs
  exact ⟨v, w', fr, I', s', d, h', g1, g2, g3, E'.trans g4, g5, g6, g7⟩
theorem Mh.sub {r : Nat → Option Nat} {fz : List Nat} {tl : List (Nat × D)} {hT : Hp} {S : Ms} (h : Mh m r fz tl hT S) (lg lg' : Lg) : Sub m nt ⟨S.tm, S.hp, lg⟩ ⟨tOf tl, hT, lg'⟩ := fun I w s a hR => by
  obtain ⟨H', E'⟩ := h.hp.sim hR.H
  exact ⟨_, _, ⟨H', fun n d hd => by
    obtain ⟨d', h1, h2⟩ := h.tm.at n d hd
    exact DM.rd hR.H d d' h2 (hR.tm n d' h1), hR.df, hR.sz⟩, E'⟩
theorem XK.subH {all : Array Oper} {i : Nat} {rest : List Oper} {lg : Lg} {nx0 : Nat} {k : List Item} {S : Ms} {r : Nat → Option Nat} {fz : List Nat} {tl : List (Nat × D)} {hT : Hp} (h : Mh m r fz tl hT S)
    (hn : XK P m f nt R (some ⟨all, false, i, rest, lg, nx0⟩) k ⟨tOf tl, hT, S.nx⟩) : XK P m f nt R (some ⟨all, false, i, rest, lg, nx0⟩) k S :=
  XK.sub (S' := ⟨tOf tl, hT, S.nx⟩) (lg' := lg) (h.sub lg lg) hn
end

theorem CMs.app {hT hS : Hp} {r : Nat → Option Nat} {fz : List Nat} : ∀ {as as' bs bs' : List C}, CMs hT r hS fz as as' → CMs hT r hS fz bs bs' → CMs hT r hS fz (as ++ bs) (as' ++ bs')
  | [], as', bs, bs', h, h' => by simp only [CMs] at h; subst h; exact h'
  | a :: as, [], bs, bs', h, h' => by simp [CMs] at h
  | a :: as, a' :: as', bs, bs', h, h' => by
    simp only [CMs, List.cons_append] at h ⊢
    exact ⟨h.1, CMs.app h.2 h'⟩
theorem CMs.set {hT hS : Hp} {r : Nat → Option Nat} {fz : List Nat} : ∀ {as bs : List C} (i : Nat) {a b : C}, CMs hT r hS fz as bs → CM hT r hS fz a b → CMs hT r hS fz (as.set i a) (bs.set i b)
  | [], bs, i, a, b, h, _ => by simp only [CMs] at h; subst h; simp [CMs]
  | x :: as, [], i, a, b, h, _ => by simp [CMs] at h
  | x :: as, y :: bs, 0, a, b, h, h' => by
    simp only [CMs] at h
    simp only [List.set_cons_zero, CMs]
    exact ⟨h', h.2⟩
  | x :: as, y :: bs, i + 1, a, b, h, h' => by
    simp only [CMs] at h
    simp only [List.set_cons_succ, CMs]
    exact ⟨h.1, CMs.set i h.2 h'⟩
end Go.CT

namespace Go.CT
/-- Some value reads as this cell. -/
def Real (c : C) : Prop := ∃ I w s x, RC I w s x c
theorem Real.isl {sz : Nat} {xs : List (List C)} (h : Real (.isl sz xs)) : xs.length ≤ mx ∧ ∀ x ∈ xs, ∀ c ∈ x, Real c := by
  obtain ⟨I, w, s, x, h⟩ := h
  cases h with
  | isl0 => exact ⟨by simp, by simp⟩
  | isl _ b off cap _ _ y hI hl hc hr hcap =>
    refine ⟨hcap.2, fun x hx c hc' => ?_⟩
    obtain ⟨i, hi, rfl⟩ := List.mem_iff_getElem.1 hx
    obtain ⟨j, hj, rfl⟩ := List.mem_iff_getElem.1 hc'
    exact ⟨_, _, _, _, hr i hi j hj⟩
end Go.CT

/- Blocks lent: a call that is known for plain data may be given blocks that somebody owns; it leaves them as they are. -/
namespace Go.CT
end Go.CT

/- A contract weakened: what is left may be taken for other data. -/
namespace Go.CT
end Go.CT
