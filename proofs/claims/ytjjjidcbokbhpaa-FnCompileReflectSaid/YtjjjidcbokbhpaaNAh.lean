/- Calls taken by contracts out of a list: what fails, fails early. -/
import Derived.KernelRfl
import Derived.Test.YtjjjidcbokbhpaaNAg
set_option linter.unusedVariables false
set_option linter.unusedSimpArgs false
set_option maxHeartbeats 16000000
set_option maxRecDepth 100000
namespace Go.CT
section
variable {P : Program} {m : Nat} {f : FuncId} {nt : Nat} {R : D → List (Option (List C)) → Prop}
theorem XK.p {all : Array Oper} {dr : Bool} {i : Nat} {o : Oper} {rest : List Oper} {lg : Lg} {nx0 : Nat} {k : List Item} {S : Ms} {F : FuncId} {args : List D} {d0 : D}
    (hD : DC P F args [] (fun d h' => d = d0 ∧ h' = [])) (hfn : fnOK P F = true)
    (next : XK P m f nt R (some ⟨all, dr, i + 1, rest, upd lg i (some ([], [])), nx0⟩) k ⟨setT S.tm o.dst (some d0), S.hp, S.nx⟩)
    (hop : o.op = .call (getCall o) := by rfl) (hg : o.guard = none := by rfl) (hc : calleeOf S.tm (getCall o) = some (F, args.map (renD (rk0 [] (wkey nx0 i)))) := by rfl) (hok : okB S.tm (getCall o).operands.toList = true := by rfl)
    (hren : renD (rkey [] (wkey nx0 i)) d0 = d0 := by rfl) (hm : m ≤ wkey nx0 i := by first | exact Nat.zero_le _ | (simp only [wkey]; decide)) (hf : fitsT nt o.dst = true := by rfl)
    (hb : ∀ j, j < 64 → S.hp (wkey nx0 i + j) = none := by exact hbT ()) (hdr : dr = true → lgok nx0 all lg i [] [] = true := by first | (intro h; cases h; done) | (intro _; kernel_rfl)) :
    XK P m f nt R (some ⟨all, dr, i, o :: rest, lg, nx0⟩) k S :=
  XK.pure hD (getCall o) hop hg hc (okP_of hok) hfn hm hb hf hdr (by rw [hren]; exact next)
/-- A guarded call that only computes. -/
theorem XK.gp {all : Array Oper} {dr : Bool} {i : Nat} {o : Oper} {rest : List Oper} {lg : Lg} {nx0 : Nat} {k : List Item} {S : Ms} {F : FuncId} {args : List D} {d0 : D} {g : Nat} {b x : Bool}
    (hD : DC P F args [] (fun d h' => d = d0 ∧ h' = [])) (hfn : fnOK P F = true)
    (next : XK P m f nt R (some ⟨all, dr, i + 1, rest, upd lg i (some ([], [])), nx0⟩) k ⟨setT S.tm o.dst (some (.when x d0)), S.hp, S.nx⟩)
    (hop : o.op = .call (getCall o) := by rfl) (hg : o.guard = some (g, b) := by rfl) (hc : calleeOf S.tm (getCall o) = some (F, args.map (renD (rk0 [] (wkey nx0 i)))) := by rfl)
    (hx : guardB all S.tm g b = some x := by rfl)
    (hok : x = true → okP S.tm (getCall o).operands.toList := by intro hx; simp [okP, getCall, Call.operands, evT, upd, peelB, DB, DI, cst, one] at hx ⊢; first | done | exact hx | (simp_all; done) | omega)
    (hren : renD (rkey [] (wkey nx0 i)) d0 = d0 := by rfl) (hm : m ≤ wkey nx0 i := by first | exact Nat.zero_le _ | (simp only [wkey]; decide))
    (hcf : ∃ f, (getCall o).callee = .value f := by exact ⟨_, rfl⟩) (hf : fitsT nt o.dst = true := by rfl)
    (hb : ∀ j, j < 64 → S.hp (wkey nx0 i + j) = none := by exact hbT ()) (hdr : dr = true → lgok nx0 all lg i [] [] = true := by first | (intro h; cases h; done) | (intro _; kernel_rfl)) :
    XK P m f nt R (some ⟨all, dr, i, o :: rest, lg, nx0⟩) k S :=
  XK.gpure g b x (getCall o) hg hx hop hcf (fun e => ⟨F, args, hc, hok e, hfn, hD, hren⟩) hm hb hf hdr next
/-- A guarded call that does not occur. -/
theorem XK.gs {all : Array Oper} {dr : Bool} {i : Nat} {o : Oper} {rest : List Oper} {lg : Lg} {nx0 : Nat} {k : List Item} {S : Ms} {g : Nat} {b : Bool} (d0 : D)
    (next : XK P m f nt R (some ⟨all, dr, i + 1, rest, upd lg i (some ([], [])), nx0⟩) k ⟨setT S.tm o.dst (some (.when false d0)), S.hp, S.nx⟩)
    (hop : o.op = .call (getCall o) := by rfl) (hg : o.guard = some (g, b) := by rfl)
    (hx : guardB all S.tm g b = some false := by first | rfl | (simp [guardB, evT, upd, peelB, peelD, DB, DI]; done))
    (hm : m ≤ wkey nx0 i := by first | exact Nat.zero_le _ | (simp only [wkey]; decide))
    (hcf : ∃ f, (getCall o).callee = .value f := by exact ⟨_, rfl⟩) (hf : fitsT nt o.dst = true := by rfl)
    (hb : ∀ j, j < 64 → S.hp (wkey nx0 i + j) = none := by exact hbT ()) (hdr : dr = true → lgok nx0 all lg i [] [] = true := by first | (intro h; cases h; done) | (intro _; kernel_rfl)) :
    XK P m f nt R (some ⟨all, dr, i, o :: rest, lg, nx0⟩) k S :=
  XK.gpure g b false (getCall o) hg hx hop hcf (fun e => by cases e) hm hb hf hdr next
end
end Go.CT

namespace Go.CT
def HH (hp : Hp) (r : Nat → Nat) : List Nat → List (Option (List C)) → Prop
  | [], [] => True
  | k :: ks, h :: hs => hp k = some (h.map (renCs r)) ∧ HH hp r ks hs
  | _, _ => False
theorem hhpG {hp : Hp} {r : Nat → Nat} : ∀ {ks : List Nat} {hs : List (Option (List C))}, HH hp r ks hs → ∀ i' x, hs[i']? = some x → hp (ks.getD i' 0) = some (x.map (renCs r))
  | [], [], _, i', x, hx => by simp at hx
  | k :: ks, h :: hs, hh, 0, x, hx => by simp only [List.getElem?_cons_zero, Option.some.injEq] at hx; subst hx; exact hh.1
  | k :: ks, h :: hs, hh, i' + 1, x, hx => by
    have := hhpG hh.2 i' x (by simpa using hx)
    simpa using this
section
variable {P : Program} {m : Nat} {f : FuncId} {nt : Nat} {R : D → List (Option (List C)) → Prop}
end
end Go.CT

namespace Go.CT
section
variable {P : Program} {m : Nat} {f : FuncId} {nt : Nat} {R : D → List (Option (List C)) → Prop}
/-- A state may be taken for another that is given as a function. -/
structure Mh (m : Nat) (r : Nat → Option Nat) (fz : List Nat) (tl : List (Nat × D)) (hT : Hp) (S : Ms) : Prop where
  tm : TmOK hT r S.hp fz S.tm tl
  hp : SubH m r fz hT S.hp
theorem Go.subH {r : Nat → Option Nat} {fz : List Nat} {tl : List (Nat × D)} {hT : Hp} {S : Ms} {k : List Item} (nx : Nat) (h : Mh m r fz tl hT S) (hg : Go P m f nt R k ⟨tOf tl, hT, nx⟩) : Go P m f nt R k S := fun I w s a hR cs => by
  obtain ⟨H', E'⟩ := h.hp.sim hR.H
  have hR' : Rc (subI fz S.hp s I) w (subS r hT s) a (tOf tl) hT nt := ⟨H', fun n d hd => by
    obtain ⟨d', h1, h2⟩ := h.tm.at n d hd
    exact DM.rd hR.H d d' h2 (hR.tm n d' h1), hR.df, hR.sz⟩
  obtain ⟨v, w', fr, I', s', d, h', g1, g2, g3, g4, g5, g6, g7⟩ := hg _ w _ a hR' cs
  exact ⟨v, w', fr, I', s', d, h', g1, g2, g3, E'.trans g4, g5, g6, g7⟩
theorem Mh.sub {r : Nat → Option Nat} {fz : List Nat} {tl : List (Nat × D)} {hT : Hp} {S : Ms} (h : Mh m r fz tl hT S) (lg lg' : Lg) : Sub m nt ⟨S.tm, S.hp, lg⟩ ⟨tOf tl, hT, lg'⟩ := fun I w s a hR => by
  obtain ⟨H', E'⟩ := h.hp.sim hR.H
  exact ⟨_, _, ⟨H', fun n d hd => by
    obtain ⟨d', h1, h2⟩ := h.tm.at n d hd
    exact DM.rd hR.H d d' h2 (hR.tm n d' h1), hR.df, hR.sz⟩, E'⟩
theorem XK.subH {all : Array Oper} {i : Nat} {rest : List Oper} {lg : Lg} {nx0 : Nat} {k : List Item} {S : Ms} {r : Nat → Option Nat} {fz : List Nat} {tl : List (Nat × D)} {hT : Hp} (h : Mh m r fz tl hT S)
    (hn : XK P m f nt R (some ⟨all, false, i, rest, lg, nx0⟩) k ⟨tOf tl, hT, S.nx⟩) : XK P m f nt R (some ⟨all, false, i, rest, lg, nx0⟩) k S :=
  XK.sub (S' := ⟨tOf tl, hT, S.nx⟩) (lg' := lg) (h.sub lg lg) hn
end

theorem CMs.set {hT hS : Hp} {r : Nat → Option Nat} {fz : List Nat} : ∀ {as bs : List C} (i : Nat) {a b : C}, CMs hT r hS fz as bs → CM hT r hS fz a b → CMs hT r hS fz (as.set i a) (bs.set i b)
  | [], bs, i, a, b, h, _ => by simp only [CMs] at h; subst h; simp [CMs]
  | x :: as, [], i, a, b, h, _ => by simp [CMs] at h
  | x :: as, y :: bs, 0, a, b, h, h' => by
    simp only [CMs] at h
    simp only [List.set_cons_zero, CMs]
    exact ⟨h', h.2⟩
  | x :: as, y :: bs, i + 1, a, b, h, h' => by
    simp only [CMs] at h
    simp only [List.set_cons_succ, CMs]
    exact ⟨h.1, CMs.set i h.2 h'⟩
end Go.CT

namespace Go.CT
end Go.CT

/- Blocks lent: a call that is known for plain data may be given blocks that somebody owns; it leaves them as they are. -/
namespace Go.CT
end Go.CT

/- A contract weakened: what is left may be taken for other data. -/
namespace Go.CT
end Go.CT
