/- Fresh keys, by the make of the state. -/
import Derived.KernelRfl
import Derived.Test.YtpphageokplgoaaGreatPAiX
set_option linter.unusedVariables false
set_option linter.unusedSimpArgs false
set_option maxHeartbeats 16000000
set_option maxRecDepth 100000
namespace Go.CT
theorem frU {f : Hp} {n b : Nat} {x : Option (Option (List C))} (h : ∀ j, j < 64 → f (b + j) = none) (hn : n < b ∨ b + 64 ≤ n) : ∀ j, j < 64 → upd f n x (b + j) = none := fun j hj => by
  rw [upd_ne _ _ (by omega)]; exact h j hj
theorem frL {h : List (Option (List C))} {b : Nat} (hl : h.length ≤ b) : ∀ j, j < 64 → hpL h (b + j) = none := fun j hj => by
  simp only [hpL]; exact List.getElem?_eq_none (by omega)
theorem frO {b : Nat} : ∀ j, j < 64 → hOf [] (b + j) = none := fun _ _ => rfl
theorem hbT {hp : Hp} {nx0 i : Nat} (_u : Unit) (h : ∀ j, j < 64 → hp (wkey nx0 i + j) = none := by first | (intro j hj; rfl) | ((repeat (first | exact frL (by simp) | exact frO | refine frU ?_ (by simp only [wkey]; omega))); done) | (intro j hj; simp only [upd, wkey, hpL, hOf, List.getElem?_nil]; (repeat rw [if_neg (by omega)]); done) | (intro j hj; simp only [upd, wkey, hpL, hOf, List.getElem?_nil]; (repeat' split) <;> first | (exfalso; omega) | rfl | (apply List.getElem?_eq_none; simp only [List.length_cons, List.length_nil]; omega))) :
    ∀ j, j < 64 → hp (wkey nx0 i + j) = none := h
theorem sd {a : Prop} (ha : a := by ((repeat' with_reducible apply And.intro) <;> first | omega | (simp only [InK]; omega) | (intro k e; cases e; rfl) | (intro hguard; exact ⟨hguard, by simp only [InK]; omega⟩) | kernel_rfl)) : a := ha
end Go.CT
namespace Go.CT
section
variable {P : Program}
theorem DC.args {F : FuncId} {as as' : List D} {h : List (Option (List C))} {R : D → List (Option (List C)) → Prop} (hs : ∀ I w s vs, RDs I w s vs as' → RDs I w s vs as) (hD : DC P F as h R) : DC P F as' h R :=
  fun I w s vs H hv => hD I w s vs H (hs I w s vs hv)
theorem RC.nil {I : Nat → Prop} {w : World} {s : Sg} {x : Value} {sz : Nat} (h : RC I w s x (.v (.slice none 0 0))) : RC I w s x (.isl sz []) := by
  cases h with | v _ _ _ => exact .isl0 _ none 0 sz
theorem RD.nilAt {I : Nat → Prop} {w : World} {s : Sg} {x : Value} {sz : Nat} {pre post : List C} (h : RD I w s x (.agg (pre ++ .v (.slice none 0 0) :: post))) : RD I w s x (.agg (pre ++ .isl sz [] :: post)) := by
  cases h with
  | agg vs cs hl hr =>
    refine .agg vs _ (by simpa using hl) fun j h1 h2 => ?_
    have h3 : j < (pre ++ C.v (.slice none 0 0) :: post).length := by simpa using h2
    have h4 := hr j h1 h3
    rcases Nat.lt_trichotomy j pre.length with hj | hj | hj
    · rw [List.getElem_append_left hj] at h4 ⊢; exact h4
    · subst hj
      simp only [List.getElem_append_right (Nat.le_refl _), Nat.sub_self, List.getElem_cons_zero] at h4 ⊢
      exact h4.nil
    · obtain ⟨i, rfl⟩ : ∃ i, j = pre.length + (i + 1) := ⟨j - pre.length - 1, by omega⟩
      simp only [List.getElem_append_right (Nat.le_add_right _ _), Nat.add_sub_cancel_left, List.getElem_cons_succ] at h4 ⊢
      exact h4
theorem DC.nilAgg {F : FuncId} (as bs : List D) (sz : Nat) (pre post : List C) {h : List (Option (List C))} {R : D → List (Option (List C)) → Prop} (hD : DC P F (as ++ .agg (pre ++ .isl sz [] :: post) :: bs) h R) :
    DC P F (as ++ .agg (pre ++ .v (.slice none 0 0) :: post) :: bs) h R :=
  DC.args (fun I w s vs hv => by
    obtain ⟨hl, hr⟩ := hv
    refine ⟨by simpa using hl, fun j h1 h2 => ?_⟩
    have h3 : j < (as ++ D.agg (pre ++ .v (.slice none 0 0) :: post) :: bs).length := by simpa using h2
    have h4 := hr j h1 h3
    rcases Nat.lt_trichotomy j as.length with hj | hj | hj
    · rw [List.getElem_append_left hj] at h4 ⊢; exact h4
    · subst hj
      simp only [List.getElem_append_right (Nat.le_refl _), Nat.sub_self, List.getElem_cons_zero] at h4 ⊢
      exact h4.nilAt
    · obtain ⟨i, rfl⟩ : ∃ i, j = as.length + (i + 1) := ⟨j - as.length - 1, by omega⟩
      simp only [List.getElem_append_right (Nat.le_add_right _ _), Nat.add_sub_cancel_left, List.getElem_cons_succ] at h4 ⊢
      exact h4) hD
end
end Go.CT
namespace Go.CT
def wkL : List C → List C → Prop
  | [], cs => cs = []
  | c' :: r', cs => (match cs with | c :: r => (c' = c ∨ ∃ sz, c' = .isl sz [] ∧ c = .v (.slice none 0 0)) ∧ wkL r' r | [] => False)
theorem wkL.refl : ∀ cs : List C, wkL cs cs
  | [] => rfl
  | c :: r => ⟨.inl rfl, wkL.refl r⟩
theorem wkL.append : ∀ {a b c d : List C}, wkL a b → wkL c d → wkL (a ++ c) (b ++ d)
  | [], b, c, d, h, h' => by
    simp only [wkL] at h
    subst h
    exact h'
  | x :: r, b, c, d, h, h' => by
    cases b with
    | nil => simp [wkL] at h
    | cons y q => exact ⟨h.1, wkL.append h.2 h'⟩
theorem wkL.len : ∀ {cs' cs : List C}, wkL cs' cs → cs'.length = cs.length
  | [], cs, h => by simp only [wkL] at h; subst h; rfl
  | c' :: r', [], h => by simp [wkL] at h
  | c' :: r', c :: r, h => by simp only [List.length_cons, wkL.len h.2]
theorem wkL.rc {I : Nat → Prop} {w : World} {s : Sg} : ∀ {cs' cs : List C}, wkL cs' cs → ∀ (j : Nat) (h : j < cs.length) (h' : j < cs'.length) {x : Value}, RC I w s x cs[j] → RC I w s x cs'[j]
  | [], cs, h, j, h1, h2, x, hr => by simp at h2
  | c' :: r', [], h, j, h1, h2, x, hr => by simp [wkL] at h
  | c' :: r', c :: r, h, 0, h1, h2, x, hr => by
    simp only [List.getElem_cons_zero] at hr ⊢
    rcases h.1 with e | ⟨sz, e1, e2⟩
    · rw [e]; exact hr
    · rw [e2] at hr; rw [e1]; exact hr.nil
  | c' :: r', c :: r, h, j + 1, h1, h2, x, hr => by
    simp only [List.getElem_cons_succ] at hr ⊢
    exact wkL.rc h.2 j (by simpa using h1) (by simpa using h2) hr
def frC (k sz : Nat) (xs : List (List C)) : C → C
  | .msl k' sz' off len => (match Nat.beq k' k && Nat.beq off 0 && Nat.beq sz' sz && Nat.beq len xs.length with | true => .isl sz xs | false => .msl k' sz' off len)
  | c => c
def frD (k sz : Nat) (xs : List (List C)) : D → D
  | .c x => .c (frC k sz xs x)
  | .agg cs => .agg (cs.map (frC k sz xs))
  | d => d
def frT (k sz : Nat) (xs : List (List C)) (tm : Nat → Option D) : Nat → Option D := fun n => (tm n).map (frD k sz xs)
section
variable {m nt : Nat} {I : Nat → Prop} {w : World} {s : Sg} {hp : Hp}
variable {P : Program} {f : FuncId} {R : D → List (Option (List C)) → Prop}
end
attribute [go_sem] frT frD frC
end Go.CT
namespace Go.CT
section
variable {P : Program} {m : Nat} {f : FuncId} {nt : Nat} {R : D → List (Option (List C)) → Prop}
theorem XK.p {all : Array Oper} {dr : Bool} {i : Nat} {o : Oper} {rest : List Oper} {lg : Lg} {nx0 : Nat} {k : List Item} {S : Ms} {F : FuncId} {args : List D} {d0 : D}
    (hD : DC P F args [] (fun d h' => d = d0 ∧ h' = [])) (hfn : fnOK P F = true)
    (next : XK P m f nt R (some ⟨all, dr, i + 1, rest, upd lg i (some ([], [])), nx0⟩) k ⟨setT S.tm o.dst (some d0), S.hp, S.nx⟩)
    (hop : o.op = .call (getCall o) := by rfl) (hg : o.guard = none := by rfl) (hc : calleeOf S.tm (getCall o) = some (F, args.map (renD (rk0 [] (wkey nx0 i)))) := by rfl) (hok : okB S.tm (getCall o).operands.toList = true := by rfl)
    (hren : renD (rkey [] (wkey nx0 i)) d0 = d0 := by rfl) (hm : m ≤ wkey nx0 i := by first | exact Nat.zero_le _ | (simp only [wkey]; decide)) (hf : fitsT nt o.dst = true := by rfl)
    (hb : ∀ j, j < 64 → S.hp (wkey nx0 i + j) = none := by exact hbT ()) (hdr : dr = true → lgok nx0 all lg i [] [] = true := by first | (intro h; cases h; done) | (intro _; kernel_rfl)) :
    XK P m f nt R (some ⟨all, dr, i, o :: rest, lg, nx0⟩) k S :=
  XK.pure hD (getCall o) hop hg hc (okP_of hok) hfn hm hb hf hdr (by rw [hren]; exact next)
theorem XK.gp {all : Array Oper} {dr : Bool} {i : Nat} {o : Oper} {rest : List Oper} {lg : Lg} {nx0 : Nat} {k : List Item} {S : Ms} {F : FuncId} {args : List D} {d0 : D} {g : Nat} {b x : Bool}
    (hD : DC P F args [] (fun d h' => d = d0 ∧ h' = [])) (hfn : fnOK P F = true)
    (next : XK P m f nt R (some ⟨all, dr, i + 1, rest, upd lg i (some ([], [])), nx0⟩) k ⟨setT S.tm o.dst (some (.when x d0)), S.hp, S.nx⟩)
    (hop : o.op = .call (getCall o) := by rfl) (hg : o.guard = some (g, b) := by rfl) (hc : calleeOf S.tm (getCall o) = some (F, args.map (renD (rk0 [] (wkey nx0 i)))) := by rfl)
    (hx : guardB all S.tm g b = some x := by rfl)
    (hok : x = true → okP S.tm (getCall o).operands.toList := by intro hx; simp [okP, getCall, Call.operands, evT, upd, peelB, DB, DI, cst, one] at hx ⊢; first | done | exact hx | (simp_all; done) | omega)
    (hren : renD (rkey [] (wkey nx0 i)) d0 = d0 := by rfl) (hm : m ≤ wkey nx0 i := by first | exact Nat.zero_le _ | (simp only [wkey]; decide))
    (hcf : ∃ f, (getCall o).callee = .value f := by exact ⟨_, rfl⟩) (hf : fitsT nt o.dst = true := by rfl)
    (hb : ∀ j, j < 64 → S.hp (wkey nx0 i + j) = none := by exact hbT ()) (hdr : dr = true → lgok nx0 all lg i [] [] = true := by first | (intro h; cases h; done) | (intro _; kernel_rfl)) :
    XK P m f nt R (some ⟨all, dr, i, o :: rest, lg, nx0⟩) k S :=
  XK.gpure g b x (getCall o) hg hx hop hcf (fun e => ⟨F, args, hc, hok e, hfn, hD, hren⟩) hm hb hf hdr next
theorem XK.gs {all : Array Oper} {dr : Bool} {i : Nat} {o : Oper} {rest : List Oper} {lg : Lg} {nx0 : Nat} {k : List Item} {S : Ms} {g : Nat} {b : Bool} (d0 : D)
    (next : XK P m f nt R (some ⟨all, dr, i + 1, rest, upd lg i (some ([], [])), nx0⟩) k ⟨setT S.tm o.dst (some (.when false d0)), S.hp, S.nx⟩)
    (hop : o.op = .call (getCall o) := by rfl) (hg : o.guard = some (g, b) := by rfl)
    (hx : guardB all S.tm g b = some false := by first | rfl | (simp [guardB, evT, upd, peelB, peelD, DB, DI]; done))
    (hm : m ≤ wkey nx0 i := by first | exact Nat.zero_le _ | (simp only [wkey]; decide))
    (hcf : ∃ f, (getCall o).callee = .value f := by exact ⟨_, rfl⟩) (hf : fitsT nt o.dst = true := by rfl)
    (hb : ∀ j, j < 64 → S.hp (wkey nx0 i + j) = none := by exact hbT ()) (hdr : dr = true → lgok nx0 all lg i [] [] = true := by first | (intro h; cases h; done) | (intro _; kernel_rfl)) :
    XK P m f nt R (some ⟨all, dr, i, o :: rest, lg, nx0⟩) k S :=
  XK.gpure g b false (getCall o) hg hx hop hcf (fun e => by cases e) hm hb hf hdr next
end
end Go.CT
namespace Go.CT
def HH (hp : Hp) (r : Nat → Nat) : List Nat → List (Option (List C)) → Prop
  | [], [] => True
  | k :: ks, h :: hs => hp k = some (h.map (renCs r)) ∧ HH hp r ks hs
  | _, _ => False
theorem hhpG {hp : Hp} {r : Nat → Nat} : ∀ {ks : List Nat} {hs : List (Option (List C))}, HH hp r ks hs → ∀ i' x, hs[i']? = some x → hp (ks.getD i' 0) = some (x.map (renCs r))
  | [], [], _, i', x, hx => by simp at hx
  | k :: ks, h :: hs, hh, 0, x, hx => by simp only [List.getElem?_cons_zero, Option.some.injEq] at hx; subst hx; exact hh.1
  | k :: ks, h :: hs, hh, i' + 1, x, hx => by
    have := hhpG hh.2 i' x (by simpa using hx)
    simpa using this
section
variable {P : Program} {m : Nat} {f : FuncId} {nt : Nat} {R : D → List (Option (List C)) → Prop}
theorem kfs_mapI (l : List C) (h : ∀ c ∈ l, kf c = true) : kfs l = true := by
  induction l with
  | nil => rfl
  | cons a r ih => simp only [kfs, Bool.and_eq_true]; exact ⟨h a (by simp), ih fun c hc => h c (by simp [hc])⟩
def KF : List (Option (List C)) → Prop
  | [] => True
  | none :: r => KF r
  | some cs :: r => kfs cs = true ∧ KF r
theorem KF.mem : ∀ {h : List (Option (List C))}, KF h → ∀ cs, some cs ∈ h → kfs cs = true
  | none :: r, hk, cs, hm => KF.mem (h := r) hk cs (by simpa using hm)
  | some c :: r, hk, cs, hm => by
    rcases List.mem_cons.1 hm with e | e
    · cases e; exact hk.1
    · exact KF.mem hk.2 cs e
theorem XK.rp {all : Array Oper} {dr : Bool} {i : Nat} {o : Oper} {rest : List Oper} {lg : Lg} {nx0 : Nat} {k : List Item} {S : Ms} {F : FuncId} {args : List D} {h : List (Option (List C))} {d0 : D}
    (ks : List Nat) (hD : DC P F args h (fun d h' => d = d0 ∧ h' = h)) (hfn : fnOK P F = true) (hh : HH S.hp (rk0 ks (wkey nx0 i)) ks h) (hkf : KF h)
    (next : XK P m f nt R (some ⟨all, dr, i + 1, rest, upd lg i (some (ks, [])), nx0⟩) k ⟨setT S.tm o.dst (some (renD (rkey ks (wkey nx0 i)) d0)), S.hp, S.nx⟩)
    (hop : o.op = .call (getCall o) := by rfl) (hg : o.guard = none := by rfl) (hc : calleeOf S.tm (getCall o) = some (F, args.map (renD (rk0 ks (wkey nx0 i)))) := by rfl) (hok : okB S.tm (getCall o).operands.toList = true := by rfl)
    (hks : ks.length = h.length := by rfl) (hnd : ks.Nodup := by decide) (hm : m ≤ wkey nx0 i := by first | exact Nat.zero_le _ | (simp only [wkey]; decide)) (hf : fitsT nt o.dst = true := by rfl)
    (hb : ∀ j, j < 64 → S.hp (wkey nx0 i + j) = none := by exact hbT ()) (hdr : dr = true → lgok nx0 all lg i ks [] = true := by first | (intro h; cases h; done) | (intro _; kernel_rfl)) :
    XK P m f nt R (some ⟨all, dr, i, o :: rest, lg, nx0⟩) k S := by
  simp only [XK, dopsL]
  refine Pre.intro ⟨ks, [], _, .rcall (getCall o) F args ks h _ (.inl hg) hop hc (okP_of hok) hfn hD hks hnd (hhpG hh) hm hb (fun d h' e => e.2) hkf.mem, hf, fun e => ⟨hdr e, _, _, d0, ⟨rfl, rfl⟩, rfl, rfl⟩, fun d up ht => ?_⟩
  obtain ⟨d', ⟨rfl, _⟩, rfl, rfl⟩ := ht
  exact next
end
end Go.CT
namespace Go.CT
section
variable {P : Program} {m : Nat} {f : FuncId} {nt : Nat} {R : D → List (Option (List C)) → Prop}
structure Mh (m : Nat) (r : Nat → Option Nat) (fz : List Nat) (tl : List (Nat × D)) (hT : Hp) (S : Ms) : Prop where
  tm : TmOK hT r S.hp fz S.tm tl
  hp : SubH m r fz hT S.hp
theorem Go.subH {r : Nat → Option Nat} {fz : List Nat} {tl : List (Nat × D)} {hT : Hp} {S : Ms} {k : List Item} (nx : Nat) (h : Mh m r fz tl hT S) (hg : Go P m f nt R k ⟨tOf tl, hT, nx⟩) : Go P m f nt R k S := fun I w s a hR cs => by
  obtain ⟨H', E'⟩ := h.hp.sim hR.H
  have hR' : Rc (subI fz S.hp s I) w (subS r hT s) a (tOf tl) hT nt := ⟨H', fun n d hd => by
    obtain ⟨d', h1, h2⟩ := h.tm.at n d hd
    exact DM.rd hR.H d d' h2 (hR.tm n d' h1), hR.df, hR.sz⟩
  obtain ⟨v, w', fr, I', s', d, h', g1, g2, g3, g4, g5, g6, g7⟩ := hg _ w _ a hR' cs
  exact ⟨v, w', fr, I', s', d, h', g1, g2, g3, E'.trans g4, g5, g6, g7⟩
theorem Mh.sub {r : Nat → Option Nat} {fz : List Nat} {tl : List (Nat × D)} {hT : Hp} {S : Ms} (h : Mh m r fz tl hT S) (lg lg' : Lg) : Sub m nt ⟨S.tm, S.hp, lg⟩ ⟨tOf tl, hT, lg'⟩ := fun I w s a hR => by
  obtain ⟨H', E'⟩ := h.hp.sim hR.H
  exact ⟨_, _, ⟨H', fun n d hd => by
    obtain ⟨d', h1, h2⟩ := h.tm.at n d hd
    exact DM.rd hR.H d d' h2 (hR.tm n d' h1), hR.df, hR.sz⟩, E'⟩
theorem XK.subH {all : Array Oper} {i : Nat} {rest : List Oper} {lg : Lg} {nx0 : Nat} {k : List Item} {S : Ms} {r : Nat → Option Nat} {fz : List Nat} {tl : List (Nat × D)} {hT : Hp} (h : Mh m r fz tl hT S)
    (hn : XK P m f nt R (some ⟨all, false, i, rest, lg, nx0⟩) k ⟨tOf tl, hT, S.nx⟩) : XK P m f nt R (some ⟨all, false, i, rest, lg, nx0⟩) k S :=
  XK.sub (S' := ⟨tOf tl, hT, S.nx⟩) (lg' := lg) (h.sub lg lg) hn
end
theorem CMs.app {hT hS : Hp} {r : Nat → Option Nat} {fz : List Nat} : ∀ {as as' bs bs' : List C}, CMs hT r hS fz as as' → CMs hT r hS fz bs bs' → CMs hT r hS fz (as ++ bs) (as' ++ bs')
  | [], as', bs, bs', h, h' => by simp only [CMs] at h; subst h; exact h'
  | a :: as, [], bs, bs', h, h' => by simp [CMs] at h
  | a :: as, a' :: as', bs, bs', h, h' => by
    simp only [CMs, List.cons_append] at h ⊢
    exact ⟨h.1, CMs.app h.2 h'⟩
theorem CMs.set {hT hS : Hp} {r : Nat → Option Nat} {fz : List Nat} : ∀ {as bs : List C} (i : Nat) {a b : C}, CMs hT r hS fz as bs → CM hT r hS fz a b → CMs hT r hS fz (as.set i a) (bs.set i b)
  | [], bs, i, a, b, h, _ => by simp only [CMs] at h; subst h; simp [CMs]
  | x :: as, [], i, a, b, h, _ => by simp [CMs] at h
  | x :: as, y :: bs, 0, a, b, h, h' => by
    simp only [CMs] at h
    simp only [List.set_cons_zero, CMs]
    exact ⟨h', h.2⟩
  | x :: as, y :: bs, i + 1, a, b, h, h' => by
    simp only [CMs] at h
    simp only [List.set_cons_succ, CMs]
    exact ⟨h.1, CMs.set i h.2 h'⟩
end Go.CT
namespace Go.CT
def Real (c : C) : Prop := ∃ I w s x, RC I w s x c
theorem Real.isl {sz : Nat} {xs : List (List C)} (h : Real (.isl sz xs)) : xs.length ≤ mx ∧ ∀ x ∈ xs, ∀ c ∈ x, Real c := by
  obtain ⟨I, w, s, x, h⟩ := h
  cases h with
  | isl0 => exact ⟨by simp, by simp⟩
  | isl _ b off cap _ _ y hI hl hc hr hcap =>
    refine ⟨hcap.2, fun x hx c hc' => ?_⟩
    obtain ⟨i, hi, rfl⟩ := List.mem_iff_getElem.1 hx
    obtain ⟨j, hj, rfl⟩ := List.mem_iff_getElem.1 hc'
    exact ⟨_, _, _, _, hr i hi j hj⟩
end Go.CT
/- Blocks lent: a call that is known for plain data may be given blocks that somebody owns; it leaves them as they are. -/
namespace Go.CT
end Go.CT
/- A contract weakened: what is left may be taken for other data. -/
namespace Go.CT
theorem DC.weaken {P : Program} {F : FuncId} {args : List D} {h : List (Option (List C))} {R1 R2 : D → List (Option (List C)) → Prop} (hD : DC P F args h R1)
    (hw : ∀ d h', R1 d h' → h.length ≤ h'.length → RetOb h.length R2 d (hpL h')) : DC P F args h R2 := fun I w s vs H hv => by
  refine (hD I w s vs H hv).mono ?_
  rintro e w' ⟨v, I', s', d, h', rfl, hR, hrd, hH, hE, hl⟩
  obtain ⟨I2, s2, d2, h2, g1, g2, g3, g4, g5⟩ := hw d h' hR hl I' w' s' v hH hrd
  exact ⟨v, I2, s2, d2, h2, rfl, g1, g2, g3, hE.trans g4, g5⟩
end Go.CT
