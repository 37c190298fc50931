/- A walk that reckons by itself: 'drv' goes on as far as there is nothing to decide. -/
import Derived.Test.YtknihhjejbljgaaCtT
set_option linter.unusedVariables false
set_option linter.unusedSimpArgs false
namespace Go.CT

/-- The same, cheaper to reckon. -/
def lgokF (nx : Nat) (all : Array Oper) (lg : Lg) (i : Nat) (rd wr : List Nat) : Bool :=
  (List.range all.size).all fun j => j == i || (match lg j with | none => true | some (rd', wr') => indep nx i j rd wr rd' wr' || ord all j i || ord all i j)
theorem lgokF_eq (nx : Nat) (all : Array Oper) (lg : Lg) (i : Nat) (rd wr : List Nat) (h : lgokF nx all lg i rd wr = true) : lgok nx all lg i rd wr = true := by
  simp only [lgokF, lgok, List.all_eq_true] at h ⊢
  intro j hj
  have := h j hj
  split at this
  · rename_i e; simp [e]
  · rename_i rd' wr' e
    simp only [e, Bool.or_eq_true] at this ⊢
    rcases this with h | ((h | h) | h)
    · exact .inl h
    · exact .inr (.inr h)
    · exact .inr (.inl (.inl h))
    · exact .inr (.inl (.inr h))

def nxt (P : Program) (m nx0 : Nat) (all : Array Oper) (i : Nat) (o : Oper) (tm : Nat → Option D) (hp : Hp) : Option (Prop × Option D × List (Nat × Option (List C)) × List Nat) :=
  match o.guard with
  | none => (match stp P m (wkey nx0 i) tm hp o.op with
    | some out => some (out.vc, out.d, out.up, out.rd)
    | none => none)
  | some (g, b) => (match guardB all tm g b with
    | some x => (match stp P m (wkey nx0 i) tm hp o.op with
      | some out => some ((x = true → out.vc) ∧ out.up = [], out.d.map (.when x), [], out.rd)
      | none => some (x = false ∧ ∀ hp', stp P m (wkey nx0 i) tm hp' o.op = none, none, [], []))
    | none => none)

def retP (P : Program) (m : Nat) (R : D → List (Option (List C)) → Prop) (rs : List ResultVar) (S : Ms) : Prop :=
  match retD P S.tm S.hp rs with
  | some (vc, ds) => vc ∧ RetOb m R (oneD ds) S.hp
  | none => False

def drv (P : Program) (m : Nat) (f : FuncId) (nt : Nat) (R : D → List (Option (List C)) → Prop) (rs : List ResultVar) : Nat → Option Rg → List Item → Ms → Prop
  | 0, r, k, S => XK P m f nt R r k S
  | n + 1, some ⟨all, dr, i, [], lg, nx0⟩, k, S => drv P m f nt R rs n none k ⟨S.tm, S.hp, nx0 + 64 * all.size⟩
  | n + 1, some ⟨all, dr, i, o :: rest, lg, nx0⟩, k, S => if isFn o then XK P m f nt R (some ⟨all, dr, i, o :: rest, lg, nx0⟩) k S else
      (match nxt P m nx0 all i o S.tm S.hp with
      | some (vc, d, up, rd) => (vc ∧ fitsT nt o.dst = true ∧ (dr = true → lgokF nx0 all lg i rd (up.map (·.1)) = true)) ∧
          drv P m f nt R rs n (some ⟨all, dr, i + 1, rest, upd lg i (some (rd, up.map (·.1))), nx0⟩) k ⟨setT S.tm o.dst d, appUp S.hp up, S.nx⟩
      | none => False)
  | n + 1, none, [], S => retP P m R rs S
  | n + 1, none, .code (.seq a b) :: k, S => drv P m f nt R rs n none (.code a :: .code b :: k) S
  | n + 1, none, .code .skip :: k, S => drv P m f nt R rs n none k S
  | n + 1, none, .code (.label _) :: k, S => drv P m f nt R rs n none k S
  | n + 1, none, .inBlock _ :: k, S => drv P m f nt R rs n none k S
  | n + 1, none, .code (.block id c) :: k, S => drv P m f nt R rs n none (.code c :: .inBlock id :: k) S
  | n + 1, none, .code (.cond c x y) :: k, S => (match evT S.tm c with
      | some d => (match peelD d with
        | .c (.v (.bool t)) => peelB d = true ∧ (t = true → drv P m f nt R rs n none (.code x :: k) S) ∧ (t = false → drv P m f nt R rs n none (.code y :: k) S)
        | _ => False)
      | none => False)
  | n + 1, none, .code (.exit id) :: k, S => (match exitTo id k with
      | some k' => drv P m f nt R rs n none k' S
      | none => False)
  | n + 1, none, .code .ret :: k, S => retP P m R rs S
  | n + 1, none, .code (.region id all dr) :: k, S => (dr = true → drawOK all = true) ∧ drv P m f nt R rs n (some ⟨all, dr, 0, all.toList, fun _ => none, S.nx⟩) k S
  | n + 1, none, k, S => XK P m f nt R none k S

section
variable {P : Program} {m : Nat} {f : FuncId} {nt : Nat} {R : D → List (Option (List C)) → Prop}

theorem nxt_stp {nx0 : Nat} {all : Array Oper} {i : Nat} {o : Oper} {tm : Nat → Option D} {hp : Hp} (hf : isFn o = false) {vc : Prop} {d : Option D} {up : List (Nat × Option (List C))} {rd : List Nat}
    (h : nxt P m nx0 all i o tm hp = some (vc, d, up, rd)) (hvc : vc) : Stp P m nx0 all i o tm hp rd (up.map (·.1)) (fun d' up' => d' = d ∧ up' = up) := by
  unfold nxt at h
  split at h
  · rename_i hg
    split at h
    · rename_i out ho
      simp only [Option.some.injEq, Prod.mk.injEq] at h
      obtain ⟨rfl, rfl, rfl, rfl⟩ := h
      exact .plain out hg ho hvc
    · cases h
  · rename_i g b hg
    split at h
    · rename_i x hx
      split at h
      · rename_i out ho
        simp only [Option.some.injEq, Prod.mk.injEq] at h
        obtain ⟨rfl, rfl, rfl, rfl⟩ := h
        exact .gplain g b x out hg hx ho hvc.2 hvc.1
      · simp only [Option.some.injEq, Prod.mk.injEq] at h
        obtain ⟨rfl, rfl, rfl, rfl⟩ := h
        obtain ⟨rfl, hn⟩ := hvc
        refine .gnone g b hg hx hn fun c hc fo hcf => ?_
        unfold isFn at hf
        rw [hc] at hf
        simp only [hcf] at hf
        cases hf
    · cases h

theorem drv_sound {fn : Func} (hfn : P.funcs[f]? = some fn) (hmo : P.follows .mixedOrders = true) {rs : List ResultVar} (hrs : fn.results.toList = rs) : ∀ (n : Nat) (r : Option Rg) (k : List Item) (S : Ms), drv P m f nt R rs n r k S → XK P m f nt R r k S
  | 0, r, k, S, h => by simpa only [drv] using h
  | n + 1, some ⟨all, dr, i, [], lg, nx0⟩, k, S, h => by
    simp only [drv] at h
    have := drv_sound hfn hmo hrs n none k _ h
    simp only [XK, dopsL] at this ⊢
    exact Pre.intro this
  | n + 1, some ⟨all, dr, i, o :: rest, lg, nx0⟩, k, S, h => by
    simp only [drv] at h
    split at h
    · exact h
    · rename_i hf
      split at h
      · rename_i vc d up rd hn
        obtain ⟨⟨h1, h2, h3⟩, h4⟩ := h
        have h5 := drv_sound hfn hmo hrs n _ k _ h4
        simp only [XK, dopsL] at h5 ⊢
        refine Pre.intro ⟨rd, up.map (·.1), _, nxt_stp (by simpa using hf) hn h1, h2, fun hdr => ⟨lgokF_eq _ _ _ _ _ _ (h3 hdr), d, up, rfl, rfl⟩, fun d' up' ht => ?_⟩
        obtain ⟨rfl, rfl⟩ := ht
        exact h5
      · exact h.elim
  | n + 1, none, [], S, h => by
    simp only [drv, retP] at h
    split at h
    · rename_i vc ds hr
      exact Go.done hfn (by rw [hrs]; exact hr) h.1 h.2
    · exact h.elim
  | n + 1, none, .code c :: k, S, h => by
    cases c with
    | seq a b => simp only [drv] at h; exact Go.seq (drv_sound hfn hmo hrs n none _ S h)
    | skip => simp only [drv] at h; exact Go.skip (drv_sound hfn hmo hrs n none _ S h)
    | label l => simp only [drv] at h; exact Go.label (drv_sound hfn hmo hrs n none _ S h)
    | block id c => simp only [drv] at h; exact Go.block (drv_sound hfn hmo hrs n none _ S h)
    | cond c x y =>
      simp only [drv] at h
      split at h
      · rename_i d hd
        split at h
        · rename_i t ht
          exact Go.cond hd h.1 ht (fun e => drv_sound hfn hmo hrs n none _ S (h.2.1 e)) (fun e => drv_sound hfn hmo hrs n none _ S (h.2.2 e))
        · exact h.elim
      · exact h.elim
    | exit id =>
      simp only [drv] at h
      split at h
      · rename_i k' hk
        exact Go.exit hk (drv_sound hfn hmo hrs n none _ S h)
      · exact h.elim
    | ret =>
      simp only [drv, retP] at h
      split at h
      · rename_i vc ds hr
        exact Go.ret hfn (by rw [hrs]; exact hr) h.1 h.2
      · exact h.elim
    | region id all dr =>
      simp only [drv] at h
      exact Go.region (fun _ => hmo) h.1 (drv_sound hfn hmo hrs n _ k S h.2)
    | _ => simpa only [drv] using h
  | n + 1, none, .inBlock id :: k, S, h => by simp only [drv] at h; exact Go.inBlock (drv_sound hfn hmo hrs n none _ S h)
  | n + 1, none, .inLoop c :: k, S, h => by simpa only [drv] using h
  | n + 1, none, .inScope c :: k, S, h => by simpa only [drv] using h
  | n + 1, none, .inRegion a b :: k, S, h => by simpa only [drv] using h
  | n + 1, none, .inRangeFunc a :: k, S, h => by simpa only [drv] using h
  | n + 1, none, .endRangeFunc a :: k, S, h => by simpa only [drv] using h
  | n + 1, none, .beginRound :: k, S, h => by simpa only [drv] using h
  | n + 1, none, .call a b c d :: k, S, h => by simpa only [drv] using h
  | n + 1, none, .extern a b :: k, S, h => by simpa only [drv] using h

/-! ### Calls -/

/-- A call of a function, by its contract. 'ks': which blocks are handed over. -/
theorem XK.call {all : Array Oper} {dr : Bool} {i : Nat} {o : Oper} {rest : List Oper} {lg : Lg} {nx0 : Nat} {k : List Item} {S : Ms} {F : FuncId} {args : List D} {h : List (Option (List C))} {R' : D → List (Option (List C)) → Prop}
    (hD : DC P F args h R') (ks : List Nat) (c : Call) (hop : o.op = .call c) (hg : o.guard = none) (hc : calleeOf S.tm c = some (F, args.map (renD (rk0 ks (wkey nx0 i))))) (hok : okP S.tm c.operands.toList) (hfn : fnOK P F = true)
    (hks : ks.length = h.length) (hnd : ks.Nodup) (hhp : ∀ i' x, h[i']? = some x → S.hp (ks.getD i' 0) = some (x.map (renCs (rk0 ks (wkey nx0 i))))) (hm : m ≤ wkey nx0 i) (hb : ∀ j, j < 64 → S.hp (wkey nx0 i + j) = none)
    (hlen : ∀ d h', R' d h' → h'.length ≤ h.length + 64) (hf : fitsT nt o.dst = true) (hdr : dr = true → lgok nx0 all lg i ks ks = true ∧ ∃ d h', R' d h' ∧ h.length ≤ h'.length)
    (next : ∀ d h', R' d h' → h.length ≤ h'.length → XK P m f nt R (some ⟨all, dr, i + 1, rest, upd lg i (some (ks, ks)), nx0⟩) k ⟨setT S.tm o.dst (some (renD (rkey ks (wkey nx0 i)) d)), appUp S.hp (upsFrom (rkey ks (wkey nx0 i)) 0 h'), S.nx⟩) :
    XK P m f nt R (some ⟨all, dr, i, o :: rest, lg, nx0⟩) k S := by
  simp only [XK, dopsL]
  refine Pre.intro ⟨ks, ks, _, .call c F args ks h R' hg hop hc hok hfn hD hks hnd hhp hm hb hlen, hf, fun e => ⟨(hdr e).1, ?_⟩, fun d up ht => ?_⟩
  · obtain ⟨d, h', h1, h2⟩ := (hdr e).2
    exact ⟨_, _, d, h', h1, h2, rfl, rfl⟩
  · obtain ⟨d', h', h1, h2, rfl, rfl⟩ := ht
    exact next d' h' h1 h2

/-- A call that only computes. -/
theorem XK.pure {all : Array Oper} {dr : Bool} {i : Nat} {o : Oper} {rest : List Oper} {lg : Lg} {nx0 : Nat} {k : List Item} {S : Ms} {F : FuncId} {args : List D} {d0 : D}
    (hD : DC P F args [] (fun d h' => d = d0 ∧ h' = [])) (c : Call) (hop : o.op = .call c) (hg : o.guard = none) (hc : calleeOf S.tm c = some (F, args.map (renD (rk0 [] (wkey nx0 i))))) (hok : okP S.tm c.operands.toList) (hfn : fnOK P F = true)
    (hm : m ≤ wkey nx0 i) (hb : ∀ j, j < 64 → S.hp (wkey nx0 i + j) = none) (hf : fitsT nt o.dst = true) (hdr : dr = true → lgok nx0 all lg i [] [] = true)
    (next : XK P m f nt R (some ⟨all, dr, i + 1, rest, upd lg i (some ([], [])), nx0⟩) k ⟨setT S.tm o.dst (some (renD (rkey [] (wkey nx0 i)) d0)), S.hp, S.nx⟩) :
    XK P m f nt R (some ⟨all, dr, i, o :: rest, lg, nx0⟩) k S :=
  XK.call hD [] c hop hg hc hok hfn rfl List.nodup_nil (fun i' x h => by simp at h) hm hb (fun d h' e => by rw [e.2]; simp) hf (fun e => ⟨hdr e, d0, [], ⟨rfl, rfl⟩, Nat.le_refl _⟩)
    fun d h' e _ => by
      obtain ⟨rfl, rfl⟩ := e
      exact next

/-- A guarded call that only computes. -/
theorem XK.gpure {all : Array Oper} {dr : Bool} {i : Nat} {o : Oper} {rest : List Oper} {lg : Lg} {nx0 : Nat} {k : List Item} {S : Ms} {d0 : D} (g : Nat) (b x : Bool) (c : Call) (hg : o.guard = some (g, b)) (hx : guardB all S.tm g b = some x)
    (hop : o.op = .call c) (hcf : ∃ f, c.callee = .value f)
    (hc : x = true → ∃ F args, calleeOf S.tm c = some (F, args.map (renD (rk0 [] (wkey nx0 i)))) ∧ okP S.tm c.operands.toList ∧ fnOK P F = true ∧ DC P F args [] (fun r h' => r = d0 ∧ h' = []) ∧ renD (rkey [] (wkey nx0 i)) d0 = d0)
    (hm : m ≤ wkey nx0 i) (hb : ∀ j, j < 64 → S.hp (wkey nx0 i + j) = none) (hf : fitsT nt o.dst = true) (hdr : dr = true → lgok nx0 all lg i [] [] = true)
    (next : XK P m f nt R (some ⟨all, dr, i + 1, rest, upd lg i (some ([], [])), nx0⟩) k ⟨setT S.tm o.dst (some (.when x d0)), S.hp, S.nx⟩) :
    XK P m f nt R (some ⟨all, dr, i, o :: rest, lg, nx0⟩) k S := by
  simp only [XK, dopsL]
  refine Pre.intro ⟨[], [], _, .gcall g b x c d0 hg hx hop hcf hc hm hb, hf, fun e => ⟨hdr e, _, _, rfl, rfl⟩, fun d up ht => ?_⟩
  obtain ⟨rfl, rfl⟩ := ht
  exact next


/-! ### A state taken for another, within a region whose order is the text's own -/

theorem XK.sub {all : Array Oper} {i : Nat} {rest : List Oper} {lg lg' : Lg} {nx0 : Nat} {k : List Item} {S S' : Ms} (hs : Sub m nt ⟨S.tm, S.hp, lg⟩ ⟨S'.tm, S'.hp, lg'⟩)
    (h : XK P m f nt R (some ⟨all, false, i, rest, lg', nx0⟩) k S') : XK P m f nt R (some ⟨all, false, i, rest, lg, nx0⟩) k S := by
  cases rest with
  | nil => simp only [XK, dopsL] at h ⊢; exact h.sub hs
  | cons o r => simp only [XK, dopsL] at h ⊢; exact h.sub hs

/-- An owned block that is written no more: read as plain data from here on, under the slot t. -/
theorem Sub.freeze {tm : Nat → Option D} {hp : Hp} {lg lg' : Lg} (t k sz n : Nat) (xs : List (List C)) (ht : tm t = some (.c (.msl k sz 0 n))) (hk : hp k = some (some xs.flatten)) (hn : n = xs.length) (hl : ∀ x ∈ xs, x.length = sz)
    (hkf : ∀ x ∈ xs, ∀ c ∈ x, kf c = true) : Sub m nt ⟨tm, hp, lg⟩ ⟨upd tm t (some (.c (.isl sz xs))), upd hp k (some none), lg'⟩ := fun I w s a hR => by
  subst hn
  have H : SimH I w s hp := hR.H
  obtain ⟨H1, E1⟩ := sim_spend (m := m) H k (by rw [hk]; simp)
  have hI : ∀ b, I b → subI [k] hp s I b := fun b h => .inl h
  have H2 : SimH (subI [k] hp s I) w s (upd hp k (some none)) := by
    refine ⟨H1.top, fun j cs hj => ?_, H1.inj, fun b hb => ?_⟩
    · rcases H1.blk j cs hj with h | ⟨b, arr, T, h1, h2, h3, h4, h5⟩
      · exact .inl h
      · refine .inr ⟨b, arr, T, h1, h2, h3, ?_, fun j' h' => ?_⟩
        · rintro (h | ⟨k', hk', cs', hh, hs⟩)
          · exact h4 h
          · have e : k' = k := by simpa using hk'
            subst e
            have hjk : j ≠ k' := fun e => by subst e; rw [upd_same] at hj; cases hj
            rw [upd_ne _ _ hjk] at hj
            exact hjk (H.inj j k' b cs cs' hj hh h1 hs)
        · obtain ⟨y, hy, hr⟩ := h5 j' h'
          exact ⟨y, hy, hr.mono hI (fun _ _ => rfl) (Shp.refl w) (Sg.le_refl _)⟩
    · rcases hb with h | ⟨k', hk', cs', hh, hs⟩
      · exact H.imm b h
      · rcases H.blk k' cs' hh with ⟨h1, _⟩ | ⟨b', arr, T, h1, h2, _⟩
        · rw [hs] at h1; cases h1
        · rw [hs] at h1
          simp only [Option.some.injEq] at h1
          subst h1
          exact lt_of_heap h2
  have E2 : Ext m I w s hp (subI [k] hp s I) w s (upd hp k (some none)) :=
    ⟨rfl, rfl, rfl, Nat.le_refl _, fun _ _ _ => rfl, Shp.refl w, fun _ _ => rfl, hI, fun b hb => by
      rcases hb with h | ⟨k', _, cs', hh, hs⟩
      · exact .inl h
      · exact .inr (.inl ⟨k', cs', hh, hs⟩), E1.live⟩
  refine ⟨_, s, ⟨H2, fun n d hd => ?_, hR.df, hR.sz⟩, E2⟩
  by_cases e : n = t
  · subst e
    simp only [upd_same, Option.some.injEq] at hd
    subst hd
    have h0 : RD I w s (a.tmps.getD n undef) (.c (.msl k sz 0 xs.length)) := hR.tm n _ ht
    generalize a.tmps.getD n undef = x at h0
    cases h0 with
    | c _ _ h0 => exact .c _ _ (frozen_rc H (by simp) hk hl hkf h0 s)
  · simp only [upd_ne _ _ e] at hd
    exact E2.rd H (Sg.le_refl _) (hR.tm n d hd)
end
end Go.CT
