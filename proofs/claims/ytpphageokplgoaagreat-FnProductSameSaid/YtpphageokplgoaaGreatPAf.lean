/- An operation of a region, whatever it is: what it may be taken for ('Stp'), and that it is that. -/
import Derived.Test.YtpphageokplgoaaGreatPAe
set_option linter.unusedVariables false
set_option linter.unusedSimpArgs false
set_option maxHeartbeats 16000000
set_option maxRecDepth 100000
namespace Go.CT
def argsOf (tm : Nat → Option D) : List Operand → Option (List D)
  | [] => some []
  | x :: r => (match evP tm x, argsOf tm r with | some d, some ds => some (d :: ds) | _, _ => none)
def calleeOf (tm : Nat → Option D) (c : Call) : Option (FuncId × List D) :=
  match c.callee with
  | .value f => (match evP tm f, argsOf tm c.args.toList with | some (.c (.clo F caps)), some ds => some (F, ds ++ caps.map D.c) | some (.c (.met F cs)), some ds => some (F, .agg cs :: ds) | _, _ => none)
  | _ => none
def fnOK (P : Program) (F : FuncId) : Bool :=
  match P.funcs[F]? with
  | some fn => !(fn.name == "runtime.NumGoroutine") && fn.body.isSome
  | none => false
def guardB (all : Array Oper) (tm : Nat → Option D) (g : Nat) (b : Bool) : Option Bool :=
  match (all[g]?).bind (·.dst) with
  | some t => (match tm t with
    | some d => (match peelD d with
      | .c (.v (.bool y)) => some (peelB d && (y == b))
      | _ => none)
    | none => none)
  | none => none
abbrev wkey (nx i : Nat) : Nat := nx + 64 * i
def mayUp : Op → Bool
  | .alloc _ | .box _ _ | .buildSlice _ _ _ | .store _ _ _ | .makeSlice _ _ _ => true
  | .call c => (match c.callee with | .builtin .append => true | .builtin .clear => true | _ => false)
  | _ => false
theorem mayUp_up {P : Program} {m key : Nat} {tm : Nat → Option D} {hp : Hp} {op : Op} {out : Out} (hm : mayUp op = true) (h : stp P m key tm hp op = some out) : out.up ≠ [] := by
  unfold stp at h
  split at h
  all_goals first
    | (exfalso; revert hm; simp [mayUp]; done)
    | (repeat' split at h) <;> first | (cases h; done) | (simp only [Option.some.injEq] at h; subst h; simp; done) | (simp only [Option.some.injEq] at h; subst h; simp [spendUp]; done) | (exfalso; revert hm; simp_all [mayUp]; done)
theorem renC_plain (r : Nat → Nat) : ∀ {c : C}, kf c = true → renC r c = c
  | .v _, _ | .isl _ _, _ | .z, _ | .unk, _ | .eptr _, _ | .met _ _, _ => rfl
  | .msl _ _ _ _, h | .ptr _ _, h | .clo _ _, h => by simp [kf] at h
theorem renCs_plain (r : Nat → Nat) : ∀ {cs : List C}, kfs cs = true → renCs r cs = cs
  | [], _ => rfl
  | c :: cs, h => by simp only [kfs, Bool.and_eq_true] at h; simp only [renCs, renC_plain r h.1, renCs_plain r h.2]
theorem appUp_same {r : Nat → Nat} : ∀ (l : List (Option (List C))) (j : Nat) (hp : Hp), (∀ i' x, l[i']? = some x → hp (r (j + i')) = some (x.map (renCs r))) → appUp hp (upsFrom r j l) = hp
  | [], _, _, _ => rfl
  | x :: l, j, hp, h => by
    have h0 := h 0 x rfl
    have e : upd hp (r j) (some (x.map (renCs r))) = hp := by
      funext k
      by_cases hk : k = r j
      · subst hk; rw [upd_same]; simpa using h0.symm
      · rw [upd_ne _ _ hk]
    simp only [upsFrom, appUp, e]
    exact appUp_same l (j + 1) hp fun i' y hy => by rw [show j + 1 + i' = j + (i' + 1) from by omega]; exact h (i' + 1) y (by simpa using hy)
theorem same_ups {hp : Hp} {ks : List Nat} {h : List (Option (List C))} {b : Nat} (hks : ks.length = h.length) (hhp : ∀ i' x, h[i']? = some x → hp (ks.getD i' 0) = some (x.map (renCs (rk0 ks b))))
    (hkf : ∀ cs, some cs ∈ h → kfs cs = true) : appUp hp (upsFrom (rkey ks b) 0 h) = hp :=
  appUp_same h 0 hp fun i' x hx => by
    have hlt : i' < ks.length := by rw [hks]; exact (List.getElem?_eq_some_iff.1 hx).1
    have e : rkey ks b (0 + i') = ks.getD i' 0 := by simp only [rkey, Nat.zero_add]; rw [if_pos hlt]
    rw [e, hhp i' x hx]
    cases x with
    | none => rfl
    | some cs =>
      have := hkf cs (List.mem_of_getElem? hx)
      simp only [Option.map_some, renCs_plain _ this]
def gkey (tm : Nat → Option D) : Op → Option Nat
  | .load _ x => (match evP tm x with | some (.c (.ptr k _)) => some k | _ => none)
  | _ => none
theorem gkey_mayUp {tm : Nat → Option D} {op : Op} (h : mayUp op = true) : gkey tm op = none := by
  cases op <;> first | rfl | (simp [mayUp] at h)
def GN (P : Program) (m key : Nat) (tm : Nat → Option D) (hp : Hp) (op : Op) (rd : List Nat) : Prop :=
  match gkey tm op with
  | none => rd = [] ∧ ∀ hp', stp P m key tm hp' op = none
  | some k => rd = [k] ∧ stp P m key tm hp op = none
theorem GN.non {P : Program} {m key : Nat} {tm : Nat → Option D} {hp : Hp} {op : Op} {rd : List Nat} (h : GN P m key tm hp op rd) : stp P m key tm hp op = none := by
  unfold GN at h
  split at h
  · exact h.2 hp
  · exact h.2
theorem GN.rds {P : Program} {m key : Nat} {tm : Nat → Option D} {hp : Hp} {op : Op} {rd rd' : List Nat} (h : GN P m key tm hp op rd) (h' : GN P m key tm hp op rd') : rd = rd' := by
  unfold GN at h h'
  split at h
  · rename_i e
    rw [e] at h'
    exact h.1.trans h'.1.symm
  · rename_i k e
    rw [e] at h'
    exact h.1.trans h'.1.symm
theorem GN.up {P : Program} {m key : Nat} {tm : Nat → Option D} {hp : Hp} {op : Op} {rd : List Nat} (h : GN P m key tm hp op rd) (hm : mayUp op = true) : rd = [] := by
  unfold GN at h
  rw [gkey_mayUp hm] at h
  exact h.1
theorem gkey_agree {P : Program} {m key : Nat} {tm : Nat → Option D} {hp hp' : Hp} {op : Op} {k : Nat} (hk : gkey tm op = some k) (e : hp k = hp' k) : stp P m key tm hp op = stp P m key tm hp' op := by
  unfold gkey at hk
  split at hk
  · rename_i t x
    split at hk
    · rename_i k' off hx
      simp only [Option.some.injEq] at hk
      subst hk
      simp only [stp, pop, hx]
      cases tagg P t <;> cases tsz P t <;> simp only [e]
    · cases hk
  · cases hk
inductive Stp (P : Program) (m nx : Nat) (all : Array Oper) (i : Nat) (o : Oper) (tm : Nat → Option D) (hp : Hp) : List Nat → List Nat → (Option D → List (Nat × Option (List C)) → Prop) → Prop
  | plain (out : Out) (hg : o.guard = none) (h : stp P m (wkey nx i) tm hp o.op = some out) (hvc : out.vc) : Stp P m nx all i o tm hp out.rd (out.up.map (·.1)) (fun d up => d = out.d ∧ up = out.up)
  | gplain (g : Nat) (b x : Bool) (out : Out) (hg : o.guard = some (g, b)) (hx : guardB all tm g b = some x) (h : stp P m (wkey nx i) tm hp o.op = some out) (hup : out.up = []) (hvc : x = true → out.vc) :
      Stp P m nx all i o tm hp out.rd [] (fun d up => d = out.d.map (.when x) ∧ up = [])
  | gnone (g : Nat) (b : Bool) (rd : List Nat) (hg : o.guard = some (g, b)) (hx : guardB all tm g b = some false) (h : GN P m (wkey nx i) tm hp o.op rd) (hnc : ∀ c, o.op = .call c → ∀ f, c.callee ≠ .value f) : Stp P m nx all i o tm hp rd [] (fun d up => d = some (.when false (DB false)) ∧ up = [])
  | gon (g : Nat) (b : Bool) (out : Out) (hg : o.guard = some (g, b)) (hm : mayUp o.op = true) (hx : guardB all tm g b = some true) (h : stp P m (wkey nx i) tm hp o.op = some out) (hvc : out.vc) :
      Stp P m nx all i o tm hp out.rd (out.up.map (·.1)) (fun d up => d = out.d ∧ up = out.up)
  | goff (g : Nat) (b : Bool) (hg : o.guard = some (g, b)) (hm : mayUp o.op = true) (hx : guardB all tm g b = some false) : Stp P m nx all i o tm hp [] [] (fun d up => d = some (.when false (DB false)) ∧ up = [])
  | call (c : Call) (F : FuncId) (args : List D) (ks : List Nat) (h : List (Option (List C))) (R : D → List (Option (List C)) → Prop) (hg : o.guard = none ∨ ∃ g b, o.guard = some (g, b) ∧ guardB all tm g b = some true) (hop : o.op = .call c)
      (hc : calleeOf tm c = some (F, args.map (renD (rk0 ks (wkey nx i))))) (hok : okP tm c.operands.toList) (hfn : fnOK P F = true) (hD : DC P F args h R) (hks : ks.length = h.length) (hnd : ks.Nodup)
      (hhp : ∀ i' x, h[i']? = some x → hp (ks.getD i' 0) = some (x.map (renCs (rk0 ks (wkey nx i))))) (hm : m ≤ wkey nx i) (hb : ∀ j, j < 64 → hp (wkey nx i + j) = none) (hlen : ∀ d h', R d h' → h'.length ≤ h.length + 64) :
      Stp P m nx all i o tm hp ks ks (fun d up => ∃ d' h', R d' h' ∧ h.length ≤ h'.length ∧ d = some (renD (rkey ks (wkey nx i)) d') ∧ up = upsFrom (rkey ks (wkey nx i)) 0 h')
  | rcall (c : Call) (F : FuncId) (args : List D) (ks : List Nat) (h : List (Option (List C))) (R : D → List (Option (List C)) → Prop) (hg : o.guard = none ∨ ∃ g b, o.guard = some (g, b) ∧ guardB all tm g b = some true) (hop : o.op = .call c)
      (hc : calleeOf tm c = some (F, args.map (renD (rk0 ks (wkey nx i))))) (hok : okP tm c.operands.toList) (hfn : fnOK P F = true) (hD : DC P F args h R) (hks : ks.length = h.length) (hnd : ks.Nodup)
      (hhp : ∀ i' x, h[i']? = some x → hp (ks.getD i' 0) = some (x.map (renCs (rk0 ks (wkey nx i))))) (hm : m ≤ wkey nx i) (hb : ∀ j, j < 64 → hp (wkey nx i + j) = none) (hsame : ∀ d h', R d h' → h' = h) (hkf : ∀ cs, some cs ∈ h → kfs cs = true) :
      Stp P m nx all i o tm hp ks [] (fun d up => ∃ d', R d' h ∧ d = some (renD (rkey ks (wkey nx i)) d') ∧ up = [])
  | gcall (g : Nat) (b x : Bool) (c : Call) (d : D) (hg : o.guard = some (g, b)) (hx : guardB all tm g b = some x) (hop : o.op = .call c) (hcf : ∃ f, c.callee = .value f)
      (hc : x = true → ∃ F args, calleeOf tm c = some (F, args.map (renD (rk0 [] (wkey nx i)))) ∧ okP tm c.operands.toList ∧ fnOK P F = true ∧ DC P F args [] (fun r h' => r = d ∧ h' = []) ∧ renD (rkey [] (wkey nx i)) d = d)
      (hm : m ≤ wkey nx i) (hb : ∀ j, j < 64 → hp (wkey nx i + j) = none) :
      Stp P m nx all i o tm hp [] [] (fun d' up => d' = some (.when x d) ∧ up = [])
section
variable {P : Program}
theorem peel_false {I : Nat → Prop} {w : World} {s : Sg} {x : Value} {d : D} (h : RD I w s x d) (hb : peelB d = false) : x = undef := by
  cases h with
  | when _ b d h h0 => exact h0 hb
  | _ => simp [peelB] at hb
theorem guardB_sound {I : Nat → Prop} {w : World} {s : Sg} {a : Act} {tm : Nat → Option D} (hA : ∀ n d, tm n = some d → RD I w s (a.tmps.getD n undef) d) {all : Array Oper} {o : Oper} {g : Nat} {b x : Bool}
    (hg : o.guard = some (g, b)) (hx : guardB all tm g b = some x) : Region.wanted o (yielded all a.tmps) = x := by
  unfold guardB at hx
  split at hx
  · rename_i t ht
    split at hx
    · rename_i d hd
      split at hx
      · rename_i y hy
        simp only [Option.some.injEq] at hx
        have hr := hA t d hd
        have hv : yielded all a.tmps g = if peelB d = true then some y else none := by
          unfold yielded
          rw [ht]
          simp only [Option.bind_some]
          by_cases hlt : t < a.tmps.size
          · have e : a.tmps[t]? = some a.tmps[t] := by simp [hlt]
            have e2 : a.tmps.getD t undef = a.tmps[t] := by simp [hlt]
            rw [e2] at hr
            rw [e]
            by_cases hb : peelB d = true
            · have := peel_sound hr hb
              rw [hy] at this
              rw [(rd_scalar this).1, if_pos hb]
            · rw [if_neg hb, peel_false hr (by simpa using hb)]
              rfl
          · have e : a.tmps[t]? = none := Array.getElem?_eq_none (Nat.le_of_not_lt hlt)
            have e2 : a.tmps.getD t undef = undef := by simp [hlt]
            rw [e2] at hr
            rw [e]
            by_cases hb : peelB d = true
            · have := peel_sound hr hb
              rw [hy] at this
              have := (rd_scalar this).1
              simp [undef] at this
            · rw [if_neg hb]
        unfold Region.wanted
        rw [hg]
        simp only [hv, ← hx]
        cases hpb : peelB d <;> simp
      · cases hx
    · cases hx
  · cases hx
theorem argsOf_sound {I : Nat → Prop} {w : World} {s : Sg} {a : Act} {tm : Nat → Option D} (hA : ∀ n d, tm n = some d → RD I w s (a.tmps.getD n undef) d) {l0 : List Operand} (hok : okP tm l0) :
    ∀ (l : List Operand) (ds : List D), (∀ x ∈ l, x ∈ l0) → argsOf tm l = some ds → RDs I w s (l.map a.eval).toArray ds
  | [], ds, _, h => by
    simp only [argsOf, Option.some.injEq] at h
    subst h
    exact ⟨rfl, fun j h => by simp at h⟩
  | x :: r, ds, hm, h => by
    simp only [argsOf] at h
    split at h
    · rename_i d ds' hd hr
      simp only [Option.some.injEq] at h
      subst h
      have ih := argsOf_sound hA hok r ds' (fun y hy => hm y (by simp [hy])) hr
      have h0 := evP_sound hA hd hok (hm x (by simp))
      refine ⟨by have := ih.1; simp at this ⊢; exact this, fun j h1 h2 => ?_⟩
      cases j with
      | zero => simpa using h0
      | succ j =>
        have h3 := ih.2 j (by simpa using h1) (by simpa using h2)
        rw [List.getElem_toArray] at h3
        rw [List.getElem_toArray]
        exact h3
    · cases h
theorem call_run {I : Nat → Prop} {w : World} {s : Sg} {a : Act} {tm : Nat → Option D} (hA : ∀ n d, tm n = some d → RD I w s (a.tmps.getD n undef) d) {o : Oper} {c : Call} {F : FuncId} {ds : List D} (hop : o.op = .call c)
    (hc : calleeOf tm c = some (F, ds)) (hok : okP tm c.operands.toList) (hfn : fnOK P F = true) : ∃ vs, (execOp a.eval o).run P w = .ok (.enter F vs) w ∧ RDs I w s vs ds := by
  obtain ⟨callee, args, argTypes⟩ := c
  unfold calleeOf at hc
  split at hc
  · rename_i f hcal
    simp only at hcal
    subst hcal
    split at hc
    · rename_i F' caps ds' hf ha
      simp only [Option.some.injEq, Prod.mk.injEq] at hc
      obtain ⟨rfl, rfl⟩ := hc
      obtain ⟨vs, hv, hvr⟩ := rd_clo (evP_sound hA hf hok (by simp [Call.operands]))
      have har := argsOf_sound hA hok args.toList ds' (fun x hx => by simp only [Call.operands, Array.toList_append, List.mem_append]; exact .inr hx) ha
      have e1 : (args.toList.map a.eval).toArray = args.map a.eval := by apply Array.ext'; simp
      rw [e1] at har
      refine ⟨args.map a.eval ++ vs, ?_, ?_, fun j h1 h2 => ?_⟩
      · unfold fnOK at hfn
        split at hfn
        · rename_i fn hfn'
          simp only [Bool.and_eq_true, Bool.not_eq_true'] at hfn
          simp only [execOp, hop, resolve, hv]
          rw [run_bind (x := ({ target := .fn (.func F') vs, args := #[] ++ args.map a.eval } : Deferred)) (w' := w) _ _ _ (by rfl)]
          simp only [invoke, callFunc]
          rw [run_bind (x := P) (w' := w) _ _ _ (by rfl)]
          simp only [hfn', hfn.1, Bool.false_eq_true, if_false]
          have hb : fn.body.isNone = false := by
            have := hfn.2
            cases hbb : fn.body <;> simp_all
          simp only [hb, Bool.false_eq_true, if_false, Array.empty_append]
          rfl
        · cases hfn
      · have h1 := har.1
        have h2 := hvr.1
        simp only [Array.size_append, List.length_append, List.length_map, h1, h2]
      · have hl1 : (args.map a.eval).size = ds'.length := har.1
        by_cases hj : j < (args.map a.eval).size
        · have := har.2 j hj (by omega)
          simp only [Array.getElem_append, List.getElem_append, hj, show j < ds'.length from by omega, dite_true]
          exact this
        · have hj2 : j - (args.map a.eval).size < vs.size := by simp at h1; simp at hj ⊢; omega
          have := hvr.2 (j - (args.map a.eval).size) hj2 (by rw [← hvr.1]; exact hj2)
          simp only [Array.getElem_append, List.getElem_append, hj, show ¬ j < ds'.length from by omega, dite_false, List.getElem_map]
          refine .c _ _ ?_
          simp only [← hl1]
          exact this
    · rename_i F' cs ds' hf ha
      simp only [Option.some.injEq, Prod.mk.injEq] at hc
      obtain ⟨rfl, rfl⟩ := hc
      obtain ⟨vs, hv, hvr⟩ := rd_met (evP_sound hA hf hok (by simp [Call.operands]))
      have har := argsOf_sound hA hok args.toList ds' (fun x hx => by simp only [Call.operands, Array.toList_append, List.mem_append]; exact .inr hx) ha
      have e1 : (args.toList.map a.eval).toArray = args.map a.eval := by apply Array.ext'; simp
      rw [e1] at har
      refine ⟨#[.agg vs] ++ args.map a.eval, ?_, ?_, fun j h1 h2 => ?_⟩
      · unfold fnOK at hfn
        split at hfn
        · rename_i fn hfn'
          simp only [Bool.and_eq_true, Bool.not_eq_true'] at hfn
          simp only [execOp, hop, resolve, hv]
          rw [run_bind (x := ({ target := .fn (.func F') #[], args := #[.agg vs] ++ args.map a.eval } : Deferred)) (w' := w) _ _ _ (by rfl)]
          simp only [invoke, callFunc]
          rw [run_bind (x := P) (w' := w) _ _ _ (by rfl)]
          simp only [hfn', hfn.1, Bool.false_eq_true, if_false]
          have hb : fn.body.isNone = false := by
            have := hfn.2
            cases hbb : fn.body <;> simp_all
          simp only [hb, Bool.false_eq_true, if_false, Array.append_empty]
          rfl
        · cases hfn
      · have h1 := har.1
        simp only [Array.size_append, List.length_cons, h1]
        simp only [List.size_toArray, List.length_cons, List.length_nil]
        omega
      · cases j with
        | zero =>
          have : RD I w s (Value.agg vs) (D.agg cs) := .agg _ _ hvr.1 fun i g1 g2 => (hvr.2 i g1 g2).any s
          simpa using this
        | succ j =>
          have h3 : j < (args.map a.eval).size := by simp at h1 ⊢; omega
          have := har.2 j h3 (by simpa using h2)
          have e : (#[Value.agg vs] ++ args.map a.eval)[j + 1] = (args.map a.eval)[j] := by
            rw [Array.getElem_append_right (by simp)]; simp
          rw [e]
          exact this
    · cases hc
  · cases hc
structure Rc (I : Nat → Prop) (w : World) (s : Sg) (a : Act) (tm : Nat → Option D) (hp : Hp) (nt : Nat) : Prop where
  H : SimH I w s hp
  tm : ∀ n d, tm n = some d → RD I w s (a.tmps.getD n undef) d
  df : a.defers = []
  sz : a.tmps.size = nt
theorem slots_put {I : Nat → Prop} {w : World} {s : Sg} {a : Act} {tm : Nat → Option D} {nt : Nat} (hA : ∀ n d, tm n = some d → RD I w s (a.tmps.getD n undef) d) (hsz : a.tmps.size = nt) {dst : Option Tmp} {v : Value} {d : Option D}
    (hd : ∀ d', d = some d' → RD I w s v d') (hf : fitsT nt dst = true) : ∀ n d', setT tm dst d n = some d' → RD I w s ((a.put dst v).tmps.getD n undef) d' := by
  cases dst with
  | none => exact hA
  | some t =>
    have ht : t < nt := by simpa [fitsT] using hf
    intro n d' hn
    rw [getD_put]
    simp only [setT, upd] at hn
    by_cases h : n = t
    · rw [if_pos h] at hn
      rw [if_pos ⟨h, by rw [hsz]; exact ht⟩]
      exact hd d' hn
    · rw [if_neg h] at hn
      rw [if_neg (fun e => h e.1)]
      exact hA n d' hn
theorem Stp.run {m nx nt : Nat} {all : Array Oper} {i : Nat} {o : Oper} (ho : all[i]? = some o) {I : Nat → Prop} {w : World} {s : Sg} {a : Act} {tm : Nat → Option D} {hp : Hp} (hR : Rc I w s a tm hp nt)
    {rd wr : List Nat} {T : Option D → List (Nat × Option (List C)) → Prop} (h : Stp P m nx all i o tm hp rd wr T) (hf : fitsT nt o.dst = true) {Q : Exit → Act → World → Prop} {K : Act → World → Prop}
    (hK : ∀ a' w' I' s' d up, T d up → Rc I' w' s' a' (setT tm o.dst d) (appUp hp up) nt → Ext m I w s hp I' w' s' (appUp hp up) → K a' w') : wpOp P all Q i K a w := by
  have hput : ∀ (I' : Nat → Prop) (w' : World) (s' : Sg) (v : Value) (d : Option D) (up : List (Nat × Option (List C))), s.le s' → SimH I' w' s' (appUp hp up) → Ext m I w s hp I' w' s' (appUp hp up) → (∀ d', d = some d' → RD I' w' s' v d') →
      Rc I' w' s' (a.put o.dst v) (setT tm o.dst d) (appUp hp up) nt := fun I' w' s' v d up hle H' E' hd =>
    ⟨H', slots_put (fun n d' hn => E'.rd hR.H hle (hR.tm n d' hn)) hR.sz hd hf, by cases h : o.dst <;> simp [Act.put, h, hR.df], by cases h : o.dst <;> simp [Act.put, h, hR.sz]⟩
  unfold wpOp
  simp only [ho]
  cases h with
  | plain out hg h hvc =>
    obtain ⟨v, w', s', hrun, hle, H', E', hd⟩ := stp_sound (P := P) (m := m) hR.H hR.tm h hvc
    have hw : Region.wanted o (yielded all a.tmps) = true := by simp [Region.wanted, hg]
    rw [if_pos hw]
    refine .inl ?_
    unfold Oper.wp
    rcases hrun with hrun | ⟨hrun, rfl⟩
    · rw [hrun]
      exact hK _ _ I s' out.d out.up ⟨rfl, rfl⟩ (hput I w' s' v out.d out.up hle H' E' hd) E'
    · rw [hrun]
      exact hK _ _ I s' out.d out.up ⟨rfl, rfl⟩ (hput I w' s' undef out.d out.up hle H' E' hd) E'
  | gon g b out hg _ hx h hvc =>
    obtain ⟨v, w', s', hrun, hle, H', E', hd⟩ := stp_sound (P := P) (m := m) hR.H hR.tm h hvc
    rw [guardB_sound hR.tm hg hx]
    simp only [if_true]
    refine .inl ?_
    unfold Oper.wp
    rcases hrun with hrun | ⟨hrun, rfl⟩
    · rw [hrun]
      exact hK _ _ I s' out.d out.up ⟨rfl, rfl⟩ (hput I w' s' v out.d out.up hle H' E' hd) E'
    · rw [hrun]
      exact hK _ _ I s' out.d out.up ⟨rfl, rfl⟩ (hput I w' s' undef out.d out.up hle H' E' hd) E'
  | goff g b hg _ hx =>
    rw [guardB_sound hR.tm hg hx]
    simp only [Bool.false_eq_true, if_false]
    exact hK _ _ I s _ [] ⟨rfl, rfl⟩ (hput I w s undef _ [] (Sg.le_refl _) hR.H (Ext.refl _ _ _ _ _) (fun d' e => by cases e; exact .when _ false _ (fun h => by cases h) (fun _ => rfl))) (Ext.refl _ _ _ _ _)
  | gplain g b x out hg hx h hup hvc =>
    have hw := guardB_sound hR.tm hg hx
    rw [hw]
    cases x with
    | true =>
      obtain ⟨v, w', s', hrun, hle, H', E', hd⟩ := stp_sound (P := P) (m := m) hR.H hR.tm h (hvc rfl)
      simp only [if_true]
      refine .inl ?_
      unfold Oper.wp
      rw [hup] at H' E'
      have hd' : ∀ d', out.d.map (D.when true) = some d' → RD I w' s' v d' := fun d' e => by
        cases ho' : out.d with
        | none => rw [ho'] at e; cases e
        | some d0 =>
          rw [ho'] at e
          simp only [Option.map_some, Option.some.injEq] at e
          rw [← e]
          exact .when v true d0 (fun _ => hd d0 ho') (fun h => by cases h)
      rcases hrun with hrun | ⟨hrun, rfl⟩
      · rw [hrun]
        exact hK _ _ I s' _ [] ⟨rfl, rfl⟩ (hput I w' s' v _ [] hle H' E' hd') E'
      · rw [hrun]
        exact hK _ _ I s' _ [] ⟨rfl, rfl⟩ (hput I w' s' undef _ [] hle H' E' hd') E'
    | false =>
      simp only [Bool.false_eq_true, if_false]
      refine hK _ _ I s _ [] ⟨rfl, rfl⟩ (hput I w s undef _ [] (Sg.le_refl _) hR.H (Ext.refl _ _ _ _ _) (fun d' e => ?_)) (Ext.refl _ _ _ _ _)
      cases ho' : out.d with
      | none => rw [ho'] at e; cases e
      | some d0 =>
        rw [ho'] at e
        simp only [Option.map_some, Option.some.injEq] at e
        rw [← e]
        exact .when _ false d0 (fun h => by cases h) (fun _ => rfl)
  | gnone g b _ hg hx _ _ =>
    rw [guardB_sound hR.tm hg hx]
    simp only [Bool.false_eq_true, if_false]
    exact hK _ _ I s _ [] ⟨rfl, rfl⟩ (hput I w s undef _ [] (Sg.le_refl _) hR.H (Ext.refl _ _ _ _ _) (fun d' e => by cases e; exact .when _ false _ (fun h => by cases h) (fun _ => rfl))) (Ext.refl _ _ _ _ _)
  | call c F args _ h R hg hop hc hok hfn hD hks hnd hhp hm hb hlen =>
    have hw : Region.wanted o (yielded all a.tmps) = true := by
      rcases hg with hg | ⟨g, b, hg, hx⟩
      · simp [Region.wanted, hg]
      · exact guardB_sound hR.tm hg hx
    rw [if_pos hw]
    refine .inl ?_
    unfold Oper.wp
    obtain ⟨vs, hrun, hvs⟩ := call_run (P := P) hR.tm hop hc hok hfn
    rw [hrun]
    refine (call_sound (m := m) hR.H hD rd (wkey nx i) hks hnd hhp hm hb hlen hvs).mono ?_
    rintro e w' ⟨v, I', s', d, h', rfl, hRd, hlh, hle, H', E', hrd⟩
    exact hK _ _ I' s' _ _ ⟨d, h', hRd, hlh, rfl, rfl⟩ (hput I' w' s' v _ _ hle H' E' (fun d0 e => by cases e; exact hrd)) E'
  | rcall c F args _ h R hg hop hc hok hfn hD hks hnd hhp hm hb hsame hkf =>
    have hw : Region.wanted o (yielded all a.tmps) = true := by
      rcases hg with hg | ⟨g, b, hg, hx⟩
      · simp [Region.wanted, hg]
      · exact guardB_sound hR.tm hg hx
    rw [if_pos hw]
    refine .inl ?_
    unfold Oper.wp
    obtain ⟨vs, hrun, hvs⟩ := call_run (P := P) hR.tm hop hc hok hfn
    rw [hrun]
    have hlen : ∀ d h', R d h' → h'.length ≤ h.length + 64 := fun d h' e => by rw [hsame d h' e]; omega
    refine (call_sound (m := m) hR.H hD rd (wkey nx i) hks hnd hhp hm hb hlen hvs).mono ?_
    rintro e w' ⟨v, I', s', d, h', rfl, hRd, hlh, hle, H', E', hrd⟩
    obtain rfl := hsame d h' hRd
    rw [same_ups hks hhp hkf] at H' E'
    exact hK _ _ I' s' _ _ ⟨d, hRd, rfl, rfl⟩ (hput I' w' s' v _ _ hle H' E' (fun d0 e => by cases e; exact hrd)) E'
  | gcall g b x c d hg hx hop hcf hc hm hb =>
    rw [guardB_sound hR.tm hg hx]
    cases x with
    | true =>
      simp only [if_true]
      refine .inl ?_
      unfold Oper.wp
      obtain ⟨F, args, hcal, hok, hfn, hD, hren⟩ := hc rfl
      obtain ⟨vs, hrun, hvs⟩ := call_run (P := P) hR.tm hop hcal hok hfn
      rw [hrun]
      refine (call_sound (m := m) hR.H hD [] (wkey nx i) rfl List.nodup_nil (fun i' x h => by simp at h) hm hb (fun d' h' e => by rw [e.2]; simp) hvs).mono ?_
      rintro e w' ⟨v, I', s', d', h', rfl, ⟨rfl, rfl⟩, _, hle, H', E', hrd⟩
      rw [hren] at hrd
      exact hK _ _ I' s' _ [] ⟨rfl, rfl⟩ (hput I' w' s' v _ [] hle H' E' (fun d0 e => by
        cases e
        exact .when v true _ (fun _ => hrd) (fun h => by cases h))) E'
    | false =>
      simp only [Bool.false_eq_true, if_false]
      exact hK _ _ I s _ [] ⟨rfl, rfl⟩ (hput I w s undef _ [] (Sg.le_refl _) hR.H (Ext.refl _ _ _ _ _) (fun d' e => by
        cases e
        exact .when _ false _ (fun h => by cases h) (fun _ => rfl))) (Ext.refl _ _ _ _ _)
end
end Go.CT
namespace Go.CT
def ord (all : Array Oper) (j i : Nat) : Bool := ((Region.before all).getD i 0).testBit j
def inWin (nx j k : Nat) : Bool := decide (wkey nx j ≤ k) && decide (k < wkey nx j + 64)
def indep (nx i j : Nat) (rd wr rd' wr' : List Nat) : Bool :=
  (wr.all fun k => !(rd'.contains k) && !(wr'.contains k)) && (wr'.all fun k => !(rd.contains k)) && ((rd ++ wr).all fun k => !(inWin nx j k)) && ((rd' ++ wr').all fun k => !(inWin nx i k))
def lgok (nx : Nat) (all : Array Oper) (lg : Lg) (i : Nat) (rd wr : List Nat) : Bool :=
  (List.range all.size).all fun j => j == i || (match lg j with | none => true | some (rd', wr') => ord all j i || ord all i j || indep nx i j rd wr rd' wr')
def isFn (o : Oper) : Bool := match o.op with | .call c => (match c.callee with | .value _ => true | _ => false) | _ => false
def drawOK (all : Array Oper) : Bool :=
  Region.noSelect all && (List.range all.size).all (fun i => (match all[i]? with | some x => x.after.all (fun e => !(Region.binds .any e) || decide (e.on < i)) | none => true)) &&
  (List.range all.size).all fun i => (List.range all.size).all fun j => decide (i ≤ j) || !(ord all i j) && (ord all j i ||
    (match all[i]?, all[j]? with | some x, some y => x.apart all y && !(isFn x && isFn y) | _, _ => true))
def dop (P : Program) (m nx nt : Nat) (all : Array Oper) (dr : Bool) (i : Nat) (o : Oper) (K : Rs → Prop) (S : Rs) : Prop :=
  ∃ rd wr T, Stp P m nx all i o S.tm S.hp rd wr T ∧ fitsT nt o.dst = true ∧ (dr = true → lgok nx all S.lg i rd wr = true ∧ ∃ d up, T d up) ∧
    ∀ d up, T d up → K ⟨setT S.tm o.dst d, appUp S.hp up, upd S.lg i (some (rd, wr))⟩
def dops (P : Program) (m nx nt : Nat) (all : Array Oper) (dr : Bool) (K : Rs → Prop) : List Nat → Rs → Prop
  | [], S => K S
  | i :: r, S => match all[i]? with
    | some o => dop P m nx nt all dr i o (dops P m nx nt all dr K r) S
    | none => False
section
variable {P : Program} {m nx nt : Nat} {all : Array Oper}
theorem dop_mono {dr : Bool} {i : Nat} {o : Oper} {K K' : Rs → Prop} (h : ∀ S, K S → K' S) {S : Rs} (hd : dop P m nx nt all dr i o K S) : dop P m nx nt all dr i o K' S :=
  let ⟨rd, wr, T, h1, h2, h3, h4⟩ := hd
  ⟨rd, wr, T, h1, h2, h3, fun d up ht => h _ (h4 d up ht)⟩
theorem dop_run {dr : Bool} {i : Nat} {o : Oper} (ho : all[i]? = some o) {I : Nat → Prop} {w : World} {s : Sg} {a : Act} {S : Rs} (hR : Rc I w s a S.tm S.hp nt) {K : Rs → Prop} (h : dop P m nx nt all dr i o K S) {Q : Exit → Act → World → Prop}
    {K' : Act → World → Prop} (hK : ∀ a' w' I' s' S', K S' → (∃ p, S'.lg = upd S.lg i (some p)) → Rc I' w' s' a' S'.tm S'.hp nt → Ext m I w s S.hp I' w' s' S'.hp → K' a' w') : wpOp P all Q i K' a w := by
  obtain ⟨rd, wr, T, h1, h2, h3, h4⟩ := h
  exact h1.run ho hR h2 fun a' w' I' s' d up ht hR' hE => hK a' w' I' s' _ (h4 d up ht) ⟨_, rfl⟩ hR' hE
theorem okP_congr {tm tm' : Nat → Option D} : ∀ (l : List Operand), (∀ x ∈ l, evT tm x = evT tm' x) → okP tm l = okP tm' l
  | [], _ => rfl
  | x :: r, h => by
    simp only [okP, h x (by simp)]
    rw [okP_congr r fun y hy => h y (by simp [hy])]
theorem evP_congr {tm tm' : Nat → Option D} {x : Operand} (h : evT tm x = evT tm' x) : evP tm x = evP tm' x := by simp only [evP, h]
theorem pop_hp {e : Operand → Option D} {hp hp' : Hp} {o : Op} (h : ∀ k ∈ rdKeys e o, hp k = hp' k) : pop P e hp o = pop P e hp' o := by
  cases o with
  | load t x =>
    have hk : ∀ k off, e x = some (.c (.ptr k off)) → hp k = hp' k := fun k off hx => h k (by simp [rdKeys, hx])
    simp only [pop]
    split
    · rename_i k off g n hx _ _
      rw [hk k off hx]
    · rfl
    · rfl
  | makeFunc fn first caps => cases fn <;> simp only [pop]
  | slice t x lo hi mx => cases mx <;> cases lo <;> cases hi <;> simp only [pop]
  | _ => rfl
theorem target_hp {hp hp' : Hp} {d : D} (h : ∀ k ∈ mslKey d, hp k = hp' k) : target hp d = target hp' d := by
  unfold target
  split
  · rename_i k _ _
    rw [h k (by simp [mslKey])]
  · rfl
  · rfl
  · rfl
theorem lends_hp {hp hp' : Hp} {d : D} (h : ∀ k ∈ mslKey d, hp k = hp' k) : lends hp d = lends hp' d := by
  unfold lends
  split
  · rfl
  · rename_i k _ _ _
    rw [h k (by simp [mslKey])]
  · rfl
  · rfl
  · rfl
theorem stp_agree {key : Nat} {tm tm' : Nat → Option D} {hp hp' : Hp} {o : Op} {out : Out} (h : stp P m key tm hp o = some out) (ht : ∀ x ∈ o.operands.toList, evT tm x = evT tm' x)
    (hh : ∀ k, k ∈ out.rd ∨ k ∈ out.up.map (·.1) ∨ k = key → hp k = hp' k) : stp P m key tm' hp' o = some out := by
  have hpop : (match pop P (evP tm) hp o with | some (vc, d) => some (⟨okP tm o.operands.toList ∧ vc, some d, rdKeys (evP tm) o, []⟩ : Out) | none => none) = some out →
      (match pop P (evP tm') hp' o with | some (vc, d) => some (⟨okP tm' o.operands.toList ∧ vc, some d, rdKeys (evP tm') o, []⟩ : Out) | none => none) = some out := fun h => by
    have e1 : pop P (evP tm) hp o = pop P (evP tm') hp o := pop_congr fun x hx => evP_congr (ht x hx)
    have e2 : rdKeys (evP tm) o = rdKeys (evP tm') o := by
      cases o with
      | load t x => simp only [rdKeys, evP_congr (ht x (by simp [Op.operands]))]
      | _ => rfl
    have e3 : okP tm o.operands.toList = okP tm' o.operands.toList := okP_congr _ ht
    rw [e1, e2, e3] at h
    have e4 : pop P (evP tm') hp o = pop P (evP tm') hp' o := pop_hp fun k hk => hh k (.inl (by
      split at h
      · simp only [Option.some.injEq] at h
        rw [← h]; exact hk
      · cases h))
    rw [e4] at h
    exact h
  cases o with
  | pick c x y =>
    simp only [Op.operands] at ht
    have h1 := ht c (by simp); have h2 := ht x (by simp); have h3 := ht y (by simp)
    simp only [stp, evP, okP, h1, h2, h3] at h ⊢
    exact h
  | alloc T =>
    simp only [stp] at h ⊢
    split at h
    · split at h
      · rename_i h1
        rw [if_pos h1]
        simp only [Option.some.injEq] at h
        rw [hh key (.inr (.inr rfl))] at h
        rw [h]
      · cases h
    · cases h
  | box T x =>
    simp only [Op.operands] at ht
    have h1 := ht x (by simp)
    simp only [stp, evP, okP, h1] at h ⊢
    split at h
    · split at h
      · simp only [Option.some.injEq] at h
        rw [hh key (.inr (.inr rfl))] at h
        simp only [h]
      · cases h
    · cases h
  | buildSlice t n ps =>
    simp only [Op.operands] at ht
    have hps : ∀ x ∈ ps.toList.map (·.2), evT tm x = evT tm' x := fun x hx => ht x (by simpa using hx)
    have e1 : ∀ sz, partsS P sz (evP tm) 0 ps.toList = partsS P sz (evP tm') 0 ps.toList := fun sz => partsS_congr (P := P) ps.toList 0 fun x hx => evP_congr (hps x hx)
    have e2 : okP tm (ps.toList.map (·.2)) = okP tm' (ps.toList.map (·.2)) := okP_congr _ hps
    simp only [stp, e1, e2] at h ⊢
    split at h
    · split at h
      · simp only [Option.some.injEq] at h
        rw [hh key (.inr (.inr rfl))] at h
        simp only [h]
      · cases h
    · cases h
  | store t x y =>
    simp only [Op.operands] at ht
    have h1 := ht x (by simp); have h2 := ht y (by simp)
    simp only [stp, evP, okP, h1, h2] at h ⊢
    split at h
    · rename_i k off d n _ _ _
      split at h
      · rename_i cs ds hcs hds
        simp only [Option.some.injEq] at h
        have hk : hp k = hp' k := hh k (.inl (by rw [← h]; simp))
        rw [← hk, hcs]
        simp only [hds, h]
      · cases h
    · cases h
  | makeSlice t l c =>
    simp only [Op.operands] at ht
    have h1 := ht l (by simp); have h2 := ht c (by simp)
    simp only [stp, evP, okP, h1, h2] at h ⊢
    split at h
    · split at h
      · rename_i hz
        simp only [Option.some.injEq] at h
        rw [hh key (.inr (.inr rfl))] at h
        simp only [hz, if_true, h]
      · cases h
    · cases h
  | call c =>
    obtain ⟨callee, args, argTypes⟩ := c
    cases callee with
    | builtin b =>
      cases b
      case append =>
        simp only [stp] at h ⊢
        split at h
        · rename_i x y t t' ha hat
          simp only [Op.operands, Call.operands, Array.toList_append, ha, List.mem_append] at ht
          have h1 := ht x (by simp); have h2 := ht y (by simp)
          simp only [evP, okP, h1, h2] at h ⊢
          split at h
          · rename_i dx dy sz zs by' hx hy hsz hzs hby
            split at h
            · rename_i ko len cs n sz' ys htg hld
              simp only [Option.some.injEq] at h
              have hkx : ∀ k ∈ mslKey dx, hp k = hp' k := fun k hk => hh k (.inl (by rw [← h]; simp [hk]))
              have hky : ∀ k ∈ mslKey dy, hp k = hp' k := fun k hk => hh k (.inl (by rw [← h]; simp [hk]))
              have et := target_hp hkx
              have el := lends_hp hky
              rw [← et, htg, ← el, hld]
              rw [hh key (.inr (.inr rfl))] at h
              simp only [h]
            · cases h
          · cases h
        · cases h
      case clear =>
        simp only [stp] at h ⊢
        split at h
        · rename_i x t ha hat
          simp only [Op.operands, Call.operands, Array.toList_append, ha, List.mem_append] at ht
          have h1 := ht x (by simp)
          simp only [evP, okP, h1] at h ⊢
          split at h
          · rename_i k sz off len sz' zs hx hsz hzs
            split at h
            · rename_i cs hcs
              split at h
              · rename_i hz
                simp only [Option.some.injEq] at h
                have hk : hp k = hp' k := hh k (.inl (by rw [← h]; simp))
                rw [← hk, hcs]
                simp only [hz, if_true, h]
              · cases h
            · cases h
          · cases h
        · cases h
      all_goals exact hpop h
    | value f => exact hpop h
    | invoke r mth => exact hpop h
  | _ => exact hpop h
end
end Go.CT
