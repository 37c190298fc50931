/- Regions: their operations in the order of the text; and that this order serves every order that Go leaves open. -/
import Derived.Test.YtclgjiffpijgmaaAb
set_option linter.unusedVariables false
set_option linter.unusedSimpArgs false
set_option maxHeartbeats 16000000
set_option maxRecDepth 100000
namespace Go.CT

/-- j comes before i, by the edges. -/
def ord (all : Array Oper) (j i : Nat) : Bool := ((Region.before all).getD i 0).testBit j

def inWin (nx j k : Nat) : Bool := decide (wkey nx j ≤ k) && decide (k < wkey nx j + 64)

def indep (nx i j : Nat) (rd wr rd' wr' : List Nat) : Bool :=
  (wr.all fun k => !(rd'.contains k) && !(wr'.contains k)) && (wr'.all fun k => !(rd.contains k)) && ((rd ++ wr).all fun k => !(inWin nx j k)) && ((rd' ++ wr').all fun k => !(inWin nx i k))

def lgok (nx : Nat) (all : Array Oper) (lg : Lg) (i : Nat) (rd wr : List Nat) : Bool :=
  (List.range all.size).all fun j => j == i || (match lg j with | none => true | some (rd', wr') => ord all j i || ord all i j || indep nx i j rd wr rd' wr')

def isFn (o : Oper) : Bool := match o.op with | .call c => (match c.callee with | .value _ => true | _ => false) | _ => false

/-- What is asked of a region whose order is drawn, by its text alone. -/
def drawOK (all : Array Oper) : Bool :=
  Region.noSelect all && (List.range all.size).all (fun i => (match all[i]? with | some x => x.after.all (fun e => !(Region.binds .any e) || decide (e.on < i)) | none => true)) &&
  (List.range all.size).all fun i => (List.range all.size).all fun j => decide (i ≤ j) || !(ord all i j) && (ord all j i ||
    (match all[i]?, all[j]? with | some x, some y => x.apart all y && !(isFn x && isFn y) | _, _ => true))

def dop (P : Program) (m nx nt : Nat) (all : Array Oper) (dr : Bool) (i : Nat) (o : Oper) (K : Rs → Prop) (S : Rs) : Prop :=
  ∃ rd wr T, Stp P m nx all i o S.tm S.hp rd wr T ∧ fitsT nt o.dst = true ∧ (dr = true → lgok nx all S.lg i rd wr = true ∧ ∃ d up, T d up) ∧
    ∀ d up, T d up → K ⟨setT S.tm o.dst d, appUp S.hp up, upd S.lg i (some (rd, wr))⟩

def dops (P : Program) (m nx nt : Nat) (all : Array Oper) (dr : Bool) (K : Rs → Prop) : List Nat → Rs → Prop
  | [], S => K S
  | i :: r, S => match all[i]? with
    | some o => dop P m nx nt all dr i o (dops P m nx nt all dr K r) S
    | none => False

section
variable {P : Program} {m nx nt : Nat} {all : Array Oper}

theorem dop_mono {dr : Bool} {i : Nat} {o : Oper} {K K' : Rs → Prop} (h : ∀ S, K S → K' S) {S : Rs} (hd : dop P m nx nt all dr i o K S) : dop P m nx nt all dr i o K' S :=
  let ⟨rd, wr, T, h1, h2, h3, h4⟩ := hd
  ⟨rd, wr, T, h1, h2, h3, fun d up ht => h _ (h4 d up ht)⟩

/-- One operation, then what follows. -/
theorem dop_run {dr : Bool} {i : Nat} {o : Oper} (ho : all[i]? = some o) {I : Nat → Prop} {w : World} {s : Sg} {a : Act} {S : Rs} (hR : Rc I w s a S.tm S.hp nt) {K : Rs → Prop} (h : dop P m nx nt all dr i o K S) {Q : Exit → Act → World → Prop}
    {K' : Act → World → Prop} (hK : ∀ a' w' I' s' S', K S' → (∃ p, S'.lg = upd S.lg i (some p)) → Rc I' w' s' a' S'.tm S'.hp nt → Ext m I w s S.hp I' w' s' S'.hp → K' a' w') : wpOp P all Q i K' a w := by
  obtain ⟨rd, wr, T, h1, h2, h3, h4⟩ := h
  exact h1.run ho hR h2 fun a' w' I' s' d up ht hR' hE => hK a' w' I' s' _ (h4 d up ht) ⟨_, rfl⟩ hR' hE

/-! ### A step looks at little -/

theorem okP_congr {tm tm' : Nat → Option D} : ∀ (l : List Operand), (∀ x ∈ l, evT tm x = evT tm' x) → okP tm l = okP tm' l
  | [], _ => rfl
  | x :: r, h => by
    simp only [okP, h x (by simp)]
    rw [okP_congr r fun y hy => h y (by simp [hy])]

theorem evP_congr {tm tm' : Nat → Option D} {x : Operand} (h : evT tm x = evT tm' x) : evP tm x = evP tm' x := by simp only [evP, h]

theorem pop_hp {e : Operand → Option D} {hp hp' : Hp} {o : Op} (h : ∀ k ∈ rdKeys e o, hp k = hp' k) : pop P e hp o = pop P e hp' o := by
  cases o with
  | load t x =>
    have hk : ∀ k off, e x = some (.c (.ptr k off)) → hp k = hp' k := fun k off hx => h k (by simp [rdKeys, hx])
    simp only [pop]
    split
    · rename_i k off g n hx _ _
      rw [hk k off hx]
    · rfl
    · rfl
  | makeFunc fn first caps => cases fn <;> simp only [pop]
  | slice t x lo hi mx => cases mx <;> cases lo <;> cases hi <;> simp only [pop]
  | _ => rfl

theorem target_hp {hp hp' : Hp} {d : D} (h : ∀ k ∈ mslKey d, hp k = hp' k) : target hp d = target hp' d := by
  unfold target
  split
  · rename_i k _ _
    rw [h k (by simp [mslKey])]
  · rfl
  · rfl
  · rfl

theorem lends_hp {hp hp' : Hp} {d : D} (h : ∀ k ∈ mslKey d, hp k = hp' k) : lends hp d = lends hp' d := by
  unfold lends
  split
  · rfl
  · rename_i k _ _ _
    rw [h k (by simp [mslKey])]
  · rfl
  · rfl
  · rfl

theorem stp_agree {key : Nat} {tm tm' : Nat → Option D} {hp hp' : Hp} {o : Op} {out : Out} (h : stp P m key tm hp o = some out) (ht : ∀ x ∈ o.operands.toList, evT tm x = evT tm' x)
    (hh : ∀ k, k ∈ out.rd ∨ k ∈ out.up.map (·.1) ∨ k = key → hp k = hp' k) : stp P m key tm' hp' o = some out := by
  have hpop : (match pop P (evP tm) hp o with | some (vc, d) => some (⟨okP tm o.operands.toList ∧ vc, some d, rdKeys (evP tm) o, []⟩ : Out) | none => none) = some out →
      (match pop P (evP tm') hp' o with | some (vc, d) => some (⟨okP tm' o.operands.toList ∧ vc, some d, rdKeys (evP tm') o, []⟩ : Out) | none => none) = some out := fun h => by
    have e1 : pop P (evP tm) hp o = pop P (evP tm') hp o := pop_congr fun x hx => evP_congr (ht x hx)
    have e2 : rdKeys (evP tm) o = rdKeys (evP tm') o := by
      cases o with
      | load t x => simp only [rdKeys, evP_congr (ht x (by simp [Op.operands]))]
      | _ => rfl
    have e3 : okP tm o.operands.toList = okP tm' o.operands.toList := okP_congr _ ht
    rw [e1, e2, e3] at h
    have e4 : pop P (evP tm') hp o = pop P (evP tm') hp' o := pop_hp fun k hk => hh k (.inl (by
      split at h
      · simp only [Option.some.injEq] at h
        rw [← h]; exact hk
      · cases h))
    rw [e4] at h
    exact h
  cases o with
  | pick c x y =>
    simp only [Op.operands] at ht
    have h1 := ht c (by simp); have h2 := ht x (by simp); have h3 := ht y (by simp)
    simp only [stp, evP, okP, h1, h2, h3] at h ⊢
    exact h
  | alloc T =>
    simp only [stp] at h ⊢
    split at h
    · split at h
      · rename_i h1
        rw [if_pos h1]
        simp only [Option.some.injEq] at h
        rw [hh key (.inr (.inr rfl))] at h
        rw [h]
      · cases h
    · cases h
  | box T x =>
    simp only [Op.operands] at ht
    have h1 := ht x (by simp)
    simp only [stp, evP, okP, h1] at h ⊢
    split at h
    · split at h
      · simp only [Option.some.injEq] at h
        rw [hh key (.inr (.inr rfl))] at h
        simp only [h]
      · cases h
    · cases h
  | buildSlice t n ps =>
    simp only [Op.operands] at ht
    have hps : ∀ x ∈ ps.toList.map (·.2), evT tm x = evT tm' x := fun x hx => ht x (by simpa using hx)
    have e1 : ∀ sz, partsS P sz (evP tm) 0 ps.toList = partsS P sz (evP tm') 0 ps.toList := fun sz => partsS_congr (P := P) ps.toList 0 fun x hx => evP_congr (hps x hx)
    have e2 : okP tm (ps.toList.map (·.2)) = okP tm' (ps.toList.map (·.2)) := okP_congr _ hps
    simp only [stp, e1, e2] at h ⊢
    split at h
    · split at h
      · simp only [Option.some.injEq] at h
        rw [hh key (.inr (.inr rfl))] at h
        simp only [h]
      · cases h
    · cases h
  | store t x y =>
    simp only [Op.operands] at ht
    have h1 := ht x (by simp); have h2 := ht y (by simp)
    simp only [stp, evP, okP, h1, h2] at h ⊢
    split at h
    · rename_i k off d n _ _ _
      split at h
      · rename_i cs ds hcs hds
        simp only [Option.some.injEq] at h
        have hk : hp k = hp' k := hh k (.inl (by rw [← h]; simp))
        rw [← hk, hcs]
        simp only [hds, h]
      · cases h
    · cases h
  | makeSlice t l c =>
    simp only [Op.operands] at ht
    have h1 := ht l (by simp); have h2 := ht c (by simp)
    simp only [stp, evP, okP, h1, h2] at h ⊢
    split at h
    · split at h
      · rename_i hz
        simp only [Option.some.injEq] at h
        rw [hh key (.inr (.inr rfl))] at h
        simp only [hz, if_true, h]
      · cases h
    · cases h
  | call c =>
    obtain ⟨callee, args, argTypes⟩ := c
    cases callee with
    | builtin b =>
      cases b
      case append =>
        simp only [stp] at h ⊢
        split at h
        · rename_i x y t t' ha hat
          simp only [Op.operands, Call.operands, Array.toList_append, ha, List.mem_append] at ht
          have h1 := ht x (by simp); have h2 := ht y (by simp)
          simp only [evP, okP, h1, h2] at h ⊢
          split at h
          · rename_i dx dy sz zs by' hx hy hsz hzs hby
            split at h
            · rename_i ko len cs n sz' ys htg hld
              simp only [Option.some.injEq] at h
              have hkx : ∀ k ∈ mslKey dx, hp k = hp' k := fun k hk => hh k (.inl (by rw [← h]; simp [hk]))
              have hky : ∀ k ∈ mslKey dy, hp k = hp' k := fun k hk => hh k (.inl (by rw [← h]; simp [hk]))
              have et := target_hp hkx
              have el := lends_hp hky
              rw [← et, htg, ← el, hld]
              rw [hh key (.inr (.inr rfl))] at h
              simp only [h]
            · cases h
          · cases h
        · cases h
      case clear =>
        simp only [stp] at h ⊢
        split at h
        · rename_i x t ha hat
          simp only [Op.operands, Call.operands, Array.toList_append, ha, List.mem_append] at ht
          have h1 := ht x (by simp)
          simp only [evP, okP, h1] at h ⊢
          split at h
          · rename_i k sz off len sz' zs hx hsz hzs
            split at h
            · rename_i cs hcs
              split at h
              · rename_i hz
                simp only [Option.some.injEq] at h
                have hk : hp k = hp' k := hh k (.inl (by rw [← h]; simp))
                rw [← hk, hcs]
                simp only [hz, if_true, h]
              · cases h
            · cases h
          · cases h
        · cases h
      all_goals exact hpop h
    | value f => exact hpop h
    | invoke r mth => exact hpop h
  | _ => exact hpop h

end
end Go.CT

namespace Go.CT

section
variable {P : Program} {m nx nt : Nat} {all : Array Oper}

theorem argsOf_congr {tm tm' : Nat → Option D} : ∀ (l : List Operand), (∀ x ∈ l, evT tm x = evT tm' x) → argsOf tm l = argsOf tm' l
  | [], _ => rfl
  | x :: r, h => by simp only [argsOf, evP_congr (h x (by simp)), argsOf_congr r fun y hy => h y (by simp [hy])]

theorem calleeOf_congr {tm tm' : Nat → Option D} {c : Call} (h : ∀ x ∈ c.operands.toList, evT tm x = evT tm' x) : calleeOf tm c = calleeOf tm' c := by
  obtain ⟨callee, args, at'⟩ := c
  cases callee with
  | value f =>
    simp only [Call.operands, Array.toList_append, List.mem_append] at h
    simp only [calleeOf, evP_congr (h f (by simp)), argsOf_congr args.toList fun x hx => h x (.inr hx)]
  | _ => rfl

theorem guardB_congr {tm tm' : Nat → Option D} {g : Nat} {b : Bool} (h : ∀ t, (all[g]?).bind (·.dst) = some t → tm t = tm' t) : guardB all tm g b = guardB all tm' g b := by
  unfold guardB
  cases ht : (all[g]?).bind (·.dst) with
  | none => rfl
  | some t => simp only [h t ht]

/-- What an operation looks at, at all. -/
structure Agree (nx : Nat) (all : Array Oper) (i : Nat) (o : Oper) (rd wr : List Nat) (tm tm' : Nat → Option D) (hp hp' : Hp) : Prop where
  atm : ∀ t ∈ o.looksAt all, tm t = tm' t
  ahp : ∀ k, k ∈ rd ∨ k ∈ wr → hp k = hp' k
  awin : ∀ j, j < 64 → hp (wkey nx i + j) = hp' (wkey nx i + j)

theorem Agree.ops {i : Nat} {o : Oper} {rd wr : List Nat} {tm tm' : Nat → Option D} {hp hp' : Hp} (h : Agree nx all i o rd wr tm tm' hp hp') : ∀ x ∈ o.op.operands.toList, evT tm x = evT tm' x := fun x hx => by
  cases x with
  | tmp t => exact h.atm t (List.mem_append_left _ (List.mem_filterMap.2 ⟨.tmp t, hx, rfl⟩))
  | _ => rfl

theorem Agree.guard {i : Nat} {o : Oper} {rd wr : List Nat} {tm tm' : Nat → Option D} {hp hp' : Hp} (h : Agree nx all i o rd wr tm tm' hp hp') {g : Nat} {b : Bool} (hg : o.guard = some (g, b)) : guardB all tm g b = guardB all tm' g b :=
  guardB_congr fun t ht => h.atm t (List.mem_append_right _ (by simp [hg, ht]))

theorem Agree.symm {i : Nat} {o : Oper} {rd wr : List Nat} {tm tm' : Nat → Option D} {hp hp' : Hp} (h : Agree nx all i o rd wr tm tm' hp hp') : Agree nx all i o rd wr tm' tm hp' hp :=
  ⟨fun t ht => (h.atm t ht).symm, fun k hk => (h.ahp k hk).symm, fun j hj => (h.awin j hj).symm⟩

theorem Stp.agree {i : Nat} {o : Oper} {tm tm' : Nat → Option D} {hp hp' : Hp} {rd wr : List Nat} {T : Option D → List (Nat × Option (List C)) → Prop} (h : Stp P m nx all i o tm hp rd wr T)
    (hA : Agree nx all i o rd wr tm tm' hp hp') : Stp P m nx all i o tm' hp' rd wr T := by
  have hops := hA.ops
  have hkey : hp (wkey nx i) = hp' (wkey nx i) := by simpa using hA.awin 0 (by omega)
  cases h with
  | plain out hg h hvc => exact .plain out hg (stp_agree h hops fun k hk => by
      rcases hk with h1 | h1 | h1
      · exact hA.ahp k (.inl h1)
      · exact hA.ahp k (.inr h1)
      · rw [h1]; exact hkey) hvc
  | gplain g b x out hg hx h hup hvc =>
    exact .gplain g b x out hg (by rw [← hA.guard hg]; exact hx) (stp_agree h hops fun k hk => by
      rcases hk with h1 | h1 | h1
      · exact hA.ahp k (.inl h1)
      · rw [hup] at h1; simp at h1
      · rw [h1]; exact hkey) hup hvc
  | gon g b out hg hm hx h hvc =>
    exact .gon g b out hg hm (by rw [← hA.guard hg]; exact hx) (stp_agree h hops fun k hk => by
      rcases hk with h1 | h1 | h1
      · exact hA.ahp k (.inl h1)
      · exact hA.ahp k (.inr h1)
      · rw [h1]; exact hkey) hvc
  | goff g b hg hm hx => exact .goff g b hg hm (by rw [← hA.guard hg]; exact hx)
  | gnone g b hg hx h hnc =>
    refine .gnone g b hg (by rw [← hA.guard hg]; exact hx) (fun hp0 => ?_) hnc
    cases h' : stp P m (wkey nx i) tm' hp0 o.op with
    | none => rfl
    | some out' =>
      have := stp_agree h' (fun x hx => (hops x hx).symm) (hp' := hp0) (fun k _ => rfl)
      rw [h hp0] at this
      cases this
  | call c F args _ h R hg hop hc hok hfn hD hks hnd hhp hm hb hlen =>
    have hco : ∀ x ∈ c.operands.toList, evT tm x = evT tm' x := by
      intro x hx
      exact hops x (by rw [hop]; exact hx)
    refine .call c F args _ h R (hg.imp id fun ⟨g, b, hg, hx⟩ => ⟨g, b, hg, by rw [← hA.guard hg]; exact hx⟩) hop (by rw [← calleeOf_congr hco]; exact hc) (by rw [← okP_congr _ hco]; exact hok) hfn hD hks hnd (fun i' x hx => ?_) hm (fun j hj => by rw [← hA.awin j hj]; exact hb j hj) hlen
    have hlt : i' < rd.length := by
      have := (List.getElem?_eq_some_iff.1 hx).1
      omega
    rw [← hA.ahp _ (.inl (by rw [List.getD_eq_getElem?_getD, List.getElem?_eq_getElem hlt]; simp))]
    exact hhp i' x hx
  | rcall c F args _ h R hg hop hc hok hfn hD hks hnd hhp hm hb hsame hkf =>
    have hco : ∀ x ∈ c.operands.toList, evT tm x = evT tm' x := by
      intro x hx
      exact hops x (by rw [hop]; exact hx)
    refine .rcall c F args _ h R (hg.imp id fun ⟨g, b, hg, hx⟩ => ⟨g, b, hg, by rw [← hA.guard hg]; exact hx⟩) hop (by rw [← calleeOf_congr hco]; exact hc) (by rw [← okP_congr _ hco]; exact hok) hfn hD hks hnd (fun i' x hx => ?_) hm (fun j hj => by rw [← hA.awin j hj]; exact hb j hj) hsame hkf
    have hlt : i' < rd.length := by
      have := (List.getElem?_eq_some_iff.1 hx).1
      omega
    rw [← hA.ahp _ (.inl (by rw [List.getD_eq_getElem?_getD, List.getElem?_eq_getElem hlt]; simp))]
    exact hhp i' x hx
  | gcall g b x c d hg hx hop hcf hc hm hb =>
    have hco : ∀ x ∈ c.operands.toList, evT tm x = evT tm' x := by
      intro x hx
      exact hops x (by rw [hop]; exact hx)
    refine .gcall g b x c d hg (by rw [← hA.guard hg]; exact hx) hop hcf (fun hxt => ?_) hm (fun j hj => by rw [← hA.awin j hj]; exact hb j hj)
    obtain ⟨F, args, h1, h2, h3⟩ := hc hxt
    exact ⟨F, args, by rw [← calleeOf_congr hco]; exact h1, by rw [← okP_congr _ hco]; exact h2, h3⟩

/-- An operation that is no call of a function: there is one way to take it. -/
theorem Stp.uniq {i : Nat} {o : Oper} (hf : isFn o = false) {tm : Nat → Option D} {hp : Hp} {rd wr rd' wr' : List Nat} {T T' : Option D → List (Nat × Option (List C)) → Prop} (h : Stp P m nx all i o tm hp rd wr T)
    (h' : Stp P m nx all i o tm hp rd' wr' T') : rd = rd' ∧ wr = wr' ∧ T = T' ∧ ∃ d up, T = fun d' up' => d' = d ∧ up' = up := by
  have hno : ∀ {c : Call} {F : FuncId} {ds : List D}, o.op = .call c → calleeOf tm c = some (F, ds) → False := fun {c F ds} e hc => by
    unfold isFn at hf
    rw [e] at hf
    simp only at hf
    unfold calleeOf at hc
    split at hc
    · rename_i f hcal
      rw [hcal] at hf
      cases hf
    · cases hc
  have hno2 : ∀ {c : Call}, o.op = .call c → (∃ f, c.callee = .value f) → False := fun {c} e ⟨f, hcf⟩ => by
    unfold isFn at hf
    rw [e] at hf
    simp only [hcf] at hf
    cases hf
  cases h with
  | plain out hg h hvc =>
    cases h' with
    | plain out' hg' h' hvc' =>
      rw [h] at h'
      cases h'
      exact ⟨rfl, rfl, rfl, _, _, rfl⟩
    | gplain g b x out' hg' => rw [hg] at hg'; cases hg'
    | gnone g b hg' => rw [hg] at hg'; cases hg'
    | gon g b out' hg' => rw [hg] at hg'; cases hg'
    | goff g b hg' => rw [hg] at hg'; cases hg'
    | call c F args _ h R hg hop hc => exact (hno hop hc).elim
    | gcall g b x c d hg' => rw [hg] at hg'; cases hg'
    | rcall c F args _ h R hg hop hc => exact (hno hop hc).elim
  | gon g b out hg hm hx h hvc =>
    cases h' with
    | plain out' hg' => rw [hg] at hg'; cases hg'
    | gplain g' b' x' out' hg' hx' h' hup' hvc' => exact absurd hup' (mayUp_up hm h')
    | gnone g' b' hg' hx' h' => rw [h' hp] at h; cases h
    | gon g' b' out' hg' hm' hx' h' hvc' =>
      rw [h] at h'
      cases h'
      exact ⟨rfl, rfl, rfl, _, _, rfl⟩
    | goff g' b' hg' hm' hx' =>
      rw [hg] at hg'
      cases hg'
      rw [hx] at hx'
      cases hx'
    | call c F args _ h R hg' hop hc => exact (hno hop hc).elim
    | gcall g' b' x' c d hg' hx' hop hcf => exact (hno2 hop hcf).elim
    | rcall c F args _ h R hg' hop hc => exact (hno hop hc).elim
  | goff g b hg hm hx =>
    cases h' with
    | plain out' hg' => rw [hg] at hg'; cases hg'
    | gplain g' b' x' out' hg' hx' h' hup' hvc' => exact absurd hup' (mayUp_up hm h')
    | gnone g' b' hg' hx' h' => exact ⟨rfl, rfl, rfl, _, _, rfl⟩
    | gon g' b' out' hg' hm' hx' h' hvc' =>
      rw [hg] at hg'
      cases hg'
      rw [hx] at hx'
      cases hx'
    | goff g' b' hg' hm' hx' => exact ⟨rfl, rfl, rfl, _, _, rfl⟩
    | call c F args _ h R hg' hop hc => exact (hno hop hc).elim
    | gcall g' b' x' c d hg' hx' hop hcf => exact (hno2 hop hcf).elim
    | rcall c F args _ h R hg' hop hc => exact (hno hop hc).elim
  | gplain g b x out hg hx h hup hvc =>
    cases h' with
    | plain out' hg' => rw [hg] at hg'; cases hg'
    | gplain g' b' x' out' hg' hx' h' hup' hvc' =>
      rw [hg] at hg'
      cases hg'
      rw [hx] at hx'
      cases hx'
      rw [h] at h'
      cases h'
      exact ⟨rfl, rfl, rfl, _, _, rfl⟩
    | gnone g' b' hg' hx' h' => rw [h' hp] at h; cases h
    | gon g' b' out' hg' hm' hx' h' hvc' => exact absurd hup (mayUp_up hm' h)
    | goff g' b' hg' hm' hx' => exact absurd hup (mayUp_up hm' h)
    | call c F args _ h R hg' hop hc => exact (hno hop hc).elim
    | gcall g' b' x' c d hg' hx' hop hcf => exact (hno2 hop hcf).elim
    | rcall c F args _ h R hg' hop hc => exact (hno hop hc).elim
  | gnone g b hg hx h hnc =>
    cases h' with
    | plain out' hg' => rw [hg] at hg'; cases hg'
    | gplain g' b' x' out' hg' hx' h' => rw [h hp] at h'; cases h'
    | gnone => exact ⟨rfl, rfl, rfl, _, _, rfl⟩
    | gon g' b' out' hg' hm' hx' h' hvc' => rw [h hp] at h'; cases h'
    | goff g' b' hg' hm' hx' => exact ⟨rfl, rfl, rfl, _, _, rfl⟩
    | call c F args _ h R hg' hop hc => exact (hno hop hc).elim
    | gcall g' b' x' c d hg' hx' hop hcf => exact (hno2 hop hcf).elim
    | rcall c F args _ h R hg' hop hc => exact (hno hop hc).elim
  | call c F args _ h R hg hop hc => exact (hno hop hc).elim
  | rcall c F args _ h R hg hop hc => exact (hno hop hc).elim
  | gcall g b x c d hg hx hop hcf => exact (hno2 hop hcf).elim

/-- The keys that an operation changes. -/
theorem Stp.keys {i : Nat} {o : Oper} {tm : Nat → Option D} {hp : Hp} {rd wr : List Nat} {T : Option D → List (Nat × Option (List C)) → Prop} (h : Stp P m nx all i o tm hp rd wr T) {d : Option D} {up : List (Nat × Option (List C))} (ht : T d up) :
    ∀ p ∈ up, p.1 ∈ wr ∨ inWin nx i p.1 = true := by
  cases h with
  | plain out hg h hvc =>
    obtain ⟨rfl, rfl⟩ := ht
    exact fun p hp => .inl (List.mem_map.2 ⟨p, hp, rfl⟩)
  | gplain g b x out hg hx h hup hvc =>
    obtain ⟨_, rfl⟩ := ht
    exact fun p hp => by simp at hp
  | gon g b out hg hm hx h hvc =>
    obtain ⟨rfl, rfl⟩ := ht
    exact fun p hp => .inl (List.mem_map.2 ⟨p, hp, rfl⟩)
  | goff g b hg hm hx =>
    obtain ⟨_, rfl⟩ := ht
    exact fun p hp => by simp at hp
  | gnone g b hg hx h hnc =>
    obtain ⟨_, rfl⟩ := ht
    exact fun p hp => by simp at hp
  | rcall c F args _ h R hg hop hc hok hfn hD hks hnd hhp hm hb hsame hkf =>
    obtain ⟨_, _, _, rfl⟩ := ht
    exact fun p hp => by simp at hp
  | gcall g b x c d hg hx hop hcf hc hm hb =>
    obtain ⟨_, rfl⟩ := ht
    exact fun p hp => by simp at hp
  | call c F args _ h R hg hop hc hok hfn hD hks hnd hhp hm hb hlen =>
    obtain ⟨d', h', hR, _, _, rfl⟩ := ht
    have hl := hlen d' h' hR
    have key : ∀ (l : List (Option (List C))) (j : Nat), j + l.length ≤ h'.length → ∀ p ∈ upsFrom (rkey rd (wkey nx i)) j l, p.1 ∈ rd ∨ inWin nx i p.1 = true := by
      intro l
      induction l with
      | nil => intro j _ p hp; simp [upsFrom] at hp
      | cons x l ih =>
        intro j hj p hp
        simp only [List.length_cons] at hj
        simp only [upsFrom, List.mem_cons] at hp
        rcases hp with rfl | hp
        · simp only [rkey]
          by_cases hlt : j < rd.length
          · rw [if_pos hlt, List.getD_eq_getElem?_getD, List.getElem?_eq_getElem hlt]
            exact .inl (by simp)
          · rw [if_neg hlt]
            refine .inr ?_
            simp only [inWin, Bool.and_eq_true, decide_eq_true_eq]
            omega
        · exact ih (j + 1) (by omega) p hp
    exact key h' 0 (by omega)

theorem appUp_other : ∀ (up : List (Nat × Option (List C))) (hp : Hp) (k : Nat), (∀ p ∈ up, p.1 ≠ k) → appUp hp up k = hp k
  | [], _, _, _ => rfl
  | (j, x) :: r, hp, k, h => by
    simp only [appUp]
    rw [appUp_other r _ k fun p hp => h p (by simp [hp])]
    exact upd_ne _ _ (fun e => h (j, x) (by simp) e.symm)

theorem upd_comm {α : Type} (f : Nat → α) {a b : Nat} (h : a ≠ b) (x y : α) : upd (upd f a x) b y = upd (upd f b y) a x := by
  funext k
  simp only [upd]
  by_cases h1 : k = a
  · subst h1; simp [h]
  · by_cases h2 : k = b
    · subst h2; simp [h1]
    · simp [h1, h2]

theorem appUp_upd : ∀ (up : List (Nat × Option (List C))) (hp : Hp) (k : Nat) (x : Option (Option (List C))), (∀ p ∈ up, p.1 ≠ k) → appUp (upd hp k x) up = upd (appUp hp up) k x
  | [], _, _, _, _ => rfl
  | (j, y) :: r, hp, k, x, h => by
    simp only [appUp]
    rw [upd_comm hp (fun e => h (j, y) (by simp) e.symm)]
    exact appUp_upd r _ k x fun p hp => h p (by simp [hp])

theorem appUp_comm : ∀ (a b : List (Nat × Option (List C))) (hp : Hp), (∀ p ∈ a, ∀ q ∈ b, p.1 ≠ q.1) → appUp (appUp hp a) b = appUp (appUp hp b) a
  | [], _, _, _ => rfl
  | (j, x) :: r, b, hp, h => by
    simp only [appUp]
    rw [appUp_comm r b _ fun p hp q hq => h p (by simp [hp]) q hq]
    rw [appUp_upd b hp j (some x) fun q hq e => h (j, x) (by simp) q hq e.symm]

theorem setT_comm (tm : Nat → Option D) {x y : Option Tmp} (h : ∀ d, x = some d → y ≠ some d) (u v : Option D) : setT (setT tm x u) y v = setT (setT tm y v) x u := by
  cases x with
  | none => rfl
  | some a =>
    cases y with
    | none => rfl
    | some b => exact upd_comm tm (fun e => h a rfl (by rw [e])) u v

theorem setT_other (tm : Nat → Option D) {x : Option Tmp} {t : Tmp} (h : x ≠ some t) (u : Option D) : setT tm x u t = tm t := by
  cases x with
  | none => rfl
  | some a => exact upd_ne _ _ (fun e => h (by rw [e]))

theorem inWin_disj {i j k : Nat} (hij : i ≠ j) (h : inWin nx i k = true) : inWin nx j k = false := by
  simp only [inWin, wkey, Bool.and_eq_true, decide_eq_true_eq] at h
  simp only [inWin, wkey, Bool.and_eq_false_iff, decide_eq_false_iff_not]
  rcases Nat.lt_or_ge i j with h1 | h1 <;> omega

/-- What 'indep' says. -/
theorem indep_spec {i j : Nat} {rd wr rd' wr' : List Nat} (h : indep nx i j rd wr rd' wr' = true) :
    (∀ k ∈ wr, k ∉ rd' ∧ k ∉ wr') ∧ (∀ k ∈ wr', k ∉ rd) ∧ (∀ k, k ∈ rd ∨ k ∈ wr → inWin nx j k = false) ∧ (∀ k, k ∈ rd' ∨ k ∈ wr' → inWin nx i k = false) := by
  simp only [indep, Bool.and_eq_true, List.all_eq_true, List.mem_append, Bool.not_eq_true', List.contains_eq_mem, decide_eq_false_iff_not] at h
  obtain ⟨⟨⟨h1, h2⟩, h3⟩, h4⟩ := h
  exact ⟨h1, h2, h3, h4⟩

theorem indep_symm {i j : Nat} {rd wr rd' wr' : List Nat} (h : indep nx i j rd wr rd' wr' = true) : indep nx j i rd' wr' rd wr = true := by
  obtain ⟨h1, h2, h3, h4⟩ := indep_spec h
  simp only [indep, Bool.and_eq_true, List.all_eq_true, List.mem_append, Bool.not_eq_true', List.contains_eq_mem, decide_eq_false_iff_not]
  exact ⟨⟨⟨fun k hk => ⟨h2 k hk, fun hk' => (h1 k hk').2 hk⟩, fun k hk => (h1 k hk).1⟩, h4⟩, h3⟩

/-- An operation that is apart from another one, behind it, is what it was before it. -/
theorem agree_after {i j : Nat} {oi oj : Oper} (hij : i ≠ j) (hap : oi.apart all oj = true) {rd wr rd' wr' : List Nat} (hin : indep nx i j rd wr rd' wr' = true) {tm : Nat → Option D} {hp : Hp} {T : Option D → List (Nat × Option (List C)) → Prop}
    (hi : Stp P m nx all i oi tm hp rd wr T) {d : Option D} {up : List (Nat × Option (List C))} (ht : T d up) : Agree nx all j oj rd' wr' tm (setT tm oi.dst d) hp (appUp hp up) := by
  obtain ⟨h1, h2, h3, h4⟩ := indep_spec hin
  obtain ⟨a1, a2, a3⟩ := Oper.apart_spec hap
  have hk := hi.keys ht
  refine ⟨fun t htm => (setT_other tm (fun e => a1 t e htm) d).symm, fun k hk' => (appUp_other up hp k fun p hp e => ?_).symm, fun j' hj' => (appUp_other up hp _ fun p hp e => ?_).symm⟩
  · rcases hk p hp with h | h
    · rw [e] at h
      rcases hk' with hk' | hk'
      · exact (h1 k h).1 hk'
      · exact (h1 k h).2 hk'
    · rw [e, h4 k hk'] at h; cases h
  · have hw : inWin nx j (wkey nx j + j') = true := by simp only [inWin, Bool.and_eq_true, decide_eq_true_eq]; omega
    rcases hk p hp with h | h
    · rw [e] at h
      rw [h3 _ (.inr h)] at hw; cases hw
    · rw [e] at h
      rw [inWin_disj hij h] at hw; cases hw

theorem lgok_at {lg : Lg} {i j : Nat} {rd wr rd' wr' : List Nat} (h : lgok nx all lg i rd wr = true) (hj : j < all.size) (hne : j ≠ i) (hl : lg j = some (rd', wr')) (h1 : ord all i j = false) (h2 : ord all j i = false) : indep nx i j rd wr rd' wr' = true := by
  simp only [lgok, List.all_eq_true, List.mem_range] at h
  have := h j hj
  simpa [hl, hne, h1, h2] using this

theorem lgok_less {lg : Lg} {i j : Nat} {rd wr : List Nat} {p : Option (List Nat × List Nat)} (h : lgok nx all (upd lg j p) i rd wr = true) (hl : lg j = none) : lgok nx all lg i rd wr = true := by
  simp only [lgok, List.all_eq_true, List.mem_range] at h ⊢
  intro k hk
  have := h k hk
  by_cases e : k = j
  · subst e; simp [hl]
  · rwa [upd_ne _ _ e] at this

theorem lgok_more {lg : Lg} {i j : Nat} {rd wr rd' wr' : List Nat} (h : lgok nx all lg i rd wr = true) (hin : indep nx i j rd wr rd' wr' = true) : lgok nx all (upd lg j (some (rd', wr'))) i rd wr = true := by
  simp only [lgok, List.all_eq_true, List.mem_range] at h ⊢
  intro k hk
  by_cases e : k = j
  · subst e; simp [upd_same, hin]
  · rw [upd_ne _ _ e]; exact h k hk

/-- TWO OPERATIONS THAT NO EDGE BINDS MAY CHANGE PLACES. -/
theorem dop_swap {i j : Nat} {oi oj : Oper} (hi : i < all.size) (hj : j < all.size) (hij : i ≠ j) (hap : oi.apart all oj = true) (hfn : (isFn oi && isFn oj) = false) (h1 : ord all i j = false) (h2 : ord all j i = false) {K : Rs → Prop} {S : Rs} (hli : S.lg i = none) (hlj : S.lg j = none)
    (h : dop P m nx nt all true i oi (dop P m nx nt all true j oj K) S) : dop P m nx nt all true j oj (dop P m nx nt all true i oi K) S := by
  have hap' : oj.apart all oi = true := by
    obtain ⟨a1, a2, a3⟩ := Oper.apart_spec hap
    simp only [Oper.apart, Bool.and_eq_true]
    constructor
    · cases hd : oj.dst with
      | none => rfl
      | some d =>
        have := a3 d hd
        have h3 : oi.dst ≠ some d := fun e => a2 d e hd
        simp [this, h3]
    · cases hd : oi.dst with
      | none => rfl
      | some d => simp [a1 d hd]
  obtain ⟨rdi, wri, Ti, hSi, hfi, hdi, hKi⟩ := h
  obtain ⟨hlgi, d0, up0, ht0⟩ := hdi rfl
  obtain ⟨rdj, wrj, Tj, hSj, hfj, hdj, hKj⟩ := hKi d0 up0 ht0
  obtain ⟨hlgj, dj0, upj0, htj0⟩ := hdj rfl
  have hin : indep nx j i rdj wrj rdi wri = true := lgok_at hlgj hi hij (upd_same _ _ _) h2 h1
  have hin' := indep_symm hin
  have hSj0 : Stp P m nx all j oj S.tm S.hp rdj wrj Tj := hSj.agree (agree_after hij hap hin' hSi ht0).symm
  refine ⟨rdj, wrj, Tj, hSj0, hfj, fun _ => ⟨lgok_less hlgj hli, dj0, upj0, htj0⟩, fun dj upj htj => ?_⟩
  refine ⟨rdi, wri, Ti, hSi.agree (agree_after (Ne.symm hij) hap' hin hSj0 htj), hfi, fun _ => ⟨lgok_more hlgi hin', d0, up0, ht0⟩, fun di upi hti => ?_⟩
  -- the same state, by either order
  have hst : (⟨setT (setT S.tm oj.dst dj) oi.dst di, appUp (appUp S.hp upj) upi, upd (upd S.lg j (some (rdj, wrj))) i (some (rdi, wri))⟩ : Rs) =
      ⟨setT (setT S.tm oi.dst di) oj.dst dj, appUp (appUp S.hp upi) upj, upd (upd S.lg i (some (rdi, wri))) j (some (rdj, wrj))⟩ := by
    obtain ⟨a1, a2, a3⟩ := Oper.apart_spec hap'
    obtain ⟨k1, k2, k3, k4⟩ := indep_spec hin
    congr 1
    · exact setT_comm S.tm a2 dj di
    · refine appUp_comm upj upi S.hp fun p hp q hq e => ?_
      rcases hSj0.keys htj p hp with hp | hp <;> rcases hSi.keys hti q hq with hq | hq
      · exact (k1 _ hp).2 (e ▸ hq)
      · have := k3 _ (.inr hp)
        rw [e, hq] at this; cases this
      · have := k4 _ (.inr hq)
        rw [← e, hp] at this; cases this
      · have := inWin_disj (Ne.symm hij) hp
        rw [e, hq] at this; cases this
    · exact upd_comm S.lg (Ne.symm hij) _ _
  rw [hst]
  cases hfi' : isFn oi with
  | false =>
    -- the first one is no call: it leaves one state alone
    obtain ⟨_, _, _, da, upa, hTe⟩ := hSi.uniq hfi' hSi
    have e1 : di = d0 ∧ upi = up0 := by
      rw [hTe] at hti ht0
      exact ⟨hti.1.trans ht0.1.symm, hti.2.trans ht0.2.symm⟩
    rw [e1.1, e1.2]
    exact hKj dj upj htj
  | true =>
    have hfj' : isFn oj = false := by simpa [hfi'] using hfn
    obtain ⟨rdj', wrj', Tj', hSj', _, hdj', hKj'⟩ := hKi di upi hti
    obtain ⟨hlgj', _⟩ := hdj' rfl
    have hinb : indep nx j i rdj' wrj' rdi wri = true := lgok_at hlgj' hi hij (upd_same _ _ _) h2 h1
    have hSjb : Stp P m nx all j oj S.tm S.hp rdj' wrj' Tj' := hSj'.agree (agree_after hij hap (indep_symm hinb) hSi hti).symm
    obtain ⟨e1, e2, e3, _⟩ := Stp.uniq hfj' hSj0 hSjb
    have := hKj' dj upj (e3 ▸ htj)
    rw [← e1, ← e2] at this
    exact this

end
end Go.CT

namespace Go.CT

/-- An operation's own bits. -/
theorem fold_bits (acc : Array Nat) (j : Nat) : ∀ (l : List Edge) (s : Nat), (l.foldl (fun s e => if Region.binds .any e then s ||| 2 ^ e.on ||| acc.getD e.on 0 else s) s).testBit j = true →
    s.testBit j = true ∨ ∃ e ∈ l, Region.binds .any e = true ∧ (e.on = j ∨ (acc.getD e.on 0).testBit j = true)
  | [], s, h => .inl h
  | e :: r, s, h => by
    simp only [List.foldl_cons] at h
    rcases fold_bits acc j r _ h with h1 | ⟨e', he', hb, h2⟩
    · by_cases hb : Region.binds .any e = true
      · rw [if_pos hb] at h1
        simp only [Nat.testBit_or, Bool.or_eq_true] at h1
        rcases h1 with (h1 | h1) | h1
        · exact .inl h1
        · rw [Nat.testBit_two_pow] at h1
          exact .inr ⟨e, by simp, hb, .inl (of_decide_eq_true h1)⟩
        · exact .inr ⟨e, by simp, hb, .inr h1⟩
      · rw [if_neg hb] at h1
        exact .inl h1
    · exact .inr ⟨e', by simp [he'], hb, h2⟩

theorem before_aux (j : Nat) : ∀ (l : List Oper) (acc : Array Nat), ∃ R : Array Nat,
    l.foldl (fun acc o => acc.push (o.after.foldl (fun s e => if Region.binds .any e then s ||| 2 ^ e.on ||| acc.getD e.on 0 else s) 0)) acc = R ∧ (∀ k, k < acc.size → R[k]? = acc[k]?) ∧
      ∀ k o, l[k]? = some o → (R.getD (acc.size + k) 0).testBit j = true → ∃ e ∈ o.after, Region.binds .any e = true ∧ (e.on = j ∨ (R.getD e.on 0).testBit j = true)
  | [], acc => ⟨acc, rfl, fun _ _ => rfl, fun k o h => by simp at h⟩
  | o :: r, acc => by
    obtain ⟨R, hR, h1, h2⟩ := before_aux j r (acc.push (o.after.foldl (fun s e => if Region.binds .any e then s ||| 2 ^ e.on ||| acc.getD e.on 0 else s) 0))
    refine ⟨R, hR, fun k hk => ?_, fun k o' hk hb => ?_⟩
    · rw [h1 k (by simp; omega), Array.getElem?_push, if_neg (by omega)]
    · cases k with
      | succ k => exact h2 k o' (by simpa using hk) (by rw [Array.size_push, show acc.size + 1 + k = acc.size + (k + 1) from by omega]; exact hb)
      | zero =>
        simp only [List.getElem?_cons_zero, Option.some.injEq] at hk
        subst hk
        have e1 : R.getD (acc.size + 0) 0 = o.after.foldl (fun s e => if Region.binds .any e then s ||| 2 ^ e.on ||| acc.getD e.on 0 else s) 0 := by
          rw [Array.getD_eq_getD_getElem?, h1 _ (by simp)]
          simp
        rw [e1, ← Array.foldl_toList] at hb
        rcases fold_bits acc j o.after.toList 0 hb with h3 | ⟨e, he, hbe, h3⟩
        · simp at h3
        · refine ⟨e, by simpa using he, hbe, h3.imp id fun h4 => ?_⟩
          have hlt : e.on < acc.size := by
            rcases Nat.lt_or_ge e.on acc.size with h5 | h5
            · exact h5
            · simp [Array.getD_eq_getD_getElem?, Array.getElem?_eq_none h5] at h4
          have : R.getD e.on 0 = acc.getD e.on 0 := by
            rw [Array.getD_eq_getD_getElem?, Array.getD_eq_getD_getElem?, h1 _ (by simp; omega), Array.getElem?_push, if_neg (by omega)]
          rw [this]; exact h4

theorem ord_edge {all : Array Oper} {i j : Nat} {o : Oper} (ho : all[i]? = some o) (h : ord all j i = true) : ∃ e ∈ o.after, Region.binds .any e = true ∧ (e.on = j ∨ ord all j e.on = true) := by
  obtain ⟨R, hR, _, h2⟩ := before_aux j all.toList #[]
  have e1 : Region.before all = R := by
    rw [← hR]
    simp only [Region.before]
    rw [← Array.foldl_toList]
  simp only [ord, e1] at h ⊢
  have := h2 i o (by simpa using ho) (by simpa using h)
  exact this

section
variable {P : Program} {m nx nt : Nat} {all : Array Oper}

theorem dop_mono2 {dr : Bool} {i : Nat} {o : Oper} {K K' : Rs → Prop} {S : Rs} (h : ∀ S' p, S'.lg = upd S.lg i (some p) → K S' → K' S') (hd : dop P m nx nt all dr i o K S) : dop P m nx nt all dr i o K' S :=
  let ⟨rd, wr, T, h1, h2, h3, h4⟩ := hd
  ⟨rd, wr, T, h1, h2, h3, fun d up ht => h _ _ rfl (h4 d up ht)⟩

theorem drawOK_pair (h : drawOK all = true) {i j : Nat} (hij : j < i) {x y : Oper} (hx : all[i]? = some x) (hy : all[j]? = some y) (ho : ord all j i = false) : ord all i j = false ∧ x.apart all y = true ∧ (isFn x && isFn y) = false := by
  simp only [drawOK, Bool.and_eq_true, List.all_eq_true, List.mem_range] at h
  have hi := (Array.getElem?_eq_some_iff.1 hx).1
  have hj := (Array.getElem?_eq_some_iff.1 hy).1
  have := h.2 i hi j hj
  have h3 : ord all i j = false ∧ x.apart all y = true ∧ (isFn x = false ∨ isFn y = false) := by
    simpa [hx, hy, ho, show ¬ i ≤ j from by omega] using this
  exact ⟨h3.1, h3.2.1, by rcases h3.2.2 with h | h <;> simp [h]⟩

theorem drawOK_edge (h : drawOK all = true) {i : Nat} {x : Oper} (hx : all[i]? = some x) {e : Edge} (he : e ∈ x.after) (hb : Region.binds .any e = true) : e.on < i := by
  simp only [drawOK, Bool.and_eq_true, List.all_eq_true, List.mem_range] at h
  have hi := (Array.getElem?_eq_some_iff.1 hx).1
  have := h.1.2 i hi
  simp only [hx, Array.all_eq_true_iff_forall_mem, Bool.or_eq_true, Bool.not_eq_true', decide_eq_true_eq] at this
  rcases this e he with h1 | h1
  · rw [hb] at h1; cases h1
  · exact h1

theorem apart_symm {x y : Oper} (h : x.apart all y = true) : y.apart all x = true := by
  obtain ⟨a1, a2, a3⟩ := Oper.apart_spec h
  simp only [Oper.apart, Bool.and_eq_true]
  constructor
  · cases hd : y.dst with
    | none => rfl
    | some d =>
      have := a3 d hd
      have h3 : x.dst ≠ some d := fun e => a2 d e hd
      simp [this, h3]
  · cases hd : x.dst with
    | none => rfl
    | some d => simp [a1 d hd]

/-- Whatever may come first, comes first. -/
theorem dops_front (hD : drawOK all = true) {i : Nat} {o : Oper} (ho : all[i]? = some o) {K : Rs → Prop} : ∀ (pre post : List Nat) {S : Rs}, (∀ j ∈ pre, j < i) → (∀ j ∈ pre, ord all j i = false) → S.lg i = none → (∀ j ∈ pre, S.lg j = none) → pre.Nodup →
    dops P m nx nt all true K (pre ++ i :: post) S → dop P m nx nt all true i o (dops P m nx nt all true K (pre ++ post)) S
  | [], post, S, _, _, _, _, _, h => by simpa only [List.nil_append, dops, ho] using h
  | j :: pre, post, S, hlt, hno, hli, hlj, hnd, h => by
    simp only [List.cons_append, dops] at h
    cases hj : all[j]? with
    | none => simp only [hj] at h
    | some oj =>
      simp only [hj] at h
      have hji := hlt j (by simp)
      obtain ⟨h1, h2, h3⟩ := drawOK_pair hD hji ho hj (hno j (by simp))
      have hnd' := List.nodup_cons.1 hnd
      have h4 : dop P m nx nt all true j oj (dop P m nx nt all true i o (dops P m nx nt all true K (pre ++ post))) S := by
        refine dop_mono2 (fun S' p hl hK => ?_) h
        refine dops_front hD ho pre post (fun k hk => hlt k (by simp [hk])) (fun k hk => hno k (by simp [hk])) ?_ (fun k hk => ?_) hnd'.2 hK
        · rw [hl, upd_ne _ _ (by omega)]; exact hli
        · rw [hl, upd_ne _ _ (fun e : k = j => hnd'.1 (by rw [← e]; exact hk))]; exact hlj k (by simp [hk])
      have hi' := (Array.getElem?_eq_some_iff.1 ho).1
      have hj' := (Array.getElem?_eq_some_iff.1 hj).1
      have h5 := dop_swap hj' hi' (by omega) (apart_symm h2) (by rw [Bool.and_comm]; exact h3) (hno j (by simp)) h1 (hlj j (by simp)) hli h4
      refine dop_mono (fun S' hS => ?_) h5
      simp only [List.cons_append, dops, hj]
      exact hS

/-- EVERY ORDER: a region that goes through in the order of the text goes through in every order. -/
theorem draws_run (hD : drawOK all = true) {K : Rs → Prop} {Q : Exit → Act → World → Prop} : ∀ (n : Nat) (T : List Nat) (listed : Array Bool) {I : Nat → Prop} {w : World} {s : Sg} {a : Act} {S : Rs}, T.length = n → T.Pairwise (· < ·) → (∀ i ∈ T, i < all.size) → listed.size = all.size →
    (∀ i, i < all.size → (listed.getD i true = false ↔ i ∈ T)) → (∀ i j, i < all.size → listed.getD i true = true → ord all j i = true → listed.getD j true = true) → (∀ i ∈ T, S.lg i = none) → Rc I w s a S.tm S.hp nt → dops P m nx nt all true K T S →
    (∀ a' w' I' s' S', K S' → Rc I' w' s' a' S'.tm S'.hp nt → Ext m I w s S.hp I' w' s' S'.hp → Q .normal a' w') → wpAny P .any all Q n listed a w := by
  intro n
  induction n with
  | zero =>
    intro T listed I w s a S hT hP hlt hsz hl hdc hlg hR h hQ
    have : T = [] := List.eq_nil_of_length_eq_zero hT
    subst this
    refine ⟨List.eq_nil_iff_forall_not_mem.2 fun i hi => ?_, hQ a w I s S h hR (Ext.refl _ _ _ _ _)⟩
    obtain ⟨h0, o, ho, _⟩ := mem_ready.1 hi
    have := (hl i (Array.getElem?_eq_some_iff.1 ho).1).1 h0
    simp at this
  | succ n ih =>
    intro T listed I w s a S hT hP hlt hsz hl hdc hlg hR h hQ
    refine ⟨fun hr => ?_, fun i hi => ?_⟩
    · -- something can always be done
      exfalso
      cases hT' : T with
      | nil => rw [hT'] at hT; simp at hT
      | cons i r =>
        have hiT : i ∈ T := by rw [hT']; simp
        have hi := hlt i hiT
        have hmem : i ∈ Region.ready .any all listed := by
          refine mem_ready.2 ⟨(hl i hi).2 hiT, all[i], by simp [hi], fun e he hb => ?_⟩
          have hlt' := drawOK_edge hD (Array.getElem?_eq_getElem hi) he hb
          cases hb' : listed.getD e.on true with
          | true =>
            have hs : e.on < listed.size := by omega
            simpa [Array.getD_eq_getD_getElem?, hs] using hb'
          | false =>
            have hm := (hl e.on (by omega)).1 hb'
            rw [hT'] at hm hP
            rcases List.mem_cons.1 hm with h1 | h1
            · omega
            · have := (List.pairwise_cons.1 hP).1 _ h1
              omega
        rw [hr] at hmem
        simp at hmem
    · obtain ⟨h0, o, ho, hall⟩ := mem_ready.1 hi
      have hilt := (Array.getElem?_eq_some_iff.1 ho).1
      have hiT := (hl i hilt).1 h0
      obtain ⟨pre, post, rfl⟩ := List.append_of_mem hiT
      have hlisted : ∀ k, listed.getD k false = true → k < all.size ∧ listed.getD k true = true := fun k hk => by
        have : k < listed.size := by
          rcases Nat.lt_or_ge k listed.size with h' | h'
          · exact h'
          · simp [Array.getD_eq_getD_getElem?, Array.getElem?_eq_none h'] at hk
        refine ⟨by omega, ?_⟩
        simpa [Array.getD_eq_getD_getElem?, this] using hk
      have hnoord : ∀ j, j ∈ pre ++ i :: post → ord all j i = false := fun j hj => by
        cases hb : ord all j i with
        | false => rfl
        | true =>
          exfalso
          obtain ⟨e, he, hbe, hor⟩ := ord_edge ho hb
          obtain ⟨h1, h2⟩ := hlisted e.on (hall e he hbe)
          have hjl : listed.getD j true = true := by
            rcases hor with rfl | hor
            · exact h2
            · exact hdc e.on j h1 h2 hor
          have := (hl j (hlt j hj)).2 hj
          rw [hjl] at this; cases this
      have hpre : ∀ j ∈ pre, j < i := fun j hj => (List.pairwise_append.1 hP).2.2 j hj i (by simp)
      have hP2 : (pre ++ post).Pairwise (· < ·) := by
        refine hP.sublist ?_
        exact List.Sublist.append (List.Sublist.refl _) (List.sublist_cons_self _ _)
      have hndp : pre.Nodup := ((List.pairwise_append.1 hP).1).imp (fun h => by omega)
      have hinot : i ∉ pre ++ post := fun hm => by
        rcases List.mem_append.1 hm with hm | hm
        · have := hpre i hm; omega
        · have := (List.pairwise_cons.1 (List.pairwise_append.1 hP).2.1).1 i hm; omega
      have hfr := dops_front hD ho pre post hpre (fun j hj => hnoord j (by simp [hj])) (hlg i (by simp)) (fun j hj => hlg j (by simp [hj])) hndp h
      refine dop_run ho hR hfr fun a' w' I' s' S' hK hlg' hR' hE => ?_
      obtain ⟨p, hp⟩ := hlg'
      have hget : ∀ k d, k < all.size → (listed.setIfInBounds i true).getD k d = if k = i then true else listed.getD k d := fun k d hk => by
        by_cases e : k = i
        · subst e
          simp [Array.getD_eq_getD_getElem?, hsz, hk]
        · rw [if_neg e]
          exact getD_set_ne d (fun e' => e e'.symm)
      refine ih (pre ++ post) (listed.setIfInBounds i true) (by simp at hT ⊢; omega) hP2 (fun k hk => hlt k (by rcases List.mem_append.1 hk with h | h <;> simp [h])) (by simpa using hsz) (fun k hk => ?_) (fun k j hk hkl hkj => ?_) (fun k hk => ?_) hR' hK
        (fun a'' w'' I'' s'' S'' hK' hR'' hE' => hQ a'' w'' I'' s'' S'' hK' hR'' (hE.trans hE'))
      · rw [hget k true hk]
        by_cases e : k = i
        · subst e
          simp only [if_true]
          exact ⟨fun h => (by cases h), fun h => absurd h hinot⟩
        · rw [if_neg e, hl k hk]
          simp only [List.mem_append, List.mem_cons]
          constructor
          · rintro (h | h | h)
            · exact .inl h
            · exact absurd h e
            · exact .inr h
          · rintro (h | h)
            · exact .inl h
            · exact .inr (.inr h)
      · rw [hget k true hk] at hkl
        by_cases hjs : j < all.size
        · rw [hget j true hjs]
          by_cases ej : j = i
          · rw [if_pos ej]
          · rw [if_neg ej]
            by_cases e : k = i
            · subst e
              cases hb : listed.getD j true with
              | true => rfl
              | false =>
                have := hnoord j ((hl j hjs).1 hb)
                rw [hkj] at this; cases this
            · rw [if_neg e] at hkl
              exact hdc k j hk hkl hkj
        · rw [Array.getD_eq_getD_getElem?, Array.getElem?_eq_none (by simp [hsz]; omega)]; rfl
      · rw [hp, upd_ne _ _ (fun e : k = i => hinot (by rw [← e]; exact hk))]
        exact hlg k (by rcases List.mem_append.1 hk with h | h <;> simp [h])

end
end Go.CT

namespace Go.CT

structure Ms where
  tm : Nat → Option D
  hp : Hp
  nx : Nat

def bf (f : FuncId) : Frame := { (default : Frame) with fn := f, kind := .normal }

/-- What stands still to do is 'todo': from a state S it comes to a return whose result and blocks R relates. -/
def Go (P : Program) (m : Nat) (f : FuncId) (nt : Nat) (R : D → List (Option (List C)) → Prop) (todo : List Item) (S : Ms) : Prop :=
  ∀ I w s a, Rc I w s a S.tm S.hp nt → ∀ cs, ∃ v w' fr I' s' d h', R d h' ∧ RD I' w' s' v d ∧ SimH I' w' s' (hpL h') ∧ Ext m I w s S.hp I' w' s' (hpL h') ∧ m ≤ h'.length ∧
    Steps P (lone ((bf f).at a todo) cs w) (lone fr cs w') ∧ fr.fn = f ∧ fr.leaving P w' (.returned v)

/-- A region in progress. -/
structure Rg where
  all : Array Oper
  dr : Bool
  i : Nat
  rest : List Oper
  lg : Lg
  nx0 : Nat

/-- What can be done from S2 can be done from S. -/
def Sub (m nt : Nat) (S S2 : Rs) : Prop := ∀ I w s a, Rc I w s a S.tm S.hp nt → ∃ I' s', Rc I' w s' a S2.tm S2.hp nt ∧ Ext m I w s S.hp I' w s' S2.hp
theorem Sub.refl (m nt : Nat) (S : Rs) : Sub m nt S S := fun I w s a h => ⟨I, s, h, Ext.refl _ _ _ _ _⟩
theorem Sub.trans {m nt : Nat} {S S' S'' : Rs} (h : Sub m nt S S') (h' : Sub m nt S' S'') : Sub m nt S S'' := fun I w s a hR => by
  obtain ⟨I1, s1, R1, E1⟩ := h I w s a hR
  obtain ⟨I2, s2, R2, E2⟩ := h' I1 w s1 a R1
  exact ⟨I2, s2, R2, E1.trans E2⟩

/-- Where the order is the text's own, a state may be taken for another ahead of each operation. -/
def Pre (m nt : Nat) (dr : Bool) (S : Rs) (Φ : Rs → Prop) : Prop := (dr = true → Φ S) ∧ (dr = false → ∃ S2, Sub m nt S S2 ∧ Φ S2)
theorem Pre.intro {m nt : Nat} {dr : Bool} {S : Rs} {Φ : Rs → Prop} (h : Φ S) : Pre m nt dr S Φ := ⟨fun _ => h, fun _ => ⟨S, Sub.refl _ _ _, h⟩⟩
theorem Pre.sub {m nt : Nat} {S S' : Rs} {Φ : Rs → Prop} (hs : Sub m nt S S') (h : Pre m nt false S' Φ) : Pre m nt false S Φ :=
  ⟨fun e => (Bool.false_ne_true e).elim, fun e => let ⟨S2, h1, h2⟩ := h.2 e; ⟨S2, hs.trans h1, h2⟩⟩

def dopsL (P : Program) (m nx nt : Nat) (all : Array Oper) (dr : Bool) (K : Rs → Prop) : Nat → List Oper → Rs → Prop
  | _, [], S => Pre m nt dr S K
  | i, o :: r, S => Pre m nt dr S (dop P m nx nt all dr i o (dopsL P m nx nt all dr K (i + 1) r))

def XK (P : Program) (m : Nat) (f : FuncId) (nt : Nat) (R : D → List (Option (List C)) → Prop) : Option Rg → List Item → Ms → Prop
  | none, k, S => Go P m f nt R k S
  | some g, k, S => dopsL P m g.nx0 nt g.all g.dr (fun S' => Go P m f nt R k ⟨S'.tm, S'.hp, g.nx0 + 64 * g.all.size⟩) g.i g.rest ⟨S.tm, S.hp, g.lg⟩

section
variable {P : Program} {m : Nat} {f : FuncId} {nt : Nat} {R : D → List (Option (List C)) → Prop}

theorem dopsL_dops {nx : Nat} {all : Array Oper} {K : Rs → Prop} : ∀ (l : List Oper) (i : Nat) (S : Rs), (∀ j, l[j]? = all[i + j]?) → dopsL P m nx nt all true K i l S → dops P m nx nt all true K (List.range' i l.length) S
  | [], i, S, _, h => by
    simp only [dopsL] at h
    simpa [dops] using h.1 rfl
  | o :: r, i, S, hl, h => by
    have h0 : all[i]? = some o := by simpa using (hl 0).symm
    simp only [List.length_cons, List.range'_succ, dops, h0]
    simp only [dopsL] at h
    refine dop_mono (fun S' hS => ?_) (h.1 rfl)
    exact dopsL_dops r (i + 1) S' (fun j => by have := hl (j + 1); simpa [Nat.add_assoc, Nat.add_comm 1 j] using this) hS

theorem dopsL_run {nx : Nat} {all : Array Oper} {K : Rs → Prop} {Q : Exit → Act → World → Prop} : ∀ (l : List Oper) (i : Nat) {I : Nat → Prop} {w : World} {s : Sg} {a : Act} {S : Rs}, (∀ j, l[j]? = all[i + j]?) → Rc I w s a S.tm S.hp nt →
    dopsL P m nx nt all false K i l S → (∀ a' w' I' s' S', K S' → Rc I' w' s' a' S'.tm S'.hp nt → Ext m I w s S.hp I' w' s' S'.hp → Q .normal a' w') → wpOps P all Q (List.range' i l.length) a w
  | [], i, I, w, s, a, S, hl, hR, h, hQ => by
    simp only [dopsL] at h
    obtain ⟨S2, hs, hK⟩ := h.2 rfl
    obtain ⟨I2, s2, R2, E2⟩ := hs I w s a hR
    exact hQ a w I2 s2 S2 hK R2 E2
  | o :: r, i, I, w, s, a, S, hl, hR, h, hQ => by
    have h0 : all[i]? = some o := by simpa using (hl 0).symm
    simp only [dopsL] at h
    obtain ⟨S2, hs, hd⟩ := h.2 rfl
    obtain ⟨I2, s2, R2, E2⟩ := hs I w s a hR
    simp only [List.length_cons, List.range'_succ]
    rw [wpOps_cons]
    exact dop_run h0 R2 hd fun a' w' I' s' S' hK _ hR' hE => dopsL_run r (i + 1) (fun j => by have := hl (j + 1); simpa [Nat.add_assoc, Nat.add_comm 1 j] using this) hR' hK
      fun a'' w'' I'' s'' S'' hK' hR'' hE' => hQ a'' w'' I'' s'' S'' hK' hR'' (E2.trans (hE.trans hE'))

theorem Go.of_step {k k' : List Item} {S : Ms} (hs : ∀ (a : Act) (w : World) (cs : List Frame), step P (lone ((bf f).at a k) cs w) = .next (lone ((bf f).at a k') cs w)) (h : Go P m f nt R k' S) : Go P m f nt R k S :=
  fun I w s a hR cs => let ⟨v, w', fr, I', s', d, h', h1, h2, h3, h4, h5, h6, h7⟩ := h I w s a hR cs
  ⟨v, w', fr, I', s', d, h', h1, h2, h3, h4, h5, .head (hs a w cs) h6, h7⟩

theorem Go.seq {x y : Code} {k : List Item} {S : Ms} (h : Go P m f nt R (.code x :: .code y :: k) S) : Go P m f nt R (.code (.seq x y) :: k) S := .of_step (fun _ _ _ => step_seq) h
theorem Go.skip {k : List Item} {S : Ms} (h : Go P m f nt R k S) : Go P m f nt R (.code .skip :: k) S := .of_step (fun _ _ _ => step_skip) h
theorem Go.label {l : Nat} {k : List Item} {S : Ms} (h : Go P m f nt R k S) : Go P m f nt R (.code (.label l) :: k) S := .of_step (fun _ _ _ => step_label) h
theorem Go.block {id : Nat} {c : Code} {k : List Item} {S : Ms} (h : Go P m f nt R (.code c :: .inBlock id :: k) S) : Go P m f nt R (.code (.block id c) :: k) S := .of_step (fun _ _ _ => step_block) h
theorem Go.inBlock {id : Nat} {k : List Item} {S : Ms} (h : Go P m f nt R k S) : Go P m f nt R (.inBlock id :: k) S := .of_step (fun _ _ _ => step_inBlock) h
theorem Go.loop {c : Code} {k : List Item} {S : Ms} (h : Go P m f nt R (.code c :: .inLoop c :: k) S) : Go P m f nt R (.code (.loop c) :: k) S := .of_step (fun _ _ _ => step_loop) h
theorem Go.inLoop {c : Code} {k : List Item} {S : Ms} (h : Go P m f nt R (.code c :: .inLoop c :: k) S) : Go P m f nt R (.inLoop c :: k) S := .of_step (fun _ _ _ => step_inLoop) h
theorem Go.exit {id : Nat} {k k' : List Item} {S : Ms} (he : exitTo id k = some k') (h : Go P m f nt R k' S) : Go P m f nt R (.code (.exit id) :: k) S := .of_step (fun _ _ _ => step_exit he) h

theorem Go.cond {c : Operand} {x y : Code} {k : List Item} {S : Ms} {d : D} {t : Bool} (hd : evT S.tm c = some d) (hp : peelB d = true) (hb : peelD d = DB t) (h1 : t = true → Go P m f nt R (.code x :: k) S)
    (h2 : t = false → Go P m f nt R (.code y :: k) S) : Go P m f nt R (.code (.cond c x y) :: k) S := fun I w s a hR cs => by
  have hv : a.eval c = .bool t := by
    have := peel_sound (evT_sound hR.tm hd) hp
    rw [hb] at this
    exact (rd_scalar this).1
  have h : Go P m f nt R (.code (if t = true then x else y) :: k) S := by
    cases t with
    | true => exact h1 rfl
    | false => exact h2 rfl
  obtain ⟨v, w', fr, I', s', d', h', g1, g2, g3, g4, g5, g6, g7⟩ := h I w s a hR cs
  exact ⟨v, w', fr, I', s', d', h', g1, g2, g3, g4, g5, .head (step_cond hv) g6, g7⟩

theorem Go.region {id : Nat} {all : Array Oper} {dr : Bool} {k : List Item} {S : Ms} (hm : dr = true → P.follows .mixedOrders = true) (hD : dr = true → drawOK all = true)
    (h : XK P m f nt R (some ⟨all, dr, 0, all.toList, fun _ => none, S.nx⟩) k S) : Go P m f nt R (.code (.region id all dr) :: k) S := fun I w s a hR cs => by
  let Q : Exit → Act → World → Prop := fun e a' w' => e = .normal ∧ ∃ (I' : Nat → Prop) (s' : Sg) (S' : Rs), Go P m f nt R k ⟨S'.tm, S'.hp, S.nx + 64 * all.size⟩ ∧ Rc I' w' s' a' S'.tm S'.hp nt ∧ Ext m I w s S.hp I' w' s' S'.hp
  have hwp : (Code.region id all dr).wp P Q a w := by
    cases dr with
    | false =>
      have hrun := dopsL_run (Q := Q) (K := fun S' : Rs => Go P m f nt R k ⟨S'.tm, S'.hp, S.nx + 64 * all.size⟩) all.toList 0 (S := ⟨S.tm, S.hp, fun _ => none⟩) (fun j => by simp) hR h fun a' w' I' s' S' hK hR' hE => ⟨rfl, I', s', S', hK, hR', hE⟩
      simp only [Array.length_toList, ← List.range_eq_range'] at hrun
      exact wp_region hrun
    | true =>
      have hd := dopsL_dops all.toList 0 ⟨S.tm, S.hp, fun _ => none⟩ (fun j => by simp) h
      simp only [Array.length_toList, ← List.range_eq_range'] at hd
      refine wp_region_any (hm rfl) ?_
      obtain ⟨H1, E1⟩ := hR.H.draw (m := m)
      have hR1 : Rc I { w with drawn := w.drawn + 1 } s a S.tm S.hp nt := ⟨H1, fun n d hn => E1.rd hR.H (Sg.le_refl _) (hR.tm n d hn), hR.df, hR.sz⟩
      refine draws_run (hD rfl) all.size (List.range all.size) (Array.replicate all.size false) (by simp) List.pairwise_lt_range (fun i hi => by simpa using hi) (by simp) (fun i hi => ?_) (fun i j hi hl => ?_) (fun _ _ => rfl) hR1 hd
        fun a' w' I' s' S' hK hR' hE => ⟨rfl, I', s', S', hK, hR', E1.trans hE⟩
      · simp [hi]
      · simp [hi] at hl
  obtain ⟨e, a', w', ⟨rfl, I', s', S', hK, hR', hE⟩, harr⟩ := hwp (bf f) k cs
  obtain ⟨v, w'', fr, I'', s'', d, h', g1, g2, g3, g4, g5, g6, g7⟩ := hK I' w' s' a' hR' cs
  exact ⟨v, w'', fr, I'', s'', d, h', g1, g2, g3, hE.trans g4, g5, Steps.trans harr g6, g7⟩

def resF (tmps : Array Value) : ResultVar → Sem Value
  | .tmp t => pure (tmps.getD t undef)
  | .cell a t => do loadVar t (← asAddr (tmps.getD a undef))

theorem results_eq (fn : Func) (tmps : Array Value) : results fn tmps = (fn.results.mapM (resF tmps) >>= fun vs => pure (if h : vs.size = 1 then vs[0] else .tuple vs)) := by
  have : (fun | .tmp t => pure (tmps.getD t undef) | .cell a t => do loadVar t (← asAddr (tmps.getD a undef)) : ResultVar → Sem Value) = resF tmps := by
    funext x; cases x <;> rfl
  rw [← this]
  rfl

/-- What a return hands back. -/
def retD (P : Program) (tm : Nat → Option D) (hp : Hp) : List ResultVar → Option (Prop × List D)
  | [] => some (True, [])
  | .tmp t :: r => (match tm t, retD P tm hp r with | some d, some (vc, ds) => some (peelB d = true ∧ vc, peelD d :: ds) | _, _ => none)
  | .cell a t :: r => (match tm a, tagg P t, tsz P t, retD P tm hp r with
    | some (.c (.ptr k off)), some g, some n, some (vc, ds) => (match hp k with
      | some (some cs) => (match grab cs off n g with | some (vc', d) => some (vc' ∧ vc, d :: ds) | none => none)
      | _ => none)
    | _, _, _, _ => none)

def oneD : List D → D
  | [d] => d
  | ds => .tup ds

/-- The end of a function: what is handed back and what is left of its blocks reads as R asks. -/
def RetOb (m : Nat) (R : D → List (Option (List C)) → Prop) (d : D) (hp : Hp) : Prop :=
  ∀ I w s v, SimH I w s hp → RD I w s v d → ∃ I' s' d' h', R d' h' ∧ RD I' w s' v d' ∧ SimH I' w s' (hpL h') ∧ Ext m I w s hp I' w s' (hpL h') ∧ m ≤ h'.length

theorem retD_run {I : Nat → Prop} {w : World} {s : Sg} {a : Act} {tm : Nat → Option D} {hp : Hp} (hR : Rc I w s a tm hp nt) : ∀ (l : List ResultVar) (vc : Prop) (ds : List D), retD P tm hp l = some (vc, ds) → vc →
    ∃ vs : List Value, (l.mapM (resF a.tmps)).run P w = .ok vs w ∧ RDs I w s vs.toArray ds
  | [], vc, ds, h, hvc => by
    simp only [retD, Option.some.injEq, Prod.mk.injEq] at h
    obtain ⟨rfl, rfl⟩ := h
    exact ⟨[], rfl, rfl, fun j h => by simp at h⟩
  | .tmp t :: r, vc, ds, h, hvc => by
    simp only [retD] at h
    split at h
    · rename_i d vc' ds' hd hr
      simp only [Option.some.injEq, Prod.mk.injEq] at h
      obtain ⟨rfl, rfl⟩ := h
      obtain ⟨vs, h1, h2⟩ := retD_run hR r vc' ds' hr hvc.2
      have h0 := peel_sound (hR.tm t d hd) hvc.1
      refine ⟨a.tmps.getD t undef :: vs, ?_, by have := h2.1; simp at this ⊢; exact this, fun j g1 g2 => ?_⟩
      · rw [List.mapM_cons, run_bind (x := a.tmps.getD t undef) (w' := w) _ _ _ (by rfl), run_bind _ _ _ _ _ h1]
        rfl
      · cases j with
        | zero => exact h0
        | succ j =>
          have h3 := h2.2 j (by simpa using g1) (by simpa using g2)
          rw [List.getElem_toArray] at h3
          rw [List.getElem_toArray]
          exact h3
    · cases h
  | .cell x t :: r, vc, ds, h, hvc => by
    simp only [retD] at h
    split at h
    · rename_i k off g n vc' ds' hx hg hn hr
      split at h
      · rename_i cs hcs
        split at h
        · rename_i vc0 d hgr
          simp only [Option.some.injEq, Prod.mk.injEq] at h
          obtain ⟨rfl, rfl⟩ := h
          obtain ⟨vs, h1, h2⟩ := retD_run hR r vc' ds' hr hvc.2
          obtain ⟨b, hs, hxv⟩ := rd_ptr (hR.tm x _ hx)
          obtain ⟨arr, T, hb, hl, hrr⟩ := live_cells hR.H hcs hs
          obtain ⟨v, hv1, hv2⟩ := grab_sound (P := P) hg hn (b := b) (o := 0) hgr hvc.1 (fun j hj => by
            obtain ⟨y, hy, hry⟩ := hrr j hj
            exact ⟨y, by simpa [World.cell?, hb] using hy, hry⟩)
          simp only [Nat.zero_add, Instr.loadAt, Instr.sureAddr] at hv1
          rw [run_bind (x := (⟨b, off, none⟩ : Addr)) (w' := w) _ _ _ (by rfl)] at hv1
          refine ⟨v :: vs, ?_, by have := h2.1; simp at this ⊢; exact this, fun j g1 g2 => ?_⟩
          · rw [List.mapM_cons]
            rw [run_bind (x := v) (w' := w)]
            · rw [run_bind _ _ _ _ _ h1]; rfl
            · simp only [resF, hxv]
              rw [run_bind (x := (⟨b, off, none⟩ : Addr)) (w' := w) _ _ _ (by rfl)]
              exact hv1
          · cases j with
            | zero => exact hv2
            | succ j =>
              have h3 := h2.2 j (by simpa using g1) (by simpa using g2)
              rw [List.getElem_toArray] at h3
              rw [List.getElem_toArray]
              exact h3
        · cases h
      · cases h
    · cases h

theorem Go.ret_core {fn : Func} (hf : P.funcs[f]? = some fn) {S : Ms} {vc : Prop} {ds : List D} (hr : retD P S.tm S.hp fn.results.toList = some (vc, ds)) (hvc : vc) (hob : RetOb m R (oneD ds) S.hp) {k : List Item}
    (hst : ∀ (a : Act) (w : World) (cs : List Frame), step P (lone ((bf f).at a k) cs w) = .next (lone { (bf f).at a k with mode := .returning } cs w)) : Go P m f nt R k S := fun I w s a hR cs => by
  obtain ⟨vs, hv, hvr⟩ := retD_run (P := P) hR fn.results.toList vc ds hr hvc
  have hl : vs.length = ds.length := by simpa using hvr.1
  have hres : ∃ v, (results fn a.tmps).run P w = .ok v w ∧ RD I w s v (oneD ds) := by
    have hm := run_mapM_arr (P := P) (resF a.tmps) fn.results w w vs hv
    rw [results_eq, run_bind _ _ _ _ _ hm]
    by_cases h1 : vs.length = 1
    · match vs, ds, hl, h1, hvr with
      | [v], [d], _, _, hvr =>
        refine ⟨v, by simp [run_pure], ?_⟩
        have := hvr.2 0 (by simp) (by simp)
        simpa [oneD] using this
    · refine ⟨.tuple vs.toArray, by simp [h1, run_pure], ?_⟩
      have : oneD ds = .tup ds := by
        match ds, hl with
        | [], _ => rfl
        | [d], hl => exact absurd hl h1
        | d :: d' :: r, _ => rfl
      rw [this]
      exact .tup _ _ hvr.1 hvr.2
  obtain ⟨v, hrun, hrd⟩ := hres
  obtain ⟨I', s', d', h', g1, g2, g3, g4, g5⟩ := hob I w s v hR.H hrd
  refine ⟨v, w, { (bf f).at a k with mode := .returning }, I', s', d', h', g1, g2, g3, g4, g5, .one (hst a w cs), rfl, rfl, hR.df, rfl, fn, hf, hrun⟩

theorem Go.ret {fn : Func} (hf : P.funcs[f]? = some fn) {S : Ms} {vc : Prop} {ds : List D} (hr : retD P S.tm S.hp fn.results.toList = some (vc, ds)) (hvc : vc) (hob : RetOb m R (oneD ds) S.hp) {k : List Item} : Go P m f nt R (.code .ret :: k) S :=
  .ret_core hf hr hvc hob fun _ _ _ => step_ret
theorem Go.done {fn : Func} (hf : P.funcs[f]? = some fn) {S : Ms} {vc : Prop} {ds : List D} (hr : retD P S.tm S.hp fn.results.toList = some (vc, ds)) (hvc : vc) (hob : RetOb m R (oneD ds) S.hp) : Go P m f nt R [] S :=
  .ret_core hf hr hvc hob fun _ _ _ => step_end

/-- A contract out of a walk. -/
def ofArgs : Nat → List D → Nat → Option D
  | _, [] => fun _ => none
  | i, d :: r => upd (ofArgs (i + 1) r) i (some d)

theorem ofArgs_get : ∀ (l : List D) (i n : Nat), ofArgs i l n = if i ≤ n then l[n - i]? else none
  | [], i, n => by simp [ofArgs]
  | d :: r, i, n => by
    simp only [ofArgs, upd]
    rw [ofArgs_get r (i + 1) n]
    by_cases h : n = i
    · subst h; simp
    · rw [if_neg h]
      by_cases h2 : i + 1 ≤ n
      · rw [if_pos h2, if_pos (by omega), show n - i = (n - (i + 1)) + 1 from by omega, List.getElem?_cons_succ]
      · rw [if_neg h2, if_neg (by omega)]

theorem dc_of_go {fn : Func} {c : Code} (hf : P.funcs[f]? = some fn) (hb : fn.body = some c) {args : List D} {h : List (Option (List C))} (hn : args.length ≤ fn.ntmps)
    (hg : Go P h.length f fn.ntmps R [.code c] ⟨ofArgs 0 args, hpL h, h.length⟩) : DC P f args h R := fun I w s vs H hvs => by
  intro cs
  have henter : Frame.enter P f vs .normal = (bf f).at { tmps := vs ++ Array.replicate (fn.ntmps - vs.size) undef, defers := [] } [.code c] := by
    simp [Frame.enter, Frame.at, hf, hb, bf]
  have hsz : vs.size = args.length := hvs.1
  have hR : Rc I w s { tmps := vs ++ Array.replicate (fn.ntmps - vs.size) undef, defers := [] } (ofArgs 0 args) (hpL h) fn.ntmps := by
    refine ⟨H, fun n d hd => ?_, rfl, by simp; omega⟩
    rw [ofArgs_get, if_pos (Nat.zero_le _), Nat.sub_zero] at hd
    obtain ⟨hlt, e⟩ := List.getElem?_eq_some_iff.1 hd
    have : (vs ++ Array.replicate (fn.ntmps - vs.size) undef).getD n undef = vs[n]'(by omega) := by
      rw [Array.getD_eq_getD_getElem?, Array.getElem?_append_left (by omega)]
      simp [show n < vs.size from by omega]
    simp only [this]
    rw [← e]
    exact hvs.2 n (by omega) hlt
  obtain ⟨v, w', fr, I', s', d, h', g1, g2, g3, g4, g5, g6, g7, g8⟩ := hg I w s _ hR cs
  rw [← henter] at g6
  exact ⟨.returned v, w', fr, ⟨v, I', s', d, h', rfl, g1, g2, g3, g4, g5⟩, g6, g7, g8⟩

/-- A loop: a family of states, and a number that each round lowers. -/
theorem Go.rounds {X : Type} {c : Code} {k : List Item} (In : X → Ms → Prop) (μ : X → Nat)
    (round : ∀ x S, In x S → (∀ x' S', μ x' < μ x → In x' S' → Go P m f nt R (.inLoop c :: k) S') → Go P m f nt R (.code c :: .inLoop c :: k) S) : ∀ x S, In x S → Go P m f nt R (.inLoop c :: k) S := by
  have key : ∀ n x S, μ x = n → In x S → Go P m f nt R (.inLoop c :: k) S := by
    intro n
    induction n using Nat.strongRecOn with
    | _ n ih =>
      intro x S hn hI
      exact .inLoop (round x S hI fun x' S' hlt hI' => ih (μ x') (hn ▸ hlt) x' S' rfl hI')
  exact fun x S hI => key _ x S rfl hI

end
end Go.CT

namespace Go.CT

def tOf : List (Nat × D) → Nat → Option D
  | [] => fun _ => none
  | (n, d) :: r => upd (tOf r) n (some d)
def hOf : List (Nat × Option (List C)) → Hp
  | [] => fun _ => none
  | (k, x) :: r => upd (hOf r) k (some x)

mutual
/-- The first cell may be taken where the second one stands; 'r' says which key of the old state a key of the new one is (none: a slice without room), 'fz' which owned blocks are written no more. -/
def CM (hT : Hp) (r : Nat → Option Nat) (hS : Hp) (fz : List Nat) : C → C → Prop
  | .unk, _ => True
  | .isl sz xs, c => (match c with
    | .isl sz' xs' => sz = sz' ∧ xs = xs'
    | .msl k sz' off len => (sz = sz' ∧ off = 0 ∧ len = xs.length) ∧ k ∈ fz ∧ hS k = some (some xs.flatten) ∧ (∀ x ∈ xs, x.length = sz) ∧ ∀ x ∈ xs, ∀ c ∈ x, kf c = true
    | .v (.slice none 0 0) => xs = []
    | .z => xs = []
    | _ => False)
  | .msl k sz off len, c => (match c with
    | .msl k' sz' off' len' => r k = some k' ∧ hT k ≠ none ∧ sz = sz' ∧ off = off' ∧ len = len'
    | .v (.slice none 0 0) => r k = none ∧ hT k ≠ none ∧ off = 0 ∧ len = 0
    | .z => r k = none ∧ hT k ≠ none ∧ off = 0 ∧ len = 0
    | _ => False)
  | .ptr k off, c => (match c with | .ptr k' off' => r k = some k' ∧ hT k ≠ none ∧ off = off' | _ => False)
  | .clo f cs, c => (match c with | .clo f' cs' => f = f' ∧ CMs hT r hS fz cs cs' | _ => False)
  | .v x, c => (match c with | .v y => x = y | _ => False)
  | .z, c => (match c with | .z => True | .v (.slice none 0 0) => True | _ => False)
  | .eptr cs, c => (match c with | .eptr cs' => cs = cs' | _ => False)
  | .met f cs, c => (match c with | .met f' cs' => f = f' ∧ cs = cs' | _ => False)
def CMs (hT : Hp) (r : Nat → Option Nat) (hS : Hp) (fz : List Nat) : List C → List C → Prop
  | [], cs => cs = []
  | c :: r', cs => (match cs with | c' :: r'' => CM hT r hS fz c c' ∧ CMs hT r hS fz r' r'' | [] => False)
end

mutual
def DM (hT : Hp) (r : Nat → Option Nat) (hS : Hp) (fz : List Nat) : D → D → Prop
  | .c a, d => (match d with | .c b => CM hT r hS fz a b | _ => False)
  | .agg as, d => (match d with | .agg bs => CMs hT r hS fz as bs | _ => False)
  | .tup as, d => (match d with | .tup bs => DMs hT r hS fz as bs | _ => False)
  | .when b x, d => (match d with | .when b' y => b = b' ∧ DM hT r hS fz x y | _ => False)
def DMs (hT : Hp) (r : Nat → Option Nat) (hS : Hp) (fz : List Nat) : List D → List D → Prop
  | [], ds => ds = []
  | d :: r', ds => (match ds with | d' :: r'' => DM hT r hS fz d d' ∧ DMs hT r hS fz r' r'' | [] => False)
end

structure SubH (m : Nat) (r : Nat → Option Nat) (fz : List Nat) (hT hS : Hp) : Prop where
  live : ∀ k cs, hT k = some (some cs) → (∃ k' cs', r k = some k' ∧ k' ∉ fz ∧ hS k' = some (some cs') ∧ CMs hT r hS fz cs cs') ∨ (r k = none ∧ cs = [])
  inj : ∀ k k' cs cs' j, hT k = some (some cs) → hT k' = some (some cs') → r k = some j → r k' = some j → k = k'
  low : ∀ k, k < m → r k = some k ∧ hT k ≠ none

section
variable {m : Nat} {r : Nat → Option Nat} {fz : List Nat} {hT hS : Hp} {I : Nat → Prop} {w : World} {s : Sg}

def subS (r : Nat → Option Nat) (hT : Hp) (s : Sg) : Sg := fun k => match hT k with | none => none | some _ => (match r k with | some k' => s k' | none => some none)
def subI (fz : List Nat) (hS : Hp) (s : Sg) (I : Nat → Prop) : Nat → Prop := fun b => I b ∨ ∃ k, k ∈ fz ∧ ∃ cs, hS k = some (some cs) ∧ s k = some (some b)

theorem subS_some {k k' : Nat} (h : hT k ≠ none) (hr : r k = some k') : subS r hT s k = s k' := by
  unfold subS
  cases h' : hT k with
  | none => exact absurd h' h
  | some x => simp [hr]
theorem subS_none {k : Nat} (h : hT k ≠ none) (hr : r k = none) : subS r hT s k = some none := by
  unfold subS
  cases h' : hT k with
  | none => exact absurd h' h
  | some x => simp [hr]

theorem RC.keyfree {x : Value} {c : C} (h : RC I w s x c) (hk : kf c = true) {I' : Nat → Prop} (hI : ∀ b, I b → I' b) (s' : Sg) : RC I' w s' x c := by
  have h0 : RC I w s' x c := by
    cases h with
    | v _ _ h1 => exact .v _ _ h1
    | unk _ _ h1 => exact .unk _ _ h1
    | z _ a => exact .z _ a
    | isl0 _ a cap sz => exact .isl0 _ a cap sz
    | isl _ b off cap sz xs y hIb hl hc hr hcap => exact .isl _ b off cap sz xs y hIb hl hc hr hcap
    | eptr _ b off cs y hIb hc hr => exact .eptr _ b off cs y hIb hc hr
    | met _ f cs vs hl hr => exact .met _ f cs vs hl hr
    | _ => simp [kf] at hk
  exact h0.mono hI (fun _ _ => rfl) (Shp.refl w) (Sg.le_refl _)

theorem flatten_at (sz : Nat) (xs : List (List C)) (h : ∀ x ∈ xs, x.length = sz) (i j : Nat) (hi : i < xs.length) (hj : j < (xs[i]).length) : xs.flatten[i * sz + j]? = some (xs[i])[j] := by
  have hl : (xs[i]).length = sz := h _ (List.getElem_mem hi)
  have hlt : i * sz + j < xs.length * sz := by
    have : (i + 1) * sz ≤ xs.length * sz := Nat.mul_le_mul_right _ hi
    rw [Nat.add_mul] at this
    omega
  obtain ⟨i', t', hi', ht', e, ht2, hg⟩ := flatten_get sz xs h (i * sz + j) hlt
  have hpos : 0 < sz := by omega
  have e1 : (i * sz + j) / sz = i := by rw [Nat.mul_comm, Nat.mul_add_div hpos, Nat.div_eq_of_lt (by omega), Nat.add_zero]
  have e2 : (i * sz + j) % sz = j := by rw [Nat.mul_comm, Nat.mul_add_mod, Nat.mod_eq_of_lt (by omega)]
  have f1 : (i' * sz + t') / sz = i' := by rw [Nat.mul_comm, Nat.mul_add_div hpos, Nat.div_eq_of_lt ht2, Nat.add_zero]
  have f2 : (i' * sz + t') % sz = t' := by rw [Nat.mul_comm, Nat.mul_add_mod, Nat.mod_eq_of_lt ht2]
  have g1 : i = i' := by rw [← e1, e, f1]
  have g2 : j = t' := by rw [← e2, e, f2]
  subst g1; subst g2
  exact hg

theorem CM_isl_v {sz : Nat} {xs : List (List C)} {z : Value} (h : CM hT r hS fz (.isl sz xs) (.v z)) : z = .slice none 0 0 ∧ xs = [] := by
  unfold CM at h
  split at h <;> simp_all
theorem CM_msl_v {k sz off len : Nat} {z : Value} (h : CM hT r hS fz (.msl k sz off len) (.v z)) : z = .slice none 0 0 ∧ r k = none ∧ hT k ≠ none ∧ off = 0 ∧ len = 0 := by
  unfold CM at h
  split at h <;> simp_all
theorem CM_z_v {z : Value} (h : CM hT r hS fz .z (.v z)) : z = .slice none 0 0 := by
  unfold CM at h
  split at h <;> simp_all

/-- An owned block that is written no more, read as plain data. -/
theorem frozen_rc (H : SimH I w s hS) {k sz : Nat} {xs : List (List C)} {x : Value} (hk : k ∈ fz) (hh : hS k = some (some xs.flatten)) (hl : ∀ x ∈ xs, x.length = sz) (hkf : ∀ x ∈ xs, ∀ c ∈ x, kf c = true)
    (h : RC I w s x (.msl k sz 0 xs.length)) (s' : Sg) : RC (subI fz hS s I) w s' x (.isl sz xs) := by
  rcases rd_msl (.c _ _ h) with ⟨a, rfl, hs, _, h0⟩ | ⟨b, cap, arr, T, fr, rfl, hs, hlc, hb, hcp⟩
  · have : xs = [] := List.eq_nil_of_length_eq_zero h0
    subst this
    exact .isl0 _ a 0 sz
  · obtain ⟨arr', T', hb', hl', hr⟩ := live_cells H hh hs
    rw [hb] at hb'
    simp only [Option.some.injEq, Obj.cells.injEq] at hb'
    obtain ⟨rfl, rfl, rfl⟩ := hb'
    have hfl := flatten_length sz xs hl
    have hidx : ∀ i j, i < xs.length → j < sz → i * sz + j < xs.flatten.length := fun i j hi hj => by
      have : (i + 1) * sz ≤ xs.length * sz := Nat.mul_le_mul_right _ hi
      rw [Nat.add_mul] at this
      omega
    refine .isl _ b 0 cap sz xs (fun i j => arr.getD (i * sz + j) undef) (.inr ⟨k, hk, _, hh, hs⟩) (fun i hi => hl _ (List.getElem_mem hi)) (fun i j hi hj => ?_) (fun i hi j hj => ?_) hlc
    · have := hidx i j hi hj
      have hlt : i * sz + j < arr.size := by omega
      simp [World.cell?, hb, hlt]
    · have hj' : j < sz := by rw [← hl _ (List.getElem_mem hi)]; exact hj
      have hlt := hidx i j hi hj'
      obtain ⟨y, hy, hry⟩ := hr (i * sz + j) hlt
      have e1 := flatten_at sz xs hl i j hi hj
      have e2 : xs.flatten[i * sz + j] = (xs[i])[j] := by
        rw [List.getElem?_eq_getElem hlt] at e1
        exact Option.some.inj e1
      have e3 : arr.getD (i * sz + j) undef = y := by
        rw [Array.getD_eq_getD_getElem?, hy]; rfl
      rw [e3, ← e2]
      exact hry.keyfree (by rw [e2]; exact hkf _ (List.getElem_mem hi) _ (List.getElem_mem hj)) (fun _ h => .inl h) _

mutual
theorem CM.rc (H : SimH I w s hS) : ∀ (c c' : C) {x : Value}, CM hT r hS fz c c' → RC I w s x c' → RC (subI fz hS s I) w (subS r hT s) x c
  | .unk, c', x, _, h => .unk _ _ h.one
  | .v y, c', x, hm, h => by
    cases c' with
    | v z =>
      simp only [CM] at hm
      subst hm
      cases h with | v _ _ h1 => exact .v _ _ h1
    | _ => simp [CM] at hm
  | .z, c', x, hm, h => by
    cases c' with
    | z => cases h with | z _ a => exact .z _ a
    | v z =>
      have e := CM_z_v hm
      subst e
      cases h with | v _ _ h1 => exact .z _ none
    | _ => simp [CM] at hm
  | .eptr cs, c', x, hm, h => by
    cases c' with
    | eptr cs' =>
      simp only [CM] at hm
      subst hm
      exact h.keyfree rfl (fun _ h => .inl h) _
    | _ => simp [CM] at hm
  | .met f cs, c', x, hm, h => by
    cases c' with
    | met f' cs' =>
      simp only [CM] at hm
      obtain ⟨rfl, rfl⟩ := hm
      exact h.keyfree rfl (fun _ h => .inl h) _
    | _ => simp [CM] at hm
  | .ptr k off, c', x, hm, h => by
    cases c' with
    | ptr k' off' =>
      simp only [CM] at hm
      obtain ⟨h1, h2, rfl⟩ := hm
      cases h with | ptr _ _ b _ h => exact .ptr _ k b off (by rw [subS_some h2 h1]; exact h)
    | _ => simp [CM] at hm
  | .msl k sz off len, c', x, hm, h => by
    cases c' with
    | msl k' sz' off' len' =>
      simp only [CM] at hm
      obtain ⟨h1, h2, rfl, rfl, rfl⟩ := hm
      cases h with
      | msl0 _ a _ _ h => exact .msl0 _ a k sz (by rw [subS_some h2 h1]; exact h)
      | msl _ _ b _ _ _ cap arr T fr h hlen hb hcap => exact .msl _ k b sz off len cap arr T fr (by rw [subS_some h2 h1]; exact h) hlen hb hcap
    | v z =>
      obtain ⟨rfl, h1, h2, rfl, rfl⟩ := CM_msl_v hm
      cases h with | v _ _ _ => exact .msl0 _ none k sz (subS_none h2 h1)
    | z =>
      simp only [CM] at hm
      obtain ⟨h1, h2, rfl, rfl⟩ := hm
      cases h with | z _ a => exact .msl0 _ a k sz (subS_none h2 h1)
    | _ => simp [CM] at hm
  | .clo f cs, c', x, hm, h => by
    cases c' with
    | clo f' cs' =>
      simp only [CM] at hm
      obtain ⟨rfl, hm⟩ := hm
      cases h with
      | clo _ _ _ vs hl hr =>
        obtain ⟨h1, h2⟩ := CMs.rcs H cs cs' vs.toList hm ⟨by simpa using hl, fun j g1 g2 => by simpa using hr j (by simpa using g1) g2⟩
        refine .clo _ f cs vs (by simpa using h1) fun j g1 g2 => ?_
        have := h2 j (by simpa using g1) g2
        simpa using this
    | _ => simp [CM] at hm
  | .isl sz xs, c', x, hm, h => by
    cases c' with
    | isl sz' xs' =>
      simp only [CM] at hm
      obtain ⟨rfl, rfl⟩ := hm
      exact h.keyfree rfl (fun _ h => .inl h) _
    | z =>
      simp only [CM] at hm
      subst hm
      cases h with | z _ a => exact .isl0 _ a 0 sz
    | v z =>
      obtain ⟨rfl, rfl⟩ := CM_isl_v hm
      cases h with | v _ _ _ => exact .isl0 _ none 0 sz
    | msl k sz' off len =>
      simp only [CM] at hm
      obtain ⟨⟨rfl, rfl, rfl⟩, hk, hh, hl, hkf⟩ := hm
      exact frozen_rc H hk hh hl hkf h _
    | _ => simp [CM] at hm
theorem CMs.rcs (H : SimH I w s hS) : ∀ (cs cs' : List C) (vs : List Value), CMs hT r hS fz cs cs' → RCs I w s vs.toArray cs' → RCs (subI fz hS s I) w (subS r hT s) vs.toArray cs
  | [], cs', vs, hm, h => by
    simp only [CMs] at hm
    subst hm
    exact ⟨h.1, fun j h1 h2 => by simp at h2⟩
  | c :: cs, [], vs, hm, h => by simp [CMs] at hm
  | c :: cs, c' :: cs', vs, hm, h => by
    simp only [CMs] at hm
    obtain ⟨h1, h2⟩ := hm
    match vs, h with
    | [], h => have := h.1; simp at this
    | v :: vs, h =>
      have ih := CMs.rcs H cs cs' vs h2 ⟨by have := h.1; simpa using this, fun j g1 g2 => h.2 (j + 1) (by simpa using g1) (by simpa using g2)⟩
      refine ⟨by have := ih.1; simpa using this, fun j g1 g2 => ?_⟩
      cases j with
      | zero => exact CM.rc H c c' h1 (h.2 0 (by simp) (by simp))
      | succ j => exact ih.2 j (by simpa using g1) (by simpa using g2)
end

mutual
theorem DM.rd (H : SimH I w s hS) : ∀ (d d' : D) {x : Value}, DM hT r hS fz d d' → RD I w s x d' → RD (subI fz hS s I) w (subS r hT s) x d
  | .c a, d', x, hm, h => by
    cases d' with
    | c b =>
      simp only [DM] at hm
      cases h with | c _ _ h => exact .c _ _ (CM.rc H a b hm h)
    | _ => simp [DM] at hm
  | .agg as, d', x, hm, h => by
    cases d' with
    | agg bs =>
      simp only [DM] at hm
      cases h with
      | agg vs _ hl hr =>
        obtain ⟨h1, h2⟩ := CMs.rcs H as bs vs.toList hm ⟨by simpa using hl, fun j g1 g2 => by simpa using hr j (by simpa using g1) g2⟩
        exact .agg vs as (by simpa using h1) fun j g1 g2 => by simpa using h2 j (by simpa using g1) g2
    | _ => simp [DM] at hm
  | .tup as, d', x, hm, h => by
    cases d' with
    | tup bs =>
      simp only [DM] at hm
      cases h with
      | tup vs _ hl hr =>
        obtain ⟨h1, h2⟩ := DMs.rds H as bs vs.toList hm ⟨by simpa using hl, fun j g1 g2 => by simpa using hr j (by simpa using g1) g2⟩
        exact .tup vs as (by simpa using h1) fun j g1 g2 => by simpa using h2 j (by simpa using g1) g2
    | _ => simp [DM] at hm
  | .when b a, d', x, hm, h => by
    cases d' with
    | when b' y =>
      simp only [DM] at hm
      obtain ⟨rfl, hm⟩ := hm
      cases h with | when _ _ _ h h0 => exact .when x b a (fun hb => DM.rd H a y hm (h hb)) h0
    | _ => simp [DM] at hm
theorem DMs.rds (H : SimH I w s hS) : ∀ (ds ds' : List D) (vs : List Value), DMs hT r hS fz ds ds' → RDs I w s vs.toArray ds' → RDs (subI fz hS s I) w (subS r hT s) vs.toArray ds
  | [], ds', vs, hm, h => by
    simp only [DMs] at hm
    subst hm
    exact ⟨h.1, fun j h1 h2 => by simp at h2⟩
  | d :: ds, [], vs, hm, h => by simp [DMs] at hm
  | d :: ds, d' :: ds', vs, hm, h => by
    simp only [DMs] at hm
    obtain ⟨h1, h2⟩ := hm
    match vs, h with
    | [], h => have := h.1; simp at this
    | v :: vs, h =>
      have ih := DMs.rds H ds ds' vs h2 ⟨by have := h.1; simpa using this, fun j g1 g2 => h.2 (j + 1) (by simpa using g1) (by simpa using g2)⟩
      refine ⟨by have := ih.1; simpa using this, fun j g1 g2 => ?_⟩
      cases j with
      | zero => exact DM.rd H d d' h1 (h.2 0 (by simp) (by simp))
      | succ j => exact ih.2 j (by simpa using g1) (by simpa using g2)
end

/-- The owned blocks of one state, taken for those of another. -/
theorem SubH.sim (hs : SubH m r fz hT hS) (H : SimH I w s hS) : SimH (subI fz hS s I) w (subS r hT s) hT ∧ Ext m I w s hS (subI fz hS s I) w (subS r hT s) hT := by
  have hliv : ∀ k cs b, hT k = some (some cs) → subS r hT s k = some (some b) → ∃ k' cs', r k = some k' ∧ k' ∉ fz ∧ hS k' = some (some cs') ∧ CMs hT r hS fz cs cs' ∧ s k' = some (some b) := fun k cs b hk hb => by
    have hne : hT k ≠ none := by rw [hk]; simp
    rcases hs.live k cs hk with ⟨k', cs', h1, h2, h3, h4⟩ | ⟨h1, _⟩
    · rw [subS_some hne h1] at hb
      exact ⟨k', cs', h1, h2, h3, h4, hb⟩
    · rw [subS_none hne h1] at hb; cases hb
  refine ⟨⟨fun k hk => by simp [subS, hk], fun k cs hk => ?_, fun k k' b cs cs' h1 h2 h3 h4 => ?_, fun b hb => ?_⟩,
    ⟨rfl, rfl, rfl, Nat.le_refl _, fun _ _ _ => rfl, Shp.refl w, fun k hk => ?_, fun _ h => .inl h, fun b hb => ?_, fun b ⟨k, cs, hk, hb⟩ => ?_⟩⟩
  · have hne : hT k ≠ none := by rw [hk]; simp
    rcases hs.live k cs hk with ⟨k', cs', h1, h2, h3, h4⟩ | ⟨h1, h2⟩
    · rw [subS_some hne h1]
      rcases H.blk k' cs' h3 with ⟨g1, g2⟩ | ⟨b, arr, T, g1, g2, g3, g4, g5⟩
      · subst g2
        refine .inl ⟨g1, ?_⟩
        cases cs with
        | nil => rfl
        | cons c r => simp [CMs] at h4
      · have hlen : cs.length = cs'.length := by
          have : ∀ (as bs : List C), CMs hT r hS fz as bs → as.length = bs.length := by
            intro as
            induction as with
            | nil => intro bs h; simp only [CMs] at h; subst h; rfl
            | cons a as ih =>
              intro bs h
              cases bs with
              | nil => simp [CMs] at h
              | cons b bs => simp only [CMs] at h; simp [ih bs h.2]
          exact this _ _ h4
        have hrs : RCs I w s (arr.toList.take cs'.length).toArray cs' := by
          refine ⟨by simp; omega, fun j q1 q2 => ?_⟩
          obtain ⟨y, hy, hry⟩ := g5 j q2
          obtain ⟨hlt, e⟩ := Array.getElem?_eq_some_iff.1 hy
          simpa [e] using hry
        have hrt := CMs.rcs H cs cs' _ h4 hrs
        refine .inr ⟨b, arr, T, g1, g2, by omega, fun hb => ?_, fun j hj => ?_⟩
        · rcases hb with hb | ⟨k2, hk2, cs2, e1, e2⟩
          · exact g4 hb
          · have := H.inj k' k2 b cs' cs2 h3 e1 g1 e2
            exact h2 (this ▸ hk2)
        · have hja : j < arr.size := by omega
          refine ⟨arr[j], by simp [hja], ?_⟩
          have := hrt.2 j (by simp; omega) hj
          simpa using this
    · rw [subS_none hne h1]
      exact .inl ⟨rfl, h2⟩
  · obtain ⟨j1, c1, a1, _, a3, _, a5⟩ := hliv k cs b h1 h3
    obtain ⟨j2, c2, b1, _, b3, _, b5⟩ := hliv k' cs' b h2 h4
    have := H.inj j1 j2 b c1 c2 a3 b3 a5 b5
    subst this
    exact hs.inj k k' cs cs' j1 h1 h2 a1 b1
  · rcases hb with hb | ⟨k2, _, cs2, e1, e2⟩
    · exact H.imm b hb
    · exact (H.live_lt ⟨k2, cs2, e1, e2⟩).1
  · obtain ⟨h1, h2⟩ := hs.low k hk
    exact subS_some h2 h1
  · rcases hb with hb | ⟨k2, _, cs2, e1, e2⟩
    · exact .inl hb
    · exact .inr (.inl ⟨k2, cs2, e1, e2⟩)
  · obtain ⟨k', cs', _, _, h3, _, h5⟩ := hliv k cs b hk hb
    exact .inl ⟨k', cs', h3, h5⟩

end

/-- The slots that are kept. -/
def TmOK (hT : Hp) (r : Nat → Option Nat) (hS : Hp) (fz : List Nat) (tS : Nat → Option D) : List (Nat × D) → Prop
  | [] => True
  | (n, d) :: l => (match tS n with | some d' => DM hT r hS fz d d' | none => False) ∧ TmOK hT r hS fz tS l

/-- The blocks that are kept. -/
def HpOK (hT : Hp) (r : Nat → Option Nat) (hS : Hp) (fz : List Nat) : List (Nat × Option (List C)) → Prop
  | [] => True
  | (k, x) :: l => (match x with
    | some cs => (match r k with | some k' => k' ∉ fz ∧ (match hS k' with | some (some cs') => CMs hT r hS fz cs cs' | _ => False) | none => cs = [])
    | none => True) ∧ HpOK hT r hS fz l

def LowOK (r : Nat → Option Nat) (hT : Hp) : Nat → Prop
  | 0 => True
  | m + 1 => (r m = some m ∧ hT m ≠ none) ∧ LowOK r hT m

/-- State S may be taken for the state that the two lists write out. -/
def Mt (m : Nat) (r : Nat → Option Nat) (fz : List Nat) (tl : List (Nat × D)) (hl : List (Nat × Option (List C))) (S : Ms) : Prop :=
  TmOK (hOf hl) r S.hp fz S.tm tl ∧ HpOK (hOf hl) r S.hp fz hl ∧ LowOK r (hOf hl) m ∧ ((hl.map (·.1)).filterMap r).Nodup

section
variable {P : Program} {m : Nat} {f : FuncId} {nt : Nat} {R : D → List (Option (List C)) → Prop}

theorem hOf_mem : ∀ {hl : List (Nat × Option (List C))} {k : Nat} {x : Option (List C)}, hOf hl k = some x → (k, x) ∈ hl
  | [], k, x, h => by simp [hOf] at h
  | (j, y) :: l, k, x, h => by
    simp only [hOf, upd] at h
    split at h
    · rename_i e
      simp only [Option.some.injEq] at h
      rw [e, h]; simp
    · simp [hOf_mem h]

theorem HpOK.at {hT : Hp} {r : Nat → Option Nat} {hS : Hp} {fz : List Nat} : ∀ {hl : List (Nat × Option (List C))}, HpOK hT r hS fz hl → ∀ k cs, (k, some cs) ∈ hl →
    (∃ k' cs', r k = some k' ∧ k' ∉ fz ∧ hS k' = some (some cs') ∧ CMs hT r hS fz cs cs') ∨ (r k = none ∧ cs = [])
  | [], _, _, _, h => by simp at h
  | (j, y) :: l, h, k, cs, hm => by
    simp only [HpOK] at h
    rcases List.mem_cons.1 hm with e | hm
    · have e1 : k = j := congrArg Prod.fst e
      have e2 : some cs = y := congrArg Prod.snd e
      have h1 := h.1
      rw [← e2] at h1
      rw [e1]
      simp only at h1
      cases hr : r j with
      | none => rw [hr] at h1; exact .inr ⟨rfl, h1⟩
      | some k' =>
        rw [hr] at h1
        obtain ⟨h2, h3⟩ := h1
        split at h3
        · rename_i cs' hcs
          exact .inl ⟨k', cs', rfl, h2, hcs, h3⟩
        · exact h3.elim
    · exact HpOK.at h.2 k cs hm

theorem filterMap_inj {r : Nat → Option Nat} : ∀ {l : List Nat}, (l.filterMap r).Nodup → ∀ a b j, a ∈ l → b ∈ l → r a = some j → r b = some j → a = b
  | [], _, _, _, _, h, _, _, _ => by simp at h
  | x :: l, hn, a, b, j, ha, hb, h1, h2 => by
    rcases List.mem_cons.1 ha with rfl | ha' <;> rcases List.mem_cons.1 hb with rfl | hb'
    · rfl
    · rw [List.filterMap_cons_some h1] at hn
      exact absurd (List.mem_filterMap.2 ⟨b, hb', h2⟩) (List.nodup_cons.1 hn).1
    · rw [List.filterMap_cons_some h2] at hn
      exact absurd (List.mem_filterMap.2 ⟨a, ha', h1⟩) (List.nodup_cons.1 hn).1
    · have hn' : (l.filterMap r).Nodup := by
        cases hx : r x with
        | none => rwa [List.filterMap_cons_none hx] at hn
        | some y => rw [List.filterMap_cons_some hx] at hn; exact (List.nodup_cons.1 hn).2
      exact filterMap_inj hn' a b j ha' hb' h1 h2

theorem LowOK.at {r : Nat → Option Nat} {hT : Hp} : ∀ {m : Nat}, LowOK r hT m → ∀ k, k < m → r k = some k ∧ hT k ≠ none
  | 0, _, k, h => by omega
  | m + 1, h, k, hk => by
    rcases Nat.lt_or_ge k m with h1 | h1
    · exact (LowOK.at h.2) k h1
    · rw [show k = m from by omega]; exact h.1

theorem Mt.subH {r : Nat → Option Nat} {fz : List Nat} {tl : List (Nat × D)} {hl : List (Nat × Option (List C))} {S : Ms} (h : Mt m r fz tl hl S) : SubH m r fz (hOf hl) S.hp where
  live := fun k cs hk => HpOK.at h.2.1 k cs (hOf_mem hk)
  inj := fun k k' cs cs' j h1 h2 h3 h4 => filterMap_inj h.2.2.2 k k' j (List.mem_map.2 ⟨_, hOf_mem h1, rfl⟩) (List.mem_map.2 ⟨_, hOf_mem h2, rfl⟩) h3 h4
  low := h.2.2.1.at

theorem TmOK.at {hT : Hp} {r : Nat → Option Nat} {hS : Hp} {fz : List Nat} {tS : Nat → Option D} : ∀ {tl : List (Nat × D)}, TmOK hT r hS fz tS tl → ∀ n d, tOf tl n = some d → ∃ d', tS n = some d' ∧ DM hT r hS fz d d'
  | [], _, n, d, h => by simp [tOf] at h
  | (k, x) :: l, h, n, d, hn => by
    simp only [TmOK] at h
    simp only [tOf, upd] at hn
    split at hn
    · rename_i e
      simp only [Option.some.injEq] at hn
      subst e; subst hn
      have h1 := h.1
      split at h1
      · rename_i d' hd'
        exact ⟨d', hd', h1⟩
      · exact h1.elim
    · exact TmOK.at h.2 n d hn

/-- What can be done from the state that is written out can be done from S. -/
theorem Go.sub {r : Nat → Option Nat} {fz : List Nat} {tl : List (Nat × D)} {hl : List (Nat × Option (List C))} {S : Ms} {k : List Item} (nx : Nat) (h : Mt m r fz tl hl S) (hg : Go P m f nt R k ⟨tOf tl, hOf hl, nx⟩) : Go P m f nt R k S := fun I w s a hR cs => by
  obtain ⟨H', E'⟩ := h.subH.sim hR.H
  have hR' : Rc (subI fz S.hp s I) w (subS r (hOf hl) s) a (tOf tl) (hOf hl) nt := ⟨H', fun n d hd => by
    obtain ⟨d', h1, h2⟩ := h.1.at n d hd
    exact DM.rd hR.H d d' h2 (hR.tm n d' h1), hR.df, hR.sz⟩
  obtain ⟨v, w', fr, I', s', d, h', g1, g2, g3, g4, g5, g6, g7⟩ := hg _ w _ a hR' cs
  exact ⟨v, w', fr, I', s', d, h', g1, g2, g3, E'.trans g4, g5, g6, g7⟩

/-- The end: the result and the blocks, taken for what R speaks of. -/
theorem RetOb.of {d : D} {hp : Hp} (r : Nat → Option Nat) (fz : List Nat) (d' : D) (h' : List (Option (List C))) (hs : SubH m r fz (hpL h') hp) (hd : DM (hpL h') r hp fz d' d) (hR : R d' h') (hm : m ≤ h'.length) : RetOb m R d hp :=
  fun I w s v H hv => by
    obtain ⟨H', E'⟩ := hs.sim H
    exact ⟨_, _, d', h', hR, DM.rd H d' d hd hv, H', E', hm⟩

/-- A loop, its states written out. -/
theorem Go.loopL {X : Type} {c : Code} {k : List Item} (tl : X → List (Nat × D)) (hl : X → List (Nat × Option (List C))) (nx : Nat) (Inv : X → Prop) (μ : X → Nat)
    (round : ∀ x, Inv x → (∀ x' r fz S', Inv x' → μ x' < μ x → Mt m r fz (tl x') (hl x') S' → Go P m f nt R (.inLoop c :: k) S') → Go P m f nt R (.code c :: .inLoop c :: k) ⟨tOf (tl x), hOf (hl x), nx⟩) :
    ∀ x r fz S, Inv x → Mt m r fz (tl x) (hl x) S → Go P m f nt R (.code (.loop c) :: k) S := by
  intro x r fz S hI hM
  refine Go.loop (Go.sub nx hM ?_)
  exact round x hI fun x' r' fz' S' hi' hlt hm' => Go.rounds (P := P) (m := m) (f := f) (nt := nt) (R := R) (c := c) (k := k) (fun x S => Inv x ∧ ∃ r fz, Mt m r fz (tl x) (hl x) S) μ (fun x S ⟨hi, r, fz, hm⟩ ih =>
    Go.sub nx hm (round x hi fun x' r' fz' S' hi' hlt hm' => ih x' S' hlt ⟨hi', r', fz', hm'⟩)) x' S' ⟨hi', r', fz', hm'⟩

end
end Go.CT

namespace Go.CT

/-- The same, cheaper to reckon. -/
def lgokF (nx : Nat) (all : Array Oper) (lg : Lg) (i : Nat) (rd wr : List Nat) : Bool :=
  (List.range all.size).all fun j => j == i || (match lg j with | none => true | some (rd', wr') => indep nx i j rd wr rd' wr' || ord all j i || ord all i j)
theorem lgokF_eq (nx : Nat) (all : Array Oper) (lg : Lg) (i : Nat) (rd wr : List Nat) (h : lgokF nx all lg i rd wr = true) : lgok nx all lg i rd wr = true := by
  simp only [lgokF, lgok, List.all_eq_true] at h ⊢
  intro j hj
  have := h j hj
  split at this
  · rename_i e; simp [e]
  · rename_i rd' wr' e
    simp only [e, Bool.or_eq_true] at this ⊢
    rcases this with h | ((h | h) | h)
    · exact .inl h
    · exact .inr (.inr h)
    · exact .inr (.inl (.inl h))
    · exact .inr (.inl (.inr h))

def nxt (P : Program) (m nx0 : Nat) (all : Array Oper) (i : Nat) (o : Oper) (tm : Nat → Option D) (hp : Hp) : Option (Prop × Option D × List (Nat × Option (List C)) × List Nat) :=
  match o.guard with
  | none => (match stp P m (wkey nx0 i) tm hp o.op with
    | some out => some (out.vc, out.d, out.up, out.rd)
    | none => none)
  | some (g, b) => (match guardB all tm g b with
    | some x => (match mayUp o.op with
      | true => (match x with
        | true => (match stp P m (wkey nx0 i) tm hp o.op with
          | some out => some (out.vc, out.d, out.up, out.rd)
          | none => none)
        | false => some (True, some (.when false (DB false)), [], []))
      | false => (match stp P m (wkey nx0 i) tm hp o.op with
        | some out => some ((x = true → out.vc) ∧ out.up = [], out.d.map (.when x), [], out.rd)
        | none => some (x = false ∧ ∀ hp', stp P m (wkey nx0 i) tm hp' o.op = none, some (.when false (DB false)), [], [])))
    | none => none)

def retP (P : Program) (m : Nat) (R : D → List (Option (List C)) → Prop) (rs : List ResultVar) (S : Ms) : Prop :=
  match retD P S.tm S.hp rs with
  | some (vc, ds) => vc ∧ RetOb m R (oneD ds) S.hp
  | none => False

def drv (P : Program) (m : Nat) (f : FuncId) (nt : Nat) (R : D → List (Option (List C)) → Prop) (rs : List ResultVar) : Nat → Option Rg → List Item → Ms → Prop
  | 0, r, k, S => XK P m f nt R r k S
  | n + 1, some ⟨all, dr, i, [], lg, nx0⟩, k, S => drv P m f nt R rs n none k ⟨S.tm, S.hp, nx0 + 64 * all.size⟩
  | n + 1, some ⟨all, dr, i, o :: rest, lg, nx0⟩, k, S => if isFn o then XK P m f nt R (some ⟨all, dr, i, o :: rest, lg, nx0⟩) k S else
      (match nxt P m nx0 all i o S.tm S.hp with
      | some (vc, d, up, rd) => (vc ∧ fitsT nt o.dst = true ∧ (dr = true → lgokF nx0 all lg i rd (up.map (·.1)) = true)) ∧
          drv P m f nt R rs n (some ⟨all, dr, i + 1, rest, upd lg i (some (rd, up.map (·.1))), nx0⟩) k ⟨setT S.tm o.dst d, appUp S.hp up, S.nx⟩
      | none => False)
  | n + 1, none, [], S => retP P m R rs S
  | n + 1, none, .code (.seq a b) :: k, S => drv P m f nt R rs n none (.code a :: .code b :: k) S
  | n + 1, none, .code .skip :: k, S => drv P m f nt R rs n none k S
  | n + 1, none, .code (.label _) :: k, S => drv P m f nt R rs n none k S
  | n + 1, none, .inBlock _ :: k, S => drv P m f nt R rs n none k S
  | n + 1, none, .code (.block id c) :: k, S => drv P m f nt R rs n none (.code c :: .inBlock id :: k) S
  | n + 1, none, .code (.cond c x y) :: k, S => (match evT S.tm c with
      | some d => (match peelD d with
        | .c (.v (.bool t)) => peelB d = true ∧ (t = true → drv P m f nt R rs n none (.code x :: k) S) ∧ (t = false → drv P m f nt R rs n none (.code y :: k) S)
        | _ => False)
      | none => False)
  | n + 1, none, .code (.exit id) :: k, S => (match exitTo id k with
      | some k' => drv P m f nt R rs n none k' S
      | none => False)
  | n + 1, none, .code .ret :: k, S => retP P m R rs S
  | n + 1, none, .code (.region id all dr) :: k, S => (dr = true → drawOK all = true) ∧ drv P m f nt R rs n (some ⟨all, dr, 0, all.toList, fun _ => none, S.nx⟩) k S
  | n + 1, none, k, S => XK P m f nt R none k S

section
variable {P : Program} {m : Nat} {f : FuncId} {nt : Nat} {R : D → List (Option (List C)) → Prop}

theorem nxt_stp {nx0 : Nat} {all : Array Oper} {i : Nat} {o : Oper} {tm : Nat → Option D} {hp : Hp} (hf : isFn o = false) {vc : Prop} {d : Option D} {up : List (Nat × Option (List C))} {rd : List Nat}
    (h : nxt P m nx0 all i o tm hp = some (vc, d, up, rd)) (hvc : vc) : Stp P m nx0 all i o tm hp rd (up.map (·.1)) (fun d' up' => d' = d ∧ up' = up) := by
  unfold nxt at h
  split at h
  · rename_i hg
    split at h
    · rename_i out ho
      simp only [Option.some.injEq, Prod.mk.injEq] at h
      obtain ⟨rfl, rfl, rfl, rfl⟩ := h
      exact .plain out hg ho hvc
    · cases h
  · rename_i g b hg
    split at h
    · rename_i x hx
      split at h
      · rename_i hmu
        split at h
        · split at h
          · rename_i out ho
            simp only [Option.some.injEq, Prod.mk.injEq] at h
            obtain ⟨rfl, rfl, rfl, rfl⟩ := h
            exact .gon g b out hg hmu hx ho hvc
          · cases h
        · simp only [Option.some.injEq, Prod.mk.injEq] at h
          obtain ⟨rfl, rfl, rfl, rfl⟩ := h
          exact .goff g b hg hmu hx
      split at h
      · rename_i out ho
        simp only [Option.some.injEq, Prod.mk.injEq] at h
        obtain ⟨rfl, rfl, rfl, rfl⟩ := h
        exact .gplain g b x out hg hx ho hvc.2 hvc.1
      · simp only [Option.some.injEq, Prod.mk.injEq] at h
        obtain ⟨rfl, rfl, rfl, rfl⟩ := h
        obtain ⟨rfl, hn⟩ := hvc
        refine .gnone g b hg hx hn fun c hc fo hcf => ?_
        unfold isFn at hf
        rw [hc] at hf
        simp only [hcf] at hf
        cases hf
    · cases h

theorem drv_sound {fn : Func} (hfn : P.funcs[f]? = some fn) (hmo : P.follows .mixedOrders = true) {rs : List ResultVar} (hrs : fn.results.toList = rs) : ∀ (n : Nat) (r : Option Rg) (k : List Item) (S : Ms), drv P m f nt R rs n r k S → XK P m f nt R r k S
  | 0, r, k, S, h => by simpa only [drv] using h
  | n + 1, some ⟨all, dr, i, [], lg, nx0⟩, k, S, h => by
    simp only [drv] at h
    have := drv_sound hfn hmo hrs n none k _ h
    simp only [XK, dopsL] at this ⊢
    exact Pre.intro this
  | n + 1, some ⟨all, dr, i, o :: rest, lg, nx0⟩, k, S, h => by
    simp only [drv] at h
    split at h
    · exact h
    · rename_i hf
      split at h
      · rename_i vc d up rd hn
        obtain ⟨⟨h1, h2, h3⟩, h4⟩ := h
        have h5 := drv_sound hfn hmo hrs n _ k _ h4
        simp only [XK, dopsL] at h5 ⊢
        refine Pre.intro ⟨rd, up.map (·.1), _, nxt_stp (by simpa using hf) hn h1, h2, fun hdr => ⟨lgokF_eq _ _ _ _ _ _ (h3 hdr), d, up, rfl, rfl⟩, fun d' up' ht => ?_⟩
        obtain ⟨rfl, rfl⟩ := ht
        exact h5
      · exact h.elim
  | n + 1, none, [], S, h => by
    simp only [drv, retP] at h
    split at h
    · rename_i vc ds hr
      exact Go.done hfn (by rw [hrs]; exact hr) h.1 h.2
    · exact h.elim
  | n + 1, none, .code c :: k, S, h => by
    cases c with
    | seq a b => simp only [drv] at h; exact Go.seq (drv_sound hfn hmo hrs n none _ S h)
    | skip => simp only [drv] at h; exact Go.skip (drv_sound hfn hmo hrs n none _ S h)
    | label l => simp only [drv] at h; exact Go.label (drv_sound hfn hmo hrs n none _ S h)
    | block id c => simp only [drv] at h; exact Go.block (drv_sound hfn hmo hrs n none _ S h)
    | cond c x y =>
      simp only [drv] at h
      split at h
      · rename_i d hd
        split at h
        · rename_i t ht
          exact Go.cond hd h.1 ht (fun e => drv_sound hfn hmo hrs n none _ S (h.2.1 e)) (fun e => drv_sound hfn hmo hrs n none _ S (h.2.2 e))
        · exact h.elim
      · exact h.elim
    | exit id =>
      simp only [drv] at h
      split at h
      · rename_i k' hk
        exact Go.exit hk (drv_sound hfn hmo hrs n none _ S h)
      · exact h.elim
    | ret =>
      simp only [drv, retP] at h
      split at h
      · rename_i vc ds hr
        exact Go.ret hfn (by rw [hrs]; exact hr) h.1 h.2
      · exact h.elim
    | region id all dr =>
      simp only [drv] at h
      exact Go.region (fun _ => hmo) h.1 (drv_sound hfn hmo hrs n _ k S h.2)
    | _ => simpa only [drv] using h
  | n + 1, none, .inBlock id :: k, S, h => by simp only [drv] at h; exact Go.inBlock (drv_sound hfn hmo hrs n none _ S h)
  | n + 1, none, .inLoop c :: k, S, h => by simpa only [drv] using h
  | n + 1, none, .inScope c :: k, S, h => by simpa only [drv] using h
  | n + 1, none, .inRegion a b :: k, S, h => by simpa only [drv] using h
  | n + 1, none, .inRangeFunc a :: k, S, h => by simpa only [drv] using h
  | n + 1, none, .endRangeFunc a :: k, S, h => by simpa only [drv] using h
  | n + 1, none, .beginRound :: k, S, h => by simpa only [drv] using h
  | n + 1, none, .call a b c d :: k, S, h => by simpa only [drv] using h
  | n + 1, none, .extern a b :: k, S, h => by simpa only [drv] using h

/-! ### Calls -/

/-- A call of a function, by its contract. 'ks': which blocks are handed over. -/
theorem XK.call {all : Array Oper} {dr : Bool} {i : Nat} {o : Oper} {rest : List Oper} {lg : Lg} {nx0 : Nat} {k : List Item} {S : Ms} {F : FuncId} {args : List D} {h : List (Option (List C))} {R' : D → List (Option (List C)) → Prop}
    (hD : DC P F args h R') (ks : List Nat) (c : Call) (hop : o.op = .call c) (hg : o.guard = none ∨ ∃ g b, o.guard = some (g, b) ∧ guardB all S.tm g b = some true) (hc : calleeOf S.tm c = some (F, args.map (renD (rk0 ks (wkey nx0 i))))) (hok : okP S.tm c.operands.toList) (hfn : fnOK P F = true)
    (hks : ks.length = h.length) (hnd : ks.Nodup) (hhp : ∀ i' x, h[i']? = some x → S.hp (ks.getD i' 0) = some (x.map (renCs (rk0 ks (wkey nx0 i))))) (hm : m ≤ wkey nx0 i) (hb : ∀ j, j < 64 → S.hp (wkey nx0 i + j) = none)
    (hlen : ∀ d h', R' d h' → h'.length ≤ h.length + 64) (hf : fitsT nt o.dst = true) (hdr : dr = true → lgok nx0 all lg i ks ks = true ∧ ∃ d h', R' d h' ∧ h.length ≤ h'.length)
    (next : ∀ d h', R' d h' → h.length ≤ h'.length → XK P m f nt R (some ⟨all, dr, i + 1, rest, upd lg i (some (ks, ks)), nx0⟩) k ⟨setT S.tm o.dst (some (renD (rkey ks (wkey nx0 i)) d)), appUp S.hp (upsFrom (rkey ks (wkey nx0 i)) 0 h'), S.nx⟩) :
    XK P m f nt R (some ⟨all, dr, i, o :: rest, lg, nx0⟩) k S := by
  simp only [XK, dopsL]
  refine Pre.intro ⟨ks, ks, _, .call c F args ks h R' hg hop hc hok hfn hD hks hnd hhp hm hb hlen, hf, fun e => ⟨(hdr e).1, ?_⟩, fun d up ht => ?_⟩
  · obtain ⟨d, h', h1, h2⟩ := (hdr e).2
    exact ⟨_, _, d, h', h1, h2, rfl, rfl⟩
  · obtain ⟨d', h', h1, h2, rfl, rfl⟩ := ht
    exact next d' h' h1 h2

/-- A call that only computes. -/
theorem XK.pure {all : Array Oper} {dr : Bool} {i : Nat} {o : Oper} {rest : List Oper} {lg : Lg} {nx0 : Nat} {k : List Item} {S : Ms} {F : FuncId} {args : List D} {d0 : D}
    (hD : DC P F args [] (fun d h' => d = d0 ∧ h' = [])) (c : Call) (hop : o.op = .call c) (hg : o.guard = none) (hc : calleeOf S.tm c = some (F, args.map (renD (rk0 [] (wkey nx0 i))))) (hok : okP S.tm c.operands.toList) (hfn : fnOK P F = true)
    (hm : m ≤ wkey nx0 i) (hb : ∀ j, j < 64 → S.hp (wkey nx0 i + j) = none) (hf : fitsT nt o.dst = true) (hdr : dr = true → lgok nx0 all lg i [] [] = true)
    (next : XK P m f nt R (some ⟨all, dr, i + 1, rest, upd lg i (some ([], [])), nx0⟩) k ⟨setT S.tm o.dst (some (renD (rkey [] (wkey nx0 i)) d0)), S.hp, S.nx⟩) :
    XK P m f nt R (some ⟨all, dr, i, o :: rest, lg, nx0⟩) k S :=
  XK.call hD [] c hop (.inl hg) hc hok hfn rfl List.nodup_nil (fun i' x h => by simp at h) hm hb (fun d h' e => by rw [e.2]; simp) hf (fun e => ⟨hdr e, d0, [], ⟨rfl, rfl⟩, Nat.le_refl _⟩)
    fun d h' e _ => by
      obtain ⟨rfl, rfl⟩ := e
      exact next

/-- A guarded call that only computes. -/
theorem XK.gpure {all : Array Oper} {dr : Bool} {i : Nat} {o : Oper} {rest : List Oper} {lg : Lg} {nx0 : Nat} {k : List Item} {S : Ms} {d0 : D} (g : Nat) (b x : Bool) (c : Call) (hg : o.guard = some (g, b)) (hx : guardB all S.tm g b = some x)
    (hop : o.op = .call c) (hcf : ∃ f, c.callee = .value f)
    (hc : x = true → ∃ F args, calleeOf S.tm c = some (F, args.map (renD (rk0 [] (wkey nx0 i)))) ∧ okP S.tm c.operands.toList ∧ fnOK P F = true ∧ DC P F args [] (fun r h' => r = d0 ∧ h' = []) ∧ renD (rkey [] (wkey nx0 i)) d0 = d0)
    (hm : m ≤ wkey nx0 i) (hb : ∀ j, j < 64 → S.hp (wkey nx0 i + j) = none) (hf : fitsT nt o.dst = true) (hdr : dr = true → lgok nx0 all lg i [] [] = true)
    (next : XK P m f nt R (some ⟨all, dr, i + 1, rest, upd lg i (some ([], [])), nx0⟩) k ⟨setT S.tm o.dst (some (.when x d0)), S.hp, S.nx⟩) :
    XK P m f nt R (some ⟨all, dr, i, o :: rest, lg, nx0⟩) k S := by
  simp only [XK, dopsL]
  refine Pre.intro ⟨[], [], _, .gcall g b x c d0 hg hx hop hcf hc hm hb, hf, fun e => ⟨hdr e, _, _, rfl, rfl⟩, fun d up ht => ?_⟩
  obtain ⟨rfl, rfl⟩ := ht
  exact next

/-! ### A state taken for another, within a region whose order is the text's own -/

theorem XK.sub {all : Array Oper} {i : Nat} {rest : List Oper} {lg lg' : Lg} {nx0 : Nat} {k : List Item} {S S' : Ms} (hs : Sub m nt ⟨S.tm, S.hp, lg⟩ ⟨S'.tm, S'.hp, lg'⟩)
    (h : XK P m f nt R (some ⟨all, false, i, rest, lg', nx0⟩) k S') : XK P m f nt R (some ⟨all, false, i, rest, lg, nx0⟩) k S := by
  cases rest with
  | nil => simp only [XK, dopsL] at h ⊢; exact h.sub hs
  | cons o r => simp only [XK, dopsL] at h ⊢; exact h.sub hs

/-- An empty slice: whatever it is made of. -/
theorem DC.isl0 {F : FuncId} {sz : Nat} {R' : D → List (Option (List C)) → Prop} (h : ∀ a c, DC P F [.c (.v (.slice a 0 c))] [] R') : DC P F [.c (.isl sz [])] [] R' := fun I w s vs H hv => by
  obtain ⟨hsz, hall⟩ := hv
  have hsz1 : vs.size = 1 := hsz
  obtain ⟨x, rfl⟩ : ∃ x, vs = #[x] := by
    obtain ⟨l⟩ := vs
    match l, hsz1 with
    | [x], _ => exact ⟨x, rfl⟩
  obtain ⟨a, cap, e, _, _⟩ := rd_isl (hall 0 (by simp) (by simp))
  have e : x = .slice a 0 cap := e
  subst e
  refine h a cap I w s _ H ⟨rfl, fun j h1 h2 => ?_⟩
  have : j = 0 := by simpa using h1
  subst this
  exact .c _ _ (.v _ _ rfl)

/-- An owned block that is written no more: read as plain data from here on, under the slot t. -/
theorem Sub.freeze {tm : Nat → Option D} {hp : Hp} {lg lg' : Lg} (t k sz n : Nat) (xs : List (List C)) (ht : tm t = some (.c (.msl k sz 0 n))) (hk : hp k = some (some xs.flatten)) (hn : n = xs.length) (hl : ∀ x ∈ xs, x.length = sz)
    (hkf : ∀ x ∈ xs, ∀ c ∈ x, kf c = true) : Sub m nt ⟨tm, hp, lg⟩ ⟨upd tm t (some (.c (.isl sz xs))), upd hp k (some none), lg'⟩ := fun I w s a hR => by
  subst hn
  have H : SimH I w s hp := hR.H
  obtain ⟨H1, E1⟩ := sim_spend (m := m) H k (by rw [hk]; simp)
  have hI : ∀ b, I b → subI [k] hp s I b := fun b h => .inl h
  have H2 : SimH (subI [k] hp s I) w s (upd hp k (some none)) := by
    refine ⟨H1.top, fun j cs hj => ?_, H1.inj, fun b hb => ?_⟩
    · rcases H1.blk j cs hj with h | ⟨b, arr, T, h1, h2, h3, h4, h5⟩
      · exact .inl h
      · refine .inr ⟨b, arr, T, h1, h2, h3, ?_, fun j' h' => ?_⟩
        · rintro (h | ⟨k', hk', cs', hh, hs⟩)
          · exact h4 h
          · have e : k' = k := by simpa using hk'
            subst e
            have hjk : j ≠ k' := fun e => by subst e; rw [upd_same] at hj; cases hj
            rw [upd_ne _ _ hjk] at hj
            exact hjk (H.inj j k' b cs cs' hj hh h1 hs)
        · obtain ⟨y, hy, hr⟩ := h5 j' h'
          exact ⟨y, hy, hr.mono hI (fun _ _ => rfl) (Shp.refl w) (Sg.le_refl _)⟩
    · rcases hb with h | ⟨k', hk', cs', hh, hs⟩
      · exact H.imm b h
      · rcases H.blk k' cs' hh with ⟨h1, _⟩ | ⟨b', arr, T, h1, h2, _⟩
        · rw [hs] at h1; cases h1
        · rw [hs] at h1
          simp only [Option.some.injEq] at h1
          subst h1
          exact lt_of_heap h2
  have E2 : Ext m I w s hp (subI [k] hp s I) w s (upd hp k (some none)) :=
    ⟨rfl, rfl, rfl, Nat.le_refl _, fun _ _ _ => rfl, Shp.refl w, fun _ _ => rfl, hI, fun b hb => by
      rcases hb with h | ⟨k', _, cs', hh, hs⟩
      · exact .inl h
      · exact .inr (.inl ⟨k', cs', hh, hs⟩), E1.live⟩
  refine ⟨_, s, ⟨H2, fun n d hd => ?_, hR.df, hR.sz⟩, E2⟩
  by_cases e : n = t
  · subst e
    simp only [upd_same, Option.some.injEq] at hd
    subst hd
    have h0 : RD I w s (a.tmps.getD n undef) (.c (.msl k sz 0 xs.length)) := hR.tm n _ ht
    generalize a.tmps.getD n undef = x at h0
    cases h0 with
    | c _ _ h0 => exact .c _ _ (frozen_rc H (by simp) hk hl hkf h0 s)
  · simp only [upd_ne _ _ e] at hd
    exact E2.rd H (Sg.le_refl _) (hR.tm n d hd)
end
end Go.CT

namespace Go.CT

/-- A result that is plain data. -/
theorem RetOb.pure {R : D → List (Option (List C)) → Prop} {d : D} {hp : Hp} (hR : R d []) (hd : DM (hpL []) some hp [] d d) : RetOb 0 R d hp :=
  RetOb.of some [] d [] ⟨fun k cs h => by simp [hpL] at h, fun k k' cs cs' j h => by simp [hpL] at h, fun k h => by omega⟩ hd hR (Nat.le_refl _)

mutual
theorem CM.kf {hT hS : Hp} {r : Nat → Option Nat} {fz : List Nat} : ∀ {c : C}, kf c = true → CM hT r hS fz c c
  | .v _, _ => by simp [CM]
  | .isl _ _, _ => by simp [CM]
  | .z, _ => by simp [CM]
  | .unk, _ => by simp [CM]
  | .eptr _, _ => by simp [CM]
  | .met _ _, _ => by simp [CM]
  | .msl _ _ _ _, h => by simp [Go.CT.kf] at h
  | .ptr _ _, h => by simp [Go.CT.kf] at h
  | .clo _ _, h => by simp [Go.CT.kf] at h
end
theorem CMs.kf {hT hS : Hp} {r : Nat → Option Nat} {fz : List Nat} : ∀ {cs : List C}, (∀ c ∈ cs, Go.CT.kf c = true) → CMs hT r hS fz cs cs
  | [], _ => by simp [CMs]
  | c :: r', h => by simp only [CMs]; exact ⟨CM.kf (h c (by simp)), CMs.kf fun c' hc' => h c' (by simp [hc'])⟩

/-- Plain data through and through. -/
def kD : D → Prop
  | .c a => kf a = true
  | .agg as => ∀ c ∈ as, kf c = true
  | _ => False
theorem DM.kD {hT hS : Hp} {r : Nat → Option Nat} {fz : List Nat} {d : D} (h : kD d) : DM hT r hS fz d d := by
  cases d with
  | c a => simp only [DM]; exact CM.kf h
  | agg as => simp only [DM]; exact CMs.kf h
  | _ => exact h.elim

theorem RetOb.plain {R : D → List (Option (List C)) → Prop} {d : D} {hp : Hp} (hR : R d []) (hk : kD d) : RetOb 0 R d hp := .pure hR (DM.kD hk)

/-- Nothing owned is kept. -/
theorem Mt.slots {fz : List Nat} {tl : List (Nat × D)} {S : Ms} (h : TmOK (hOf []) some S.hp fz S.tm tl) : Mt 0 some fz tl [] S := ⟨h, trivial, trivial, by simp⟩

theorem TmOK.cons {hT : Hp} {r : Nat → Option Nat} {hS : Hp} {fz : List Nat} {tS : Nat → Option D} {n : Nat} {d : D} {l : List (Nat × D)} {d' : D} (h : tS n = some d') (hd : DM hT r hS fz d d') (ht : TmOK hT r hS fz tS l) : TmOK hT r hS fz tS ((n, d) :: l) := by
  simp only [TmOK, h]; exact ⟨hd, ht⟩

theorem RetOb.frozen {R : D → List (Option (List C)) → Prop} {k sz n : Nat} {hp : Hp} {xs : List (List C)} (hR : R (.c (.isl sz xs)) []) (hk : hp k = some (some xs.flatten)) (hn : n = xs.length)
    (hl : ∀ x ∈ xs, x.length = sz) (hkf : ∀ x ∈ xs, ∀ c ∈ x, kf c = true) : RetOb 0 R (.c (.msl k sz 0 n)) hp :=
  RetOb.of (fun _ => none) [k] _ [] ⟨fun k cs h => by simp [hpL] at h, fun k k' cs cs' j h => by simp [hpL] at h, fun k h => by omega⟩
    (by simp only [DM, CM]; exact ⟨⟨trivial, trivial, hn⟩, by simp, hk, hl, hkf⟩) hR (Nat.le_refl _)

/-- One owned block is kept, its cells plain data. -/
theorem Mt.one {fz : List Nat} {tl : List (Nat × D)} {S : Ms} {k : Nat} {cs : List C} (h : TmOK (hOf [(k, some cs)]) some S.hp fz S.tm tl) (hk : k ∉ fz) (hb : S.hp k = some (some cs)) (hkf : ∀ c ∈ cs, kf c = true) : Mt 0 some fz tl [(k, some cs)] S := by
  refine ⟨h, ⟨?_, trivial⟩, trivial, by simp⟩
  simp only [hb]
  exact ⟨hk, CMs.kf hkf⟩
theorem flat1 {α : Type} (f : α → C) (xs : List α) : (xs.map fun n => [f n]).flatten = xs.map f := by
  induction xs with
  | nil => rfl
  | cons a r ih => simp [ih]

theorem subH_one {r : Nat → Option Nat} {k : Nat} {cs : List C} {hp : Hp} (hr : r 0 = some k) (hb : hp k = some (some cs)) (hkf : ∀ c ∈ cs, kf c = true) : SubH 0 r [] (hpL [some cs]) hp where
  live j cs' hj := by
    match j with
    | 0 =>
      simp only [hpL, List.getElem?_cons_zero, Option.some.injEq] at hj
      subst hj
      exact .inl ⟨k, cs, hr, by simp, hb, CMs.kf hkf⟩
    | j + 1 => simp [hpL] at hj
  inj j j' cs1 cs2 b h1 h2 _ _ := by
    match j, j' with
    | 0, 0 => rfl
    | 0, j' + 1 => simp [hpL] at h2
    | j + 1, _ => simp [hpL] at h1
  low j hj := by omega
theorem subH_one' {r : Nat → Option Nat} {cs : List C} {hp : Hp} (hr : r 0 = some 0) (hb : hp 0 = some (some cs)) (hkf : ∀ c ∈ cs, kf c = true) (_ : True) : SubH 1 r [] (hpL [some cs]) hp where
  live := (subH_one hr hb hkf).live
  inj := (subH_one hr hb hkf).inj
  low j hj := by
    have : j = 0 := by omega
    subst this
    exact ⟨hr, by simp [hpL]⟩

theorem updM {α : Type} (f : Nat → α) (n : Nat) (x : α) (k : Nat) : upd f n x k = (match Nat.beq k n with | true => x | false => f k) := by
  unfold upd
  by_cases h : k = n
  · subst h; simp
  · have : Nat.beq k n = false := by
      cases hb : Nat.beq k n with
      | false => rfl
      | true => exact absurd (Nat.eq_of_beq_eq_true hb) h
    rw [if_neg h, this]
theorem setT_some (tm : Nat → Option D) (n : Nat) (d : Option D) : setT tm (some n) d = upd tm n d := rfl
theorem setT_none (tm : Nat → Option D) (d : Option D) : setT tm none d = tm := rfl

theorem hhp_one {hp : Hp} {r : Nat → Nat} {k : Nat} {x : Option (List C)} (h : hp k = some (x.map (renCs r))) : ∀ i' y, [x][i']? = some y → hp ([k].getD i' 0) = some (y.map (renCs r)) := by
  intro i' y hy
  match i' with
  | 0 => simp only [List.getElem?_cons_zero, Option.some.injEq] at hy; subst hy; exact h
  | i' + 1 => simp at hy

theorem RetOb.keep1 {R : D → List (Option (List C)) → Prop} {d : D} {cs : List C} {hp : Hp} (hR : R d [some cs]) (hb : hp 0 = some (some cs)) (hkf : ∀ c ∈ cs, kf c = true) (hd : kD d) : RetOb 1 R d hp :=
  RetOb.of (fun k => if k = 0 then some 0 else none) [] d [some cs] (subH_one' rfl hb hkf trivial) (DM.kD hd) hR (Nat.le_refl _)

theorem beq_tt (b : Bool) : (b == true) = b := by cases b <;> rfl
theorem beq_ff (b : Bool) : (b == false) = !b := by cases b <;> rfl
theorem mx_eq : mx = 281474976710656 := rfl

/-! ### Calls, their side conditions met by reckoning -/

def okB (tm : Nat → Option D) : List Operand → Bool
  | [] => true
  | x :: r => (match evT tm x with | some d => peelB d | none => true) && okB tm r
theorem okP_of {tm : Nat → Option D} : ∀ {l : List Operand}, okB tm l = true → okP tm l
  | [], _ => trivial
  | x :: r, h => by
    simp only [okB, Bool.and_eq_true] at h
    refine ⟨?_, okP_of h.2⟩
    cases hx : evT tm x with
    | none => trivial
    | some d => rw [hx] at h; exact h.1
def getCall (o : Oper) : Call := match o.op with | .call c => c | _ => { callee := .builtin .len, args := #[], argTypes := #[] }

section
variable {P : Program} {m : Nat} {f : FuncId} {nt : Nat} {R : D → List (Option (List C)) → Prop}

theorem XK.plain {all : Array Oper} {dr : Bool} {i : Nat} {o : Oper} {rest : List Oper} {lg : Lg} {nx0 : Nat} {k : List Item} {S : Ms} {F : FuncId} {args : List D} {d0 : D}
    (hD : DC P F args [] (fun d h' => d = d0 ∧ h' = [])) (hfn : fnOK P F = true)
    (next : XK P m f nt R (some ⟨all, dr, i + 1, rest, upd lg i (some ([], [])), nx0⟩) k ⟨setT S.tm o.dst (some d0), S.hp, S.nx⟩)
    (hb : ∀ j, j < 64 → S.hp (wkey nx0 i + j) = none := by first | (intro j hj; rfl) | (intro j hj; simp only [upd, wkey, hpL, hOf, List.getElem?_nil]; (repeat' split) <;> first | (exfalso; omega) | rfl | (apply List.getElem?_eq_none; simp only [List.length_cons, List.length_nil]; omega))) (hdr : dr = true → lgok nx0 all lg i [] [] = true := by intro h; cases h)
    (hren : renD (rkey [] (wkey nx0 i)) d0 = d0 := by rfl) (hm : m ≤ wkey nx0 i := by first | exact Nat.zero_le _ | (simp only [wkey]; decide))
    (hop : o.op = .call (getCall o) := by rfl) (hg : o.guard = none := by rfl) (hc : calleeOf S.tm (getCall o) = some (F, args.map (renD (rk0 [] (wkey nx0 i)))) := by rfl) (hok : okB S.tm (getCall o).operands.toList = true := by rfl)
    (hf : fitsT nt o.dst = true := by rfl) :
    XK P m f nt R (some ⟨all, dr, i, o :: rest, lg, nx0⟩) k S :=
  XK.pure hD (getCall o) hop hg hc (okP_of hok) hfn hm hb hf hdr (by rw [hren]; exact next)

/-- An owned slice that is written no more, from here on plain data under the slot t. -/
theorem XK.freeze {all : Array Oper} {i : Nat} {rest : List Oper} {lg : Lg} {nx0 : Nat} {kk : List Item} {S : Ms} (t k sz n : Nat) (xs : List (List C))
    (h : XK P m f nt R (some ⟨all, false, i, rest, lg, nx0⟩) kk ⟨upd S.tm t (some (.c (.isl sz xs))), upd S.hp k (some none), S.nx⟩) (hk : S.hp k = some (some xs.flatten)) (ht : S.tm t = some (.c (.msl k sz 0 n)) := by rfl) (hn : n = xs.length := by rfl)
    (hl : ∀ x ∈ xs, x.length = sz := by simp) (hkf : ∀ x ∈ xs, ∀ c ∈ x, kf c = true := by simp [kf]) : XK P m f nt R (some ⟨all, false, i, rest, lg, nx0⟩) kk S :=
  XK.sub (S' := ⟨upd S.tm t (some (.c (.isl sz xs))), upd S.hp k (some none), S.nx⟩) (lg' := lg) (Sub.freeze t k sz n xs ht hk hn hl hkf) h

/-- A call that may hand over blocks. -/
theorem XK.callG {all : Array Oper} {dr : Bool} {i : Nat} {o : Oper} {rest : List Oper} {lg : Lg} {nx0 : Nat} {k : List Item} {S : Ms} {F : FuncId} {args : List D} {h : List (Option (List C))} {R' : D → List (Option (List C)) → Prop}
    (ks : List Nat) (hD : DC P F args h R') (hfn : fnOK P F = true)
    (hhp : ∀ i' x, h[i']? = some x → S.hp (ks.getD i' 0) = some (x.map (renCs (rk0 ks (wkey nx0 i))))) (hb : ∀ j, j < 64 → S.hp (wkey nx0 i + j) = none) (hlen : ∀ d h', R' d h' → h'.length ≤ h.length + 64)
    (next : ∀ d h', R' d h' → h.length ≤ h'.length → XK P m f nt R (some ⟨all, dr, i + 1, rest, upd lg i (some (ks, ks)), nx0⟩) k ⟨setT S.tm o.dst (some (renD (rkey ks (wkey nx0 i)) d)), appUp S.hp (upsFrom (rkey ks (wkey nx0 i)) 0 h'), S.nx⟩)
    (hdr : dr = true → lgok nx0 all lg i ks ks = true ∧ ∃ d h', R' d h' ∧ h.length ≤ h'.length := by intro h; cases h)
    (hm : m ≤ wkey nx0 i := by first | exact Nat.zero_le _ | (simp only [wkey]; decide))
    (hop : o.op = .call (getCall o) := by rfl) (hg : o.guard = none := by rfl) (hc : calleeOf S.tm (getCall o) = some (F, args.map (renD (rk0 ks (wkey nx0 i)))) := by rfl) (hok : okB S.tm (getCall o).operands.toList = true := by rfl)
    (hks : ks.length = h.length := by rfl) (hnd : ks.Nodup := by decide) (hf : fitsT nt o.dst = true := by rfl) :
    XK P m f nt R (some ⟨all, dr, i, o :: rest, lg, nx0⟩) k S :=
  XK.call hD ks (getCall o) hop (.inl hg) hc (okP_of hok) hfn hks hnd hhp hm hb hlen hf hdr next

/-- A guarded call that only computes. -/
theorem XK.gplain {all : Array Oper} {dr : Bool} {i : Nat} {o : Oper} {rest : List Oper} {lg : Lg} {nx0 : Nat} {k : List Item} {S : Ms} {F : FuncId} {args : List D} {d0 : D} (g : Nat) (b x : Bool)
    (hD : x = true → DC P F args [] (fun d h' => d = d0 ∧ h' = [])) (hfn : fnOK P F = true)
    (next : XK P m f nt R (some ⟨all, dr, i + 1, rest, upd lg i (some ([], [])), nx0⟩) k ⟨setT S.tm o.dst (some (.when x d0)), S.hp, S.nx⟩)
    (hb : ∀ j, j < 64 → S.hp (wkey nx0 i + j) = none := by first | (intro j hj; rfl) | (intro j hj; simp only [upd, wkey, hpL, hOf, List.getElem?_nil]; (repeat' split) <;> first | (exfalso; omega) | rfl | (apply List.getElem?_eq_none; simp only [List.length_cons, List.length_nil]; omega))) (hdr : dr = true → lgok nx0 all lg i [] [] = true := by intro h; cases h)
    (hx : guardB all S.tm g b = some x := by simp [guardB, evT, upd, peelB, peelD, DB, DI])
    (hok : x = true → okP S.tm (getCall o).operands.toList := by intro hx; simp [okP, getCall, Call.operands, evT, upd, peelB, DB, DI, cst, one] at hx ⊢; first | done | exact hx | (simp_all; done) | omega)
    (hc : calleeOf S.tm (getCall o) = some (F, args.map (renD (rk0 [] (wkey nx0 i)))) := by rfl)
    (hren : renD (rkey [] (wkey nx0 i)) d0 = d0 := by rfl) (hm : m ≤ wkey nx0 i := by first | exact Nat.zero_le _ | (simp only [wkey]; decide))
    (hop : o.op = .call (getCall o) := by rfl) (hcf : ∃ f, (getCall o).callee = .value f := by exact ⟨_, rfl⟩) (hg : o.guard = some (g, b) := by rfl)
    (hf : fitsT nt o.dst = true := by rfl) :
    XK P m f nt R (some ⟨all, dr, i, o :: rest, lg, nx0⟩) k S :=
  XK.gpure g b x (getCall o) hg hx hop hcf (fun e => ⟨F, args, hc, hok e, hfn, hD e, hren⟩) hm hb hf hdr next

/-- A guarded call that occurs; it may hand over blocks. -/
theorem XK.callT {all : Array Oper} {dr : Bool} {i : Nat} {o : Oper} {rest : List Oper} {lg : Lg} {nx0 : Nat} {k : List Item} {S : Ms} {F : FuncId} {args : List D} {h : List (Option (List C))} {R' : D → List (Option (List C)) → Prop}
    (g : Nat) (b : Bool) (ks : List Nat) (hD : DC P F args h R') (hfn : fnOK P F = true)
    (hhp : ∀ i' x, h[i']? = some x → S.hp (ks.getD i' 0) = some (x.map (renCs (rk0 ks (wkey nx0 i))))) (hb : ∀ j, j < 64 → S.hp (wkey nx0 i + j) = none) (hlen : ∀ d h', R' d h' → h'.length ≤ h.length + 64)
    (next : ∀ d h', R' d h' → h.length ≤ h'.length → XK P m f nt R (some ⟨all, dr, i + 1, rest, upd lg i (some (ks, ks)), nx0⟩) k ⟨setT S.tm o.dst (some (renD (rkey ks (wkey nx0 i)) d)), appUp S.hp (upsFrom (rkey ks (wkey nx0 i)) 0 h'), S.nx⟩)
    (hdr : dr = true → lgok nx0 all lg i ks ks = true ∧ ∃ d h', R' d h' ∧ h.length ≤ h'.length := by intro h; cases h)
    (hx : guardB all S.tm g b = some true := by first | rfl | simp_all [guardB, evT, upd, peelB, peelD, DB, DI])
    (hok : okP S.tm (getCall o).operands.toList := by first | exact okP_of rfl | simp_all [okP, getCall, Call.operands, evT, upd, peelB, DB, DI, cst, one])
    (hm : m ≤ wkey nx0 i := by first | exact Nat.zero_le _ | (simp only [wkey]; decide))
    (hop : o.op = .call (getCall o) := by rfl) (hg : o.guard = some (g, b) := by rfl) (hc : calleeOf S.tm (getCall o) = some (F, args.map (renD (rk0 ks (wkey nx0 i)))) := by rfl)
    (hks : ks.length = h.length := by rfl) (hnd : ks.Nodup := by decide) (hf : fitsT nt o.dst = true := by rfl) :
    XK P m f nt R (some ⟨all, dr, i, o :: rest, lg, nx0⟩) k S :=
  XK.call hD ks (getCall o) hop (.inr ⟨g, b, hg, hx⟩) hc hok hfn hks hnd hhp hm hb hlen hf hdr next

/-- A guarded call that does not occur. -/
theorem XK.gskip {all : Array Oper} {dr : Bool} {i : Nat} {o : Oper} {rest : List Oper} {lg : Lg} {nx0 : Nat} {k : List Item} {S : Ms} (g : Nat) (b : Bool) (d0 : D)
    (next : XK P m f nt R (some ⟨all, dr, i + 1, rest, upd lg i (some ([], [])), nx0⟩) k ⟨setT S.tm o.dst (some (.when false d0)), S.hp, S.nx⟩)
    (hb : ∀ j, j < 64 → S.hp (wkey nx0 i + j) = none := by first | (intro j hj; rfl) | (intro j hj; simp only [upd, wkey, hpL, hOf, List.getElem?_nil]; (repeat' split) <;> first | (exfalso; omega) | rfl | (apply List.getElem?_eq_none; simp only [List.length_cons, List.length_nil]; omega))) (hdr : dr = true → lgok nx0 all lg i [] [] = true := by intro h; cases h)
    (hx : guardB all S.tm g b = some false := by first | rfl | simp [guardB, evT, upd, peelB, peelD, DB, DI])
    (hm : m ≤ wkey nx0 i := by first | exact Nat.zero_le _ | (simp only [wkey]; decide))
    (hop : o.op = .call (getCall o) := by rfl) (hcf : ∃ f, (getCall o).callee = .value f := by exact ⟨_, rfl⟩) (hg : o.guard = some (g, b) := by rfl)
    (hf : fitsT nt o.dst = true := by rfl) :
    XK P m f nt R (some ⟨all, dr, i, o :: rest, lg, nx0⟩) k S :=
  XK.gpure g b false (getCall o) hg hx hop hcf (fun e => by cases e) hm hb hf hdr next
end
end Go.CT
