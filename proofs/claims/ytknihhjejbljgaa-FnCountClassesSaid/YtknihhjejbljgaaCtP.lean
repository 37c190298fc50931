/- Regions: their operations in the order of the text; and that this order serves every order that Go leaves open. -/
import Derived.Test.YtknihhjejbljgaaCtO
set_option linter.unusedVariables false
set_option linter.unusedSimpArgs false
namespace Go.CT

/-- j comes before i, by the edges. -/
def ord (all : Array Oper) (j i : Nat) : Bool := ((Region.before all).getD i 0).testBit j

def inWin (nx j k : Nat) : Bool := decide (wkey nx j ≤ k) && decide (k < wkey nx j + 64)

def indep (nx i j : Nat) (rd wr rd' wr' : List Nat) : Bool :=
  (wr.all fun k => !(rd'.contains k) && !(wr'.contains k)) && (wr'.all fun k => !(rd.contains k)) && ((rd ++ wr).all fun k => !(inWin nx j k)) && ((rd' ++ wr').all fun k => !(inWin nx i k))

def lgok (nx : Nat) (all : Array Oper) (lg : Lg) (i : Nat) (rd wr : List Nat) : Bool :=
  (List.range all.size).all fun j => j == i || (match lg j with | none => true | some (rd', wr') => ord all j i || ord all i j || indep nx i j rd wr rd' wr')

def isFn (o : Oper) : Bool := match o.op with | .call c => (match c.callee with | .value _ => true | _ => false) | _ => false

/-- What is asked of a region whose order is drawn, by its text alone. -/
def drawOK (all : Array Oper) : Bool :=
  Region.noSelect all && (List.range all.size).all (fun i => (match all[i]? with | some x => x.after.all (fun e => !(Region.binds .any e) || decide (e.on < i)) | none => true)) &&
  (List.range all.size).all fun i => (List.range all.size).all fun j => decide (i ≤ j) || !(ord all i j) && (ord all j i ||
    (match all[i]?, all[j]? with | some x, some y => x.apart all y && !(isFn x && isFn y) | _, _ => true))

def dop (P : Program) (m nx nt : Nat) (all : Array Oper) (dr : Bool) (i : Nat) (o : Oper) (K : Rs → Prop) (S : Rs) : Prop :=
  ∃ rd wr T, Stp P m nx all i o S.tm S.hp rd wr T ∧ fitsT nt o.dst = true ∧ (dr = true → lgok nx all S.lg i rd wr = true ∧ ∃ d up, T d up) ∧
    ∀ d up, T d up → K ⟨setT S.tm o.dst d, appUp S.hp up, upd S.lg i (some (rd, wr))⟩

def dops (P : Program) (m nx nt : Nat) (all : Array Oper) (dr : Bool) (K : Rs → Prop) : List Nat → Rs → Prop
  | [], S => K S
  | i :: r, S => match all[i]? with
    | some o => dop P m nx nt all dr i o (dops P m nx nt all dr K r) S
    | none => False

section
variable {P : Program} {m nx nt : Nat} {all : Array Oper}

theorem dop_mono {dr : Bool} {i : Nat} {o : Oper} {K K' : Rs → Prop} (h : ∀ S, K S → K' S) {S : Rs} (hd : dop P m nx nt all dr i o K S) : dop P m nx nt all dr i o K' S :=
  let ⟨rd, wr, T, h1, h2, h3, h4⟩ := hd
  ⟨rd, wr, T, h1, h2, h3, fun d up ht => h _ (h4 d up ht)⟩

/-- One operation, then what follows. -/
theorem dop_run {dr : Bool} {i : Nat} {o : Oper} (ho : all[i]? = some o) {I : Nat → Prop} {w : World} {s : Sg} {a : Act} {S : Rs} (hR : Rc I w s a S.tm S.hp nt) {K : Rs → Prop} (h : dop P m nx nt all dr i o K S) {Q : Exit → Act → World → Prop}
    {K' : Act → World → Prop} (hK : ∀ a' w' I' s' S', K S' → (∃ p, S'.lg = upd S.lg i (some p)) → Rc I' w' s' a' S'.tm S'.hp nt → Ext m I w s S.hp I' w' s' S'.hp → K' a' w') : wpOp P all Q i K' a w := by
  obtain ⟨rd, wr, T, h1, h2, h3, h4⟩ := h
  exact h1.run ho hR h2 fun a' w' I' s' d up ht hR' hE => hK a' w' I' s' _ (h4 d up ht) ⟨_, rfl⟩ hR' hE

theorem dops_run {dr : Bool} {K : Rs → Prop} {Q : Exit → Act → World → Prop} : ∀ (l : List Nat) {I : Nat → Prop} {w : World} {s : Sg} {a : Act} {S : Rs}, Rc I w s a S.tm S.hp nt → dops P m nx nt all dr K l S →
    (∀ a' w' I' s' S', K S' → Rc I' w' s' a' S'.tm S'.hp nt → Ext m I w s S.hp I' w' s' S'.hp → Q .normal a' w') → wpOps P all Q l a w
  | [], I, w, s, a, S, hR, h, hQ => hQ a w I s S h hR (Ext.refl _ _ _ _ _)
  | i :: r, I, w, s, a, S, hR, h, hQ => by
    rw [wpOps_cons]
    simp only [dops] at h
    split at h
    · rename_i o ho
      exact dop_run ho hR h fun a' w' I' s' S' hK _ hR' hE => dops_run r hR' hK fun a'' w'' I'' s'' S'' hK' hR'' hE' => hQ a'' w'' I'' s'' S'' hK' hR'' (hE.trans hE')
    · exact h.elim

/-! ### A step looks at little -/

theorem evT_agree {tm tm' : Nat → Option D} {l : List Tmp} (h : ∀ t ∈ l, tm t = tm' t) {x : Operand} (hx : ∀ t, x = .tmp t → t ∈ l) : evT tm x = evT tm' x := by
  cases x with
  | tmp t => exact h t (hx t rfl)
  | _ => rfl

theorem okP_congr {tm tm' : Nat → Option D} : ∀ (l : List Operand), (∀ x ∈ l, evT tm x = evT tm' x) → okP tm l = okP tm' l
  | [], _ => rfl
  | x :: r, h => by
    simp only [okP, h x (by simp)]
    rw [okP_congr r fun y hy => h y (by simp [hy])]

theorem evP_congr {tm tm' : Nat → Option D} {x : Operand} (h : evT tm x = evT tm' x) : evP tm x = evP tm' x := by simp only [evP, h]

theorem pop_hp {e : Operand → Option D} {hp hp' : Hp} {o : Op} (h : ∀ k ∈ rdKeys e o, hp k = hp' k) : pop P e hp o = pop P e hp' o := by
  cases o with
  | load t x =>
    have hk : ∀ k off, e x = some (.c (.ptr k off)) → hp k = hp' k := fun k off hx => h k (by simp [rdKeys, hx])
    simp only [pop]
    split
    · rename_i k off g n hx _ _
      rw [hk k off hx]
    · rfl
    · rfl
  | makeFunc fn first caps => cases fn <;> simp only [pop]
  | slice t x lo hi mx => cases mx <;> cases lo <;> cases hi <;> simp only [pop]
  | _ => rfl

theorem target_hp {hp hp' : Hp} {d : D} (h : ∀ k ∈ mslKey d, hp k = hp' k) : target hp d = target hp' d := by
  unfold target
  split
  · rename_i k _ _
    rw [h k (by simp [mslKey])]
  · rfl
  · rfl
  · rfl

theorem lends_hp {hp hp' : Hp} {d : D} (h : ∀ k ∈ mslKey d, hp k = hp' k) : lends hp d = lends hp' d := by
  unfold lends
  split
  · rfl
  · rename_i k _ _ _
    rw [h k (by simp [mslKey])]
  · rfl
  · rfl
  · rfl

theorem stp_agree {key : Nat} {tm tm' : Nat → Option D} {hp hp' : Hp} {o : Op} {out : Out} (h : stp P m key tm hp o = some out) (ht : ∀ x ∈ o.operands.toList, evT tm x = evT tm' x)
    (hh : ∀ k, k ∈ out.rd ∨ k ∈ out.up.map (·.1) ∨ k = key → hp k = hp' k) : stp P m key tm' hp' o = some out := by
  have hpop : (match pop P (evP tm) hp o with | some (vc, d) => some (⟨okP tm o.operands.toList ∧ vc, some d, rdKeys (evP tm) o, []⟩ : Out) | none => none) = some out →
      (match pop P (evP tm') hp' o with | some (vc, d) => some (⟨okP tm' o.operands.toList ∧ vc, some d, rdKeys (evP tm') o, []⟩ : Out) | none => none) = some out := fun h => by
    have e1 : pop P (evP tm) hp o = pop P (evP tm') hp o := pop_congr fun x hx => evP_congr (ht x hx)
    have e2 : rdKeys (evP tm) o = rdKeys (evP tm') o := by
      cases o with
      | load t x => simp only [rdKeys, evP_congr (ht x (by simp [Op.operands]))]
      | _ => rfl
    have e3 : okP tm o.operands.toList = okP tm' o.operands.toList := okP_congr _ ht
    rw [e1, e2, e3] at h
    have e4 : pop P (evP tm') hp o = pop P (evP tm') hp' o := pop_hp fun k hk => hh k (.inl (by
      split at h
      · simp only [Option.some.injEq] at h
        rw [← h]; exact hk
      · cases h))
    rw [e4] at h
    exact h
  cases o with
  | pick c x y =>
    simp only [Op.operands] at ht
    have h1 := ht c (by simp); have h2 := ht x (by simp); have h3 := ht y (by simp)
    simp only [stp, evP, okP, h1, h2, h3] at h ⊢
    exact h
  | alloc T =>
    simp only [stp] at h ⊢
    split at h
    · split at h
      · rename_i h1
        rw [if_pos h1]
        simp only [Option.some.injEq] at h
        rw [hh key (.inr (.inr rfl))] at h
        rw [h]
      · cases h
    · cases h
  | box T x =>
    simp only [Op.operands] at ht
    have h1 := ht x (by simp)
    simp only [stp, evP, okP, h1] at h ⊢
    split at h
    · split at h
      · simp only [Option.some.injEq] at h
        rw [hh key (.inr (.inr rfl))] at h
        simp only [h]
      · cases h
    · cases h
  | buildSlice t n ps =>
    simp only [Op.operands] at ht
    have hps : ∀ x ∈ ps.toList.map (·.2), evT tm x = evT tm' x := fun x hx => ht x (by simpa using hx)
    have e1 : ∀ sz, partsS P sz (evP tm) 0 ps.toList = partsS P sz (evP tm') 0 ps.toList := fun sz => partsS_congr (P := P) ps.toList 0 fun x hx => evP_congr (hps x hx)
    have e2 : okP tm (ps.toList.map (·.2)) = okP tm' (ps.toList.map (·.2)) := okP_congr _ hps
    simp only [stp, e1, e2] at h ⊢
    split at h
    · split at h
      · simp only [Option.some.injEq] at h
        rw [hh key (.inr (.inr rfl))] at h
        simp only [h]
      · cases h
    · cases h
  | store t x y =>
    simp only [Op.operands] at ht
    have h1 := ht x (by simp); have h2 := ht y (by simp)
    simp only [stp, evP, okP, h1, h2] at h ⊢
    split at h
    · rename_i k off d n _ _ _
      split at h
      · rename_i cs ds hcs hds
        simp only [Option.some.injEq] at h
        have hk : hp k = hp' k := hh k (.inl (by rw [← h]; simp))
        rw [← hk, hcs]
        simp only [hds, h]
      · cases h
    · cases h
  | makeSlice t l c =>
    simp only [Op.operands] at ht
    have h1 := ht l (by simp); have h2 := ht c (by simp)
    simp only [stp, evP, okP, h1, h2] at h ⊢
    split at h
    · split at h
      · rename_i hz
        simp only [Option.some.injEq] at h
        rw [hh key (.inr (.inr rfl))] at h
        simp only [hz, if_true, h]
      · cases h
    · cases h
  | call c =>
    obtain ⟨callee, args, argTypes⟩ := c
    cases callee with
    | builtin b =>
      cases b
      case append =>
        simp only [stp] at h ⊢
        split at h
        · rename_i x y t t' ha hat
          simp only [Op.operands, Call.operands, Array.toList_append, ha, List.mem_append] at ht
          have h1 := ht x (by simp); have h2 := ht y (by simp)
          simp only [evP, okP, h1, h2] at h ⊢
          split at h
          · rename_i dx dy sz zs by' hx hy hsz hzs hby
            split at h
            · rename_i ko len cs n sz' ys htg hld
              simp only [Option.some.injEq] at h
              have hkx : ∀ k ∈ mslKey dx, hp k = hp' k := fun k hk => hh k (.inl (by rw [← h]; simp [hk]))
              have hky : ∀ k ∈ mslKey dy, hp k = hp' k := fun k hk => hh k (.inl (by rw [← h]; simp [hk]))
              have et := target_hp hkx
              have el := lends_hp hky
              rw [← et, htg, ← el, hld]
              rw [hh key (.inr (.inr rfl))] at h
              simp only [h]
            · cases h
          · cases h
        · cases h
      all_goals exact hpop h
    | value f => exact hpop h
    | invoke r mth => exact hpop h
  | _ => exact hpop h

end
end Go.CT
