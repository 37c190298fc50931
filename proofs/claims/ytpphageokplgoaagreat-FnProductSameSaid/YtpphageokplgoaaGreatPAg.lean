/- Regions whose order is drawn: the order of the text serves every order. -/
import Derived.Test.YtpphageokplgoaaGreatPAf
set_option linter.unusedVariables false
set_option linter.unusedSimpArgs false
set_option maxHeartbeats 16000000
set_option maxRecDepth 100000
namespace Go.CT
section
variable {P : Program} {m nx nt : Nat} {all : Array Oper}
theorem argsOf_congr {tm tm' : Nat → Option D} : ∀ (l : List Operand), (∀ x ∈ l, evT tm x = evT tm' x) → argsOf tm l = argsOf tm' l
  | [], _ => rfl
  | x :: r, h => by simp only [argsOf, evP_congr (h x (by simp)), argsOf_congr r fun y hy => h y (by simp [hy])]
theorem calleeOf_congr {tm tm' : Nat → Option D} {c : Call} (h : ∀ x ∈ c.operands.toList, evT tm x = evT tm' x) : calleeOf tm c = calleeOf tm' c := by
  obtain ⟨callee, args, at'⟩ := c
  cases callee with
  | value f =>
    simp only [Call.operands, Array.toList_append, List.mem_append] at h
    simp only [calleeOf, evP_congr (h f (by simp)), argsOf_congr args.toList fun x hx => h x (.inr hx)]
  | _ => rfl
theorem guardB_congr {tm tm' : Nat → Option D} {g : Nat} {b : Bool} (h : ∀ t, (all[g]?).bind (·.dst) = some t → tm t = tm' t) : guardB all tm g b = guardB all tm' g b := by
  unfold guardB
  cases ht : (all[g]?).bind (·.dst) with
  | none => rfl
  | some t => simp only [h t ht]
structure Agree (nx : Nat) (all : Array Oper) (i : Nat) (o : Oper) (rd wr : List Nat) (tm tm' : Nat → Option D) (hp hp' : Hp) : Prop where
  atm : ∀ t ∈ o.looksAt all, tm t = tm' t
  ahp : ∀ k, k ∈ rd ∨ k ∈ wr → hp k = hp' k
  awin : ∀ j, j < 64 → hp (wkey nx i + j) = hp' (wkey nx i + j)
theorem Agree.ops {i : Nat} {o : Oper} {rd wr : List Nat} {tm tm' : Nat → Option D} {hp hp' : Hp} (h : Agree nx all i o rd wr tm tm' hp hp') : ∀ x ∈ o.op.operands.toList, evT tm x = evT tm' x := fun x hx => by
  cases x with
  | tmp t => exact h.atm t (List.mem_append_left _ (List.mem_filterMap.2 ⟨.tmp t, hx, rfl⟩))
  | _ => rfl
theorem Agree.guard {i : Nat} {o : Oper} {rd wr : List Nat} {tm tm' : Nat → Option D} {hp hp' : Hp} (h : Agree nx all i o rd wr tm tm' hp hp') {g : Nat} {b : Bool} (hg : o.guard = some (g, b)) : guardB all tm g b = guardB all tm' g b :=
  guardB_congr fun t ht => h.atm t (List.mem_append_right _ (by simp [hg, ht]))
theorem Agree.symm {i : Nat} {o : Oper} {rd wr : List Nat} {tm tm' : Nat → Option D} {hp hp' : Hp} (h : Agree nx all i o rd wr tm tm' hp hp') : Agree nx all i o rd wr tm' tm hp' hp :=
  ⟨fun t ht => (h.atm t ht).symm, fun k hk => (h.ahp k hk).symm, fun j hj => (h.awin j hj).symm⟩
theorem gkey_congr {tm tm' : Nat → Option D} {op : Op} (h : ∀ x ∈ op.operands.toList, evT tm x = evT tm' x) : gkey tm op = gkey tm' op := by
  unfold gkey
  split
  · rename_i t x
    rw [evP_congr (h x (by simp [Op.operands]))]
  · rfl
theorem GN.agree {key : Nat} {tm tm' : Nat → Option D} {hp hp' : Hp} {op : Op} {rd : List Nat} (h : GN P m key tm hp op rd) (hops : ∀ x ∈ op.operands.toList, evT tm x = evT tm' x) (hk : ∀ k ∈ rd, hp k = hp' k) : GN P m key tm' hp' op rd := by
  have no : ∀ hp0, stp P m key tm hp0 op = none → stp P m key tm' hp0 op = none := fun hp0 h0 => by
    cases h' : stp P m key tm' hp0 op with
    | none => rfl
    | some out' =>
      have := stp_agree h' (fun x hx => (hops x hx).symm) (hp' := hp0) (fun k _ => rfl)
      rw [h0] at this
      cases this
  unfold GN at h ⊢
  rw [← gkey_congr hops]
  split at h
  · exact ⟨h.1, fun hp0 => no hp0 (h.2 hp0)⟩
  · rename_i k e
    obtain ⟨rfl, h2⟩ := h
    exact ⟨rfl, by rw [← gkey_agree (by rw [← gkey_congr hops]; exact e) (hk k (by simp))]; exact no hp h2⟩
theorem Stp.agree {i : Nat} {o : Oper} {tm tm' : Nat → Option D} {hp hp' : Hp} {rd wr : List Nat} {T : Option D → List (Nat × Option (List C)) → Prop} (h : Stp P m nx all i o tm hp rd wr T)
    (hA : Agree nx all i o rd wr tm tm' hp hp') : Stp P m nx all i o tm' hp' rd wr T := by
  have hops := hA.ops
  have hkey : hp (wkey nx i) = hp' (wkey nx i) := by simpa using hA.awin 0 (by omega)
  cases h with
  | plain out hg h hvc => exact .plain out hg (stp_agree h hops fun k hk => by
      rcases hk with h1 | h1 | h1
      · exact hA.ahp k (.inl h1)
      · exact hA.ahp k (.inr h1)
      · rw [h1]; exact hkey) hvc
  | gplain g b x out hg hx h hup hvc =>
    exact .gplain g b x out hg (by rw [← hA.guard hg]; exact hx) (stp_agree h hops fun k hk => by
      rcases hk with h1 | h1 | h1
      · exact hA.ahp k (.inl h1)
      · rw [hup] at h1; simp at h1
      · rw [h1]; exact hkey) hup hvc
  | gon g b out hg hm hx h hvc =>
    exact .gon g b out hg hm (by rw [← hA.guard hg]; exact hx) (stp_agree h hops fun k hk => by
      rcases hk with h1 | h1 | h1
      · exact hA.ahp k (.inl h1)
      · exact hA.ahp k (.inr h1)
      · rw [h1]; exact hkey) hvc
  | goff g b hg hm hx => exact .goff g b hg hm (by rw [← hA.guard hg]; exact hx)
  | gnone g b _ hg hx h hnc => exact .gnone g b _ hg (by rw [← hA.guard hg]; exact hx) (h.agree hops fun k hk => hA.ahp k (.inl hk)) hnc
  | call c F args _ h R hg hop hc hok hfn hD hks hnd hhp hm hb hlen =>
    have hco : ∀ x ∈ c.operands.toList, evT tm x = evT tm' x := by
      intro x hx
      exact hops x (by rw [hop]; exact hx)
    refine .call c F args _ h R (hg.imp id fun ⟨g, b, hg, hx⟩ => ⟨g, b, hg, by rw [← hA.guard hg]; exact hx⟩) hop (by rw [← calleeOf_congr hco]; exact hc) (by rw [← okP_congr _ hco]; exact hok) hfn hD hks hnd (fun i' x hx => ?_) hm (fun j hj => by rw [← hA.awin j hj]; exact hb j hj) hlen
    have hlt : i' < rd.length := by
      have := (List.getElem?_eq_some_iff.1 hx).1
      omega
    rw [← hA.ahp _ (.inl (by rw [List.getD_eq_getElem?_getD, List.getElem?_eq_getElem hlt]; simp))]
    exact hhp i' x hx
  | rcall c F args _ h R hg hop hc hok hfn hD hks hnd hhp hm hb hsame hkf =>
    have hco : ∀ x ∈ c.operands.toList, evT tm x = evT tm' x := by
      intro x hx
      exact hops x (by rw [hop]; exact hx)
    refine .rcall c F args _ h R (hg.imp id fun ⟨g, b, hg, hx⟩ => ⟨g, b, hg, by rw [← hA.guard hg]; exact hx⟩) hop (by rw [← calleeOf_congr hco]; exact hc) (by rw [← okP_congr _ hco]; exact hok) hfn hD hks hnd (fun i' x hx => ?_) hm (fun j hj => by rw [← hA.awin j hj]; exact hb j hj) hsame hkf
    have hlt : i' < rd.length := by
      have := (List.getElem?_eq_some_iff.1 hx).1
      omega
    rw [← hA.ahp _ (.inl (by rw [List.getD_eq_getElem?_getD, List.getElem?_eq_getElem hlt]; simp))]
    exact hhp i' x hx
  | gcall g b x c d hg hx hop hcf hc hm hb =>
    have hco : ∀ x ∈ c.operands.toList, evT tm x = evT tm' x := by
      intro x hx
      exact hops x (by rw [hop]; exact hx)
    refine .gcall g b x c d hg (by rw [← hA.guard hg]; exact hx) hop hcf (fun hxt => ?_) hm (fun j hj => by rw [← hA.awin j hj]; exact hb j hj)
    obtain ⟨F, args, h1, h2, h3⟩ := hc hxt
    exact ⟨F, args, by rw [← calleeOf_congr hco]; exact h1, by rw [← okP_congr _ hco]; exact h2, h3⟩
theorem Stp.uniq {i : Nat} {o : Oper} (hf : isFn o = false) {tm : Nat → Option D} {hp : Hp} {rd wr rd' wr' : List Nat} {T T' : Option D → List (Nat × Option (List C)) → Prop} (h : Stp P m nx all i o tm hp rd wr T)
    (h' : Stp P m nx all i o tm hp rd' wr' T') : rd = rd' ∧ wr = wr' ∧ T = T' ∧ ∃ d up, T = fun d' up' => d' = d ∧ up' = up := by
  have hno : ∀ {c : Call} {F : FuncId} {ds : List D}, o.op = .call c → calleeOf tm c = some (F, ds) → False := fun {c F ds} e hc => by
    unfold isFn at hf
    rw [e] at hf
    simp only at hf
    unfold calleeOf at hc
    split at hc
    · rename_i f hcal
      rw [hcal] at hf
      cases hf
    · cases hc
  have hno2 : ∀ {c : Call}, o.op = .call c → (∃ f, c.callee = .value f) → False := fun {c} e ⟨f, hcf⟩ => by
    unfold isFn at hf
    rw [e] at hf
    simp only [hcf] at hf
    cases hf
  cases h with
  | plain out hg h hvc =>
    cases h' with
    | plain out' hg' h' hvc' =>
      rw [h] at h'
      cases h'
      exact ⟨rfl, rfl, rfl, _, _, rfl⟩
    | gplain g b x out' hg' => rw [hg] at hg'; cases hg'
    | gnone g b _ hg' => rw [hg] at hg'; cases hg'
    | gon g b out' hg' => rw [hg] at hg'; cases hg'
    | goff g b hg' => rw [hg] at hg'; cases hg'
    | call c F args _ h R hg hop hc => exact (hno hop hc).elim
    | gcall g b x c d hg' => rw [hg] at hg'; cases hg'
    | rcall c F args _ h R hg hop hc => exact (hno hop hc).elim
  | gon g b out hg hm hx h hvc =>
    cases h' with
    | plain out' hg' => rw [hg] at hg'; cases hg'
    | gplain g' b' x' out' hg' hx' h' hup' hvc' => exact absurd hup' (mayUp_up hm h')
    | gnone g' b' _ hg' hx' h' => rw [h'.non] at h; cases h
    | gon g' b' out' hg' hm' hx' h' hvc' =>
      rw [h] at h'
      cases h'
      exact ⟨rfl, rfl, rfl, _, _, rfl⟩
    | goff g' b' hg' hm' hx' =>
      rw [hg] at hg'
      cases hg'
      rw [hx] at hx'
      cases hx'
    | call c F args _ h R hg' hop hc => exact (hno hop hc).elim
    | gcall g' b' x' c d hg' hx' hop hcf => exact (hno2 hop hcf).elim
    | rcall c F args _ h R hg' hop hc => exact (hno hop hc).elim
  | goff g b hg hm hx =>
    cases h' with
    | plain out' hg' => rw [hg] at hg'; cases hg'
    | gplain g' b' x' out' hg' hx' h' hup' hvc' => exact absurd hup' (mayUp_up hm h')
    | gnone g' b' _ hg' hx' h' =>
      obtain rfl := h'.up hm
      exact ⟨rfl, rfl, rfl, _, _, rfl⟩
    | gon g' b' out' hg' hm' hx' h' hvc' =>
      rw [hg] at hg'
      cases hg'
      rw [hx] at hx'
      cases hx'
    | goff g' b' hg' hm' hx' => exact ⟨rfl, rfl, rfl, _, _, rfl⟩
    | call c F args _ h R hg' hop hc => exact (hno hop hc).elim
    | gcall g' b' x' c d hg' hx' hop hcf => exact (hno2 hop hcf).elim
    | rcall c F args _ h R hg' hop hc => exact (hno hop hc).elim
  | gplain g b x out hg hx h hup hvc =>
    cases h' with
    | plain out' hg' => rw [hg] at hg'; cases hg'
    | gplain g' b' x' out' hg' hx' h' hup' hvc' =>
      rw [hg] at hg'
      cases hg'
      rw [hx] at hx'
      cases hx'
      rw [h] at h'
      cases h'
      exact ⟨rfl, rfl, rfl, _, _, rfl⟩
    | gnone g' b' _ hg' hx' h' => rw [h'.non] at h; cases h
    | gon g' b' out' hg' hm' hx' h' hvc' => exact absurd hup (mayUp_up hm' h)
    | goff g' b' hg' hm' hx' => exact absurd hup (mayUp_up hm' h)
    | call c F args _ h R hg' hop hc => exact (hno hop hc).elim
    | gcall g' b' x' c d hg' hx' hop hcf => exact (hno2 hop hcf).elim
    | rcall c F args _ h R hg' hop hc => exact (hno hop hc).elim
  | gnone g b _ hg hx h hnc =>
    cases h' with
    | plain out' hg' => rw [hg] at hg'; cases hg'
    | gplain g' b' x' out' hg' hx' h' => rw [h.non] at h'; cases h'
    | gnone g' b' _ hg' hx' h' =>
      obtain rfl := h.rds h'
      exact ⟨rfl, rfl, rfl, _, _, rfl⟩
    | gon g' b' out' hg' hm' hx' h' hvc' => rw [h.non] at h'; cases h'
    | goff g' b' hg' hm' hx' =>
      obtain rfl := h.up hm'
      exact ⟨rfl, rfl, rfl, _, _, rfl⟩
    | call c F args _ h R hg' hop hc => exact (hno hop hc).elim
    | gcall g' b' x' c d hg' hx' hop hcf => exact (hno2 hop hcf).elim
    | rcall c F args _ h R hg' hop hc => exact (hno hop hc).elim
  | call c F args _ h R hg hop hc => exact (hno hop hc).elim
  | rcall c F args _ h R hg hop hc => exact (hno hop hc).elim
  | gcall g b x c d hg hx hop hcf => exact (hno2 hop hcf).elim
theorem Stp.keys {i : Nat} {o : Oper} {tm : Nat → Option D} {hp : Hp} {rd wr : List Nat} {T : Option D → List (Nat × Option (List C)) → Prop} (h : Stp P m nx all i o tm hp rd wr T) {d : Option D} {up : List (Nat × Option (List C))} (ht : T d up) :
    ∀ p ∈ up, p.1 ∈ wr ∨ inWin nx i p.1 = true := by
  cases h with
  | plain out hg h hvc =>
    obtain ⟨rfl, rfl⟩ := ht
    exact fun p hp => .inl (List.mem_map.2 ⟨p, hp, rfl⟩)
  | gplain g b x out hg hx h hup hvc =>
    obtain ⟨_, rfl⟩ := ht
    exact fun p hp => by simp at hp
  | gon g b out hg hm hx h hvc =>
    obtain ⟨rfl, rfl⟩ := ht
    exact fun p hp => .inl (List.mem_map.2 ⟨p, hp, rfl⟩)
  | goff g b hg hm hx =>
    obtain ⟨_, rfl⟩ := ht
    exact fun p hp => by simp at hp
  | gnone g b _ hg hx h hnc =>
    obtain ⟨_, rfl⟩ := ht
    exact fun p hp => by simp at hp
  | rcall c F args _ h R hg hop hc hok hfn hD hks hnd hhp hm hb hsame hkf =>
    obtain ⟨_, _, _, rfl⟩ := ht
    exact fun p hp => by simp at hp
  | gcall g b x c d hg hx hop hcf hc hm hb =>
    obtain ⟨_, rfl⟩ := ht
    exact fun p hp => by simp at hp
  | call c F args _ h R hg hop hc hok hfn hD hks hnd hhp hm hb hlen =>
    obtain ⟨d', h', hR, _, _, rfl⟩ := ht
    have hl := hlen d' h' hR
    have key : ∀ (l : List (Option (List C))) (j : Nat), j + l.length ≤ h'.length → ∀ p ∈ upsFrom (rkey rd (wkey nx i)) j l, p.1 ∈ rd ∨ inWin nx i p.1 = true := by
      intro l
      induction l with
      | nil => intro j _ p hp; simp [upsFrom] at hp
      | cons x l ih =>
        intro j hj p hp
        simp only [List.length_cons] at hj
        simp only [upsFrom, List.mem_cons] at hp
        rcases hp with rfl | hp
        · simp only [rkey]
          by_cases hlt : j < rd.length
          · rw [if_pos hlt, List.getD_eq_getElem?_getD, List.getElem?_eq_getElem hlt]
            exact .inl (by simp)
          · rw [if_neg hlt]
            refine .inr ?_
            simp only [inWin, Bool.and_eq_true, decide_eq_true_eq]
            omega
        · exact ih (j + 1) (by omega) p hp
    exact key h' 0 (by omega)
theorem appUp_other : ∀ (up : List (Nat × Option (List C))) (hp : Hp) (k : Nat), (∀ p ∈ up, p.1 ≠ k) → appUp hp up k = hp k
  | [], _, _, _ => rfl
  | (j, x) :: r, hp, k, h => by
    simp only [appUp]
    rw [appUp_other r _ k fun p hp => h p (by simp [hp])]
    exact upd_ne _ _ (fun e => h (j, x) (by simp) e.symm)
theorem upd_comm {α : Type} (f : Nat → α) {a b : Nat} (h : a ≠ b) (x y : α) : upd (upd f a x) b y = upd (upd f b y) a x := by
  funext k
  simp only [upd]
  by_cases h1 : k = a
  · subst h1; simp [h]
  · by_cases h2 : k = b
    · subst h2; simp [h1]
    · simp [h1, h2]
theorem appUp_upd : ∀ (up : List (Nat × Option (List C))) (hp : Hp) (k : Nat) (x : Option (Option (List C))), (∀ p ∈ up, p.1 ≠ k) → appUp (upd hp k x) up = upd (appUp hp up) k x
  | [], _, _, _, _ => rfl
  | (j, y) :: r, hp, k, x, h => by
    simp only [appUp]
    rw [upd_comm hp (fun e => h (j, y) (by simp) e.symm)]
    exact appUp_upd r _ k x fun p hp => h p (by simp [hp])
theorem appUp_comm : ∀ (a b : List (Nat × Option (List C))) (hp : Hp), (∀ p ∈ a, ∀ q ∈ b, p.1 ≠ q.1) → appUp (appUp hp a) b = appUp (appUp hp b) a
  | [], _, _, _ => rfl
  | (j, x) :: r, b, hp, h => by
    simp only [appUp]
    rw [appUp_comm r b _ fun p hp q hq => h p (by simp [hp]) q hq]
    rw [appUp_upd b hp j (some x) fun q hq e => h (j, x) (by simp) q hq e.symm]
theorem setT_comm (tm : Nat → Option D) {x y : Option Tmp} (h : ∀ d, x = some d → y ≠ some d) (u v : Option D) : setT (setT tm x u) y v = setT (setT tm y v) x u := by
  cases x with
  | none => rfl
  | some a =>
    cases y with
    | none => rfl
    | some b => exact upd_comm tm (fun e => h a rfl (by rw [e])) u v
theorem setT_other (tm : Nat → Option D) {x : Option Tmp} {t : Tmp} (h : x ≠ some t) (u : Option D) : setT tm x u t = tm t := by
  cases x with
  | none => rfl
  | some a => exact upd_ne _ _ (fun e => h (by rw [e]))
theorem inWin_disj {i j k : Nat} (hij : i ≠ j) (h : inWin nx i k = true) : inWin nx j k = false := by
  simp only [inWin, wkey, Bool.and_eq_true, decide_eq_true_eq] at h
  simp only [inWin, wkey, Bool.and_eq_false_iff, decide_eq_false_iff_not]
  rcases Nat.lt_or_ge i j with h1 | h1 <;> omega
theorem indep_spec {i j : Nat} {rd wr rd' wr' : List Nat} (h : indep nx i j rd wr rd' wr' = true) :
    (∀ k ∈ wr, k ∉ rd' ∧ k ∉ wr') ∧ (∀ k ∈ wr', k ∉ rd) ∧ (∀ k, k ∈ rd ∨ k ∈ wr → inWin nx j k = false) ∧ (∀ k, k ∈ rd' ∨ k ∈ wr' → inWin nx i k = false) := by
  simp only [indep, Bool.and_eq_true, List.all_eq_true, List.mem_append, Bool.not_eq_true', List.contains_eq_mem, decide_eq_false_iff_not] at h
  obtain ⟨⟨⟨h1, h2⟩, h3⟩, h4⟩ := h
  exact ⟨h1, h2, h3, h4⟩
theorem indep_symm {i j : Nat} {rd wr rd' wr' : List Nat} (h : indep nx i j rd wr rd' wr' = true) : indep nx j i rd' wr' rd wr = true := by
  obtain ⟨h1, h2, h3, h4⟩ := indep_spec h
  simp only [indep, Bool.and_eq_true, List.all_eq_true, List.mem_append, Bool.not_eq_true', List.contains_eq_mem, decide_eq_false_iff_not]
  exact ⟨⟨⟨fun k hk => ⟨h2 k hk, fun hk' => (h1 k hk').2 hk⟩, fun k hk => (h1 k hk).1⟩, h4⟩, h3⟩
theorem agree_after {i j : Nat} {oi oj : Oper} (hij : i ≠ j) (hap : oi.apart all oj = true) {rd wr rd' wr' : List Nat} (hin : indep nx i j rd wr rd' wr' = true) {tm : Nat → Option D} {hp : Hp} {T : Option D → List (Nat × Option (List C)) → Prop}
    (hi : Stp P m nx all i oi tm hp rd wr T) {d : Option D} {up : List (Nat × Option (List C))} (ht : T d up) : Agree nx all j oj rd' wr' tm (setT tm oi.dst d) hp (appUp hp up) := by
  obtain ⟨h1, h2, h3, h4⟩ := indep_spec hin
  obtain ⟨a1, a2, a3⟩ := Oper.apart_spec hap
  have hk := hi.keys ht
  refine ⟨fun t htm => (setT_other tm (fun e => a1 t e htm) d).symm, fun k hk' => (appUp_other up hp k fun p hp e => ?_).symm, fun j' hj' => (appUp_other up hp _ fun p hp e => ?_).symm⟩
  · rcases hk p hp with h | h
    · rw [e] at h
      rcases hk' with hk' | hk'
      · exact (h1 k h).1 hk'
      · exact (h1 k h).2 hk'
    · rw [e, h4 k hk'] at h; cases h
  · have hw : inWin nx j (wkey nx j + j') = true := by simp only [inWin, Bool.and_eq_true, decide_eq_true_eq]; omega
    rcases hk p hp with h | h
    · rw [e] at h
      rw [h3 _ (.inr h)] at hw; cases hw
    · rw [e] at h
      rw [inWin_disj hij h] at hw; cases hw
theorem lgok_at {lg : Lg} {i j : Nat} {rd wr rd' wr' : List Nat} (h : lgok nx all lg i rd wr = true) (hj : j < all.size) (hne : j ≠ i) (hl : lg j = some (rd', wr')) (h1 : ord all i j = false) (h2 : ord all j i = false) : indep nx i j rd wr rd' wr' = true := by
  simp only [lgok, List.all_eq_true, List.mem_range] at h
  have := h j hj
  simpa [hl, hne, h1, h2] using this
theorem lgok_less {lg : Lg} {i j : Nat} {rd wr : List Nat} {p : Option (List Nat × List Nat)} (h : lgok nx all (upd lg j p) i rd wr = true) (hl : lg j = none) : lgok nx all lg i rd wr = true := by
  simp only [lgok, List.all_eq_true, List.mem_range] at h ⊢
  intro k hk
  have := h k hk
  by_cases e : k = j
  · subst e; simp [hl]
  · rwa [upd_ne _ _ e] at this
theorem lgok_more {lg : Lg} {i j : Nat} {rd wr rd' wr' : List Nat} (h : lgok nx all lg i rd wr = true) (hin : indep nx i j rd wr rd' wr' = true) : lgok nx all (upd lg j (some (rd', wr'))) i rd wr = true := by
  simp only [lgok, List.all_eq_true, List.mem_range] at h ⊢
  intro k hk
  by_cases e : k = j
  · subst e; simp [upd_same, hin]
  · rw [upd_ne _ _ e]; exact h k hk
theorem dop_swap {i j : Nat} {oi oj : Oper} (hi : i < all.size) (hj : j < all.size) (hij : i ≠ j) (hap : oi.apart all oj = true) (hfn : (isFn oi && isFn oj) = false) (h1 : ord all i j = false) (h2 : ord all j i = false) {K : Rs → Prop} {S : Rs} (hli : S.lg i = none) (hlj : S.lg j = none)
    (h : dop P m nx nt all true i oi (dop P m nx nt all true j oj K) S) : dop P m nx nt all true j oj (dop P m nx nt all true i oi K) S := by
  have hap' : oj.apart all oi = true := by
    obtain ⟨a1, a2, a3⟩ := Oper.apart_spec hap
    simp only [Oper.apart, Bool.and_eq_true]
    constructor
    · cases hd : oj.dst with
      | none => rfl
      | some d =>
        have := a3 d hd
        have h3 : oi.dst ≠ some d := fun e => a2 d e hd
        simp [this, h3]
    · cases hd : oi.dst with
      | none => rfl
      | some d => simp [a1 d hd]
  obtain ⟨rdi, wri, Ti, hSi, hfi, hdi, hKi⟩ := h
  obtain ⟨hlgi, d0, up0, ht0⟩ := hdi rfl
  obtain ⟨rdj, wrj, Tj, hSj, hfj, hdj, hKj⟩ := hKi d0 up0 ht0
  obtain ⟨hlgj, dj0, upj0, htj0⟩ := hdj rfl
  have hin : indep nx j i rdj wrj rdi wri = true := lgok_at hlgj hi hij (upd_same _ _ _) h2 h1
  have hin' := indep_symm hin
  have hSj0 : Stp P m nx all j oj S.tm S.hp rdj wrj Tj := hSj.agree (agree_after hij hap hin' hSi ht0).symm
  refine ⟨rdj, wrj, Tj, hSj0, hfj, fun _ => ⟨lgok_less hlgj hli, dj0, upj0, htj0⟩, fun dj upj htj => ?_⟩
  refine ⟨rdi, wri, Ti, hSi.agree (agree_after (Ne.symm hij) hap' hin hSj0 htj), hfi, fun _ => ⟨lgok_more hlgi hin', d0, up0, ht0⟩, fun di upi hti => ?_⟩
  -- the same state, by either order
  have hst : (⟨setT (setT S.tm oj.dst dj) oi.dst di, appUp (appUp S.hp upj) upi, upd (upd S.lg j (some (rdj, wrj))) i (some (rdi, wri))⟩ : Rs) =
      ⟨setT (setT S.tm oi.dst di) oj.dst dj, appUp (appUp S.hp upi) upj, upd (upd S.lg i (some (rdi, wri))) j (some (rdj, wrj))⟩ := by
    obtain ⟨a1, a2, a3⟩ := Oper.apart_spec hap'
    obtain ⟨k1, k2, k3, k4⟩ := indep_spec hin
    congr 1
    · exact setT_comm S.tm a2 dj di
    · refine appUp_comm upj upi S.hp fun p hp q hq e => ?_
      rcases hSj0.keys htj p hp with hp | hp <;> rcases hSi.keys hti q hq with hq | hq
      · exact (k1 _ hp).2 (e ▸ hq)
      · have := k3 _ (.inr hp)
        rw [e, hq] at this; cases this
      · have := k4 _ (.inr hq)
        rw [← e, hp] at this; cases this
      · have := inWin_disj (Ne.symm hij) hp
        rw [e, hq] at this; cases this
    · exact upd_comm S.lg (Ne.symm hij) _ _
  rw [hst]
  cases hfi' : isFn oi with
  | false =>
    -- the first one is no call: it leaves one state alone
    obtain ⟨_, _, _, da, upa, hTe⟩ := hSi.uniq hfi' hSi
    have e1 : di = d0 ∧ upi = up0 := by
      rw [hTe] at hti ht0
      exact ⟨hti.1.trans ht0.1.symm, hti.2.trans ht0.2.symm⟩
    rw [e1.1, e1.2]
    exact hKj dj upj htj
  | true =>
    have hfj' : isFn oj = false := by simpa [hfi'] using hfn
    obtain ⟨rdj', wrj', Tj', hSj', _, hdj', hKj'⟩ := hKi di upi hti
    obtain ⟨hlgj', _⟩ := hdj' rfl
    have hinb : indep nx j i rdj' wrj' rdi wri = true := lgok_at hlgj' hi hij (upd_same _ _ _) h2 h1
    have hSjb : Stp P m nx all j oj S.tm S.hp rdj' wrj' Tj' := hSj'.agree (agree_after hij hap (indep_symm hinb) hSi hti).symm
    obtain ⟨e1, e2, e3, _⟩ := Stp.uniq hfj' hSj0 hSjb
    have := hKj' dj upj (e3 ▸ htj)
    rw [← e1, ← e2] at this
    exact this
end
end Go.CT
namespace Go.CT
theorem fold_bits (acc : Array Nat) (j : Nat) : ∀ (l : List Edge) (s : Nat), (l.foldl (fun s e => if Region.binds .any e then s ||| 2 ^ e.on ||| acc.getD e.on 0 else s) s).testBit j = true →
    s.testBit j = true ∨ ∃ e ∈ l, Region.binds .any e = true ∧ (e.on = j ∨ (acc.getD e.on 0).testBit j = true)
  | [], s, h => .inl h
  | e :: r, s, h => by
    simp only [List.foldl_cons] at h
    rcases fold_bits acc j r _ h with h1 | ⟨e', he', hb, h2⟩
    · by_cases hb : Region.binds .any e = true
      · rw [if_pos hb] at h1
        simp only [Nat.testBit_or, Bool.or_eq_true] at h1
        rcases h1 with (h1 | h1) | h1
        · exact .inl h1
        · rw [Nat.testBit_two_pow] at h1
          exact .inr ⟨e, by simp, hb, .inl (of_decide_eq_true h1)⟩
        · exact .inr ⟨e, by simp, hb, .inr h1⟩
      · rw [if_neg hb] at h1
        exact .inl h1
    · exact .inr ⟨e', by simp [he'], hb, h2⟩
theorem before_aux (j : Nat) : ∀ (l : List Oper) (acc : Array Nat), ∃ R : Array Nat,
    l.foldl (fun acc o => acc.push (o.after.foldl (fun s e => if Region.binds .any e then s ||| 2 ^ e.on ||| acc.getD e.on 0 else s) 0)) acc = R ∧ (∀ k, k < acc.size → R[k]? = acc[k]?) ∧
      ∀ k o, l[k]? = some o → (R.getD (acc.size + k) 0).testBit j = true → ∃ e ∈ o.after, Region.binds .any e = true ∧ (e.on = j ∨ (R.getD e.on 0).testBit j = true)
  | [], acc => ⟨acc, rfl, fun _ _ => rfl, fun k o h => by simp at h⟩
  | o :: r, acc => by
    obtain ⟨R, hR, h1, h2⟩ := before_aux j r (acc.push (o.after.foldl (fun s e => if Region.binds .any e then s ||| 2 ^ e.on ||| acc.getD e.on 0 else s) 0))
    refine ⟨R, hR, fun k hk => ?_, fun k o' hk hb => ?_⟩
    · rw [h1 k (by simp; omega), Array.getElem?_push, if_neg (by omega)]
    · cases k with
      | succ k => exact h2 k o' (by simpa using hk) (by rw [Array.size_push, show acc.size + 1 + k = acc.size + (k + 1) from by omega]; exact hb)
      | zero =>
        simp only [List.getElem?_cons_zero, Option.some.injEq] at hk
        subst hk
        have e1 : R.getD (acc.size + 0) 0 = o.after.foldl (fun s e => if Region.binds .any e then s ||| 2 ^ e.on ||| acc.getD e.on 0 else s) 0 := by
          rw [Array.getD_eq_getD_getElem?, h1 _ (by simp)]
          simp
        rw [e1, ← Array.foldl_toList] at hb
        rcases fold_bits acc j o.after.toList 0 hb with h3 | ⟨e, he, hbe, h3⟩
        · simp at h3
        · refine ⟨e, by simpa using he, hbe, h3.imp id fun h4 => ?_⟩
          have hlt : e.on < acc.size := by
            rcases Nat.lt_or_ge e.on acc.size with h5 | h5
            · exact h5
            · simp [Array.getD_eq_getD_getElem?, Array.getElem?_eq_none h5] at h4
          have : R.getD e.on 0 = acc.getD e.on 0 := by
            rw [Array.getD_eq_getD_getElem?, Array.getD_eq_getD_getElem?, h1 _ (by simp; omega), Array.getElem?_push, if_neg (by omega)]
          rw [this]; exact h4
theorem ord_edge {all : Array Oper} {i j : Nat} {o : Oper} (ho : all[i]? = some o) (h : ord all j i = true) : ∃ e ∈ o.after, Region.binds .any e = true ∧ (e.on = j ∨ ord all j e.on = true) := by
  obtain ⟨R, hR, _, h2⟩ := before_aux j all.toList #[]
  have e1 : Region.before all = R := by
    rw [← hR]
    simp only [Region.before]
    rw [← Array.foldl_toList]
  simp only [ord, e1] at h ⊢
  have := h2 i o (by simpa using ho) (by simpa using h)
  exact this
section
variable {P : Program} {m nx nt : Nat} {all : Array Oper}
theorem dop_mono2 {dr : Bool} {i : Nat} {o : Oper} {K K' : Rs → Prop} {S : Rs} (h : ∀ S' p, S'.lg = upd S.lg i (some p) → K S' → K' S') (hd : dop P m nx nt all dr i o K S) : dop P m nx nt all dr i o K' S :=
  let ⟨rd, wr, T, h1, h2, h3, h4⟩ := hd
  ⟨rd, wr, T, h1, h2, h3, fun d up ht => h _ _ rfl (h4 d up ht)⟩
theorem drawOK_pair (h : drawOK all = true) {i j : Nat} (hij : j < i) {x y : Oper} (hx : all[i]? = some x) (hy : all[j]? = some y) (ho : ord all j i = false) : ord all i j = false ∧ x.apart all y = true ∧ (isFn x && isFn y) = false := by
  simp only [drawOK, Bool.and_eq_true, List.all_eq_true, List.mem_range] at h
  have hi := (Array.getElem?_eq_some_iff.1 hx).1
  have hj := (Array.getElem?_eq_some_iff.1 hy).1
  have := h.2 i hi j hj
  have h3 : ord all i j = false ∧ x.apart all y = true ∧ (isFn x = false ∨ isFn y = false) := by
    simpa [hx, hy, ho, show ¬ i ≤ j from by omega] using this
  exact ⟨h3.1, h3.2.1, by rcases h3.2.2 with h | h <;> simp [h]⟩
theorem drawOK_edge (h : drawOK all = true) {i : Nat} {x : Oper} (hx : all[i]? = some x) {e : Edge} (he : e ∈ x.after) (hb : Region.binds .any e = true) : e.on < i := by
  simp only [drawOK, Bool.and_eq_true, List.all_eq_true, List.mem_range] at h
  have hi := (Array.getElem?_eq_some_iff.1 hx).1
  have := h.1.2 i hi
  simp only [hx, Array.all_eq_true_iff_forall_mem, Bool.or_eq_true, Bool.not_eq_true', decide_eq_true_eq] at this
  rcases this e he with h1 | h1
  · rw [hb] at h1; cases h1
  · exact h1
theorem apart_symm {x y : Oper} (h : x.apart all y = true) : y.apart all x = true := by
  obtain ⟨a1, a2, a3⟩ := Oper.apart_spec h
  simp only [Oper.apart, Bool.and_eq_true]
  constructor
  · cases hd : y.dst with
    | none => rfl
    | some d =>
      have := a3 d hd
      have h3 : x.dst ≠ some d := fun e => a2 d e hd
      simp [this, h3]
  · cases hd : x.dst with
    | none => rfl
    | some d => simp [a1 d hd]
theorem dops_front (hD : drawOK all = true) {i : Nat} {o : Oper} (ho : all[i]? = some o) {K : Rs → Prop} : ∀ (pre post : List Nat) {S : Rs}, (∀ j ∈ pre, j < i) → (∀ j ∈ pre, ord all j i = false) → S.lg i = none → (∀ j ∈ pre, S.lg j = none) → pre.Nodup →
    dops P m nx nt all true K (pre ++ i :: post) S → dop P m nx nt all true i o (dops P m nx nt all true K (pre ++ post)) S
  | [], post, S, _, _, _, _, _, h => by simpa only [List.nil_append, dops, ho] using h
  | j :: pre, post, S, hlt, hno, hli, hlj, hnd, h => by
    simp only [List.cons_append, dops] at h
    cases hj : all[j]? with
    | none => simp only [hj] at h
    | some oj =>
      simp only [hj] at h
      have hji := hlt j (by simp)
      obtain ⟨h1, h2, h3⟩ := drawOK_pair hD hji ho hj (hno j (by simp))
      have hnd' := List.nodup_cons.1 hnd
      have h4 : dop P m nx nt all true j oj (dop P m nx nt all true i o (dops P m nx nt all true K (pre ++ post))) S := by
        refine dop_mono2 (fun S' p hl hK => ?_) h
        refine dops_front hD ho pre post (fun k hk => hlt k (by simp [hk])) (fun k hk => hno k (by simp [hk])) ?_ (fun k hk => ?_) hnd'.2 hK
        · rw [hl, upd_ne _ _ (by omega)]; exact hli
        · rw [hl, upd_ne _ _ (fun e : k = j => hnd'.1 (by rw [← e]; exact hk))]; exact hlj k (by simp [hk])
      have hi' := (Array.getElem?_eq_some_iff.1 ho).1
      have hj' := (Array.getElem?_eq_some_iff.1 hj).1
      have h5 := dop_swap hj' hi' (by omega) (apart_symm h2) (by rw [Bool.and_comm]; exact h3) (hno j (by simp)) h1 (hlj j (by simp)) hli h4
      refine dop_mono (fun S' hS => ?_) h5
      simp only [List.cons_append, dops, hj]
      exact hS
theorem draws_run (hD : drawOK all = true) {K : Rs → Prop} {Q : Exit → Act → World → Prop} : ∀ (n : Nat) (T : List Nat) (listed : Array Bool) {I : Nat → Prop} {w : World} {s : Sg} {a : Act} {S : Rs}, T.length = n → T.Pairwise (· < ·) → (∀ i ∈ T, i < all.size) → listed.size = all.size →
    (∀ i, i < all.size → (listed.getD i true = false ↔ i ∈ T)) → (∀ i j, i < all.size → listed.getD i true = true → ord all j i = true → listed.getD j true = true) → (∀ i ∈ T, S.lg i = none) → Rc I w s a S.tm S.hp nt → dops P m nx nt all true K T S →
    (∀ a' w' I' s' S', K S' → Rc I' w' s' a' S'.tm S'.hp nt → Ext m I w s S.hp I' w' s' S'.hp → Q .normal a' w') → wpAny P .any all Q n listed a w := by
  intro n
  induction n with
  | zero =>
    intro T listed I w s a S hT hP hlt hsz hl hdc hlg hR h hQ
    have : T = [] := List.eq_nil_of_length_eq_zero hT
    subst this
    refine ⟨List.eq_nil_iff_forall_not_mem.2 fun i hi => ?_, hQ a w I s S h hR (Ext.refl _ _ _ _ _)⟩
    obtain ⟨h0, o, ho, _⟩ := mem_ready.1 hi
    have := (hl i (Array.getElem?_eq_some_iff.1 ho).1).1 h0
    simp at this
  | succ n ih =>
    intro T listed I w s a S hT hP hlt hsz hl hdc hlg hR h hQ
    refine ⟨fun hr => ?_, fun i hi => ?_⟩
    · -- something can always be done
      exfalso
      cases hT' : T with
      | nil => rw [hT'] at hT; simp at hT
      | cons i r =>
        have hiT : i ∈ T := by rw [hT']; simp
        have hi := hlt i hiT
        have hmem : i ∈ Region.ready .any all listed := by
          refine mem_ready.2 ⟨(hl i hi).2 hiT, all[i], by simp [hi], fun e he hb => ?_⟩
          have hlt' := drawOK_edge hD (Array.getElem?_eq_getElem hi) he hb
          cases hb' : listed.getD e.on true with
          | true =>
            have hs : e.on < listed.size := by omega
            simpa [Array.getD_eq_getD_getElem?, hs] using hb'
          | false =>
            have hm := (hl e.on (by omega)).1 hb'
            rw [hT'] at hm hP
            rcases List.mem_cons.1 hm with h1 | h1
            · omega
            · have := (List.pairwise_cons.1 hP).1 _ h1
              omega
        rw [hr] at hmem
        simp at hmem
    · obtain ⟨h0, o, ho, hall⟩ := mem_ready.1 hi
      have hilt := (Array.getElem?_eq_some_iff.1 ho).1
      have hiT := (hl i hilt).1 h0
      obtain ⟨pre, post, rfl⟩ := List.append_of_mem hiT
      have hlisted : ∀ k, listed.getD k false = true → k < all.size ∧ listed.getD k true = true := fun k hk => by
        have : k < listed.size := by
          rcases Nat.lt_or_ge k listed.size with h' | h'
          · exact h'
          · simp [Array.getD_eq_getD_getElem?, Array.getElem?_eq_none h'] at hk
        refine ⟨by omega, ?_⟩
        simpa [Array.getD_eq_getD_getElem?, this] using hk
      have hnoord : ∀ j, j ∈ pre ++ i :: post → ord all j i = false := fun j hj => by
        cases hb : ord all j i with
        | false => rfl
        | true =>
          exfalso
          obtain ⟨e, he, hbe, hor⟩ := ord_edge ho hb
          obtain ⟨h1, h2⟩ := hlisted e.on (hall e he hbe)
          have hjl : listed.getD j true = true := by
            rcases hor with rfl | hor
            · exact h2
            · exact hdc e.on j h1 h2 hor
          have := (hl j (hlt j hj)).2 hj
          rw [hjl] at this; cases this
      have hpre : ∀ j ∈ pre, j < i := fun j hj => (List.pairwise_append.1 hP).2.2 j hj i (by simp)
      have hP2 : (pre ++ post).Pairwise (· < ·) := by
        refine hP.sublist ?_
        exact List.Sublist.append (List.Sublist.refl _) (List.sublist_cons_self _ _)
      have hndp : pre.Nodup := ((List.pairwise_append.1 hP).1).imp (fun h => by omega)
      have hinot : i ∉ pre ++ post := fun hm => by
        rcases List.mem_append.1 hm with hm | hm
        · have := hpre i hm; omega
        · have := (List.pairwise_cons.1 (List.pairwise_append.1 hP).2.1).1 i hm; omega
      have hfr := dops_front hD ho pre post hpre (fun j hj => hnoord j (by simp [hj])) (hlg i (by simp)) (fun j hj => hlg j (by simp [hj])) hndp h
      refine dop_run ho hR hfr fun a' w' I' s' S' hK hlg' hR' hE => ?_
      obtain ⟨p, hp⟩ := hlg'
      have hget : ∀ k d, k < all.size → (listed.setIfInBounds i true).getD k d = if k = i then true else listed.getD k d := fun k d hk => by
        by_cases e : k = i
        · subst e
          simp [Array.getD_eq_getD_getElem?, hsz, hk]
        · rw [if_neg e]
          exact getD_set_ne d (fun e' => e e'.symm)
      refine ih (pre ++ post) (listed.setIfInBounds i true) (by simp at hT ⊢; omega) hP2 (fun k hk => hlt k (by rcases List.mem_append.1 hk with h | h <;> simp [h])) (by simpa using hsz) (fun k hk => ?_) (fun k j hk hkl hkj => ?_) (fun k hk => ?_) hR' hK
        (fun a'' w'' I'' s'' S'' hK' hR'' hE' => hQ a'' w'' I'' s'' S'' hK' hR'' (hE.trans hE'))
      · rw [hget k true hk]
        by_cases e : k = i
        · subst e
          simp only [if_true]
          exact ⟨fun h => (by cases h), fun h => absurd h hinot⟩
        · rw [if_neg e, hl k hk]
          simp only [List.mem_append, List.mem_cons]
          constructor
          · rintro (h | h | h)
            · exact .inl h
            · exact absurd h e
            · exact .inr h
          · rintro (h | h)
            · exact .inl h
            · exact .inr (.inr h)
      · rw [hget k true hk] at hkl
        by_cases hjs : j < all.size
        · rw [hget j true hjs]
          by_cases ej : j = i
          · rw [if_pos ej]
          · rw [if_neg ej]
            by_cases e : k = i
            · subst e
              cases hb : listed.getD j true with
              | true => rfl
              | false =>
                have := hnoord j ((hl j hjs).1 hb)
                rw [hkj] at this; cases this
            · rw [if_neg e] at hkl
              exact hdc k j hk hkl hkj
        · rw [Array.getD_eq_getD_getElem?, Array.getElem?_eq_none (by simp [hsz]; omega)]; rfl
      · rw [hp, upd_ne _ _ (fun e : k = i => hinot (by rw [← e]; exact hk))]
        exact hlg k (by rcases List.mem_append.1 hk with h | h <;> simp [h])
end
end Go.CT
