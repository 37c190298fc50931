/- Regions whose order is drawn: the order of the text serves every order. -/
import Derived.Test.YtknihhjejbljgaaCtP
set_option linter.unusedVariables false
set_option linter.unusedSimpArgs false
namespace Go.CT

section
variable {P : Program} {m nx nt : Nat} {all : Array Oper}

theorem argsOf_congr {tm tm' : Nat → Option D} : ∀ (l : List Operand), (∀ x ∈ l, evT tm x = evT tm' x) → argsOf tm l = argsOf tm' l
  | [], _ => rfl
  | x :: r, h => by simp only [argsOf, evP_congr (h x (by simp)), argsOf_congr r fun y hy => h y (by simp [hy])]

theorem calleeOf_congr {tm tm' : Nat → Option D} {c : Call} (h : ∀ x ∈ c.operands.toList, evT tm x = evT tm' x) : calleeOf tm c = calleeOf tm' c := by
  obtain ⟨callee, args, at'⟩ := c
  cases callee with
  | value f =>
    simp only [Call.operands, Array.toList_append, List.mem_append] at h
    simp only [calleeOf, evP_congr (h f (by simp)), argsOf_congr args.toList fun x hx => h x (.inr hx)]
  | _ => rfl

theorem guardB_congr {tm tm' : Nat → Option D} {g : Nat} {b : Bool} (h : ∀ t, (all[g]?).bind (·.dst) = some t → tm t = tm' t) : guardB all tm g b = guardB all tm' g b := by
  unfold guardB
  cases ht : (all[g]?).bind (·.dst) with
  | none => rfl
  | some t => simp only [h t ht]

/-- What an operation looks at, at all. -/
structure Agree (nx : Nat) (all : Array Oper) (i : Nat) (o : Oper) (rd wr : List Nat) (tm tm' : Nat → Option D) (hp hp' : Hp) : Prop where
  atm : ∀ t ∈ o.looksAt all, tm t = tm' t
  ahp : ∀ k, k ∈ rd ∨ k ∈ wr → hp k = hp' k
  awin : ∀ j, j < 64 → hp (wkey nx i + j) = hp' (wkey nx i + j)

theorem Agree.ops {i : Nat} {o : Oper} {rd wr : List Nat} {tm tm' : Nat → Option D} {hp hp' : Hp} (h : Agree nx all i o rd wr tm tm' hp hp') : ∀ x ∈ o.op.operands.toList, evT tm x = evT tm' x := fun x hx => by
  cases x with
  | tmp t => exact h.atm t (List.mem_append_left _ (List.mem_filterMap.2 ⟨.tmp t, hx, rfl⟩))
  | _ => rfl

theorem Agree.guard {i : Nat} {o : Oper} {rd wr : List Nat} {tm tm' : Nat → Option D} {hp hp' : Hp} (h : Agree nx all i o rd wr tm tm' hp hp') {g : Nat} {b : Bool} (hg : o.guard = some (g, b)) : guardB all tm g b = guardB all tm' g b :=
  guardB_congr fun t ht => h.atm t (List.mem_append_right _ (by simp [hg, ht]))

theorem Agree.symm {i : Nat} {o : Oper} {rd wr : List Nat} {tm tm' : Nat → Option D} {hp hp' : Hp} (h : Agree nx all i o rd wr tm tm' hp hp') : Agree nx all i o rd wr tm' tm hp' hp :=
  ⟨fun t ht => (h.atm t ht).symm, fun k hk => (h.ahp k hk).symm, fun j hj => (h.awin j hj).symm⟩

theorem Stp.agree {i : Nat} {o : Oper} {tm tm' : Nat → Option D} {hp hp' : Hp} {rd wr : List Nat} {T : Option D → List (Nat × Option (List C)) → Prop} (h : Stp P m nx all i o tm hp rd wr T)
    (hA : Agree nx all i o rd wr tm tm' hp hp') : Stp P m nx all i o tm' hp' rd wr T := by
  have hops := hA.ops
  have hkey : hp (wkey nx i) = hp' (wkey nx i) := by simpa using hA.awin 0 (by omega)
  cases h with
  | plain out hg h hvc => exact .plain out hg (stp_agree h hops fun k hk => by
      rcases hk with h1 | h1 | h1
      · exact hA.ahp k (.inl h1)
      · exact hA.ahp k (.inr h1)
      · rw [h1]; exact hkey) hvc
  | gplain g b x out hg hx h hup hvc =>
    exact .gplain g b x out hg (by rw [← hA.guard hg]; exact hx) (stp_agree h hops fun k hk => by
      rcases hk with h1 | h1 | h1
      · exact hA.ahp k (.inl h1)
      · rw [hup] at h1; simp at h1
      · rw [h1]; exact hkey) hup hvc
  | gnone g b hg hx h hnc =>
    refine .gnone g b hg (by rw [← hA.guard hg]; exact hx) (fun hp0 => ?_) hnc
    cases h' : stp P m (wkey nx i) tm' hp0 o.op with
    | none => rfl
    | some out' =>
      have := stp_agree h' (fun x hx => (hops x hx).symm) (hp' := hp0) (fun k _ => rfl)
      rw [h hp0] at this
      cases this
  | call c F args _ h R hg hop hc hok hfn hD hks hnd hhp hm hb hlen =>
    have hco : ∀ x ∈ c.operands.toList, evT tm x = evT tm' x := by
      intro x hx
      exact hops x (by rw [hop]; exact hx)
    refine .call c F args _ h R hg hop (by rw [← calleeOf_congr hco]; exact hc) (by rw [← okP_congr _ hco]; exact hok) hfn hD hks hnd (fun i' x hx => ?_) hm (fun j hj => by rw [← hA.awin j hj]; exact hb j hj) hlen
    have hlt : i' < rd.length := by
      have := (List.getElem?_eq_some_iff.1 hx).1
      omega
    rw [← hA.ahp _ (.inl (by rw [List.getD_eq_getElem?_getD, List.getElem?_eq_getElem hlt]; simp))]
    exact hhp i' x hx
  | gcall g b x c d hg hx hop hcf hc hm hb =>
    have hco : ∀ x ∈ c.operands.toList, evT tm x = evT tm' x := by
      intro x hx
      exact hops x (by rw [hop]; exact hx)
    refine .gcall g b x c d hg (by rw [← hA.guard hg]; exact hx) hop hcf (fun hxt => ?_) hm (fun j hj => by rw [← hA.awin j hj]; exact hb j hj)
    obtain ⟨F, args, h1, h2, h3⟩ := hc hxt
    exact ⟨F, args, by rw [← calleeOf_congr hco]; exact h1, by rw [← okP_congr _ hco]; exact h2, h3⟩

/-- An operation that is no call of a function: there is one way to take it. -/
theorem Stp.uniq {i : Nat} {o : Oper} (hf : isFn o = false) {tm : Nat → Option D} {hp : Hp} {rd wr rd' wr' : List Nat} {T T' : Option D → List (Nat × Option (List C)) → Prop} (h : Stp P m nx all i o tm hp rd wr T)
    (h' : Stp P m nx all i o tm hp rd' wr' T') : rd = rd' ∧ wr = wr' ∧ T = T' ∧ ∃ d up, T = fun d' up' => d' = d ∧ up' = up := by
  have hno : ∀ {c : Call} {F : FuncId} {ds : List D}, o.op = .call c → calleeOf tm c = some (F, ds) → False := fun {c F ds} e hc => by
    unfold isFn at hf
    rw [e] at hf
    simp only at hf
    unfold calleeOf at hc
    split at hc
    · rename_i f hcal
      rw [hcal] at hf
      cases hf
    · cases hc
  have hno2 : ∀ {c : Call}, o.op = .call c → (∃ f, c.callee = .value f) → False := fun {c} e ⟨f, hcf⟩ => by
    unfold isFn at hf
    rw [e] at hf
    simp only [hcf] at hf
    cases hf
  cases h with
  | plain out hg h hvc =>
    cases h' with
    | plain out' hg' h' hvc' =>
      rw [h] at h'
      cases h'
      exact ⟨rfl, rfl, rfl, _, _, rfl⟩
    | gplain g b x out' hg' => rw [hg] at hg'; cases hg'
    | gnone g b hg' => rw [hg] at hg'; cases hg'
    | call c F args _ h R hg hop hc => exact (hno hop hc).elim
    | gcall g b x c d hg' => rw [hg] at hg'; cases hg'
  | gplain g b x out hg hx h hup hvc =>
    cases h' with
    | plain out' hg' => rw [hg] at hg'; cases hg'
    | gplain g' b' x' out' hg' hx' h' hup' hvc' =>
      rw [hg] at hg'
      cases hg'
      rw [hx] at hx'
      cases hx'
      rw [h] at h'
      cases h'
      exact ⟨rfl, rfl, rfl, _, _, rfl⟩
    | gnone g' b' hg' hx' h' => rw [h' hp] at h; cases h
    | call c F args _ h R hg' => rw [hg] at hg'; cases hg'
    | gcall g' b' x' c d hg' hx' hop hcf => exact (hno2 hop hcf).elim
  | gnone g b hg hx h hnc =>
    cases h' with
    | plain out' hg' => rw [hg] at hg'; cases hg'
    | gplain g' b' x' out' hg' hx' h' => rw [h hp] at h'; cases h'
    | gnone => exact ⟨rfl, rfl, rfl, _, _, rfl⟩
    | call c F args _ h R hg' => rw [hg] at hg'; cases hg'
    | gcall g' b' x' c d hg' hx' hop hcf => exact (hno2 hop hcf).elim
  | call c F args _ h R hg hop hc => exact (hno hop hc).elim
  | gcall g b x c d hg hx hop hcf => exact (hno2 hop hcf).elim

/-- The keys that an operation changes. -/
theorem Stp.keys {i : Nat} {o : Oper} {tm : Nat → Option D} {hp : Hp} {rd wr : List Nat} {T : Option D → List (Nat × Option (List C)) → Prop} (h : Stp P m nx all i o tm hp rd wr T) {d : Option D} {up : List (Nat × Option (List C))} (ht : T d up) :
    ∀ p ∈ up, p.1 ∈ wr ∨ inWin nx i p.1 = true := by
  cases h with
  | plain out hg h hvc =>
    obtain ⟨rfl, rfl⟩ := ht
    exact fun p hp => .inl (List.mem_map.2 ⟨p, hp, rfl⟩)
  | gplain g b x out hg hx h hup hvc =>
    obtain ⟨_, rfl⟩ := ht
    exact fun p hp => by simp at hp
  | gnone g b hg hx h hnc =>
    obtain ⟨_, rfl⟩ := ht
    exact fun p hp => by simp at hp
  | gcall g b x c d hg hx hop hcf hc hm hb =>
    obtain ⟨_, rfl⟩ := ht
    exact fun p hp => by simp at hp
  | call c F args _ h R hg hop hc hok hfn hD hks hnd hhp hm hb hlen =>
    obtain ⟨d', h', hR, _, _, rfl⟩ := ht
    have hl := hlen d' h' hR
    have key : ∀ (l : List (Option (List C))) (j : Nat), j + l.length ≤ h'.length → ∀ p ∈ upsFrom (rkey rd (wkey nx i)) j l, p.1 ∈ rd ∨ inWin nx i p.1 = true := by
      intro l
      induction l with
      | nil => intro j _ p hp; simp [upsFrom] at hp
      | cons x l ih =>
        intro j hj p hp
        simp only [List.length_cons] at hj
        simp only [upsFrom, List.mem_cons] at hp
        rcases hp with rfl | hp
        · simp only [rkey]
          by_cases hlt : j < rd.length
          · rw [if_pos hlt, List.getD_eq_getElem?_getD, List.getElem?_eq_getElem hlt]
            exact .inl (by simp)
          · rw [if_neg hlt]
            refine .inr ?_
            simp only [inWin, Bool.and_eq_true, decide_eq_true_eq]
            omega
        · exact ih (j + 1) (by omega) p hp
    exact key h' 0 (by omega)

theorem appUp_other : ∀ (up : List (Nat × Option (List C))) (hp : Hp) (k : Nat), (∀ p ∈ up, p.1 ≠ k) → appUp hp up k = hp k
  | [], _, _, _ => rfl
  | (j, x) :: r, hp, k, h => by
    simp only [appUp]
    rw [appUp_other r _ k fun p hp => h p (by simp [hp])]
    exact upd_ne _ _ (fun e => h (j, x) (by simp) e.symm)

theorem upd_comm {α : Type} (f : Nat → α) {a b : Nat} (h : a ≠ b) (x y : α) : upd (upd f a x) b y = upd (upd f b y) a x := by
  funext k
  simp only [upd]
  by_cases h1 : k = a
  · subst h1; simp [h]
  · by_cases h2 : k = b
    · subst h2; simp [h1]
    · simp [h1, h2]

theorem appUp_upd : ∀ (up : List (Nat × Option (List C))) (hp : Hp) (k : Nat) (x : Option (Option (List C))), (∀ p ∈ up, p.1 ≠ k) → appUp (upd hp k x) up = upd (appUp hp up) k x
  | [], _, _, _, _ => rfl
  | (j, y) :: r, hp, k, x, h => by
    simp only [appUp]
    rw [upd_comm hp (fun e => h (j, y) (by simp) e.symm)]
    exact appUp_upd r _ k x fun p hp => h p (by simp [hp])

theorem appUp_comm : ∀ (a b : List (Nat × Option (List C))) (hp : Hp), (∀ p ∈ a, ∀ q ∈ b, p.1 ≠ q.1) → appUp (appUp hp a) b = appUp (appUp hp b) a
  | [], _, _, _ => rfl
  | (j, x) :: r, b, hp, h => by
    simp only [appUp]
    rw [appUp_comm r b _ fun p hp q hq => h p (by simp [hp]) q hq]
    rw [appUp_upd b hp j (some x) fun q hq e => h (j, x) (by simp) q hq e.symm]

theorem setT_comm (tm : Nat → Option D) {x y : Option Tmp} (h : ∀ d, x = some d → y ≠ some d) (u v : Option D) : setT (setT tm x u) y v = setT (setT tm y v) x u := by
  cases x with
  | none => rfl
  | some a =>
    cases y with
    | none => rfl
    | some b => exact upd_comm tm (fun e => h a rfl (by rw [e])) u v

theorem setT_other (tm : Nat → Option D) {x : Option Tmp} {t : Tmp} (h : x ≠ some t) (u : Option D) : setT tm x u t = tm t := by
  cases x with
  | none => rfl
  | some a => exact upd_ne _ _ (fun e => h (by rw [e]))

theorem inWin_disj {i j k : Nat} (hij : i ≠ j) (h : inWin nx i k = true) : inWin nx j k = false := by
  simp only [inWin, wkey, Bool.and_eq_true, decide_eq_true_eq] at h
  simp only [inWin, wkey, Bool.and_eq_false_iff, decide_eq_false_iff_not]
  rcases Nat.lt_or_ge i j with h1 | h1 <;> omega

/-- What 'indep' says. -/
theorem indep_spec {i j : Nat} {rd wr rd' wr' : List Nat} (h : indep nx i j rd wr rd' wr' = true) :
    (∀ k ∈ wr, k ∉ rd' ∧ k ∉ wr') ∧ (∀ k ∈ wr', k ∉ rd) ∧ (∀ k, k ∈ rd ∨ k ∈ wr → inWin nx j k = false) ∧ (∀ k, k ∈ rd' ∨ k ∈ wr' → inWin nx i k = false) := by
  simp only [indep, Bool.and_eq_true, List.all_eq_true, List.mem_append, Bool.not_eq_true', List.contains_eq_mem, decide_eq_false_iff_not] at h
  obtain ⟨⟨⟨h1, h2⟩, h3⟩, h4⟩ := h
  exact ⟨h1, h2, h3, h4⟩

theorem indep_symm {i j : Nat} {rd wr rd' wr' : List Nat} (h : indep nx i j rd wr rd' wr' = true) : indep nx j i rd' wr' rd wr = true := by
  obtain ⟨h1, h2, h3, h4⟩ := indep_spec h
  simp only [indep, Bool.and_eq_true, List.all_eq_true, List.mem_append, Bool.not_eq_true', List.contains_eq_mem, decide_eq_false_iff_not]
  exact ⟨⟨⟨fun k hk => ⟨h2 k hk, fun hk' => (h1 k hk').2 hk⟩, fun k hk => (h1 k hk).1⟩, h4⟩, h3⟩

/-- An operation that is apart from another one, behind it, is what it was before it. -/
theorem agree_after {i j : Nat} {oi oj : Oper} (hij : i ≠ j) (hap : oi.apart all oj = true) {rd wr rd' wr' : List Nat} (hin : indep nx i j rd wr rd' wr' = true) {tm : Nat → Option D} {hp : Hp} {T : Option D → List (Nat × Option (List C)) → Prop}
    (hi : Stp P m nx all i oi tm hp rd wr T) {d : Option D} {up : List (Nat × Option (List C))} (ht : T d up) : Agree nx all j oj rd' wr' tm (setT tm oi.dst d) hp (appUp hp up) := by
  obtain ⟨h1, h2, h3, h4⟩ := indep_spec hin
  obtain ⟨a1, a2, a3⟩ := Oper.apart_spec hap
  have hk := hi.keys ht
  refine ⟨fun t htm => (setT_other tm (fun e => a1 t e htm) d).symm, fun k hk' => (appUp_other up hp k fun p hp e => ?_).symm, fun j' hj' => (appUp_other up hp _ fun p hp e => ?_).symm⟩
  · rcases hk p hp with h | h
    · rw [e] at h
      rcases hk' with hk' | hk'
      · exact (h1 k h).1 hk'
      · exact (h1 k h).2 hk'
    · rw [e, h4 k hk'] at h; cases h
  · have hw : inWin nx j (wkey nx j + j') = true := by simp only [inWin, Bool.and_eq_true, decide_eq_true_eq]; omega
    rcases hk p hp with h | h
    · rw [e] at h
      rw [h3 _ (.inr h)] at hw; cases hw
    · rw [e] at h
      rw [inWin_disj hij h] at hw; cases hw

theorem lgok_at {lg : Lg} {i j : Nat} {rd wr rd' wr' : List Nat} (h : lgok nx all lg i rd wr = true) (hj : j < all.size) (hne : j ≠ i) (hl : lg j = some (rd', wr')) (h1 : ord all i j = false) (h2 : ord all j i = false) : indep nx i j rd wr rd' wr' = true := by
  simp only [lgok, List.all_eq_true, List.mem_range] at h
  have := h j hj
  simpa [hl, hne, h1, h2] using this

theorem lgok_less {lg : Lg} {i j : Nat} {rd wr : List Nat} {p : Option (List Nat × List Nat)} (h : lgok nx all (upd lg j p) i rd wr = true) (hl : lg j = none) : lgok nx all lg i rd wr = true := by
  simp only [lgok, List.all_eq_true, List.mem_range] at h ⊢
  intro k hk
  have := h k hk
  by_cases e : k = j
  · subst e; simp [hl]
  · rwa [upd_ne _ _ e] at this

theorem lgok_more {lg : Lg} {i j : Nat} {rd wr rd' wr' : List Nat} (h : lgok nx all lg i rd wr = true) (hin : indep nx i j rd wr rd' wr' = true) : lgok nx all (upd lg j (some (rd', wr'))) i rd wr = true := by
  simp only [lgok, List.all_eq_true, List.mem_range] at h ⊢
  intro k hk
  by_cases e : k = j
  · subst e; simp [upd_same, hin]
  · rw [upd_ne _ _ e]; exact h k hk

/-- TWO OPERATIONS THAT NO EDGE BINDS MAY CHANGE PLACES. -/
theorem dop_swap {i j : Nat} {oi oj : Oper} (hi : i < all.size) (hj : j < all.size) (hij : i ≠ j) (hap : oi.apart all oj = true) (hfn : (isFn oi && isFn oj) = false) (h1 : ord all i j = false) (h2 : ord all j i = false) {K : Rs → Prop} {S : Rs} (hli : S.lg i = none) (hlj : S.lg j = none)
    (h : dop P m nx nt all true i oi (dop P m nx nt all true j oj K) S) : dop P m nx nt all true j oj (dop P m nx nt all true i oi K) S := by
  have hap' : oj.apart all oi = true := by
    obtain ⟨a1, a2, a3⟩ := Oper.apart_spec hap
    simp only [Oper.apart, Bool.and_eq_true]
    constructor
    · cases hd : oj.dst with
      | none => rfl
      | some d =>
        have := a3 d hd
        have h3 : oi.dst ≠ some d := fun e => a2 d e hd
        simp [this, h3]
    · cases hd : oi.dst with
      | none => rfl
      | some d => simp [a1 d hd]
  obtain ⟨rdi, wri, Ti, hSi, hfi, hdi, hKi⟩ := h
  obtain ⟨hlgi, d0, up0, ht0⟩ := hdi rfl
  obtain ⟨rdj, wrj, Tj, hSj, hfj, hdj, hKj⟩ := hKi d0 up0 ht0
  obtain ⟨hlgj, dj0, upj0, htj0⟩ := hdj rfl
  have hin : indep nx j i rdj wrj rdi wri = true := lgok_at hlgj hi hij (upd_same _ _ _) h2 h1
  have hin' := indep_symm hin
  have hSj0 : Stp P m nx all j oj S.tm S.hp rdj wrj Tj := hSj.agree (agree_after hij hap hin' hSi ht0).symm
  refine ⟨rdj, wrj, Tj, hSj0, hfj, fun _ => ⟨lgok_less hlgj hli, dj0, upj0, htj0⟩, fun dj upj htj => ?_⟩
  refine ⟨rdi, wri, Ti, hSi.agree (agree_after (Ne.symm hij) hap' hin hSj0 htj), hfi, fun _ => ⟨lgok_more hlgi hin', d0, up0, ht0⟩, fun di upi hti => ?_⟩
  -- the same state, by either order
  have hst : (⟨setT (setT S.tm oj.dst dj) oi.dst di, appUp (appUp S.hp upj) upi, upd (upd S.lg j (some (rdj, wrj))) i (some (rdi, wri))⟩ : Rs) =
      ⟨setT (setT S.tm oi.dst di) oj.dst dj, appUp (appUp S.hp upi) upj, upd (upd S.lg i (some (rdi, wri))) j (some (rdj, wrj))⟩ := by
    obtain ⟨a1, a2, a3⟩ := Oper.apart_spec hap'
    obtain ⟨k1, k2, k3, k4⟩ := indep_spec hin
    congr 1
    · exact setT_comm S.tm a2 dj di
    · refine appUp_comm upj upi S.hp fun p hp q hq e => ?_
      rcases hSj0.keys htj p hp with hp | hp <;> rcases hSi.keys hti q hq with hq | hq
      · exact (k1 _ hp).2 (e ▸ hq)
      · have := k3 _ (.inr hp)
        rw [e, hq] at this; cases this
      · have := k4 _ (.inr hq)
        rw [← e, hp] at this; cases this
      · have := inWin_disj (Ne.symm hij) hp
        rw [e, hq] at this; cases this
    · exact upd_comm S.lg (Ne.symm hij) _ _
  rw [hst]
  cases hfi' : isFn oi with
  | false =>
    -- the first one is no call: it leaves one state alone
    obtain ⟨_, _, _, da, upa, hTe⟩ := hSi.uniq hfi' hSi
    have e1 : di = d0 ∧ upi = up0 := by
      rw [hTe] at hti ht0
      exact ⟨hti.1.trans ht0.1.symm, hti.2.trans ht0.2.symm⟩
    rw [e1.1, e1.2]
    exact hKj dj upj htj
  | true =>
    have hfj' : isFn oj = false := by simpa [hfi'] using hfn
    obtain ⟨rdj', wrj', Tj', hSj', _, hdj', hKj'⟩ := hKi di upi hti
    obtain ⟨hlgj', _⟩ := hdj' rfl
    have hinb : indep nx j i rdj' wrj' rdi wri = true := lgok_at hlgj' hi hij (upd_same _ _ _) h2 h1
    have hSjb : Stp P m nx all j oj S.tm S.hp rdj' wrj' Tj' := hSj'.agree (agree_after hij hap (indep_symm hinb) hSi hti).symm
    obtain ⟨e1, e2, e3, _⟩ := Stp.uniq hfj' hSj0 hSjb
    have := hKj' dj upj (e3 ▸ htj)
    rw [← e1, ← e2] at this
    exact this

end
end Go.CT
