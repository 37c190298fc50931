/- Going through a function's text, from any place in it. -/
import Derived.Test.YtknihhjejbljgaaCtR
set_option linter.unusedVariables false
set_option linter.unusedSimpArgs false
namespace Go.CT

structure Ms where
  tm : Nat → Option D
  hp : Hp
  nx : Nat

def bf (f : FuncId) : Frame := { (default : Frame) with fn := f, kind := .normal }

/-- What stands still to do is 'todo': from a state S it comes to a return whose result and blocks R relates. -/
def Go (P : Program) (m : Nat) (f : FuncId) (nt : Nat) (R : D → List (Option (List C)) → Prop) (todo : List Item) (S : Ms) : Prop :=
  ∀ I w s a, Rc I w s a S.tm S.hp nt → ∀ cs, ∃ v w' fr I' s' d h', R d h' ∧ RD I' w' s' v d ∧ SimH I' w' s' (hpL h') ∧ Ext m I w s S.hp I' w' s' (hpL h') ∧ m ≤ h'.length ∧
    Steps P (lone ((bf f).at a todo) cs w) (lone fr cs w') ∧ fr.fn = f ∧ fr.leaving P w' (.returned v)

/-- A region in progress. -/
structure Rg where
  all : Array Oper
  dr : Bool
  i : Nat
  rest : List Oper
  lg : Lg
  nx0 : Nat

/-- What can be done from S2 can be done from S. -/
def Sub (m nt : Nat) (S S2 : Rs) : Prop := ∀ I w s a, Rc I w s a S.tm S.hp nt → ∃ I' s', Rc I' w s' a S2.tm S2.hp nt ∧ Ext m I w s S.hp I' w s' S2.hp
theorem Sub.refl (m nt : Nat) (S : Rs) : Sub m nt S S := fun I w s a h => ⟨I, s, h, Ext.refl _ _ _ _ _⟩
theorem Sub.trans {m nt : Nat} {S S' S'' : Rs} (h : Sub m nt S S') (h' : Sub m nt S' S'') : Sub m nt S S'' := fun I w s a hR => by
  obtain ⟨I1, s1, R1, E1⟩ := h I w s a hR
  obtain ⟨I2, s2, R2, E2⟩ := h' I1 w s1 a R1
  exact ⟨I2, s2, R2, E1.trans E2⟩

/-- Where the order is the text's own, a state may be taken for another ahead of each operation. -/
def Pre (m nt : Nat) (dr : Bool) (S : Rs) (Φ : Rs → Prop) : Prop := (dr = true → Φ S) ∧ (dr = false → ∃ S2, Sub m nt S S2 ∧ Φ S2)
theorem Pre.intro {m nt : Nat} {dr : Bool} {S : Rs} {Φ : Rs → Prop} (h : Φ S) : Pre m nt dr S Φ := ⟨fun _ => h, fun _ => ⟨S, Sub.refl _ _ _, h⟩⟩
theorem Pre.sub {m nt : Nat} {S S' : Rs} {Φ : Rs → Prop} (hs : Sub m nt S S') (h : Pre m nt false S' Φ) : Pre m nt false S Φ :=
  ⟨fun e => (Bool.false_ne_true e).elim, fun e => let ⟨S2, h1, h2⟩ := h.2 e; ⟨S2, hs.trans h1, h2⟩⟩

def dopsL (P : Program) (m nx nt : Nat) (all : Array Oper) (dr : Bool) (K : Rs → Prop) : Nat → List Oper → Rs → Prop
  | _, [], S => Pre m nt dr S K
  | i, o :: r, S => Pre m nt dr S (dop P m nx nt all dr i o (dopsL P m nx nt all dr K (i + 1) r))

def XK (P : Program) (m : Nat) (f : FuncId) (nt : Nat) (R : D → List (Option (List C)) → Prop) : Option Rg → List Item → Ms → Prop
  | none, k, S => Go P m f nt R k S
  | some g, k, S => dopsL P m g.nx0 nt g.all g.dr (fun S' => Go P m f nt R k ⟨S'.tm, S'.hp, g.nx0 + 64 * g.all.size⟩) g.i g.rest ⟨S.tm, S.hp, g.lg⟩

section
variable {P : Program} {m : Nat} {f : FuncId} {nt : Nat} {R : D → List (Option (List C)) → Prop}

theorem dopsL_dops {nx : Nat} {all : Array Oper} {K : Rs → Prop} : ∀ (l : List Oper) (i : Nat) (S : Rs), (∀ j, l[j]? = all[i + j]?) → dopsL P m nx nt all true K i l S → dops P m nx nt all true K (List.range' i l.length) S
  | [], i, S, _, h => by
    simp only [dopsL] at h
    simpa [dops] using h.1 rfl
  | o :: r, i, S, hl, h => by
    have h0 : all[i]? = some o := by simpa using (hl 0).symm
    simp only [List.length_cons, List.range'_succ, dops, h0]
    simp only [dopsL] at h
    refine dop_mono (fun S' hS => ?_) (h.1 rfl)
    exact dopsL_dops r (i + 1) S' (fun j => by have := hl (j + 1); simpa [Nat.add_assoc, Nat.add_comm 1 j] using this) hS

theorem dopsL_run {nx : Nat} {all : Array Oper} {K : Rs → Prop} {Q : Exit → Act → World → Prop} : ∀ (l : List Oper) (i : Nat) {I : Nat → Prop} {w : World} {s : Sg} {a : Act} {S : Rs}, (∀ j, l[j]? = all[i + j]?) → Rc I w s a S.tm S.hp nt →
    dopsL P m nx nt all false K i l S → (∀ a' w' I' s' S', K S' → Rc I' w' s' a' S'.tm S'.hp nt → Ext m I w s S.hp I' w' s' S'.hp → Q .normal a' w') → wpOps P all Q (List.range' i l.length) a w
  | [], i, I, w, s, a, S, hl, hR, h, hQ => by
    simp only [dopsL] at h
    obtain ⟨S2, hs, hK⟩ := h.2 rfl
    obtain ⟨I2, s2, R2, E2⟩ := hs I w s a hR
    exact hQ a w I2 s2 S2 hK R2 E2
  | o :: r, i, I, w, s, a, S, hl, hR, h, hQ => by
    have h0 : all[i]? = some o := by simpa using (hl 0).symm
    simp only [dopsL] at h
    obtain ⟨S2, hs, hd⟩ := h.2 rfl
    obtain ⟨I2, s2, R2, E2⟩ := hs I w s a hR
    simp only [List.length_cons, List.range'_succ]
    rw [wpOps_cons]
    exact dop_run h0 R2 hd fun a' w' I' s' S' hK _ hR' hE => dopsL_run r (i + 1) (fun j => by have := hl (j + 1); simpa [Nat.add_assoc, Nat.add_comm 1 j] using this) hR' hK
      fun a'' w'' I'' s'' S'' hK' hR'' hE' => hQ a'' w'' I'' s'' S'' hK' hR'' (E2.trans (hE.trans hE'))

theorem Go.of_step {k k' : List Item} {S : Ms} (hs : ∀ (a : Act) (w : World) (cs : List Frame), step P (lone ((bf f).at a k) cs w) = .next (lone ((bf f).at a k') cs w)) (h : Go P m f nt R k' S) : Go P m f nt R k S :=
  fun I w s a hR cs => let ⟨v, w', fr, I', s', d, h', h1, h2, h3, h4, h5, h6, h7⟩ := h I w s a hR cs
  ⟨v, w', fr, I', s', d, h', h1, h2, h3, h4, h5, .head (hs a w cs) h6, h7⟩

theorem Go.seq {x y : Code} {k : List Item} {S : Ms} (h : Go P m f nt R (.code x :: .code y :: k) S) : Go P m f nt R (.code (.seq x y) :: k) S := .of_step (fun _ _ _ => step_seq) h
theorem Go.skip {k : List Item} {S : Ms} (h : Go P m f nt R k S) : Go P m f nt R (.code .skip :: k) S := .of_step (fun _ _ _ => step_skip) h
theorem Go.label {l : Nat} {k : List Item} {S : Ms} (h : Go P m f nt R k S) : Go P m f nt R (.code (.label l) :: k) S := .of_step (fun _ _ _ => step_label) h
theorem Go.block {id : Nat} {c : Code} {k : List Item} {S : Ms} (h : Go P m f nt R (.code c :: .inBlock id :: k) S) : Go P m f nt R (.code (.block id c) :: k) S := .of_step (fun _ _ _ => step_block) h
theorem Go.inBlock {id : Nat} {k : List Item} {S : Ms} (h : Go P m f nt R k S) : Go P m f nt R (.inBlock id :: k) S := .of_step (fun _ _ _ => step_inBlock) h
theorem Go.loop {c : Code} {k : List Item} {S : Ms} (h : Go P m f nt R (.code c :: .inLoop c :: k) S) : Go P m f nt R (.code (.loop c) :: k) S := .of_step (fun _ _ _ => step_loop) h
theorem Go.inLoop {c : Code} {k : List Item} {S : Ms} (h : Go P m f nt R (.code c :: .inLoop c :: k) S) : Go P m f nt R (.inLoop c :: k) S := .of_step (fun _ _ _ => step_inLoop) h
theorem Go.exit {id : Nat} {k k' : List Item} {S : Ms} (he : exitTo id k = some k') (h : Go P m f nt R k' S) : Go P m f nt R (.code (.exit id) :: k) S := .of_step (fun _ _ _ => step_exit he) h

theorem Go.cond {c : Operand} {x y : Code} {k : List Item} {S : Ms} {d : D} {t : Bool} (hd : evT S.tm c = some d) (hp : peelB d = true) (hb : peelD d = DB t) (h1 : t = true → Go P m f nt R (.code x :: k) S)
    (h2 : t = false → Go P m f nt R (.code y :: k) S) : Go P m f nt R (.code (.cond c x y) :: k) S := fun I w s a hR cs => by
  have hv : a.eval c = .bool t := by
    have := peel_sound (evT_sound hR.tm hd) hp
    rw [hb] at this
    exact (rd_scalar this).1
  have h : Go P m f nt R (.code (if t = true then x else y) :: k) S := by
    cases t with
    | true => exact h1 rfl
    | false => exact h2 rfl
  obtain ⟨v, w', fr, I', s', d', h', g1, g2, g3, g4, g5, g6, g7⟩ := h I w s a hR cs
  exact ⟨v, w', fr, I', s', d', h', g1, g2, g3, g4, g5, .head (step_cond hv) g6, g7⟩

theorem Go.region {id : Nat} {all : Array Oper} {dr : Bool} {k : List Item} {S : Ms} (hm : dr = true → P.follows .mixedOrders = true) (hD : dr = true → drawOK all = true)
    (h : XK P m f nt R (some ⟨all, dr, 0, all.toList, fun _ => none, S.nx⟩) k S) : Go P m f nt R (.code (.region id all dr) :: k) S := fun I w s a hR cs => by
  let Q : Exit → Act → World → Prop := fun e a' w' => e = .normal ∧ ∃ (I' : Nat → Prop) (s' : Sg) (S' : Rs), Go P m f nt R k ⟨S'.tm, S'.hp, S.nx + 64 * all.size⟩ ∧ Rc I' w' s' a' S'.tm S'.hp nt ∧ Ext m I w s S.hp I' w' s' S'.hp
  have hwp : (Code.region id all dr).wp P Q a w := by
    cases dr with
    | false =>
      have hrun := dopsL_run (Q := Q) (K := fun S' : Rs => Go P m f nt R k ⟨S'.tm, S'.hp, S.nx + 64 * all.size⟩) all.toList 0 (S := ⟨S.tm, S.hp, fun _ => none⟩) (fun j => by simp) hR h fun a' w' I' s' S' hK hR' hE => ⟨rfl, I', s', S', hK, hR', hE⟩
      simp only [Array.length_toList, ← List.range_eq_range'] at hrun
      exact wp_region hrun
    | true =>
      have hd := dopsL_dops all.toList 0 ⟨S.tm, S.hp, fun _ => none⟩ (fun j => by simp) h
      simp only [Array.length_toList, ← List.range_eq_range'] at hd
      refine wp_region_any (hm rfl) ?_
      obtain ⟨H1, E1⟩ := hR.H.draw (m := m)
      have hR1 : Rc I { w with drawn := w.drawn + 1 } s a S.tm S.hp nt := ⟨H1, fun n d hn => E1.rd hR.H (Sg.le_refl _) (hR.tm n d hn), hR.df, hR.sz⟩
      refine draws_run (hD rfl) all.size (List.range all.size) (Array.replicate all.size false) (by simp) List.pairwise_lt_range (fun i hi => by simpa using hi) (by simp) (fun i hi => ?_) (fun i j hi hl => ?_) (fun _ _ => rfl) hR1 hd
        fun a' w' I' s' S' hK hR' hE => ⟨rfl, I', s', S', hK, hR', E1.trans hE⟩
      · simp [hi]
      · simp [hi] at hl
  obtain ⟨e, a', w', ⟨rfl, I', s', S', hK, hR', hE⟩, harr⟩ := hwp (bf f) k cs
  obtain ⟨v, w'', fr, I'', s'', d, h', g1, g2, g3, g4, g5, g6, g7⟩ := hK I' w' s' a' hR' cs
  exact ⟨v, w'', fr, I'', s'', d, h', g1, g2, g3, hE.trans g4, g5, Steps.trans harr g6, g7⟩

def resF (tmps : Array Value) : ResultVar → Sem Value
  | .tmp t => pure (tmps.getD t undef)
  | .cell a t => do loadVar t (← asAddr (tmps.getD a undef))

theorem results_eq (fn : Func) (tmps : Array Value) : results fn tmps = (fn.results.mapM (resF tmps) >>= fun vs => pure (if h : vs.size = 1 then vs[0] else .tuple vs)) := by
  have : (fun | .tmp t => pure (tmps.getD t undef) | .cell a t => do loadVar t (← asAddr (tmps.getD a undef)) : ResultVar → Sem Value) = resF tmps := by
    funext x; cases x <;> rfl
  rw [← this]
  rfl

/-- What a return hands back. -/
def retD (P : Program) (tm : Nat → Option D) (hp : Hp) : List ResultVar → Option (Prop × List D)
  | [] => some (True, [])
  | .tmp t :: r => (match tm t, retD P tm hp r with | some d, some (vc, ds) => some (peelB d = true ∧ vc, peelD d :: ds) | _, _ => none)
  | .cell a t :: r => (match tm a, tagg P t, tsz P t, retD P tm hp r with
    | some (.c (.ptr k off)), some g, some n, some (vc, ds) => (match hp k with
      | some (some cs) => (match grab cs off n g with | some (vc', d) => some (vc' ∧ vc, d :: ds) | none => none)
      | _ => none)
    | _, _, _, _ => none)

def oneD : List D → D
  | [d] => d
  | ds => .tup ds

/-- The end of a function: what is handed back and what is left of its blocks reads as R asks. -/
def RetOb (m : Nat) (R : D → List (Option (List C)) → Prop) (d : D) (hp : Hp) : Prop :=
  ∀ I w s v, SimH I w s hp → RD I w s v d → ∃ I' s' d' h', R d' h' ∧ RD I' w s' v d' ∧ SimH I' w s' (hpL h') ∧ Ext m I w s hp I' w s' (hpL h') ∧ m ≤ h'.length

theorem retD_run {I : Nat → Prop} {w : World} {s : Sg} {a : Act} {tm : Nat → Option D} {hp : Hp} (hR : Rc I w s a tm hp nt) : ∀ (l : List ResultVar) (vc : Prop) (ds : List D), retD P tm hp l = some (vc, ds) → vc →
    ∃ vs : List Value, (l.mapM (resF a.tmps)).run P w = .ok vs w ∧ RDs I w s vs.toArray ds
  | [], vc, ds, h, hvc => by
    simp only [retD, Option.some.injEq, Prod.mk.injEq] at h
    obtain ⟨rfl, rfl⟩ := h
    exact ⟨[], rfl, rfl, fun j h => by simp at h⟩
  | .tmp t :: r, vc, ds, h, hvc => by
    simp only [retD] at h
    split at h
    · rename_i d vc' ds' hd hr
      simp only [Option.some.injEq, Prod.mk.injEq] at h
      obtain ⟨rfl, rfl⟩ := h
      obtain ⟨vs, h1, h2⟩ := retD_run hR r vc' ds' hr hvc.2
      have h0 := peel_sound (hR.tm t d hd) hvc.1
      refine ⟨a.tmps.getD t undef :: vs, ?_, by have := h2.1; simp at this ⊢; exact this, fun j g1 g2 => ?_⟩
      · rw [List.mapM_cons, run_bind (x := a.tmps.getD t undef) (w' := w) _ _ _ (by rfl), run_bind _ _ _ _ _ h1]
        rfl
      · cases j with
        | zero => exact h0
        | succ j =>
          have h3 := h2.2 j (by simpa using g1) (by simpa using g2)
          rw [List.getElem_toArray] at h3
          rw [List.getElem_toArray]
          exact h3
    · cases h
  | .cell x t :: r, vc, ds, h, hvc => by
    simp only [retD] at h
    split at h
    · rename_i k off g n vc' ds' hx hg hn hr
      split at h
      · rename_i cs hcs
        split at h
        · rename_i vc0 d hgr
          simp only [Option.some.injEq, Prod.mk.injEq] at h
          obtain ⟨rfl, rfl⟩ := h
          obtain ⟨vs, h1, h2⟩ := retD_run hR r vc' ds' hr hvc.2
          obtain ⟨b, hs, hxv⟩ := rd_ptr (hR.tm x _ hx)
          obtain ⟨arr, T, hb, hl, hrr⟩ := live_cells hR.H hcs hs
          obtain ⟨v, hv1, hv2⟩ := grab_sound (P := P) hg hn (b := b) (o := 0) hgr hvc.1 (fun j hj => by
            obtain ⟨y, hy, hry⟩ := hrr j hj
            exact ⟨y, by simpa [World.cell?, hb] using hy, hry⟩)
          simp only [Nat.zero_add, Instr.loadAt, Instr.sureAddr] at hv1
          rw [run_bind (x := (⟨b, off, none⟩ : Addr)) (w' := w) _ _ _ (by rfl)] at hv1
          refine ⟨v :: vs, ?_, by have := h2.1; simp at this ⊢; exact this, fun j g1 g2 => ?_⟩
          · rw [List.mapM_cons]
            rw [run_bind (x := v) (w' := w)]
            · rw [run_bind _ _ _ _ _ h1]; rfl
            · simp only [resF, hxv]
              rw [run_bind (x := (⟨b, off, none⟩ : Addr)) (w' := w) _ _ _ (by rfl)]
              exact hv1
          · cases j with
            | zero => exact hv2
            | succ j =>
              have h3 := h2.2 j (by simpa using g1) (by simpa using g2)
              rw [List.getElem_toArray] at h3
              rw [List.getElem_toArray]
              exact h3
        · cases h
      · cases h
    · cases h

theorem Go.ret_core {fn : Func} (hf : P.funcs[f]? = some fn) {S : Ms} {vc : Prop} {ds : List D} (hr : retD P S.tm S.hp fn.results.toList = some (vc, ds)) (hvc : vc) (hob : RetOb m R (oneD ds) S.hp) {k : List Item}
    (hst : ∀ (a : Act) (w : World) (cs : List Frame), step P (lone ((bf f).at a k) cs w) = .next (lone { (bf f).at a k with mode := .returning } cs w)) : Go P m f nt R k S := fun I w s a hR cs => by
  obtain ⟨vs, hv, hvr⟩ := retD_run (P := P) hR fn.results.toList vc ds hr hvc
  have hl : vs.length = ds.length := by simpa using hvr.1
  have hres : ∃ v, (results fn a.tmps).run P w = .ok v w ∧ RD I w s v (oneD ds) := by
    have hm := run_mapM_arr (P := P) (resF a.tmps) fn.results w w vs hv
    rw [results_eq, run_bind _ _ _ _ _ hm]
    by_cases h1 : vs.length = 1
    · match vs, ds, hl, h1, hvr with
      | [v], [d], _, _, hvr =>
        refine ⟨v, by simp [run_pure], ?_⟩
        have := hvr.2 0 (by simp) (by simp)
        simpa [oneD] using this
    · refine ⟨.tuple vs.toArray, by simp [h1, run_pure], ?_⟩
      have : oneD ds = .tup ds := by
        match ds, hl with
        | [], _ => rfl
        | [d], hl => exact absurd hl h1
        | d :: d' :: r, _ => rfl
      rw [this]
      exact .tup _ _ hvr.1 hvr.2
  obtain ⟨v, hrun, hrd⟩ := hres
  obtain ⟨I', s', d', h', g1, g2, g3, g4, g5⟩ := hob I w s v hR.H hrd
  refine ⟨v, w, { (bf f).at a k with mode := .returning }, I', s', d', h', g1, g2, g3, g4, g5, .one (hst a w cs), rfl, rfl, hR.df, rfl, fn, hf, hrun⟩

theorem Go.ret {fn : Func} (hf : P.funcs[f]? = some fn) {S : Ms} {vc : Prop} {ds : List D} (hr : retD P S.tm S.hp fn.results.toList = some (vc, ds)) (hvc : vc) (hob : RetOb m R (oneD ds) S.hp) {k : List Item} : Go P m f nt R (.code .ret :: k) S :=
  .ret_core hf hr hvc hob fun _ _ _ => step_ret
theorem Go.done {fn : Func} (hf : P.funcs[f]? = some fn) {S : Ms} {vc : Prop} {ds : List D} (hr : retD P S.tm S.hp fn.results.toList = some (vc, ds)) (hvc : vc) (hob : RetOb m R (oneD ds) S.hp) : Go P m f nt R [] S :=
  .ret_core hf hr hvc hob fun _ _ _ => step_end

/-- A contract out of a walk. -/
def ofArgs : Nat → List D → Nat → Option D
  | _, [] => fun _ => none
  | i, d :: r => upd (ofArgs (i + 1) r) i (some d)

theorem ofArgs_get : ∀ (l : List D) (i n : Nat), ofArgs i l n = if i ≤ n then l[n - i]? else none
  | [], i, n => by simp [ofArgs]
  | d :: r, i, n => by
    simp only [ofArgs, upd]
    rw [ofArgs_get r (i + 1) n]
    by_cases h : n = i
    · subst h; simp
    · rw [if_neg h]
      by_cases h2 : i + 1 ≤ n
      · rw [if_pos h2, if_pos (by omega), show n - i = (n - (i + 1)) + 1 from by omega, List.getElem?_cons_succ]
      · rw [if_neg h2, if_neg (by omega)]

theorem dc_of_go {fn : Func} {c : Code} (hf : P.funcs[f]? = some fn) (hb : fn.body = some c) {args : List D} {h : List (Option (List C))} (hn : args.length ≤ fn.ntmps)
    (hg : Go P h.length f fn.ntmps R [.code c] ⟨ofArgs 0 args, hpL h, h.length⟩) : DC P f args h R := fun I w s vs H hvs => by
  intro cs
  have henter : Frame.enter P f vs .normal = (bf f).at { tmps := vs ++ Array.replicate (fn.ntmps - vs.size) undef, defers := [] } [.code c] := by
    simp [Frame.enter, Frame.at, hf, hb, bf]
  have hsz : vs.size = args.length := hvs.1
  have hR : Rc I w s { tmps := vs ++ Array.replicate (fn.ntmps - vs.size) undef, defers := [] } (ofArgs 0 args) (hpL h) fn.ntmps := by
    refine ⟨H, fun n d hd => ?_, rfl, by simp; omega⟩
    rw [ofArgs_get, if_pos (Nat.zero_le _), Nat.sub_zero] at hd
    obtain ⟨hlt, e⟩ := List.getElem?_eq_some_iff.1 hd
    have : (vs ++ Array.replicate (fn.ntmps - vs.size) undef).getD n undef = vs[n]'(by omega) := by
      rw [Array.getD_eq_getD_getElem?, Array.getElem?_append_left (by omega)]
      simp [show n < vs.size from by omega]
    simp only [this]
    rw [← e]
    exact hvs.2 n (by omega) hlt
  obtain ⟨v, w', fr, I', s', d, h', g1, g2, g3, g4, g5, g6, g7, g8⟩ := hg I w s _ hR cs
  rw [← henter] at g6
  exact ⟨.returned v, w', fr, ⟨v, I', s', d, h', rfl, g1, g2, g3, g4, g5⟩, g6, g7, g8⟩

/-- A loop: a family of states, and a number that each round lowers. -/
theorem Go.rounds {X : Type} {c : Code} {k : List Item} (In : X → Ms → Prop) (μ : X → Nat)
    (round : ∀ x S, In x S → (∀ x' S', μ x' < μ x → In x' S' → Go P m f nt R (.inLoop c :: k) S') → Go P m f nt R (.code c :: .inLoop c :: k) S) : ∀ x S, In x S → Go P m f nt R (.inLoop c :: k) S := by
  have key : ∀ n x S, μ x = n → In x S → Go P m f nt R (.inLoop c :: k) S := by
    intro n
    induction n using Nat.strongRecOn with
    | _ n ih =>
      intro x S hn hI
      exact .inLoop (round x S hI fun x' S' hlt hI' => ih (μ x') (hn ▸ hlt) x' S' rfl hI')
  exact fun x S hI => key _ x S rfl hI

end
end Go.CT
