/- One operation of a region, as a step on states. -/
import Derived.Test.YtknihhjejbljgaaCtJ
set_option linter.unusedVariables false
set_option linter.unusedSimpArgs false
namespace Go.CT

/-- A constant, as data. -/
def cst : Value → Option D
  | .agg cs => if cs.toList.all one then some (.agg (cs.toList.map .v)) else none
  | .tuple _ => none
  | .int k n => some (.c (.v (.int k n)))
  | .bool b => some (.c (.v (.bool b)))
  | .string s => some (.c (.v (.string s)))
  | .slice a l c => some (.c (.v (.slice a l c)))
  | .nilIface => some (.c (.v .nilIface))
  | .nilFunc => some (.c (.v .nilFunc))
  | .pointer p => some (.c (.v (.pointer p)))
  | .map m => some (.c (.v (.map m)))
  | _ => none

abbrev Lg := Nat → Option (List Nat × List Nat)

/-- The state within a region: the slots, the owned blocks, and which keys each operation has read and written. -/
structure Rs where
  tm : Nat → Option D
  hp : Hp
  lg : Lg

def evT (tm : Nat → Option D) : Operand → Option D
  | .tmp t => tm t
  | .const v => cst v
  | .func f => some (.c (.clo f []))
  | .global _ => none

def peelB : D → Bool
  | .when b _ => b
  | _ => true
def peelD : D → D
  | .when _ d => d
  | d => d

def evP (tm : Nat → Option D) (x : Operand) : Option D := (evT tm x).map peelD

/-- What is looked at is there. -/
def okP (tm : Nat → Option D) : List Operand → Prop
  | [] => True
  | x :: r => (match evT tm x with | some d => peelB d = true | none => True) ∧ okP tm r

structure Out where
  vc : Prop
  d : Option D
  rd : List Nat
  up : List (Nat × Option (List C))

def rdKeys (e : Operand → Option D) : Op → List Nat
  | .load _ x => (match e x with | some (.c (.ptr k _)) => [k] | _ => [])
  | _ => []

/-- The cells of a new slice out of its parts, in order. -/
def partsS (P : Program) (sz : Nat) (e : Operand → Option D) : Nat → List (Nat × Operand) → Option (List C)
  | _, [] => some []
  | i, (j, x) :: r =>
    if i = j then (match e x with
      | some d => (match d.cells with
        | some ds => if ds.length = sz then (match partsS P sz e (i + 1) r with | some cs => some (ds ++ cs) | none => none) else none
        | none => none)
      | none => none)
    else none

def mslKey : D → List Nat
  | .c (.msl k _ _ _) => [k]
  | _ => []
def spendUp : Option Nat → List (Nat × Option (List C))
  | some k => [(k, none)]
  | none => []

/-- A step that is no call: 'key' is the fresh key that the operation may use. -/
def stp (P : Program) (m key : Nat) (tm : Nat → Option D) (hp : Hp) (o : Op) : Option Out :=
  match o with
  | .pick c a b => (match evP tm c, evT tm a, evT tm b with
    | some (.c (.v (.bool x))), some da, some db => (match peelD da, peelD db with
      | .c (.v (.bool p)), .c (.v (.bool q)) => some ⟨okP tm [c] ∧ (x = true → peelB da = true) ∧ (x = false → peelB db = true), some (DB (bif x then p else q)), [], []⟩
      | _, _ => none)
    | _, _, _ => none)
  | .alloc T => (match tzero P T with
    | some zs => if zs.all one then some ⟨hp key = none ∧ m ≤ key, some (.c (.ptr key 0)), [], [(key, some (zs.map .v))]⟩ else none
    | none => none)
  | .box T x => (match evP tm x with
    | some d => (match d.cells with
      | some cs => some ⟨okP tm [x] ∧ hp key = none ∧ m ≤ key, some (.c (.ptr key 0)), [], [(key, some cs)]⟩
      | none => none)
    | none => none)
  | .buildSlice t n ps => (match (tslice P t).bind (tsz P), (tslice P t).bind (tzero P) with
    | some sz, some zs => (match partsS P sz (evP tm) 0 ps.toList with
      | some cs => some ⟨okP tm (ps.toList.map (·.2)) ∧ (ps.size = n ∧ cs.length = n * sz ∧ n * sz ≤ 16777216 ∧ zs.length = sz ∧ n ≤ mx) ∧ hp key = none ∧ m ≤ key, some (.c (.msl key sz 0 n)), [], [(key, some cs)]⟩
      | none => none)
    | _, _ => none)
  | .store t a x => (match evP tm a, evP tm x, tsz P t with
    | some (.c (.ptr k off)), some d, some n => (match hp k, d.cells with
      | some (some cs), some ds => some ⟨okP tm [a, x] ∧ ds.length = n ∧ off + n ≤ cs.length, none, [k], [(k, some (putCells cs off ds))]⟩
      | _, _ => none)
    | _, _, _ => none)
  | .makeSlice t l c => (match evP tm l, evP tm c, (tslice P t).bind (tsz P), (tslice P t).bind (tzero P), (tslice P t).bind (tbytes P) with
    | some (.c (.v (.int _ n))), some (.c (.v (.int _ n'))), some sz, some zs, some by' =>
      if zs.all one then some ⟨okP tm [l, c] ∧ (0 ≤ n ∧ n' = n ∧ n ≤ (mx : Int) ∧ by' * n ≤ 281474976710656 ∧ zs.length = sz) ∧ hp key = none ∧ m ≤ key,
        some (.c (.msl key sz 0 n.toNat)), [], [(key, some (List.replicate n.toNat (zs.map C.v)).flatten)]⟩ else none
    | _, _, _, _, _ => none)
  | .call c => (match c.callee with
    | .builtin .append => (match c.args.toList, c.argTypes.toList with
      | [x, y], [t, t'] => (match evP tm x, evP tm y, (tslice P t).bind (tsz P), (tslice P t).bind (tzero P), (tslice P t).bind (tbytes P) with
        | some dx, some dy, some sz, some zs, some by' => (match target hp dx, lends hp dy with
          | some (ko, len, cs), some (n, sz', ys) => some ⟨okP tm [x, y] ∧ (t' = t ∧ zs.length = sz ∧ (∀ k, ko = some k → dx = .c (.msl k sz 0 len)) ∧ (n = 0 ∨ sz' = sz)) ∧ cs.length = len * sz ∧ ys.length = n * sz ∧
              (len + n ≤ mx ∧ (len + n) * by' ≤ 140737488355328) ∧ hp key = none ∧ m ≤ key,
              some (.c (.msl key sz 0 (len + n))), mslKey dx ++ mslKey dy,
              spendUp ko ++ [(key, some (cs ++ ys))]⟩
          | _, _ => none)
        | _, _, _, _, _ => none)
      | _, _ => none)
    | _ => (match pop P (evP tm) hp o with
      | some (vc, d) => some ⟨okP tm o.operands.toList ∧ vc, some d, [], []⟩
      | none => none))
  | _ => (match pop P (evP tm) hp o with
    | some (vc, d) => some ⟨okP tm o.operands.toList ∧ vc, some d, rdKeys (evP tm) o, []⟩
    | none => none)

def appUp (hp : Hp) : List (Nat × Option (List C)) → Hp
  | [] => hp
  | (k, x) :: r => appUp (upd hp k (some x)) r

def setT (tm : Nat → Option D) (dst : Option Tmp) (d : Option D) : Nat → Option D :=
  match dst with
  | some n => upd tm n d
  | none => tm

def fitsT (nt : Nat) (dst : Option Tmp) : Bool := match dst with | some n => decide (n < nt) | none => true

section
variable {P : Program}

theorem evT_sound {I : Nat → Prop} {w : World} {s : Sg} {a : Act} {tm : Nat → Option D} (hA : ∀ n d, tm n = some d → RD I w s (a.tmps.getD n undef) d) {x : Operand} {d : D} (h : evT tm x = some d) : RD I w s (a.eval x) d := by
  cases x with
  | tmp t => exact hA t d h
  | const v =>
    simp only [evT] at h
    cases v <;> simp only [cst, Option.some.injEq, reduceCtorEq] at h <;> first
      | (subst h; exact .c _ _ (.v _ _ rfl))
      | (split at h
         · rename_i cs hall
           simp only [Option.some.injEq] at h
           subst h
           refine .agg _ _ (by simp) fun j h1 h2 => ?_
           simp only [List.getElem_map, Array.getElem_toList]
           exact .v _ _ (List.all_eq_true.1 hall _ (by simp))
         · cases h)
  | func f =>
    simp only [evT, Option.some.injEq] at h
    subst h
    exact .c _ _ (.clo _ f [] #[] rfl fun j h1 h2 => by simp at h1)
  | global g => simp [evT] at h

theorem okP_mem {tm : Nat → Option D} : ∀ {l : List Operand} {x : Operand} {d : D}, okP tm l → x ∈ l → evT tm x = some d → peelB d = true
  | y :: r, x, d, h, hx, hd => by
    rcases List.mem_cons.1 hx with rfl | hx
    · have := h.1
      rw [hd] at this
      exact this
    · exact okP_mem h.2 hx hd

theorem peel_sound {I : Nat → Prop} {w : World} {s : Sg} {x : Value} {d : D} (h : RD I w s x d) (hb : peelB d = true) : RD I w s x (peelD d) := by
  cases h with
  | when _ b d h h0 => exact h hb
  | c _ _ h => exact .c _ _ h
  | agg _ _ hl hr => exact .agg _ _ hl hr
  | tup _ _ hl hr => exact .tup _ _ hl hr

theorem evP_sound {I : Nat → Prop} {w : World} {s : Sg} {a : Act} {tm : Nat → Option D} (hA : ∀ n d, tm n = some d → RD I w s (a.tmps.getD n undef) d) {x : Operand} {d : D} (h : evP tm x = some d) {l : List Operand} (ho : okP tm l) (hx : x ∈ l) :
    RD I w s (a.eval x) d := by
  simp only [evP, Option.map_eq_some_iff] at h
  obtain ⟨d', hd', rfl⟩ := h
  exact peel_sound (evT_sound hA hd') (okP_mem ho hx hd')

theorem bld_congr {e e' : Operand → Option D} {t : TypeId} : ∀ (ps : List (Nat × Operand)) (cs : List C), (∀ x ∈ ps.map (·.2), e x = e' x) → bld P t e ps cs = bld P t e' ps cs
  | [], _, _ => rfl
  | (f, x) :: r, cs, h => by
    have hx : e x = e' x := h x (by simp)
    have ih : ∀ cs, bld P t e r cs = bld P t e' r cs := fun cs => bld_congr r cs (fun y hy => h y (by simp only [List.map_cons, List.mem_cons]; exact .inr hy))
    unfold bld
    rw [hx]
    simp only [ih]

theorem cellsOf_congr {e e' : Operand → Option D} : ∀ (l : List Operand), (∀ x ∈ l, e x = e' x) → cellsOf e l = cellsOf e' l
  | [], _ => rfl
  | x :: r, h => by simp only [cellsOf]; rw [h x (by simp), cellsOf_congr r fun y hy => h y (by simp [hy])]

theorem bnd_congr {e e' : Operand → Option D} {x : Option Operand} {d : Int} (h : ∀ y, x = some y → e y = e' y) : bnd e x d = bnd e' x d := by
  cases x with
  | none => rfl
  | some y => simp only [bnd]; rw [h y rfl]

theorem pop_congr {e e' : Operand → Option D} {hp : Hp} {o : Op} (h : ∀ x ∈ o.operands.toList, e x = e' x) : pop P e hp o = pop P e' hp o := by
  cases o with
  | build t ps =>
    simp only [Op.operands] at h
    simp only [pop, bld_congr (P := P) (t := t) ps.toList _ h]
  | makeFunc fn first caps =>
    simp only [Op.operands, Array.toList_append, List.mem_append] at h
    cases fn <;> simp only [pop, cellsOf_congr caps.toList fun x hx => h x (.inr hx)]
  | slice t x lo hi mx =>
    simp only [Op.operands, Array.toList_append, List.mem_append] at h
    have hx := h x (by simp)
    cases mx with
    | none =>
      have hl := fun d => bnd_congr (e := e) (e' := e') (x := lo) (d := d) fun y hy => h y (by subst hy; simp)
      have hh := fun d => bnd_congr (e := e) (e' := e') (x := hi) (d := d) fun y hy => h y (by subst hy; simp)
      simp only [pop, hx, hl, hh]
    | some mx =>
      cases lo with
      | some lo => simp only [pop]
      | none =>
        cases hi with
        | none => simp only [pop]
        | some hi => simp only [pop, hx, h hi (by simp), h mx (by simp)]
  | call c =>
    obtain ⟨callee, args, argTypes⟩ := c
    simp only [Op.operands, Call.operands, Array.toList_append, List.mem_append] at h
    simp only [pop]
    cases callee with
    | builtin b =>
      cases b <;> first
        | rfl
        | (cases ha : args.toList with
           | nil => rfl
           | cons x r => cases r with
             | nil =>
               have hx := h x (by rw [ha]; simp)
               cases argTypes.toList with
               | nil => rfl
               | cons t r => cases r with
                 | nil => simp only [hx]
                 | cons t' r => rfl
             | cons y r => rfl)
    | _ => rfl
  | _ => simp only [Op.operands] at h <;> simp only [pop] <;> first | rfl | simp [h]

/-- 'pop' with a reading that is only good on the operation's own operands. -/
theorem pop_sound' {I : Nat → Prop} {w : World} {s : Sg} {hp : Hp} (H : SimH I w s hp) {a : Act} {tm : Nat → Option D} (hA : ∀ n d, tm n = some d → RD I w s (a.tmps.getD n undef) d) {o : Oper}
    {vc : Prop} {d : D} (h : pop P (evP tm) hp o.op = some (vc, d)) (hok : okP tm o.op.operands.toList) (hvc : vc) : ∃ v, (execOp a.eval o).run P w = .ok (.value v) w ∧ RD I w s v d := by
  let e' : Operand → Option D := fun x => match evT tm x with | some d => if peelB d = true then some (peelD d) else none | none => none
  have hc : pop P (evP tm) hp o.op = pop P e' hp o.op := pop_congr fun x hx => by
    simp only [evP, e']
    cases hd : evT tm x with
    | none => rfl
    | some d => simp [okP_mem hok hx hd]
  rw [hc] at h
  refine pop_sound (P := P) H (e := e') (fun x d hd => ?_) h hvc
  simp only [e'] at hd
  split at hd
  · rename_i d' hd'
    split at hd
    · rename_i hb
      simp only [Option.some.injEq] at hd
      subst hd
      exact peel_sound (evT_sound hA hd') hb
    · cases hd
  · cases hd

theorem partsS_congr {sz : Nat} {e e' : Operand → Option D} : ∀ (ps : List (Nat × Operand)) (i : Nat), (∀ x ∈ ps.map (·.2), e x = e' x) → partsS P sz e i ps = partsS P sz e' i ps
  | [], _, _ => rfl
  | (f, x) :: r, i, h => by
    have hx : e x = e' x := h x (by simp)
    have ih : ∀ i, partsS P sz e i r = partsS P sz e' i r := fun i => partsS_congr r i (fun y hy => h y (by simp only [List.map_cons, List.mem_cons]; exact .inr hy))
    simp only [partsS, hx, ih]

theorem setCells_append (xs ys : List Value) : ∀ (arr : Array Value) (off : Nat), setCells arr off (xs ++ ys) = setCells (setCells arr off xs) (off + xs.length) ys := by
  induction xs with
  | nil => intro arr off; simp [setCells]
  | cons x r ih => intro arr off; simp only [List.cons_append, setCells, ih, List.length_cons]; congr 1; omega

/-- Filling a new row part by part, in order. -/
theorem partsS_sound {I : Nat → Prop} {w : World} {s : Sg} {sz : Nat} {e : Operand → Option D} {ρ : Operand → Value} :
    ∀ (ps : List (Nat × Operand)) (i : Nat) (cs : List C) (arr : Array Value), (∀ x ∈ ps.map (·.2), ∀ d, e x = some d → RD I w s (ρ x) d) → partsS P sz e i ps = some cs → i * sz + cs.length ≤ arr.size →
      ∃ vals : List Value, RCs I w s vals.toArray cs ∧ Instr.fill (fun i => some (i * sz, sz)) arr (ps.map fun p => (p.1, ρ p.2)) = some (setCells arr (i * sz) vals)
  | [], i, cs, arr, he, h, hl => by
    simp only [partsS, Option.some.injEq] at h
    subst h
    exact ⟨[], ⟨rfl, fun j h => by simp at h⟩, rfl⟩
  | (j, x) :: r, i, cs, arr, he, h, hl => by
    unfold partsS at h
    split at h
    · rename_i hij
      subst hij
      split at h
      · rename_i d hd
        split at h
        · rename_i ds hds
          split at h
          · rename_i hlen
            split at h
            · rename_i cs' hcs
              simp only [Option.some.injEq] at h
              subst h
              have hx := (he x (by simp) d hd).cells hds
              have hxr : RCs I w s (ρ x).cells ds := hx
              simp only [List.length_append] at hl
              have hsz : (setCells arr (i * sz) (ρ x).cells.toList).size = arr.size := size_setCells _ _ _
              obtain ⟨vals, hv, hf⟩ := partsS_sound r (i + 1) cs' (setCells arr (i * sz) (ρ x).cells.toList) (fun y hy => he y (by simp only [List.map_cons, List.mem_cons]; exact .inr hy)) hcs (by rw [hsz, Nat.add_mul]; omega)
              refine ⟨(ρ x).cells.toList ++ vals, RCs.append (by simpa using hxr) hv, ?_⟩
              simp only [List.map_cons]
              rw [fill_cons _ arr i (ρ x) _ (i * sz) sz rfl (by rw [hx.1, hlen]) (by rw [hx.1]; omega), hf, setCells_append]
              have : (ρ x).cells.toList.length = sz := by rw [Array.length_toList, hx.1, hlen]
              rw [this, Nat.add_mul, Nat.one_mul]
            · cases h
          · cases h
        · cases h
      · cases h
    · cases h

theorem setCells_all (vals : List Value) (arr : Array Value) (h : arr.size = vals.length) : setCells arr 0 vals = vals.toArray := by
  apply Array.ext_getElem?
  intro j
  rw [get_setCells vals arr 0 j (by omega)]
  by_cases hj : j < vals.length
  · rw [if_pos (by omega)]
    simp
  · rw [if_neg (by omega)]
    rw [Array.getElem?_eq_none (by omega), Array.getElem?_eq_none (by simpa using hj)]

end
end Go.CT
