/- Contracts of functions of the program, one behind the other, as plain data: what each call returns and which blocks it leaves. -/
import Derived.Test.YtehmajhoaibphaaGreatChecked
import Derived.KernelRfl
import Derived.Maps.OwnSet
import Derived.WalkKit
import Derived.Test.YtehmajhoaibphaaGreatMAi
set_option linter.unusedVariables false
set_option linter.unusedSimpArgs false
set_option maxHeartbeats 16000000
set_option maxRecDepth 100000
namespace Go.Proofs.YtehmajhoaibphaaGreat.CtM
open Go Go.CT
open Go.RowKit Go.Maps Go.WideMaps

def keys (zs : List Int) (k : Nat) : List Lit := (zs.take k).map fun s => .int .i64 s
def Sn (zs : List Int) (k : Nat) : DataW Unit := setOf (.lit (.bool true)) (keys zs k)
theorem keys_succ (zs : List Int) (k : Nat) (hk : k < zs.length) : keys zs (k + 1) = keys zs k ++ [.int .i64 (zs.getD k 0)] := by
  unfold keys
  rw [List.take_add_one, List.map_append]
  simp [List.getD, List.getElem?_eq_getElem hk]
theorem Sn_succ (zs : List Int) (k : Nat) (hk : k < zs.length) : Sn zs (k + 1) = (Sn zs k).put (.int .i64 (zs.getD k 0)) (.lit (.bool true)) := by
  unfold Sn
  rw [keys_succ zs k hk, setOf_snoc]
theorem Sn_zero (zs : List Int) : Sn zs 0 = .map [] := by simp [Sn, keys, setOf]
theorem law3 : Keyed Tryz.prog 3 := int_keyed Tryz.underlying3
theorem wf_at {zs : List Int} (hwz : ∀ n ∈ zs, InK .i64 n) (k : Nat) : (Lit.int .i64 (zs.getD k 0)).wf = true := by
  have : InK .i64 (zs.getD k 0) := by
    by_cases hk : k < zs.length
    · rw [List.getD, List.getElem?_eq_getElem hk]
      exact hwz _ (List.getElem_mem hk)
    · rw [List.getD, List.getElem?_eq_none (by omega)]
      exact ⟨by decide, by decide⟩
  exact WalkArith.wf_i64 (by simp only [InK] at this; omega)

theorem count_none (a : Option Addr) (cap : Nat) (w : World) : Calls Tryz.prog 25 #[.slice a 0 cap] w fun e w' => e = .returned (.int .i64 0) ∧ Below w.heap.size w w' := by
  have hmm := @run_makeMap Tryz.prog
  go_enter Tryz.func25, Tryz.ntmps25
  go_wp2
  refine wp_loop_rounds 1 ?_
  rw [rounds_succ]
  go_wp2_with (first
    | (at_len; refine wpList_len_own _ rfl _ 104 rfl 3 4 Tryz.underlying104 (plainElem (H := Unit) Tryz.prog 4) w.heap.size 0 (.map []) rfl (World.ownsMap_made _ _ _ _) ?_)
    | go_in)
  go_ret
  exact ⟨rfl, (Below.refl _ _).alloc (Nat.le_refl _) _⟩

theorem count_any (b off len cap : Nat) (zs : List Int) (w : World) (hmx : len ≤ 281474976710656) (hz : len ≤ zs.length) (hb : b < w.heap.size) (hwz : ∀ n ∈ zs, InK .i64 n)
    (hc : ∀ j, j < zs.length → w.cell? ⟨b, off + j, none⟩ = some (.int .i64 (zs.getD j 0))) :
    Calls Tryz.prog 25 #[.slice (some ⟨b, off, none⟩) len cap] w fun e w' => e = .returned (.int .i64 (Maps.size (Sn zs len))) ∧ Maps.size (Sn zs len) ≤ len ∧ Below w.heap.size w w' := by
  have hmm := @run_makeMap Tryz.prog
  go_enter Tryz.func25, Tryz.ntmps25
  go_wp2
  go_loopw [9] (fun i wr => ∃ k : Nat, k ≤ len ∧ i = .int .i64 k ∧ wr.ownsMap Tryz.prog 3 (plainElem Tryz.prog 4) w.heap.size k (Sn zs k) ∧ Below w.heap.size w wr)
    (fun i _ => len - (intOf i).toNat)
  case atStart => exact ⟨0, Nat.zero_le _, rfl, by rw [Sn_zero]; exact World.ownsMap_made _ _ _ _, (Below.refl _ _).alloc (Nat.le_refl _) _⟩
  case round =>
    obtain ⟨k, hk, rfl, hown, hnx⟩ := hrel
    have hkey : keyOf Tryz.prog 3 (.int .i64 (zs.getD k 0)) = some (.int .i64 (zs.getD k 0)) := keyOf_int_mk Tryz.underlying3 (wf_at hwz k)
    have hcx : k < len → wr.cell? ⟨b, off + k, none⟩ = some (.int .i64 (zs.getD k 0)) := fun _ => (hnx.cell (by exact hb)).trans (hc k (by omega))
    go_wp2_with (first
      | (at_mapUpdate; refine wpList_mapUpdate_own _ rfl _ _ _ 104 rfl 3 4 law3 Tryz.underlying104 (plainElem (H := Unit) Tryz.prog 4) w.heap.size k _ rfl hown (by unfold maxLen; omega) _ _ _ rfl rfl hkey _ [] (plainElem_bool Tryz.underlying4 true) ?_; intro w1 hown1 hgrow1)
      | (at_len; refine wpList_len_own _ rfl _ 104 rfl 3 4 Tryz.underlying104 _ w.heap.size k _ rfl hown ?_)
      | go_in)
    · have hlt : k < len := by assumption
      go_roundw
      case rel => exact ⟨k + 1, by omega, by go_num, (Sn_succ zs k (by omega)).symm ▸ hown1, hnx.grown hgrow1 hnx.size (fun j hj => by cases hj; exact Nat.le_refl _)⟩
      case measure => simp [intOf]; omega
    · have : k = len := by omega
      subst this
      go_ret
      exact ⟨rfl, hown.size_le, hnx⟩

/-- How many different numbers. -/
def addI (l : List Int) (x : Int) : List Int := if l.contains x then l else l ++ [x]
def ndist (zs : List Int) : Nat := (zs.foldl addI []).length

theorem addKey_int (l : List Int) (x : Int) : addKey (l.map (Lit.int .i64)) (.int .i64 x) = (addI l x).map (Lit.int .i64) := by
  have any_int : ∀ l : List Int, (l.map (Lit.int .i64)).any (fun y : Lit => y.sameKey (.int .i64 x)) = l.contains x := by
    intro l
    induction l with
    | nil => rfl
    | cons a r ih =>
      rw [List.map_cons, List.any_cons, List.contains_cons, ih]
      congr 1
      show decide (IntKind.i64 = IntKind.i64 ∧ a = x) = (x == a)
      by_cases e : a = x
      · subst e; simp
      · have e' : ¬ x = a := fun h => e h.symm
        simp [e, e']
  unfold addKey addI
  rw [any_int]
  split <;> simp
theorem size_Sn (zs : List Int) : Maps.size (Sn zs zs.length) = ndist zs := by
  unfold Sn keys ndist
  rw [size_setOf _ _ (fun x hx => by obtain ⟨_, _, rfl⟩ := List.mem_map.1 hx; trivial), List.take_length]
  have : ∀ (zs l : List Int), ((zs.map (Lit.int .i64)).foldl addKey (l.map (Lit.int .i64))) = (zs.foldl addI l).map (Lit.int .i64) := by
    intro zs
    induction zs with
    | nil => intro l; rfl
    | cons a r ih => intro l; simp only [List.map_cons, List.foldl_cons]; rw [addKey_int, ih]
  have h := this zs []
  simp only [List.map_nil] at h
  rw [h, List.length_map]

/-- A walk that lets all older blocks stand, as a contract. -/
theorem dc_of_below {P : Program} {F : FuncId} {args : List D} {d : D} (h : ∀ I w s vs, SimH I w s (hpL []) → RDs I w s vs args → Calls P F vs w fun e w' => ∃ v, e = .returned v ∧ (∀ I w s, RD I w s v d) ∧ Below w.heap.size w w') :
    DC P F args [] (fun d' h' => d' = d ∧ h' = []) := fun I w s vs H hvs => by
  refine (h I w s vs H hvs).mono fun e w' ⟨v, he, hv, hb⟩ => ?_
  refine ⟨v, I, s, d, [], he, ⟨rfl, rfl⟩, hv _ _ _, ⟨H.top, fun k cs hk => by simp [hpL] at hk, fun k k' b cs cs' h => by simp [hpL] at h, fun b hb' => Nat.lt_of_lt_of_le (H.imm b hb') hb.size⟩, ?_, Nat.le_refl _⟩
  refine ⟨hb.os, hb.tape, hb.output, hb.size, fun b hlt _ => hb.block b hlt, fun b arr T fr hbk => ⟨arr, ?_, rfl⟩, fun _ _ => rfl, fun _ h => h, fun _ h => .inl h, fun _ h => .inl h⟩
  rw [hb.block b (lt_of_heap hbk), hbk]

theorem rc_int {I : Nat → Prop} {w : World} {s : Sg} {y : Value} {k : IntKind} {n : Int} (h : RC I w s y (.v (.int k n))) : y = .int k n := by
  cases h; rfl

theorem countImpl (zs : List Int) (hwz : ∀ n ∈ zs, InK .i64 n) : DC Tryz.prog 25 [.c (.isl 1 (zs.map fun n => [.v (.int .i64 n)]))] [] (fun d h => d = DI .i64 (ndist zs) ∧ h = []) := by
  refine dc_of_below (d := DI .i64 (ndist zs)) fun I w s vs H hvs => ?_
  obtain ⟨hsz, hrd⟩ := hvs
  obtain ⟨v, rfl⟩ : ∃ v, vs = #[v] := by
    rcases vs with ⟨l⟩
    match l, hsz with
    | [v], _ => exact ⟨v, rfl⟩
  have h0 : RD I w s v (.c (.isl 1 (zs.map fun n => [.v (.int .i64 n)]))) := hrd 0 (by simp) (by simp)
  obtain ⟨a, cap, rfl, hcap, hcase⟩ := rd_isl h0
  simp only [List.length_map] at hcap ⊢
  by_cases hnil : zs = []
  · subst hnil
    exact (count_none a cap w).mono fun e w' ⟨he, hb⟩ => ⟨_, he, fun _ _ _ => .c _ _ (.v _ _ rfl), hb⟩
  · rcases hcase with hn | ⟨b, off, y, rfl, hI, hl, hc, hr⟩
    · exact absurd (by simpa using hn) hnil
    · refine (count_any b off zs.length cap zs w (by have := hcap.2; have := mx_eq; omega) (Nat.le_refl _) (H.imm b hI) hwz fun j hj => ?_).mono fun e w' ⟨he, _, hb⟩ => ⟨_, he, fun _ _ _ => ?_, hb⟩
      · have h1 := hc j 0 (by simpa using hj) (by omega)
        have h2 := hr j (by simpa using hj) 0 (by simp)
        simp only [List.getElem_map, List.getElem_cons_zero] at h2
        have := rc_int h2
        rw [Nat.mul_one, Nat.add_zero] at h1
        rw [h1, this, List.getD, List.getElem?_eq_getElem hj]; rfl
      · rw [size_Sn]; exact .c _ _ (.v _ _ rfl)
end Go.Proofs.YtehmajhoaibphaaGreat.CtM
