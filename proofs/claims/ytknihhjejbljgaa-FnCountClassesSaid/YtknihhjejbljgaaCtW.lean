/- From what a claim's frame tells to a contract's words, and back. -/
import Derived.Test.YtknihhjejbljgaaCtV
import Derived.WalkKit
import Derived.ProofKit
import Derived.SizedLaws
set_option linter.unusedVariables false
set_option linter.unusedSimpArgs false
namespace Go.CT
open Go.RowKit

def ints (xs : List Int) : D := .c (.isl 1 (xs.map fun n => [.v (.int .i64 n)]))
def bytesD (xs : List Int) : D := .c (.isl 1 (xs.map fun n => [.v (.int .u8 n)]))
def intsK (k : IntKind) (xs : List Int) : D := .c (.isl 1 (xs.map fun n => [.v (.int k n)]))
/-- Each number fits. -/
def Fits (k : IntKind) (xs : List Int) : Prop := ∀ n ∈ xs, InK k n

def IsRow (k : IntKind) (w : World) (a : Option Addr) (len cap : Nat) (zs : List Int) : Prop :=
  (a = none ∧ len = 0 ∧ cap = 0 ∧ zs = []) ∨
  ∃ x, a = some x ∧ len ≤ cap ∧ zs.length = cap ∧ (∀ i, i < zs.length → w.cell? (x.add i) = some (.int k (zs.getD i 0))) ∧ ∀ n ∈ zs, (Lit.int k n).wf = true

theorem fits_of_wf {k : IntKind} {n : Int} (h : (Lit.int k n).wf = true) : InK k n := by
  simp only [Lit.wf, Bool.and_eq_true, decide_eq_true_eq] at h
  obtain ⟨h1, h2⟩ := h
  cases k <;> simp [IntKind.min, IntKind.max, IntKind.signed, IntKind.bits] at h1 h2 <;> simp only [InK] <;> omega

theorem IsRow.rd {k : IntKind} {w : World} {s : Sg} {a : Option Addr} {len cap : Nat} {zs : List Int} (h : IsRow k w a len cap zs) (hm : len ≤ mx) :
    RD (fun b => b < w.heap.size) w s (.slice a len cap) (intsK k (zs.take len)) ∧ Fits k (zs.take len) ∧ (zs.take len).length = len := by
  rcases h with ⟨rfl, rfl, rfl, rfl⟩ | ⟨x, rfl, hl, hz, hc, hwf⟩
  · exact ⟨.c _ _ (.isl0 _ _ _ _), by simp [Fits], rfl⟩
  · have hlen : (zs.take len).length = len := by rw [List.length_take]; omega
    refine ⟨?_, fun n hn => fits_of_wf (hwf n (List.mem_of_mem_take hn)), hlen⟩
    rcases Nat.eq_zero_or_pos len with h0 | hpos
    · subst h0
      simp only [intsK, List.take_zero, List.map_nil]
      exact .c _ _ (.isl0 _ _ _ _)
    · obtain ⟨b, off, spot⟩ := x
      have hspot : spot = none := by simpa [Addr.add] using World.cell?_spot (hc 0 (by omega))
      subst hspot
      have hb : b < w.heap.size := by
        have := hc 0 (by omega)
        simp only [Addr.add, if_true, World.cell?] at this
        split at this
        · rename_i h; exact lt_of_heap h
        · cases this
      have hcell : ∀ i, i < zs.length → w.cell? ⟨b, off + i, none⟩ = some (.int k (zs.getD i 0)) := fun i hi => by
        have := hc i hi
        rwa [add_plain] at this
      have := RC.isl (I := fun b => b < w.heap.size) (w := w) s b off cap 1 ((zs.take len).map fun n => [.v (.int k n)]) (fun i _ => .int k (zs.getD i 0)) hb (by simp)
        (fun i j hi hj => by
          have : j = 0 := by omega
          subst this
          simp only [List.length_map, hlen] at hi
          simpa using hcell i (by omega))
        (fun i hi j hj => by
          simp only [List.length_map, hlen] at hi
          have : j = 0 := by simpa using hj
          subst this
          have e : zs.getD i 0 = zs[i]'(by omega) := by simp [List.getD, List.getElem?_eq_getElem (show i < zs.length by omega)]
          simp only [List.getElem_map, List.getElem_cons_zero, List.getElem_take, e]
          exact .v _ _ rfl)
        (by simp only [List.length_map, hlen]; exact ⟨hl, hm⟩)
      simp only [List.length_map, hlen] at this
      exact .c _ _ this

/-- A contract of a law: true, and nothing that was there is turned. -/
theorem DC.below {P : Program} {F : FuncId} {args : List D} {w : World} {vs : Array Value} (h : DC P F args [] (fun d h' => d = DB true ∧ h' = [])) (hvs : ∀ s, RDs (fun b => b < w.heap.size) w s vs args) :
    Calls P F vs w fun e w' => e = .returned (.bool true) ∧ Below w.heap.size w w' := by
  refine (h (fun b => b < w.heap.size) w (fun _ => none) vs ⟨fun _ _ => rfl, fun k cs hk => by simp [hpL] at hk, fun k k' b cs cs' hk => by simp [hpL] at hk, fun b hb => hb⟩ (hvs _)).mono fun e w' ⟨v, I', s', d, h', he, ⟨hd, _⟩, hrd, _, hE, _⟩ => ?_
  subst hd
  obtain ⟨rfl, _⟩ := rd_scalar hrd
  exact ⟨he, hE.os, hE.tape, hE.output, hE.size, fun k hk => hE.same k hk fun ⟨j, cs, hj, _⟩ => by simp [hpL] at hj⟩

theorem RDs.one {I : Nat → Prop} {w : World} {s : Sg} {v : Value} {d : D} (h : RD I w s v d) : RDs I w s #[v] [d] :=
  ⟨rfl, fun j hj _ => by have : j = 0 := by simpa using hj
                         subst this; exact h⟩
theorem RDs.two {I : Nat → Prop} {w : World} {s : Sg} {v v' : Value} {d d' : D} (h : RD I w s v d) (h' : RD I w s v' d') : RDs I w s #[v, v'] [d, d'] :=
  ⟨rfl, fun j hj _ => by
    match j, hj with
    | 0, _ => exact h
    | 1, _ => exact h'⟩
theorem RDs.three {I : Nat → Prop} {w : World} {s : Sg} {v v' v'' : Value} {d d' d'' : D} (h : RD I w s v d) (h' : RD I w s v' d') (h'' : RD I w s v'' d'') : RDs I w s #[v, v', v''] [d, d', d''] :=
  ⟨rfl, fun j hj _ => by
    match j, hj with
    | 0, _ => exact h
    | 1, _ => exact h'
    | 2, _ => exact h''⟩
end Go.CT
