/- append. -/
import Derived.Test.YtknihhjejbljgaaCtH
set_option linter.unusedVariables false
set_option linter.unusedSimpArgs false
namespace Go.CT

section
variable {P : Program}

theorem append_room {t ty el : TypeId} {i : TypeInfo} (ht : P.underlying t = some (.slice el)) (hi : P.info? el = some i) (w : World) (b len cap m c : Nat) (T : TypeId) (arr : Array Value) (a : Option Addr) (news : List Value)
    (hb : w.heap[b]? = some (.cells arr T (0, 0))) (hf : (Builtin.firstCells i.size m (.slice a m c)).run P w = .ok news.toArray w) (h1 : ∀ v ∈ news, one v = true) (hroom : len + m ≤ cap) (hfit : len * i.size + news.length ≤ arr.size) :
    (Builtin.append_ #[t, t] ty #[.slice (some ⟨b, 0, none⟩) len cap, .slice a m c]).run P w =
      .ok (.slice (some ⟨b, 0, none⟩) (len + m) cap) { w with heap := w.heap.setIfInBounds b (.cells (setCells arr (len * i.size) news) T (0, 0)) } := by
  have hst := run_storeCells (P := P) b T news arr w (len * i.size) 0 hb (by simpa using hfit) h1
  simp only [Nat.add_zero] at hst
  have hadd : (⟨b, 0, none⟩ : Addr).add (len * i.size) = ⟨b, len * i.size, none⟩ := by rw [add_plain]; simp
  simp [Builtin.append_, Go.run_underlying ht, sizeOf, typeInfo, hi, Builtin.lenOf, hroom, hf, hadd, hst]

theorem append_room_none {t ty el : TypeId} {i : TypeInfo} (ht : P.underlying t = some (.slice el)) (hi : P.info? el = some i) (w : World) (len cap m c : Nat) (a : Option Addr) (news : List Value)
    (hf : (Builtin.firstCells i.size m (.slice a m c)).run P w = .ok news.toArray w) (hroom : len + m ≤ cap) :
    (Builtin.append_ #[t, t] ty #[.slice none len cap, .slice a m c]).run P w = .ok (.slice none (len + m) cap) w := by
  simp [Builtin.append_, Go.run_underlying ht, sizeOf, typeInfo, hi, Builtin.lenOf, hroom, hf]

theorem firstCells_zero (size : Nat) (a : Option Addr) (c : Nat) (w : World) : (Builtin.firstCells size 0 (.slice a 0 c)).run P w = .ok #[] w := by
  cases a with
  | none => simp [Builtin.firstCells]
  | some a => simp only [Builtin.firstCells, Nat.zero_mul]; rfl

theorem append_grow {t ty el : TypeId} {i : TypeInfo} {z : Value} (ht : P.underlying t = some (.slice el)) (hi : P.info? el = some i) (hz : i.zero = some z) (w : World) (sa : Option Addr) (len cap : Nat) (olds : List Value)
    (ho : (Builtin.firstCells i.size len (.slice sa len cap)).run P { w with drawn := w.drawn + 1 } = .ok olds.toArray { w with drawn := w.drawn + 1 }) (a : Option Addr) (m c : Nat) (news : List Value)
    (hf : (Builtin.firstCells i.size m (.slice a m c)).run P { w with drawn := w.drawn + 1 } = .ok news.toArray { w with drawn := w.drawn + 1 })
    (hg : cap < len + m) (h63 : ((len + m : Nat) : Int) ≤ 9223372036854775807) (hfit : Builtin.nextslicecap (len + m) cap * i.bytes ≤ 281474976710656) :
    (Builtin.append_ #[t, t] ty #[.slice sa len cap, .slice a m c]).run P w =
      .ok (.slice (some ⟨w.heap.size, 0, none⟩) (len + m) (grownCap w (len + m) cap el))
        (w.drew.alloc (.cells (olds.toArray ++ news.toArray ++ Builtin.zeroCells z.cells (grownCap w (len + m) cap el - (len + m))) el)) := by
  have hn : ¬ (len + m ≤ cap) := by omega
  have h63' : ¬ (9223372036854775807 < ((len : Int) + (m : Int))) := by omega
  have h48' : ¬ (281474976710656 < Builtin.nextslicecap (len + m) cap * i.bytes) := by omega
  have e : ({ w with drawn := w.drawn + 1 } : World) = w.drew := rfl
  rw [e] at ho hf
  simp [Builtin.append_, Go.run_underlying ht, sizeOf, typeInfo, zeroValue, hi, hz, Builtin.lenOf, hn, h63', h48', Question.forced, ho, hf, newRow, grownCap]
  have e2 : ∀ (x y : List Value) (z : Array Value), x.toArray ++ (y.toArray ++ z) = (x ++ y).toArray ++ z := fun x y z => by
    apply Array.ext'; simp
  rw [e2]

theorem grownCap_ge' (w : World) (need old : Nat) (e : TypeId) : need ≤ grownCap w need old e := by
  unfold grownCap Question.cut
  simp

theorem firstCells_row (w : World) (size m c b off : Nat) (ys : List Value) (hl : ys.length = m * size) (hy : ∀ j v, ys[j]? = some v → w.cell? ⟨b, off + j, none⟩ = some v) :
    (Builtin.firstCells size m (.slice (some ⟨b, off, none⟩) m c)).run P w = .ok ys.toArray w := by
  simp only [Builtin.firstCells]
  have := run_loadCells (P := P) b off (fun j => ys.getD j undef) w (m * size) (fun j hj => by
    have hj' : j < ys.length := by omega
    refine hy j _ ?_
    simp [List.getD_eq_getElem?_getD, hj'])
  rw [this]
  congr 2
  apply List.ext_getElem?
  intro j
  by_cases hj : j < m * size
  · have hj' : j < ys.length := by omega
    simp [List.getElem?_range hj, List.getD_eq_getElem?_getD, hj']
  · rw [List.getElem?_eq_none (by simp; omega), List.getElem?_eq_none (by omega)]

end
end Go.CT
