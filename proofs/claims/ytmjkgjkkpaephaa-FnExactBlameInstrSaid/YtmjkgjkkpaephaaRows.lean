/-
  No cell of these rows narrows 'for every input' (looked for: loops, veiled, ifaces, maps, wideKeys, modest, calm, conditions, laid).
  DERIVED. THE GIVEN ROWS OF THIS SEAT. 4 by the template 'for every input the law returns true; each argument reads behind the call as it read before'; 0 by the template 'total and deterministic' (their statements: YtmjkgjkkpaephaaTotals.lean).
  GIVEN WITH THE SEED: the statements are not yours to turn. If you find one false, say at which input.
  Laid BY PROGRAM, IN A SANDBOX (cutbox-rows.mjs): the forced cells as the released guide's own fill.sh prints them over the translation f0d0b25c9ab7a814… (all of the seat's roots in one cut). By AI agents, Wed Nov 11 2026. No macro, syntax, notation, axiom, sorry.
-/
import Derived.Test.YtmjkgjkkpaephaaChecked
import GoSem.Claim
import GoSem.ClaimJoined
import GoSem.ClaimMapViews
import Derived.JoinedTies
import Derived.KernelRfl
namespace Go.Proofs.Ytmjkgjkkpaephaa
/- THE CELL 'sum', in the pinned program and in every row, IS THE sha256 OF THE DUMP (.gsa) THAT YtmjkgjkkpaephaaProg.lean LOADS. Nothing in Lean hashes anything: it is a label: what it is worth is what the hold of that sum in a sandbox is worth. -/
noncomputable def Try.pinned : Pinned := { name := "ytmjkgjkkpaephaa", sum := "f0d0b25c9ab7a814455940ecf3e52c3d3428b9aa40234a1d46db65b7aa44d8b0", checked := Try.checked }
namespace Rows
def none {H : Type} : Left H := { results := [], args := [] }

/-- 'laws.FnExactBlameInstr': WHATEVER THE INPUT: true; the input reads as it did. -/
def fnExactBlameInstrSpec : ChangeSpec := { name := "fnExactBlameInstr", fn := fun _ => fun
  | [d1, d2, d3] => { results := [.lit (.bool true)], args := [d1, d2, d3] }
  | _ => none }
def fnExactBlameInstrRow : OpenClaim := { program := "ytmjkgjkkpaephaa", sum := "f0d0b25c9ab7a814455940ecf3e52c3d3428b9aa40234a1d46db65b7aa44d8b0", func := "loop.example/constanttime/laws.FnExactBlameInstr", spec := "fnExactBlameInstr", unfollowed := true, recurses := true, apart := false }
def FnExactBlameInstrSaid : Prop := fnExactBlameInstrRow.holds Try.pinned (OpenSpec.ofChange fnExactBlameInstrSpec)

/-- ITS FALSE NEIGHBOUR: 'it returns false'. Refute it at one input. -/
def fnExactBlameInstrWrong : ChangeSpec := { name := "fnExactBlameInstr", fn := fun _ => fun
  | [d1, d2, d3] => { results := [.lit (.bool false)], args := [d1, d2, d3] }
  | _ => none }
def FnExactBlameInstrWrongFalsely : Prop := fnExactBlameInstrRow.holds Try.pinned (OpenSpec.ofChange fnExactBlameInstrWrong)

/-- 'laws.FnBlameInstr': WHATEVER THE INPUT: true; the input reads as it did. -/
def fnBlameInstrSpec : ChangeSpec := { name := "fnBlameInstr", fn := fun _ => fun
  | [d] => { results := [.lit (.bool true)], args := [d] }
  | _ => none }
def fnBlameInstrRow : OpenClaim := { program := "ytmjkgjkkpaephaa", sum := "f0d0b25c9ab7a814455940ecf3e52c3d3428b9aa40234a1d46db65b7aa44d8b0", func := "loop.example/constanttime/laws.FnBlameInstr", spec := "fnBlameInstr", unfollowed := true, recurses := true, apart := false }
def FnBlameInstrSaid : Prop := fnBlameInstrRow.holds Try.pinned (OpenSpec.ofChange fnBlameInstrSpec)

/-- ITS FALSE NEIGHBOUR: 'it returns false'. Refute it at one input. -/
def fnBlameInstrWrong : ChangeSpec := { name := "fnBlameInstr", fn := fun _ => fun
  | [d] => { results := [.lit (.bool false)], args := [d] }
  | _ => none }
def FnBlameInstrWrongFalsely : Prop := fnBlameInstrRow.holds Try.pinned (OpenSpec.ofChange fnBlameInstrWrong)

/-- 'laws.FnBlameSame': WHATEVER THE INPUT: true; the input reads as it did. -/
def fnBlameSameSpec : ChangeSpec := { name := "fnBlameSame", fn := fun _ => fun
  | [d] => { results := [.lit (.bool true)], args := [d] }
  | _ => none }
def fnBlameSameRow : OpenClaim := { program := "ytmjkgjkkpaephaa", sum := "f0d0b25c9ab7a814455940ecf3e52c3d3428b9aa40234a1d46db65b7aa44d8b0", func := "loop.example/constanttime/laws.FnBlameSame", spec := "fnBlameSame", unfollowed := true, recurses := true, apart := false }
def FnBlameSameSaid : Prop := fnBlameSameRow.holds Try.pinned (OpenSpec.ofChange fnBlameSameSpec)

/-- ITS FALSE NEIGHBOUR: 'it returns false'. Refute it at one input. -/
def fnBlameSameWrong : ChangeSpec := { name := "fnBlameSame", fn := fun _ => fun
  | [d] => { results := [.lit (.bool false)], args := [d] }
  | _ => none }
def FnBlameSameWrongFalsely : Prop := fnBlameSameRow.holds Try.pinned (OpenSpec.ofChange fnBlameSameWrong)

/-- 'laws.FnExactFindDifference': WHATEVER THE INPUT: true; the input reads as it did. -/
def fnExactFindDifferenceSpec : ChangeSpec := { name := "fnExactFindDifference", fn := fun _ => fun
  | [d1, d2] => { results := [.lit (.bool true)], args := [d1, d2] }
  | _ => none }
def fnExactFindDifferenceRow : OpenClaim := { program := "ytmjkgjkkpaephaa", sum := "f0d0b25c9ab7a814455940ecf3e52c3d3428b9aa40234a1d46db65b7aa44d8b0", func := "loop.example/constanttime/laws.FnExactFindDifference", spec := "fnExactFindDifference", unfollowed := true, recurses := true, apart := false }
def FnExactFindDifferenceSaid : Prop := fnExactFindDifferenceRow.holds Try.pinned (OpenSpec.ofChange fnExactFindDifferenceSpec)

/-- ITS FALSE NEIGHBOUR: 'it returns false'. Refute it at one input. -/
def fnExactFindDifferenceWrong : ChangeSpec := { name := "fnExactFindDifference", fn := fun _ => fun
  | [d1, d2] => { results := [.lit (.bool false)], args := [d1, d2] }
  | _ => none }
def FnExactFindDifferenceWrongFalsely : Prop := fnExactFindDifferenceRow.holds Try.pinned (OpenSpec.ofChange fnExactFindDifferenceWrong)

/- THE SECOND FORM. 'bulk': how many values and letters a reading holds, each counted each time it is reached (what is shared counts as often as it is met; a slice's spare places count too). A statement '..UptoSaid' is the law's where the arguments, and the package variables that the reading takes, are together of bulk at most 1048576: NARROWER than '..Said'. Prove '..Said' where nothing that the law and all that it calls make is longer than what came in: it says more and counts as full. Else prove '..UptoSaid'. A law counts once. -/
mutual
def uptoBulk {H : Type} : DataW H → Nat
  | .lit (.string bytes) => bytes.length + 1
  | .lit _ => 1
  | .nil => 1
  | .ptr d => uptoBulk d + 1
  | .slice elems spare => uptoBulkAll elems + uptoBulkAll spare + 1
  | .agg parts => uptoBulkAll parts + 1
  | .iface _ d => uptoBulk d + 1
  | .map entries => uptoBulkEntries entries + 1
  | .held _ => 1
def uptoBulkAll {H : Type} : List (DataW H) → Nat
  | [] => 0
  | d :: r => uptoBulk d + uptoBulkAll r
def uptoBulkEntries {H : Type} : List (Lit × DataW H) → Nat
  | [] => 0
  | x :: r => uptoBulkEntry x + uptoBulkEntries r
def uptoBulkEntry {H : Type} : Lit × DataW H → Nat
  | (.string bytes, d) => bytes.length + uptoBulk d + 1
  | (_, d) => uptoBulk d + 1
 end
def uptoSmall : (H : Type) → List (DataW H) → Bool := fun _ ds => decide (uptoBulkAll ds ≤ 1048576)
def OpenSpec.upto (s : _root_.Go.ChangeSpec) : _root_.Go.OpenSpec := { _root_.Go.OpenSpec.ofChange s with cond := some uptoSmall }

/-- 'laws.FnExactBlameInstr', WHERE WHAT IT READS IS OF BULK AT MOST 1048576: true; the input reads as it did. -/
def fnExactBlameInstrUptoRow : OpenClaim := { program := "ytmjkgjkkpaephaa", sum := "f0d0b25c9ab7a814455940ecf3e52c3d3428b9aa40234a1d46db65b7aa44d8b0", func := "loop.example/constanttime/laws.FnExactBlameInstr", spec := "fnExactBlameInstr", unfollowed := true, recurses := true, apart := false, narrowed := true }
def FnExactBlameInstrUptoSaid : Prop := fnExactBlameInstrUptoRow.holds Try.pinned (OpenSpec.upto fnExactBlameInstrSpec)

/-- 'laws.FnBlameInstr', WHERE WHAT IT READS IS OF BULK AT MOST 1048576: true; the input reads as it did. -/
def fnBlameInstrUptoRow : OpenClaim := { program := "ytmjkgjkkpaephaa", sum := "f0d0b25c9ab7a814455940ecf3e52c3d3428b9aa40234a1d46db65b7aa44d8b0", func := "loop.example/constanttime/laws.FnBlameInstr", spec := "fnBlameInstr", unfollowed := true, recurses := true, apart := false, narrowed := true }
def FnBlameInstrUptoSaid : Prop := fnBlameInstrUptoRow.holds Try.pinned (OpenSpec.upto fnBlameInstrSpec)

/-- 'laws.FnBlameSame', WHERE WHAT IT READS IS OF BULK AT MOST 1048576: true; the input reads as it did. -/
def fnBlameSameUptoRow : OpenClaim := { program := "ytmjkgjkkpaephaa", sum := "f0d0b25c9ab7a814455940ecf3e52c3d3428b9aa40234a1d46db65b7aa44d8b0", func := "loop.example/constanttime/laws.FnBlameSame", spec := "fnBlameSame", unfollowed := true, recurses := true, apart := false, narrowed := true }
def FnBlameSameUptoSaid : Prop := fnBlameSameUptoRow.holds Try.pinned (OpenSpec.upto fnBlameSameSpec)

/-- 'laws.FnExactFindDifference', WHERE WHAT IT READS IS OF BULK AT MOST 1048576: true; the input reads as it did. -/
def fnExactFindDifferenceUptoRow : OpenClaim := { program := "ytmjkgjkkpaephaa", sum := "f0d0b25c9ab7a814455940ecf3e52c3d3428b9aa40234a1d46db65b7aa44d8b0", func := "loop.example/constanttime/laws.FnExactFindDifference", spec := "fnExactFindDifference", unfollowed := true, recurses := true, apart := false, narrowed := true }
def FnExactFindDifferenceUptoSaid : Prop := fnExactFindDifferenceUptoRow.holds Try.pinned (OpenSpec.upto fnExactFindDifferenceSpec)

end Rows
end Go.Proofs.Ytmjkgjkkpaephaa
