/-
  NARROWER THAN 'FOR EVERY INPUT', by the rows' own cells (each row's printed sentence says how): FnExactReleaseDepends: loops · FnExactTraceDepends: loops · FnExactDependsOn: loops · FnExactSliceProgram: loops · FnExactSecretOutputs: loops · FnExactReleasedValues: loops · FnExactLeakClasses: loops · FnExactRunProgram: loops.
  DERIVED. THE GIVEN ROWS OF THIS SEAT. 11 by the template 'for every input the law returns true; each argument reads behind the call as it read before'; 0 by the template 'total and deterministic' (their statements: YtddanjifhdaebaaTotals.lean).
  GIVEN WITH THE SEED: the statements are not yours to turn. If you find one false, say at which input.
  Laid BY PROGRAM, IN A SANDBOX (cutbox-rows.mjs): the forced cells as the released guide's own fill.sh prints them over the translation 6781c9d115e51fa9… (all of the seat's roots in one cut). By AI agents, Wed Nov 11 2026. No macro, syntax, notation, axiom, sorry.
-/
import Derived.Test.YtddanjifhdaebaaChecked
import GoSem.Claim
import GoSem.ClaimJoined
import GoSem.ClaimMapViews
import Derived.JoinedTies
import Derived.KernelRfl
namespace Go.Proofs.Ytddanjifhdaebaa
/- THE CELL 'sum', in the pinned program and in every row, IS THE sha256 OF THE DUMP (.gsa) THAT YtddanjifhdaebaaProg.lean LOADS. Nothing in Lean hashes anything: it is a label: what it is worth is what the hold of that sum in a sandbox is worth. -/
noncomputable def Try.pinned : Pinned := { name := "ytddanjifhdaebaa", sum := "6781c9d115e51fa94491f3bfc94f08f70053e9de59220256f993fea05a286f9d", checked := Try.checked }
namespace Rows
def none {H : Type} : Left H := { results := [], args := [] }

/-- 'laws.FnExactFindDifference': WHATEVER THE INPUT: true; the input reads as it did. -/
def fnExactFindDifferenceSpec : ChangeSpec := { name := "fnExactFindDifference", fn := fun _ => fun
  | [d1, d2] => { results := [.lit (.bool true)], args := [d1, d2] }
  | _ => none }
def fnExactFindDifferenceRow : OpenClaim := { program := "ytddanjifhdaebaa", sum := "6781c9d115e51fa94491f3bfc94f08f70053e9de59220256f993fea05a286f9d", func := "loop.example/constanttime/laws.FnExactFindDifference", spec := "fnExactFindDifference", unfollowed := true, recurses := true, apart := false }
def FnExactFindDifferenceSaid : Prop := fnExactFindDifferenceRow.holds Try.pinned (OpenSpec.ofChange fnExactFindDifferenceSpec)

/-- ITS FALSE NEIGHBOUR: 'it returns false'. Refute it at one input. -/
def fnExactFindDifferenceWrong : ChangeSpec := { name := "fnExactFindDifference", fn := fun _ => fun
  | [d1, d2] => { results := [.lit (.bool false)], args := [d1, d2] }
  | _ => none }
def FnExactFindDifferenceWrongFalsely : Prop := fnExactFindDifferenceRow.holds Try.pinned (OpenSpec.ofChange fnExactFindDifferenceWrong)

/-- 'laws.FnExactReleaseDepends': WHATEVER THE INPUT: true; the input reads as it did. -/
def fnExactReleaseDependsSpec : ChangeSpec := { name := "fnExactReleaseDepends", fn := fun _ => fun
  | [d] => { results := [.lit (.bool true)], args := [d] }
  | _ => none }
def fnExactReleaseDependsRow : OpenClaim := { program := "ytddanjifhdaebaa", sum := "6781c9d115e51fa94491f3bfc94f08f70053e9de59220256f993fea05a286f9d", func := "loop.example/constanttime/laws.FnExactReleaseDepends", spec := "fnExactReleaseDepends", unfollowed := true, recurses := true, loops := true, apart := false }
def FnExactReleaseDependsSaid : Prop := fnExactReleaseDependsRow.holds Try.pinned (OpenSpec.ofChange fnExactReleaseDependsSpec)

/-- ITS FALSE NEIGHBOUR: 'it returns false'. Refute it at one input. -/
def fnExactReleaseDependsWrong : ChangeSpec := { name := "fnExactReleaseDepends", fn := fun _ => fun
  | [d] => { results := [.lit (.bool false)], args := [d] }
  | _ => none }
def FnExactReleaseDependsWrongFalsely : Prop := fnExactReleaseDependsRow.holds Try.pinned (OpenSpec.ofChange fnExactReleaseDependsWrong)

/-- 'laws.FnExactTraceDepends': WHATEVER THE INPUT: true; the input reads as it did. -/
def fnExactTraceDependsSpec : ChangeSpec := { name := "fnExactTraceDepends", fn := fun _ => fun
  | [d] => { results := [.lit (.bool true)], args := [d] }
  | _ => none }
def fnExactTraceDependsRow : OpenClaim := { program := "ytddanjifhdaebaa", sum := "6781c9d115e51fa94491f3bfc94f08f70053e9de59220256f993fea05a286f9d", func := "loop.example/constanttime/laws.FnExactTraceDepends", spec := "fnExactTraceDepends", unfollowed := true, recurses := true, loops := true, apart := false }
def FnExactTraceDependsSaid : Prop := fnExactTraceDependsRow.holds Try.pinned (OpenSpec.ofChange fnExactTraceDependsSpec)

/-- ITS FALSE NEIGHBOUR: 'it returns false'. Refute it at one input. -/
def fnExactTraceDependsWrong : ChangeSpec := { name := "fnExactTraceDepends", fn := fun _ => fun
  | [d] => { results := [.lit (.bool false)], args := [d] }
  | _ => none }
def FnExactTraceDependsWrongFalsely : Prop := fnExactTraceDependsRow.holds Try.pinned (OpenSpec.ofChange fnExactTraceDependsWrong)

/-- 'laws.FnExactDependsOn': WHATEVER THE INPUT: true; the input reads as it did. -/
def fnExactDependsOnSpec : ChangeSpec := { name := "fnExactDependsOn", fn := fun _ => fun
  | [d] => { results := [.lit (.bool true)], args := [d] }
  | _ => none }
def fnExactDependsOnRow : OpenClaim := { program := "ytddanjifhdaebaa", sum := "6781c9d115e51fa94491f3bfc94f08f70053e9de59220256f993fea05a286f9d", func := "loop.example/constanttime/laws.FnExactDependsOn", spec := "fnExactDependsOn", unfollowed := true, recurses := true, loops := true, apart := false }
def FnExactDependsOnSaid : Prop := fnExactDependsOnRow.holds Try.pinned (OpenSpec.ofChange fnExactDependsOnSpec)

/-- ITS FALSE NEIGHBOUR: 'it returns false'. Refute it at one input. -/
def fnExactDependsOnWrong : ChangeSpec := { name := "fnExactDependsOn", fn := fun _ => fun
  | [d] => { results := [.lit (.bool false)], args := [d] }
  | _ => none }
def FnExactDependsOnWrongFalsely : Prop := fnExactDependsOnRow.holds Try.pinned (OpenSpec.ofChange fnExactDependsOnWrong)

/-- 'laws.FnExactSliceProgram': WHATEVER THE INPUT: true; the input reads as it did. -/
def fnExactSliceProgramSpec : ChangeSpec := { name := "fnExactSliceProgram", fn := fun _ => fun
  | [d1, d2] => { results := [.lit (.bool true)], args := [d1, d2] }
  | _ => none }
def fnExactSliceProgramRow : OpenClaim := { program := "ytddanjifhdaebaa", sum := "6781c9d115e51fa94491f3bfc94f08f70053e9de59220256f993fea05a286f9d", func := "loop.example/constanttime/laws.FnExactSliceProgram", spec := "fnExactSliceProgram", unfollowed := true, recurses := true, loops := true, apart := false }
def FnExactSliceProgramSaid : Prop := fnExactSliceProgramRow.holds Try.pinned (OpenSpec.ofChange fnExactSliceProgramSpec)

/-- ITS FALSE NEIGHBOUR: 'it returns false'. Refute it at one input. -/
def fnExactSliceProgramWrong : ChangeSpec := { name := "fnExactSliceProgram", fn := fun _ => fun
  | [d1, d2] => { results := [.lit (.bool false)], args := [d1, d2] }
  | _ => none }
def FnExactSliceProgramWrongFalsely : Prop := fnExactSliceProgramRow.holds Try.pinned (OpenSpec.ofChange fnExactSliceProgramWrong)

/-- 'laws.FnExactSecretOutputs': WHATEVER THE INPUT: true; the input reads as it did. -/
def fnExactSecretOutputsSpec : ChangeSpec := { name := "fnExactSecretOutputs", fn := fun _ => fun
  | [d] => { results := [.lit (.bool true)], args := [d] }
  | _ => none }
def fnExactSecretOutputsRow : OpenClaim := { program := "ytddanjifhdaebaa", sum := "6781c9d115e51fa94491f3bfc94f08f70053e9de59220256f993fea05a286f9d", func := "loop.example/constanttime/laws.FnExactSecretOutputs", spec := "fnExactSecretOutputs", unfollowed := true, recurses := true, loops := true, apart := false }
def FnExactSecretOutputsSaid : Prop := fnExactSecretOutputsRow.holds Try.pinned (OpenSpec.ofChange fnExactSecretOutputsSpec)

/-- ITS FALSE NEIGHBOUR: 'it returns false'. Refute it at one input. -/
def fnExactSecretOutputsWrong : ChangeSpec := { name := "fnExactSecretOutputs", fn := fun _ => fun
  | [d] => { results := [.lit (.bool false)], args := [d] }
  | _ => none }
def FnExactSecretOutputsWrongFalsely : Prop := fnExactSecretOutputsRow.holds Try.pinned (OpenSpec.ofChange fnExactSecretOutputsWrong)

/-- 'laws.FnExactReleasedValues': WHATEVER THE INPUT: true; the input reads as it did. -/
def fnExactReleasedValuesSpec : ChangeSpec := { name := "fnExactReleasedValues", fn := fun _ => fun
  | [d1, d2] => { results := [.lit (.bool true)], args := [d1, d2] }
  | _ => none }
def fnExactReleasedValuesRow : OpenClaim := { program := "ytddanjifhdaebaa", sum := "6781c9d115e51fa94491f3bfc94f08f70053e9de59220256f993fea05a286f9d", func := "loop.example/constanttime/laws.FnExactReleasedValues", spec := "fnExactReleasedValues", unfollowed := true, recurses := true, loops := true, apart := false }
def FnExactReleasedValuesSaid : Prop := fnExactReleasedValuesRow.holds Try.pinned (OpenSpec.ofChange fnExactReleasedValuesSpec)

/-- ITS FALSE NEIGHBOUR: 'it returns false'. Refute it at one input. -/
def fnExactReleasedValuesWrong : ChangeSpec := { name := "fnExactReleasedValues", fn := fun _ => fun
  | [d1, d2] => { results := [.lit (.bool false)], args := [d1, d2] }
  | _ => none }
def FnExactReleasedValuesWrongFalsely : Prop := fnExactReleasedValuesRow.holds Try.pinned (OpenSpec.ofChange fnExactReleasedValuesWrong)

/-- 'laws.FnBlameInstr': WHATEVER THE INPUT: true; the input reads as it did. -/
def fnBlameInstrSpec : ChangeSpec := { name := "fnBlameInstr", fn := fun _ => fun
  | [d] => { results := [.lit (.bool true)], args := [d] }
  | _ => none }
def fnBlameInstrRow : OpenClaim := { program := "ytddanjifhdaebaa", sum := "6781c9d115e51fa94491f3bfc94f08f70053e9de59220256f993fea05a286f9d", func := "loop.example/constanttime/laws.FnBlameInstr", spec := "fnBlameInstr", unfollowed := true, recurses := true, apart := false }
def FnBlameInstrSaid : Prop := fnBlameInstrRow.holds Try.pinned (OpenSpec.ofChange fnBlameInstrSpec)

/-- ITS FALSE NEIGHBOUR: 'it returns false'. Refute it at one input. -/
def fnBlameInstrWrong : ChangeSpec := { name := "fnBlameInstr", fn := fun _ => fun
  | [d] => { results := [.lit (.bool false)], args := [d] }
  | _ => none }
def FnBlameInstrWrongFalsely : Prop := fnBlameInstrRow.holds Try.pinned (OpenSpec.ofChange fnBlameInstrWrong)

/-- 'laws.FnExactLeakClasses': WHATEVER THE INPUT: true; the input reads as it did. -/
def fnExactLeakClassesSpec : ChangeSpec := { name := "fnExactLeakClasses", fn := fun _ => fun
  | [d1, d2, d3] => { results := [.lit (.bool true)], args := [d1, d2, d3] }
  | _ => none }
def fnExactLeakClassesRow : OpenClaim := { program := "ytddanjifhdaebaa", sum := "6781c9d115e51fa94491f3bfc94f08f70053e9de59220256f993fea05a286f9d", func := "loop.example/constanttime/laws.FnExactLeakClasses", spec := "fnExactLeakClasses", unfollowed := true, recurses := true, loops := true, apart := false }
def FnExactLeakClassesSaid : Prop := fnExactLeakClassesRow.holds Try.pinned (OpenSpec.ofChange fnExactLeakClassesSpec)

/-- ITS FALSE NEIGHBOUR: 'it returns false'. Refute it at one input. -/
def fnExactLeakClassesWrong : ChangeSpec := { name := "fnExactLeakClasses", fn := fun _ => fun
  | [d1, d2, d3] => { results := [.lit (.bool false)], args := [d1, d2, d3] }
  | _ => none }
def FnExactLeakClassesWrongFalsely : Prop := fnExactLeakClassesRow.holds Try.pinned (OpenSpec.ofChange fnExactLeakClassesWrong)

/-- 'laws.FnBlameSame': WHATEVER THE INPUT: true; the input reads as it did. -/
def fnBlameSameSpec : ChangeSpec := { name := "fnBlameSame", fn := fun _ => fun
  | [d] => { results := [.lit (.bool true)], args := [d] }
  | _ => none }
def fnBlameSameRow : OpenClaim := { program := "ytddanjifhdaebaa", sum := "6781c9d115e51fa94491f3bfc94f08f70053e9de59220256f993fea05a286f9d", func := "loop.example/constanttime/laws.FnBlameSame", spec := "fnBlameSame", unfollowed := true, recurses := true, apart := false }
def FnBlameSameSaid : Prop := fnBlameSameRow.holds Try.pinned (OpenSpec.ofChange fnBlameSameSpec)

/-- ITS FALSE NEIGHBOUR: 'it returns false'. Refute it at one input. -/
def fnBlameSameWrong : ChangeSpec := { name := "fnBlameSame", fn := fun _ => fun
  | [d] => { results := [.lit (.bool false)], args := [d] }
  | _ => none }
def FnBlameSameWrongFalsely : Prop := fnBlameSameRow.holds Try.pinned (OpenSpec.ofChange fnBlameSameWrong)

/-- 'laws.FnExactRunProgram': WHATEVER THE INPUT: true; the input reads as it did. -/
def fnExactRunProgramSpec : ChangeSpec := { name := "fnExactRunProgram", fn := fun _ => fun
  | [d1, d2] => { results := [.lit (.bool true)], args := [d1, d2] }
  | _ => none }
def fnExactRunProgramRow : OpenClaim := { program := "ytddanjifhdaebaa", sum := "6781c9d115e51fa94491f3bfc94f08f70053e9de59220256f993fea05a286f9d", func := "loop.example/constanttime/laws.FnExactRunProgram", spec := "fnExactRunProgram", unfollowed := true, recurses := true, loops := true, apart := false }
def FnExactRunProgramSaid : Prop := fnExactRunProgramRow.holds Try.pinned (OpenSpec.ofChange fnExactRunProgramSpec)

/-- ITS FALSE NEIGHBOUR: 'it returns false'. Refute it at one input. -/
def fnExactRunProgramWrong : ChangeSpec := { name := "fnExactRunProgram", fn := fun _ => fun
  | [d1, d2] => { results := [.lit (.bool false)], args := [d1, d2] }
  | _ => none }
def FnExactRunProgramWrongFalsely : Prop := fnExactRunProgramRow.holds Try.pinned (OpenSpec.ofChange fnExactRunProgramWrong)

/- THE SECOND FORM. 'bulk': how many values and letters a reading holds, each counted each time it is reached (what is shared counts as often as it is met; a slice's spare places count too). A statement '..UptoSaid' is the law's where the arguments, and the package variables that the reading takes, are together of bulk at most 1048576: NARROWER than '..Said'. Prove '..Said' where nothing that the law and all that it calls make is longer than what came in: it says more and counts as full. Else prove '..UptoSaid'. A law counts once. -/
mutual
def uptoBulk {H : Type} : DataW H → Nat
  | .lit (.string bytes) => bytes.length + 1
  | .lit _ => 1
  | .nil => 1
  | .ptr d => uptoBulk d + 1
  | .slice elems spare => uptoBulkAll elems + uptoBulkAll spare + 1
  | .agg parts => uptoBulkAll parts + 1
  | .iface _ d => uptoBulk d + 1
  | .map entries => uptoBulkEntries entries + 1
  | .held _ => 1
def uptoBulkAll {H : Type} : List (DataW H) → Nat
  | [] => 0
  | d :: r => uptoBulk d + uptoBulkAll r
def uptoBulkEntries {H : Type} : List (Lit × DataW H) → Nat
  | [] => 0
  | x :: r => uptoBulkEntry x + uptoBulkEntries r
def uptoBulkEntry {H : Type} : Lit × DataW H → Nat
  | (.string bytes, d) => bytes.length + uptoBulk d + 1
  | (_, d) => uptoBulk d + 1
 end
def uptoSmall : (H : Type) → List (DataW H) → Bool := fun _ ds => decide (uptoBulkAll ds ≤ 1048576)
def OpenSpec.upto (s : _root_.Go.ChangeSpec) : _root_.Go.OpenSpec := { _root_.Go.OpenSpec.ofChange s with cond := some uptoSmall }

/-- 'laws.FnExactFindDifference', WHERE WHAT IT READS IS OF BULK AT MOST 1048576: true; the input reads as it did. -/
def fnExactFindDifferenceUptoRow : OpenClaim := { program := "ytddanjifhdaebaa", sum := "6781c9d115e51fa94491f3bfc94f08f70053e9de59220256f993fea05a286f9d", func := "loop.example/constanttime/laws.FnExactFindDifference", spec := "fnExactFindDifference", unfollowed := true, recurses := true, apart := false, narrowed := true }
def FnExactFindDifferenceUptoSaid : Prop := fnExactFindDifferenceUptoRow.holds Try.pinned (OpenSpec.upto fnExactFindDifferenceSpec)

/-- 'laws.FnExactReleaseDepends', WHERE WHAT IT READS IS OF BULK AT MOST 1048576: true; the input reads as it did. -/
def fnExactReleaseDependsUptoRow : OpenClaim := { program := "ytddanjifhdaebaa", sum := "6781c9d115e51fa94491f3bfc94f08f70053e9de59220256f993fea05a286f9d", func := "loop.example/constanttime/laws.FnExactReleaseDepends", spec := "fnExactReleaseDepends", unfollowed := true, recurses := true, loops := true, apart := false, narrowed := true }
def FnExactReleaseDependsUptoSaid : Prop := fnExactReleaseDependsUptoRow.holds Try.pinned (OpenSpec.upto fnExactReleaseDependsSpec)

/-- 'laws.FnExactTraceDepends', WHERE WHAT IT READS IS OF BULK AT MOST 1048576: true; the input reads as it did. -/
def fnExactTraceDependsUptoRow : OpenClaim := { program := "ytddanjifhdaebaa", sum := "6781c9d115e51fa94491f3bfc94f08f70053e9de59220256f993fea05a286f9d", func := "loop.example/constanttime/laws.FnExactTraceDepends", spec := "fnExactTraceDepends", unfollowed := true, recurses := true, loops := true, apart := false, narrowed := true }
def FnExactTraceDependsUptoSaid : Prop := fnExactTraceDependsUptoRow.holds Try.pinned (OpenSpec.upto fnExactTraceDependsSpec)

/-- 'laws.FnExactDependsOn', WHERE WHAT IT READS IS OF BULK AT MOST 1048576: true; the input reads as it did. -/
def fnExactDependsOnUptoRow : OpenClaim := { program := "ytddanjifhdaebaa", sum := "6781c9d115e51fa94491f3bfc94f08f70053e9de59220256f993fea05a286f9d", func := "loop.example/constanttime/laws.FnExactDependsOn", spec := "fnExactDependsOn", unfollowed := true, recurses := true, loops := true, apart := false, narrowed := true }
def FnExactDependsOnUptoSaid : Prop := fnExactDependsOnUptoRow.holds Try.pinned (OpenSpec.upto fnExactDependsOnSpec)

/-- 'laws.FnExactSliceProgram', WHERE WHAT IT READS IS OF BULK AT MOST 1048576: true; the input reads as it did. -/
def fnExactSliceProgramUptoRow : OpenClaim := { program := "ytddanjifhdaebaa", sum := "6781c9d115e51fa94491f3bfc94f08f70053e9de59220256f993fea05a286f9d", func := "loop.example/constanttime/laws.FnExactSliceProgram", spec := "fnExactSliceProgram", unfollowed := true, recurses := true, loops := true, apart := false, narrowed := true }
def FnExactSliceProgramUptoSaid : Prop := fnExactSliceProgramUptoRow.holds Try.pinned (OpenSpec.upto fnExactSliceProgramSpec)

/-- 'laws.FnExactSecretOutputs', WHERE WHAT IT READS IS OF BULK AT MOST 1048576: true; the input reads as it did. -/
def fnExactSecretOutputsUptoRow : OpenClaim := { program := "ytddanjifhdaebaa", sum := "6781c9d115e51fa94491f3bfc94f08f70053e9de59220256f993fea05a286f9d", func := "loop.example/constanttime/laws.FnExactSecretOutputs", spec := "fnExactSecretOutputs", unfollowed := true, recurses := true, loops := true, apart := false, narrowed := true }
def FnExactSecretOutputsUptoSaid : Prop := fnExactSecretOutputsUptoRow.holds Try.pinned (OpenSpec.upto fnExactSecretOutputsSpec)

/-- 'laws.FnExactReleasedValues', WHERE WHAT IT READS IS OF BULK AT MOST 1048576: true; the input reads as it did. -/
def fnExactReleasedValuesUptoRow : OpenClaim := { program := "ytddanjifhdaebaa", sum := "6781c9d115e51fa94491f3bfc94f08f70053e9de59220256f993fea05a286f9d", func := "loop.example/constanttime/laws.FnExactReleasedValues", spec := "fnExactReleasedValues", unfollowed := true, recurses := true, loops := true, apart := false, narrowed := true }
def FnExactReleasedValuesUptoSaid : Prop := fnExactReleasedValuesUptoRow.holds Try.pinned (OpenSpec.upto fnExactReleasedValuesSpec)

/-- 'laws.FnBlameInstr', WHERE WHAT IT READS IS OF BULK AT MOST 1048576: true; the input reads as it did. -/
def fnBlameInstrUptoRow : OpenClaim := { program := "ytddanjifhdaebaa", sum := "6781c9d115e51fa94491f3bfc94f08f70053e9de59220256f993fea05a286f9d", func := "loop.example/constanttime/laws.FnBlameInstr", spec := "fnBlameInstr", unfollowed := true, recurses := true, apart := false, narrowed := true }
def FnBlameInstrUptoSaid : Prop := fnBlameInstrUptoRow.holds Try.pinned (OpenSpec.upto fnBlameInstrSpec)

/-- 'laws.FnExactLeakClasses', WHERE WHAT IT READS IS OF BULK AT MOST 1048576: true; the input reads as it did. -/
def fnExactLeakClassesUptoRow : OpenClaim := { program := "ytddanjifhdaebaa", sum := "6781c9d115e51fa94491f3bfc94f08f70053e9de59220256f993fea05a286f9d", func := "loop.example/constanttime/laws.FnExactLeakClasses", spec := "fnExactLeakClasses", unfollowed := true, recurses := true, loops := true, apart := false, narrowed := true }
def FnExactLeakClassesUptoSaid : Prop := fnExactLeakClassesUptoRow.holds Try.pinned (OpenSpec.upto fnExactLeakClassesSpec)

/-- 'laws.FnBlameSame', WHERE WHAT IT READS IS OF BULK AT MOST 1048576: true; the input reads as it did. -/
def fnBlameSameUptoRow : OpenClaim := { program := "ytddanjifhdaebaa", sum := "6781c9d115e51fa94491f3bfc94f08f70053e9de59220256f993fea05a286f9d", func := "loop.example/constanttime/laws.FnBlameSame", spec := "fnBlameSame", unfollowed := true, recurses := true, apart := false, narrowed := true }
def FnBlameSameUptoSaid : Prop := fnBlameSameUptoRow.holds Try.pinned (OpenSpec.upto fnBlameSameSpec)

/-- 'laws.FnExactRunProgram', WHERE WHAT IT READS IS OF BULK AT MOST 1048576: true; the input reads as it did. -/
def fnExactRunProgramUptoRow : OpenClaim := { program := "ytddanjifhdaebaa", sum := "6781c9d115e51fa94491f3bfc94f08f70053e9de59220256f993fea05a286f9d", func := "loop.example/constanttime/laws.FnExactRunProgram", spec := "fnExactRunProgram", unfollowed := true, recurses := true, loops := true, apart := false, narrowed := true }
def FnExactRunProgramUptoSaid : Prop := fnExactRunProgramUptoRow.holds Try.pinned (OpenSpec.upto fnExactRunProgramSpec)

end Rows
end Go.Proofs.Ytddanjifhdaebaa
