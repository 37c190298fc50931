/-
  No cell of these rows narrows 'for every input' (looked for: loops, veiled, ifaces, maps, wideKeys, modest, calm, conditions, laid).
  DERIVED. THE GIVEN ROWS OF THIS SEAT. 11 by the template 'for every input the law returns true; each argument reads behind the call as it read before'; 0 by the template 'total and deterministic' (their statements: YtpphageokplgoaaGreatTotals.lean).
  GIVEN WITH THE SEED: the statements are not yours to turn. If you find one false, say at which input.
  Laid BY PROGRAM, IN A SANDBOX (cutbox-rows.mjs): the forced cells as the released guide's own fill.sh prints them over the translation 3181bbf3c6cfc168… (all of the seat's roots in one cut). By AI agents, Wed Nov 11 2026. No macro, syntax, notation, axiom, sorry.
-/
import Derived.Test.YtpphageokplgoaaGreatChecked
import GoSem.Claim
import GoSem.ClaimJoined
import GoSem.ClaimMapViews
import Derived.JoinedTies
import Derived.KernelRfl
namespace Go.Proofs.YtpphageokplgoaaGreat
/- THE CELL 'sum', in the pinned program and in every row, IS THE sha256 OF THE DUMP (.gsa) THAT YtpphageokplgoaaGreatProg.lean LOADS. Nothing in Lean hashes anything: it is a label: what it is worth is what the hold of that sum in a sandbox is worth. -/
noncomputable def Tryz.pinned : Pinned := { name := "ytpphageokplgoaagreat", sum := "3181bbf3c6cfc1683566d0ae2404979b70c8ec0ea660489dc220de6c6a178903", checked := Tryz.checked }
namespace Rows
def none {H : Type} : Left H := { results := [], args := [] }

/-- 'laws.FnFoldProgram': WHATEVER THE INPUT: true; the input reads as it did. -/
def fnFoldProgramSpec : ChangeSpec := { name := "fnFoldProgram", fn := fun _ => fun
  | [d] => { results := [.lit (.bool true)], args := [d] }
  | _ => none }
def fnFoldProgramRow : OpenClaim := { program := "ytpphageokplgoaagreat", sum := "3181bbf3c6cfc1683566d0ae2404979b70c8ec0ea660489dc220de6c6a178903", func := "loop.example/constanttime/laws.FnFoldProgram", spec := "fnFoldProgram", unfollowed := true, recurses := true, apart := false }
def FnFoldProgramSaid : Prop := fnFoldProgramRow.holds Tryz.pinned (OpenSpec.ofChange fnFoldProgramSpec)

/-- ITS FALSE NEIGHBOUR: 'it returns false'. Refute it at one input. -/
def fnFoldProgramWrong : ChangeSpec := { name := "fnFoldProgram", fn := fun _ => fun
  | [d] => { results := [.lit (.bool false)], args := [d] }
  | _ => none }
def FnFoldProgramWrongFalsely : Prop := fnFoldProgramRow.holds Tryz.pinned (OpenSpec.ofChange fnFoldProgramWrong)

/-- 'laws.FnReleasedValues': WHATEVER THE INPUT: true; the input reads as it did. -/
def fnReleasedValuesSpec : ChangeSpec := { name := "fnReleasedValues", fn := fun _ => fun
  | [d] => { results := [.lit (.bool true)], args := [d] }
  | _ => none }
def fnReleasedValuesRow : OpenClaim := { program := "ytpphageokplgoaagreat", sum := "3181bbf3c6cfc1683566d0ae2404979b70c8ec0ea660489dc220de6c6a178903", func := "loop.example/constanttime/laws.FnReleasedValues", spec := "fnReleasedValues", unfollowed := true, recurses := true, apart := false }
def FnReleasedValuesSaid : Prop := fnReleasedValuesRow.holds Tryz.pinned (OpenSpec.ofChange fnReleasedValuesSpec)

/-- ITS FALSE NEIGHBOUR: 'it returns false'. Refute it at one input. -/
def fnReleasedValuesWrong : ChangeSpec := { name := "fnReleasedValues", fn := fun _ => fun
  | [d] => { results := [.lit (.bool false)], args := [d] }
  | _ => none }
def FnReleasedValuesWrongFalsely : Prop := fnReleasedValuesRow.holds Tryz.pinned (OpenSpec.ofChange fnReleasedValuesWrong)

/-- 'laws.FnLinearizeTrace': WHATEVER THE INPUT: true; the input reads as it did. -/
def fnLinearizeTraceSpec : ChangeSpec := { name := "fnLinearizeTrace", fn := fun _ => fun
  | [d] => { results := [.lit (.bool true)], args := [d] }
  | _ => none }
def fnLinearizeTraceRow : OpenClaim := { program := "ytpphageokplgoaagreat", sum := "3181bbf3c6cfc1683566d0ae2404979b70c8ec0ea660489dc220de6c6a178903", func := "loop.example/constanttime/laws.FnLinearizeTrace", spec := "fnLinearizeTrace", unfollowed := true, recurses := true, apart := false }
def FnLinearizeTraceSaid : Prop := fnLinearizeTraceRow.holds Tryz.pinned (OpenSpec.ofChange fnLinearizeTraceSpec)

/-- ITS FALSE NEIGHBOUR: 'it returns false'. Refute it at one input. -/
def fnLinearizeTraceWrong : ChangeSpec := { name := "fnLinearizeTrace", fn := fun _ => fun
  | [d] => { results := [.lit (.bool false)], args := [d] }
  | _ => none }
def FnLinearizeTraceWrongFalsely : Prop := fnLinearizeTraceRow.holds Tryz.pinned (OpenSpec.ofChange fnLinearizeTraceWrong)

/-- 'laws.FnLinearizeRelease': WHATEVER THE INPUT: true; the input reads as it did. -/
def fnLinearizeReleaseSpec : ChangeSpec := { name := "fnLinearizeRelease", fn := fun _ => fun
  | [d] => { results := [.lit (.bool true)], args := [d] }
  | _ => none }
def fnLinearizeReleaseRow : OpenClaim := { program := "ytpphageokplgoaagreat", sum := "3181bbf3c6cfc1683566d0ae2404979b70c8ec0ea660489dc220de6c6a178903", func := "loop.example/constanttime/laws.FnLinearizeRelease", spec := "fnLinearizeRelease", unfollowed := true, recurses := true, apart := false }
def FnLinearizeReleaseSaid : Prop := fnLinearizeReleaseRow.holds Tryz.pinned (OpenSpec.ofChange fnLinearizeReleaseSpec)

/-- ITS FALSE NEIGHBOUR: 'it returns false'. Refute it at one input. -/
def fnLinearizeReleaseWrong : ChangeSpec := { name := "fnLinearizeRelease", fn := fun _ => fun
  | [d] => { results := [.lit (.bool false)], args := [d] }
  | _ => none }
def FnLinearizeReleaseWrongFalsely : Prop := fnLinearizeReleaseRow.holds Tryz.pinned (OpenSpec.ofChange fnLinearizeReleaseWrong)

/-- 'laws.FnLinearizeRun': WHATEVER THE INPUT: true; the input reads as it did. -/
def fnLinearizeRunSpec : ChangeSpec := { name := "fnLinearizeRun", fn := fun _ => fun
  | [d] => { results := [.lit (.bool true)], args := [d] }
  | _ => none }
def fnLinearizeRunRow : OpenClaim := { program := "ytpphageokplgoaagreat", sum := "3181bbf3c6cfc1683566d0ae2404979b70c8ec0ea660489dc220de6c6a178903", func := "loop.example/constanttime/laws.FnLinearizeRun", spec := "fnLinearizeRun", unfollowed := true, recurses := true, apart := false }
def FnLinearizeRunSaid : Prop := fnLinearizeRunRow.holds Tryz.pinned (OpenSpec.ofChange fnLinearizeRunSpec)

/-- ITS FALSE NEIGHBOUR: 'it returns false'. Refute it at one input. -/
def fnLinearizeRunWrong : ChangeSpec := { name := "fnLinearizeRun", fn := fun _ => fun
  | [d] => { results := [.lit (.bool false)], args := [d] }
  | _ => none }
def FnLinearizeRunWrongFalsely : Prop := fnLinearizeRunRow.holds Tryz.pinned (OpenSpec.ofChange fnLinearizeRunWrong)

/-- 'laws.FnLinearizeSequence': WHATEVER THE INPUT: true; the input reads as it did. -/
def fnLinearizeSequenceSpec : ChangeSpec := { name := "fnLinearizeSequence", fn := fun _ => fun
  | [d1, d2] => { results := [.lit (.bool true)], args := [d1, d2] }
  | _ => none }
def fnLinearizeSequenceRow : OpenClaim := { program := "ytpphageokplgoaagreat", sum := "3181bbf3c6cfc1683566d0ae2404979b70c8ec0ea660489dc220de6c6a178903", func := "loop.example/constanttime/laws.FnLinearizeSequence", spec := "fnLinearizeSequence", unfollowed := true, recurses := true, apart := false }
def FnLinearizeSequenceSaid : Prop := fnLinearizeSequenceRow.holds Tryz.pinned (OpenSpec.ofChange fnLinearizeSequenceSpec)

/-- ITS FALSE NEIGHBOUR: 'it returns false'. Refute it at one input. -/
def fnLinearizeSequenceWrong : ChangeSpec := { name := "fnLinearizeSequence", fn := fun _ => fun
  | [d1, d2] => { results := [.lit (.bool false)], args := [d1, d2] }
  | _ => none }
def FnLinearizeSequenceWrongFalsely : Prop := fnLinearizeSequenceRow.holds Tryz.pinned (OpenSpec.ofChange fnLinearizeSequenceWrong)

/-- 'laws.FnLinearizeBranches': WHATEVER THE INPUT: true; the input reads as it did. -/
def fnLinearizeBranchesSpec : ChangeSpec := { name := "fnLinearizeBranches", fn := fun _ => fun
  | [d] => { results := [.lit (.bool true)], args := [d] }
  | _ => none }
def fnLinearizeBranchesRow : OpenClaim := { program := "ytpphageokplgoaagreat", sum := "3181bbf3c6cfc1683566d0ae2404979b70c8ec0ea660489dc220de6c6a178903", func := "loop.example/constanttime/laws.FnLinearizeBranches", spec := "fnLinearizeBranches", unfollowed := true, recurses := true, apart := false }
def FnLinearizeBranchesSaid : Prop := fnLinearizeBranchesRow.holds Tryz.pinned (OpenSpec.ofChange fnLinearizeBranchesSpec)

/-- ITS FALSE NEIGHBOUR: 'it returns false'. Refute it at one input. -/
def fnLinearizeBranchesWrong : ChangeSpec := { name := "fnLinearizeBranches", fn := fun _ => fun
  | [d] => { results := [.lit (.bool false)], args := [d] }
  | _ => none }
def FnLinearizeBranchesWrongFalsely : Prop := fnLinearizeBranchesRow.holds Tryz.pinned (OpenSpec.ofChange fnLinearizeBranchesWrong)

/-- 'laws.FnProductFirst': WHATEVER THE INPUT: true; the input reads as it did. -/
def fnProductFirstSpec : ChangeSpec := { name := "fnProductFirst", fn := fun _ => fun
  | [d] => { results := [.lit (.bool true)], args := [d] }
  | _ => none }
def fnProductFirstRow : OpenClaim := { program := "ytpphageokplgoaagreat", sum := "3181bbf3c6cfc1683566d0ae2404979b70c8ec0ea660489dc220de6c6a178903", func := "loop.example/constanttime/laws.FnProductFirst", spec := "fnProductFirst", unfollowed := true, recurses := true, apart := false }
def FnProductFirstSaid : Prop := fnProductFirstRow.holds Tryz.pinned (OpenSpec.ofChange fnProductFirstSpec)

/-- ITS FALSE NEIGHBOUR: 'it returns false'. Refute it at one input. -/
def fnProductFirstWrong : ChangeSpec := { name := "fnProductFirst", fn := fun _ => fun
  | [d] => { results := [.lit (.bool false)], args := [d] }
  | _ => none }
def FnProductFirstWrongFalsely : Prop := fnProductFirstRow.holds Tryz.pinned (OpenSpec.ofChange fnProductFirstWrong)

/-- 'laws.FnProductRun': WHATEVER THE INPUT: true; the input reads as it did. -/
def fnProductRunSpec : ChangeSpec := { name := "fnProductRun", fn := fun _ => fun
  | [d] => { results := [.lit (.bool true)], args := [d] }
  | _ => none }
def fnProductRunRow : OpenClaim := { program := "ytpphageokplgoaagreat", sum := "3181bbf3c6cfc1683566d0ae2404979b70c8ec0ea660489dc220de6c6a178903", func := "loop.example/constanttime/laws.FnProductRun", spec := "fnProductRun", unfollowed := true, recurses := true, apart := false }
def FnProductRunSaid : Prop := fnProductRunRow.holds Tryz.pinned (OpenSpec.ofChange fnProductRunSpec)

/-- ITS FALSE NEIGHBOUR: 'it returns false'. Refute it at one input. -/
def fnProductRunWrong : ChangeSpec := { name := "fnProductRun", fn := fun _ => fun
  | [d] => { results := [.lit (.bool false)], args := [d] }
  | _ => none }
def FnProductRunWrongFalsely : Prop := fnProductRunRow.holds Tryz.pinned (OpenSpec.ofChange fnProductRunWrong)

/-- 'laws.FnProductSame': WHATEVER THE INPUT: true; the input reads as it did. -/
def fnProductSameSpec : ChangeSpec := { name := "fnProductSame", fn := fun _ => fun
  | [d] => { results := [.lit (.bool true)], args := [d] }
  | _ => none }
def fnProductSameRow : OpenClaim := { program := "ytpphageokplgoaagreat", sum := "3181bbf3c6cfc1683566d0ae2404979b70c8ec0ea660489dc220de6c6a178903", func := "loop.example/constanttime/laws.FnProductSame", spec := "fnProductSame", unfollowed := true, recurses := true, apart := false }
def FnProductSameSaid : Prop := fnProductSameRow.holds Tryz.pinned (OpenSpec.ofChange fnProductSameSpec)

/-- ITS FALSE NEIGHBOUR: 'it returns false'. Refute it at one input. -/
def fnProductSameWrong : ChangeSpec := { name := "fnProductSame", fn := fun _ => fun
  | [d] => { results := [.lit (.bool false)], args := [d] }
  | _ => none }
def FnProductSameWrongFalsely : Prop := fnProductSameRow.holds Tryz.pinned (OpenSpec.ofChange fnProductSameWrong)

/-- 'laws.FnLinearizeFold': WHATEVER THE INPUT: true; the input reads as it did. -/
def fnLinearizeFoldSpec : ChangeSpec := { name := "fnLinearizeFold", fn := fun _ => fun
  | [d] => { results := [.lit (.bool true)], args := [d] }
  | _ => none }
def fnLinearizeFoldRow : OpenClaim := { program := "ytpphageokplgoaagreat", sum := "3181bbf3c6cfc1683566d0ae2404979b70c8ec0ea660489dc220de6c6a178903", func := "loop.example/constanttime/laws.FnLinearizeFold", spec := "fnLinearizeFold", unfollowed := true, recurses := true, apart := false }
def FnLinearizeFoldSaid : Prop := fnLinearizeFoldRow.holds Tryz.pinned (OpenSpec.ofChange fnLinearizeFoldSpec)

/-- ITS FALSE NEIGHBOUR: 'it returns false'. Refute it at one input. -/
def fnLinearizeFoldWrong : ChangeSpec := { name := "fnLinearizeFold", fn := fun _ => fun
  | [d] => { results := [.lit (.bool false)], args := [d] }
  | _ => none }
def FnLinearizeFoldWrongFalsely : Prop := fnLinearizeFoldRow.holds Tryz.pinned (OpenSpec.ofChange fnLinearizeFoldWrong)

/- THE SECOND FORM. 'bulk': how many values and letters a reading holds, each counted each time it is reached (what is shared counts as often as it is met; a slice's spare places count too). A statement '..UptoSaid' is the law's where the arguments, and the package variables that the reading takes, are together of bulk at most 1048576: NARROWER than '..Said'. Prove '..Said' where nothing that the law and all that it calls make is longer than what came in: it says more and counts as full. Else prove '..UptoSaid'. A law counts once. -/
mutual
def uptoBulk {H : Type} : DataW H → Nat
  | .lit (.string bytes) => bytes.length + 1
  | .lit _ => 1
  | .nil => 1
  | .ptr d => uptoBulk d + 1
  | .slice elems spare => uptoBulkAll elems + uptoBulkAll spare + 1
  | .agg parts => uptoBulkAll parts + 1
  | .iface _ d => uptoBulk d + 1
  | .map entries => uptoBulkEntries entries + 1
  | .held _ => 1
def uptoBulkAll {H : Type} : List (DataW H) → Nat
  | [] => 0
  | d :: r => uptoBulk d + uptoBulkAll r
def uptoBulkEntries {H : Type} : List (Lit × DataW H) → Nat
  | [] => 0
  | x :: r => uptoBulkEntry x + uptoBulkEntries r
def uptoBulkEntry {H : Type} : Lit × DataW H → Nat
  | (.string bytes, d) => bytes.length + uptoBulk d + 1
  | (_, d) => uptoBulk d + 1
 end
def uptoSmall : (H : Type) → List (DataW H) → Bool := fun _ ds => decide (uptoBulkAll ds ≤ 1048576)
def OpenSpec.upto (s : _root_.Go.ChangeSpec) : _root_.Go.OpenSpec := { _root_.Go.OpenSpec.ofChange s with cond := some uptoSmall }

/-- 'laws.FnFoldProgram', WHERE WHAT IT READS IS OF BULK AT MOST 1048576: true; the input reads as it did. -/
def fnFoldProgramUptoRow : OpenClaim := { program := "ytpphageokplgoaagreat", sum := "3181bbf3c6cfc1683566d0ae2404979b70c8ec0ea660489dc220de6c6a178903", func := "loop.example/constanttime/laws.FnFoldProgram", spec := "fnFoldProgram", unfollowed := true, recurses := true, apart := false, narrowed := true }
def FnFoldProgramUptoSaid : Prop := fnFoldProgramUptoRow.holds Tryz.pinned (OpenSpec.upto fnFoldProgramSpec)

/-- 'laws.FnReleasedValues', WHERE WHAT IT READS IS OF BULK AT MOST 1048576: true; the input reads as it did. -/
def fnReleasedValuesUptoRow : OpenClaim := { program := "ytpphageokplgoaagreat", sum := "3181bbf3c6cfc1683566d0ae2404979b70c8ec0ea660489dc220de6c6a178903", func := "loop.example/constanttime/laws.FnReleasedValues", spec := "fnReleasedValues", unfollowed := true, recurses := true, apart := false, narrowed := true }
def FnReleasedValuesUptoSaid : Prop := fnReleasedValuesUptoRow.holds Tryz.pinned (OpenSpec.upto fnReleasedValuesSpec)

/-- 'laws.FnLinearizeTrace', WHERE WHAT IT READS IS OF BULK AT MOST 1048576: true; the input reads as it did. -/
def fnLinearizeTraceUptoRow : OpenClaim := { program := "ytpphageokplgoaagreat", sum := "3181bbf3c6cfc1683566d0ae2404979b70c8ec0ea660489dc220de6c6a178903", func := "loop.example/constanttime/laws.FnLinearizeTrace", spec := "fnLinearizeTrace", unfollowed := true, recurses := true, apart := false, narrowed := true }
def FnLinearizeTraceUptoSaid : Prop := fnLinearizeTraceUptoRow.holds Tryz.pinned (OpenSpec.upto fnLinearizeTraceSpec)

/-- 'laws.FnLinearizeRelease', WHERE WHAT IT READS IS OF BULK AT MOST 1048576: true; the input reads as it did. -/
def fnLinearizeReleaseUptoRow : OpenClaim := { program := "ytpphageokplgoaagreat", sum := "3181bbf3c6cfc1683566d0ae2404979b70c8ec0ea660489dc220de6c6a178903", func := "loop.example/constanttime/laws.FnLinearizeRelease", spec := "fnLinearizeRelease", unfollowed := true, recurses := true, apart := false, narrowed := true }
def FnLinearizeReleaseUptoSaid : Prop := fnLinearizeReleaseUptoRow.holds Tryz.pinned (OpenSpec.upto fnLinearizeReleaseSpec)

/-- 'laws.FnLinearizeRun', WHERE WHAT IT READS IS OF BULK AT MOST 1048576: true; the input reads as it did. -/
def fnLinearizeRunUptoRow : OpenClaim := { program := "ytpphageokplgoaagreat", sum := "3181bbf3c6cfc1683566d0ae2404979b70c8ec0ea660489dc220de6c6a178903", func := "loop.example/constanttime/laws.FnLinearizeRun", spec := "fnLinearizeRun", unfollowed := true, recurses := true, apart := false, narrowed := true }
def FnLinearizeRunUptoSaid : Prop := fnLinearizeRunUptoRow.holds Tryz.pinned (OpenSpec.upto fnLinearizeRunSpec)

/-- 'laws.FnLinearizeSequence', WHERE WHAT IT READS IS OF BULK AT MOST 1048576: true; the input reads as it did. -/
def fnLinearizeSequenceUptoRow : OpenClaim := { program := "ytpphageokplgoaagreat", sum := "3181bbf3c6cfc1683566d0ae2404979b70c8ec0ea660489dc220de6c6a178903", func := "loop.example/constanttime/laws.FnLinearizeSequence", spec := "fnLinearizeSequence", unfollowed := true, recurses := true, apart := false, narrowed := true }
def FnLinearizeSequenceUptoSaid : Prop := fnLinearizeSequenceUptoRow.holds Tryz.pinned (OpenSpec.upto fnLinearizeSequenceSpec)

/-- 'laws.FnLinearizeBranches', WHERE WHAT IT READS IS OF BULK AT MOST 1048576: true; the input reads as it did. -/
def fnLinearizeBranchesUptoRow : OpenClaim := { program := "ytpphageokplgoaagreat", sum := "3181bbf3c6cfc1683566d0ae2404979b70c8ec0ea660489dc220de6c6a178903", func := "loop.example/constanttime/laws.FnLinearizeBranches", spec := "fnLinearizeBranches", unfollowed := true, recurses := true, apart := false, narrowed := true }
def FnLinearizeBranchesUptoSaid : Prop := fnLinearizeBranchesUptoRow.holds Tryz.pinned (OpenSpec.upto fnLinearizeBranchesSpec)

/-- 'laws.FnProductFirst', WHERE WHAT IT READS IS OF BULK AT MOST 1048576: true; the input reads as it did. -/
def fnProductFirstUptoRow : OpenClaim := { program := "ytpphageokplgoaagreat", sum := "3181bbf3c6cfc1683566d0ae2404979b70c8ec0ea660489dc220de6c6a178903", func := "loop.example/constanttime/laws.FnProductFirst", spec := "fnProductFirst", unfollowed := true, recurses := true, apart := false, narrowed := true }
def FnProductFirstUptoSaid : Prop := fnProductFirstUptoRow.holds Tryz.pinned (OpenSpec.upto fnProductFirstSpec)

/-- 'laws.FnProductRun', WHERE WHAT IT READS IS OF BULK AT MOST 1048576: true; the input reads as it did. -/
def fnProductRunUptoRow : OpenClaim := { program := "ytpphageokplgoaagreat", sum := "3181bbf3c6cfc1683566d0ae2404979b70c8ec0ea660489dc220de6c6a178903", func := "loop.example/constanttime/laws.FnProductRun", spec := "fnProductRun", unfollowed := true, recurses := true, apart := false, narrowed := true }
def FnProductRunUptoSaid : Prop := fnProductRunUptoRow.holds Tryz.pinned (OpenSpec.upto fnProductRunSpec)

/-- 'laws.FnProductSame', WHERE WHAT IT READS IS OF BULK AT MOST 1048576: true; the input reads as it did. -/
def fnProductSameUptoRow : OpenClaim := { program := "ytpphageokplgoaagreat", sum := "3181bbf3c6cfc1683566d0ae2404979b70c8ec0ea660489dc220de6c6a178903", func := "loop.example/constanttime/laws.FnProductSame", spec := "fnProductSame", unfollowed := true, recurses := true, apart := false, narrowed := true }
def FnProductSameUptoSaid : Prop := fnProductSameUptoRow.holds Tryz.pinned (OpenSpec.upto fnProductSameSpec)

/-- 'laws.FnLinearizeFold', WHERE WHAT IT READS IS OF BULK AT MOST 1048576: true; the input reads as it did. -/
def fnLinearizeFoldUptoRow : OpenClaim := { program := "ytpphageokplgoaagreat", sum := "3181bbf3c6cfc1683566d0ae2404979b70c8ec0ea660489dc220de6c6a178903", func := "loop.example/constanttime/laws.FnLinearizeFold", spec := "fnLinearizeFold", unfollowed := true, recurses := true, apart := false, narrowed := true }
def FnLinearizeFoldUptoSaid : Prop := fnLinearizeFoldUptoRow.holds Tryz.pinned (OpenSpec.upto fnLinearizeFoldSpec)

end Rows
end Go.Proofs.YtpphageokplgoaaGreat
