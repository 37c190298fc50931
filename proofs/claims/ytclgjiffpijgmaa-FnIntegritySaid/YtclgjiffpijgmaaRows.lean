/-
  No cell of these rows narrows 'for every input' (looked for: loops, veiled, ifaces, maps, wideKeys, modest, calm, conditions, laid).
  DERIVED. THE GIVEN ROWS OF THIS SEAT. 10 by the template 'for every input the law returns true; each argument reads behind the call as it read before'; 0 by the template 'total and deterministic' (their statements: YtclgjiffpijgmaaTotals.lean).
  GIVEN WITH THE SEED: the statements are not yours to turn. If you find one false, say at which input.
  Laid BY PROGRAM, IN A SANDBOX (cutbox-rows.mjs): the forced cells as the released guide's own fill.sh prints them over the translation 51255d4489f10128… (all of the seat's roots in one cut). By AI agents, Wed Nov 11 2026. No macro, syntax, notation, axiom, sorry.
-/
import Derived.Test.YtclgjiffpijgmaaChecked
import GoSem.Claim
import GoSem.ClaimJoined
import GoSem.ClaimMapViews
import Derived.JoinedTies
import Derived.KernelRfl
namespace Go.Proofs.Ytclgjiffpijgmaa
/- THE CELL 'sum', in the pinned program and in every row, IS THE sha256 OF THE DUMP (.gsa) THAT YtclgjiffpijgmaaProg.lean LOADS. Nothing in Lean hashes anything: it is a label: what it is worth is what the hold of that sum in a sandbox is worth. -/
noncomputable def Try.pinned : Pinned := { name := "ytclgjiffpijgmaa", sum := "51255d4489f10128ad8f60798ecd68cfb240d89bd63939eb714a3eede8361438", checked := Try.checked }
namespace Rows
def none {H : Type} : Left H := { results := [], args := [] }

/-- 'laws.FnDependSequence': WHATEVER THE INPUT: true; the input reads as it did. -/
def fnDependSequenceSpec : ChangeSpec := { name := "fnDependSequence", fn := fun _ => fun
  | [d1, d2] => { results := [.lit (.bool true)], args := [d1, d2] }
  | _ => none }
def fnDependSequenceRow : OpenClaim := { program := "ytclgjiffpijgmaa", sum := "51255d4489f10128ad8f60798ecd68cfb240d89bd63939eb714a3eede8361438", func := "loop.example/constanttime/laws.FnDependSequence", spec := "fnDependSequence", unfollowed := true, recurses := true, apart := false }
def FnDependSequenceSaid : Prop := fnDependSequenceRow.holds Try.pinned (OpenSpec.ofChange fnDependSequenceSpec)

/-- ITS FALSE NEIGHBOUR: 'it returns false'. Refute it at one input. -/
def fnDependSequenceWrong : ChangeSpec := { name := "fnDependSequence", fn := fun _ => fun
  | [d1, d2] => { results := [.lit (.bool false)], args := [d1, d2] }
  | _ => none }
def FnDependSequenceWrongFalsely : Prop := fnDependSequenceRow.holds Try.pinned (OpenSpec.ofChange fnDependSequenceWrong)

/-- 'laws.FnDependWrites': WHATEVER THE INPUT: true; the input reads as it did. -/
def fnDependWritesSpec : ChangeSpec := { name := "fnDependWrites", fn := fun _ => fun
  | [d] => { results := [.lit (.bool true)], args := [d] }
  | _ => none }
def fnDependWritesRow : OpenClaim := { program := "ytclgjiffpijgmaa", sum := "51255d4489f10128ad8f60798ecd68cfb240d89bd63939eb714a3eede8361438", func := "loop.example/constanttime/laws.FnDependWrites", spec := "fnDependWrites", unfollowed := true, recurses := true, apart := false }
def FnDependWritesSaid : Prop := fnDependWritesRow.holds Try.pinned (OpenSpec.ofChange fnDependWritesSpec)

/-- ITS FALSE NEIGHBOUR: 'it returns false'. Refute it at one input. -/
def fnDependWritesWrong : ChangeSpec := { name := "fnDependWrites", fn := fun _ => fun
  | [d] => { results := [.lit (.bool false)], args := [d] }
  | _ => none }
def FnDependWritesWrongFalsely : Prop := fnDependWritesRow.holds Try.pinned (OpenSpec.ofChange fnDependWritesWrong)

/-- 'laws.FnTraceDepends': WHATEVER THE INPUT: true; the input reads as it did. -/
def fnTraceDependsSpec : ChangeSpec := { name := "fnTraceDepends", fn := fun _ => fun
  | [d] => { results := [.lit (.bool true)], args := [d] }
  | _ => none }
def fnTraceDependsRow : OpenClaim := { program := "ytclgjiffpijgmaa", sum := "51255d4489f10128ad8f60798ecd68cfb240d89bd63939eb714a3eede8361438", func := "loop.example/constanttime/laws.FnTraceDepends", spec := "fnTraceDepends", unfollowed := true, recurses := true, apart := false }
def FnTraceDependsSaid : Prop := fnTraceDependsRow.holds Try.pinned (OpenSpec.ofChange fnTraceDependsSpec)

/-- ITS FALSE NEIGHBOUR: 'it returns false'. Refute it at one input. -/
def fnTraceDependsWrong : ChangeSpec := { name := "fnTraceDepends", fn := fun _ => fun
  | [d] => { results := [.lit (.bool false)], args := [d] }
  | _ => none }
def FnTraceDependsWrongFalsely : Prop := fnTraceDependsRow.holds Try.pinned (OpenSpec.ofChange fnTraceDependsWrong)

/-- 'laws.FnReleaseDepends': WHATEVER THE INPUT: true; the input reads as it did. -/
def fnReleaseDependsSpec : ChangeSpec := { name := "fnReleaseDepends", fn := fun _ => fun
  | [d] => { results := [.lit (.bool true)], args := [d] }
  | _ => none }
def fnReleaseDependsRow : OpenClaim := { program := "ytclgjiffpijgmaa", sum := "51255d4489f10128ad8f60798ecd68cfb240d89bd63939eb714a3eede8361438", func := "loop.example/constanttime/laws.FnReleaseDepends", spec := "fnReleaseDepends", unfollowed := true, recurses := true, apart := false }
def FnReleaseDependsSaid : Prop := fnReleaseDependsRow.holds Try.pinned (OpenSpec.ofChange fnReleaseDependsSpec)

/-- ITS FALSE NEIGHBOUR: 'it returns false'. Refute it at one input. -/
def fnReleaseDependsWrong : ChangeSpec := { name := "fnReleaseDepends", fn := fun _ => fun
  | [d] => { results := [.lit (.bool false)], args := [d] }
  | _ => none }
def FnReleaseDependsWrongFalsely : Prop := fnReleaseDependsRow.holds Try.pinned (OpenSpec.ofChange fnReleaseDependsWrong)

/-- 'laws.FnDependsOn': WHATEVER THE INPUT: true; the input reads as it did. -/
def fnDependsOnSpec : ChangeSpec := { name := "fnDependsOn", fn := fun _ => fun
  | [d] => { results := [.lit (.bool true)], args := [d] }
  | _ => none }
def fnDependsOnRow : OpenClaim := { program := "ytclgjiffpijgmaa", sum := "51255d4489f10128ad8f60798ecd68cfb240d89bd63939eb714a3eede8361438", func := "loop.example/constanttime/laws.FnDependsOn", spec := "fnDependsOn", unfollowed := true, recurses := true, apart := false }
def FnDependsOnSaid : Prop := fnDependsOnRow.holds Try.pinned (OpenSpec.ofChange fnDependsOnSpec)

/-- ITS FALSE NEIGHBOUR: 'it returns false'. Refute it at one input. -/
def fnDependsOnWrong : ChangeSpec := { name := "fnDependsOn", fn := fun _ => fun
  | [d] => { results := [.lit (.bool false)], args := [d] }
  | _ => none }
def FnDependsOnWrongFalsely : Prop := fnDependsOnRow.holds Try.pinned (OpenSpec.ofChange fnDependsOnWrong)

/-- 'laws.FnRunWrites': WHATEVER THE INPUT: true; the input reads as it did. -/
def fnRunWritesSpec : ChangeSpec := { name := "fnRunWrites", fn := fun _ => fun
  | [d] => { results := [.lit (.bool true)], args := [d] }
  | _ => none }
def fnRunWritesRow : OpenClaim := { program := "ytclgjiffpijgmaa", sum := "51255d4489f10128ad8f60798ecd68cfb240d89bd63939eb714a3eede8361438", func := "loop.example/constanttime/laws.FnRunWrites", spec := "fnRunWrites", unfollowed := true, recurses := true, apart := false }
def FnRunWritesSaid : Prop := fnRunWritesRow.holds Try.pinned (OpenSpec.ofChange fnRunWritesSpec)

/-- ITS FALSE NEIGHBOUR: 'it returns false'. Refute it at one input. -/
def fnRunWritesWrong : ChangeSpec := { name := "fnRunWrites", fn := fun _ => fun
  | [d] => { results := [.lit (.bool false)], args := [d] }
  | _ => none }
def FnRunWritesWrongFalsely : Prop := fnRunWritesRow.holds Try.pinned (OpenSpec.ofChange fnRunWritesWrong)

/-- 'laws.FnSliceTwice': WHATEVER THE INPUT: true; the input reads as it did. -/
def fnSliceTwiceSpec : ChangeSpec := { name := "fnSliceTwice", fn := fun _ => fun
  | [d] => { results := [.lit (.bool true)], args := [d] }
  | _ => none }
def fnSliceTwiceRow : OpenClaim := { program := "ytclgjiffpijgmaa", sum := "51255d4489f10128ad8f60798ecd68cfb240d89bd63939eb714a3eede8361438", func := "loop.example/constanttime/laws.FnSliceTwice", spec := "fnSliceTwice", unfollowed := true, recurses := true, apart := false }
def FnSliceTwiceSaid : Prop := fnSliceTwiceRow.holds Try.pinned (OpenSpec.ofChange fnSliceTwiceSpec)

/-- ITS FALSE NEIGHBOUR: 'it returns false'. Refute it at one input. -/
def fnSliceTwiceWrong : ChangeSpec := { name := "fnSliceTwice", fn := fun _ => fun
  | [d] => { results := [.lit (.bool false)], args := [d] }
  | _ => none }
def FnSliceTwiceWrongFalsely : Prop := fnSliceTwiceRow.holds Try.pinned (OpenSpec.ofChange fnSliceTwiceWrong)

/-- 'laws.FnIntegrity': WHATEVER THE INPUT: true; the input reads as it did. -/
def fnIntegritySpec : ChangeSpec := { name := "fnIntegrity", fn := fun _ => fun
  | [d] => { results := [.lit (.bool true)], args := [d] }
  | _ => none }
def fnIntegrityRow : OpenClaim := { program := "ytclgjiffpijgmaa", sum := "51255d4489f10128ad8f60798ecd68cfb240d89bd63939eb714a3eede8361438", func := "loop.example/constanttime/laws.FnIntegrity", spec := "fnIntegrity", unfollowed := true, recurses := true, apart := false }
def FnIntegritySaid : Prop := fnIntegrityRow.holds Try.pinned (OpenSpec.ofChange fnIntegritySpec)

/-- ITS FALSE NEIGHBOUR: 'it returns false'. Refute it at one input. -/
def fnIntegrityWrong : ChangeSpec := { name := "fnIntegrity", fn := fun _ => fun
  | [d] => { results := [.lit (.bool false)], args := [d] }
  | _ => none }
def FnIntegrityWrongFalsely : Prop := fnIntegrityRow.holds Try.pinned (OpenSpec.ofChange fnIntegrityWrong)

/-- 'laws.FnNoninterference': WHATEVER THE INPUT: true; the input reads as it did. -/
def fnNoninterferenceSpec : ChangeSpec := { name := "fnNoninterference", fn := fun _ => fun
  | [d] => { results := [.lit (.bool true)], args := [d] }
  | _ => none }
def fnNoninterferenceRow : OpenClaim := { program := "ytclgjiffpijgmaa", sum := "51255d4489f10128ad8f60798ecd68cfb240d89bd63939eb714a3eede8361438", func := "loop.example/constanttime/laws.FnNoninterference", spec := "fnNoninterference", unfollowed := true, recurses := true, apart := false }
def FnNoninterferenceSaid : Prop := fnNoninterferenceRow.holds Try.pinned (OpenSpec.ofChange fnNoninterferenceSpec)

/-- ITS FALSE NEIGHBOUR: 'it returns false'. Refute it at one input. -/
def fnNoninterferenceWrong : ChangeSpec := { name := "fnNoninterference", fn := fun _ => fun
  | [d] => { results := [.lit (.bool false)], args := [d] }
  | _ => none }
def FnNoninterferenceWrongFalsely : Prop := fnNoninterferenceRow.holds Try.pinned (OpenSpec.ofChange fnNoninterferenceWrong)

/-- 'laws.FnSliceProgram': WHATEVER THE INPUT: true; the input reads as it did. -/
def fnSliceProgramSpec : ChangeSpec := { name := "fnSliceProgram", fn := fun _ => fun
  | [d] => { results := [.lit (.bool true)], args := [d] }
  | _ => none }
def fnSliceProgramRow : OpenClaim := { program := "ytclgjiffpijgmaa", sum := "51255d4489f10128ad8f60798ecd68cfb240d89bd63939eb714a3eede8361438", func := "loop.example/constanttime/laws.FnSliceProgram", spec := "fnSliceProgram", unfollowed := true, recurses := true, apart := false }
def FnSliceProgramSaid : Prop := fnSliceProgramRow.holds Try.pinned (OpenSpec.ofChange fnSliceProgramSpec)

/-- ITS FALSE NEIGHBOUR: 'it returns false'. Refute it at one input. -/
def fnSliceProgramWrong : ChangeSpec := { name := "fnSliceProgram", fn := fun _ => fun
  | [d] => { results := [.lit (.bool false)], args := [d] }
  | _ => none }
def FnSliceProgramWrongFalsely : Prop := fnSliceProgramRow.holds Try.pinned (OpenSpec.ofChange fnSliceProgramWrong)

/- THE SECOND FORM. 'bulk': how many values and letters a reading holds, each counted each time it is reached (what is shared counts as often as it is met; a slice's spare places count too). A statement '..UptoSaid' is the law's where the arguments, and the package variables that the reading takes, are together of bulk at most 1048576: NARROWER than '..Said'. Prove '..Said' where nothing that the law and all that it calls make is longer than what came in: it says more and counts as full. Else prove '..UptoSaid'. A law counts once. -/
mutual
def uptoBulk {H : Type} : DataW H → Nat
  | .lit (.string bytes) => bytes.length + 1
  | .lit _ => 1
  | .nil => 1
  | .ptr d => uptoBulk d + 1
  | .slice elems spare => uptoBulkAll elems + uptoBulkAll spare + 1
  | .agg parts => uptoBulkAll parts + 1
  | .iface _ d => uptoBulk d + 1
  | .map entries => uptoBulkEntries entries + 1
  | .held _ => 1
def uptoBulkAll {H : Type} : List (DataW H) → Nat
  | [] => 0
  | d :: r => uptoBulk d + uptoBulkAll r
def uptoBulkEntries {H : Type} : List (Lit × DataW H) → Nat
  | [] => 0
  | x :: r => uptoBulkEntry x + uptoBulkEntries r
def uptoBulkEntry {H : Type} : Lit × DataW H → Nat
  | (.string bytes, d) => bytes.length + uptoBulk d + 1
  | (_, d) => uptoBulk d + 1
 end
def uptoSmall : (H : Type) → List (DataW H) → Bool := fun _ ds => decide (uptoBulkAll ds ≤ 1048576)
def OpenSpec.upto (s : _root_.Go.ChangeSpec) : _root_.Go.OpenSpec := { _root_.Go.OpenSpec.ofChange s with cond := some uptoSmall }

/-- 'laws.FnDependSequence', WHERE WHAT IT READS IS OF BULK AT MOST 1048576: true; the input reads as it did. -/
def fnDependSequenceUptoRow : OpenClaim := { program := "ytclgjiffpijgmaa", sum := "51255d4489f10128ad8f60798ecd68cfb240d89bd63939eb714a3eede8361438", func := "loop.example/constanttime/laws.FnDependSequence", spec := "fnDependSequence", unfollowed := true, recurses := true, apart := false, narrowed := true }
def FnDependSequenceUptoSaid : Prop := fnDependSequenceUptoRow.holds Try.pinned (OpenSpec.upto fnDependSequenceSpec)

/-- 'laws.FnDependWrites', WHERE WHAT IT READS IS OF BULK AT MOST 1048576: true; the input reads as it did. -/
def fnDependWritesUptoRow : OpenClaim := { program := "ytclgjiffpijgmaa", sum := "51255d4489f10128ad8f60798ecd68cfb240d89bd63939eb714a3eede8361438", func := "loop.example/constanttime/laws.FnDependWrites", spec := "fnDependWrites", unfollowed := true, recurses := true, apart := false, narrowed := true }
def FnDependWritesUptoSaid : Prop := fnDependWritesUptoRow.holds Try.pinned (OpenSpec.upto fnDependWritesSpec)

/-- 'laws.FnTraceDepends', WHERE WHAT IT READS IS OF BULK AT MOST 1048576: true; the input reads as it did. -/
def fnTraceDependsUptoRow : OpenClaim := { program := "ytclgjiffpijgmaa", sum := "51255d4489f10128ad8f60798ecd68cfb240d89bd63939eb714a3eede8361438", func := "loop.example/constanttime/laws.FnTraceDepends", spec := "fnTraceDepends", unfollowed := true, recurses := true, apart := false, narrowed := true }
def FnTraceDependsUptoSaid : Prop := fnTraceDependsUptoRow.holds Try.pinned (OpenSpec.upto fnTraceDependsSpec)

/-- 'laws.FnReleaseDepends', WHERE WHAT IT READS IS OF BULK AT MOST 1048576: true; the input reads as it did. -/
def fnReleaseDependsUptoRow : OpenClaim := { program := "ytclgjiffpijgmaa", sum := "51255d4489f10128ad8f60798ecd68cfb240d89bd63939eb714a3eede8361438", func := "loop.example/constanttime/laws.FnReleaseDepends", spec := "fnReleaseDepends", unfollowed := true, recurses := true, apart := false, narrowed := true }
def FnReleaseDependsUptoSaid : Prop := fnReleaseDependsUptoRow.holds Try.pinned (OpenSpec.upto fnReleaseDependsSpec)

/-- 'laws.FnDependsOn', WHERE WHAT IT READS IS OF BULK AT MOST 1048576: true; the input reads as it did. -/
def fnDependsOnUptoRow : OpenClaim := { program := "ytclgjiffpijgmaa", sum := "51255d4489f10128ad8f60798ecd68cfb240d89bd63939eb714a3eede8361438", func := "loop.example/constanttime/laws.FnDependsOn", spec := "fnDependsOn", unfollowed := true, recurses := true, apart := false, narrowed := true }
def FnDependsOnUptoSaid : Prop := fnDependsOnUptoRow.holds Try.pinned (OpenSpec.upto fnDependsOnSpec)

/-- 'laws.FnRunWrites', WHERE WHAT IT READS IS OF BULK AT MOST 1048576: true; the input reads as it did. -/
def fnRunWritesUptoRow : OpenClaim := { program := "ytclgjiffpijgmaa", sum := "51255d4489f10128ad8f60798ecd68cfb240d89bd63939eb714a3eede8361438", func := "loop.example/constanttime/laws.FnRunWrites", spec := "fnRunWrites", unfollowed := true, recurses := true, apart := false, narrowed := true }
def FnRunWritesUptoSaid : Prop := fnRunWritesUptoRow.holds Try.pinned (OpenSpec.upto fnRunWritesSpec)

/-- 'laws.FnSliceTwice', WHERE WHAT IT READS IS OF BULK AT MOST 1048576: true; the input reads as it did. -/
def fnSliceTwiceUptoRow : OpenClaim := { program := "ytclgjiffpijgmaa", sum := "51255d4489f10128ad8f60798ecd68cfb240d89bd63939eb714a3eede8361438", func := "loop.example/constanttime/laws.FnSliceTwice", spec := "fnSliceTwice", unfollowed := true, recurses := true, apart := false, narrowed := true }
def FnSliceTwiceUptoSaid : Prop := fnSliceTwiceUptoRow.holds Try.pinned (OpenSpec.upto fnSliceTwiceSpec)

/-- 'laws.FnIntegrity', WHERE WHAT IT READS IS OF BULK AT MOST 1048576: true; the input reads as it did. -/
def fnIntegrityUptoRow : OpenClaim := { program := "ytclgjiffpijgmaa", sum := "51255d4489f10128ad8f60798ecd68cfb240d89bd63939eb714a3eede8361438", func := "loop.example/constanttime/laws.FnIntegrity", spec := "fnIntegrity", unfollowed := true, recurses := true, apart := false, narrowed := true }
def FnIntegrityUptoSaid : Prop := fnIntegrityUptoRow.holds Try.pinned (OpenSpec.upto fnIntegritySpec)

/-- 'laws.FnNoninterference', WHERE WHAT IT READS IS OF BULK AT MOST 1048576: true; the input reads as it did. -/
def fnNoninterferenceUptoRow : OpenClaim := { program := "ytclgjiffpijgmaa", sum := "51255d4489f10128ad8f60798ecd68cfb240d89bd63939eb714a3eede8361438", func := "loop.example/constanttime/laws.FnNoninterference", spec := "fnNoninterference", unfollowed := true, recurses := true, apart := false, narrowed := true }
def FnNoninterferenceUptoSaid : Prop := fnNoninterferenceUptoRow.holds Try.pinned (OpenSpec.upto fnNoninterferenceSpec)

/-- 'laws.FnSliceProgram', WHERE WHAT IT READS IS OF BULK AT MOST 1048576: true; the input reads as it did. -/
def fnSliceProgramUptoRow : OpenClaim := { program := "ytclgjiffpijgmaa", sum := "51255d4489f10128ad8f60798ecd68cfb240d89bd63939eb714a3eede8361438", func := "loop.example/constanttime/laws.FnSliceProgram", spec := "fnSliceProgram", unfollowed := true, recurses := true, apart := false, narrowed := true }
def FnSliceProgramUptoSaid : Prop := fnSliceProgramUptoRow.holds Try.pinned (OpenSpec.upto fnSliceProgramSpec)

end Rows
end Go.Proofs.Ytclgjiffpijgmaa
