/-
  No cell of these rows narrows 'for every input' (looked for: loops, veiled, ifaces, maps, wideKeys, modest, calm, conditions, laid).
  DERIVED. THE GIVEN ROWS OF THIS SEAT. 6 by the template 'for every input the law returns true; each argument reads behind the call as it read before'; 0 by the template 'total and deterministic' (their statements: YtmagbjbanpgmhaaTotals.lean).
  GIVEN WITH THE SEED: the statements are not yours to turn. If you find one false, say at which input.
  Laid BY PROGRAM, IN A SANDBOX (cutbox-rows.mjs): the forced cells as the released guide's own fill.sh prints them over the translation 0e26fb76f3aaada5… (all of the seat's roots in one cut). By AI agents, Wed Nov 11 2026. No macro, syntax, notation, axiom, sorry.
-/
import Derived.Test.YtmagbjbanpgmhaaChecked
import GoSem.Claim
import GoSem.ClaimJoined
import GoSem.ClaimMapViews
import Derived.JoinedTies
import Derived.KernelRfl
namespace Go.Proofs.Ytmagbjbanpgmhaa
/- THE CELL 'sum', in the pinned program and in every row, IS THE sha256 OF THE DUMP (.gsa) THAT YtmagbjbanpgmhaaProg.lean LOADS. Nothing in Lean hashes anything: it is a label: what it is worth is what the hold of that sum in a sandbox is worth. -/
noncomputable def Try.pinned : Pinned := { name := "ytmagbjbanpgmhaa", sum := "0e26fb76f3aaada5f2132a34abe095a9d8b93e1f2ad1cc5f26a523d58a846eee", checked := Try.checked }
namespace Rows
def none {H : Type} : Left H := { results := [], args := [] }

/-- 'laws.FnDependSequence': WHATEVER THE INPUT: true; the input reads as it did. -/
def fnDependSequenceSpec : ChangeSpec := { name := "fnDependSequence", fn := fun _ => fun
  | [d1, d2] => { results := [.lit (.bool true)], args := [d1, d2] }
  | _ => none }
def fnDependSequenceRow : OpenClaim := { program := "ytmagbjbanpgmhaa", sum := "0e26fb76f3aaada5f2132a34abe095a9d8b93e1f2ad1cc5f26a523d58a846eee", func := "loop.example/constanttime/laws.FnDependSequence", spec := "fnDependSequence", unfollowed := true, recurses := true, apart := false }
def FnDependSequenceSaid : Prop := fnDependSequenceRow.holds Try.pinned (OpenSpec.ofChange fnDependSequenceSpec)

/-- ITS FALSE NEIGHBOUR: 'it returns false'. Refute it at one input. -/
def fnDependSequenceWrong : ChangeSpec := { name := "fnDependSequence", fn := fun _ => fun
  | [d1, d2] => { results := [.lit (.bool false)], args := [d1, d2] }
  | _ => none }
def FnDependSequenceWrongFalsely : Prop := fnDependSequenceRow.holds Try.pinned (OpenSpec.ofChange fnDependSequenceWrong)

/-- 'laws.FnDependWrites': WHATEVER THE INPUT: true; the input reads as it did. -/
def fnDependWritesSpec : ChangeSpec := { name := "fnDependWrites", fn := fun _ => fun
  | [d] => { results := [.lit (.bool true)], args := [d] }
  | _ => none }
def fnDependWritesRow : OpenClaim := { program := "ytmagbjbanpgmhaa", sum := "0e26fb76f3aaada5f2132a34abe095a9d8b93e1f2ad1cc5f26a523d58a846eee", func := "loop.example/constanttime/laws.FnDependWrites", spec := "fnDependWrites", unfollowed := true, recurses := true, apart := false }
def FnDependWritesSaid : Prop := fnDependWritesRow.holds Try.pinned (OpenSpec.ofChange fnDependWritesSpec)

/-- ITS FALSE NEIGHBOUR: 'it returns false'. Refute it at one input. -/
def fnDependWritesWrong : ChangeSpec := { name := "fnDependWrites", fn := fun _ => fun
  | [d] => { results := [.lit (.bool false)], args := [d] }
  | _ => none }
def FnDependWritesWrongFalsely : Prop := fnDependWritesRow.holds Try.pinned (OpenSpec.ofChange fnDependWritesWrong)

/-- 'laws.FnTraceDepends': WHATEVER THE INPUT: true; the input reads as it did. -/
def fnTraceDependsSpec : ChangeSpec := { name := "fnTraceDepends", fn := fun _ => fun
  | [d] => { results := [.lit (.bool true)], args := [d] }
  | _ => none }
def fnTraceDependsRow : OpenClaim := { program := "ytmagbjbanpgmhaa", sum := "0e26fb76f3aaada5f2132a34abe095a9d8b93e1f2ad1cc5f26a523d58a846eee", func := "loop.example/constanttime/laws.FnTraceDepends", spec := "fnTraceDepends", unfollowed := true, recurses := true, apart := false }
def FnTraceDependsSaid : Prop := fnTraceDependsRow.holds Try.pinned (OpenSpec.ofChange fnTraceDependsSpec)

/-- ITS FALSE NEIGHBOUR: 'it returns false'. Refute it at one input. -/
def fnTraceDependsWrong : ChangeSpec := { name := "fnTraceDepends", fn := fun _ => fun
  | [d] => { results := [.lit (.bool false)], args := [d] }
  | _ => none }
def FnTraceDependsWrongFalsely : Prop := fnTraceDependsRow.holds Try.pinned (OpenSpec.ofChange fnTraceDependsWrong)

/-- 'laws.FnReleaseDepends': WHATEVER THE INPUT: true; the input reads as it did. -/
def fnReleaseDependsSpec : ChangeSpec := { name := "fnReleaseDepends", fn := fun _ => fun
  | [d] => { results := [.lit (.bool true)], args := [d] }
  | _ => none }
def fnReleaseDependsRow : OpenClaim := { program := "ytmagbjbanpgmhaa", sum := "0e26fb76f3aaada5f2132a34abe095a9d8b93e1f2ad1cc5f26a523d58a846eee", func := "loop.example/constanttime/laws.FnReleaseDepends", spec := "fnReleaseDepends", unfollowed := true, recurses := true, apart := false }
def FnReleaseDependsSaid : Prop := fnReleaseDependsRow.holds Try.pinned (OpenSpec.ofChange fnReleaseDependsSpec)

/-- ITS FALSE NEIGHBOUR: 'it returns false'. Refute it at one input. -/
def fnReleaseDependsWrong : ChangeSpec := { name := "fnReleaseDepends", fn := fun _ => fun
  | [d] => { results := [.lit (.bool false)], args := [d] }
  | _ => none }
def FnReleaseDependsWrongFalsely : Prop := fnReleaseDependsRow.holds Try.pinned (OpenSpec.ofChange fnReleaseDependsWrong)

/-- 'laws.FnDependsOn': WHATEVER THE INPUT: true; the input reads as it did. -/
def fnDependsOnSpec : ChangeSpec := { name := "fnDependsOn", fn := fun _ => fun
  | [d] => { results := [.lit (.bool true)], args := [d] }
  | _ => none }
def fnDependsOnRow : OpenClaim := { program := "ytmagbjbanpgmhaa", sum := "0e26fb76f3aaada5f2132a34abe095a9d8b93e1f2ad1cc5f26a523d58a846eee", func := "loop.example/constanttime/laws.FnDependsOn", spec := "fnDependsOn", unfollowed := true, recurses := true, apart := false }
def FnDependsOnSaid : Prop := fnDependsOnRow.holds Try.pinned (OpenSpec.ofChange fnDependsOnSpec)

/-- ITS FALSE NEIGHBOUR: 'it returns false'. Refute it at one input. -/
def fnDependsOnWrong : ChangeSpec := { name := "fnDependsOn", fn := fun _ => fun
  | [d] => { results := [.lit (.bool false)], args := [d] }
  | _ => none }
def FnDependsOnWrongFalsely : Prop := fnDependsOnRow.holds Try.pinned (OpenSpec.ofChange fnDependsOnWrong)

/-- 'laws.FnSecretOutputs': WHATEVER THE INPUT: true; the input reads as it did. -/
def fnSecretOutputsSpec : ChangeSpec := { name := "fnSecretOutputs", fn := fun _ => fun
  | [d] => { results := [.lit (.bool true)], args := [d] }
  | _ => none }
def fnSecretOutputsRow : OpenClaim := { program := "ytmagbjbanpgmhaa", sum := "0e26fb76f3aaada5f2132a34abe095a9d8b93e1f2ad1cc5f26a523d58a846eee", func := "loop.example/constanttime/laws.FnSecretOutputs", spec := "fnSecretOutputs", unfollowed := true, recurses := true, apart := false }
def FnSecretOutputsSaid : Prop := fnSecretOutputsRow.holds Try.pinned (OpenSpec.ofChange fnSecretOutputsSpec)

/-- ITS FALSE NEIGHBOUR: 'it returns false'. Refute it at one input. -/
def fnSecretOutputsWrong : ChangeSpec := { name := "fnSecretOutputs", fn := fun _ => fun
  | [d] => { results := [.lit (.bool false)], args := [d] }
  | _ => none }
def FnSecretOutputsWrongFalsely : Prop := fnSecretOutputsRow.holds Try.pinned (OpenSpec.ofChange fnSecretOutputsWrong)

/- THE SECOND FORM. 'bulk': how many values and letters a reading holds, each counted each time it is reached (what is shared counts as often as it is met; a slice's spare places count too). A statement '..UptoSaid' is the law's where the arguments, and the package variables that the reading takes, are together of bulk at most 1048576: NARROWER than '..Said'. Prove '..Said' where nothing that the law and all that it calls make is longer than what came in: it says more and counts as full. Else prove '..UptoSaid'. A law counts once. -/
mutual
def uptoBulk {H : Type} : DataW H → Nat
  | .lit (.string bytes) => bytes.length + 1
  | .lit _ => 1
  | .nil => 1
  | .ptr d => uptoBulk d + 1
  | .slice elems spare => uptoBulkAll elems + uptoBulkAll spare + 1
  | .agg parts => uptoBulkAll parts + 1
  | .iface _ d => uptoBulk d + 1
  | .map entries => uptoBulkEntries entries + 1
  | .held _ => 1
def uptoBulkAll {H : Type} : List (DataW H) → Nat
  | [] => 0
  | d :: r => uptoBulk d + uptoBulkAll r
def uptoBulkEntries {H : Type} : List (Lit × DataW H) → Nat
  | [] => 0
  | x :: r => uptoBulkEntry x + uptoBulkEntries r
def uptoBulkEntry {H : Type} : Lit × DataW H → Nat
  | (.string bytes, d) => bytes.length + uptoBulk d + 1
  | (_, d) => uptoBulk d + 1
 end
def uptoSmall : (H : Type) → List (DataW H) → Bool := fun _ ds => decide (uptoBulkAll ds ≤ 1048576)
def OpenSpec.upto (s : _root_.Go.ChangeSpec) : _root_.Go.OpenSpec := { _root_.Go.OpenSpec.ofChange s with cond := some uptoSmall }

/-- 'laws.FnDependSequence', WHERE WHAT IT READS IS OF BULK AT MOST 1048576: true; the input reads as it did. -/
def fnDependSequenceUptoRow : OpenClaim := { program := "ytmagbjbanpgmhaa", sum := "0e26fb76f3aaada5f2132a34abe095a9d8b93e1f2ad1cc5f26a523d58a846eee", func := "loop.example/constanttime/laws.FnDependSequence", spec := "fnDependSequence", unfollowed := true, recurses := true, apart := false, narrowed := true }
def FnDependSequenceUptoSaid : Prop := fnDependSequenceUptoRow.holds Try.pinned (OpenSpec.upto fnDependSequenceSpec)

/-- 'laws.FnDependWrites', WHERE WHAT IT READS IS OF BULK AT MOST 1048576: true; the input reads as it did. -/
def fnDependWritesUptoRow : OpenClaim := { program := "ytmagbjbanpgmhaa", sum := "0e26fb76f3aaada5f2132a34abe095a9d8b93e1f2ad1cc5f26a523d58a846eee", func := "loop.example/constanttime/laws.FnDependWrites", spec := "fnDependWrites", unfollowed := true, recurses := true, apart := false, narrowed := true }
def FnDependWritesUptoSaid : Prop := fnDependWritesUptoRow.holds Try.pinned (OpenSpec.upto fnDependWritesSpec)

/-- 'laws.FnTraceDepends', WHERE WHAT IT READS IS OF BULK AT MOST 1048576: true; the input reads as it did. -/
def fnTraceDependsUptoRow : OpenClaim := { program := "ytmagbjbanpgmhaa", sum := "0e26fb76f3aaada5f2132a34abe095a9d8b93e1f2ad1cc5f26a523d58a846eee", func := "loop.example/constanttime/laws.FnTraceDepends", spec := "fnTraceDepends", unfollowed := true, recurses := true, apart := false, narrowed := true }
def FnTraceDependsUptoSaid : Prop := fnTraceDependsUptoRow.holds Try.pinned (OpenSpec.upto fnTraceDependsSpec)

/-- 'laws.FnReleaseDepends', WHERE WHAT IT READS IS OF BULK AT MOST 1048576: true; the input reads as it did. -/
def fnReleaseDependsUptoRow : OpenClaim := { program := "ytmagbjbanpgmhaa", sum := "0e26fb76f3aaada5f2132a34abe095a9d8b93e1f2ad1cc5f26a523d58a846eee", func := "loop.example/constanttime/laws.FnReleaseDepends", spec := "fnReleaseDepends", unfollowed := true, recurses := true, apart := false, narrowed := true }
def FnReleaseDependsUptoSaid : Prop := fnReleaseDependsUptoRow.holds Try.pinned (OpenSpec.upto fnReleaseDependsSpec)

/-- 'laws.FnDependsOn', WHERE WHAT IT READS IS OF BULK AT MOST 1048576: true; the input reads as it did. -/
def fnDependsOnUptoRow : OpenClaim := { program := "ytmagbjbanpgmhaa", sum := "0e26fb76f3aaada5f2132a34abe095a9d8b93e1f2ad1cc5f26a523d58a846eee", func := "loop.example/constanttime/laws.FnDependsOn", spec := "fnDependsOn", unfollowed := true, recurses := true, apart := false, narrowed := true }
def FnDependsOnUptoSaid : Prop := fnDependsOnUptoRow.holds Try.pinned (OpenSpec.upto fnDependsOnSpec)

/-- 'laws.FnSecretOutputs', WHERE WHAT IT READS IS OF BULK AT MOST 1048576: true; the input reads as it did. -/
def fnSecretOutputsUptoRow : OpenClaim := { program := "ytmagbjbanpgmhaa", sum := "0e26fb76f3aaada5f2132a34abe095a9d8b93e1f2ad1cc5f26a523d58a846eee", func := "loop.example/constanttime/laws.FnSecretOutputs", spec := "fnSecretOutputs", unfollowed := true, recurses := true, apart := false, narrowed := true }
def FnSecretOutputsUptoSaid : Prop := fnSecretOutputsUptoRow.holds Try.pinned (OpenSpec.upto fnSecretOutputsSpec)

end Rows
end Go.Proofs.Ytmagbjbanpgmhaa
