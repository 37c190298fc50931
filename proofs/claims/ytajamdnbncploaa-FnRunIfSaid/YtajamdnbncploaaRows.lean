/-
  No cell of these rows narrows 'for every input' (looked for: loops, veiled, ifaces, maps, wideKeys, modest, calm, conditions, laid).
  DERIVED. THE GIVEN ROWS OF THIS SEAT. 4 by the template 'for every input the law returns true; each argument reads behind the call as it read before'; 0 by the template 'total and deterministic' (their statements: YtajamdnbncploaaTotals.lean).
  GIVEN WITH THE SEED: the statements are not yours to turn. If you find one false, say at which input.
  Laid BY PROGRAM, IN A SANDBOX (cutbox-rows.mjs): the forced cells as the released guide's own fill.sh prints them over the translation 75554b70fe339e72… (all of the seat's roots in one cut). By AI agents, Wed Nov 11 2026. No macro, syntax, notation, axiom, sorry.
-/
import Derived.Test.YtajamdnbncploaaChecked
import GoSem.Claim
import GoSem.ClaimJoined
import GoSem.ClaimMapViews
import Derived.JoinedTies
import Derived.KernelRfl
namespace Go.Proofs.Ytajamdnbncploaa
/- THE CELL 'sum', in the pinned program and in every row, IS THE sha256 OF THE DUMP (.gsa) THAT YtajamdnbncploaaProg.lean LOADS. Nothing in Lean hashes anything: it is a label: what it is worth is what the hold of that sum in a sandbox is worth. -/
noncomputable def Try.pinned : Pinned := { name := "ytajamdnbncploaa", sum := "75554b70fe339e723e6a1d6e00d29f6c3e16f8d7ca5e59a06c763c9526517ec8", checked := Try.checked }
namespace Rows
def none {H : Type} : Left H := { results := [], args := [] }

/-- 'laws.FnRunEmpty': WHATEVER THE INPUT: true; the input reads as it did. -/
def fnRunEmptySpec : ChangeSpec := { name := "fnRunEmpty", fn := fun _ => fun
  | [d] => { results := [.lit (.bool true)], args := [d] }
  | _ => none }
def fnRunEmptyRow : OpenClaim := { program := "ytajamdnbncploaa", sum := "75554b70fe339e723e6a1d6e00d29f6c3e16f8d7ca5e59a06c763c9526517ec8", func := "loop.example/constanttime/laws.FnRunEmpty", spec := "fnRunEmpty", unfollowed := true, recurses := true, apart := false }
def FnRunEmptySaid : Prop := fnRunEmptyRow.holds Try.pinned (OpenSpec.ofChange fnRunEmptySpec)

/-- ITS FALSE NEIGHBOUR: 'it returns false'. Refute it at one input. -/
def fnRunEmptyWrong : ChangeSpec := { name := "fnRunEmpty", fn := fun _ => fun
  | [d] => { results := [.lit (.bool false)], args := [d] }
  | _ => none }
def FnRunEmptyWrongFalsely : Prop := fnRunEmptyRow.holds Try.pinned (OpenSpec.ofChange fnRunEmptyWrong)

/-- 'laws.FnRunRepeat': WHATEVER THE INPUT: true; the input reads as it did. -/
def fnRunRepeatSpec : ChangeSpec := { name := "fnRunRepeat", fn := fun _ => fun
  | [d] => { results := [.lit (.bool true)], args := [d] }
  | _ => none }
def fnRunRepeatRow : OpenClaim := { program := "ytajamdnbncploaa", sum := "75554b70fe339e723e6a1d6e00d29f6c3e16f8d7ca5e59a06c763c9526517ec8", func := "loop.example/constanttime/laws.FnRunRepeat", spec := "fnRunRepeat", unfollowed := true, recurses := true, apart := false }
def FnRunRepeatSaid : Prop := fnRunRepeatRow.holds Try.pinned (OpenSpec.ofChange fnRunRepeatSpec)

/-- ITS FALSE NEIGHBOUR: 'it returns false'. Refute it at one input. -/
def fnRunRepeatWrong : ChangeSpec := { name := "fnRunRepeat", fn := fun _ => fun
  | [d] => { results := [.lit (.bool false)], args := [d] }
  | _ => none }
def FnRunRepeatWrongFalsely : Prop := fnRunRepeatRow.holds Try.pinned (OpenSpec.ofChange fnRunRepeatWrong)

/-- 'laws.FnRunSequence': WHATEVER THE INPUT: true; the input reads as it did. -/
def fnRunSequenceSpec : ChangeSpec := { name := "fnRunSequence", fn := fun _ => fun
  | [d1, d2] => { results := [.lit (.bool true)], args := [d1, d2] }
  | _ => none }
def fnRunSequenceRow : OpenClaim := { program := "ytajamdnbncploaa", sum := "75554b70fe339e723e6a1d6e00d29f6c3e16f8d7ca5e59a06c763c9526517ec8", func := "loop.example/constanttime/laws.FnRunSequence", spec := "fnRunSequence", unfollowed := true, recurses := true, apart := false }
def FnRunSequenceSaid : Prop := fnRunSequenceRow.holds Try.pinned (OpenSpec.ofChange fnRunSequenceSpec)

/-- ITS FALSE NEIGHBOUR: 'it returns false'. Refute it at one input. -/
def fnRunSequenceWrong : ChangeSpec := { name := "fnRunSequence", fn := fun _ => fun
  | [d1, d2] => { results := [.lit (.bool false)], args := [d1, d2] }
  | _ => none }
def FnRunSequenceWrongFalsely : Prop := fnRunSequenceRow.holds Try.pinned (OpenSpec.ofChange fnRunSequenceWrong)

/-- 'laws.FnRunIf': WHATEVER THE INPUT: true; the input reads as it did. -/
def fnRunIfSpec : ChangeSpec := { name := "fnRunIf", fn := fun _ => fun
  | [d] => { results := [.lit (.bool true)], args := [d] }
  | _ => none }
def fnRunIfRow : OpenClaim := { program := "ytajamdnbncploaa", sum := "75554b70fe339e723e6a1d6e00d29f6c3e16f8d7ca5e59a06c763c9526517ec8", func := "loop.example/constanttime/laws.FnRunIf", spec := "fnRunIf", unfollowed := true, recurses := true, apart := false }
def FnRunIfSaid : Prop := fnRunIfRow.holds Try.pinned (OpenSpec.ofChange fnRunIfSpec)

/-- ITS FALSE NEIGHBOUR: 'it returns false'. Refute it at one input. -/
def fnRunIfWrong : ChangeSpec := { name := "fnRunIf", fn := fun _ => fun
  | [d] => { results := [.lit (.bool false)], args := [d] }
  | _ => none }
def FnRunIfWrongFalsely : Prop := fnRunIfRow.holds Try.pinned (OpenSpec.ofChange fnRunIfWrong)

/- THE SECOND FORM. 'bulk': how many values and letters a reading holds, each counted each time it is reached (what is shared counts as often as it is met; a slice's spare places count too). A statement '..UptoSaid' is the law's where the arguments, and the package variables that the reading takes, are together of bulk at most 1048576: NARROWER than '..Said'. Prove '..Said' where nothing that the law and all that it calls make is longer than what came in: it says more and counts as full. Else prove '..UptoSaid'. A law counts once. -/
mutual
def uptoBulk {H : Type} : DataW H → Nat
  | .lit (.string bytes) => bytes.length + 1
  | .lit _ => 1
  | .nil => 1
  | .ptr d => uptoBulk d + 1
  | .slice elems spare => uptoBulkAll elems + uptoBulkAll spare + 1
  | .agg parts => uptoBulkAll parts + 1
  | .iface _ d => uptoBulk d + 1
  | .map entries => uptoBulkEntries entries + 1
  | .held _ => 1
def uptoBulkAll {H : Type} : List (DataW H) → Nat
  | [] => 0
  | d :: r => uptoBulk d + uptoBulkAll r
def uptoBulkEntries {H : Type} : List (Lit × DataW H) → Nat
  | [] => 0
  | x :: r => uptoBulkEntry x + uptoBulkEntries r
def uptoBulkEntry {H : Type} : Lit × DataW H → Nat
  | (.string bytes, d) => bytes.length + uptoBulk d + 1
  | (_, d) => uptoBulk d + 1
 end
def uptoSmall : (H : Type) → List (DataW H) → Bool := fun _ ds => decide (uptoBulkAll ds ≤ 1048576)
def OpenSpec.upto (s : _root_.Go.ChangeSpec) : _root_.Go.OpenSpec := { _root_.Go.OpenSpec.ofChange s with cond := some uptoSmall }

/-- 'laws.FnRunEmpty', WHERE WHAT IT READS IS OF BULK AT MOST 1048576: true; the input reads as it did. -/
def fnRunEmptyUptoRow : OpenClaim := { program := "ytajamdnbncploaa", sum := "75554b70fe339e723e6a1d6e00d29f6c3e16f8d7ca5e59a06c763c9526517ec8", func := "loop.example/constanttime/laws.FnRunEmpty", spec := "fnRunEmpty", unfollowed := true, recurses := true, apart := false, narrowed := true }
def FnRunEmptyUptoSaid : Prop := fnRunEmptyUptoRow.holds Try.pinned (OpenSpec.upto fnRunEmptySpec)

/-- 'laws.FnRunRepeat', WHERE WHAT IT READS IS OF BULK AT MOST 1048576: true; the input reads as it did. -/
def fnRunRepeatUptoRow : OpenClaim := { program := "ytajamdnbncploaa", sum := "75554b70fe339e723e6a1d6e00d29f6c3e16f8d7ca5e59a06c763c9526517ec8", func := "loop.example/constanttime/laws.FnRunRepeat", spec := "fnRunRepeat", unfollowed := true, recurses := true, apart := false, narrowed := true }
def FnRunRepeatUptoSaid : Prop := fnRunRepeatUptoRow.holds Try.pinned (OpenSpec.upto fnRunRepeatSpec)

/-- 'laws.FnRunSequence', WHERE WHAT IT READS IS OF BULK AT MOST 1048576: true; the input reads as it did. -/
def fnRunSequenceUptoRow : OpenClaim := { program := "ytajamdnbncploaa", sum := "75554b70fe339e723e6a1d6e00d29f6c3e16f8d7ca5e59a06c763c9526517ec8", func := "loop.example/constanttime/laws.FnRunSequence", spec := "fnRunSequence", unfollowed := true, recurses := true, apart := false, narrowed := true }
def FnRunSequenceUptoSaid : Prop := fnRunSequenceUptoRow.holds Try.pinned (OpenSpec.upto fnRunSequenceSpec)

/-- 'laws.FnRunIf', WHERE WHAT IT READS IS OF BULK AT MOST 1048576: true; the input reads as it did. -/
def fnRunIfUptoRow : OpenClaim := { program := "ytajamdnbncploaa", sum := "75554b70fe339e723e6a1d6e00d29f6c3e16f8d7ca5e59a06c763c9526517ec8", func := "loop.example/constanttime/laws.FnRunIf", spec := "fnRunIf", unfollowed := true, recurses := true, apart := false, narrowed := true }
def FnRunIfUptoSaid : Prop := fnRunIfUptoRow.holds Try.pinned (OpenSpec.upto fnRunIfSpec)

end Rows
end Go.Proofs.Ytajamdnbncploaa
