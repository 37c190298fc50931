/-
  No cell of these rows narrows 'for every input' (looked for: loops, veiled, ifaces, maps, wideKeys, modest, calm, conditions, laid).
  DERIVED. THE GIVEN ROWS OF THIS SEAT. 6 by the template 'for every input the law returns true; each argument reads behind the call as it read before'; 0 by the template 'total and deterministic' (their statements: YtmagbjbanpgmhaaGreatTotals.lean).
  GIVEN WITH THE SEED: the statements are not yours to turn. If you find one false, say at which input.
  Laid BY PROGRAM, IN A SANDBOX (cutbox-rows.mjs): the forced cells as the released guide's own fill.sh prints them over the translation 3cea8c9fe0c28db1… (all of the seat's roots in one cut). By AI agents, Wed Nov 11 2026. No macro, syntax, notation, axiom, sorry.
-/
import Derived.Test.YtmagbjbanpgmhaaGreatChecked
import GoSem.Claim
import GoSem.ClaimJoined
import GoSem.ClaimMapViews
import Derived.JoinedTies
import Derived.KernelRfl
namespace Go.Proofs.YtmagbjbanpgmhaaGreat
/- THE CELL 'sum', in the pinned program and in every row, IS THE sha256 OF THE DUMP (.gsa) THAT YtmagbjbanpgmhaaGreatProg.lean LOADS. Nothing in Lean hashes anything: it is a label: what it is worth is what the hold of that sum in a sandbox is worth. -/
noncomputable def Tryz.pinned : Pinned := { name := "ytmagbjbanpgmhaagreat", sum := "3cea8c9fe0c28db1750c041a45150f7a46a9773b8720d1e47fffd72a9bb37996", checked := Tryz.checked }
namespace Rows
def none {H : Type} : Left H := { results := [], args := [] }

/-- 'laws.FnConstantTime': WHATEVER THE INPUT: true; the input reads as it did. -/
def fnConstantTimeSpec : ChangeSpec := { name := "fnConstantTime", fn := fun _ => fun
  | [d] => { results := [.lit (.bool true)], args := [d] }
  | _ => none }
def fnConstantTimeRow : OpenClaim := { program := "ytmagbjbanpgmhaagreat", sum := "3cea8c9fe0c28db1750c041a45150f7a46a9773b8720d1e47fffd72a9bb37996", func := "loop.example/constanttime/laws.FnConstantTime", spec := "fnConstantTime", unfollowed := true, recurses := true, apart := false }
def FnConstantTimeSaid : Prop := fnConstantTimeRow.holds Tryz.pinned (OpenSpec.ofChange fnConstantTimeSpec)

/-- ITS FALSE NEIGHBOUR: 'it returns false'. Refute it at one input. -/
def fnConstantTimeWrong : ChangeSpec := { name := "fnConstantTime", fn := fun _ => fun
  | [d] => { results := [.lit (.bool false)], args := [d] }
  | _ => none }
def FnConstantTimeWrongFalsely : Prop := fnConstantTimeRow.holds Tryz.pinned (OpenSpec.ofChange fnConstantTimeWrong)

/-- 'laws.FnSliceFlow': WHATEVER THE INPUT: true; the input reads as it did. -/
def fnSliceFlowSpec : ChangeSpec := { name := "fnSliceFlow", fn := fun _ => fun
  | [d] => { results := [.lit (.bool true)], args := [d] }
  | _ => none }
def fnSliceFlowRow : OpenClaim := { program := "ytmagbjbanpgmhaagreat", sum := "3cea8c9fe0c28db1750c041a45150f7a46a9773b8720d1e47fffd72a9bb37996", func := "loop.example/constanttime/laws.FnSliceFlow", spec := "fnSliceFlow", unfollowed := true, recurses := true, apart := false }
def FnSliceFlowSaid : Prop := fnSliceFlowRow.holds Tryz.pinned (OpenSpec.ofChange fnSliceFlowSpec)

/-- ITS FALSE NEIGHBOUR: 'it returns false'. Refute it at one input. -/
def fnSliceFlowWrong : ChangeSpec := { name := "fnSliceFlow", fn := fun _ => fun
  | [d] => { results := [.lit (.bool false)], args := [d] }
  | _ => none }
def FnSliceFlowWrongFalsely : Prop := fnSliceFlowRow.holds Tryz.pinned (OpenSpec.ofChange fnSliceFlowWrong)

/-- 'laws.FnTraceSecret': WHATEVER THE INPUT: true; the input reads as it did. -/
def fnTraceSecretSpec : ChangeSpec := { name := "fnTraceSecret", fn := fun _ => fun
  | [d] => { results := [.lit (.bool true)], args := [d] }
  | _ => none }
def fnTraceSecretRow : OpenClaim := { program := "ytmagbjbanpgmhaagreat", sum := "3cea8c9fe0c28db1750c041a45150f7a46a9773b8720d1e47fffd72a9bb37996", func := "loop.example/constanttime/laws.FnTraceSecret", spec := "fnTraceSecret", unfollowed := true, recurses := true, apart := false }
def FnTraceSecretSaid : Prop := fnTraceSecretRow.holds Tryz.pinned (OpenSpec.ofChange fnTraceSecretSpec)

/-- ITS FALSE NEIGHBOUR: 'it returns false'. Refute it at one input. -/
def fnTraceSecretWrong : ChangeSpec := { name := "fnTraceSecret", fn := fun _ => fun
  | [d] => { results := [.lit (.bool false)], args := [d] }
  | _ => none }
def FnTraceSecretWrongFalsely : Prop := fnTraceSecretRow.holds Tryz.pinned (OpenSpec.ofChange fnTraceSecretWrong)

/-- 'laws.FnLeakClasses': WHATEVER THE INPUT: true; the input reads as it did. -/
def fnLeakClassesSpec : ChangeSpec := { name := "fnLeakClasses", fn := fun _ => fun
  | [d1, d2] => { results := [.lit (.bool true)], args := [d1, d2] }
  | _ => none }
def fnLeakClassesRow : OpenClaim := { program := "ytmagbjbanpgmhaagreat", sum := "3cea8c9fe0c28db1750c041a45150f7a46a9773b8720d1e47fffd72a9bb37996", func := "loop.example/constanttime/laws.FnLeakClasses", spec := "fnLeakClasses", unfollowed := true, recurses := true, apart := false }
def FnLeakClassesSaid : Prop := fnLeakClassesRow.holds Tryz.pinned (OpenSpec.ofChange fnLeakClassesSpec)

/-- ITS FALSE NEIGHBOUR: 'it returns false'. Refute it at one input. -/
def fnLeakClassesWrong : ChangeSpec := { name := "fnLeakClasses", fn := fun _ => fun
  | [d1, d2] => { results := [.lit (.bool false)], args := [d1, d2] }
  | _ => none }
def FnLeakClassesWrongFalsely : Prop := fnLeakClassesRow.holds Tryz.pinned (OpenSpec.ofChange fnLeakClassesWrong)

/-- 'laws.FnLeakDepends': WHATEVER THE INPUT: true; the input reads as it did. -/
def fnLeakDependsSpec : ChangeSpec := { name := "fnLeakDepends", fn := fun _ => fun
  | [d] => { results := [.lit (.bool true)], args := [d] }
  | _ => none }
def fnLeakDependsRow : OpenClaim := { program := "ytmagbjbanpgmhaagreat", sum := "3cea8c9fe0c28db1750c041a45150f7a46a9773b8720d1e47fffd72a9bb37996", func := "loop.example/constanttime/laws.FnLeakDepends", spec := "fnLeakDepends", unfollowed := true, recurses := true, apart := false }
def FnLeakDependsSaid : Prop := fnLeakDependsRow.holds Tryz.pinned (OpenSpec.ofChange fnLeakDependsSpec)

/-- ITS FALSE NEIGHBOUR: 'it returns false'. Refute it at one input. -/
def fnLeakDependsWrong : ChangeSpec := { name := "fnLeakDepends", fn := fun _ => fun
  | [d] => { results := [.lit (.bool false)], args := [d] }
  | _ => none }
def FnLeakDependsWrongFalsely : Prop := fnLeakDependsRow.holds Tryz.pinned (OpenSpec.ofChange fnLeakDependsWrong)

/-- 'laws.FnLeakConstant': WHATEVER THE INPUT: true; the input reads as it did. -/
def fnLeakConstantSpec : ChangeSpec := { name := "fnLeakConstant", fn := fun _ => fun
  | [d] => { results := [.lit (.bool true)], args := [d] }
  | _ => none }
def fnLeakConstantRow : OpenClaim := { program := "ytmagbjbanpgmhaagreat", sum := "3cea8c9fe0c28db1750c041a45150f7a46a9773b8720d1e47fffd72a9bb37996", func := "loop.example/constanttime/laws.FnLeakConstant", spec := "fnLeakConstant", unfollowed := true, recurses := true, apart := false }
def FnLeakConstantSaid : Prop := fnLeakConstantRow.holds Tryz.pinned (OpenSpec.ofChange fnLeakConstantSpec)

/-- ITS FALSE NEIGHBOUR: 'it returns false'. Refute it at one input. -/
def fnLeakConstantWrong : ChangeSpec := { name := "fnLeakConstant", fn := fun _ => fun
  | [d] => { results := [.lit (.bool false)], args := [d] }
  | _ => none }
def FnLeakConstantWrongFalsely : Prop := fnLeakConstantRow.holds Tryz.pinned (OpenSpec.ofChange fnLeakConstantWrong)

/- THE SECOND FORM. 'bulk': how many values and letters a reading holds, each counted each time it is reached (what is shared counts as often as it is met; a slice's spare places count too). A statement '..UptoSaid' is the law's where the arguments, and the package variables that the reading takes, are together of bulk at most 1048576: NARROWER than '..Said'. Prove '..Said' where nothing that the law and all that it calls make is longer than what came in: it says more and counts as full. Else prove '..UptoSaid'. A law counts once. -/
mutual
def uptoBulk {H : Type} : DataW H → Nat
  | .lit (.string bytes) => bytes.length + 1
  | .lit _ => 1
  | .nil => 1
  | .ptr d => uptoBulk d + 1
  | .slice elems spare => uptoBulkAll elems + uptoBulkAll spare + 1
  | .agg parts => uptoBulkAll parts + 1
  | .iface _ d => uptoBulk d + 1
  | .map entries => uptoBulkEntries entries + 1
  | .held _ => 1
def uptoBulkAll {H : Type} : List (DataW H) → Nat
  | [] => 0
  | d :: r => uptoBulk d + uptoBulkAll r
def uptoBulkEntries {H : Type} : List (Lit × DataW H) → Nat
  | [] => 0
  | x :: r => uptoBulkEntry x + uptoBulkEntries r
def uptoBulkEntry {H : Type} : Lit × DataW H → Nat
  | (.string bytes, d) => bytes.length + uptoBulk d + 1
  | (_, d) => uptoBulk d + 1
 end
def uptoSmall : (H : Type) → List (DataW H) → Bool := fun _ ds => decide (uptoBulkAll ds ≤ 1048576)
def OpenSpec.upto (s : _root_.Go.ChangeSpec) : _root_.Go.OpenSpec := { _root_.Go.OpenSpec.ofChange s with cond := some uptoSmall }

/-- 'laws.FnConstantTime', WHERE WHAT IT READS IS OF BULK AT MOST 1048576: true; the input reads as it did. -/
def fnConstantTimeUptoRow : OpenClaim := { program := "ytmagbjbanpgmhaagreat", sum := "3cea8c9fe0c28db1750c041a45150f7a46a9773b8720d1e47fffd72a9bb37996", func := "loop.example/constanttime/laws.FnConstantTime", spec := "fnConstantTime", unfollowed := true, recurses := true, apart := false, narrowed := true }
def FnConstantTimeUptoSaid : Prop := fnConstantTimeUptoRow.holds Tryz.pinned (OpenSpec.upto fnConstantTimeSpec)

/-- 'laws.FnSliceFlow', WHERE WHAT IT READS IS OF BULK AT MOST 1048576: true; the input reads as it did. -/
def fnSliceFlowUptoRow : OpenClaim := { program := "ytmagbjbanpgmhaagreat", sum := "3cea8c9fe0c28db1750c041a45150f7a46a9773b8720d1e47fffd72a9bb37996", func := "loop.example/constanttime/laws.FnSliceFlow", spec := "fnSliceFlow", unfollowed := true, recurses := true, apart := false, narrowed := true }
def FnSliceFlowUptoSaid : Prop := fnSliceFlowUptoRow.holds Tryz.pinned (OpenSpec.upto fnSliceFlowSpec)

/-- 'laws.FnTraceSecret', WHERE WHAT IT READS IS OF BULK AT MOST 1048576: true; the input reads as it did. -/
def fnTraceSecretUptoRow : OpenClaim := { program := "ytmagbjbanpgmhaagreat", sum := "3cea8c9fe0c28db1750c041a45150f7a46a9773b8720d1e47fffd72a9bb37996", func := "loop.example/constanttime/laws.FnTraceSecret", spec := "fnTraceSecret", unfollowed := true, recurses := true, apart := false, narrowed := true }
def FnTraceSecretUptoSaid : Prop := fnTraceSecretUptoRow.holds Tryz.pinned (OpenSpec.upto fnTraceSecretSpec)

/-- 'laws.FnLeakClasses', WHERE WHAT IT READS IS OF BULK AT MOST 1048576: true; the input reads as it did. -/
def fnLeakClassesUptoRow : OpenClaim := { program := "ytmagbjbanpgmhaagreat", sum := "3cea8c9fe0c28db1750c041a45150f7a46a9773b8720d1e47fffd72a9bb37996", func := "loop.example/constanttime/laws.FnLeakClasses", spec := "fnLeakClasses", unfollowed := true, recurses := true, apart := false, narrowed := true }
def FnLeakClassesUptoSaid : Prop := fnLeakClassesUptoRow.holds Tryz.pinned (OpenSpec.upto fnLeakClassesSpec)

/-- 'laws.FnLeakDepends', WHERE WHAT IT READS IS OF BULK AT MOST 1048576: true; the input reads as it did. -/
def fnLeakDependsUptoRow : OpenClaim := { program := "ytmagbjbanpgmhaagreat", sum := "3cea8c9fe0c28db1750c041a45150f7a46a9773b8720d1e47fffd72a9bb37996", func := "loop.example/constanttime/laws.FnLeakDepends", spec := "fnLeakDepends", unfollowed := true, recurses := true, apart := false, narrowed := true }
def FnLeakDependsUptoSaid : Prop := fnLeakDependsUptoRow.holds Tryz.pinned (OpenSpec.upto fnLeakDependsSpec)

/-- 'laws.FnLeakConstant', WHERE WHAT IT READS IS OF BULK AT MOST 1048576: true; the input reads as it did. -/
def fnLeakConstantUptoRow : OpenClaim := { program := "ytmagbjbanpgmhaagreat", sum := "3cea8c9fe0c28db1750c041a45150f7a46a9773b8720d1e47fffd72a9bb37996", func := "loop.example/constanttime/laws.FnLeakConstant", spec := "fnLeakConstant", unfollowed := true, recurses := true, apart := false, narrowed := true }
def FnLeakConstantUptoSaid : Prop := fnLeakConstantUptoRow.holds Tryz.pinned (OpenSpec.upto fnLeakConstantSpec)

end Rows
end Go.Proofs.YtmagbjbanpgmhaaGreat
