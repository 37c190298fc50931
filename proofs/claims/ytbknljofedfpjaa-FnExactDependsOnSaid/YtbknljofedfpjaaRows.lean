/-
  NARROWER THAN 'FOR EVERY INPUT', by the rows' own cells (each row's printed sentence says how): FnExactDependsOn: loops · FnExactSliceProgram: loops.
  DERIVED. THE GIVEN ROWS OF THIS SEAT. 2 by the template 'for every input the law returns true; each argument reads behind the call as it read before'; 0 by the template 'total and deterministic' (their statements: YtbknljofedfpjaaTotals.lean).
  GIVEN WITH THE SEED: the statements are not yours to turn. If you find one false, say at which input.
  Laid BY PROGRAM, IN A SANDBOX (cutbox-rows.mjs): the forced cells as the released guide's own fill.sh prints them over the translation 2a53143664d89f0d… (all of the seat's roots in one cut). By AI agents, Wed Nov 11 2026. No macro, syntax, notation, axiom, sorry.
-/
import Derived.Test.YtbknljofedfpjaaChecked
import GoSem.Claim
import GoSem.ClaimJoined
import GoSem.ClaimMapViews
import Derived.JoinedTies
import Derived.KernelRfl
namespace Go.Proofs.Ytbknljofedfpjaa
/- THE CELL 'sum', in the pinned program and in every row, IS THE sha256 OF THE DUMP (.gsa) THAT YtbknljofedfpjaaProg.lean LOADS. Nothing in Lean hashes anything: it is a label: what it is worth is what the hold of that sum in a sandbox is worth. -/
noncomputable def Try.pinned : Pinned := { name := "ytbknljofedfpjaa", sum := "2a53143664d89f0de7026e368abffb760f9392f0803ca0768d58fa5f828db06e", checked := Try.checked }
namespace Rows
def none {H : Type} : Left H := { results := [], args := [] }

/-- 'laws.FnExactDependsOn': WHATEVER THE INPUT: true; the input reads as it did. -/
def fnExactDependsOnSpec : ChangeSpec := { name := "fnExactDependsOn", fn := fun _ => fun
  | [d] => { results := [.lit (.bool true)], args := [d] }
  | _ => none }
def fnExactDependsOnRow : OpenClaim := { program := "ytbknljofedfpjaa", sum := "2a53143664d89f0de7026e368abffb760f9392f0803ca0768d58fa5f828db06e", func := "loop.example/constanttime/laws.FnExactDependsOn", spec := "fnExactDependsOn", unfollowed := true, recurses := true, loops := true, apart := false }
def FnExactDependsOnSaid : Prop := fnExactDependsOnRow.holds Try.pinned (OpenSpec.ofChange fnExactDependsOnSpec)

/-- ITS FALSE NEIGHBOUR: 'it returns false'. Refute it at one input. -/
def fnExactDependsOnWrong : ChangeSpec := { name := "fnExactDependsOn", fn := fun _ => fun
  | [d] => { results := [.lit (.bool false)], args := [d] }
  | _ => none }
def FnExactDependsOnWrongFalsely : Prop := fnExactDependsOnRow.holds Try.pinned (OpenSpec.ofChange fnExactDependsOnWrong)

/-- 'laws.FnExactSliceProgram': WHATEVER THE INPUT: true; the input reads as it did. -/
def fnExactSliceProgramSpec : ChangeSpec := { name := "fnExactSliceProgram", fn := fun _ => fun
  | [d1, d2] => { results := [.lit (.bool true)], args := [d1, d2] }
  | _ => none }
def fnExactSliceProgramRow : OpenClaim := { program := "ytbknljofedfpjaa", sum := "2a53143664d89f0de7026e368abffb760f9392f0803ca0768d58fa5f828db06e", func := "loop.example/constanttime/laws.FnExactSliceProgram", spec := "fnExactSliceProgram", unfollowed := true, recurses := true, loops := true, apart := false }
def FnExactSliceProgramSaid : Prop := fnExactSliceProgramRow.holds Try.pinned (OpenSpec.ofChange fnExactSliceProgramSpec)

/-- ITS FALSE NEIGHBOUR: 'it returns false'. Refute it at one input. -/
def fnExactSliceProgramWrong : ChangeSpec := { name := "fnExactSliceProgram", fn := fun _ => fun
  | [d1, d2] => { results := [.lit (.bool false)], args := [d1, d2] }
  | _ => none }
def FnExactSliceProgramWrongFalsely : Prop := fnExactSliceProgramRow.holds Try.pinned (OpenSpec.ofChange fnExactSliceProgramWrong)

/- THE SECOND FORM. 'bulk': how many values and letters a reading holds, each counted each time it is reached (what is shared counts as often as it is met; a slice's spare places count too). A statement '..UptoSaid' is the law's where the arguments, and the package variables that the reading takes, are together of bulk at most 1048576: NARROWER than '..Said'. Prove '..Said' where nothing that the law and all that it calls make is longer than what came in: it says more and counts as full. Else prove '..UptoSaid'. A law counts once. -/
mutual
def uptoBulk {H : Type} : DataW H → Nat
  | .lit (.string bytes) => bytes.length + 1
  | .lit _ => 1
  | .nil => 1
  | .ptr d => uptoBulk d + 1
  | .slice elems spare => uptoBulkAll elems + uptoBulkAll spare + 1
  | .agg parts => uptoBulkAll parts + 1
  | .iface _ d => uptoBulk d + 1
  | .map entries => uptoBulkEntries entries + 1
  | .held _ => 1
def uptoBulkAll {H : Type} : List (DataW H) → Nat
  | [] => 0
  | d :: r => uptoBulk d + uptoBulkAll r
def uptoBulkEntries {H : Type} : List (Lit × DataW H) → Nat
  | [] => 0
  | x :: r => uptoBulkEntry x + uptoBulkEntries r
def uptoBulkEntry {H : Type} : Lit × DataW H → Nat
  | (.string bytes, d) => bytes.length + uptoBulk d + 1
  | (_, d) => uptoBulk d + 1
 end
def uptoSmall : (H : Type) → List (DataW H) → Bool := fun _ ds => decide (uptoBulkAll ds ≤ 1048576)
def OpenSpec.upto (s : _root_.Go.ChangeSpec) : _root_.Go.OpenSpec := { _root_.Go.OpenSpec.ofChange s with cond := some uptoSmall }

/-- 'laws.FnExactDependsOn', WHERE WHAT IT READS IS OF BULK AT MOST 1048576: true; the input reads as it did. -/
def fnExactDependsOnUptoRow : OpenClaim := { program := "ytbknljofedfpjaa", sum := "2a53143664d89f0de7026e368abffb760f9392f0803ca0768d58fa5f828db06e", func := "loop.example/constanttime/laws.FnExactDependsOn", spec := "fnExactDependsOn", unfollowed := true, recurses := true, loops := true, apart := false, narrowed := true }
def FnExactDependsOnUptoSaid : Prop := fnExactDependsOnUptoRow.holds Try.pinned (OpenSpec.upto fnExactDependsOnSpec)

/-- 'laws.FnExactSliceProgram', WHERE WHAT IT READS IS OF BULK AT MOST 1048576: true; the input reads as it did. -/
def fnExactSliceProgramUptoRow : OpenClaim := { program := "ytbknljofedfpjaa", sum := "2a53143664d89f0de7026e368abffb760f9392f0803ca0768d58fa5f828db06e", func := "loop.example/constanttime/laws.FnExactSliceProgram", spec := "fnExactSliceProgram", unfollowed := true, recurses := true, loops := true, apart := false, narrowed := true }
def FnExactSliceProgramUptoSaid : Prop := fnExactSliceProgramUptoRow.holds Try.pinned (OpenSpec.upto fnExactSliceProgramSpec)

end Rows
end Go.Proofs.Ytbknljofedfpjaa
