/-
  No cell of these rows narrows 'for every input' (looked for: loops, veiled, ifaces, maps, wideKeys, modest, calm, conditions, laid).
  DERIVED. THE GIVEN ROWS OF THIS SEAT. 7 by the template 'for every input the law returns true; each argument reads behind the call as it read before'; 0 by the template 'total and deterministic' (their statements: YtjjjidcbokbhpaaGreatTotals.lean).
  GIVEN WITH THE SEED: the statements are not yours to turn. If you find one false, say at which input.
  Laid BY PROGRAM, IN A SANDBOX (cutbox-rows.mjs): the forced cells as the released guide's own fill.sh prints them over the translation 275c9b45c7ded83e… (all of the seat's roots in one cut). By AI agents, Wed Nov 11 2026. No macro, syntax, notation, axiom, sorry.
-/
import Derived.Test.YtjjjidcbokbhpaaGreatChecked
import GoSem.Claim
import GoSem.ClaimJoined
import GoSem.ClaimMapViews
import Derived.JoinedTies
import Derived.KernelRfl
namespace Go.Proofs.YtjjjidcbokbhpaaGreat
/- THE CELL 'sum', in the pinned program and in every row, IS THE sha256 OF THE DUMP (.gsa) THAT YtjjjidcbokbhpaaGreatProg.lean LOADS. Nothing in Lean hashes anything: it is a label: what it is worth is what the hold of that sum in a sandbox is worth. -/
noncomputable def Tryz.pinned : Pinned := { name := "ytjjjidcbokbhpaagreat", sum := "275c9b45c7ded83e91cdb5110e69443974bbb6ff1c764a2cfd15172b6c9aa1a8", checked := Tryz.checked }
namespace Rows
def none {H : Type} : Left H := { results := [], args := [] }

/-- 'laws.FnFoldProgram': WHATEVER THE INPUT: true; the input reads as it did. -/
def fnFoldProgramSpec : ChangeSpec := { name := "fnFoldProgram", fn := fun _ => fun
  | [d] => { results := [.lit (.bool true)], args := [d] }
  | _ => none }
def fnFoldProgramRow : OpenClaim := { program := "ytjjjidcbokbhpaagreat", sum := "275c9b45c7ded83e91cdb5110e69443974bbb6ff1c764a2cfd15172b6c9aa1a8", func := "loop.example/constanttime/laws.FnFoldProgram", spec := "fnFoldProgram", unfollowed := true, recurses := true, apart := false }
def FnFoldProgramSaid : Prop := fnFoldProgramRow.holds Tryz.pinned (OpenSpec.ofChange fnFoldProgramSpec)

/-- ITS FALSE NEIGHBOUR: 'it returns false'. Refute it at one input. -/
def fnFoldProgramWrong : ChangeSpec := { name := "fnFoldProgram", fn := fun _ => fun
  | [d] => { results := [.lit (.bool false)], args := [d] }
  | _ => none }
def FnFoldProgramWrongFalsely : Prop := fnFoldProgramRow.holds Tryz.pinned (OpenSpec.ofChange fnFoldProgramWrong)

/-- 'laws.FnCompileRegs': WHATEVER THE INPUT: true; the input reads as it did. -/
def fnCompileRegsSpec : ChangeSpec := { name := "fnCompileRegs", fn := fun _ => fun
  | [d] => { results := [.lit (.bool true)], args := [d] }
  | _ => none }
def fnCompileRegsRow : OpenClaim := { program := "ytjjjidcbokbhpaagreat", sum := "275c9b45c7ded83e91cdb5110e69443974bbb6ff1c764a2cfd15172b6c9aa1a8", func := "loop.example/constanttime/laws.FnCompileRegs", spec := "fnCompileRegs", unfollowed := true, recurses := true, apart := false }
def FnCompileRegsSaid : Prop := fnCompileRegsRow.holds Tryz.pinned (OpenSpec.ofChange fnCompileRegsSpec)

/-- ITS FALSE NEIGHBOUR: 'it returns false'. Refute it at one input. -/
def fnCompileRegsWrong : ChangeSpec := { name := "fnCompileRegs", fn := fun _ => fun
  | [d] => { results := [.lit (.bool false)], args := [d] }
  | _ => none }
def FnCompileRegsWrongFalsely : Prop := fnCompileRegsRow.holds Tryz.pinned (OpenSpec.ofChange fnCompileRegsWrong)

/-- 'laws.FnCompileRun': WHATEVER THE INPUT: true; the input reads as it did. -/
def fnCompileRunSpec : ChangeSpec := { name := "fnCompileRun", fn := fun _ => fun
  | [d] => { results := [.lit (.bool true)], args := [d] }
  | _ => none }
def fnCompileRunRow : OpenClaim := { program := "ytjjjidcbokbhpaagreat", sum := "275c9b45c7ded83e91cdb5110e69443974bbb6ff1c764a2cfd15172b6c9aa1a8", func := "loop.example/constanttime/laws.FnCompileRun", spec := "fnCompileRun", unfollowed := true, recurses := true, apart := false }
def FnCompileRunSaid : Prop := fnCompileRunRow.holds Tryz.pinned (OpenSpec.ofChange fnCompileRunSpec)

/-- ITS FALSE NEIGHBOUR: 'it returns false'. Refute it at one input. -/
def fnCompileRunWrong : ChangeSpec := { name := "fnCompileRun", fn := fun _ => fun
  | [d] => { results := [.lit (.bool false)], args := [d] }
  | _ => none }
def FnCompileRunWrongFalsely : Prop := fnCompileRunRow.holds Tryz.pinned (OpenSpec.ofChange fnCompileRunWrong)

/-- 'laws.FnFenceSource': WHATEVER THE INPUT: true; the input reads as it did. -/
def fnFenceSourceSpec : ChangeSpec := { name := "fnFenceSource", fn := fun _ => fun
  | [d1, d2] => { results := [.lit (.bool true)], args := [d1, d2] }
  | _ => none }
def fnFenceSourceRow : OpenClaim := { program := "ytjjjidcbokbhpaagreat", sum := "275c9b45c7ded83e91cdb5110e69443974bbb6ff1c764a2cfd15172b6c9aa1a8", func := "loop.example/constanttime/laws.FnFenceSource", spec := "fnFenceSource", unfollowed := true, recurses := true, apart := false }
def FnFenceSourceSaid : Prop := fnFenceSourceRow.holds Tryz.pinned (OpenSpec.ofChange fnFenceSourceSpec)

/-- ITS FALSE NEIGHBOUR: 'it returns false'. Refute it at one input. -/
def fnFenceSourceWrong : ChangeSpec := { name := "fnFenceSource", fn := fun _ => fun
  | [d1, d2] => { results := [.lit (.bool false)], args := [d1, d2] }
  | _ => none }
def FnFenceSourceWrongFalsely : Prop := fnFenceSourceRow.holds Tryz.pinned (OpenSpec.ofChange fnFenceSourceWrong)

/-- 'laws.FnLinearizeFold': WHATEVER THE INPUT: true; the input reads as it did. -/
def fnLinearizeFoldSpec : ChangeSpec := { name := "fnLinearizeFold", fn := fun _ => fun
  | [d] => { results := [.lit (.bool true)], args := [d] }
  | _ => none }
def fnLinearizeFoldRow : OpenClaim := { program := "ytjjjidcbokbhpaagreat", sum := "275c9b45c7ded83e91cdb5110e69443974bbb6ff1c764a2cfd15172b6c9aa1a8", func := "loop.example/constanttime/laws.FnLinearizeFold", spec := "fnLinearizeFold", unfollowed := true, recurses := true, apart := false }
def FnLinearizeFoldSaid : Prop := fnLinearizeFoldRow.holds Tryz.pinned (OpenSpec.ofChange fnLinearizeFoldSpec)

/-- ITS FALSE NEIGHBOUR: 'it returns false'. Refute it at one input. -/
def fnLinearizeFoldWrong : ChangeSpec := { name := "fnLinearizeFold", fn := fun _ => fun
  | [d] => { results := [.lit (.bool false)], args := [d] }
  | _ => none }
def FnLinearizeFoldWrongFalsely : Prop := fnLinearizeFoldRow.holds Tryz.pinned (OpenSpec.ofChange fnLinearizeFoldWrong)

/-- 'laws.FnBlameStmt': WHATEVER THE INPUT: true; the input reads as it did. -/
def fnBlameStmtSpec : ChangeSpec := { name := "fnBlameStmt", fn := fun _ => fun
  | [d] => { results := [.lit (.bool true)], args := [d] }
  | _ => none }
def fnBlameStmtRow : OpenClaim := { program := "ytjjjidcbokbhpaagreat", sum := "275c9b45c7ded83e91cdb5110e69443974bbb6ff1c764a2cfd15172b6c9aa1a8", func := "loop.example/constanttime/laws.FnBlameStmt", spec := "fnBlameStmt", unfollowed := true, recurses := true, apart := false }
def FnBlameStmtSaid : Prop := fnBlameStmtRow.holds Tryz.pinned (OpenSpec.ofChange fnBlameStmtSpec)

/-- ITS FALSE NEIGHBOUR: 'it returns false'. Refute it at one input. -/
def fnBlameStmtWrong : ChangeSpec := { name := "fnBlameStmt", fn := fun _ => fun
  | [d] => { results := [.lit (.bool false)], args := [d] }
  | _ => none }
def FnBlameStmtWrongFalsely : Prop := fnBlameStmtRow.holds Tryz.pinned (OpenSpec.ofChange fnBlameStmtWrong)

/-- 'laws.FnCompileSecure': WHATEVER THE INPUT: true; the input reads as it did. -/
def fnCompileSecureSpec : ChangeSpec := { name := "fnCompileSecure", fn := fun _ => fun
  | [d] => { results := [.lit (.bool true)], args := [d] }
  | _ => none }
def fnCompileSecureRow : OpenClaim := { program := "ytjjjidcbokbhpaagreat", sum := "275c9b45c7ded83e91cdb5110e69443974bbb6ff1c764a2cfd15172b6c9aa1a8", func := "loop.example/constanttime/laws.FnCompileSecure", spec := "fnCompileSecure", unfollowed := true, recurses := true, apart := false }
def FnCompileSecureSaid : Prop := fnCompileSecureRow.holds Tryz.pinned (OpenSpec.ofChange fnCompileSecureSpec)

/-- ITS FALSE NEIGHBOUR: 'it returns false'. Refute it at one input. -/
def fnCompileSecureWrong : ChangeSpec := { name := "fnCompileSecure", fn := fun _ => fun
  | [d] => { results := [.lit (.bool false)], args := [d] }
  | _ => none }
def FnCompileSecureWrongFalsely : Prop := fnCompileSecureRow.holds Tryz.pinned (OpenSpec.ofChange fnCompileSecureWrong)

/- THE SECOND FORM. 'bulk': how many values and letters a reading holds, each counted each time it is reached (what is shared counts as often as it is met; a slice's spare places count too). A statement '..UptoSaid' is the law's where the arguments, and the package variables that the reading takes, are together of bulk at most 1048576: NARROWER than '..Said'. Prove '..Said' where nothing that the law and all that it calls make is longer than what came in: it says more and counts as full. Else prove '..UptoSaid'. A law counts once. -/
mutual
def uptoBulk {H : Type} : DataW H → Nat
  | .lit (.string bytes) => bytes.length + 1
  | .lit _ => 1
  | .nil => 1
  | .ptr d => uptoBulk d + 1
  | .slice elems spare => uptoBulkAll elems + uptoBulkAll spare + 1
  | .agg parts => uptoBulkAll parts + 1
  | .iface _ d => uptoBulk d + 1
  | .map entries => uptoBulkEntries entries + 1
  | .held _ => 1
def uptoBulkAll {H : Type} : List (DataW H) → Nat
  | [] => 0
  | d :: r => uptoBulk d + uptoBulkAll r
def uptoBulkEntries {H : Type} : List (Lit × DataW H) → Nat
  | [] => 0
  | x :: r => uptoBulkEntry x + uptoBulkEntries r
def uptoBulkEntry {H : Type} : Lit × DataW H → Nat
  | (.string bytes, d) => bytes.length + uptoBulk d + 1
  | (_, d) => uptoBulk d + 1
 end
def uptoSmall : (H : Type) → List (DataW H) → Bool := fun _ ds => decide (uptoBulkAll ds ≤ 1048576)
def OpenSpec.upto (s : _root_.Go.ChangeSpec) : _root_.Go.OpenSpec := { _root_.Go.OpenSpec.ofChange s with cond := some uptoSmall }

/-- 'laws.FnFoldProgram', WHERE WHAT IT READS IS OF BULK AT MOST 1048576: true; the input reads as it did. -/
def fnFoldProgramUptoRow : OpenClaim := { program := "ytjjjidcbokbhpaagreat", sum := "275c9b45c7ded83e91cdb5110e69443974bbb6ff1c764a2cfd15172b6c9aa1a8", func := "loop.example/constanttime/laws.FnFoldProgram", spec := "fnFoldProgram", unfollowed := true, recurses := true, apart := false, narrowed := true }
def FnFoldProgramUptoSaid : Prop := fnFoldProgramUptoRow.holds Tryz.pinned (OpenSpec.upto fnFoldProgramSpec)

/-- 'laws.FnCompileRegs', WHERE WHAT IT READS IS OF BULK AT MOST 1048576: true; the input reads as it did. -/
def fnCompileRegsUptoRow : OpenClaim := { program := "ytjjjidcbokbhpaagreat", sum := "275c9b45c7ded83e91cdb5110e69443974bbb6ff1c764a2cfd15172b6c9aa1a8", func := "loop.example/constanttime/laws.FnCompileRegs", spec := "fnCompileRegs", unfollowed := true, recurses := true, apart := false, narrowed := true }
def FnCompileRegsUptoSaid : Prop := fnCompileRegsUptoRow.holds Tryz.pinned (OpenSpec.upto fnCompileRegsSpec)

/-- 'laws.FnCompileRun', WHERE WHAT IT READS IS OF BULK AT MOST 1048576: true; the input reads as it did. -/
def fnCompileRunUptoRow : OpenClaim := { program := "ytjjjidcbokbhpaagreat", sum := "275c9b45c7ded83e91cdb5110e69443974bbb6ff1c764a2cfd15172b6c9aa1a8", func := "loop.example/constanttime/laws.FnCompileRun", spec := "fnCompileRun", unfollowed := true, recurses := true, apart := false, narrowed := true }
def FnCompileRunUptoSaid : Prop := fnCompileRunUptoRow.holds Tryz.pinned (OpenSpec.upto fnCompileRunSpec)

/-- 'laws.FnFenceSource', WHERE WHAT IT READS IS OF BULK AT MOST 1048576: true; the input reads as it did. -/
def fnFenceSourceUptoRow : OpenClaim := { program := "ytjjjidcbokbhpaagreat", sum := "275c9b45c7ded83e91cdb5110e69443974bbb6ff1c764a2cfd15172b6c9aa1a8", func := "loop.example/constanttime/laws.FnFenceSource", spec := "fnFenceSource", unfollowed := true, recurses := true, apart := false, narrowed := true }
def FnFenceSourceUptoSaid : Prop := fnFenceSourceUptoRow.holds Tryz.pinned (OpenSpec.upto fnFenceSourceSpec)

/-- 'laws.FnLinearizeFold', WHERE WHAT IT READS IS OF BULK AT MOST 1048576: true; the input reads as it did. -/
def fnLinearizeFoldUptoRow : OpenClaim := { program := "ytjjjidcbokbhpaagreat", sum := "275c9b45c7ded83e91cdb5110e69443974bbb6ff1c764a2cfd15172b6c9aa1a8", func := "loop.example/constanttime/laws.FnLinearizeFold", spec := "fnLinearizeFold", unfollowed := true, recurses := true, apart := false, narrowed := true }
def FnLinearizeFoldUptoSaid : Prop := fnLinearizeFoldUptoRow.holds Tryz.pinned (OpenSpec.upto fnLinearizeFoldSpec)

/-- 'laws.FnBlameStmt', WHERE WHAT IT READS IS OF BULK AT MOST 1048576: true; the input reads as it did. -/
def fnBlameStmtUptoRow : OpenClaim := { program := "ytjjjidcbokbhpaagreat", sum := "275c9b45c7ded83e91cdb5110e69443974bbb6ff1c764a2cfd15172b6c9aa1a8", func := "loop.example/constanttime/laws.FnBlameStmt", spec := "fnBlameStmt", unfollowed := true, recurses := true, apart := false, narrowed := true }
def FnBlameStmtUptoSaid : Prop := fnBlameStmtUptoRow.holds Tryz.pinned (OpenSpec.upto fnBlameStmtSpec)

/-- 'laws.FnCompileSecure', WHERE WHAT IT READS IS OF BULK AT MOST 1048576: true; the input reads as it did. -/
def fnCompileSecureUptoRow : OpenClaim := { program := "ytjjjidcbokbhpaagreat", sum := "275c9b45c7ded83e91cdb5110e69443974bbb6ff1c764a2cfd15172b6c9aa1a8", func := "loop.example/constanttime/laws.FnCompileSecure", spec := "fnCompileSecure", unfollowed := true, recurses := true, apart := false, narrowed := true }
def FnCompileSecureUptoSaid : Prop := fnCompileSecureUptoRow.holds Tryz.pinned (OpenSpec.upto fnCompileSecureSpec)

end Rows
end Go.Proofs.YtjjjidcbokbhpaaGreat
