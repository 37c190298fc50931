/-
  NARROWER THAN 'FOR EVERY INPUT', by the rows' own cells (each row's printed sentence says how): FnExactBlameStmt: loops.
  DERIVED. THE GIVEN ROWS OF THIS SEAT. 3 by the template 'for every input the law returns true; each argument reads behind the call as it read before'; 0 by the template 'total and deterministic' (their statements: YtmjkgjkkpaephaaGreatTotals.lean).
  GIVEN WITH THE SEED: the statements are not yours to turn. If you find one false, say at which input.
  Laid BY PROGRAM, IN A SANDBOX (cutbox-rows.mjs): the forced cells as the released guide's own fill.sh prints them over the translation f074c802f3ae9586… (all of the seat's roots in one cut). By AI agents, Wed Nov 11 2026. No macro, syntax, notation, axiom, sorry.
-/
import Derived.Test.YtmjkgjkkpaephaaGreatChecked
import GoSem.Claim
import GoSem.ClaimJoined
import GoSem.ClaimMapViews
import Derived.JoinedTies
import Derived.KernelRfl
namespace Go.Proofs.YtmjkgjkkpaephaaGreat
/- THE CELL 'sum', in the pinned program and in every row, IS THE sha256 OF THE DUMP (.gsa) THAT YtmjkgjkkpaephaaGreatProg.lean LOADS. Nothing in Lean hashes anything: it is a label: what it is worth is what the hold of that sum in a sandbox is worth. -/
noncomputable def Tryz.pinned : Pinned := { name := "ytmjkgjkkpaephaagreat", sum := "f074c802f3ae9586953c9caafac3925418503de37b587bc89a02c35f8ef8e3b7", checked := Tryz.checked }
namespace Rows
def none {H : Type} : Left H := { results := [], args := [] }

/-- 'laws.FnExactBlameStmt': WHATEVER THE INPUT: true; the input reads as it did. -/
def fnExactBlameStmtSpec : ChangeSpec := { name := "fnExactBlameStmt", fn := fun _ => fun
  | [d1, d2, d3] => { results := [.lit (.bool true)], args := [d1, d2, d3] }
  | _ => none }
def fnExactBlameStmtRow : OpenClaim := { program := "ytmjkgjkkpaephaagreat", sum := "f074c802f3ae9586953c9caafac3925418503de37b587bc89a02c35f8ef8e3b7", func := "loop.example/constanttime/laws.FnExactBlameStmt", spec := "fnExactBlameStmt", unfollowed := true, recurses := true, loops := true, apart := false }
def FnExactBlameStmtSaid : Prop := fnExactBlameStmtRow.holds Tryz.pinned (OpenSpec.ofChange fnExactBlameStmtSpec)

/-- ITS FALSE NEIGHBOUR: 'it returns false'. Refute it at one input. -/
def fnExactBlameStmtWrong : ChangeSpec := { name := "fnExactBlameStmt", fn := fun _ => fun
  | [d1, d2, d3] => { results := [.lit (.bool false)], args := [d1, d2, d3] }
  | _ => none }
def FnExactBlameStmtWrongFalsely : Prop := fnExactBlameStmtRow.holds Tryz.pinned (OpenSpec.ofChange fnExactBlameStmtWrong)

/-- 'laws.FnBlameStmt': WHATEVER THE INPUT: true; the input reads as it did. -/
def fnBlameStmtSpec : ChangeSpec := { name := "fnBlameStmt", fn := fun _ => fun
  | [d] => { results := [.lit (.bool true)], args := [d] }
  | _ => none }
def fnBlameStmtRow : OpenClaim := { program := "ytmjkgjkkpaephaagreat", sum := "f074c802f3ae9586953c9caafac3925418503de37b587bc89a02c35f8ef8e3b7", func := "loop.example/constanttime/laws.FnBlameStmt", spec := "fnBlameStmt", unfollowed := true, recurses := true, apart := false }
def FnBlameStmtSaid : Prop := fnBlameStmtRow.holds Tryz.pinned (OpenSpec.ofChange fnBlameStmtSpec)

/-- ITS FALSE NEIGHBOUR: 'it returns false'. Refute it at one input. -/
def fnBlameStmtWrong : ChangeSpec := { name := "fnBlameStmt", fn := fun _ => fun
  | [d] => { results := [.lit (.bool false)], args := [d] }
  | _ => none }
def FnBlameStmtWrongFalsely : Prop := fnBlameStmtRow.holds Tryz.pinned (OpenSpec.ofChange fnBlameStmtWrong)

/-- 'laws.FnCompileSecure': WHATEVER THE INPUT: true; the input reads as it did. -/
def fnCompileSecureSpec : ChangeSpec := { name := "fnCompileSecure", fn := fun _ => fun
  | [d] => { results := [.lit (.bool true)], args := [d] }
  | _ => none }
def fnCompileSecureRow : OpenClaim := { program := "ytmjkgjkkpaephaagreat", sum := "f074c802f3ae9586953c9caafac3925418503de37b587bc89a02c35f8ef8e3b7", func := "loop.example/constanttime/laws.FnCompileSecure", spec := "fnCompileSecure", unfollowed := true, recurses := true, apart := false }
def FnCompileSecureSaid : Prop := fnCompileSecureRow.holds Tryz.pinned (OpenSpec.ofChange fnCompileSecureSpec)

/-- ITS FALSE NEIGHBOUR: 'it returns false'. Refute it at one input. -/
def fnCompileSecureWrong : ChangeSpec := { name := "fnCompileSecure", fn := fun _ => fun
  | [d] => { results := [.lit (.bool false)], args := [d] }
  | _ => none }
def FnCompileSecureWrongFalsely : Prop := fnCompileSecureRow.holds Tryz.pinned (OpenSpec.ofChange fnCompileSecureWrong)

/- THE SECOND FORM. 'bulk': how many values and letters a reading holds, each counted each time it is reached (what is shared counts as often as it is met; a slice's spare places count too). A statement '..UptoSaid' is the law's where the arguments, and the package variables that the reading takes, are together of bulk at most 1048576: NARROWER than '..Said'. Prove '..Said' where nothing that the law and all that it calls make is longer than what came in: it says more and counts as full. Else prove '..UptoSaid'. A law counts once. -/
mutual
def uptoBulk {H : Type} : DataW H → Nat
  | .lit (.string bytes) => bytes.length + 1
  | .lit _ => 1
  | .nil => 1
  | .ptr d => uptoBulk d + 1
  | .slice elems spare => uptoBulkAll elems + uptoBulkAll spare + 1
  | .agg parts => uptoBulkAll parts + 1
  | .iface _ d => uptoBulk d + 1
  | .map entries => uptoBulkEntries entries + 1
  | .held _ => 1
def uptoBulkAll {H : Type} : List (DataW H) → Nat
  | [] => 0
  | d :: r => uptoBulk d + uptoBulkAll r
def uptoBulkEntries {H : Type} : List (Lit × DataW H) → Nat
  | [] => 0
  | x :: r => uptoBulkEntry x + uptoBulkEntries r
def uptoBulkEntry {H : Type} : Lit × DataW H → Nat
  | (.string bytes, d) => bytes.length + uptoBulk d + 1
  | (_, d) => uptoBulk d + 1
 end
def uptoSmall : (H : Type) → List (DataW H) → Bool := fun _ ds => decide (uptoBulkAll ds ≤ 1048576)
def OpenSpec.upto (s : _root_.Go.ChangeSpec) : _root_.Go.OpenSpec := { _root_.Go.OpenSpec.ofChange s with cond := some uptoSmall }

/-- 'laws.FnExactBlameStmt', WHERE WHAT IT READS IS OF BULK AT MOST 1048576: true; the input reads as it did. -/
def fnExactBlameStmtUptoRow : OpenClaim := { program := "ytmjkgjkkpaephaagreat", sum := "f074c802f3ae9586953c9caafac3925418503de37b587bc89a02c35f8ef8e3b7", func := "loop.example/constanttime/laws.FnExactBlameStmt", spec := "fnExactBlameStmt", unfollowed := true, recurses := true, loops := true, apart := false, narrowed := true }
def FnExactBlameStmtUptoSaid : Prop := fnExactBlameStmtUptoRow.holds Tryz.pinned (OpenSpec.upto fnExactBlameStmtSpec)

/-- 'laws.FnBlameStmt', WHERE WHAT IT READS IS OF BULK AT MOST 1048576: true; the input reads as it did. -/
def fnBlameStmtUptoRow : OpenClaim := { program := "ytmjkgjkkpaephaagreat", sum := "f074c802f3ae9586953c9caafac3925418503de37b587bc89a02c35f8ef8e3b7", func := "loop.example/constanttime/laws.FnBlameStmt", spec := "fnBlameStmt", unfollowed := true, recurses := true, apart := false, narrowed := true }
def FnBlameStmtUptoSaid : Prop := fnBlameStmtUptoRow.holds Tryz.pinned (OpenSpec.upto fnBlameStmtSpec)

/-- 'laws.FnCompileSecure', WHERE WHAT IT READS IS OF BULK AT MOST 1048576: true; the input reads as it did. -/
def fnCompileSecureUptoRow : OpenClaim := { program := "ytmjkgjkkpaephaagreat", sum := "f074c802f3ae9586953c9caafac3925418503de37b587bc89a02c35f8ef8e3b7", func := "loop.example/constanttime/laws.FnCompileSecure", spec := "fnCompileSecure", unfollowed := true, recurses := true, apart := false, narrowed := true }
def FnCompileSecureUptoSaid : Prop := fnCompileSecureUptoRow.holds Tryz.pinned (OpenSpec.upto fnCompileSecureSpec)

end Rows
end Go.Proofs.YtmjkgjkkpaephaaGreat
