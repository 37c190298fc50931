/-
  No cell of these rows narrows 'for every input' (looked for: loops, veiled, ifaces, maps, wideKeys, modest, calm, conditions, laid).
  DERIVED. THE GIVEN ROWS OF THIS SEAT. 5 by the template 'for every input the law returns true; each argument reads behind the call as it read before'; 0 by the template 'total and deterministic' (their statements: YtjjjidcbokbhpaaTotals.lean).
  GIVEN WITH THE SEED: the statements are not yours to turn. If you find one false, say at which input.
  Laid BY PROGRAM, IN A SANDBOX (cutbox-rows.mjs): the forced cells as the released guide's own fill.sh prints them over the translation 483f4af37db27572… (all of the seat's roots in one cut). By AI agents, Wed Nov 11 2026. No macro, syntax, notation, axiom, sorry.
-/
import Derived.Test.YtjjjidcbokbhpaaChecked
import GoSem.Claim
import GoSem.ClaimJoined
import GoSem.ClaimMapViews
import Derived.JoinedTies
import Derived.KernelRfl
namespace Go.Proofs.Ytjjjidcbokbhpaa
/- THE CELL 'sum', in the pinned program and in every row, IS THE sha256 OF THE DUMP (.gsa) THAT YtjjjidcbokbhpaaProg.lean LOADS. Nothing in Lean hashes anything: it is a label: what it is worth is what the hold of that sum in a sandbox is worth. -/
noncomputable def Try.pinned : Pinned := { name := "ytjjjidcbokbhpaa", sum := "483f4af37db27572142d30b1eddab6717fdda98ff5a3af77476cfd016646a588", checked := Try.checked }
namespace Rows
def none {H : Type} : Left H := { results := [], args := [] }

/-- 'laws.FnCompileLeak': WHATEVER THE INPUT: true; the input reads as it did. -/
def fnCompileLeakSpec : ChangeSpec := { name := "fnCompileLeak", fn := fun _ => fun
  | [d] => { results := [.lit (.bool true)], args := [d] }
  | _ => none }
def fnCompileLeakRow : OpenClaim := { program := "ytjjjidcbokbhpaa", sum := "483f4af37db27572142d30b1eddab6717fdda98ff5a3af77476cfd016646a588", func := "loop.example/constanttime/laws.FnCompileLeak", spec := "fnCompileLeak", unfollowed := true, recurses := true, apart := false }
def FnCompileLeakSaid : Prop := fnCompileLeakRow.holds Try.pinned (OpenSpec.ofChange fnCompileLeakSpec)

/-- ITS FALSE NEIGHBOUR: 'it returns false'. Refute it at one input. -/
def fnCompileLeakWrong : ChangeSpec := { name := "fnCompileLeak", fn := fun _ => fun
  | [d] => { results := [.lit (.bool false)], args := [d] }
  | _ => none }
def FnCompileLeakWrongFalsely : Prop := fnCompileLeakRow.holds Try.pinned (OpenSpec.ofChange fnCompileLeakWrong)

/-- 'laws.FnCompileReflect': WHATEVER THE INPUT: true; the input reads as it did. -/
def fnCompileReflectSpec : ChangeSpec := { name := "fnCompileReflect", fn := fun _ => fun
  | [d] => { results := [.lit (.bool true)], args := [d] }
  | _ => none }
def fnCompileReflectRow : OpenClaim := { program := "ytjjjidcbokbhpaa", sum := "483f4af37db27572142d30b1eddab6717fdda98ff5a3af77476cfd016646a588", func := "loop.example/constanttime/laws.FnCompileReflect", spec := "fnCompileReflect", unfollowed := true, recurses := true, apart := false }
def FnCompileReflectSaid : Prop := fnCompileReflectRow.holds Try.pinned (OpenSpec.ofChange fnCompileReflectSpec)

/-- ITS FALSE NEIGHBOUR: 'it returns false'. Refute it at one input. -/
def fnCompileReflectWrong : ChangeSpec := { name := "fnCompileReflect", fn := fun _ => fun
  | [d] => { results := [.lit (.bool false)], args := [d] }
  | _ => none }
def FnCompileReflectWrongFalsely : Prop := fnCompileReflectRow.holds Try.pinned (OpenSpec.ofChange fnCompileReflectWrong)

/-- 'laws.FnBlameInstr': WHATEVER THE INPUT: true; the input reads as it did. -/
def fnBlameInstrSpec : ChangeSpec := { name := "fnBlameInstr", fn := fun _ => fun
  | [d] => { results := [.lit (.bool true)], args := [d] }
  | _ => none }
def fnBlameInstrRow : OpenClaim := { program := "ytjjjidcbokbhpaa", sum := "483f4af37db27572142d30b1eddab6717fdda98ff5a3af77476cfd016646a588", func := "loop.example/constanttime/laws.FnBlameInstr", spec := "fnBlameInstr", unfollowed := true, recurses := true, apart := false }
def FnBlameInstrSaid : Prop := fnBlameInstrRow.holds Try.pinned (OpenSpec.ofChange fnBlameInstrSpec)

/-- ITS FALSE NEIGHBOUR: 'it returns false'. Refute it at one input. -/
def fnBlameInstrWrong : ChangeSpec := { name := "fnBlameInstr", fn := fun _ => fun
  | [d] => { results := [.lit (.bool false)], args := [d] }
  | _ => none }
def FnBlameInstrWrongFalsely : Prop := fnBlameInstrRow.holds Try.pinned (OpenSpec.ofChange fnBlameInstrWrong)

/-- 'laws.FnBlameSame': WHATEVER THE INPUT: true; the input reads as it did. -/
def fnBlameSameSpec : ChangeSpec := { name := "fnBlameSame", fn := fun _ => fun
  | [d] => { results := [.lit (.bool true)], args := [d] }
  | _ => none }
def fnBlameSameRow : OpenClaim := { program := "ytjjjidcbokbhpaa", sum := "483f4af37db27572142d30b1eddab6717fdda98ff5a3af77476cfd016646a588", func := "loop.example/constanttime/laws.FnBlameSame", spec := "fnBlameSame", unfollowed := true, recurses := true, apart := false }
def FnBlameSameSaid : Prop := fnBlameSameRow.holds Try.pinned (OpenSpec.ofChange fnBlameSameSpec)

/-- ITS FALSE NEIGHBOUR: 'it returns false'. Refute it at one input. -/
def fnBlameSameWrong : ChangeSpec := { name := "fnBlameSame", fn := fun _ => fun
  | [d] => { results := [.lit (.bool false)], args := [d] }
  | _ => none }
def FnBlameSameWrongFalsely : Prop := fnBlameSameRow.holds Try.pinned (OpenSpec.ofChange fnBlameSameWrong)

/-- 'laws.FnSecretOutputs': WHATEVER THE INPUT: true; the input reads as it did. -/
def fnSecretOutputsSpec : ChangeSpec := { name := "fnSecretOutputs", fn := fun _ => fun
  | [d] => { results := [.lit (.bool true)], args := [d] }
  | _ => none }
def fnSecretOutputsRow : OpenClaim := { program := "ytjjjidcbokbhpaa", sum := "483f4af37db27572142d30b1eddab6717fdda98ff5a3af77476cfd016646a588", func := "loop.example/constanttime/laws.FnSecretOutputs", spec := "fnSecretOutputs", unfollowed := true, recurses := true, apart := false }
def FnSecretOutputsSaid : Prop := fnSecretOutputsRow.holds Try.pinned (OpenSpec.ofChange fnSecretOutputsSpec)

/-- ITS FALSE NEIGHBOUR: 'it returns false'. Refute it at one input. -/
def fnSecretOutputsWrong : ChangeSpec := { name := "fnSecretOutputs", fn := fun _ => fun
  | [d] => { results := [.lit (.bool false)], args := [d] }
  | _ => none }
def FnSecretOutputsWrongFalsely : Prop := fnSecretOutputsRow.holds Try.pinned (OpenSpec.ofChange fnSecretOutputsWrong)

/- THE SECOND FORM. 'bulk': how many values and letters a reading holds, each counted each time it is reached (what is shared counts as often as it is met; a slice's spare places count too). A statement '..UptoSaid' is the law's where the arguments, and the package variables that the reading takes, are together of bulk at most 1048576: NARROWER than '..Said'. Prove '..Said' where nothing that the law and all that it calls make is longer than what came in: it says more and counts as full. Else prove '..UptoSaid'. A law counts once. -/
mutual
def uptoBulk {H : Type} : DataW H → Nat
  | .lit (.string bytes) => bytes.length + 1
  | .lit _ => 1
  | .nil => 1
  | .ptr d => uptoBulk d + 1
  | .slice elems spare => uptoBulkAll elems + uptoBulkAll spare + 1
  | .agg parts => uptoBulkAll parts + 1
  | .iface _ d => uptoBulk d + 1
  | .map entries => uptoBulkEntries entries + 1
  | .held _ => 1
def uptoBulkAll {H : Type} : List (DataW H) → Nat
  | [] => 0
  | d :: r => uptoBulk d + uptoBulkAll r
def uptoBulkEntries {H : Type} : List (Lit × DataW H) → Nat
  | [] => 0
  | x :: r => uptoBulkEntry x + uptoBulkEntries r
def uptoBulkEntry {H : Type} : Lit × DataW H → Nat
  | (.string bytes, d) => bytes.length + uptoBulk d + 1
  | (_, d) => uptoBulk d + 1
 end
def uptoSmall : (H : Type) → List (DataW H) → Bool := fun _ ds => decide (uptoBulkAll ds ≤ 1048576)
def OpenSpec.upto (s : _root_.Go.ChangeSpec) : _root_.Go.OpenSpec := { _root_.Go.OpenSpec.ofChange s with cond := some uptoSmall }

/-- 'laws.FnCompileLeak', WHERE WHAT IT READS IS OF BULK AT MOST 1048576: true; the input reads as it did. -/
def fnCompileLeakUptoRow : OpenClaim := { program := "ytjjjidcbokbhpaa", sum := "483f4af37db27572142d30b1eddab6717fdda98ff5a3af77476cfd016646a588", func := "loop.example/constanttime/laws.FnCompileLeak", spec := "fnCompileLeak", unfollowed := true, recurses := true, apart := false, narrowed := true }
def FnCompileLeakUptoSaid : Prop := fnCompileLeakUptoRow.holds Try.pinned (OpenSpec.upto fnCompileLeakSpec)

/-- 'laws.FnCompileReflect', WHERE WHAT IT READS IS OF BULK AT MOST 1048576: true; the input reads as it did. -/
def fnCompileReflectUptoRow : OpenClaim := { program := "ytjjjidcbokbhpaa", sum := "483f4af37db27572142d30b1eddab6717fdda98ff5a3af77476cfd016646a588", func := "loop.example/constanttime/laws.FnCompileReflect", spec := "fnCompileReflect", unfollowed := true, recurses := true, apart := false, narrowed := true }
def FnCompileReflectUptoSaid : Prop := fnCompileReflectUptoRow.holds Try.pinned (OpenSpec.upto fnCompileReflectSpec)

/-- 'laws.FnBlameInstr', WHERE WHAT IT READS IS OF BULK AT MOST 1048576: true; the input reads as it did. -/
def fnBlameInstrUptoRow : OpenClaim := { program := "ytjjjidcbokbhpaa", sum := "483f4af37db27572142d30b1eddab6717fdda98ff5a3af77476cfd016646a588", func := "loop.example/constanttime/laws.FnBlameInstr", spec := "fnBlameInstr", unfollowed := true, recurses := true, apart := false, narrowed := true }
def FnBlameInstrUptoSaid : Prop := fnBlameInstrUptoRow.holds Try.pinned (OpenSpec.upto fnBlameInstrSpec)

/-- 'laws.FnBlameSame', WHERE WHAT IT READS IS OF BULK AT MOST 1048576: true; the input reads as it did. -/
def fnBlameSameUptoRow : OpenClaim := { program := "ytjjjidcbokbhpaa", sum := "483f4af37db27572142d30b1eddab6717fdda98ff5a3af77476cfd016646a588", func := "loop.example/constanttime/laws.FnBlameSame", spec := "fnBlameSame", unfollowed := true, recurses := true, apart := false, narrowed := true }
def FnBlameSameUptoSaid : Prop := fnBlameSameUptoRow.holds Try.pinned (OpenSpec.upto fnBlameSameSpec)

/-- 'laws.FnSecretOutputs', WHERE WHAT IT READS IS OF BULK AT MOST 1048576: true; the input reads as it did. -/
def fnSecretOutputsUptoRow : OpenClaim := { program := "ytjjjidcbokbhpaa", sum := "483f4af37db27572142d30b1eddab6717fdda98ff5a3af77476cfd016646a588", func := "loop.example/constanttime/laws.FnSecretOutputs", spec := "fnSecretOutputs", unfollowed := true, recurses := true, apart := false, narrowed := true }
def FnSecretOutputsUptoSaid : Prop := fnSecretOutputsUptoRow.holds Try.pinned (OpenSpec.upto fnSecretOutputsSpec)

end Rows
end Go.Proofs.Ytjjjidcbokbhpaa
