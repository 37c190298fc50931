/- Contracts of functions of the program, one behind the other, as plain data: what each call returns and which blocks it leaves. -/
import Derived.Test.YtddanjifhdaebaaChecked
import Derived.KernelRfl
import Derived.WalkKit
import Derived.Lib.Walk
import Derived.Lib.SliceRun
import Derived.Lib.AppendZerosOnto
import Derived.Test.YtddanjifhdaebaaEAi
set_option linter.unusedVariables false
set_option linter.unusedSimpArgs false
set_option linter.unusedSectionVars false
set_option maxHeartbeats 16000000
set_option maxRecDepth 100000
namespace Go.Proofs.Ytddanjifhdaebaa.CtG
open Go Go.CT Go.RowKit Go.Lib
theorem int_info:∃ i:TypeInfo,Try.prog.info? 3=some i∧i.zero=some (.int .i64 0)∧i.size=1∧i.bytes=8:=by
 have h1:(Try.prog.info? 3).isSome=true:=by kernel_rfl
 obtain ⟨i,hi⟩:=Option.isSome_iff_exists.1 h1
 have h2:(Try.prog.info? 3).map (fun i=>i.zero)=some (some (.int .i64 0)):=by kernel_rfl
 have h3:(Try.prog.info? 3).map (fun i=>i.size)=some 1:=by kernel_rfl
 have h4:(Try.prog.info? 3).map (fun i=>i.bytes)=some 8:=by kernel_rfl
 rw [hi] at h2 h3 h4
 simp only [Option.map_some,Option.some.injEq] at h2 h3 h4
 exact ⟨i,hi,h2,h3,h4⟩
theorem grow_nil0 (w:World):Calls Try.prog 157 #[.slice none 0 0,.int .i64 0] w fun e w'=>e = .returned (.slice none 0 0)∧w'=w:=by
 go_enter Try.func157,Try.ntmps157
 go_wp2
 go_ret
 exact ⟨rfl,rfl⟩
theorem grow_nil (n:Nat) (h0:0<n) (hn:n≤1000) (w:World):Calls Try.prog 157 #[.slice none 0 0,.int .i64 n] w fun e w' =>
 e = .returned (.slice (some ⟨w.heap.size,0,none⟩) 0 (grownCap w n 0 3)) ∧
 w'=w.drew.alloc (.cells (([]:List Value).toArray++(Builtin.zeroCells #[.int .i64 0] n++Builtin.zeroCells #[.int .i64 0] (grownCap w n 0 3 - n))) 3):=by
 obtain ⟨i,hi,hz,hsz,hby⟩:=int_info
 have h1:¬ ((n:Int)<0):=by omega
 have h3:wrap64 ((n:Int) - 0)=(n:Int):=by unfold wrap64;omega
 have h4:(n:Int) > 0:=by omega
 have hG:=grownCap_ge w n 0 3
 have hrz : ∀ ty, (Builtin.append_ #[22, 3] ty #[.slice none 0 0, .int .i64 (n : Int)]).run Try.prog w =
  .ok (.slice (some ⟨w.heap.size,0,none⟩) n (grownCap w n 0 3)) (w.drew.alloc (.cells (([]:List Value).toArray++(Builtin.zeroCells #[.int .i64 0] n++Builtin.zeroCells #[.int .i64 0] (grownCap w n 0 3 - n))) 3)):=fun ty=>by
  have h:=Lib.run_append_grow_zeros w 22 3 ty 3 i (.int .i64 0) .i64 .i64 Try.underlying22 Try.underlying3 hi hz none 0 0 [] (run_firstCells_none w.drew i.size 0 0 0) n h0 (by omega) (by omega) (by omega) (by rw [hby];omega) (growslice_fits (by omega) (by rw [hby];omega))
  simp only [Nat.zero_add,Array.append_assoc] at h
  exact h
 go_enter Try.func157,Try.ntmps157
 go_wp2_with (at_builtin;refine Lib.wpList_append_run _ rfl _ _ _ _ rfl _ _ rfl rfl _ _ (hrz _) ?_)
 all_goals (go_ret;exact ⟨rfl,rfl⟩)
end Go.Proofs.Ytddanjifhdaebaa.CtG
