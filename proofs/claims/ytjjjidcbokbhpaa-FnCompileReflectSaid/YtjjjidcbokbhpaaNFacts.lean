/- Contracts of functions of the program, one behind the other, as plain data: what each call returns and which blocks it leaves. -/
import Derived.Test.YtjjjidcbokbhpaaChecked
import Derived.KernelRfl
import Derived.Test.YtjjjidcbokbhpaaNAh
set_option linter.unusedVariables false
set_option linter.unusedSimpArgs false
set_option maxHeartbeats 16000000
set_option maxRecDepth 100000
namespace Go.Proofs.Ytjjjidcbokbhpaa.CtF
open Go Go.CT

theorem mo : Try.prog.follows .mixedOrders = true := by kernel_rfl
theorem drvZ {m nt : Nat} {f : FuncId} {R : D → List (Option (List C)) → Prop} {r : Option Rg} {k : List Item} {S : Ms} {fn : Func} (hfn : Try.prog.funcs[f]? = some fn) (h : drv Try.prog m f nt R fn.results.toList 12 r k S) : XK Try.prog m f nt R r k S :=
  drv_sound hfn mo rfl 12 r k S h
theorem drvL {m nt : Nat} {f : FuncId} {R : D → List (Option (List C)) → Prop} {k : List Item} {S : Ms} {fn : Func} (hfn : Try.prog.funcs[f]? = some fn) (h : drv Try.prog m f nt R fn.results.toList 12 none k S) : Go Try.prog m f nt R k S :=
  drv_sound hfn mo rfl 12 none k S h
theorem dcZ {f : FuncId} {R : D → List (Option (List C)) → Prop} {args : List D} {h : List (Option (List C))} {fn : Func} {c : Code} (hf : Try.prog.funcs[f]? = some fn)
    (hg : drv Try.prog h.length f fn.ntmps R fn.results.toList 12 none [.code c] ⟨ofArgs 0 args, hpL h, h.length⟩) (hb : fn.body = some c := by rfl) (hn : args.length ≤ fn.ntmps := by simp) : DC Try.prog f args h R :=
  dc_of_go hf hb hn (drv_sound hf mo rfl 12 none _ _ hg)
theorem ft0 : tsz Try.prog 0 = some 1 ∧ tbytes Try.prog 0 = some 0 ∧ tagg Try.prog 0 = some false ∧ tslice Try.prog 0 = none := by and_intros <;> kernel_rfl
theorem ft1 : tsz Try.prog 1 = some 1 ∧ tbytes Try.prog 1 = some 8 ∧ tagg Try.prog 1 = some false ∧ tslice Try.prog 1 = none ∧ tzero Try.prog 1 = some [.nilFunc] := by and_intros <;> kernel_rfl
theorem ft2 : tsz Try.prog 2 = some 1 ∧ tbytes Try.prog 2 = some 8 ∧ tagg Try.prog 2 = some false ∧ tslice Try.prog 2 = none ∧ Try.prog.underlying 2 = some (.int .i64) ∧ tzero Try.prog 2 = some [.int .i64 0] := by and_intros <;> kernel_rfl
theorem ft3 : tsz Try.prog 3 = some 1 ∧ tbytes Try.prog 3 = some 8 ∧ tagg Try.prog 3 = some false ∧ tslice Try.prog 3 = none ∧ Try.prog.underlying 3 = some (.int .i64) ∧ tzero Try.prog 3 = some [.int .i64 0] := by and_intros <;> kernel_rfl
theorem ft4 : tsz Try.prog 4 = some 1 ∧ tbytes Try.prog 4 = some 1 ∧ tagg Try.prog 4 = some false ∧ tbool Try.prog 4 = true ∧ tslice Try.prog 4 = none ∧ tzero Try.prog 4 = some [.bool false] := by and_intros <;> kernel_rfl
theorem ft5 : tsz Try.prog 5 = some 1 ∧ tbytes Try.prog 5 = some 1 ∧ tagg Try.prog 5 = some false ∧ tslice Try.prog 5 = none ∧ Try.prog.underlying 5 = some (.int .u8) ∧ tzero Try.prog 5 = some [.int .u8 0] := by and_intros <;> kernel_rfl
theorem ft6 : tsz Try.prog 6 = some 1 ∧ tbytes Try.prog 6 = some 1 ∧ tagg Try.prog 6 = some false ∧ tslice Try.prog 6 = none ∧ Try.prog.underlying 6 = some (.int .u8) ∧ tzero Try.prog 6 = some [.int .u8 0] := by and_intros <;> kernel_rfl
theorem ft7 : tsz Try.prog 7 = some 4 ∧ tbytes Try.prog 7 = some 24 ∧ tagg Try.prog 7 = some true ∧ tslice Try.prog 7 = none ∧ tzero Try.prog 7 = some [.int .i64 0, .int .i64 0, .bool false, .int .u8 0] ∧ tstruct Try.prog 7 = some [.int .i64 0, .int .i64 0, .bool false, .int .u8 0] ∧ tfield Try.prog 7 0 = some (0, 2) ∧ tfield Try.prog 7 1 = some (1, 3) ∧ tfield Try.prog 7 2 = some (2, 4) ∧ tfield Try.prog 7 3 = some (3, 6) := by and_intros <;> kernel_rfl
theorem ft8 : tsz Try.prog 8 = some 4 ∧ tbytes Try.prog 8 = some 24 ∧ tagg Try.prog 8 = some true ∧ tslice Try.prog 8 = none ∧ tzero Try.prog 8 = some [.int .i64 0, .int .i64 0, .bool false, .int .u8 0] ∧ tstruct Try.prog 8 = some [.int .i64 0, .int .i64 0, .bool false, .int .u8 0] ∧ tfield Try.prog 8 0 = some (0, 2) ∧ tfield Try.prog 8 1 = some (1, 3) ∧ tfield Try.prog 8 2 = some (2, 4) ∧ tfield Try.prog 8 3 = some (3, 6) := by and_intros <;> kernel_rfl
theorem ft9 : tsz Try.prog 9 = some 1 ∧ tbytes Try.prog 9 = some 16 ∧ tagg Try.prog 9 = some false ∧ tstring Try.prog 9 = true ∧ tslice Try.prog 9 = none ∧ tzero Try.prog 9 = some [.string .empty] := by and_intros <;> kernel_rfl
theorem ft10 : tsz Try.prog 10 = some 1 ∧ tbytes Try.prog 10 = some 16 ∧ tagg Try.prog 10 = some false ∧ tstring Try.prog 10 = true ∧ tslice Try.prog 10 = none ∧ tzero Try.prog 10 = some [.string .empty] := by and_intros <;> kernel_rfl
theorem ft11 : tsz Try.prog 11 = some 1 ∧ tbytes Try.prog 11 = some 16 ∧ tagg Try.prog 11 = some false ∧ tstring Try.prog 11 = true ∧ tslice Try.prog 11 = none ∧ tzero Try.prog 11 = some [.string .empty] := by and_intros <;> kernel_rfl
theorem ft12 : tsz Try.prog 12 = some 1 ∧ tbytes Try.prog 12 = some 8 ∧ tagg Try.prog 12 = some false ∧ tslice Try.prog 12 = none ∧ Try.prog.underlying 12 = some (.int .u64) ∧ tzero Try.prog 12 = some [.int .u64 0] := by and_intros <;> kernel_rfl
theorem ft13 : tsz Try.prog 13 = some 2 ∧ tbytes Try.prog 13 = some 24 ∧ tagg Try.prog 13 = some true ∧ tslice Try.prog 13 = none ∧ tzero Try.prog 13 = some [.string .empty, .int .u64 0] ∧ tstruct Try.prog 13 = some [.string .empty, .int .u64 0] ∧ tfield Try.prog 13 0 = some (0, 9) ∧ tfield Try.prog 13 1 = some (1, 12) := by and_intros <;> kernel_rfl
theorem ft14 : tsz Try.prog 14 = some 2 ∧ tbytes Try.prog 14 = some 24 ∧ tagg Try.prog 14 = some true ∧ tslice Try.prog 14 = none ∧ tzero Try.prog 14 = some [.string .empty, .int .u64 0] ∧ tstruct Try.prog 14 = some [.string .empty, .int .u64 0] ∧ tfield Try.prog 14 0 = some (0, 9) ∧ tfield Try.prog 14 1 = some (1, 12) := by and_intros <;> kernel_rfl
theorem ft15 : tsz Try.prog 15 = some 1 ∧ tbytes Try.prog 15 = some 8 ∧ tagg Try.prog 15 = some false ∧ tslice Try.prog 15 = none ∧ tzero Try.prog 15 = some [.pointer none] := by and_intros <;> kernel_rfl
theorem ft16 : tsz Try.prog 16 = some 1 ∧ tbytes Try.prog 16 = some 8 ∧ tagg Try.prog 16 = some false ∧ tslice Try.prog 16 = none ∧ tzero Try.prog 16 = some [.pointer none] := by and_intros <;> kernel_rfl
theorem ft17 : tsz Try.prog 17 = some 1 ∧ tbytes Try.prog 17 = some 8 ∧ tagg Try.prog 17 = some false ∧ tslice Try.prog 17 = none ∧ tzero Try.prog 17 = some [.pointer none] := by and_intros <;> kernel_rfl
theorem ft18 : tsz Try.prog 18 = some 1 ∧ tbytes Try.prog 18 = some 8 ∧ tagg Try.prog 18 = some true ∧ tslice Try.prog 18 = none ∧ tzero Try.prog 18 = some [.pointer none] ∧ tstruct Try.prog 18 = some [.pointer none] ∧ tfield Try.prog 18 0 = some (0, 17) := by and_intros <;> kernel_rfl
theorem ft19 : tsz Try.prog 19 = some 1 ∧ tbytes Try.prog 19 = some 8 ∧ tagg Try.prog 19 = some true ∧ tslice Try.prog 19 = none ∧ tzero Try.prog 19 = some [.pointer none] ∧ tstruct Try.prog 19 = some [.pointer none] ∧ tfield Try.prog 19 0 = some (0, 17) := by and_intros <;> kernel_rfl
theorem ft20 : tsz Try.prog 20 = some 1 ∧ tbytes Try.prog 20 = some 16 ∧ tagg Try.prog 20 = some false ∧ tslice Try.prog 20 = none ∧ tzero Try.prog 20 = some [.nilIface] := by and_intros <;> kernel_rfl
theorem ft21 : tsz Try.prog 21 = some 1 ∧ tbytes Try.prog 21 = some 4 ∧ tagg Try.prog 21 = some false ∧ tslice Try.prog 21 = none ∧ Try.prog.underlying 21 = some (.int .i32) ∧ tzero Try.prog 21 = some [.int .i32 0] := by and_intros <;> kernel_rfl
theorem ft22 : tsz Try.prog 22 = some 1 ∧ tbytes Try.prog 22 = some 24 ∧ tagg Try.prog 22 = some false ∧ tslice Try.prog 22 = some 5 ∧ tzero Try.prog 22 = some [.slice none 0 0] := by and_intros <;> kernel_rfl
theorem ft23 : tsz Try.prog 23 = some 1 ∧ tbytes Try.prog 23 = some 24 ∧ tagg Try.prog 23 = some false ∧ tslice Try.prog 23 = some 3 ∧ tzero Try.prog 23 = some [.slice none 0 0] := by and_intros <;> kernel_rfl
theorem ft24 : tsz Try.prog 24 = some 1 ∧ tbytes Try.prog 24 = some 24 ∧ tagg Try.prog 24 = some false ∧ tslice Try.prog 24 = some 108 ∧ tzero Try.prog 24 = some [.slice none 0 0] := by and_intros <;> kernel_rfl
theorem ft25 : tsz Try.prog 25 = some 3 ∧ tbytes Try.prog 25 = some 72 ∧ tagg Try.prog 25 = some true ∧ tslice Try.prog 25 = none ∧ tzero Try.prog 25 = some [.slice none 0 0, .slice none 0 0, .slice none 0 0] ∧ tstruct Try.prog 25 = some [.slice none 0 0, .slice none 0 0, .slice none 0 0] ∧ tfield Try.prog 25 0 = some (0, 23) ∧ tfield Try.prog 25 1 = some (1, 23) ∧ tfield Try.prog 25 2 = some (2, 24) := by and_intros <;> kernel_rfl
theorem ft26 : tsz Try.prog 26 = some 3 ∧ tbytes Try.prog 26 = some 72 ∧ tagg Try.prog 26 = some true ∧ tslice Try.prog 26 = none ∧ tzero Try.prog 26 = some [.slice none 0 0, .slice none 0 0, .slice none 0 0] ∧ tstruct Try.prog 26 = some [.slice none 0 0, .slice none 0 0, .slice none 0 0] ∧ tfield Try.prog 26 0 = some (0, 23) ∧ tfield Try.prog 26 1 = some (1, 23) ∧ tfield Try.prog 26 2 = some (2, 24) := by and_intros <;> kernel_rfl
theorem ft27 : tsz Try.prog 27 = some 1 ∧ tbytes Try.prog 27 = some 24 ∧ tagg Try.prog 27 = some false ∧ tslice Try.prog 27 = some 23 ∧ tzero Try.prog 27 = some [.slice none 0 0] := by and_intros <;> kernel_rfl
theorem ft28 : tsz Try.prog 28 = some 2 ∧ tbytes Try.prog 28 = some 48 ∧ tagg Try.prog 28 = some true ∧ tslice Try.prog 28 = none ∧ tzero Try.prog 28 = some [.slice none 0 0, .slice none 0 0] ∧ tstruct Try.prog 28 = some [.slice none 0 0, .slice none 0 0] ∧ tfield Try.prog 28 0 = some (0, 23) ∧ tfield Try.prog 28 1 = some (1, 27) := by and_intros <;> kernel_rfl
theorem ft29 : tsz Try.prog 29 = some 2 ∧ tbytes Try.prog 29 = some 48 ∧ tagg Try.prog 29 = some true ∧ tslice Try.prog 29 = none ∧ tzero Try.prog 29 = some [.slice none 0 0, .slice none 0 0] ∧ tstruct Try.prog 29 = some [.slice none 0 0, .slice none 0 0] ∧ tfield Try.prog 29 0 = some (0, 23) ∧ tfield Try.prog 29 1 = some (1, 27) := by and_intros <;> kernel_rfl
theorem ft30 : tsz Try.prog 30 = some 1 ∧ tbytes Try.prog 30 = some 0 ∧ tagg Try.prog 30 = some false ∧ tslice Try.prog 30 = none := by and_intros <;> kernel_rfl
theorem ft31 : tsz Try.prog 31 = some 1 ∧ tbytes Try.prog 31 = some 8 ∧ tagg Try.prog 31 = some false ∧ tslice Try.prog 31 = none ∧ tzero Try.prog 31 = some [.nilFunc] := by and_intros <;> kernel_rfl
theorem ft32 : tsz Try.prog 32 = some 1 ∧ tbytes Try.prog 32 = some 24 ∧ tagg Try.prog 32 = some false ∧ tslice Try.prog 32 = some 48 ∧ tzero Try.prog 32 = some [.slice none 0 0] := by and_intros <;> kernel_rfl
theorem ft33 : tsz Try.prog 33 = some 3 ∧ tbytes Try.prog 33 = some 72 ∧ tagg Try.prog 33 = some true ∧ tslice Try.prog 33 = none ∧ tzero Try.prog 33 = some [.slice none 0 0, .slice none 0 0, .slice none 0 0] ∧ tstruct Try.prog 33 = some [.slice none 0 0, .slice none 0 0, .slice none 0 0] ∧ tfield Try.prog 33 0 = some (0, 23) ∧ tfield Try.prog 33 1 = some (1, 23) ∧ tfield Try.prog 33 2 = some (2, 32) := by and_intros <;> kernel_rfl
theorem ft34 : tsz Try.prog 34 = some 3 ∧ tbytes Try.prog 34 = some 72 ∧ tagg Try.prog 34 = some true ∧ tslice Try.prog 34 = none ∧ tzero Try.prog 34 = some [.slice none 0 0, .slice none 0 0, .slice none 0 0] ∧ tstruct Try.prog 34 = some [.slice none 0 0, .slice none 0 0, .slice none 0 0] ∧ tfield Try.prog 34 0 = some (0, 23) ∧ tfield Try.prog 34 1 = some (1, 23) ∧ tfield Try.prog 34 2 = some (2, 32) := by and_intros <;> kernel_rfl
theorem ft35 : tsz Try.prog 35 = some 1 ∧ tbytes Try.prog 35 = some 0 ∧ tagg Try.prog 35 = some false ∧ tslice Try.prog 35 = none := by and_intros <;> kernel_rfl
theorem ft36 : tsz Try.prog 36 = some 1 ∧ tbytes Try.prog 36 = some 8 ∧ tagg Try.prog 36 = some false ∧ tslice Try.prog 36 = none ∧ tzero Try.prog 36 = some [.nilFunc] := by and_intros <;> kernel_rfl
theorem ft37 : tsz Try.prog 37 = some 1 ∧ tbytes Try.prog 37 = some 8 ∧ tagg Try.prog 37 = some false ∧ tslice Try.prog 37 = none ∧ tzero Try.prog 37 = some [.nilFunc] := by and_intros <;> kernel_rfl
theorem ft38 : tsz Try.prog 38 = some 1 ∧ tbytes Try.prog 38 = some 24 ∧ tagg Try.prog 38 = some false ∧ tslice Try.prog 38 = some 86 ∧ tzero Try.prog 38 = some [.slice none 0 0] := by and_intros <;> kernel_rfl
theorem ft39 : tsz Try.prog 39 = some 1 ∧ tbytes Try.prog 39 = some 0 ∧ tagg Try.prog 39 = some false ∧ tslice Try.prog 39 = none := by and_intros <;> kernel_rfl
theorem ft40 : tsz Try.prog 40 = some 1 ∧ tbytes Try.prog 40 = some 8 ∧ tagg Try.prog 40 = some false ∧ tslice Try.prog 40 = none ∧ tzero Try.prog 40 = some [.nilFunc] := by and_intros <;> kernel_rfl
theorem ft41 : tsz Try.prog 41 = some 1 ∧ tbytes Try.prog 41 = some 8 ∧ tagg Try.prog 41 = some false ∧ tslice Try.prog 41 = none ∧ tzero Try.prog 41 = some [.nilFunc] := by and_intros <;> kernel_rfl
theorem ft42 : tsz Try.prog 42 = some 1 ∧ tbytes Try.prog 42 = some 8 ∧ tagg Try.prog 42 = some false ∧ tslice Try.prog 42 = none ∧ tzero Try.prog 42 = some [.nilFunc] := by and_intros <;> kernel_rfl
theorem ft43 : tsz Try.prog 43 = some 1 ∧ tbytes Try.prog 43 = some 8 ∧ tagg Try.prog 43 = some false ∧ tslice Try.prog 43 = none ∧ tzero Try.prog 43 = some [.nilFunc] := by and_intros <;> kernel_rfl
theorem ft44 : tsz Try.prog 44 = some 1 ∧ tbytes Try.prog 44 = some 0 ∧ tagg Try.prog 44 = some false ∧ tslice Try.prog 44 = none := by and_intros <;> kernel_rfl
theorem ft45 : tsz Try.prog 45 = some 1 ∧ tbytes Try.prog 45 = some 8 ∧ tagg Try.prog 45 = some false ∧ tslice Try.prog 45 = none ∧ tzero Try.prog 45 = some [.nilFunc] := by and_intros <;> kernel_rfl
theorem ft46 : tsz Try.prog 46 = some 1 ∧ tbytes Try.prog 46 = some 8 ∧ tagg Try.prog 46 = some false ∧ tslice Try.prog 46 = none ∧ tzero Try.prog 46 = some [.nilFunc] := by and_intros <;> kernel_rfl
theorem ft47 : tsz Try.prog 47 = some 5 ∧ tbytes Try.prog 47 = some 40 ∧ tagg Try.prog 47 = some true ∧ tslice Try.prog 47 = none ∧ tzero Try.prog 47 = some [.int .i64 0, .int .i64 0, .int .i64 0, .int .i64 0, .int .i64 0] ∧ tstruct Try.prog 47 = some [.int .i64 0, .int .i64 0, .int .i64 0, .int .i64 0, .int .i64 0] ∧ tints Try.prog 47 = some 5 ∧ tfield Try.prog 47 0 = some (0, 3) ∧ tfield Try.prog 47 1 = some (1, 3) ∧ tfield Try.prog 47 2 = some (2, 3) ∧ tfield Try.prog 47 3 = some (3, 3) ∧ tfield Try.prog 47 4 = some (4, 3) := by and_intros <;> kernel_rfl
theorem ft48 : tsz Try.prog 48 = some 5 ∧ tbytes Try.prog 48 = some 40 ∧ tagg Try.prog 48 = some true ∧ tslice Try.prog 48 = none ∧ tzero Try.prog 48 = some [.int .i64 0, .int .i64 0, .int .i64 0, .int .i64 0, .int .i64 0] ∧ tstruct Try.prog 48 = some [.int .i64 0, .int .i64 0, .int .i64 0, .int .i64 0, .int .i64 0] ∧ tints Try.prog 48 = some 5 ∧ tfield Try.prog 48 0 = some (0, 3) ∧ tfield Try.prog 48 1 = some (1, 3) ∧ tfield Try.prog 48 2 = some (2, 3) ∧ tfield Try.prog 48 3 = some (3, 3) ∧ tfield Try.prog 48 4 = some (4, 3) := by and_intros <;> kernel_rfl
theorem ft49 : tsz Try.prog 49 = some 1 ∧ tbytes Try.prog 49 = some 8 ∧ tagg Try.prog 49 = some false ∧ tslice Try.prog 49 = none ∧ tzero Try.prog 49 = some [.nilFunc] := by and_intros <;> kernel_rfl
theorem ft50 : tsz Try.prog 50 = some 1 ∧ tbytes Try.prog 50 = some 24 ∧ tagg Try.prog 50 = some false ∧ tslice Try.prog 50 = some 4 ∧ tzero Try.prog 50 = some [.slice none 0 0] := by and_intros <;> kernel_rfl
theorem ft51 : tsz Try.prog 51 = some 1 ∧ tbytes Try.prog 51 = some 8 ∧ tagg Try.prog 51 = some false ∧ tslice Try.prog 51 = none ∧ tzero Try.prog 51 = some [.nilFunc] := by and_intros <;> kernel_rfl
theorem ft52 : tsz Try.prog 52 = some 1 ∧ tbytes Try.prog 52 = some 8 ∧ tagg Try.prog 52 = some false ∧ tslice Try.prog 52 = none ∧ tzero Try.prog 52 = some [.nilFunc] := by and_intros <;> kernel_rfl
theorem ft53 : tsz Try.prog 53 = some 1 ∧ tbytes Try.prog 53 = some 0 ∧ tagg Try.prog 53 = some false ∧ tslice Try.prog 53 = none := by and_intros <;> kernel_rfl
theorem ft54 : tsz Try.prog 54 = some 1 ∧ tbytes Try.prog 54 = some 8 ∧ tagg Try.prog 54 = some false ∧ tslice Try.prog 54 = none ∧ tzero Try.prog 54 = some [.nilFunc] := by and_intros <;> kernel_rfl
theorem ft55 : tsz Try.prog 55 = some 1 ∧ tbytes Try.prog 55 = some 8 ∧ tagg Try.prog 55 = some false ∧ tslice Try.prog 55 = none ∧ tzero Try.prog 55 = some [.nilFunc] := by and_intros <;> kernel_rfl
theorem ft56 : tsz Try.prog 56 = some 1 ∧ tbytes Try.prog 56 = some 8 ∧ tagg Try.prog 56 = some false ∧ tslice Try.prog 56 = none ∧ tzero Try.prog 56 = some [.nilFunc] := by and_intros <;> kernel_rfl
theorem ft57 : tsz Try.prog 57 = some 1 ∧ tbytes Try.prog 57 = some 8 ∧ tagg Try.prog 57 = some false ∧ tslice Try.prog 57 = none ∧ tzero Try.prog 57 = some [.pointer none] := by and_intros <;> kernel_rfl
theorem ft58 : tsz Try.prog 58 = some 1 ∧ tbytes Try.prog 58 = some 8 ∧ tagg Try.prog 58 = some false ∧ tslice Try.prog 58 = none ∧ tzero Try.prog 58 = some [.nilFunc] := by and_intros <;> kernel_rfl
theorem ft59 : tsz Try.prog 59 = some 1 ∧ tbytes Try.prog 59 = some 8 ∧ tagg Try.prog 59 = some false ∧ tslice Try.prog 59 = none ∧ tzero Try.prog 59 = some [.nilFunc] := by and_intros <;> kernel_rfl
theorem ft60 : tsz Try.prog 60 = some 1 ∧ tbytes Try.prog 60 = some 8 ∧ tagg Try.prog 60 = some false ∧ tslice Try.prog 60 = none ∧ tzero Try.prog 60 = some [.nilFunc] := by and_intros <;> kernel_rfl
theorem ft61 : tsz Try.prog 61 = some 1 ∧ tbytes Try.prog 61 = some 8 ∧ tagg Try.prog 61 = some false ∧ tslice Try.prog 61 = none ∧ tzero Try.prog 61 = some [.nilFunc] := by and_intros <;> kernel_rfl
theorem ft62 : tsz Try.prog 62 = some 1 ∧ tbytes Try.prog 62 = some 8 ∧ tagg Try.prog 62 = some false ∧ tslice Try.prog 62 = none ∧ tzero Try.prog 62 = some [.pointer none] := by and_intros <;> kernel_rfl
theorem ft63 : tsz Try.prog 63 = some 1 ∧ tbytes Try.prog 63 = some 0 ∧ tagg Try.prog 63 = some false ∧ tslice Try.prog 63 = none := by and_intros <;> kernel_rfl
theorem ft64 : tsz Try.prog 64 = some 1 ∧ tbytes Try.prog 64 = some 8 ∧ tagg Try.prog 64 = some false ∧ tslice Try.prog 64 = none ∧ tzero Try.prog 64 = some [.nilFunc] := by and_intros <;> kernel_rfl
theorem ft65 : tsz Try.prog 65 = some 1 ∧ tbytes Try.prog 65 = some 8 ∧ tagg Try.prog 65 = some false ∧ tslice Try.prog 65 = none ∧ tzero Try.prog 65 = some [.nilFunc] := by and_intros <;> kernel_rfl
theorem ft66 : tsz Try.prog 66 = some 4 ∧ tbytes Try.prog 66 = some 64 ∧ tagg Try.prog 66 = some true ∧ tslice Try.prog 66 = none ∧ tzero Try.prog 66 = some [.slice none 0 0, .slice none 0 0, .int .i64 0, .int .i64 0] ∧ tstruct Try.prog 66 = some [.slice none 0 0, .slice none 0 0, .int .i64 0, .int .i64 0] ∧ tfield Try.prog 66 0 = some (0, 32) ∧ tfield Try.prog 66 1 = some (1, 23) ∧ tfield Try.prog 66 2 = some (2, 3) ∧ tfield Try.prog 66 3 = some (3, 3) := by and_intros <;> kernel_rfl
theorem ft67 : tsz Try.prog 67 = some 4 ∧ tbytes Try.prog 67 = some 64 ∧ tagg Try.prog 67 = some true ∧ tslice Try.prog 67 = none ∧ tzero Try.prog 67 = some [.slice none 0 0, .slice none 0 0, .int .i64 0, .int .i64 0] ∧ tstruct Try.prog 67 = some [.slice none 0 0, .slice none 0 0, .int .i64 0, .int .i64 0] ∧ tfield Try.prog 67 0 = some (0, 32) ∧ tfield Try.prog 67 1 = some (1, 23) ∧ tfield Try.prog 67 2 = some (2, 3) ∧ tfield Try.prog 67 3 = some (3, 3) := by and_intros <;> kernel_rfl
theorem ft68 : tsz Try.prog 68 = some 3 ∧ tbytes Try.prog 68 = some 56 ∧ tagg Try.prog 68 = some true ∧ tslice Try.prog 68 = none ∧ tzero Try.prog 68 = some [.slice none 0 0, .slice none 0 0, .int .i64 0] ∧ tstruct Try.prog 68 = some [.slice none 0 0, .slice none 0 0, .int .i64 0] ∧ tfield Try.prog 68 0 = some (0, 32) ∧ tfield Try.prog 68 1 = some (1, 23) ∧ tfield Try.prog 68 2 = some (2, 3) := by and_intros <;> kernel_rfl
theorem ft69 : tsz Try.prog 69 = some 3 ∧ tbytes Try.prog 69 = some 56 ∧ tagg Try.prog 69 = some true ∧ tslice Try.prog 69 = none ∧ tzero Try.prog 69 = some [.slice none 0 0, .slice none 0 0, .int .i64 0] ∧ tstruct Try.prog 69 = some [.slice none 0 0, .slice none 0 0, .int .i64 0] ∧ tfield Try.prog 69 0 = some (0, 32) ∧ tfield Try.prog 69 1 = some (1, 23) ∧ tfield Try.prog 69 2 = some (2, 3) := by and_intros <;> kernel_rfl
theorem ft70 : tsz Try.prog 70 = some 1 ∧ tbytes Try.prog 70 = some 0 ∧ tagg Try.prog 70 = some false ∧ tslice Try.prog 70 = none := by and_intros <;> kernel_rfl
theorem ft71 : tsz Try.prog 71 = some 1 ∧ tbytes Try.prog 71 = some 8 ∧ tagg Try.prog 71 = some false ∧ tslice Try.prog 71 = none ∧ tzero Try.prog 71 = some [.nilFunc] := by and_intros <;> kernel_rfl
theorem ft72 : tsz Try.prog 72 = some 1 ∧ tbytes Try.prog 72 = some 8 ∧ tagg Try.prog 72 = some false ∧ tslice Try.prog 72 = none ∧ tzero Try.prog 72 = some [.nilFunc] := by and_intros <;> kernel_rfl
theorem ft73 : tsz Try.prog 73 = some 1 ∧ tbytes Try.prog 73 = some 8 ∧ tagg Try.prog 73 = some false ∧ tslice Try.prog 73 = none ∧ tzero Try.prog 73 = some [.nilFunc] := by and_intros <;> kernel_rfl
theorem ft74 : tsz Try.prog 74 = some 1 ∧ tbytes Try.prog 74 = some 8 ∧ tagg Try.prog 74 = some false ∧ tslice Try.prog 74 = none ∧ tzero Try.prog 74 = some [.nilFunc] := by and_intros <;> kernel_rfl
theorem ft75 : tsz Try.prog 75 = some 1 ∧ tbytes Try.prog 75 = some 8 ∧ tagg Try.prog 75 = some false ∧ tslice Try.prog 75 = none ∧ tzero Try.prog 75 = some [.pointer none] := by and_intros <;> kernel_rfl
theorem ft76 : tsz Try.prog 76 = some 1 ∧ tbytes Try.prog 76 = some 8 ∧ tagg Try.prog 76 = some false ∧ tslice Try.prog 76 = none ∧ tzero Try.prog 76 = some [.nilFunc] := by and_intros <;> kernel_rfl
theorem ft77 : tsz Try.prog 77 = some 3 ∧ tbytes Try.prog 77 = some 72 ∧ tagg Try.prog 77 = some true ∧ tslice Try.prog 77 = none ∧ tzero Try.prog 77 = some [.slice none 0 0, .slice none 0 0, .slice none 0 0] ∧ tstruct Try.prog 77 = some [.slice none 0 0, .slice none 0 0, .slice none 0 0] ∧ tfield Try.prog 77 0 = some (0, 29) ∧ tfield Try.prog 77 1 = some (2, 38) := by and_intros <;> kernel_rfl
theorem ft78 : tsz Try.prog 78 = some 3 ∧ tbytes Try.prog 78 = some 72 ∧ tagg Try.prog 78 = some true ∧ tslice Try.prog 78 = none ∧ tzero Try.prog 78 = some [.slice none 0 0, .slice none 0 0, .slice none 0 0] ∧ tstruct Try.prog 78 = some [.slice none 0 0, .slice none 0 0, .slice none 0 0] ∧ tfield Try.prog 78 0 = some (0, 29) ∧ tfield Try.prog 78 1 = some (2, 38) := by and_intros <;> kernel_rfl
theorem ft79 : tsz Try.prog 79 = some 1 ∧ tbytes Try.prog 79 = some 8 ∧ tagg Try.prog 79 = some false ∧ tslice Try.prog 79 = none ∧ tzero Try.prog 79 = some [.nilFunc] := by and_intros <;> kernel_rfl
theorem ft80 : tsz Try.prog 80 = some 1 ∧ tbytes Try.prog 80 = some 8 ∧ tagg Try.prog 80 = some false ∧ tslice Try.prog 80 = none ∧ tzero Try.prog 80 = some [.pointer none] := by and_intros <;> kernel_rfl
theorem ft81 : tsz Try.prog 81 = some 1 ∧ tbytes Try.prog 81 = some 0 ∧ tagg Try.prog 81 = some false ∧ tslice Try.prog 81 = none := by and_intros <;> kernel_rfl
theorem ft82 : tsz Try.prog 82 = some 1 ∧ tbytes Try.prog 82 = some 8 ∧ tagg Try.prog 82 = some false ∧ tslice Try.prog 82 = none ∧ tzero Try.prog 82 = some [.nilFunc] := by and_intros <;> kernel_rfl
theorem ft83 : tsz Try.prog 83 = some 4 ∧ tbytes Try.prog 83 = some 80 ∧ tagg Try.prog 83 = some true ∧ tslice Try.prog 83 = none ∧ tzero Try.prog 83 = some [.int .i64 0, .slice none 0 0, .slice none 0 0, .slice none 0 0] ∧ tstruct Try.prog 83 = some [.int .i64 0, .slice none 0 0, .slice none 0 0, .slice none 0 0] ∧ tfield Try.prog 83 0 = some (0, 3) ∧ tfield Try.prog 83 1 = some (1, 23) ∧ tfield Try.prog 83 2 = some (2, 29) := by and_intros <;> kernel_rfl
theorem ft84 : tsz Try.prog 84 = some 4 ∧ tbytes Try.prog 84 = some 80 ∧ tagg Try.prog 84 = some true ∧ tslice Try.prog 84 = none ∧ tzero Try.prog 84 = some [.int .i64 0, .slice none 0 0, .slice none 0 0, .slice none 0 0] ∧ tstruct Try.prog 84 = some [.int .i64 0, .slice none 0 0, .slice none 0 0, .slice none 0 0] ∧ tfield Try.prog 84 0 = some (0, 3) ∧ tfield Try.prog 84 1 = some (1, 23) ∧ tfield Try.prog 84 2 = some (2, 29) := by and_intros <;> kernel_rfl
theorem ft85 : tsz Try.prog 85 = some 2 ∧ tbytes Try.prog 85 = some 16 ∧ tagg Try.prog 85 = some true ∧ tslice Try.prog 85 = none ∧ tzero Try.prog 85 = some [.int .i64 0, .int .i64 0] ∧ tstruct Try.prog 85 = some [.int .i64 0, .int .i64 0] ∧ tints Try.prog 85 = some 2 ∧ tfield Try.prog 85 0 = some (0, 3) ∧ tfield Try.prog 85 1 = some (1, 3) := by and_intros <;> kernel_rfl
theorem ft86 : tsz Try.prog 86 = some 2 ∧ tbytes Try.prog 86 = some 16 ∧ tagg Try.prog 86 = some true ∧ tslice Try.prog 86 = none ∧ tzero Try.prog 86 = some [.int .i64 0, .int .i64 0] ∧ tstruct Try.prog 86 = some [.int .i64 0, .int .i64 0] ∧ tints Try.prog 86 = some 2 ∧ tfield Try.prog 86 0 = some (0, 3) ∧ tfield Try.prog 86 1 = some (1, 3) := by and_intros <;> kernel_rfl
theorem ft87 : tsz Try.prog 87 = some 1 ∧ tbytes Try.prog 87 = some 8 ∧ tagg Try.prog 87 = some false ∧ tslice Try.prog 87 = none ∧ tzero Try.prog 87 = some [.nilFunc] := by and_intros <;> kernel_rfl
theorem ft88 : tsz Try.prog 88 = some 1 ∧ tbytes Try.prog 88 = some 8 ∧ tagg Try.prog 88 = some false ∧ tslice Try.prog 88 = none ∧ tzero Try.prog 88 = some [.nilFunc] := by and_intros <;> kernel_rfl
theorem ft89 : tsz Try.prog 89 = some 1 ∧ tbytes Try.prog 89 = some 8 ∧ tagg Try.prog 89 = some false ∧ tslice Try.prog 89 = none ∧ tzero Try.prog 89 = some [.nilFunc] := by and_intros <;> kernel_rfl
theorem ft90 : tsz Try.prog 90 = some 1 ∧ tbytes Try.prog 90 = some 8 ∧ tagg Try.prog 90 = some false ∧ tslice Try.prog 90 = none ∧ tzero Try.prog 90 = some [.nilFunc] := by and_intros <;> kernel_rfl
theorem ft91 : tsz Try.prog 91 = some 1 ∧ tbytes Try.prog 91 = some 8 ∧ tagg Try.prog 91 = some false ∧ tslice Try.prog 91 = none ∧ tzero Try.prog 91 = some [.nilFunc] := by and_intros <;> kernel_rfl
theorem ft92 : tsz Try.prog 92 = some 1 ∧ tbytes Try.prog 92 = some 8 ∧ tagg Try.prog 92 = some false ∧ tslice Try.prog 92 = none ∧ tzero Try.prog 92 = some [.nilFunc] := by and_intros <;> kernel_rfl
theorem ft93 : tsz Try.prog 93 = some 1 ∧ tbytes Try.prog 93 = some 8 ∧ tagg Try.prog 93 = some false ∧ tslice Try.prog 93 = none ∧ tzero Try.prog 93 = some [.nilFunc] := by and_intros <;> kernel_rfl
theorem ft94 : tsz Try.prog 94 = some 1 ∧ tbytes Try.prog 94 = some 8 ∧ tagg Try.prog 94 = some false ∧ tslice Try.prog 94 = none ∧ tzero Try.prog 94 = some [.nilFunc] := by and_intros <;> kernel_rfl
theorem ft95 : tsz Try.prog 95 = some 1 ∧ tbytes Try.prog 95 = some 8 ∧ tagg Try.prog 95 = some false ∧ tslice Try.prog 95 = none ∧ tzero Try.prog 95 = some [.nilFunc] := by and_intros <;> kernel_rfl
theorem ft96 : tsz Try.prog 96 = some 1 ∧ tbytes Try.prog 96 = some 8 ∧ tagg Try.prog 96 = some false ∧ tslice Try.prog 96 = none ∧ tzero Try.prog 96 = some [.pointer none] := by and_intros <;> kernel_rfl
theorem ft97 : tsz Try.prog 97 = some 1 ∧ tbytes Try.prog 97 = some 0 ∧ tagg Try.prog 97 = some false ∧ tslice Try.prog 97 = none := by and_intros <;> kernel_rfl
theorem ft98 : tsz Try.prog 98 = some 1 ∧ tbytes Try.prog 98 = some 8 ∧ tagg Try.prog 98 = some false ∧ tslice Try.prog 98 = none ∧ tzero Try.prog 98 = some [.nilFunc] := by and_intros <;> kernel_rfl
theorem ft99 : tsz Try.prog 99 = some 1 ∧ tbytes Try.prog 99 = some 24 ∧ tagg Try.prog 99 = some false ∧ tslice Try.prog 99 = some 50 ∧ tzero Try.prog 99 = some [.slice none 0 0] := by and_intros <;> kernel_rfl
theorem ft100 : tsz Try.prog 100 = some 1 ∧ tbytes Try.prog 100 = some 8 ∧ tagg Try.prog 100 = some false ∧ tslice Try.prog 100 = none ∧ tzero Try.prog 100 = some [.nilFunc] := by and_intros <;> kernel_rfl
theorem ft101 : tsz Try.prog 101 = some 1 ∧ tbytes Try.prog 101 = some 8 ∧ tagg Try.prog 101 = some false ∧ tslice Try.prog 101 = none ∧ tzero Try.prog 101 = some [.nilFunc] := by and_intros <;> kernel_rfl
theorem ft102 : tsz Try.prog 102 = some 1 ∧ tbytes Try.prog 102 = some 8 ∧ tagg Try.prog 102 = some false ∧ tslice Try.prog 102 = none ∧ tzero Try.prog 102 = some [.nilFunc] := by and_intros <;> kernel_rfl
theorem ft103 : tsz Try.prog 103 = some 1 ∧ tbytes Try.prog 103 = some 8 ∧ tagg Try.prog 103 = some false ∧ tslice Try.prog 103 = none ∧ tzero Try.prog 103 = some [.nilFunc] := by and_intros <;> kernel_rfl
theorem ft104 : tsz Try.prog 104 = some 1 ∧ tbytes Try.prog 104 = some 24 ∧ tagg Try.prog 104 = some false ∧ tslice Try.prog 104 = some 106 ∧ tzero Try.prog 104 = some [.slice none 0 0] := by and_intros <;> kernel_rfl
theorem ft105 : tsz Try.prog 105 = some 3 ∧ tbytes Try.prog 105 = some 40 ∧ tagg Try.prog 105 = some true ∧ tslice Try.prog 105 = none ∧ tzero Try.prog 105 = some [.int .i64 0, .int .i64 0, .slice none 0 0] ∧ tstruct Try.prog 105 = some [.int .i64 0, .int .i64 0, .slice none 0 0] ∧ tfield Try.prog 105 0 = some (0, 3) ∧ tfield Try.prog 105 1 = some (1, 3) ∧ tfield Try.prog 105 2 = some (2, 104) := by and_intros <;> kernel_rfl
theorem ft106 : tsz Try.prog 106 = some 3 ∧ tbytes Try.prog 106 = some 40 ∧ tagg Try.prog 106 = some true ∧ tslice Try.prog 106 = none ∧ tzero Try.prog 106 = some [.int .i64 0, .int .i64 0, .slice none 0 0] ∧ tstruct Try.prog 106 = some [.int .i64 0, .int .i64 0, .slice none 0 0] ∧ tfield Try.prog 106 0 = some (0, 3) ∧ tfield Try.prog 106 1 = some (1, 3) ∧ tfield Try.prog 106 2 = some (2, 104) := by and_intros <;> kernel_rfl
theorem ft107 : tsz Try.prog 107 = some 11 ∧ tbytes Try.prog 107 = some 152 ∧ tagg Try.prog 107 = some true ∧ tslice Try.prog 107 = none ∧ tzero Try.prog 107 = some [.int .i64 0, .int .i64 0, .int .i64 0, .int .i64 0, .slice none 0 0, .int .i64 0, .int .i64 0, .slice none 0 0, .int .i64 0, .slice none 0 0, .slice none 0 0] ∧ tstruct Try.prog 107 = some [.int .i64 0, .int .i64 0, .int .i64 0, .int .i64 0, .slice none 0 0, .int .i64 0, .int .i64 0, .slice none 0 0, .int .i64 0, .slice none 0 0, .slice none 0 0] ∧ tfield Try.prog 107 0 = some (0, 3) ∧ tfield Try.prog 107 1 = some (1, 3) ∧ tfield Try.prog 107 2 = some (2, 106) ∧ tfield Try.prog 107 3 = some (5, 106) ∧ tfield Try.prog 107 4 = some (8, 3) ∧ tfield Try.prog 107 5 = some (9, 24) ∧ tfield Try.prog 107 6 = some (10, 24) := by and_intros <;> kernel_rfl
theorem ft108 : tsz Try.prog 108 = some 11 ∧ tbytes Try.prog 108 = some 152 ∧ tagg Try.prog 108 = some true ∧ tslice Try.prog 108 = none ∧ tzero Try.prog 108 = some [.int .i64 0, .int .i64 0, .int .i64 0, .int .i64 0, .slice none 0 0, .int .i64 0, .int .i64 0, .slice none 0 0, .int .i64 0, .slice none 0 0, .slice none 0 0] ∧ tstruct Try.prog 108 = some [.int .i64 0, .int .i64 0, .int .i64 0, .int .i64 0, .slice none 0 0, .int .i64 0, .int .i64 0, .slice none 0 0, .int .i64 0, .slice none 0 0, .slice none 0 0] ∧ tfield Try.prog 108 0 = some (0, 3) ∧ tfield Try.prog 108 1 = some (1, 3) ∧ tfield Try.prog 108 2 = some (2, 106) ∧ tfield Try.prog 108 3 = some (5, 106) ∧ tfield Try.prog 108 4 = some (8, 3) ∧ tfield Try.prog 108 5 = some (9, 24) ∧ tfield Try.prog 108 6 = some (10, 24) := by and_intros <;> kernel_rfl
theorem ft109 : tsz Try.prog 109 = some 1 ∧ tbytes Try.prog 109 = some 8 ∧ tagg Try.prog 109 = some false ∧ tslice Try.prog 109 = none ∧ tzero Try.prog 109 = some [.nilFunc] := by and_intros <;> kernel_rfl
theorem ft110 : tsz Try.prog 110 = some 2 ∧ tbytes Try.prog 110 = some 32 ∧ tagg Try.prog 110 = some true ∧ tslice Try.prog 110 = none ∧ tzero Try.prog 110 = some [.slice none 0 0, .int .i64 0] ∧ tstruct Try.prog 110 = some [.slice none 0 0, .int .i64 0] ∧ tfield Try.prog 110 0 = some (0, 22) ∧ tfield Try.prog 110 1 = some (1, 3) := by and_intros <;> kernel_rfl
theorem ft111 : tsz Try.prog 111 = some 2 ∧ tbytes Try.prog 111 = some 32 ∧ tagg Try.prog 111 = some true ∧ tslice Try.prog 111 = none ∧ tzero Try.prog 111 = some [.slice none 0 0, .int .i64 0] ∧ tstruct Try.prog 111 = some [.slice none 0 0, .int .i64 0] ∧ tfield Try.prog 111 0 = some (0, 22) ∧ tfield Try.prog 111 1 = some (1, 3) := by and_intros <;> kernel_rfl
theorem ft112 : tsz Try.prog 112 = some 1 ∧ tbytes Try.prog 112 = some 8 ∧ tagg Try.prog 112 = some false ∧ tslice Try.prog 112 = none ∧ tzero Try.prog 112 = some [.nilFunc] := by and_intros <;> kernel_rfl
theorem ft113 : tsz Try.prog 113 = some 1 ∧ tbytes Try.prog 113 = some 8 ∧ tagg Try.prog 113 = some false ∧ tslice Try.prog 113 = none ∧ tzero Try.prog 113 = some [.nilFunc] := by and_intros <;> kernel_rfl
theorem ft114 : tsz Try.prog 114 = some 1 ∧ tbytes Try.prog 114 = some 8 ∧ tagg Try.prog 114 = some false ∧ tslice Try.prog 114 = none ∧ tzero Try.prog 114 = some [.nilFunc] := by and_intros <;> kernel_rfl
theorem ft115 : tsz Try.prog 115 = some 1 ∧ tbytes Try.prog 115 = some 8 ∧ tagg Try.prog 115 = some false ∧ tslice Try.prog 115 = none ∧ tzero Try.prog 115 = some [.nilFunc] := by and_intros <;> kernel_rfl
theorem ft116 : tsz Try.prog 116 = some 1 ∧ tbytes Try.prog 116 = some 8 ∧ tagg Try.prog 116 = some false ∧ tslice Try.prog 116 = none ∧ tzero Try.prog 116 = some [.nilFunc] := by and_intros <;> kernel_rfl
theorem ft117 : tsz Try.prog 117 = some 1 ∧ tbytes Try.prog 117 = some 8 ∧ tagg Try.prog 117 = some false ∧ tslice Try.prog 117 = none ∧ tzero Try.prog 117 = some [.nilFunc] := by and_intros <;> kernel_rfl
theorem ft118 : tsz Try.prog 118 = some 1 ∧ tbytes Try.prog 118 = some 8 ∧ tagg Try.prog 118 = some false ∧ tslice Try.prog 118 = none ∧ tzero Try.prog 118 = some [.nilFunc] := by and_intros <;> kernel_rfl
theorem ft119 : tsz Try.prog 119 = some 1 ∧ tbytes Try.prog 119 = some 8 ∧ tagg Try.prog 119 = some false ∧ tslice Try.prog 119 = none ∧ tzero Try.prog 119 = some [.nilFunc] := by and_intros <;> kernel_rfl
theorem ft120 : tsz Try.prog 120 = some 1 ∧ tbytes Try.prog 120 = some 8 ∧ tagg Try.prog 120 = some false ∧ tslice Try.prog 120 = none ∧ tzero Try.prog 120 = some [.nilFunc] := by and_intros <;> kernel_rfl
theorem ft121 : tsz Try.prog 121 = some 1 ∧ tbytes Try.prog 121 = some 8 ∧ tagg Try.prog 121 = some false ∧ tslice Try.prog 121 = none ∧ tzero Try.prog 121 = some [.nilFunc] := by and_intros <;> kernel_rfl
theorem ft122 : tsz Try.prog 122 = some 1 ∧ tbytes Try.prog 122 = some 8 ∧ tagg Try.prog 122 = some false ∧ tslice Try.prog 122 = none ∧ tzero Try.prog 122 = some [.nilFunc] := by and_intros <;> kernel_rfl
theorem ft123 : tsz Try.prog 123 = some 1 ∧ tbytes Try.prog 123 = some 8 ∧ tagg Try.prog 123 = some false ∧ tslice Try.prog 123 = none ∧ tzero Try.prog 123 = some [.nilFunc] := by and_intros <;> kernel_rfl
theorem ft124 : tsz Try.prog 124 = some 1 ∧ tbytes Try.prog 124 = some 8 ∧ tagg Try.prog 124 = some false ∧ tslice Try.prog 124 = none ∧ tzero Try.prog 124 = some [.nilFunc] := by and_intros <;> kernel_rfl
theorem ft125 : tsz Try.prog 125 = some 1 ∧ tbytes Try.prog 125 = some 0 ∧ tagg Try.prog 125 = some false ∧ tslice Try.prog 125 = none := by and_intros <;> kernel_rfl
theorem ft126 : tsz Try.prog 126 = some 1 ∧ tbytes Try.prog 126 = some 8 ∧ tagg Try.prog 126 = some false ∧ tslice Try.prog 126 = none ∧ tzero Try.prog 126 = some [.nilFunc] := by and_intros <;> kernel_rfl
theorem ft127 : tsz Try.prog 127 = some 1 ∧ tbytes Try.prog 127 = some 8 ∧ tagg Try.prog 127 = some false ∧ tslice Try.prog 127 = none ∧ tzero Try.prog 127 = some [.nilFunc] := by and_intros <;> kernel_rfl
theorem ft128 : tsz Try.prog 128 = some 1 ∧ tbytes Try.prog 128 = some 8 ∧ tagg Try.prog 128 = some false ∧ tslice Try.prog 128 = none ∧ tzero Try.prog 128 = some [.nilFunc] := by and_intros <;> kernel_rfl
theorem ft129 : tsz Try.prog 129 = some 1 ∧ tbytes Try.prog 129 = some 8 ∧ tagg Try.prog 129 = some false ∧ tslice Try.prog 129 = none ∧ tzero Try.prog 129 = some [.nilFunc] := by and_intros <;> kernel_rfl
theorem ft130 : tsz Try.prog 130 = some 1 ∧ tbytes Try.prog 130 = some 8 ∧ tagg Try.prog 130 = some false ∧ tslice Try.prog 130 = none ∧ tzero Try.prog 130 = some [.nilFunc] := by and_intros <;> kernel_rfl
theorem ft131 : tsz Try.prog 131 = some 1 ∧ tbytes Try.prog 131 = some 8 ∧ tagg Try.prog 131 = some false ∧ tslice Try.prog 131 = none ∧ tzero Try.prog 131 = some [.nilFunc] := by and_intros <;> kernel_rfl
theorem ft132 : tsz Try.prog 132 = some 1 ∧ tbytes Try.prog 132 = some 8 ∧ tagg Try.prog 132 = some false ∧ tslice Try.prog 132 = none ∧ tzero Try.prog 132 = some [.nilFunc] := by and_intros <;> kernel_rfl
theorem ft133 : tsz Try.prog 133 = some 1 ∧ tbytes Try.prog 133 = some 0 ∧ tagg Try.prog 133 = some false ∧ tslice Try.prog 133 = none := by and_intros <;> kernel_rfl
theorem ft134 : tsz Try.prog 134 = some 1 ∧ tbytes Try.prog 134 = some 8 ∧ tagg Try.prog 134 = some false ∧ tslice Try.prog 134 = none ∧ tzero Try.prog 134 = some [.nilFunc] := by and_intros <;> kernel_rfl
theorem ft135 : tsz Try.prog 135 = some 1 ∧ tbytes Try.prog 135 = some 8 ∧ tagg Try.prog 135 = some false ∧ tslice Try.prog 135 = none ∧ tzero Try.prog 135 = some [.nilFunc] := by and_intros <;> kernel_rfl
theorem ft136 : tsz Try.prog 136 = some 1 ∧ tbytes Try.prog 136 = some 8 ∧ tagg Try.prog 136 = some false ∧ tslice Try.prog 136 = none ∧ tzero Try.prog 136 = some [.pointer none] := by and_intros <;> kernel_rfl
theorem ft137 : tsz Try.prog 137 = some 1 ∧ tbytes Try.prog 137 = some 8 ∧ tagg Try.prog 137 = some false ∧ tslice Try.prog 137 = none ∧ tzero Try.prog 137 = some [.nilFunc] := by and_intros <;> kernel_rfl
theorem ft138 : tsz Try.prog 138 = some 5 ∧ tbytes Try.prog 138 = some 88 ∧ tagg Try.prog 138 = some true ∧ tslice Try.prog 138 = none ∧ tzero Try.prog 138 = some [.slice none 0 0, .slice none 0 0, .slice none 0 0, .int .i64 0, .int .i64 0] ∧ tstruct Try.prog 138 = some [.slice none 0 0, .slice none 0 0, .slice none 0 0, .int .i64 0, .int .i64 0] ∧ tfield Try.prog 138 0 = some (0, 26) ∧ tfield Try.prog 138 1 = some (3, 3) ∧ tfield Try.prog 138 2 = some (4, 3) := by and_intros <;> kernel_rfl
theorem ft139 : tsz Try.prog 139 = some 5 ∧ tbytes Try.prog 139 = some 88 ∧ tagg Try.prog 139 = some true ∧ tslice Try.prog 139 = none ∧ tzero Try.prog 139 = some [.slice none 0 0, .slice none 0 0, .slice none 0 0, .int .i64 0, .int .i64 0] ∧ tstruct Try.prog 139 = some [.slice none 0 0, .slice none 0 0, .slice none 0 0, .int .i64 0, .int .i64 0] ∧ tfield Try.prog 139 0 = some (0, 26) ∧ tfield Try.prog 139 1 = some (3, 3) ∧ tfield Try.prog 139 2 = some (4, 3) := by and_intros <;> kernel_rfl
theorem ft140 : tsz Try.prog 140 = some 1 ∧ tbytes Try.prog 140 = some 8 ∧ tagg Try.prog 140 = some false ∧ tslice Try.prog 140 = none ∧ tzero Try.prog 140 = some [.nilFunc] := by and_intros <;> kernel_rfl
theorem ft141 : tsz Try.prog 141 = some 1 ∧ tbytes Try.prog 141 = some 8 ∧ tagg Try.prog 141 = some false ∧ tslice Try.prog 141 = none ∧ tzero Try.prog 141 = some [.nilFunc] := by and_intros <;> kernel_rfl
theorem ft142 : tsz Try.prog 142 = some 6 ∧ tbytes Try.prog 142 = some 144 ∧ tagg Try.prog 142 = some true ∧ tslice Try.prog 142 = none ∧ tzero Try.prog 142 = some [.slice none 0 0, .slice none 0 0, .slice none 0 0, .slice none 0 0, .slice none 0 0, .slice none 0 0] ∧ tstruct Try.prog 142 = some [.slice none 0 0, .slice none 0 0, .slice none 0 0, .slice none 0 0, .slice none 0 0, .slice none 0 0] ∧ tfield Try.prog 142 0 = some (0, 26) ∧ tfield Try.prog 142 1 = some (3, 99) ∧ tfield Try.prog 142 2 = some (4, 50) ∧ tfield Try.prog 142 3 = some (5, 50) := by and_intros <;> kernel_rfl
theorem ft143 : tsz Try.prog 143 = some 6 ∧ tbytes Try.prog 143 = some 144 ∧ tagg Try.prog 143 = some true ∧ tslice Try.prog 143 = none ∧ tzero Try.prog 143 = some [.slice none 0 0, .slice none 0 0, .slice none 0 0, .slice none 0 0, .slice none 0 0, .slice none 0 0] ∧ tstruct Try.prog 143 = some [.slice none 0 0, .slice none 0 0, .slice none 0 0, .slice none 0 0, .slice none 0 0, .slice none 0 0] ∧ tfield Try.prog 143 0 = some (0, 26) ∧ tfield Try.prog 143 1 = some (3, 99) ∧ tfield Try.prog 143 2 = some (4, 50) ∧ tfield Try.prog 143 3 = some (5, 50) := by and_intros <;> kernel_rfl
theorem ft144 : tsz Try.prog 144 = some 1 ∧ tbytes Try.prog 144 = some 8 ∧ tagg Try.prog 144 = some false ∧ tslice Try.prog 144 = none ∧ tzero Try.prog 144 = some [.nilFunc] := by and_intros <;> kernel_rfl
theorem ft145 : tsz Try.prog 145 = some 1 ∧ tbytes Try.prog 145 = some 8 ∧ tagg Try.prog 145 = some false ∧ tslice Try.prog 145 = none ∧ tzero Try.prog 145 = some [.nilFunc] := by and_intros <;> kernel_rfl
theorem ft146 : tsz Try.prog 146 = some 1 ∧ tbytes Try.prog 146 = some 8 ∧ tagg Try.prog 146 = some false ∧ tslice Try.prog 146 = none ∧ tzero Try.prog 146 = some [.nilFunc] := by and_intros <;> kernel_rfl
theorem ft147 : tsz Try.prog 147 = some 1 ∧ tbytes Try.prog 147 = some 8 ∧ tagg Try.prog 147 = some false ∧ tslice Try.prog 147 = none ∧ tzero Try.prog 147 = some [.nilFunc] := by and_intros <;> kernel_rfl
theorem ft148 : tsz Try.prog 148 = some 1 ∧ tbytes Try.prog 148 = some 8 ∧ tagg Try.prog 148 = some false ∧ tslice Try.prog 148 = none ∧ tzero Try.prog 148 = some [.nilFunc] := by and_intros <;> kernel_rfl
theorem ft149 : tsz Try.prog 149 = some 1 ∧ tbytes Try.prog 149 = some 8 ∧ tagg Try.prog 149 = some false ∧ tslice Try.prog 149 = none ∧ tzero Try.prog 149 = some [.nilFunc] := by and_intros <;> kernel_rfl
theorem ft150 : tsz Try.prog 150 = some 1 ∧ tbytes Try.prog 150 = some 8 ∧ tagg Try.prog 150 = some false ∧ tslice Try.prog 150 = none ∧ tzero Try.prog 150 = some [.nilFunc] := by and_intros <;> kernel_rfl
theorem ft151 : tsz Try.prog 151 = some 1 ∧ tbytes Try.prog 151 = some 8 ∧ tagg Try.prog 151 = some false ∧ tslice Try.prog 151 = none ∧ tzero Try.prog 151 = some [.nilFunc] := by and_intros <;> kernel_rfl
theorem ft152 : tsz Try.prog 152 = some 1 ∧ tbytes Try.prog 152 = some 8 ∧ tagg Try.prog 152 = some false ∧ tslice Try.prog 152 = none ∧ tzero Try.prog 152 = some [.nilFunc] := by and_intros <;> kernel_rfl
theorem ft153 : tsz Try.prog 153 = some 1 ∧ tbytes Try.prog 153 = some 8 ∧ tagg Try.prog 153 = some false ∧ tslice Try.prog 153 = none ∧ tzero Try.prog 153 = some [.nilFunc] := by and_intros <;> kernel_rfl
theorem ft154 : tsz Try.prog 154 = some 1 ∧ tbytes Try.prog 154 = some 8 ∧ tagg Try.prog 154 = some false ∧ tslice Try.prog 154 = none ∧ tzero Try.prog 154 = some [.nilFunc] := by and_intros <;> kernel_rfl
theorem ft155 : tsz Try.prog 155 = some 1 ∧ tbytes Try.prog 155 = some 8 ∧ tagg Try.prog 155 = some false ∧ tslice Try.prog 155 = none ∧ tzero Try.prog 155 = some [.nilFunc] := by and_intros <;> kernel_rfl
theorem ft156 : tsz Try.prog 156 = some 1 ∧ tbytes Try.prog 156 = some 8 ∧ tagg Try.prog 156 = some false ∧ tslice Try.prog 156 = none ∧ tzero Try.prog 156 = some [.nilFunc] := by and_intros <;> kernel_rfl
theorem ft157 : tsz Try.prog 157 = some 1 ∧ tbytes Try.prog 157 = some 8 ∧ tagg Try.prog 157 = some false ∧ tslice Try.prog 157 = none ∧ tzero Try.prog 157 = some [.nilFunc] := by and_intros <;> kernel_rfl
theorem ft158 : tsz Try.prog 158 = some 1 ∧ tbytes Try.prog 158 = some 8 ∧ tagg Try.prog 158 = some false ∧ tslice Try.prog 158 = none ∧ tzero Try.prog 158 = some [.nilFunc] := by and_intros <;> kernel_rfl
theorem ft159 : tsz Try.prog 159 = some 1 ∧ tbytes Try.prog 159 = some 8 ∧ tagg Try.prog 159 = some false ∧ tslice Try.prog 159 = none ∧ tzero Try.prog 159 = some [.nilFunc] := by and_intros <;> kernel_rfl
theorem ft160 : tsz Try.prog 160 = some 1 ∧ tbytes Try.prog 160 = some 8 ∧ tagg Try.prog 160 = some false ∧ tslice Try.prog 160 = none ∧ tzero Try.prog 160 = some [.nilFunc] := by and_intros <;> kernel_rfl
theorem ft161 : tsz Try.prog 161 = some 1 ∧ tbytes Try.prog 161 = some 8 ∧ tagg Try.prog 161 = some false ∧ tslice Try.prog 161 = none ∧ tzero Try.prog 161 = some [.nilFunc] := by and_intros <;> kernel_rfl
theorem ft162 : tsz Try.prog 162 = some 1 ∧ tbytes Try.prog 162 = some 0 ∧ tagg Try.prog 162 = some false ∧ tslice Try.prog 162 = none := by and_intros <;> kernel_rfl
theorem ft163 : tsz Try.prog 163 = some 1 ∧ tbytes Try.prog 163 = some 8 ∧ tagg Try.prog 163 = some false ∧ tslice Try.prog 163 = none ∧ tzero Try.prog 163 = some [.nilFunc] := by and_intros <;> kernel_rfl
theorem ft164 : tsz Try.prog 164 = some 1 ∧ tbytes Try.prog 164 = some 8 ∧ tagg Try.prog 164 = some false ∧ tslice Try.prog 164 = none ∧ tzero Try.prog 164 = some [.nilFunc] := by and_intros <;> kernel_rfl
theorem ft165 : tsz Try.prog 165 = some 1 ∧ tbytes Try.prog 165 = some 8 ∧ tagg Try.prog 165 = some false ∧ tslice Try.prog 165 = none ∧ tzero Try.prog 165 = some [.nilFunc] := by and_intros <;> kernel_rfl
theorem ft166 : tsz Try.prog 166 = some 1 ∧ tbytes Try.prog 166 = some 8 ∧ tagg Try.prog 166 = some false ∧ tslice Try.prog 166 = none ∧ tzero Try.prog 166 = some [.nilFunc] := by and_intros <;> kernel_rfl
theorem ft167 : tsz Try.prog 167 = some 1 ∧ tbytes Try.prog 167 = some 8 ∧ tagg Try.prog 167 = some false ∧ tslice Try.prog 167 = none ∧ tzero Try.prog 167 = some [.nilFunc] := by and_intros <;> kernel_rfl
theorem ft168 : tsz Try.prog 168 = some 1 ∧ tbytes Try.prog 168 = some 8 ∧ tagg Try.prog 168 = some false ∧ tslice Try.prog 168 = none ∧ tzero Try.prog 168 = some [.nilFunc] := by and_intros <;> kernel_rfl
theorem ft169 : tsz Try.prog 169 = some 1 ∧ tbytes Try.prog 169 = some 8 ∧ tagg Try.prog 169 = some false ∧ tslice Try.prog 169 = none ∧ tzero Try.prog 169 = some [.nilFunc] := by and_intros <;> kernel_rfl
theorem ft170 : tsz Try.prog 170 = some 1 ∧ tbytes Try.prog 170 = some 8 ∧ tagg Try.prog 170 = some false ∧ tslice Try.prog 170 = none ∧ tzero Try.prog 170 = some [.nilFunc] := by and_intros <;> kernel_rfl
theorem ft171 : tsz Try.prog 171 = some 1 ∧ tbytes Try.prog 171 = some 8 ∧ tagg Try.prog 171 = some false ∧ tslice Try.prog 171 = none ∧ tzero Try.prog 171 = some [.nilFunc] := by and_intros <;> kernel_rfl
theorem ft172 : tsz Try.prog 172 = some 1 ∧ tbytes Try.prog 172 = some 8 ∧ tagg Try.prog 172 = some false ∧ tslice Try.prog 172 = none ∧ tzero Try.prog 172 = some [.nilFunc] := by and_intros <;> kernel_rfl
theorem ft173 : tsz Try.prog 173 = some 1 ∧ tbytes Try.prog 173 = some 8 ∧ tagg Try.prog 173 = some false ∧ tslice Try.prog 173 = none ∧ tzero Try.prog 173 = some [.nilFunc] := by and_intros <;> kernel_rfl
theorem ft174 : tsz Try.prog 174 = some 1 ∧ tbytes Try.prog 174 = some 8 ∧ tagg Try.prog 174 = some false ∧ tslice Try.prog 174 = none ∧ tzero Try.prog 174 = some [.nilFunc] := by and_intros <;> kernel_rfl
theorem ft175 : tsz Try.prog 175 = some 1 ∧ tbytes Try.prog 175 = some 8 ∧ tagg Try.prog 175 = some false ∧ tslice Try.prog 175 = none ∧ tzero Try.prog 175 = some [.nilFunc] := by and_intros <;> kernel_rfl
theorem ft176 : tsz Try.prog 176 = some 1 ∧ tbytes Try.prog 176 = some 8 ∧ tagg Try.prog 176 = some false ∧ tslice Try.prog 176 = none ∧ tzero Try.prog 176 = some [.nilFunc] := by and_intros <;> kernel_rfl
theorem ft177 : tsz Try.prog 177 = some 1 ∧ tbytes Try.prog 177 = some 8 ∧ tagg Try.prog 177 = some false ∧ tslice Try.prog 177 = none ∧ tzero Try.prog 177 = some [.nilFunc] := by and_intros <;> kernel_rfl
theorem ft178 : tsz Try.prog 178 = some 1 ∧ tbytes Try.prog 178 = some 8 ∧ tagg Try.prog 178 = some false ∧ tslice Try.prog 178 = none ∧ tzero Try.prog 178 = some [.nilFunc] := by and_intros <;> kernel_rfl
theorem ft179 : tsz Try.prog 179 = some 1 ∧ tbytes Try.prog 179 = some 8 ∧ tagg Try.prog 179 = some false ∧ tslice Try.prog 179 = none ∧ tzero Try.prog 179 = some [.nilFunc] := by and_intros <;> kernel_rfl
theorem ft180 : tsz Try.prog 180 = some 1 ∧ tbytes Try.prog 180 = some 8 ∧ tagg Try.prog 180 = some false ∧ tslice Try.prog 180 = none ∧ tzero Try.prog 180 = some [.nilFunc] := by and_intros <;> kernel_rfl
theorem ft181 : tsz Try.prog 181 = some 1 ∧ tbytes Try.prog 181 = some 8 ∧ tagg Try.prog 181 = some false ∧ tslice Try.prog 181 = none ∧ tzero Try.prog 181 = some [.nilFunc] := by and_intros <;> kernel_rfl
theorem ft182 : tsz Try.prog 182 = some 1 ∧ tbytes Try.prog 182 = some 8 ∧ tagg Try.prog 182 = some false ∧ tslice Try.prog 182 = none ∧ tzero Try.prog 182 = some [.nilFunc] := by and_intros <;> kernel_rfl
theorem ft184 : tsz Try.prog 184 = some 1 ∧ tbytes Try.prog 184 = some 8 ∧ tagg Try.prog 184 = some false ∧ tslice Try.prog 184 = none ∧ tzero Try.prog 184 = some [.nilFunc] := by and_intros <;> kernel_rfl
theorem ft185 : tsz Try.prog 185 = some 1 ∧ tbytes Try.prog 185 = some 8 ∧ tagg Try.prog 185 = some false ∧ tslice Try.prog 185 = none ∧ tzero Try.prog 185 = some [.nilFunc] := by and_intros <;> kernel_rfl
theorem ft186 : tsz Try.prog 186 = some 1 ∧ tbytes Try.prog 186 = some 8 ∧ tagg Try.prog 186 = some false ∧ tslice Try.prog 186 = none ∧ tzero Try.prog 186 = some [.nilFunc] := by and_intros <;> kernel_rfl
theorem ft188 : tsz Try.prog 188 = some 1 ∧ tbytes Try.prog 188 = some 8 ∧ tagg Try.prog 188 = some false ∧ tslice Try.prog 188 = none ∧ tzero Try.prog 188 = some [.nilFunc] := by and_intros <;> kernel_rfl
theorem ft189 : tsz Try.prog 189 = some 1 ∧ tbytes Try.prog 189 = some 8 ∧ tagg Try.prog 189 = some false ∧ tslice Try.prog 189 = none ∧ tzero Try.prog 189 = some [.nilFunc] := by and_intros <;> kernel_rfl
theorem ft190 : tsz Try.prog 190 = some 1 ∧ tbytes Try.prog 190 = some 8 ∧ tagg Try.prog 190 = some false ∧ tslice Try.prog 190 = none ∧ tzero Try.prog 190 = some [.nilFunc] := by and_intros <;> kernel_rfl
theorem ft191 : tsz Try.prog 191 = some 1 ∧ tbytes Try.prog 191 = some 8 ∧ tagg Try.prog 191 = some false ∧ tslice Try.prog 191 = none ∧ tzero Try.prog 191 = some [.nilFunc] := by and_intros <;> kernel_rfl
theorem ft192 : tsz Try.prog 192 = some 1 ∧ tbytes Try.prog 192 = some 8 ∧ tagg Try.prog 192 = some false ∧ tslice Try.prog 192 = none ∧ tzero Try.prog 192 = some [.nilFunc] := by and_intros <;> kernel_rfl
theorem ft193 : tsz Try.prog 193 = some 1 ∧ tbytes Try.prog 193 = some 8 ∧ tagg Try.prog 193 = some false ∧ tslice Try.prog 193 = none ∧ tzero Try.prog 193 = some [.nilFunc] := by and_intros <;> kernel_rfl
theorem ft195 : tsz Try.prog 195 = some 1 ∧ tbytes Try.prog 195 = some 8 ∧ tagg Try.prog 195 = some false ∧ tslice Try.prog 195 = none ∧ tzero Try.prog 195 = some [.nilFunc] := by and_intros <;> kernel_rfl
theorem ft196 : tsz Try.prog 196 = some 1 ∧ tbytes Try.prog 196 = some 24 ∧ tagg Try.prog 196 = some false ∧ tslice Try.prog 196 = some 9 ∧ tzero Try.prog 196 = some [.slice none 0 0] := by and_intros <;> kernel_rfl
theorem ft198 : tsz Try.prog 198 = some 1 ∧ tbytes Try.prog 198 = some 8 ∧ tagg Try.prog 198 = some false ∧ tslice Try.prog 198 = none ∧ tzero Try.prog 198 = some [.nilFunc] := by and_intros <;> kernel_rfl
theorem ft199 : tsz Try.prog 199 = some 1 ∧ tbytes Try.prog 199 = some 8 ∧ tagg Try.prog 199 = some false ∧ tslice Try.prog 199 = none ∧ tzero Try.prog 199 = some [.nilFunc] := by and_intros <;> kernel_rfl
theorem ft200 : tsz Try.prog 200 = some 1 ∧ tbytes Try.prog 200 = some 8 ∧ tagg Try.prog 200 = some false ∧ tslice Try.prog 200 = none ∧ tzero Try.prog 200 = some [.nilFunc] := by and_intros <;> kernel_rfl
theorem ft201 : tsz Try.prog 201 = some 1 ∧ tbytes Try.prog 201 = some 8 ∧ tagg Try.prog 201 = some false ∧ tslice Try.prog 201 = none ∧ tzero Try.prog 201 = some [.nilFunc] := by and_intros <;> kernel_rfl
theorem ft202 : tsz Try.prog 202 = some 1 ∧ tbytes Try.prog 202 = some 8 ∧ tagg Try.prog 202 = some false ∧ tslice Try.prog 202 = none ∧ tzero Try.prog 202 = some [.nilFunc] := by and_intros <;> kernel_rfl
theorem ft203 : tsz Try.prog 203 = some 1 ∧ tbytes Try.prog 203 = some 8 ∧ tagg Try.prog 203 = some false ∧ tslice Try.prog 203 = none ∧ tzero Try.prog 203 = some [.nilFunc] := by and_intros <;> kernel_rfl
theorem ft204 : tsz Try.prog 204 = some 1 ∧ tbytes Try.prog 204 = some 8 ∧ tagg Try.prog 204 = some false ∧ tslice Try.prog 204 = none ∧ tzero Try.prog 204 = some [.nilFunc] := by and_intros <;> kernel_rfl
theorem ft205 : tsz Try.prog 205 = some 1 ∧ tbytes Try.prog 205 = some 8 ∧ tagg Try.prog 205 = some false ∧ tslice Try.prog 205 = none ∧ tzero Try.prog 205 = some [.nilFunc] := by and_intros <;> kernel_rfl
theorem ft206 : tsz Try.prog 206 = some 1 ∧ tbytes Try.prog 206 = some 8 ∧ tagg Try.prog 206 = some false ∧ tslice Try.prog 206 = none ∧ tzero Try.prog 206 = some [.nilFunc] := by and_intros <;> kernel_rfl
theorem ft207 : tsz Try.prog 207 = some 4 ∧ tbytes Try.prog 207 = some 40 ∧ tagg Try.prog 207 = some true ∧ tslice Try.prog 207 = none ∧ tzero Try.prog 207 = some [.pointer none, .pointer none, .pointer none, .string .empty] ∧ tstruct Try.prog 207 = some [.pointer none, .pointer none, .pointer none, .string .empty] ∧ tfield Try.prog 207 0 = some (0, 17) ∧ tfield Try.prog 207 1 = some (1, 17) ∧ tfield Try.prog 207 2 = some (2, 17) ∧ tfield Try.prog 207 3 = some (3, 9) := by and_intros <;> kernel_rfl
theorem ft208 : tsz Try.prog 208 = some 4 ∧ tbytes Try.prog 208 = some 40 ∧ tagg Try.prog 208 = some true ∧ tslice Try.prog 208 = none ∧ tzero Try.prog 208 = some [.pointer none, .pointer none, .pointer none, .string .empty] ∧ tstruct Try.prog 208 = some [.pointer none, .pointer none, .pointer none, .string .empty] ∧ tfield Try.prog 208 0 = some (0, 17) ∧ tfield Try.prog 208 1 = some (1, 17) ∧ tfield Try.prog 208 2 = some (2, 17) ∧ tfield Try.prog 208 3 = some (3, 9) := by and_intros <;> kernel_rfl
theorem ft209 : tsz Try.prog 209 = some 0 ∧ tbytes Try.prog 209 = some 0 ∧ tagg Try.prog 209 = some true ∧ tslice Try.prog 209 = none ∧ tzero Try.prog 209 = some [] := by and_intros <;> kernel_rfl
theorem ft210 : tsz Try.prog 210 = some 0 ∧ tbytes Try.prog 210 = some 0 ∧ tagg Try.prog 210 = some true ∧ tslice Try.prog 210 = none ∧ tzero Try.prog 210 = some [] ∧ tstruct Try.prog 210 = some [] := by and_intros <;> kernel_rfl
theorem ft211 : tsz Try.prog 211 = some 0 ∧ tbytes Try.prog 211 = some 0 ∧ tagg Try.prog 211 = some true ∧ tslice Try.prog 211 = none ∧ tzero Try.prog 211 = some [] ∧ tstruct Try.prog 211 = some [] := by and_intros <;> kernel_rfl
theorem ft212 : tsz Try.prog 212 = some 1 ∧ tbytes Try.prog 212 = some 4 ∧ tagg Try.prog 212 = some false ∧ tslice Try.prog 212 = none ∧ Try.prog.underlying 212 = some (.int .u32) ∧ tzero Try.prog 212 = some [.int .u32 0] := by and_intros <;> kernel_rfl
theorem ft213 : tsz Try.prog 213 = some 1 ∧ tbytes Try.prog 213 = some 1 ∧ tagg Try.prog 213 = some false ∧ tslice Try.prog 213 = none ∧ Try.prog.underlying 213 = some (.int .u8) ∧ tzero Try.prog 213 = some [.int .u8 0] := by and_intros <;> kernel_rfl
theorem ft214 : tsz Try.prog 214 = some 1 ∧ tbytes Try.prog 214 = some 1 ∧ tagg Try.prog 214 = some false ∧ tslice Try.prog 214 = none ∧ Try.prog.underlying 214 = some (.int .u8) ∧ tzero Try.prog 214 = some [.int .u8 0] := by and_intros <;> kernel_rfl
theorem ft215 : tsz Try.prog 215 = some 1 ∧ tbytes Try.prog 215 = some 8 ∧ tagg Try.prog 215 = some false ∧ tslice Try.prog 215 = none ∧ tzero Try.prog 215 = some [.nilFunc] := by and_intros <;> kernel_rfl
theorem ft216 : tsz Try.prog 216 = some 1 ∧ tbytes Try.prog 216 = some 8 ∧ tagg Try.prog 216 = some false ∧ tslice Try.prog 216 = none ∧ tzero Try.prog 216 = some [.pointer none] := by and_intros <;> kernel_rfl
theorem ft217 : tsz Try.prog 217 = some 1 ∧ tbytes Try.prog 217 = some 4 ∧ tagg Try.prog 217 = some false ∧ tslice Try.prog 217 = none ∧ Try.prog.underlying 217 = some (.int .i32) ∧ tzero Try.prog 217 = some [.int .i32 0] := by and_intros <;> kernel_rfl
theorem ft218 : tsz Try.prog 218 = some 1 ∧ tbytes Try.prog 218 = some 4 ∧ tagg Try.prog 218 = some false ∧ tslice Try.prog 218 = none ∧ Try.prog.underlying 218 = some (.int .i32) ∧ tzero Try.prog 218 = some [.int .i32 0] := by and_intros <;> kernel_rfl
theorem ft219 : tsz Try.prog 219 = some 11 ∧ tbytes Try.prog 219 = some 48 ∧ tagg Try.prog 219 = some true ∧ tslice Try.prog 219 = none ∧ tzero Try.prog 219 = some [.int .u64 0, .int .u64 0, .int .u32 0, .int .u8 0, .int .u8 0, .int .u8 0, .int .u8 0, .nilFunc, .pointer none, .int .i32 0, .int .i32 0] ∧ tstruct Try.prog 219 = some [.int .u64 0, .int .u64 0, .int .u32 0, .int .u8 0, .int .u8 0, .int .u8 0, .int .u8 0, .nilFunc, .pointer none, .int .i32 0, .int .i32 0] ∧ tfield Try.prog 219 0 = some (0, 12) ∧ tfield Try.prog 219 1 = some (1, 12) ∧ tfield Try.prog 219 2 = some (2, 212) ∧ tfield Try.prog 219 3 = some (3, 213) ∧ tfield Try.prog 219 4 = some (4, 5) ∧ tfield Try.prog 219 5 = some (5, 5) ∧ tfield Try.prog 219 6 = some (6, 214) ∧ tfield Try.prog 219 7 = some (7, 215) ∧ tfield Try.prog 219 8 = some (8, 216) ∧ tfield Try.prog 219 9 = some (9, 217) ∧ tfield Try.prog 219 10 = some (10, 218) := by and_intros <;> kernel_rfl
theorem ft220 : tsz Try.prog 220 = some 11 ∧ tbytes Try.prog 220 = some 48 ∧ tagg Try.prog 220 = some true ∧ tslice Try.prog 220 = none ∧ tzero Try.prog 220 = some [.int .u64 0, .int .u64 0, .int .u32 0, .int .u8 0, .int .u8 0, .int .u8 0, .int .u8 0, .nilFunc, .pointer none, .int .i32 0, .int .i32 0] ∧ tstruct Try.prog 220 = some [.int .u64 0, .int .u64 0, .int .u32 0, .int .u8 0, .int .u8 0, .int .u8 0, .int .u8 0, .nilFunc, .pointer none, .int .i32 0, .int .i32 0] ∧ tfield Try.prog 220 0 = some (0, 12) ∧ tfield Try.prog 220 1 = some (1, 12) ∧ tfield Try.prog 220 2 = some (2, 212) ∧ tfield Try.prog 220 3 = some (3, 213) ∧ tfield Try.prog 220 4 = some (4, 5) ∧ tfield Try.prog 220 5 = some (5, 5) ∧ tfield Try.prog 220 6 = some (6, 214) ∧ tfield Try.prog 220 7 = some (7, 215) ∧ tfield Try.prog 220 8 = some (8, 216) ∧ tfield Try.prog 220 9 = some (9, 217) ∧ tfield Try.prog 220 10 = some (10, 218) := by and_intros <;> kernel_rfl
theorem ft221 : tsz Try.prog 221 = some 1 ∧ tbytes Try.prog 221 = some 8 ∧ tagg Try.prog 221 = some false ∧ tslice Try.prog 221 = none ∧ tzero Try.prog 221 = some [.nilFunc] := by and_intros <;> kernel_rfl
theorem ft222 : tsz Try.prog 222 = some 1 ∧ tbytes Try.prog 222 = some 8 ∧ tagg Try.prog 222 = some false ∧ tslice Try.prog 222 = none ∧ tzero Try.prog 222 = some [.nilFunc] := by and_intros <;> kernel_rfl
theorem ft223 : tsz Try.prog 223 = some 1 ∧ tbytes Try.prog 223 = some 8 ∧ tagg Try.prog 223 = some false ∧ tslice Try.prog 223 = none ∧ tzero Try.prog 223 = some [.nilFunc] := by and_intros <;> kernel_rfl
theorem ft224 : tsz Try.prog 224 = some 1 ∧ tbytes Try.prog 224 = some 8 ∧ tagg Try.prog 224 = some false ∧ tslice Try.prog 224 = none ∧ tzero Try.prog 224 = some [.pointer none] := by and_intros <;> kernel_rfl
theorem ft225 : tsz Try.prog 225 = some 1 ∧ tbytes Try.prog 225 = some 8 ∧ tagg Try.prog 225 = some false ∧ tslice Try.prog 225 = none ∧ Try.prog.underlying 225 = some (.int .u64) ∧ tzero Try.prog 225 = some [.int .u64 0] := by and_intros <;> kernel_rfl
theorem ok3 : fnOK Try.prog 3 = true := by kernel_rfl
theorem ok4 : fnOK Try.prog 4 = true := by kernel_rfl
theorem ok8 : fnOK Try.prog 8 = true := by kernel_rfl
theorem ok9 : fnOK Try.prog 9 = true := by kernel_rfl
theorem ok10 : fnOK Try.prog 10 = true := by kernel_rfl
theorem ok11 : fnOK Try.prog 11 = true := by kernel_rfl
theorem ok12 : fnOK Try.prog 12 = true := by kernel_rfl
theorem ok13 : fnOK Try.prog 13 = true := by kernel_rfl
theorem ok14 : fnOK Try.prog 14 = true := by kernel_rfl
theorem ok25 : fnOK Try.prog 25 = true := by kernel_rfl
theorem ok26 : fnOK Try.prog 26 = true := by kernel_rfl
theorem ok27 : fnOK Try.prog 27 = true := by kernel_rfl
theorem ok28 : fnOK Try.prog 28 = true := by kernel_rfl
theorem ok29 : fnOK Try.prog 29 = true := by kernel_rfl
theorem ok30 : fnOK Try.prog 30 = true := by kernel_rfl
theorem ok31 : fnOK Try.prog 31 = true := by kernel_rfl
theorem ok32 : fnOK Try.prog 32 = true := by kernel_rfl
theorem ok33 : fnOK Try.prog 33 = true := by kernel_rfl
theorem ok34 : fnOK Try.prog 34 = true := by kernel_rfl
theorem ok35 : fnOK Try.prog 35 = true := by kernel_rfl
theorem ok36 : fnOK Try.prog 36 = true := by kernel_rfl
theorem ok37 : fnOK Try.prog 37 = true := by kernel_rfl
theorem ok38 : fnOK Try.prog 38 = true := by kernel_rfl
theorem ok49 : fnOK Try.prog 49 = true := by kernel_rfl
theorem ok51 : fnOK Try.prog 51 = true := by kernel_rfl
theorem ok59 : fnOK Try.prog 59 = true := by kernel_rfl
theorem ok60 : fnOK Try.prog 60 = true := by kernel_rfl
theorem ok61 : fnOK Try.prog 61 = true := by kernel_rfl
theorem ok62 : fnOK Try.prog 62 = true := by kernel_rfl
theorem ok63 : fnOK Try.prog 63 = true := by kernel_rfl
theorem ok64 : fnOK Try.prog 64 = true := by kernel_rfl
theorem ok65 : fnOK Try.prog 65 = true := by kernel_rfl
theorem ok66 : fnOK Try.prog 66 = true := by kernel_rfl
theorem ok67 : fnOK Try.prog 67 = true := by kernel_rfl
theorem ok68 : fnOK Try.prog 68 = true := by kernel_rfl
theorem ok69 : fnOK Try.prog 69 = true := by kernel_rfl
theorem ok70 : fnOK Try.prog 70 = true := by kernel_rfl
theorem ok71 : fnOK Try.prog 71 = true := by kernel_rfl
theorem ok72 : fnOK Try.prog 72 = true := by kernel_rfl
theorem ok73 : fnOK Try.prog 73 = true := by kernel_rfl
theorem ok74 : fnOK Try.prog 74 = true := by kernel_rfl
theorem ok75 : fnOK Try.prog 75 = true := by kernel_rfl
theorem ok76 : fnOK Try.prog 76 = true := by kernel_rfl
theorem ok77 : fnOK Try.prog 77 = true := by kernel_rfl
theorem ok85 : fnOK Try.prog 85 = true := by kernel_rfl
theorem ok86 : fnOK Try.prog 86 = true := by kernel_rfl
theorem ok94 : fnOK Try.prog 94 = true := by kernel_rfl
theorem ok100 : fnOK Try.prog 100 = true := by kernel_rfl
theorem ok101 : fnOK Try.prog 101 = true := by kernel_rfl
theorem ok102 : fnOK Try.prog 102 = true := by kernel_rfl
theorem ok103 : fnOK Try.prog 103 = true := by kernel_rfl
theorem ok104 : fnOK Try.prog 104 = true := by kernel_rfl
theorem ok105 : fnOK Try.prog 105 = true := by kernel_rfl
theorem ok106 : fnOK Try.prog 106 = true := by kernel_rfl
theorem ok107 : fnOK Try.prog 107 = true := by kernel_rfl
theorem ok108 : fnOK Try.prog 108 = true := by kernel_rfl
theorem ok109 : fnOK Try.prog 109 = true := by kernel_rfl
theorem ok110 : fnOK Try.prog 110 = true := by kernel_rfl
theorem ok111 : fnOK Try.prog 111 = true := by kernel_rfl
theorem ok112 : fnOK Try.prog 112 = true := by kernel_rfl
theorem ok113 : fnOK Try.prog 113 = true := by kernel_rfl
theorem ok114 : fnOK Try.prog 114 = true := by kernel_rfl
theorem ok123 : fnOK Try.prog 123 = true := by kernel_rfl
theorem ok124 : fnOK Try.prog 124 = true := by kernel_rfl
theorem ok132 : fnOK Try.prog 132 = true := by kernel_rfl
theorem ok133 : fnOK Try.prog 133 = true := by kernel_rfl
theorem ok134 : fnOK Try.prog 134 = true := by kernel_rfl
theorem ok135 : fnOK Try.prog 135 = true := by kernel_rfl
theorem ok136 : fnOK Try.prog 136 = true := by kernel_rfl
theorem ok137 : fnOK Try.prog 137 = true := by kernel_rfl
theorem ok138 : fnOK Try.prog 138 = true := by kernel_rfl
theorem ok139 : fnOK Try.prog 139 = true := by kernel_rfl
theorem ok140 : fnOK Try.prog 140 = true := by kernel_rfl
theorem ok141 : fnOK Try.prog 141 = true := by kernel_rfl
theorem ok153 : fnOK Try.prog 153 = true := by kernel_rfl
theorem ok154 : fnOK Try.prog 154 = true := by kernel_rfl
theorem ok155 : fnOK Try.prog 155 = true := by kernel_rfl
theorem ok156 : fnOK Try.prog 156 = true := by kernel_rfl
theorem ok158 : fnOK Try.prog 158 = true := by kernel_rfl
theorem ok159 : fnOK Try.prog 159 = true := by kernel_rfl
theorem ok160 : fnOK Try.prog 160 = true := by kernel_rfl
theorem ok161 : fnOK Try.prog 161 = true := by kernel_rfl
theorem ok162 : fnOK Try.prog 162 = true := by kernel_rfl
theorem ok163 : fnOK Try.prog 163 = true := by kernel_rfl
theorem ok164 : fnOK Try.prog 164 = true := by kernel_rfl
theorem ok165 : fnOK Try.prog 165 = true := by kernel_rfl
theorem ok166 : fnOK Try.prog 166 = true := by kernel_rfl
theorem ok170 : fnOK Try.prog 170 = true := by kernel_rfl
theorem ok172 : fnOK Try.prog 172 = true := by kernel_rfl
theorem ok173 : fnOK Try.prog 173 = true := by kernel_rfl
theorem ok174 : fnOK Try.prog 174 = true := by kernel_rfl
theorem ok175 : fnOK Try.prog 175 = true := by kernel_rfl
theorem ok178 : fnOK Try.prog 178 = true := by kernel_rfl
theorem ok180 : fnOK Try.prog 180 = true := by kernel_rfl
attribute [go_sem] ft0 ft1 ft2 ft3 ft4 ft5 ft6 ft7 ft8 ft9 ft10 ft11 ft12 ft13
  ft14 ft15 ft16 ft17 ft18 ft19 ft20 ft21 ft22 ft23 ft24 ft25 ft26 ft27
  ft28 ft29 ft30 ft31 ft32 ft33 ft34 ft35 ft36 ft37 ft38 ft39 ft40 ft41
  ft42 ft43 ft44 ft45 ft46 ft47 ft48 ft49 ft50 ft51 ft52 ft53 ft54 ft55
  ft56 ft57 ft58 ft59 ft60 ft61 ft62 ft63 ft64 ft65 ft66 ft67 ft68 ft69
  ft70 ft71 ft72 ft73 ft74 ft75 ft76 ft77 ft78 ft79 ft80 ft81 ft82 ft83
  ft84 ft85 ft86 ft87 ft88 ft89 ft90 ft91 ft92 ft93 ft94 ft95 ft96 ft97
  ft98 ft99 ft100 ft101 ft102 ft103 ft104 ft105 ft106 ft107 ft108 ft109 ft110 ft111
  ft112 ft113 ft114 ft115 ft116 ft117 ft118 ft119 ft120 ft121 ft122 ft123 ft124 ft125
  ft126 ft127 ft128 ft129 ft130 ft131 ft132 ft133 ft134 ft135 ft136 ft137 ft138 ft139
  ft140 ft141 ft142 ft143 ft144 ft145 ft146 ft147 ft148 ft149 ft150 ft151 ft152 ft153
  ft154 ft155 ft156 ft157 ft158 ft159 ft160 ft161 ft162 ft163 ft164 ft165 ft166 ft167
  ft168 ft169 ft170 ft171 ft172 ft173 ft174 ft175 ft176 ft177 ft178 ft179 ft180 ft181
  ft182 ft184 ft185 ft186 ft188 ft189 ft190 ft191 ft192 ft193 ft195 ft196 ft198 ft199
  ft200 ft201 ft202 ft203 ft204 ft205 ft206 ft207 ft208 ft209 ft210 ft211 ft212 ft213
  ft214 ft215 ft216 ft217 ft218 ft219 ft220 ft221 ft222 ft223 ft224 ft225 Try.f3 Try.f4
  Try.f8 Try.f9 Try.f10 Try.f11 Try.f12 Try.f13 Try.f14 Try.f25 Try.f26 Try.f27 Try.f28 Try.f29 Try.f30 Try.f31
  Try.f32 Try.f33 Try.f34 Try.f35 Try.f36 Try.f37 Try.f38 Try.f49 Try.f51 Try.f59 Try.f60 Try.f61 Try.f62 Try.f63
  Try.f64 Try.f65 Try.f66 Try.f67 Try.f68 Try.f69 Try.f70 Try.f71 Try.f72 Try.f73 Try.f74 Try.f75 Try.f76 Try.f77
  Try.f85 Try.f86 Try.f94 Try.f100 Try.f101 Try.f102 Try.f103 Try.f104 Try.f105 Try.f106 Try.f107 Try.f108 Try.f109 Try.f110
  Try.f111 Try.f112 Try.f113 Try.f114 Try.f123 Try.f124 Try.f132 Try.f133 Try.f134 Try.f135 Try.f136 Try.f137 Try.f138 Try.f139
  Try.f140 Try.f141 Try.f153 Try.f154 Try.f155 Try.f156 Try.f158 Try.f159 Try.f160 Try.f161 Try.f162 Try.f163 Try.f164 Try.f165
  Try.f166 Try.f170 Try.f172 Try.f173 Try.f174 Try.f175 Try.f178 Try.f180
end Go.Proofs.Ytjjjidcbokbhpaa.CtF
