/- Contracts of functions of the program, one behind the other, as plain data: what each call returns and which blocks it leaves. -/
import Derived.Test.YtclgjiffpijgmaaChecked
import Derived.KernelRfl
import Derived.Test.YtclgjiffpijgmaaAc
set_option linter.unusedVariables false
set_option linter.unusedSimpArgs false
namespace Go.Proofs.Ytclgjiffpijgmaa.CtF
open Go Go.CT

theorem mo : Try.prog.follows .mixedOrders = true := by kernel_rfl
theorem drvZ {m nt : Nat} {f : FuncId} {R : D → List (Option (List C)) → Prop} {r : Option Rg} {k : List Item} {S : Ms} {fn : Func} (hfn : Try.prog.funcs[f]? = some fn) (h : drv Try.prog m f nt R fn.results.toList 12 r k S) : XK Try.prog m f nt R r k S :=
  drv_sound hfn mo rfl 12 r k S h
theorem drvL {m nt : Nat} {f : FuncId} {R : D → List (Option (List C)) → Prop} {k : List Item} {S : Ms} {fn : Func} (hfn : Try.prog.funcs[f]? = some fn) (h : drv Try.prog m f nt R fn.results.toList 12 none k S) : Go Try.prog m f nt R k S :=
  drv_sound hfn mo rfl 12 none k S h
theorem dcZ {f : FuncId} {R : D → List (Option (List C)) → Prop} {args : List D} {h : List (Option (List C))} {fn : Func} {c : Code} (hf : Try.prog.funcs[f]? = some fn)
    (hg : drv Try.prog h.length f fn.ntmps R fn.results.toList 12 none [.code c] ⟨ofArgs 0 args, hpL h, h.length⟩) (hb : fn.body = some c := by rfl) (hn : args.length ≤ fn.ntmps := by simp) : DC Try.prog f args h R :=
  dc_of_go hf hb hn (drv_sound hf mo rfl 12 none _ _ hg)
theorem sz0 : tsz Try.prog 0 = some 1 := by kernel_rfl
theorem by0 : tbytes Try.prog 0 = some 0 := by kernel_rfl
theorem ag0 : tagg Try.prog 0 = some false := by kernel_rfl
theorem tb0 : tbool Try.prog 0 = false := by kernel_rfl
theorem ts0 : tstring Try.prog 0 = false := by kernel_rfl
theorem sl0 : tslice Try.prog 0 = none := by kernel_rfl
theorem sz1 : tsz Try.prog 1 = some 1 := by kernel_rfl
theorem by1 : tbytes Try.prog 1 = some 8 := by kernel_rfl
theorem ag1 : tagg Try.prog 1 = some false := by kernel_rfl
theorem tb1 : tbool Try.prog 1 = false := by kernel_rfl
theorem ts1 : tstring Try.prog 1 = false := by kernel_rfl
theorem sl1 : tslice Try.prog 1 = none := by kernel_rfl
theorem ze1 : tzero Try.prog 1 = some [.nilFunc] := by kernel_rfl
theorem sz2 : tsz Try.prog 2 = some 1 := by kernel_rfl
theorem by2 : tbytes Try.prog 2 = some 8 := by kernel_rfl
theorem ag2 : tagg Try.prog 2 = some false := by kernel_rfl
theorem tb2 : tbool Try.prog 2 = false := by kernel_rfl
theorem ts2 : tstring Try.prog 2 = false := by kernel_rfl
theorem sl2 : tslice Try.prog 2 = none := by kernel_rfl
theorem un2 : Try.prog.underlying 2 = some (.int .i64) := by kernel_rfl
theorem ze2 : tzero Try.prog 2 = some [.int .i64 0] := by kernel_rfl
theorem sz3 : tsz Try.prog 3 = some 1 := by kernel_rfl
theorem by3 : tbytes Try.prog 3 = some 8 := by kernel_rfl
theorem ag3 : tagg Try.prog 3 = some false := by kernel_rfl
theorem tb3 : tbool Try.prog 3 = false := by kernel_rfl
theorem ts3 : tstring Try.prog 3 = false := by kernel_rfl
theorem sl3 : tslice Try.prog 3 = none := by kernel_rfl
theorem un3 : Try.prog.underlying 3 = some (.int .i64) := by kernel_rfl
theorem ze3 : tzero Try.prog 3 = some [.int .i64 0] := by kernel_rfl
theorem sz4 : tsz Try.prog 4 = some 1 := by kernel_rfl
theorem by4 : tbytes Try.prog 4 = some 1 := by kernel_rfl
theorem ag4 : tagg Try.prog 4 = some false := by kernel_rfl
theorem tb4 : tbool Try.prog 4 = true := by kernel_rfl
theorem ts4 : tstring Try.prog 4 = false := by kernel_rfl
theorem sl4 : tslice Try.prog 4 = none := by kernel_rfl
theorem ze4 : tzero Try.prog 4 = some [.bool false] := by kernel_rfl
theorem sz5 : tsz Try.prog 5 = some 1 := by kernel_rfl
theorem by5 : tbytes Try.prog 5 = some 1 := by kernel_rfl
theorem ag5 : tagg Try.prog 5 = some false := by kernel_rfl
theorem tb5 : tbool Try.prog 5 = false := by kernel_rfl
theorem ts5 : tstring Try.prog 5 = false := by kernel_rfl
theorem sl5 : tslice Try.prog 5 = none := by kernel_rfl
theorem un5 : Try.prog.underlying 5 = some (.int .u8) := by kernel_rfl
theorem ze5 : tzero Try.prog 5 = some [.int .u8 0] := by kernel_rfl
theorem sz6 : tsz Try.prog 6 = some 1 := by kernel_rfl
theorem by6 : tbytes Try.prog 6 = some 1 := by kernel_rfl
theorem ag6 : tagg Try.prog 6 = some false := by kernel_rfl
theorem tb6 : tbool Try.prog 6 = false := by kernel_rfl
theorem ts6 : tstring Try.prog 6 = false := by kernel_rfl
theorem sl6 : tslice Try.prog 6 = none := by kernel_rfl
theorem un6 : Try.prog.underlying 6 = some (.int .u8) := by kernel_rfl
theorem ze6 : tzero Try.prog 6 = some [.int .u8 0] := by kernel_rfl
theorem sz7 : tsz Try.prog 7 = some 4 := by kernel_rfl
theorem by7 : tbytes Try.prog 7 = some 24 := by kernel_rfl
theorem ag7 : tagg Try.prog 7 = some true := by kernel_rfl
theorem tb7 : tbool Try.prog 7 = false := by kernel_rfl
theorem ts7 : tstring Try.prog 7 = false := by kernel_rfl
theorem sl7 : tslice Try.prog 7 = none := by kernel_rfl
theorem ze7 : tzero Try.prog 7 = some [.int .i64 0, .int .i64 0, .bool false, .int .u8 0] := by kernel_rfl
theorem st7 : tstruct Try.prog 7 = some [.int .i64 0, .int .i64 0, .bool false, .int .u8 0] := by kernel_rfl
theorem fl7_0 : tfield Try.prog 7 0 = some (0, 2) := by kernel_rfl
theorem fl7_1 : tfield Try.prog 7 1 = some (1, 3) := by kernel_rfl
theorem fl7_2 : tfield Try.prog 7 2 = some (2, 4) := by kernel_rfl
theorem fl7_3 : tfield Try.prog 7 3 = some (3, 6) := by kernel_rfl
theorem sz8 : tsz Try.prog 8 = some 4 := by kernel_rfl
theorem by8 : tbytes Try.prog 8 = some 24 := by kernel_rfl
theorem ag8 : tagg Try.prog 8 = some true := by kernel_rfl
theorem tb8 : tbool Try.prog 8 = false := by kernel_rfl
theorem ts8 : tstring Try.prog 8 = false := by kernel_rfl
theorem sl8 : tslice Try.prog 8 = none := by kernel_rfl
theorem ze8 : tzero Try.prog 8 = some [.int .i64 0, .int .i64 0, .bool false, .int .u8 0] := by kernel_rfl
theorem st8 : tstruct Try.prog 8 = some [.int .i64 0, .int .i64 0, .bool false, .int .u8 0] := by kernel_rfl
theorem fl8_0 : tfield Try.prog 8 0 = some (0, 2) := by kernel_rfl
theorem fl8_1 : tfield Try.prog 8 1 = some (1, 3) := by kernel_rfl
theorem fl8_2 : tfield Try.prog 8 2 = some (2, 4) := by kernel_rfl
theorem fl8_3 : tfield Try.prog 8 3 = some (3, 6) := by kernel_rfl
theorem sz9 : tsz Try.prog 9 = some 1 := by kernel_rfl
theorem by9 : tbytes Try.prog 9 = some 16 := by kernel_rfl
theorem ag9 : tagg Try.prog 9 = some false := by kernel_rfl
theorem tb9 : tbool Try.prog 9 = false := by kernel_rfl
theorem ts9 : tstring Try.prog 9 = true := by kernel_rfl
theorem sl9 : tslice Try.prog 9 = none := by kernel_rfl
theorem ze9 : tzero Try.prog 9 = some [.string .empty] := by kernel_rfl
theorem sz10 : tsz Try.prog 10 = some 1 := by kernel_rfl
theorem by10 : tbytes Try.prog 10 = some 16 := by kernel_rfl
theorem ag10 : tagg Try.prog 10 = some false := by kernel_rfl
theorem tb10 : tbool Try.prog 10 = false := by kernel_rfl
theorem ts10 : tstring Try.prog 10 = true := by kernel_rfl
theorem sl10 : tslice Try.prog 10 = none := by kernel_rfl
theorem ze10 : tzero Try.prog 10 = some [.string .empty] := by kernel_rfl
theorem sz11 : tsz Try.prog 11 = some 1 := by kernel_rfl
theorem by11 : tbytes Try.prog 11 = some 16 := by kernel_rfl
theorem ag11 : tagg Try.prog 11 = some false := by kernel_rfl
theorem tb11 : tbool Try.prog 11 = false := by kernel_rfl
theorem ts11 : tstring Try.prog 11 = true := by kernel_rfl
theorem sl11 : tslice Try.prog 11 = none := by kernel_rfl
theorem ze11 : tzero Try.prog 11 = some [.string .empty] := by kernel_rfl
theorem sz12 : tsz Try.prog 12 = some 1 := by kernel_rfl
theorem by12 : tbytes Try.prog 12 = some 8 := by kernel_rfl
theorem ag12 : tagg Try.prog 12 = some false := by kernel_rfl
theorem tb12 : tbool Try.prog 12 = false := by kernel_rfl
theorem ts12 : tstring Try.prog 12 = false := by kernel_rfl
theorem sl12 : tslice Try.prog 12 = none := by kernel_rfl
theorem un12 : Try.prog.underlying 12 = some (.int .u64) := by kernel_rfl
theorem ze12 : tzero Try.prog 12 = some [.int .u64 0] := by kernel_rfl
theorem sz13 : tsz Try.prog 13 = some 2 := by kernel_rfl
theorem by13 : tbytes Try.prog 13 = some 24 := by kernel_rfl
theorem ag13 : tagg Try.prog 13 = some true := by kernel_rfl
theorem tb13 : tbool Try.prog 13 = false := by kernel_rfl
theorem ts13 : tstring Try.prog 13 = false := by kernel_rfl
theorem sl13 : tslice Try.prog 13 = none := by kernel_rfl
theorem ze13 : tzero Try.prog 13 = some [.string .empty, .int .u64 0] := by kernel_rfl
theorem st13 : tstruct Try.prog 13 = some [.string .empty, .int .u64 0] := by kernel_rfl
theorem fl13_0 : tfield Try.prog 13 0 = some (0, 9) := by kernel_rfl
theorem fl13_1 : tfield Try.prog 13 1 = some (1, 12) := by kernel_rfl
theorem sz14 : tsz Try.prog 14 = some 2 := by kernel_rfl
theorem by14 : tbytes Try.prog 14 = some 24 := by kernel_rfl
theorem ag14 : tagg Try.prog 14 = some true := by kernel_rfl
theorem tb14 : tbool Try.prog 14 = false := by kernel_rfl
theorem ts14 : tstring Try.prog 14 = false := by kernel_rfl
theorem sl14 : tslice Try.prog 14 = none := by kernel_rfl
theorem ze14 : tzero Try.prog 14 = some [.string .empty, .int .u64 0] := by kernel_rfl
theorem st14 : tstruct Try.prog 14 = some [.string .empty, .int .u64 0] := by kernel_rfl
theorem fl14_0 : tfield Try.prog 14 0 = some (0, 9) := by kernel_rfl
theorem fl14_1 : tfield Try.prog 14 1 = some (1, 12) := by kernel_rfl
theorem sz15 : tsz Try.prog 15 = some 1 := by kernel_rfl
theorem by15 : tbytes Try.prog 15 = some 8 := by kernel_rfl
theorem ag15 : tagg Try.prog 15 = some false := by kernel_rfl
theorem tb15 : tbool Try.prog 15 = false := by kernel_rfl
theorem ts15 : tstring Try.prog 15 = false := by kernel_rfl
theorem sl15 : tslice Try.prog 15 = none := by kernel_rfl
theorem ze15 : tzero Try.prog 15 = some [.pointer none] := by kernel_rfl
theorem sz16 : tsz Try.prog 16 = some 1 := by kernel_rfl
theorem by16 : tbytes Try.prog 16 = some 8 := by kernel_rfl
theorem ag16 : tagg Try.prog 16 = some false := by kernel_rfl
theorem tb16 : tbool Try.prog 16 = false := by kernel_rfl
theorem ts16 : tstring Try.prog 16 = false := by kernel_rfl
theorem sl16 : tslice Try.prog 16 = none := by kernel_rfl
theorem ze16 : tzero Try.prog 16 = some [.pointer none] := by kernel_rfl
theorem sz17 : tsz Try.prog 17 = some 1 := by kernel_rfl
theorem by17 : tbytes Try.prog 17 = some 8 := by kernel_rfl
theorem ag17 : tagg Try.prog 17 = some false := by kernel_rfl
theorem tb17 : tbool Try.prog 17 = false := by kernel_rfl
theorem ts17 : tstring Try.prog 17 = false := by kernel_rfl
theorem sl17 : tslice Try.prog 17 = none := by kernel_rfl
theorem ze17 : tzero Try.prog 17 = some [.pointer none] := by kernel_rfl
theorem sz18 : tsz Try.prog 18 = some 1 := by kernel_rfl
theorem by18 : tbytes Try.prog 18 = some 8 := by kernel_rfl
theorem ag18 : tagg Try.prog 18 = some true := by kernel_rfl
theorem tb18 : tbool Try.prog 18 = false := by kernel_rfl
theorem ts18 : tstring Try.prog 18 = false := by kernel_rfl
theorem sl18 : tslice Try.prog 18 = none := by kernel_rfl
theorem ze18 : tzero Try.prog 18 = some [.pointer none] := by kernel_rfl
theorem st18 : tstruct Try.prog 18 = some [.pointer none] := by kernel_rfl
theorem fl18_0 : tfield Try.prog 18 0 = some (0, 17) := by kernel_rfl
theorem sz19 : tsz Try.prog 19 = some 1 := by kernel_rfl
theorem by19 : tbytes Try.prog 19 = some 8 := by kernel_rfl
theorem ag19 : tagg Try.prog 19 = some true := by kernel_rfl
theorem tb19 : tbool Try.prog 19 = false := by kernel_rfl
theorem ts19 : tstring Try.prog 19 = false := by kernel_rfl
theorem sl19 : tslice Try.prog 19 = none := by kernel_rfl
theorem ze19 : tzero Try.prog 19 = some [.pointer none] := by kernel_rfl
theorem st19 : tstruct Try.prog 19 = some [.pointer none] := by kernel_rfl
theorem fl19_0 : tfield Try.prog 19 0 = some (0, 17) := by kernel_rfl
theorem sz20 : tsz Try.prog 20 = some 1 := by kernel_rfl
theorem by20 : tbytes Try.prog 20 = some 16 := by kernel_rfl
theorem ag20 : tagg Try.prog 20 = some false := by kernel_rfl
theorem tb20 : tbool Try.prog 20 = false := by kernel_rfl
theorem ts20 : tstring Try.prog 20 = false := by kernel_rfl
theorem sl20 : tslice Try.prog 20 = none := by kernel_rfl
theorem ze20 : tzero Try.prog 20 = some [.nilIface] := by kernel_rfl
theorem sz21 : tsz Try.prog 21 = some 1 := by kernel_rfl
theorem by21 : tbytes Try.prog 21 = some 4 := by kernel_rfl
theorem ag21 : tagg Try.prog 21 = some false := by kernel_rfl
theorem tb21 : tbool Try.prog 21 = false := by kernel_rfl
theorem ts21 : tstring Try.prog 21 = false := by kernel_rfl
theorem sl21 : tslice Try.prog 21 = none := by kernel_rfl
theorem un21 : Try.prog.underlying 21 = some (.int .i32) := by kernel_rfl
theorem ze21 : tzero Try.prog 21 = some [.int .i32 0] := by kernel_rfl
theorem sz22 : tsz Try.prog 22 = some 1 := by kernel_rfl
theorem by22 : tbytes Try.prog 22 = some 24 := by kernel_rfl
theorem ag22 : tagg Try.prog 22 = some false := by kernel_rfl
theorem tb22 : tbool Try.prog 22 = false := by kernel_rfl
theorem ts22 : tstring Try.prog 22 = false := by kernel_rfl
theorem sl22 : tslice Try.prog 22 = some 5 := by kernel_rfl
theorem ze22 : tzero Try.prog 22 = some [.slice none 0 0] := by kernel_rfl
theorem sz23 : tsz Try.prog 23 = some 1 := by kernel_rfl
theorem by23 : tbytes Try.prog 23 = some 24 := by kernel_rfl
theorem ag23 : tagg Try.prog 23 = some false := by kernel_rfl
theorem tb23 : tbool Try.prog 23 = false := by kernel_rfl
theorem ts23 : tstring Try.prog 23 = false := by kernel_rfl
theorem sl23 : tslice Try.prog 23 = some 3 := by kernel_rfl
theorem ze23 : tzero Try.prog 23 = some [.slice none 0 0] := by kernel_rfl
theorem sz24 : tsz Try.prog 24 = some 1 := by kernel_rfl
theorem by24 : tbytes Try.prog 24 = some 24 := by kernel_rfl
theorem ag24 : tagg Try.prog 24 = some false := by kernel_rfl
theorem tb24 : tbool Try.prog 24 = false := by kernel_rfl
theorem ts24 : tstring Try.prog 24 = false := by kernel_rfl
theorem sl24 : tslice Try.prog 24 = some 80 := by kernel_rfl
theorem ze24 : tzero Try.prog 24 = some [.slice none 0 0] := by kernel_rfl
theorem sz25 : tsz Try.prog 25 = some 3 := by kernel_rfl
theorem by25 : tbytes Try.prog 25 = some 72 := by kernel_rfl
theorem ag25 : tagg Try.prog 25 = some true := by kernel_rfl
theorem tb25 : tbool Try.prog 25 = false := by kernel_rfl
theorem ts25 : tstring Try.prog 25 = false := by kernel_rfl
theorem sl25 : tslice Try.prog 25 = none := by kernel_rfl
theorem ze25 : tzero Try.prog 25 = some [.slice none 0 0, .slice none 0 0, .slice none 0 0] := by kernel_rfl
theorem st25 : tstruct Try.prog 25 = some [.slice none 0 0, .slice none 0 0, .slice none 0 0] := by kernel_rfl
theorem fl25_0 : tfield Try.prog 25 0 = some (0, 23) := by kernel_rfl
theorem fl25_1 : tfield Try.prog 25 1 = some (1, 23) := by kernel_rfl
theorem fl25_2 : tfield Try.prog 25 2 = some (2, 24) := by kernel_rfl
theorem sz26 : tsz Try.prog 26 = some 3 := by kernel_rfl
theorem by26 : tbytes Try.prog 26 = some 72 := by kernel_rfl
theorem ag26 : tagg Try.prog 26 = some true := by kernel_rfl
theorem tb26 : tbool Try.prog 26 = false := by kernel_rfl
theorem ts26 : tstring Try.prog 26 = false := by kernel_rfl
theorem sl26 : tslice Try.prog 26 = none := by kernel_rfl
theorem ze26 : tzero Try.prog 26 = some [.slice none 0 0, .slice none 0 0, .slice none 0 0] := by kernel_rfl
theorem st26 : tstruct Try.prog 26 = some [.slice none 0 0, .slice none 0 0, .slice none 0 0] := by kernel_rfl
theorem fl26_0 : tfield Try.prog 26 0 = some (0, 23) := by kernel_rfl
theorem fl26_1 : tfield Try.prog 26 1 = some (1, 23) := by kernel_rfl
theorem fl26_2 : tfield Try.prog 26 2 = some (2, 24) := by kernel_rfl
theorem sz27 : tsz Try.prog 27 = some 1 := by kernel_rfl
theorem by27 : tbytes Try.prog 27 = some 8 := by kernel_rfl
theorem ag27 : tagg Try.prog 27 = some false := by kernel_rfl
theorem tb27 : tbool Try.prog 27 = false := by kernel_rfl
theorem ts27 : tstring Try.prog 27 = false := by kernel_rfl
theorem sl27 : tslice Try.prog 27 = none := by kernel_rfl
theorem ze27 : tzero Try.prog 27 = some [.nilFunc] := by kernel_rfl
theorem sz28 : tsz Try.prog 28 = some 1 := by kernel_rfl
theorem by28 : tbytes Try.prog 28 = some 24 := by kernel_rfl
theorem ag28 : tagg Try.prog 28 = some false := by kernel_rfl
theorem tb28 : tbool Try.prog 28 = false := by kernel_rfl
theorem ts28 : tstring Try.prog 28 = false := by kernel_rfl
theorem sl28 : tslice Try.prog 28 = some 31 := by kernel_rfl
theorem ze28 : tzero Try.prog 28 = some [.slice none 0 0] := by kernel_rfl
theorem sz29 : tsz Try.prog 29 = some 1 := by kernel_rfl
theorem by29 : tbytes Try.prog 29 = some 8 := by kernel_rfl
theorem ag29 : tagg Try.prog 29 = some false := by kernel_rfl
theorem tb29 : tbool Try.prog 29 = false := by kernel_rfl
theorem ts29 : tstring Try.prog 29 = false := by kernel_rfl
theorem sl29 : tslice Try.prog 29 = none := by kernel_rfl
theorem ze29 : tzero Try.prog 29 = some [.nilFunc] := by kernel_rfl
theorem sz30 : tsz Try.prog 30 = some 1 := by kernel_rfl
theorem by30 : tbytes Try.prog 30 = some 8 := by kernel_rfl
theorem ag30 : tagg Try.prog 30 = some false := by kernel_rfl
theorem tb30 : tbool Try.prog 30 = false := by kernel_rfl
theorem ts30 : tstring Try.prog 30 = false := by kernel_rfl
theorem sl30 : tslice Try.prog 30 = none := by kernel_rfl
theorem ze30 : tzero Try.prog 30 = some [.nilFunc] := by kernel_rfl
theorem sz31 : tsz Try.prog 31 = some 1 := by kernel_rfl
theorem by31 : tbytes Try.prog 31 = some 24 := by kernel_rfl
theorem ag31 : tagg Try.prog 31 = some false := by kernel_rfl
theorem tb31 : tbool Try.prog 31 = false := by kernel_rfl
theorem ts31 : tstring Try.prog 31 = false := by kernel_rfl
theorem sl31 : tslice Try.prog 31 = some 4 := by kernel_rfl
theorem ze31 : tzero Try.prog 31 = some [.slice none 0 0] := by kernel_rfl
theorem sz32 : tsz Try.prog 32 = some 1 := by kernel_rfl
theorem by32 : tbytes Try.prog 32 = some 8 := by kernel_rfl
theorem ag32 : tagg Try.prog 32 = some false := by kernel_rfl
theorem tb32 : tbool Try.prog 32 = false := by kernel_rfl
theorem ts32 : tstring Try.prog 32 = false := by kernel_rfl
theorem sl32 : tslice Try.prog 32 = none := by kernel_rfl
theorem ze32 : tzero Try.prog 32 = some [.nilFunc] := by kernel_rfl
theorem sz33 : tsz Try.prog 33 = some 1 := by kernel_rfl
theorem by33 : tbytes Try.prog 33 = some 0 := by kernel_rfl
theorem ag33 : tagg Try.prog 33 = some false := by kernel_rfl
theorem tb33 : tbool Try.prog 33 = false := by kernel_rfl
theorem ts33 : tstring Try.prog 33 = false := by kernel_rfl
theorem sl33 : tslice Try.prog 33 = none := by kernel_rfl
theorem sz34 : tsz Try.prog 34 = some 1 := by kernel_rfl
theorem by34 : tbytes Try.prog 34 = some 8 := by kernel_rfl
theorem ag34 : tagg Try.prog 34 = some false := by kernel_rfl
theorem tb34 : tbool Try.prog 34 = false := by kernel_rfl
theorem ts34 : tstring Try.prog 34 = false := by kernel_rfl
theorem sl34 : tslice Try.prog 34 = none := by kernel_rfl
theorem ze34 : tzero Try.prog 34 = some [.nilFunc] := by kernel_rfl
theorem sz35 : tsz Try.prog 35 = some 1 := by kernel_rfl
theorem by35 : tbytes Try.prog 35 = some 8 := by kernel_rfl
theorem ag35 : tagg Try.prog 35 = some false := by kernel_rfl
theorem tb35 : tbool Try.prog 35 = false := by kernel_rfl
theorem ts35 : tstring Try.prog 35 = false := by kernel_rfl
theorem sl35 : tslice Try.prog 35 = none := by kernel_rfl
theorem ze35 : tzero Try.prog 35 = some [.nilFunc] := by kernel_rfl
theorem sz36 : tsz Try.prog 36 = some 1 := by kernel_rfl
theorem by36 : tbytes Try.prog 36 = some 24 := by kernel_rfl
theorem ag36 : tagg Try.prog 36 = some false := by kernel_rfl
theorem tb36 : tbool Try.prog 36 = false := by kernel_rfl
theorem ts36 : tstring Try.prog 36 = false := by kernel_rfl
theorem sl36 : tslice Try.prog 36 = some 23 := by kernel_rfl
theorem ze36 : tzero Try.prog 36 = some [.slice none 0 0] := by kernel_rfl
theorem sz37 : tsz Try.prog 37 = some 2 := by kernel_rfl
theorem by37 : tbytes Try.prog 37 = some 48 := by kernel_rfl
theorem ag37 : tagg Try.prog 37 = some true := by kernel_rfl
theorem tb37 : tbool Try.prog 37 = false := by kernel_rfl
theorem ts37 : tstring Try.prog 37 = false := by kernel_rfl
theorem sl37 : tslice Try.prog 37 = none := by kernel_rfl
theorem ze37 : tzero Try.prog 37 = some [.slice none 0 0, .slice none 0 0] := by kernel_rfl
theorem st37 : tstruct Try.prog 37 = some [.slice none 0 0, .slice none 0 0] := by kernel_rfl
theorem fl37_0 : tfield Try.prog 37 0 = some (0, 23) := by kernel_rfl
theorem fl37_1 : tfield Try.prog 37 1 = some (1, 36) := by kernel_rfl
theorem sz38 : tsz Try.prog 38 = some 2 := by kernel_rfl
theorem by38 : tbytes Try.prog 38 = some 48 := by kernel_rfl
theorem ag38 : tagg Try.prog 38 = some true := by kernel_rfl
theorem tb38 : tbool Try.prog 38 = false := by kernel_rfl
theorem ts38 : tstring Try.prog 38 = false := by kernel_rfl
theorem sl38 : tslice Try.prog 38 = none := by kernel_rfl
theorem ze38 : tzero Try.prog 38 = some [.slice none 0 0, .slice none 0 0] := by kernel_rfl
theorem st38 : tstruct Try.prog 38 = some [.slice none 0 0, .slice none 0 0] := by kernel_rfl
theorem fl38_0 : tfield Try.prog 38 0 = some (0, 23) := by kernel_rfl
theorem fl38_1 : tfield Try.prog 38 1 = some (1, 36) := by kernel_rfl
theorem sz39 : tsz Try.prog 39 = some 1 := by kernel_rfl
theorem by39 : tbytes Try.prog 39 = some 0 := by kernel_rfl
theorem ag39 : tagg Try.prog 39 = some false := by kernel_rfl
theorem tb39 : tbool Try.prog 39 = false := by kernel_rfl
theorem ts39 : tstring Try.prog 39 = false := by kernel_rfl
theorem sl39 : tslice Try.prog 39 = none := by kernel_rfl
theorem sz40 : tsz Try.prog 40 = some 1 := by kernel_rfl
theorem by40 : tbytes Try.prog 40 = some 8 := by kernel_rfl
theorem ag40 : tagg Try.prog 40 = some false := by kernel_rfl
theorem tb40 : tbool Try.prog 40 = false := by kernel_rfl
theorem ts40 : tstring Try.prog 40 = false := by kernel_rfl
theorem sl40 : tslice Try.prog 40 = none := by kernel_rfl
theorem ze40 : tzero Try.prog 40 = some [.nilFunc] := by kernel_rfl
theorem sz41 : tsz Try.prog 41 = some 1 := by kernel_rfl
theorem by41 : tbytes Try.prog 41 = some 8 := by kernel_rfl
theorem ag41 : tagg Try.prog 41 = some false := by kernel_rfl
theorem tb41 : tbool Try.prog 41 = false := by kernel_rfl
theorem ts41 : tstring Try.prog 41 = false := by kernel_rfl
theorem sl41 : tslice Try.prog 41 = none := by kernel_rfl
theorem ze41 : tzero Try.prog 41 = some [.nilFunc] := by kernel_rfl
theorem sz42 : tsz Try.prog 42 = some 1 := by kernel_rfl
theorem by42 : tbytes Try.prog 42 = some 8 := by kernel_rfl
theorem ag42 : tagg Try.prog 42 = some false := by kernel_rfl
theorem tb42 : tbool Try.prog 42 = false := by kernel_rfl
theorem ts42 : tstring Try.prog 42 = false := by kernel_rfl
theorem sl42 : tslice Try.prog 42 = none := by kernel_rfl
theorem ze42 : tzero Try.prog 42 = some [.nilFunc] := by kernel_rfl
theorem sz43 : tsz Try.prog 43 = some 1 := by kernel_rfl
theorem by43 : tbytes Try.prog 43 = some 24 := by kernel_rfl
theorem ag43 : tagg Try.prog 43 = some false := by kernel_rfl
theorem tb43 : tbool Try.prog 43 = false := by kernel_rfl
theorem ts43 : tstring Try.prog 43 = false := by kernel_rfl
theorem sl43 : tslice Try.prog 43 = some 97 := by kernel_rfl
theorem ze43 : tzero Try.prog 43 = some [.slice none 0 0] := by kernel_rfl
theorem sz44 : tsz Try.prog 44 = some 1 := by kernel_rfl
theorem by44 : tbytes Try.prog 44 = some 0 := by kernel_rfl
theorem ag44 : tagg Try.prog 44 = some false := by kernel_rfl
theorem tb44 : tbool Try.prog 44 = false := by kernel_rfl
theorem ts44 : tstring Try.prog 44 = false := by kernel_rfl
theorem sl44 : tslice Try.prog 44 = none := by kernel_rfl
theorem sz45 : tsz Try.prog 45 = some 1 := by kernel_rfl
theorem by45 : tbytes Try.prog 45 = some 8 := by kernel_rfl
theorem ag45 : tagg Try.prog 45 = some false := by kernel_rfl
theorem tb45 : tbool Try.prog 45 = false := by kernel_rfl
theorem ts45 : tstring Try.prog 45 = false := by kernel_rfl
theorem sl45 : tslice Try.prog 45 = none := by kernel_rfl
theorem ze45 : tzero Try.prog 45 = some [.nilFunc] := by kernel_rfl
theorem sz46 : tsz Try.prog 46 = some 1 := by kernel_rfl
theorem by46 : tbytes Try.prog 46 = some 8 := by kernel_rfl
theorem ag46 : tagg Try.prog 46 = some false := by kernel_rfl
theorem tb46 : tbool Try.prog 46 = false := by kernel_rfl
theorem ts46 : tstring Try.prog 46 = false := by kernel_rfl
theorem sl46 : tslice Try.prog 46 = none := by kernel_rfl
theorem ze46 : tzero Try.prog 46 = some [.nilFunc] := by kernel_rfl
theorem sz47 : tsz Try.prog 47 = some 1 := by kernel_rfl
theorem by47 : tbytes Try.prog 47 = some 8 := by kernel_rfl
theorem ag47 : tagg Try.prog 47 = some false := by kernel_rfl
theorem tb47 : tbool Try.prog 47 = false := by kernel_rfl
theorem ts47 : tstring Try.prog 47 = false := by kernel_rfl
theorem sl47 : tslice Try.prog 47 = none := by kernel_rfl
theorem ze47 : tzero Try.prog 47 = some [.nilFunc] := by kernel_rfl
theorem sz48 : tsz Try.prog 48 = some 1 := by kernel_rfl
theorem by48 : tbytes Try.prog 48 = some 8 := by kernel_rfl
theorem ag48 : tagg Try.prog 48 = some false := by kernel_rfl
theorem tb48 : tbool Try.prog 48 = false := by kernel_rfl
theorem ts48 : tstring Try.prog 48 = false := by kernel_rfl
theorem sl48 : tslice Try.prog 48 = none := by kernel_rfl
theorem ze48 : tzero Try.prog 48 = some [.nilFunc] := by kernel_rfl
theorem sz49 : tsz Try.prog 49 = some 1 := by kernel_rfl
theorem by49 : tbytes Try.prog 49 = some 0 := by kernel_rfl
theorem ag49 : tagg Try.prog 49 = some false := by kernel_rfl
theorem tb49 : tbool Try.prog 49 = false := by kernel_rfl
theorem ts49 : tstring Try.prog 49 = false := by kernel_rfl
theorem sl49 : tslice Try.prog 49 = none := by kernel_rfl
theorem sz50 : tsz Try.prog 50 = some 1 := by kernel_rfl
theorem by50 : tbytes Try.prog 50 = some 8 := by kernel_rfl
theorem ag50 : tagg Try.prog 50 = some false := by kernel_rfl
theorem tb50 : tbool Try.prog 50 = false := by kernel_rfl
theorem ts50 : tstring Try.prog 50 = false := by kernel_rfl
theorem sl50 : tslice Try.prog 50 = none := by kernel_rfl
theorem ze50 : tzero Try.prog 50 = some [.nilFunc] := by kernel_rfl
theorem sz51 : tsz Try.prog 51 = some 1 := by kernel_rfl
theorem by51 : tbytes Try.prog 51 = some 8 := by kernel_rfl
theorem ag51 : tagg Try.prog 51 = some false := by kernel_rfl
theorem tb51 : tbool Try.prog 51 = false := by kernel_rfl
theorem ts51 : tstring Try.prog 51 = false := by kernel_rfl
theorem sl51 : tslice Try.prog 51 = none := by kernel_rfl
theorem ze51 : tzero Try.prog 51 = some [.nilFunc] := by kernel_rfl
theorem sz52 : tsz Try.prog 52 = some 1 := by kernel_rfl
theorem by52 : tbytes Try.prog 52 = some 8 := by kernel_rfl
theorem ag52 : tagg Try.prog 52 = some false := by kernel_rfl
theorem tb52 : tbool Try.prog 52 = false := by kernel_rfl
theorem ts52 : tstring Try.prog 52 = false := by kernel_rfl
theorem sl52 : tslice Try.prog 52 = none := by kernel_rfl
theorem ze52 : tzero Try.prog 52 = some [.nilFunc] := by kernel_rfl
theorem sz53 : tsz Try.prog 53 = some 1 := by kernel_rfl
theorem by53 : tbytes Try.prog 53 = some 0 := by kernel_rfl
theorem ag53 : tagg Try.prog 53 = some false := by kernel_rfl
theorem tb53 : tbool Try.prog 53 = false := by kernel_rfl
theorem ts53 : tstring Try.prog 53 = false := by kernel_rfl
theorem sl53 : tslice Try.prog 53 = none := by kernel_rfl
theorem sz54 : tsz Try.prog 54 = some 1 := by kernel_rfl
theorem by54 : tbytes Try.prog 54 = some 8 := by kernel_rfl
theorem ag54 : tagg Try.prog 54 = some false := by kernel_rfl
theorem tb54 : tbool Try.prog 54 = false := by kernel_rfl
theorem ts54 : tstring Try.prog 54 = false := by kernel_rfl
theorem sl54 : tslice Try.prog 54 = none := by kernel_rfl
theorem ze54 : tzero Try.prog 54 = some [.nilFunc] := by kernel_rfl
theorem sz55 : tsz Try.prog 55 = some 1 := by kernel_rfl
theorem by55 : tbytes Try.prog 55 = some 0 := by kernel_rfl
theorem ag55 : tagg Try.prog 55 = some false := by kernel_rfl
theorem tb55 : tbool Try.prog 55 = false := by kernel_rfl
theorem ts55 : tstring Try.prog 55 = false := by kernel_rfl
theorem sl55 : tslice Try.prog 55 = none := by kernel_rfl
theorem sz56 : tsz Try.prog 56 = some 1 := by kernel_rfl
theorem by56 : tbytes Try.prog 56 = some 8 := by kernel_rfl
theorem ag56 : tagg Try.prog 56 = some false := by kernel_rfl
theorem tb56 : tbool Try.prog 56 = false := by kernel_rfl
theorem ts56 : tstring Try.prog 56 = false := by kernel_rfl
theorem sl56 : tslice Try.prog 56 = none := by kernel_rfl
theorem ze56 : tzero Try.prog 56 = some [.nilFunc] := by kernel_rfl
theorem sz57 : tsz Try.prog 57 = some 1 := by kernel_rfl
theorem by57 : tbytes Try.prog 57 = some 8 := by kernel_rfl
theorem ag57 : tagg Try.prog 57 = some false := by kernel_rfl
theorem tb57 : tbool Try.prog 57 = false := by kernel_rfl
theorem ts57 : tstring Try.prog 57 = false := by kernel_rfl
theorem sl57 : tslice Try.prog 57 = none := by kernel_rfl
theorem ze57 : tzero Try.prog 57 = some [.nilFunc] := by kernel_rfl
theorem sz58 : tsz Try.prog 58 = some 1 := by kernel_rfl
theorem by58 : tbytes Try.prog 58 = some 0 := by kernel_rfl
theorem ag58 : tagg Try.prog 58 = some false := by kernel_rfl
theorem tb58 : tbool Try.prog 58 = false := by kernel_rfl
theorem ts58 : tstring Try.prog 58 = false := by kernel_rfl
theorem sl58 : tslice Try.prog 58 = none := by kernel_rfl
theorem sz59 : tsz Try.prog 59 = some 1 := by kernel_rfl
theorem by59 : tbytes Try.prog 59 = some 8 := by kernel_rfl
theorem ag59 : tagg Try.prog 59 = some false := by kernel_rfl
theorem tb59 : tbool Try.prog 59 = false := by kernel_rfl
theorem ts59 : tstring Try.prog 59 = false := by kernel_rfl
theorem sl59 : tslice Try.prog 59 = none := by kernel_rfl
theorem ze59 : tzero Try.prog 59 = some [.nilFunc] := by kernel_rfl
theorem sz60 : tsz Try.prog 60 = some 1 := by kernel_rfl
theorem by60 : tbytes Try.prog 60 = some 0 := by kernel_rfl
theorem ag60 : tagg Try.prog 60 = some false := by kernel_rfl
theorem tb60 : tbool Try.prog 60 = false := by kernel_rfl
theorem ts60 : tstring Try.prog 60 = false := by kernel_rfl
theorem sl60 : tslice Try.prog 60 = none := by kernel_rfl
theorem sz61 : tsz Try.prog 61 = some 1 := by kernel_rfl
theorem by61 : tbytes Try.prog 61 = some 8 := by kernel_rfl
theorem ag61 : tagg Try.prog 61 = some false := by kernel_rfl
theorem tb61 : tbool Try.prog 61 = false := by kernel_rfl
theorem ts61 : tstring Try.prog 61 = false := by kernel_rfl
theorem sl61 : tslice Try.prog 61 = none := by kernel_rfl
theorem ze61 : tzero Try.prog 61 = some [.nilFunc] := by kernel_rfl
theorem sz62 : tsz Try.prog 62 = some 1 := by kernel_rfl
theorem by62 : tbytes Try.prog 62 = some 8 := by kernel_rfl
theorem ag62 : tagg Try.prog 62 = some false := by kernel_rfl
theorem tb62 : tbool Try.prog 62 = false := by kernel_rfl
theorem ts62 : tstring Try.prog 62 = false := by kernel_rfl
theorem sl62 : tslice Try.prog 62 = none := by kernel_rfl
theorem ze62 : tzero Try.prog 62 = some [.nilFunc] := by kernel_rfl
theorem sz63 : tsz Try.prog 63 = some 1 := by kernel_rfl
theorem by63 : tbytes Try.prog 63 = some 0 := by kernel_rfl
theorem ag63 : tagg Try.prog 63 = some false := by kernel_rfl
theorem tb63 : tbool Try.prog 63 = false := by kernel_rfl
theorem ts63 : tstring Try.prog 63 = false := by kernel_rfl
theorem sl63 : tslice Try.prog 63 = none := by kernel_rfl
theorem sz64 : tsz Try.prog 64 = some 1 := by kernel_rfl
theorem by64 : tbytes Try.prog 64 = some 8 := by kernel_rfl
theorem ag64 : tagg Try.prog 64 = some false := by kernel_rfl
theorem tb64 : tbool Try.prog 64 = false := by kernel_rfl
theorem ts64 : tstring Try.prog 64 = false := by kernel_rfl
theorem sl64 : tslice Try.prog 64 = none := by kernel_rfl
theorem ze64 : tzero Try.prog 64 = some [.nilFunc] := by kernel_rfl
theorem sz65 : tsz Try.prog 65 = some 1 := by kernel_rfl
theorem by65 : tbytes Try.prog 65 = some 8 := by kernel_rfl
theorem ag65 : tagg Try.prog 65 = some false := by kernel_rfl
theorem tb65 : tbool Try.prog 65 = false := by kernel_rfl
theorem ts65 : tstring Try.prog 65 = false := by kernel_rfl
theorem sl65 : tslice Try.prog 65 = none := by kernel_rfl
theorem ze65 : tzero Try.prog 65 = some [.nilFunc] := by kernel_rfl
theorem sz66 : tsz Try.prog 66 = some 1 := by kernel_rfl
theorem by66 : tbytes Try.prog 66 = some 8 := by kernel_rfl
theorem ag66 : tagg Try.prog 66 = some false := by kernel_rfl
theorem tb66 : tbool Try.prog 66 = false := by kernel_rfl
theorem ts66 : tstring Try.prog 66 = false := by kernel_rfl
theorem sl66 : tslice Try.prog 66 = none := by kernel_rfl
theorem ze66 : tzero Try.prog 66 = some [.pointer none] := by kernel_rfl
theorem sz67 : tsz Try.prog 67 = some 1 := by kernel_rfl
theorem by67 : tbytes Try.prog 67 = some 0 := by kernel_rfl
theorem ag67 : tagg Try.prog 67 = some false := by kernel_rfl
theorem tb67 : tbool Try.prog 67 = false := by kernel_rfl
theorem ts67 : tstring Try.prog 67 = false := by kernel_rfl
theorem sl67 : tslice Try.prog 67 = none := by kernel_rfl
theorem sz68 : tsz Try.prog 68 = some 1 := by kernel_rfl
theorem by68 : tbytes Try.prog 68 = some 8 := by kernel_rfl
theorem ag68 : tagg Try.prog 68 = some false := by kernel_rfl
theorem tb68 : tbool Try.prog 68 = false := by kernel_rfl
theorem ts68 : tstring Try.prog 68 = false := by kernel_rfl
theorem sl68 : tslice Try.prog 68 = none := by kernel_rfl
theorem ze68 : tzero Try.prog 68 = some [.nilFunc] := by kernel_rfl
theorem sz69 : tsz Try.prog 69 = some 1 := by kernel_rfl
theorem by69 : tbytes Try.prog 69 = some 8 := by kernel_rfl
theorem ag69 : tagg Try.prog 69 = some false := by kernel_rfl
theorem tb69 : tbool Try.prog 69 = false := by kernel_rfl
theorem ts69 : tstring Try.prog 69 = false := by kernel_rfl
theorem sl69 : tslice Try.prog 69 = none := by kernel_rfl
theorem ze69 : tzero Try.prog 69 = some [.nilFunc] := by kernel_rfl
theorem sz70 : tsz Try.prog 70 = some 1 := by kernel_rfl
theorem by70 : tbytes Try.prog 70 = some 8 := by kernel_rfl
theorem ag70 : tagg Try.prog 70 = some false := by kernel_rfl
theorem tb70 : tbool Try.prog 70 = false := by kernel_rfl
theorem ts70 : tstring Try.prog 70 = false := by kernel_rfl
theorem sl70 : tslice Try.prog 70 = none := by kernel_rfl
theorem ze70 : tzero Try.prog 70 = some [.nilFunc] := by kernel_rfl
theorem sz71 : tsz Try.prog 71 = some 6 := by kernel_rfl
theorem by71 : tbytes Try.prog 71 = some 144 := by kernel_rfl
theorem ag71 : tagg Try.prog 71 = some true := by kernel_rfl
theorem tb71 : tbool Try.prog 71 = false := by kernel_rfl
theorem ts71 : tstring Try.prog 71 = false := by kernel_rfl
theorem sl71 : tslice Try.prog 71 = none := by kernel_rfl
theorem ze71 : tzero Try.prog 71 = some [.slice none 0 0, .slice none 0 0, .slice none 0 0, .slice none 0 0, .slice none 0 0, .slice none 0 0] := by kernel_rfl
theorem st71 : tstruct Try.prog 71 = some [.slice none 0 0, .slice none 0 0, .slice none 0 0, .slice none 0 0, .slice none 0 0, .slice none 0 0] := by kernel_rfl
theorem fl71_0 : tfield Try.prog 71 0 = some (0, 26) := by kernel_rfl
theorem fl71_1 : tfield Try.prog 71 1 = some (3, 28) := by kernel_rfl
theorem fl71_2 : tfield Try.prog 71 2 = some (4, 31) := by kernel_rfl
theorem fl71_3 : tfield Try.prog 71 3 = some (5, 31) := by kernel_rfl
theorem sz72 : tsz Try.prog 72 = some 6 := by kernel_rfl
theorem by72 : tbytes Try.prog 72 = some 144 := by kernel_rfl
theorem ag72 : tagg Try.prog 72 = some true := by kernel_rfl
theorem tb72 : tbool Try.prog 72 = false := by kernel_rfl
theorem ts72 : tstring Try.prog 72 = false := by kernel_rfl
theorem sl72 : tslice Try.prog 72 = none := by kernel_rfl
theorem ze72 : tzero Try.prog 72 = some [.slice none 0 0, .slice none 0 0, .slice none 0 0, .slice none 0 0, .slice none 0 0, .slice none 0 0] := by kernel_rfl
theorem st72 : tstruct Try.prog 72 = some [.slice none 0 0, .slice none 0 0, .slice none 0 0, .slice none 0 0, .slice none 0 0, .slice none 0 0] := by kernel_rfl
theorem fl72_0 : tfield Try.prog 72 0 = some (0, 26) := by kernel_rfl
theorem fl72_1 : tfield Try.prog 72 1 = some (3, 28) := by kernel_rfl
theorem fl72_2 : tfield Try.prog 72 2 = some (4, 31) := by kernel_rfl
theorem fl72_3 : tfield Try.prog 72 3 = some (5, 31) := by kernel_rfl
theorem sz73 : tsz Try.prog 73 = some 1 := by kernel_rfl
theorem by73 : tbytes Try.prog 73 = some 8 := by kernel_rfl
theorem ag73 : tagg Try.prog 73 = some false := by kernel_rfl
theorem tb73 : tbool Try.prog 73 = false := by kernel_rfl
theorem ts73 : tstring Try.prog 73 = false := by kernel_rfl
theorem sl73 : tslice Try.prog 73 = none := by kernel_rfl
theorem ze73 : tzero Try.prog 73 = some [.nilFunc] := by kernel_rfl
theorem sz74 : tsz Try.prog 74 = some 1 := by kernel_rfl
theorem by74 : tbytes Try.prog 74 = some 8 := by kernel_rfl
theorem ag74 : tagg Try.prog 74 = some false := by kernel_rfl
theorem tb74 : tbool Try.prog 74 = false := by kernel_rfl
theorem ts74 : tstring Try.prog 74 = false := by kernel_rfl
theorem sl74 : tslice Try.prog 74 = none := by kernel_rfl
theorem ze74 : tzero Try.prog 74 = some [.nilFunc] := by kernel_rfl
theorem sz75 : tsz Try.prog 75 = some 1 := by kernel_rfl
theorem by75 : tbytes Try.prog 75 = some 8 := by kernel_rfl
theorem ag75 : tagg Try.prog 75 = some false := by kernel_rfl
theorem tb75 : tbool Try.prog 75 = false := by kernel_rfl
theorem ts75 : tstring Try.prog 75 = false := by kernel_rfl
theorem sl75 : tslice Try.prog 75 = none := by kernel_rfl
theorem ze75 : tzero Try.prog 75 = some [.nilFunc] := by kernel_rfl
theorem sz76 : tsz Try.prog 76 = some 1 := by kernel_rfl
theorem by76 : tbytes Try.prog 76 = some 24 := by kernel_rfl
theorem ag76 : tagg Try.prog 76 = some false := by kernel_rfl
theorem tb76 : tbool Try.prog 76 = false := by kernel_rfl
theorem ts76 : tstring Try.prog 76 = false := by kernel_rfl
theorem sl76 : tslice Try.prog 76 = some 78 := by kernel_rfl
theorem ze76 : tzero Try.prog 76 = some [.slice none 0 0] := by kernel_rfl
theorem sz77 : tsz Try.prog 77 = some 3 := by kernel_rfl
theorem by77 : tbytes Try.prog 77 = some 40 := by kernel_rfl
theorem ag77 : tagg Try.prog 77 = some true := by kernel_rfl
theorem tb77 : tbool Try.prog 77 = false := by kernel_rfl
theorem ts77 : tstring Try.prog 77 = false := by kernel_rfl
theorem sl77 : tslice Try.prog 77 = none := by kernel_rfl
theorem ze77 : tzero Try.prog 77 = some [.int .i64 0, .int .i64 0, .slice none 0 0] := by kernel_rfl
theorem st77 : tstruct Try.prog 77 = some [.int .i64 0, .int .i64 0, .slice none 0 0] := by kernel_rfl
theorem fl77_0 : tfield Try.prog 77 0 = some (0, 3) := by kernel_rfl
theorem fl77_1 : tfield Try.prog 77 1 = some (1, 3) := by kernel_rfl
theorem fl77_2 : tfield Try.prog 77 2 = some (2, 76) := by kernel_rfl
theorem sz78 : tsz Try.prog 78 = some 3 := by kernel_rfl
theorem by78 : tbytes Try.prog 78 = some 40 := by kernel_rfl
theorem ag78 : tagg Try.prog 78 = some true := by kernel_rfl
theorem tb78 : tbool Try.prog 78 = false := by kernel_rfl
theorem ts78 : tstring Try.prog 78 = false := by kernel_rfl
theorem sl78 : tslice Try.prog 78 = none := by kernel_rfl
theorem ze78 : tzero Try.prog 78 = some [.int .i64 0, .int .i64 0, .slice none 0 0] := by kernel_rfl
theorem st78 : tstruct Try.prog 78 = some [.int .i64 0, .int .i64 0, .slice none 0 0] := by kernel_rfl
theorem fl78_0 : tfield Try.prog 78 0 = some (0, 3) := by kernel_rfl
theorem fl78_1 : tfield Try.prog 78 1 = some (1, 3) := by kernel_rfl
theorem fl78_2 : tfield Try.prog 78 2 = some (2, 76) := by kernel_rfl
theorem sz79 : tsz Try.prog 79 = some 11 := by kernel_rfl
theorem by79 : tbytes Try.prog 79 = some 152 := by kernel_rfl
theorem ag79 : tagg Try.prog 79 = some true := by kernel_rfl
theorem tb79 : tbool Try.prog 79 = false := by kernel_rfl
theorem ts79 : tstring Try.prog 79 = false := by kernel_rfl
theorem sl79 : tslice Try.prog 79 = none := by kernel_rfl
theorem ze79 : tzero Try.prog 79 = some [.int .i64 0, .int .i64 0, .int .i64 0, .int .i64 0, .slice none 0 0, .int .i64 0, .int .i64 0, .slice none 0 0, .int .i64 0, .slice none 0 0, .slice none 0 0] := by kernel_rfl
theorem st79 : tstruct Try.prog 79 = some [.int .i64 0, .int .i64 0, .int .i64 0, .int .i64 0, .slice none 0 0, .int .i64 0, .int .i64 0, .slice none 0 0, .int .i64 0, .slice none 0 0, .slice none 0 0] := by kernel_rfl
theorem fl79_0 : tfield Try.prog 79 0 = some (0, 3) := by kernel_rfl
theorem fl79_1 : tfield Try.prog 79 1 = some (1, 3) := by kernel_rfl
theorem fl79_2 : tfield Try.prog 79 2 = some (2, 78) := by kernel_rfl
theorem fl79_3 : tfield Try.prog 79 3 = some (5, 78) := by kernel_rfl
theorem fl79_4 : tfield Try.prog 79 4 = some (8, 3) := by kernel_rfl
theorem fl79_5 : tfield Try.prog 79 5 = some (9, 24) := by kernel_rfl
theorem fl79_6 : tfield Try.prog 79 6 = some (10, 24) := by kernel_rfl
theorem sz80 : tsz Try.prog 80 = some 11 := by kernel_rfl
theorem by80 : tbytes Try.prog 80 = some 152 := by kernel_rfl
theorem ag80 : tagg Try.prog 80 = some true := by kernel_rfl
theorem tb80 : tbool Try.prog 80 = false := by kernel_rfl
theorem ts80 : tstring Try.prog 80 = false := by kernel_rfl
theorem sl80 : tslice Try.prog 80 = none := by kernel_rfl
theorem ze80 : tzero Try.prog 80 = some [.int .i64 0, .int .i64 0, .int .i64 0, .int .i64 0, .slice none 0 0, .int .i64 0, .int .i64 0, .slice none 0 0, .int .i64 0, .slice none 0 0, .slice none 0 0] := by kernel_rfl
theorem st80 : tstruct Try.prog 80 = some [.int .i64 0, .int .i64 0, .int .i64 0, .int .i64 0, .slice none 0 0, .int .i64 0, .int .i64 0, .slice none 0 0, .int .i64 0, .slice none 0 0, .slice none 0 0] := by kernel_rfl
theorem fl80_0 : tfield Try.prog 80 0 = some (0, 3) := by kernel_rfl
theorem fl80_1 : tfield Try.prog 80 1 = some (1, 3) := by kernel_rfl
theorem fl80_2 : tfield Try.prog 80 2 = some (2, 78) := by kernel_rfl
theorem fl80_3 : tfield Try.prog 80 3 = some (5, 78) := by kernel_rfl
theorem fl80_4 : tfield Try.prog 80 4 = some (8, 3) := by kernel_rfl
theorem fl80_5 : tfield Try.prog 80 5 = some (9, 24) := by kernel_rfl
theorem fl80_6 : tfield Try.prog 80 6 = some (10, 24) := by kernel_rfl
theorem sz81 : tsz Try.prog 81 = some 1 := by kernel_rfl
theorem by81 : tbytes Try.prog 81 = some 8 := by kernel_rfl
theorem ag81 : tagg Try.prog 81 = some false := by kernel_rfl
theorem tb81 : tbool Try.prog 81 = false := by kernel_rfl
theorem ts81 : tstring Try.prog 81 = false := by kernel_rfl
theorem sl81 : tslice Try.prog 81 = none := by kernel_rfl
theorem ze81 : tzero Try.prog 81 = some [.nilFunc] := by kernel_rfl
theorem sz82 : tsz Try.prog 82 = some 1 := by kernel_rfl
theorem by82 : tbytes Try.prog 82 = some 8 := by kernel_rfl
theorem ag82 : tagg Try.prog 82 = some false := by kernel_rfl
theorem tb82 : tbool Try.prog 82 = false := by kernel_rfl
theorem ts82 : tstring Try.prog 82 = false := by kernel_rfl
theorem sl82 : tslice Try.prog 82 = none := by kernel_rfl
theorem ze82 : tzero Try.prog 82 = some [.pointer none] := by kernel_rfl
theorem sz83 : tsz Try.prog 83 = some 1 := by kernel_rfl
theorem by83 : tbytes Try.prog 83 = some 8 := by kernel_rfl
theorem ag83 : tagg Try.prog 83 = some false := by kernel_rfl
theorem tb83 : tbool Try.prog 83 = false := by kernel_rfl
theorem ts83 : tstring Try.prog 83 = false := by kernel_rfl
theorem sl83 : tslice Try.prog 83 = none := by kernel_rfl
theorem ze83 : tzero Try.prog 83 = some [.nilFunc] := by kernel_rfl
theorem sz84 : tsz Try.prog 84 = some 1 := by kernel_rfl
theorem by84 : tbytes Try.prog 84 = some 8 := by kernel_rfl
theorem ag84 : tagg Try.prog 84 = some false := by kernel_rfl
theorem tb84 : tbool Try.prog 84 = false := by kernel_rfl
theorem ts84 : tstring Try.prog 84 = false := by kernel_rfl
theorem sl84 : tslice Try.prog 84 = none := by kernel_rfl
theorem ze84 : tzero Try.prog 84 = some [.nilFunc] := by kernel_rfl
theorem sz85 : tsz Try.prog 85 = some 1 := by kernel_rfl
theorem by85 : tbytes Try.prog 85 = some 8 := by kernel_rfl
theorem ag85 : tagg Try.prog 85 = some false := by kernel_rfl
theorem tb85 : tbool Try.prog 85 = false := by kernel_rfl
theorem ts85 : tstring Try.prog 85 = false := by kernel_rfl
theorem sl85 : tslice Try.prog 85 = none := by kernel_rfl
theorem ze85 : tzero Try.prog 85 = some [.nilFunc] := by kernel_rfl
theorem sz86 : tsz Try.prog 86 = some 1 := by kernel_rfl
theorem by86 : tbytes Try.prog 86 = some 8 := by kernel_rfl
theorem ag86 : tagg Try.prog 86 = some false := by kernel_rfl
theorem tb86 : tbool Try.prog 86 = false := by kernel_rfl
theorem ts86 : tstring Try.prog 86 = false := by kernel_rfl
theorem sl86 : tslice Try.prog 86 = none := by kernel_rfl
theorem ze86 : tzero Try.prog 86 = some [.nilFunc] := by kernel_rfl
theorem sz87 : tsz Try.prog 87 = some 1 := by kernel_rfl
theorem by87 : tbytes Try.prog 87 = some 8 := by kernel_rfl
theorem ag87 : tagg Try.prog 87 = some false := by kernel_rfl
theorem tb87 : tbool Try.prog 87 = false := by kernel_rfl
theorem ts87 : tstring Try.prog 87 = false := by kernel_rfl
theorem sl87 : tslice Try.prog 87 = none := by kernel_rfl
theorem ze87 : tzero Try.prog 87 = some [.nilFunc] := by kernel_rfl
theorem sz88 : tsz Try.prog 88 = some 1 := by kernel_rfl
theorem by88 : tbytes Try.prog 88 = some 8 := by kernel_rfl
theorem ag88 : tagg Try.prog 88 = some false := by kernel_rfl
theorem tb88 : tbool Try.prog 88 = false := by kernel_rfl
theorem ts88 : tstring Try.prog 88 = false := by kernel_rfl
theorem sl88 : tslice Try.prog 88 = none := by kernel_rfl
theorem ze88 : tzero Try.prog 88 = some [.nilFunc] := by kernel_rfl
theorem sz89 : tsz Try.prog 89 = some 5 := by kernel_rfl
theorem by89 : tbytes Try.prog 89 = some 88 := by kernel_rfl
theorem ag89 : tagg Try.prog 89 = some true := by kernel_rfl
theorem tb89 : tbool Try.prog 89 = false := by kernel_rfl
theorem ts89 : tstring Try.prog 89 = false := by kernel_rfl
theorem sl89 : tslice Try.prog 89 = none := by kernel_rfl
theorem ze89 : tzero Try.prog 89 = some [.slice none 0 0, .slice none 0 0, .slice none 0 0, .int .i64 0, .int .i64 0] := by kernel_rfl
theorem st89 : tstruct Try.prog 89 = some [.slice none 0 0, .slice none 0 0, .slice none 0 0, .int .i64 0, .int .i64 0] := by kernel_rfl
theorem fl89_0 : tfield Try.prog 89 0 = some (0, 26) := by kernel_rfl
theorem fl89_1 : tfield Try.prog 89 1 = some (3, 3) := by kernel_rfl
theorem fl89_2 : tfield Try.prog 89 2 = some (4, 3) := by kernel_rfl
theorem sz90 : tsz Try.prog 90 = some 5 := by kernel_rfl
theorem by90 : tbytes Try.prog 90 = some 88 := by kernel_rfl
theorem ag90 : tagg Try.prog 90 = some true := by kernel_rfl
theorem tb90 : tbool Try.prog 90 = false := by kernel_rfl
theorem ts90 : tstring Try.prog 90 = false := by kernel_rfl
theorem sl90 : tslice Try.prog 90 = none := by kernel_rfl
theorem ze90 : tzero Try.prog 90 = some [.slice none 0 0, .slice none 0 0, .slice none 0 0, .int .i64 0, .int .i64 0] := by kernel_rfl
theorem st90 : tstruct Try.prog 90 = some [.slice none 0 0, .slice none 0 0, .slice none 0 0, .int .i64 0, .int .i64 0] := by kernel_rfl
theorem fl90_0 : tfield Try.prog 90 0 = some (0, 26) := by kernel_rfl
theorem fl90_1 : tfield Try.prog 90 1 = some (3, 3) := by kernel_rfl
theorem fl90_2 : tfield Try.prog 90 2 = some (4, 3) := by kernel_rfl
theorem sz91 : tsz Try.prog 91 = some 1 := by kernel_rfl
theorem by91 : tbytes Try.prog 91 = some 8 := by kernel_rfl
theorem ag91 : tagg Try.prog 91 = some false := by kernel_rfl
theorem tb91 : tbool Try.prog 91 = false := by kernel_rfl
theorem ts91 : tstring Try.prog 91 = false := by kernel_rfl
theorem sl91 : tslice Try.prog 91 = none := by kernel_rfl
theorem ze91 : tzero Try.prog 91 = some [.pointer none] := by kernel_rfl
theorem sz92 : tsz Try.prog 92 = some 1 := by kernel_rfl
theorem by92 : tbytes Try.prog 92 = some 8 := by kernel_rfl
theorem ag92 : tagg Try.prog 92 = some false := by kernel_rfl
theorem tb92 : tbool Try.prog 92 = false := by kernel_rfl
theorem ts92 : tstring Try.prog 92 = false := by kernel_rfl
theorem sl92 : tslice Try.prog 92 = none := by kernel_rfl
theorem ze92 : tzero Try.prog 92 = some [.nilFunc] := by kernel_rfl
theorem sz93 : tsz Try.prog 93 = some 3 := by kernel_rfl
theorem by93 : tbytes Try.prog 93 = some 72 := by kernel_rfl
theorem ag93 : tagg Try.prog 93 = some true := by kernel_rfl
theorem tb93 : tbool Try.prog 93 = false := by kernel_rfl
theorem ts93 : tstring Try.prog 93 = false := by kernel_rfl
theorem sl93 : tslice Try.prog 93 = none := by kernel_rfl
theorem ze93 : tzero Try.prog 93 = some [.slice none 0 0, .slice none 0 0, .slice none 0 0] := by kernel_rfl
theorem st93 : tstruct Try.prog 93 = some [.slice none 0 0, .slice none 0 0, .slice none 0 0] := by kernel_rfl
theorem fl93_0 : tfield Try.prog 93 0 = some (0, 38) := by kernel_rfl
theorem fl93_1 : tfield Try.prog 93 1 = some (2, 43) := by kernel_rfl
theorem sz94 : tsz Try.prog 94 = some 3 := by kernel_rfl
theorem by94 : tbytes Try.prog 94 = some 72 := by kernel_rfl
theorem ag94 : tagg Try.prog 94 = some true := by kernel_rfl
theorem tb94 : tbool Try.prog 94 = false := by kernel_rfl
theorem ts94 : tstring Try.prog 94 = false := by kernel_rfl
theorem sl94 : tslice Try.prog 94 = none := by kernel_rfl
theorem ze94 : tzero Try.prog 94 = some [.slice none 0 0, .slice none 0 0, .slice none 0 0] := by kernel_rfl
theorem st94 : tstruct Try.prog 94 = some [.slice none 0 0, .slice none 0 0, .slice none 0 0] := by kernel_rfl
theorem fl94_0 : tfield Try.prog 94 0 = some (0, 38) := by kernel_rfl
theorem fl94_1 : tfield Try.prog 94 1 = some (2, 43) := by kernel_rfl
theorem sz95 : tsz Try.prog 95 = some 1 := by kernel_rfl
theorem by95 : tbytes Try.prog 95 = some 8 := by kernel_rfl
theorem ag95 : tagg Try.prog 95 = some false := by kernel_rfl
theorem tb95 : tbool Try.prog 95 = false := by kernel_rfl
theorem ts95 : tstring Try.prog 95 = false := by kernel_rfl
theorem sl95 : tslice Try.prog 95 = none := by kernel_rfl
theorem ze95 : tzero Try.prog 95 = some [.nilFunc] := by kernel_rfl
theorem sz96 : tsz Try.prog 96 = some 2 := by kernel_rfl
theorem by96 : tbytes Try.prog 96 = some 16 := by kernel_rfl
theorem ag96 : tagg Try.prog 96 = some true := by kernel_rfl
theorem tb96 : tbool Try.prog 96 = false := by kernel_rfl
theorem ts96 : tstring Try.prog 96 = false := by kernel_rfl
theorem sl96 : tslice Try.prog 96 = none := by kernel_rfl
theorem ze96 : tzero Try.prog 96 = some [.int .i64 0, .int .i64 0] := by kernel_rfl
theorem st96 : tstruct Try.prog 96 = some [.int .i64 0, .int .i64 0] := by kernel_rfl
theorem ti96 : tints Try.prog 96 = some 2 := by kernel_rfl
theorem fl96_0 : tfield Try.prog 96 0 = some (0, 3) := by kernel_rfl
theorem fl96_1 : tfield Try.prog 96 1 = some (1, 3) := by kernel_rfl
theorem sz97 : tsz Try.prog 97 = some 2 := by kernel_rfl
theorem by97 : tbytes Try.prog 97 = some 16 := by kernel_rfl
theorem ag97 : tagg Try.prog 97 = some true := by kernel_rfl
theorem tb97 : tbool Try.prog 97 = false := by kernel_rfl
theorem ts97 : tstring Try.prog 97 = false := by kernel_rfl
theorem sl97 : tslice Try.prog 97 = none := by kernel_rfl
theorem ze97 : tzero Try.prog 97 = some [.int .i64 0, .int .i64 0] := by kernel_rfl
theorem st97 : tstruct Try.prog 97 = some [.int .i64 0, .int .i64 0] := by kernel_rfl
theorem ti97 : tints Try.prog 97 = some 2 := by kernel_rfl
theorem fl97_0 : tfield Try.prog 97 0 = some (0, 3) := by kernel_rfl
theorem fl97_1 : tfield Try.prog 97 1 = some (1, 3) := by kernel_rfl
theorem sz98 : tsz Try.prog 98 = some 1 := by kernel_rfl
theorem by98 : tbytes Try.prog 98 = some 8 := by kernel_rfl
theorem ag98 : tagg Try.prog 98 = some false := by kernel_rfl
theorem tb98 : tbool Try.prog 98 = false := by kernel_rfl
theorem ts98 : tstring Try.prog 98 = false := by kernel_rfl
theorem sl98 : tslice Try.prog 98 = none := by kernel_rfl
theorem ze98 : tzero Try.prog 98 = some [.nilFunc] := by kernel_rfl
theorem sz99 : tsz Try.prog 99 = some 1 := by kernel_rfl
theorem by99 : tbytes Try.prog 99 = some 8 := by kernel_rfl
theorem ag99 : tagg Try.prog 99 = some false := by kernel_rfl
theorem tb99 : tbool Try.prog 99 = false := by kernel_rfl
theorem ts99 : tstring Try.prog 99 = false := by kernel_rfl
theorem sl99 : tslice Try.prog 99 = none := by kernel_rfl
theorem ze99 : tzero Try.prog 99 = some [.nilFunc] := by kernel_rfl
theorem sz100 : tsz Try.prog 100 = some 1 := by kernel_rfl
theorem by100 : tbytes Try.prog 100 = some 8 := by kernel_rfl
theorem ag100 : tagg Try.prog 100 = some false := by kernel_rfl
theorem tb100 : tbool Try.prog 100 = false := by kernel_rfl
theorem ts100 : tstring Try.prog 100 = false := by kernel_rfl
theorem sl100 : tslice Try.prog 100 = none := by kernel_rfl
theorem ze100 : tzero Try.prog 100 = some [.nilFunc] := by kernel_rfl
theorem sz101 : tsz Try.prog 101 = some 1 := by kernel_rfl
theorem by101 : tbytes Try.prog 101 = some 8 := by kernel_rfl
theorem ag101 : tagg Try.prog 101 = some false := by kernel_rfl
theorem tb101 : tbool Try.prog 101 = false := by kernel_rfl
theorem ts101 : tstring Try.prog 101 = false := by kernel_rfl
theorem sl101 : tslice Try.prog 101 = none := by kernel_rfl
theorem ze101 : tzero Try.prog 101 = some [.nilFunc] := by kernel_rfl
theorem sz102 : tsz Try.prog 102 = some 1 := by kernel_rfl
theorem by102 : tbytes Try.prog 102 = some 8 := by kernel_rfl
theorem ag102 : tagg Try.prog 102 = some false := by kernel_rfl
theorem tb102 : tbool Try.prog 102 = false := by kernel_rfl
theorem ts102 : tstring Try.prog 102 = false := by kernel_rfl
theorem sl102 : tslice Try.prog 102 = none := by kernel_rfl
theorem ze102 : tzero Try.prog 102 = some [.nilFunc] := by kernel_rfl
theorem sz103 : tsz Try.prog 103 = some 1 := by kernel_rfl
theorem by103 : tbytes Try.prog 103 = some 8 := by kernel_rfl
theorem ag103 : tagg Try.prog 103 = some false := by kernel_rfl
theorem tb103 : tbool Try.prog 103 = false := by kernel_rfl
theorem ts103 : tstring Try.prog 103 = false := by kernel_rfl
theorem sl103 : tslice Try.prog 103 = none := by kernel_rfl
theorem ze103 : tzero Try.prog 103 = some [.nilFunc] := by kernel_rfl
theorem sz104 : tsz Try.prog 104 = some 1 := by kernel_rfl
theorem by104 : tbytes Try.prog 104 = some 0 := by kernel_rfl
theorem ag104 : tagg Try.prog 104 = some false := by kernel_rfl
theorem tb104 : tbool Try.prog 104 = false := by kernel_rfl
theorem ts104 : tstring Try.prog 104 = false := by kernel_rfl
theorem sl104 : tslice Try.prog 104 = none := by kernel_rfl
theorem sz105 : tsz Try.prog 105 = some 1 := by kernel_rfl
theorem by105 : tbytes Try.prog 105 = some 8 := by kernel_rfl
theorem ag105 : tagg Try.prog 105 = some false := by kernel_rfl
theorem tb105 : tbool Try.prog 105 = false := by kernel_rfl
theorem ts105 : tstring Try.prog 105 = false := by kernel_rfl
theorem sl105 : tslice Try.prog 105 = none := by kernel_rfl
theorem ze105 : tzero Try.prog 105 = some [.nilFunc] := by kernel_rfl
theorem sz106 : tsz Try.prog 106 = some 1 := by kernel_rfl
theorem by106 : tbytes Try.prog 106 = some 8 := by kernel_rfl
theorem ag106 : tagg Try.prog 106 = some false := by kernel_rfl
theorem tb106 : tbool Try.prog 106 = false := by kernel_rfl
theorem ts106 : tstring Try.prog 106 = false := by kernel_rfl
theorem sl106 : tslice Try.prog 106 = none := by kernel_rfl
theorem ze106 : tzero Try.prog 106 = some [.nilFunc] := by kernel_rfl
theorem sz107 : tsz Try.prog 107 = some 1 := by kernel_rfl
theorem by107 : tbytes Try.prog 107 = some 8 := by kernel_rfl
theorem ag107 : tagg Try.prog 107 = some false := by kernel_rfl
theorem tb107 : tbool Try.prog 107 = false := by kernel_rfl
theorem ts107 : tstring Try.prog 107 = false := by kernel_rfl
theorem sl107 : tslice Try.prog 107 = none := by kernel_rfl
theorem ze107 : tzero Try.prog 107 = some [.nilFunc] := by kernel_rfl
theorem sz108 : tsz Try.prog 108 = some 1 := by kernel_rfl
theorem by108 : tbytes Try.prog 108 = some 8 := by kernel_rfl
theorem ag108 : tagg Try.prog 108 = some false := by kernel_rfl
theorem tb108 : tbool Try.prog 108 = false := by kernel_rfl
theorem ts108 : tstring Try.prog 108 = false := by kernel_rfl
theorem sl108 : tslice Try.prog 108 = none := by kernel_rfl
theorem ze108 : tzero Try.prog 108 = some [.nilFunc] := by kernel_rfl
theorem sz109 : tsz Try.prog 109 = some 1 := by kernel_rfl
theorem by109 : tbytes Try.prog 109 = some 8 := by kernel_rfl
theorem ag109 : tagg Try.prog 109 = some false := by kernel_rfl
theorem tb109 : tbool Try.prog 109 = false := by kernel_rfl
theorem ts109 : tstring Try.prog 109 = false := by kernel_rfl
theorem sl109 : tslice Try.prog 109 = none := by kernel_rfl
theorem ze109 : tzero Try.prog 109 = some [.nilFunc] := by kernel_rfl
theorem sz110 : tsz Try.prog 110 = some 1 := by kernel_rfl
theorem by110 : tbytes Try.prog 110 = some 8 := by kernel_rfl
theorem ag110 : tagg Try.prog 110 = some false := by kernel_rfl
theorem tb110 : tbool Try.prog 110 = false := by kernel_rfl
theorem ts110 : tstring Try.prog 110 = false := by kernel_rfl
theorem sl110 : tslice Try.prog 110 = none := by kernel_rfl
theorem ze110 : tzero Try.prog 110 = some [.nilFunc] := by kernel_rfl
theorem sz111 : tsz Try.prog 111 = some 1 := by kernel_rfl
theorem by111 : tbytes Try.prog 111 = some 8 := by kernel_rfl
theorem ag111 : tagg Try.prog 111 = some false := by kernel_rfl
theorem tb111 : tbool Try.prog 111 = false := by kernel_rfl
theorem ts111 : tstring Try.prog 111 = false := by kernel_rfl
theorem sl111 : tslice Try.prog 111 = none := by kernel_rfl
theorem ze111 : tzero Try.prog 111 = some [.nilFunc] := by kernel_rfl
theorem sz112 : tsz Try.prog 112 = some 1 := by kernel_rfl
theorem by112 : tbytes Try.prog 112 = some 8 := by kernel_rfl
theorem ag112 : tagg Try.prog 112 = some false := by kernel_rfl
theorem tb112 : tbool Try.prog 112 = false := by kernel_rfl
theorem ts112 : tstring Try.prog 112 = false := by kernel_rfl
theorem sl112 : tslice Try.prog 112 = none := by kernel_rfl
theorem ze112 : tzero Try.prog 112 = some [.nilFunc] := by kernel_rfl
theorem sz113 : tsz Try.prog 113 = some 1 := by kernel_rfl
theorem by113 : tbytes Try.prog 113 = some 8 := by kernel_rfl
theorem ag113 : tagg Try.prog 113 = some false := by kernel_rfl
theorem tb113 : tbool Try.prog 113 = false := by kernel_rfl
theorem ts113 : tstring Try.prog 113 = false := by kernel_rfl
theorem sl113 : tslice Try.prog 113 = none := by kernel_rfl
theorem ze113 : tzero Try.prog 113 = some [.nilFunc] := by kernel_rfl
theorem sz114 : tsz Try.prog 114 = some 1 := by kernel_rfl
theorem by114 : tbytes Try.prog 114 = some 8 := by kernel_rfl
theorem ag114 : tagg Try.prog 114 = some false := by kernel_rfl
theorem tb114 : tbool Try.prog 114 = false := by kernel_rfl
theorem ts114 : tstring Try.prog 114 = false := by kernel_rfl
theorem sl114 : tslice Try.prog 114 = none := by kernel_rfl
theorem ze114 : tzero Try.prog 114 = some [.nilFunc] := by kernel_rfl
theorem sz115 : tsz Try.prog 115 = some 1 := by kernel_rfl
theorem by115 : tbytes Try.prog 115 = some 8 := by kernel_rfl
theorem ag115 : tagg Try.prog 115 = some false := by kernel_rfl
theorem tb115 : tbool Try.prog 115 = false := by kernel_rfl
theorem ts115 : tstring Try.prog 115 = false := by kernel_rfl
theorem sl115 : tslice Try.prog 115 = none := by kernel_rfl
theorem ze115 : tzero Try.prog 115 = some [.nilFunc] := by kernel_rfl
theorem sz116 : tsz Try.prog 116 = some 1 := by kernel_rfl
theorem by116 : tbytes Try.prog 116 = some 8 := by kernel_rfl
theorem ag116 : tagg Try.prog 116 = some false := by kernel_rfl
theorem tb116 : tbool Try.prog 116 = false := by kernel_rfl
theorem ts116 : tstring Try.prog 116 = false := by kernel_rfl
theorem sl116 : tslice Try.prog 116 = none := by kernel_rfl
theorem ze116 : tzero Try.prog 116 = some [.nilFunc] := by kernel_rfl
theorem sz117 : tsz Try.prog 117 = some 1 := by kernel_rfl
theorem by117 : tbytes Try.prog 117 = some 8 := by kernel_rfl
theorem ag117 : tagg Try.prog 117 = some false := by kernel_rfl
theorem tb117 : tbool Try.prog 117 = false := by kernel_rfl
theorem ts117 : tstring Try.prog 117 = false := by kernel_rfl
theorem sl117 : tslice Try.prog 117 = none := by kernel_rfl
theorem ze117 : tzero Try.prog 117 = some [.nilFunc] := by kernel_rfl
theorem sz118 : tsz Try.prog 118 = some 1 := by kernel_rfl
theorem by118 : tbytes Try.prog 118 = some 8 := by kernel_rfl
theorem ag118 : tagg Try.prog 118 = some false := by kernel_rfl
theorem tb118 : tbool Try.prog 118 = false := by kernel_rfl
theorem ts118 : tstring Try.prog 118 = false := by kernel_rfl
theorem sl118 : tslice Try.prog 118 = none := by kernel_rfl
theorem ze118 : tzero Try.prog 118 = some [.pointer none] := by kernel_rfl
theorem sz119 : tsz Try.prog 119 = some 1 := by kernel_rfl
theorem by119 : tbytes Try.prog 119 = some 8 := by kernel_rfl
theorem ag119 : tagg Try.prog 119 = some false := by kernel_rfl
theorem tb119 : tbool Try.prog 119 = false := by kernel_rfl
theorem ts119 : tstring Try.prog 119 = false := by kernel_rfl
theorem sl119 : tslice Try.prog 119 = none := by kernel_rfl
theorem ze119 : tzero Try.prog 119 = some [.nilFunc] := by kernel_rfl
theorem sz120 : tsz Try.prog 120 = some 1 := by kernel_rfl
theorem by120 : tbytes Try.prog 120 = some 8 := by kernel_rfl
theorem ag120 : tagg Try.prog 120 = some false := by kernel_rfl
theorem tb120 : tbool Try.prog 120 = false := by kernel_rfl
theorem ts120 : tstring Try.prog 120 = false := by kernel_rfl
theorem sl120 : tslice Try.prog 120 = none := by kernel_rfl
theorem ze120 : tzero Try.prog 120 = some [.nilFunc] := by kernel_rfl
theorem sz121 : tsz Try.prog 121 = some 1 := by kernel_rfl
theorem by121 : tbytes Try.prog 121 = some 8 := by kernel_rfl
theorem ag121 : tagg Try.prog 121 = some false := by kernel_rfl
theorem tb121 : tbool Try.prog 121 = false := by kernel_rfl
theorem ts121 : tstring Try.prog 121 = false := by kernel_rfl
theorem sl121 : tslice Try.prog 121 = none := by kernel_rfl
theorem ze121 : tzero Try.prog 121 = some [.nilFunc] := by kernel_rfl
theorem sz122 : tsz Try.prog 122 = some 1 := by kernel_rfl
theorem by122 : tbytes Try.prog 122 = some 8 := by kernel_rfl
theorem ag122 : tagg Try.prog 122 = some false := by kernel_rfl
theorem tb122 : tbool Try.prog 122 = false := by kernel_rfl
theorem ts122 : tstring Try.prog 122 = false := by kernel_rfl
theorem sl122 : tslice Try.prog 122 = none := by kernel_rfl
theorem ze122 : tzero Try.prog 122 = some [.nilFunc] := by kernel_rfl
theorem sz123 : tsz Try.prog 123 = some 1 := by kernel_rfl
theorem by123 : tbytes Try.prog 123 = some 8 := by kernel_rfl
theorem ag123 : tagg Try.prog 123 = some false := by kernel_rfl
theorem tb123 : tbool Try.prog 123 = false := by kernel_rfl
theorem ts123 : tstring Try.prog 123 = false := by kernel_rfl
theorem sl123 : tslice Try.prog 123 = none := by kernel_rfl
theorem ze123 : tzero Try.prog 123 = some [.nilFunc] := by kernel_rfl
theorem sz124 : tsz Try.prog 124 = some 1 := by kernel_rfl
theorem by124 : tbytes Try.prog 124 = some 8 := by kernel_rfl
theorem ag124 : tagg Try.prog 124 = some false := by kernel_rfl
theorem tb124 : tbool Try.prog 124 = false := by kernel_rfl
theorem ts124 : tstring Try.prog 124 = false := by kernel_rfl
theorem sl124 : tslice Try.prog 124 = none := by kernel_rfl
theorem ze124 : tzero Try.prog 124 = some [.nilFunc] := by kernel_rfl
theorem sz125 : tsz Try.prog 125 = some 2 := by kernel_rfl
theorem by125 : tbytes Try.prog 125 = some 32 := by kernel_rfl
theorem ag125 : tagg Try.prog 125 = some true := by kernel_rfl
theorem tb125 : tbool Try.prog 125 = false := by kernel_rfl
theorem ts125 : tstring Try.prog 125 = false := by kernel_rfl
theorem sl125 : tslice Try.prog 125 = none := by kernel_rfl
theorem ze125 : tzero Try.prog 125 = some [.slice none 0 0, .int .i64 0] := by kernel_rfl
theorem st125 : tstruct Try.prog 125 = some [.slice none 0 0, .int .i64 0] := by kernel_rfl
theorem fl125_0 : tfield Try.prog 125 0 = some (0, 22) := by kernel_rfl
theorem fl125_1 : tfield Try.prog 125 1 = some (1, 3) := by kernel_rfl
theorem sz126 : tsz Try.prog 126 = some 2 := by kernel_rfl
theorem by126 : tbytes Try.prog 126 = some 32 := by kernel_rfl
theorem ag126 : tagg Try.prog 126 = some true := by kernel_rfl
theorem tb126 : tbool Try.prog 126 = false := by kernel_rfl
theorem ts126 : tstring Try.prog 126 = false := by kernel_rfl
theorem sl126 : tslice Try.prog 126 = none := by kernel_rfl
theorem ze126 : tzero Try.prog 126 = some [.slice none 0 0, .int .i64 0] := by kernel_rfl
theorem st126 : tstruct Try.prog 126 = some [.slice none 0 0, .int .i64 0] := by kernel_rfl
theorem fl126_0 : tfield Try.prog 126 0 = some (0, 22) := by kernel_rfl
theorem fl126_1 : tfield Try.prog 126 1 = some (1, 3) := by kernel_rfl
theorem sz127 : tsz Try.prog 127 = some 1 := by kernel_rfl
theorem by127 : tbytes Try.prog 127 = some 8 := by kernel_rfl
theorem ag127 : tagg Try.prog 127 = some false := by kernel_rfl
theorem tb127 : tbool Try.prog 127 = false := by kernel_rfl
theorem ts127 : tstring Try.prog 127 = false := by kernel_rfl
theorem sl127 : tslice Try.prog 127 = none := by kernel_rfl
theorem ze127 : tzero Try.prog 127 = some [.nilFunc] := by kernel_rfl
theorem sz128 : tsz Try.prog 128 = some 1 := by kernel_rfl
theorem by128 : tbytes Try.prog 128 = some 8 := by kernel_rfl
theorem ag128 : tagg Try.prog 128 = some false := by kernel_rfl
theorem tb128 : tbool Try.prog 128 = false := by kernel_rfl
theorem ts128 : tstring Try.prog 128 = false := by kernel_rfl
theorem sl128 : tslice Try.prog 128 = none := by kernel_rfl
theorem ze128 : tzero Try.prog 128 = some [.nilFunc] := by kernel_rfl
theorem sz129 : tsz Try.prog 129 = some 1 := by kernel_rfl
theorem by129 : tbytes Try.prog 129 = some 8 := by kernel_rfl
theorem ag129 : tagg Try.prog 129 = some false := by kernel_rfl
theorem tb129 : tbool Try.prog 129 = false := by kernel_rfl
theorem ts129 : tstring Try.prog 129 = false := by kernel_rfl
theorem sl129 : tslice Try.prog 129 = none := by kernel_rfl
theorem ze129 : tzero Try.prog 129 = some [.nilFunc] := by kernel_rfl
theorem sz130 : tsz Try.prog 130 = some 1 := by kernel_rfl
theorem by130 : tbytes Try.prog 130 = some 8 := by kernel_rfl
theorem ag130 : tagg Try.prog 130 = some false := by kernel_rfl
theorem tb130 : tbool Try.prog 130 = false := by kernel_rfl
theorem ts130 : tstring Try.prog 130 = false := by kernel_rfl
theorem sl130 : tslice Try.prog 130 = none := by kernel_rfl
theorem ze130 : tzero Try.prog 130 = some [.nilFunc] := by kernel_rfl
theorem sz131 : tsz Try.prog 131 = some 1 := by kernel_rfl
theorem by131 : tbytes Try.prog 131 = some 8 := by kernel_rfl
theorem ag131 : tagg Try.prog 131 = some false := by kernel_rfl
theorem tb131 : tbool Try.prog 131 = false := by kernel_rfl
theorem ts131 : tstring Try.prog 131 = false := by kernel_rfl
theorem sl131 : tslice Try.prog 131 = none := by kernel_rfl
theorem ze131 : tzero Try.prog 131 = some [.nilFunc] := by kernel_rfl
theorem sz132 : tsz Try.prog 132 = some 1 := by kernel_rfl
theorem by132 : tbytes Try.prog 132 = some 8 := by kernel_rfl
theorem ag132 : tagg Try.prog 132 = some false := by kernel_rfl
theorem tb132 : tbool Try.prog 132 = false := by kernel_rfl
theorem ts132 : tstring Try.prog 132 = false := by kernel_rfl
theorem sl132 : tslice Try.prog 132 = none := by kernel_rfl
theorem ze132 : tzero Try.prog 132 = some [.nilFunc] := by kernel_rfl
theorem sz133 : tsz Try.prog 133 = some 1 := by kernel_rfl
theorem by133 : tbytes Try.prog 133 = some 0 := by kernel_rfl
theorem ag133 : tagg Try.prog 133 = some false := by kernel_rfl
theorem tb133 : tbool Try.prog 133 = false := by kernel_rfl
theorem ts133 : tstring Try.prog 133 = false := by kernel_rfl
theorem sl133 : tslice Try.prog 133 = none := by kernel_rfl
theorem sz134 : tsz Try.prog 134 = some 1 := by kernel_rfl
theorem by134 : tbytes Try.prog 134 = some 8 := by kernel_rfl
theorem ag134 : tagg Try.prog 134 = some false := by kernel_rfl
theorem tb134 : tbool Try.prog 134 = false := by kernel_rfl
theorem ts134 : tstring Try.prog 134 = false := by kernel_rfl
theorem sl134 : tslice Try.prog 134 = none := by kernel_rfl
theorem ze134 : tzero Try.prog 134 = some [.nilFunc] := by kernel_rfl
theorem sz135 : tsz Try.prog 135 = some 1 := by kernel_rfl
theorem by135 : tbytes Try.prog 135 = some 8 := by kernel_rfl
theorem ag135 : tagg Try.prog 135 = some false := by kernel_rfl
theorem tb135 : tbool Try.prog 135 = false := by kernel_rfl
theorem ts135 : tstring Try.prog 135 = false := by kernel_rfl
theorem sl135 : tslice Try.prog 135 = none := by kernel_rfl
theorem ze135 : tzero Try.prog 135 = some [.nilFunc] := by kernel_rfl
theorem sz136 : tsz Try.prog 136 = some 1 := by kernel_rfl
theorem by136 : tbytes Try.prog 136 = some 8 := by kernel_rfl
theorem ag136 : tagg Try.prog 136 = some false := by kernel_rfl
theorem tb136 : tbool Try.prog 136 = false := by kernel_rfl
theorem ts136 : tstring Try.prog 136 = false := by kernel_rfl
theorem sl136 : tslice Try.prog 136 = none := by kernel_rfl
theorem ze136 : tzero Try.prog 136 = some [.nilFunc] := by kernel_rfl
theorem sz137 : tsz Try.prog 137 = some 1 := by kernel_rfl
theorem by137 : tbytes Try.prog 137 = some 8 := by kernel_rfl
theorem ag137 : tagg Try.prog 137 = some false := by kernel_rfl
theorem tb137 : tbool Try.prog 137 = false := by kernel_rfl
theorem ts137 : tstring Try.prog 137 = false := by kernel_rfl
theorem sl137 : tslice Try.prog 137 = none := by kernel_rfl
theorem ze137 : tzero Try.prog 137 = some [.nilFunc] := by kernel_rfl
theorem sz138 : tsz Try.prog 138 = some 1 := by kernel_rfl
theorem by138 : tbytes Try.prog 138 = some 8 := by kernel_rfl
theorem ag138 : tagg Try.prog 138 = some false := by kernel_rfl
theorem tb138 : tbool Try.prog 138 = false := by kernel_rfl
theorem ts138 : tstring Try.prog 138 = false := by kernel_rfl
theorem sl138 : tslice Try.prog 138 = none := by kernel_rfl
theorem ze138 : tzero Try.prog 138 = some [.nilFunc] := by kernel_rfl
theorem sz139 : tsz Try.prog 139 = some 1 := by kernel_rfl
theorem by139 : tbytes Try.prog 139 = some 8 := by kernel_rfl
theorem ag139 : tagg Try.prog 139 = some false := by kernel_rfl
theorem tb139 : tbool Try.prog 139 = false := by kernel_rfl
theorem ts139 : tstring Try.prog 139 = false := by kernel_rfl
theorem sl139 : tslice Try.prog 139 = none := by kernel_rfl
theorem ze139 : tzero Try.prog 139 = some [.nilFunc] := by kernel_rfl
theorem sz140 : tsz Try.prog 140 = some 1 := by kernel_rfl
theorem by140 : tbytes Try.prog 140 = some 8 := by kernel_rfl
theorem ag140 : tagg Try.prog 140 = some false := by kernel_rfl
theorem tb140 : tbool Try.prog 140 = false := by kernel_rfl
theorem ts140 : tstring Try.prog 140 = false := by kernel_rfl
theorem sl140 : tslice Try.prog 140 = none := by kernel_rfl
theorem ze140 : tzero Try.prog 140 = some [.nilFunc] := by kernel_rfl
theorem sz141 : tsz Try.prog 141 = some 1 := by kernel_rfl
theorem by141 : tbytes Try.prog 141 = some 8 := by kernel_rfl
theorem ag141 : tagg Try.prog 141 = some false := by kernel_rfl
theorem tb141 : tbool Try.prog 141 = false := by kernel_rfl
theorem ts141 : tstring Try.prog 141 = false := by kernel_rfl
theorem sl141 : tslice Try.prog 141 = none := by kernel_rfl
theorem ze141 : tzero Try.prog 141 = some [.nilFunc] := by kernel_rfl
theorem sz142 : tsz Try.prog 142 = some 1 := by kernel_rfl
theorem by142 : tbytes Try.prog 142 = some 8 := by kernel_rfl
theorem ag142 : tagg Try.prog 142 = some false := by kernel_rfl
theorem tb142 : tbool Try.prog 142 = false := by kernel_rfl
theorem ts142 : tstring Try.prog 142 = false := by kernel_rfl
theorem sl142 : tslice Try.prog 142 = none := by kernel_rfl
theorem ze142 : tzero Try.prog 142 = some [.nilFunc] := by kernel_rfl
theorem sz143 : tsz Try.prog 143 = some 1 := by kernel_rfl
theorem by143 : tbytes Try.prog 143 = some 8 := by kernel_rfl
theorem ag143 : tagg Try.prog 143 = some false := by kernel_rfl
theorem tb143 : tbool Try.prog 143 = false := by kernel_rfl
theorem ts143 : tstring Try.prog 143 = false := by kernel_rfl
theorem sl143 : tslice Try.prog 143 = none := by kernel_rfl
theorem ze143 : tzero Try.prog 143 = some [.nilFunc] := by kernel_rfl
theorem sz144 : tsz Try.prog 144 = some 1 := by kernel_rfl
theorem by144 : tbytes Try.prog 144 = some 8 := by kernel_rfl
theorem ag144 : tagg Try.prog 144 = some false := by kernel_rfl
theorem tb144 : tbool Try.prog 144 = false := by kernel_rfl
theorem ts144 : tstring Try.prog 144 = false := by kernel_rfl
theorem sl144 : tslice Try.prog 144 = none := by kernel_rfl
theorem ze144 : tzero Try.prog 144 = some [.nilFunc] := by kernel_rfl
theorem sz145 : tsz Try.prog 145 = some 1 := by kernel_rfl
theorem by145 : tbytes Try.prog 145 = some 8 := by kernel_rfl
theorem ag145 : tagg Try.prog 145 = some false := by kernel_rfl
theorem tb145 : tbool Try.prog 145 = false := by kernel_rfl
theorem ts145 : tstring Try.prog 145 = false := by kernel_rfl
theorem sl145 : tslice Try.prog 145 = none := by kernel_rfl
theorem ze145 : tzero Try.prog 145 = some [.nilFunc] := by kernel_rfl
theorem sz146 : tsz Try.prog 146 = some 1 := by kernel_rfl
theorem by146 : tbytes Try.prog 146 = some 8 := by kernel_rfl
theorem ag146 : tagg Try.prog 146 = some false := by kernel_rfl
theorem tb146 : tbool Try.prog 146 = false := by kernel_rfl
theorem ts146 : tstring Try.prog 146 = false := by kernel_rfl
theorem sl146 : tslice Try.prog 146 = none := by kernel_rfl
theorem ze146 : tzero Try.prog 146 = some [.nilFunc] := by kernel_rfl
theorem sz147 : tsz Try.prog 147 = some 1 := by kernel_rfl
theorem by147 : tbytes Try.prog 147 = some 8 := by kernel_rfl
theorem ag147 : tagg Try.prog 147 = some false := by kernel_rfl
theorem tb147 : tbool Try.prog 147 = false := by kernel_rfl
theorem ts147 : tstring Try.prog 147 = false := by kernel_rfl
theorem sl147 : tslice Try.prog 147 = none := by kernel_rfl
theorem ze147 : tzero Try.prog 147 = some [.nilFunc] := by kernel_rfl
theorem sz148 : tsz Try.prog 148 = some 1 := by kernel_rfl
theorem by148 : tbytes Try.prog 148 = some 8 := by kernel_rfl
theorem ag148 : tagg Try.prog 148 = some false := by kernel_rfl
theorem tb148 : tbool Try.prog 148 = false := by kernel_rfl
theorem ts148 : tstring Try.prog 148 = false := by kernel_rfl
theorem sl148 : tslice Try.prog 148 = none := by kernel_rfl
theorem ze148 : tzero Try.prog 148 = some [.nilFunc] := by kernel_rfl
theorem sz149 : tsz Try.prog 149 = some 1 := by kernel_rfl
theorem by149 : tbytes Try.prog 149 = some 8 := by kernel_rfl
theorem ag149 : tagg Try.prog 149 = some false := by kernel_rfl
theorem tb149 : tbool Try.prog 149 = false := by kernel_rfl
theorem ts149 : tstring Try.prog 149 = false := by kernel_rfl
theorem sl149 : tslice Try.prog 149 = none := by kernel_rfl
theorem ze149 : tzero Try.prog 149 = some [.nilFunc] := by kernel_rfl
theorem sz150 : tsz Try.prog 150 = some 1 := by kernel_rfl
theorem by150 : tbytes Try.prog 150 = some 8 := by kernel_rfl
theorem ag150 : tagg Try.prog 150 = some false := by kernel_rfl
theorem tb150 : tbool Try.prog 150 = false := by kernel_rfl
theorem ts150 : tstring Try.prog 150 = false := by kernel_rfl
theorem sl150 : tslice Try.prog 150 = none := by kernel_rfl
theorem ze150 : tzero Try.prog 150 = some [.nilFunc] := by kernel_rfl
theorem sz151 : tsz Try.prog 151 = some 1 := by kernel_rfl
theorem by151 : tbytes Try.prog 151 = some 8 := by kernel_rfl
theorem ag151 : tagg Try.prog 151 = some false := by kernel_rfl
theorem tb151 : tbool Try.prog 151 = false := by kernel_rfl
theorem ts151 : tstring Try.prog 151 = false := by kernel_rfl
theorem sl151 : tslice Try.prog 151 = none := by kernel_rfl
theorem ze151 : tzero Try.prog 151 = some [.nilFunc] := by kernel_rfl
theorem sz152 : tsz Try.prog 152 = some 1 := by kernel_rfl
theorem by152 : tbytes Try.prog 152 = some 8 := by kernel_rfl
theorem ag152 : tagg Try.prog 152 = some false := by kernel_rfl
theorem tb152 : tbool Try.prog 152 = false := by kernel_rfl
theorem ts152 : tstring Try.prog 152 = false := by kernel_rfl
theorem sl152 : tslice Try.prog 152 = none := by kernel_rfl
theorem ze152 : tzero Try.prog 152 = some [.nilFunc] := by kernel_rfl
theorem sz153 : tsz Try.prog 153 = some 1 := by kernel_rfl
theorem by153 : tbytes Try.prog 153 = some 8 := by kernel_rfl
theorem ag153 : tagg Try.prog 153 = some false := by kernel_rfl
theorem tb153 : tbool Try.prog 153 = false := by kernel_rfl
theorem ts153 : tstring Try.prog 153 = false := by kernel_rfl
theorem sl153 : tslice Try.prog 153 = none := by kernel_rfl
theorem ze153 : tzero Try.prog 153 = some [.nilFunc] := by kernel_rfl
theorem sz154 : tsz Try.prog 154 = some 1 := by kernel_rfl
theorem by154 : tbytes Try.prog 154 = some 8 := by kernel_rfl
theorem ag154 : tagg Try.prog 154 = some false := by kernel_rfl
theorem tb154 : tbool Try.prog 154 = false := by kernel_rfl
theorem ts154 : tstring Try.prog 154 = false := by kernel_rfl
theorem sl154 : tslice Try.prog 154 = none := by kernel_rfl
theorem ze154 : tzero Try.prog 154 = some [.nilFunc] := by kernel_rfl
theorem sz155 : tsz Try.prog 155 = some 1 := by kernel_rfl
theorem by155 : tbytes Try.prog 155 = some 8 := by kernel_rfl
theorem ag155 : tagg Try.prog 155 = some false := by kernel_rfl
theorem tb155 : tbool Try.prog 155 = false := by kernel_rfl
theorem ts155 : tstring Try.prog 155 = false := by kernel_rfl
theorem sl155 : tslice Try.prog 155 = none := by kernel_rfl
theorem ze155 : tzero Try.prog 155 = some [.nilFunc] := by kernel_rfl
theorem sz156 : tsz Try.prog 156 = some 1 := by kernel_rfl
theorem by156 : tbytes Try.prog 156 = some 8 := by kernel_rfl
theorem ag156 : tagg Try.prog 156 = some false := by kernel_rfl
theorem tb156 : tbool Try.prog 156 = false := by kernel_rfl
theorem ts156 : tstring Try.prog 156 = false := by kernel_rfl
theorem sl156 : tslice Try.prog 156 = none := by kernel_rfl
theorem ze156 : tzero Try.prog 156 = some [.nilFunc] := by kernel_rfl
theorem sz157 : tsz Try.prog 157 = some 1 := by kernel_rfl
theorem by157 : tbytes Try.prog 157 = some 8 := by kernel_rfl
theorem ag157 : tagg Try.prog 157 = some false := by kernel_rfl
theorem tb157 : tbool Try.prog 157 = false := by kernel_rfl
theorem ts157 : tstring Try.prog 157 = false := by kernel_rfl
theorem sl157 : tslice Try.prog 157 = none := by kernel_rfl
theorem ze157 : tzero Try.prog 157 = some [.nilFunc] := by kernel_rfl
theorem sz158 : tsz Try.prog 158 = some 1 := by kernel_rfl
theorem by158 : tbytes Try.prog 158 = some 8 := by kernel_rfl
theorem ag158 : tagg Try.prog 158 = some false := by kernel_rfl
theorem tb158 : tbool Try.prog 158 = false := by kernel_rfl
theorem ts158 : tstring Try.prog 158 = false := by kernel_rfl
theorem sl158 : tslice Try.prog 158 = none := by kernel_rfl
theorem ze158 : tzero Try.prog 158 = some [.nilFunc] := by kernel_rfl
theorem sz159 : tsz Try.prog 159 = some 1 := by kernel_rfl
theorem by159 : tbytes Try.prog 159 = some 8 := by kernel_rfl
theorem ag159 : tagg Try.prog 159 = some false := by kernel_rfl
theorem tb159 : tbool Try.prog 159 = false := by kernel_rfl
theorem ts159 : tstring Try.prog 159 = false := by kernel_rfl
theorem sl159 : tslice Try.prog 159 = none := by kernel_rfl
theorem ze159 : tzero Try.prog 159 = some [.nilFunc] := by kernel_rfl
theorem sz160 : tsz Try.prog 160 = some 1 := by kernel_rfl
theorem by160 : tbytes Try.prog 160 = some 8 := by kernel_rfl
theorem ag160 : tagg Try.prog 160 = some false := by kernel_rfl
theorem tb160 : tbool Try.prog 160 = false := by kernel_rfl
theorem ts160 : tstring Try.prog 160 = false := by kernel_rfl
theorem sl160 : tslice Try.prog 160 = none := by kernel_rfl
theorem ze160 : tzero Try.prog 160 = some [.nilFunc] := by kernel_rfl
theorem sz161 : tsz Try.prog 161 = some 1 := by kernel_rfl
theorem by161 : tbytes Try.prog 161 = some 8 := by kernel_rfl
theorem ag161 : tagg Try.prog 161 = some false := by kernel_rfl
theorem tb161 : tbool Try.prog 161 = false := by kernel_rfl
theorem ts161 : tstring Try.prog 161 = false := by kernel_rfl
theorem sl161 : tslice Try.prog 161 = none := by kernel_rfl
theorem ze161 : tzero Try.prog 161 = some [.nilFunc] := by kernel_rfl
theorem sz162 : tsz Try.prog 162 = some 1 := by kernel_rfl
theorem by162 : tbytes Try.prog 162 = some 8 := by kernel_rfl
theorem ag162 : tagg Try.prog 162 = some false := by kernel_rfl
theorem tb162 : tbool Try.prog 162 = false := by kernel_rfl
theorem ts162 : tstring Try.prog 162 = false := by kernel_rfl
theorem sl162 : tslice Try.prog 162 = none := by kernel_rfl
theorem ze162 : tzero Try.prog 162 = some [.nilFunc] := by kernel_rfl
theorem sz163 : tsz Try.prog 163 = some 1 := by kernel_rfl
theorem by163 : tbytes Try.prog 163 = some 8 := by kernel_rfl
theorem ag163 : tagg Try.prog 163 = some false := by kernel_rfl
theorem tb163 : tbool Try.prog 163 = false := by kernel_rfl
theorem ts163 : tstring Try.prog 163 = false := by kernel_rfl
theorem sl163 : tslice Try.prog 163 = none := by kernel_rfl
theorem ze163 : tzero Try.prog 163 = some [.nilFunc] := by kernel_rfl
theorem sz164 : tsz Try.prog 164 = some 1 := by kernel_rfl
theorem by164 : tbytes Try.prog 164 = some 8 := by kernel_rfl
theorem ag164 : tagg Try.prog 164 = some false := by kernel_rfl
theorem tb164 : tbool Try.prog 164 = false := by kernel_rfl
theorem ts164 : tstring Try.prog 164 = false := by kernel_rfl
theorem sl164 : tslice Try.prog 164 = none := by kernel_rfl
theorem ze164 : tzero Try.prog 164 = some [.nilFunc] := by kernel_rfl
theorem sz165 : tsz Try.prog 165 = some 1 := by kernel_rfl
theorem by165 : tbytes Try.prog 165 = some 8 := by kernel_rfl
theorem ag165 : tagg Try.prog 165 = some false := by kernel_rfl
theorem tb165 : tbool Try.prog 165 = false := by kernel_rfl
theorem ts165 : tstring Try.prog 165 = false := by kernel_rfl
theorem sl165 : tslice Try.prog 165 = none := by kernel_rfl
theorem ze165 : tzero Try.prog 165 = some [.nilFunc] := by kernel_rfl
theorem sz166 : tsz Try.prog 166 = some 1 := by kernel_rfl
theorem by166 : tbytes Try.prog 166 = some 8 := by kernel_rfl
theorem ag166 : tagg Try.prog 166 = some false := by kernel_rfl
theorem tb166 : tbool Try.prog 166 = false := by kernel_rfl
theorem ts166 : tstring Try.prog 166 = false := by kernel_rfl
theorem sl166 : tslice Try.prog 166 = none := by kernel_rfl
theorem ze166 : tzero Try.prog 166 = some [.nilFunc] := by kernel_rfl
theorem sz167 : tsz Try.prog 167 = some 1 := by kernel_rfl
theorem by167 : tbytes Try.prog 167 = some 8 := by kernel_rfl
theorem ag167 : tagg Try.prog 167 = some false := by kernel_rfl
theorem tb167 : tbool Try.prog 167 = false := by kernel_rfl
theorem ts167 : tstring Try.prog 167 = false := by kernel_rfl
theorem sl167 : tslice Try.prog 167 = none := by kernel_rfl
theorem ze167 : tzero Try.prog 167 = some [.nilFunc] := by kernel_rfl
theorem sz168 : tsz Try.prog 168 = some 1 := by kernel_rfl
theorem by168 : tbytes Try.prog 168 = some 8 := by kernel_rfl
theorem ag168 : tagg Try.prog 168 = some false := by kernel_rfl
theorem tb168 : tbool Try.prog 168 = false := by kernel_rfl
theorem ts168 : tstring Try.prog 168 = false := by kernel_rfl
theorem sl168 : tslice Try.prog 168 = none := by kernel_rfl
theorem ze168 : tzero Try.prog 168 = some [.nilFunc] := by kernel_rfl
theorem sz169 : tsz Try.prog 169 = some 1 := by kernel_rfl
theorem by169 : tbytes Try.prog 169 = some 8 := by kernel_rfl
theorem ag169 : tagg Try.prog 169 = some false := by kernel_rfl
theorem tb169 : tbool Try.prog 169 = false := by kernel_rfl
theorem ts169 : tstring Try.prog 169 = false := by kernel_rfl
theorem sl169 : tslice Try.prog 169 = none := by kernel_rfl
theorem ze169 : tzero Try.prog 169 = some [.nilFunc] := by kernel_rfl
theorem sz170 : tsz Try.prog 170 = some 1 := by kernel_rfl
theorem by170 : tbytes Try.prog 170 = some 8 := by kernel_rfl
theorem ag170 : tagg Try.prog 170 = some false := by kernel_rfl
theorem tb170 : tbool Try.prog 170 = false := by kernel_rfl
theorem ts170 : tstring Try.prog 170 = false := by kernel_rfl
theorem sl170 : tslice Try.prog 170 = none := by kernel_rfl
theorem ze170 : tzero Try.prog 170 = some [.nilFunc] := by kernel_rfl
theorem sz171 : tsz Try.prog 171 = some 4 := by kernel_rfl
theorem by171 : tbytes Try.prog 171 = some 40 := by kernel_rfl
theorem ag171 : tagg Try.prog 171 = some true := by kernel_rfl
theorem tb171 : tbool Try.prog 171 = false := by kernel_rfl
theorem ts171 : tstring Try.prog 171 = false := by kernel_rfl
theorem sl171 : tslice Try.prog 171 = none := by kernel_rfl
theorem ze171 : tzero Try.prog 171 = some [.pointer none, .pointer none, .pointer none, .string .empty] := by kernel_rfl
theorem st171 : tstruct Try.prog 171 = some [.pointer none, .pointer none, .pointer none, .string .empty] := by kernel_rfl
theorem fl171_0 : tfield Try.prog 171 0 = some (0, 17) := by kernel_rfl
theorem fl171_1 : tfield Try.prog 171 1 = some (1, 17) := by kernel_rfl
theorem fl171_2 : tfield Try.prog 171 2 = some (2, 17) := by kernel_rfl
theorem fl171_3 : tfield Try.prog 171 3 = some (3, 9) := by kernel_rfl
theorem sz172 : tsz Try.prog 172 = some 4 := by kernel_rfl
theorem by172 : tbytes Try.prog 172 = some 40 := by kernel_rfl
theorem ag172 : tagg Try.prog 172 = some true := by kernel_rfl
theorem tb172 : tbool Try.prog 172 = false := by kernel_rfl
theorem ts172 : tstring Try.prog 172 = false := by kernel_rfl
theorem sl172 : tslice Try.prog 172 = none := by kernel_rfl
theorem ze172 : tzero Try.prog 172 = some [.pointer none, .pointer none, .pointer none, .string .empty] := by kernel_rfl
theorem st172 : tstruct Try.prog 172 = some [.pointer none, .pointer none, .pointer none, .string .empty] := by kernel_rfl
theorem fl172_0 : tfield Try.prog 172 0 = some (0, 17) := by kernel_rfl
theorem fl172_1 : tfield Try.prog 172 1 = some (1, 17) := by kernel_rfl
theorem fl172_2 : tfield Try.prog 172 2 = some (2, 17) := by kernel_rfl
theorem fl172_3 : tfield Try.prog 172 3 = some (3, 9) := by kernel_rfl
theorem sz173 : tsz Try.prog 173 = some 0 := by kernel_rfl
theorem by173 : tbytes Try.prog 173 = some 0 := by kernel_rfl
theorem ag173 : tagg Try.prog 173 = some true := by kernel_rfl
theorem tb173 : tbool Try.prog 173 = false := by kernel_rfl
theorem ts173 : tstring Try.prog 173 = false := by kernel_rfl
theorem sl173 : tslice Try.prog 173 = none := by kernel_rfl
theorem ze173 : tzero Try.prog 173 = some [] := by kernel_rfl
theorem sz174 : tsz Try.prog 174 = some 0 := by kernel_rfl
theorem by174 : tbytes Try.prog 174 = some 0 := by kernel_rfl
theorem ag174 : tagg Try.prog 174 = some true := by kernel_rfl
theorem tb174 : tbool Try.prog 174 = false := by kernel_rfl
theorem ts174 : tstring Try.prog 174 = false := by kernel_rfl
theorem sl174 : tslice Try.prog 174 = none := by kernel_rfl
theorem ze174 : tzero Try.prog 174 = some [] := by kernel_rfl
theorem st174 : tstruct Try.prog 174 = some [] := by kernel_rfl
theorem sz175 : tsz Try.prog 175 = some 0 := by kernel_rfl
theorem by175 : tbytes Try.prog 175 = some 0 := by kernel_rfl
theorem ag175 : tagg Try.prog 175 = some true := by kernel_rfl
theorem tb175 : tbool Try.prog 175 = false := by kernel_rfl
theorem ts175 : tstring Try.prog 175 = false := by kernel_rfl
theorem sl175 : tslice Try.prog 175 = none := by kernel_rfl
theorem ze175 : tzero Try.prog 175 = some [] := by kernel_rfl
theorem st175 : tstruct Try.prog 175 = some [] := by kernel_rfl
theorem sz176 : tsz Try.prog 176 = some 1 := by kernel_rfl
theorem by176 : tbytes Try.prog 176 = some 4 := by kernel_rfl
theorem ag176 : tagg Try.prog 176 = some false := by kernel_rfl
theorem tb176 : tbool Try.prog 176 = false := by kernel_rfl
theorem ts176 : tstring Try.prog 176 = false := by kernel_rfl
theorem sl176 : tslice Try.prog 176 = none := by kernel_rfl
theorem un176 : Try.prog.underlying 176 = some (.int .u32) := by kernel_rfl
theorem ze176 : tzero Try.prog 176 = some [.int .u32 0] := by kernel_rfl
theorem sz177 : tsz Try.prog 177 = some 1 := by kernel_rfl
theorem by177 : tbytes Try.prog 177 = some 1 := by kernel_rfl
theorem ag177 : tagg Try.prog 177 = some false := by kernel_rfl
theorem tb177 : tbool Try.prog 177 = false := by kernel_rfl
theorem ts177 : tstring Try.prog 177 = false := by kernel_rfl
theorem sl177 : tslice Try.prog 177 = none := by kernel_rfl
theorem un177 : Try.prog.underlying 177 = some (.int .u8) := by kernel_rfl
theorem ze177 : tzero Try.prog 177 = some [.int .u8 0] := by kernel_rfl
theorem sz178 : tsz Try.prog 178 = some 1 := by kernel_rfl
theorem by178 : tbytes Try.prog 178 = some 1 := by kernel_rfl
theorem ag178 : tagg Try.prog 178 = some false := by kernel_rfl
theorem tb178 : tbool Try.prog 178 = false := by kernel_rfl
theorem ts178 : tstring Try.prog 178 = false := by kernel_rfl
theorem sl178 : tslice Try.prog 178 = none := by kernel_rfl
theorem un178 : Try.prog.underlying 178 = some (.int .u8) := by kernel_rfl
theorem ze178 : tzero Try.prog 178 = some [.int .u8 0] := by kernel_rfl
theorem sz179 : tsz Try.prog 179 = some 1 := by kernel_rfl
theorem by179 : tbytes Try.prog 179 = some 8 := by kernel_rfl
theorem ag179 : tagg Try.prog 179 = some false := by kernel_rfl
theorem tb179 : tbool Try.prog 179 = false := by kernel_rfl
theorem ts179 : tstring Try.prog 179 = false := by kernel_rfl
theorem sl179 : tslice Try.prog 179 = none := by kernel_rfl
theorem ze179 : tzero Try.prog 179 = some [.nilFunc] := by kernel_rfl
theorem sz184 : tsz Try.prog 184 = some 11 := by kernel_rfl
theorem by184 : tbytes Try.prog 184 = some 48 := by kernel_rfl
theorem ag184 : tagg Try.prog 184 = some true := by kernel_rfl
theorem tb184 : tbool Try.prog 184 = false := by kernel_rfl
theorem ts184 : tstring Try.prog 184 = false := by kernel_rfl
theorem sl184 : tslice Try.prog 184 = none := by kernel_rfl
theorem ze184 : tzero Try.prog 184 = some [.int .u64 0, .int .u64 0, .int .u32 0, .int .u8 0, .int .u8 0, .int .u8 0, .int .u8 0, .nilFunc, .pointer none, .int .i32 0, .int .i32 0] := by kernel_rfl
theorem st184 : tstruct Try.prog 184 = some [.int .u64 0, .int .u64 0, .int .u32 0, .int .u8 0, .int .u8 0, .int .u8 0, .int .u8 0, .nilFunc, .pointer none, .int .i32 0, .int .i32 0] := by kernel_rfl
theorem fl184_0 : tfield Try.prog 184 0 = some (0, 12) := by kernel_rfl
theorem fl184_1 : tfield Try.prog 184 1 = some (1, 12) := by kernel_rfl
theorem fl184_2 : tfield Try.prog 184 2 = some (2, 176) := by kernel_rfl
theorem fl184_3 : tfield Try.prog 184 3 = some (3, 177) := by kernel_rfl
theorem fl184_4 : tfield Try.prog 184 4 = some (4, 5) := by kernel_rfl
theorem fl184_5 : tfield Try.prog 184 5 = some (5, 5) := by kernel_rfl
theorem fl184_6 : tfield Try.prog 184 6 = some (6, 178) := by kernel_rfl
theorem fl184_7 : tfield Try.prog 184 7 = some (7, 179) := by kernel_rfl
theorem fl184_8 : tfield Try.prog 184 8 = some (8, 180) := by kernel_rfl
theorem fl184_9 : tfield Try.prog 184 9 = some (9, 181) := by kernel_rfl
theorem fl184_10 : tfield Try.prog 184 10 = some (10, 182) := by kernel_rfl
theorem ok3 : fnOK Try.prog 3 = true := by kernel_rfl
theorem ok4 : fnOK Try.prog 4 = true := by kernel_rfl
theorem ok5 : fnOK Try.prog 5 = true := by kernel_rfl
theorem ok6 : fnOK Try.prog 6 = true := by kernel_rfl
theorem ok7 : fnOK Try.prog 7 = true := by kernel_rfl
theorem ok8 : fnOK Try.prog 8 = true := by kernel_rfl
theorem ok9 : fnOK Try.prog 9 = true := by kernel_rfl
theorem ok10 : fnOK Try.prog 10 = true := by kernel_rfl
theorem ok11 : fnOK Try.prog 11 = true := by kernel_rfl
theorem ok12 : fnOK Try.prog 12 = true := by kernel_rfl
theorem ok13 : fnOK Try.prog 13 = true := by kernel_rfl
theorem ok14 : fnOK Try.prog 14 = true := by kernel_rfl
theorem ok15 : fnOK Try.prog 15 = true := by kernel_rfl
theorem ok16 : fnOK Try.prog 16 = true := by kernel_rfl
theorem ok17 : fnOK Try.prog 17 = true := by kernel_rfl
theorem ok18 : fnOK Try.prog 18 = true := by kernel_rfl
theorem ok19 : fnOK Try.prog 19 = true := by kernel_rfl
theorem ok20 : fnOK Try.prog 20 = true := by kernel_rfl
theorem ok21 : fnOK Try.prog 21 = true := by kernel_rfl
theorem ok22 : fnOK Try.prog 22 = true := by kernel_rfl
theorem ok23 : fnOK Try.prog 23 = true := by kernel_rfl
theorem ok24 : fnOK Try.prog 24 = true := by kernel_rfl
theorem ok25 : fnOK Try.prog 25 = true := by kernel_rfl
theorem ok26 : fnOK Try.prog 26 = true := by kernel_rfl
theorem ok27 : fnOK Try.prog 27 = true := by kernel_rfl
theorem ok28 : fnOK Try.prog 28 = true := by kernel_rfl
theorem ok29 : fnOK Try.prog 29 = true := by kernel_rfl
theorem ok30 : fnOK Try.prog 30 = true := by kernel_rfl
theorem ok31 : fnOK Try.prog 31 = true := by kernel_rfl
theorem ok32 : fnOK Try.prog 32 = true := by kernel_rfl
theorem ok33 : fnOK Try.prog 33 = true := by kernel_rfl
theorem ok34 : fnOK Try.prog 34 = true := by kernel_rfl
theorem ok35 : fnOK Try.prog 35 = true := by kernel_rfl
theorem ok36 : fnOK Try.prog 36 = true := by kernel_rfl
theorem ok37 : fnOK Try.prog 37 = true := by kernel_rfl
theorem ok38 : fnOK Try.prog 38 = true := by kernel_rfl
theorem ok39 : fnOK Try.prog 39 = true := by kernel_rfl
theorem ok40 : fnOK Try.prog 40 = true := by kernel_rfl
theorem ok41 : fnOK Try.prog 41 = true := by kernel_rfl
theorem ok42 : fnOK Try.prog 42 = true := by kernel_rfl
theorem ok43 : fnOK Try.prog 43 = true := by kernel_rfl
theorem ok44 : fnOK Try.prog 44 = true := by kernel_rfl
theorem ok45 : fnOK Try.prog 45 = true := by kernel_rfl
theorem ok46 : fnOK Try.prog 46 = true := by kernel_rfl
theorem ok47 : fnOK Try.prog 47 = true := by kernel_rfl
theorem ok48 : fnOK Try.prog 48 = true := by kernel_rfl
theorem ok49 : fnOK Try.prog 49 = true := by kernel_rfl
theorem ok50 : fnOK Try.prog 50 = true := by kernel_rfl
theorem ok51 : fnOK Try.prog 51 = true := by kernel_rfl
theorem ok52 : fnOK Try.prog 52 = true := by kernel_rfl
theorem ok53 : fnOK Try.prog 53 = true := by kernel_rfl
theorem ok54 : fnOK Try.prog 54 = true := by kernel_rfl
theorem ok55 : fnOK Try.prog 55 = true := by kernel_rfl
theorem ok56 : fnOK Try.prog 56 = true := by kernel_rfl
theorem ok57 : fnOK Try.prog 57 = true := by kernel_rfl
theorem ok58 : fnOK Try.prog 58 = true := by kernel_rfl
theorem ok59 : fnOK Try.prog 59 = true := by kernel_rfl
theorem ok60 : fnOK Try.prog 60 = true := by kernel_rfl
theorem ok61 : fnOK Try.prog 61 = true := by kernel_rfl
theorem ok62 : fnOK Try.prog 62 = true := by kernel_rfl
theorem ok63 : fnOK Try.prog 63 = true := by kernel_rfl
theorem ok64 : fnOK Try.prog 64 = true := by kernel_rfl
theorem ok65 : fnOK Try.prog 65 = true := by kernel_rfl
theorem ok66 : fnOK Try.prog 66 = true := by kernel_rfl
theorem ok67 : fnOK Try.prog 67 = true := by kernel_rfl
theorem ok68 : fnOK Try.prog 68 = true := by kernel_rfl
theorem ok69 : fnOK Try.prog 69 = true := by kernel_rfl
theorem ok70 : fnOK Try.prog 70 = true := by kernel_rfl
theorem ok71 : fnOK Try.prog 71 = true := by kernel_rfl
theorem ok72 : fnOK Try.prog 72 = true := by kernel_rfl
theorem ok73 : fnOK Try.prog 73 = true := by kernel_rfl
theorem ok74 : fnOK Try.prog 74 = true := by kernel_rfl
theorem ok75 : fnOK Try.prog 75 = true := by kernel_rfl
theorem ok76 : fnOK Try.prog 76 = true := by kernel_rfl
theorem ok77 : fnOK Try.prog 77 = true := by kernel_rfl
theorem ok78 : fnOK Try.prog 78 = true := by kernel_rfl
theorem ok79 : fnOK Try.prog 79 = true := by kernel_rfl
theorem ok80 : fnOK Try.prog 80 = true := by kernel_rfl
theorem ok81 : fnOK Try.prog 81 = true := by kernel_rfl
theorem ok82 : fnOK Try.prog 82 = true := by kernel_rfl
theorem ok83 : fnOK Try.prog 83 = true := by kernel_rfl
theorem ok84 : fnOK Try.prog 84 = true := by kernel_rfl
theorem ok85 : fnOK Try.prog 85 = true := by kernel_rfl
theorem ok86 : fnOK Try.prog 86 = true := by kernel_rfl
theorem ok87 : fnOK Try.prog 87 = true := by kernel_rfl
theorem ok88 : fnOK Try.prog 88 = true := by kernel_rfl
theorem ok89 : fnOK Try.prog 89 = true := by kernel_rfl
theorem ok90 : fnOK Try.prog 90 = true := by kernel_rfl
theorem ok91 : fnOK Try.prog 91 = true := by kernel_rfl
theorem ok92 : fnOK Try.prog 92 = true := by kernel_rfl
theorem ok93 : fnOK Try.prog 93 = true := by kernel_rfl
theorem ok94 : fnOK Try.prog 94 = true := by kernel_rfl
theorem ok95 : fnOK Try.prog 95 = true := by kernel_rfl
theorem ok96 : fnOK Try.prog 96 = true := by kernel_rfl
theorem ok97 : fnOK Try.prog 97 = true := by kernel_rfl
theorem ok98 : fnOK Try.prog 98 = true := by kernel_rfl
theorem ok99 : fnOK Try.prog 99 = true := by kernel_rfl
theorem ok100 : fnOK Try.prog 100 = true := by kernel_rfl
theorem ok101 : fnOK Try.prog 101 = true := by kernel_rfl
theorem ok102 : fnOK Try.prog 102 = true := by kernel_rfl
theorem ok103 : fnOK Try.prog 103 = true := by kernel_rfl
theorem ok104 : fnOK Try.prog 104 = true := by kernel_rfl
theorem ok105 : fnOK Try.prog 105 = true := by kernel_rfl
theorem ok106 : fnOK Try.prog 106 = true := by kernel_rfl
theorem ok107 : fnOK Try.prog 107 = true := by kernel_rfl
theorem ok108 : fnOK Try.prog 108 = true := by kernel_rfl
theorem ok109 : fnOK Try.prog 109 = true := by kernel_rfl
theorem ok110 : fnOK Try.prog 110 = true := by kernel_rfl
theorem ok111 : fnOK Try.prog 111 = true := by kernel_rfl
theorem ok112 : fnOK Try.prog 112 = true := by kernel_rfl
theorem ok113 : fnOK Try.prog 113 = true := by kernel_rfl
theorem ok114 : fnOK Try.prog 114 = true := by kernel_rfl
theorem ok115 : fnOK Try.prog 115 = true := by kernel_rfl
theorem ok116 : fnOK Try.prog 116 = true := by kernel_rfl
theorem ok117 : fnOK Try.prog 117 = true := by kernel_rfl
theorem ok118 : fnOK Try.prog 118 = true := by kernel_rfl
theorem ok119 : fnOK Try.prog 119 = true := by kernel_rfl
theorem ok120 : fnOK Try.prog 120 = true := by kernel_rfl
theorem ok121 : fnOK Try.prog 121 = true := by kernel_rfl
theorem ok122 : fnOK Try.prog 122 = true := by kernel_rfl
theorem ok123 : fnOK Try.prog 123 = true := by kernel_rfl
theorem ok124 : fnOK Try.prog 124 = true := by kernel_rfl
theorem ok125 : fnOK Try.prog 125 = true := by kernel_rfl
theorem ok126 : fnOK Try.prog 126 = true := by kernel_rfl
theorem ok127 : fnOK Try.prog 127 = true := by kernel_rfl
theorem ok128 : fnOK Try.prog 128 = true := by kernel_rfl
theorem ok129 : fnOK Try.prog 129 = true := by kernel_rfl
theorem ok130 : fnOK Try.prog 130 = true := by kernel_rfl
theorem ok131 : fnOK Try.prog 131 = true := by kernel_rfl
theorem ok132 : fnOK Try.prog 132 = true := by kernel_rfl
theorem ok133 : fnOK Try.prog 133 = true := by kernel_rfl
theorem ok134 : fnOK Try.prog 134 = true := by kernel_rfl
theorem ok135 : fnOK Try.prog 135 = true := by kernel_rfl
theorem ok136 : fnOK Try.prog 136 = true := by kernel_rfl
theorem ok137 : fnOK Try.prog 137 = true := by kernel_rfl
theorem ok138 : fnOK Try.prog 138 = true := by kernel_rfl
theorem ok139 : fnOK Try.prog 139 = true := by kernel_rfl
theorem ok140 : fnOK Try.prog 140 = true := by kernel_rfl
theorem ok141 : fnOK Try.prog 141 = true := by kernel_rfl
theorem ok142 : fnOK Try.prog 142 = true := by kernel_rfl
theorem ok143 : fnOK Try.prog 143 = true := by kernel_rfl
theorem ok144 : fnOK Try.prog 144 = true := by kernel_rfl
theorem ok145 : fnOK Try.prog 145 = true := by kernel_rfl
theorem ok146 : fnOK Try.prog 146 = true := by kernel_rfl
theorem ok147 : fnOK Try.prog 147 = true := by kernel_rfl
theorem ok148 : fnOK Try.prog 148 = true := by kernel_rfl
theorem ok149 : fnOK Try.prog 149 = true := by kernel_rfl
theorem ok150 : fnOK Try.prog 150 = true := by kernel_rfl
theorem ok151 : fnOK Try.prog 151 = true := by kernel_rfl
theorem ok152 : fnOK Try.prog 152 = true := by kernel_rfl
theorem ok153 : fnOK Try.prog 153 = true := by kernel_rfl
theorem ok154 : fnOK Try.prog 154 = true := by kernel_rfl
theorem ok155 : fnOK Try.prog 155 = true := by kernel_rfl
theorem ok156 : fnOK Try.prog 156 = true := by kernel_rfl
theorem ok157 : fnOK Try.prog 157 = true := by kernel_rfl
theorem ok158 : fnOK Try.prog 158 = true := by kernel_rfl
theorem ok159 : fnOK Try.prog 159 = true := by kernel_rfl
theorem ok160 : fnOK Try.prog 160 = true := by kernel_rfl
theorem ok161 : fnOK Try.prog 161 = true := by kernel_rfl
theorem ok162 : fnOK Try.prog 162 = true := by kernel_rfl
theorem ok163 : fnOK Try.prog 163 = true := by kernel_rfl
theorem ok164 : fnOK Try.prog 164 = true := by kernel_rfl
theorem ok165 : fnOK Try.prog 165 = true := by kernel_rfl
theorem ok166 : fnOK Try.prog 166 = true := by kernel_rfl
theorem ok167 : fnOK Try.prog 167 = true := by kernel_rfl
theorem ok168 : fnOK Try.prog 168 = true := by kernel_rfl
theorem ok169 : fnOK Try.prog 169 = true := by kernel_rfl
theorem ok170 : fnOK Try.prog 170 = true := by kernel_rfl
theorem ok171 : fnOK Try.prog 171 = true := by kernel_rfl
theorem ok172 : fnOK Try.prog 172 = true := by kernel_rfl
theorem ok173 : fnOK Try.prog 173 = true := by kernel_rfl
theorem ok174 : fnOK Try.prog 174 = true := by kernel_rfl
theorem ok175 : fnOK Try.prog 175 = true := by kernel_rfl
theorem ok176 : fnOK Try.prog 176 = true := by kernel_rfl
theorem ok177 : fnOK Try.prog 177 = true := by kernel_rfl
theorem ok178 : fnOK Try.prog 178 = true := by kernel_rfl
attribute [go_sem] sz0 by0 ag0 tb0 ts0 sl0 sz1 by1 ag1 tb1 ts1 sl1 ze1 sz2
  by2 ag2 tb2 ts2 sl2 un2 ze2 sz3 by3 ag3 tb3 ts3 sl3 un3
  ze3 sz4 by4 ag4 tb4 ts4 sl4 ze4 sz5 by5 ag5 tb5 ts5 sl5
  un5 ze5 sz6 by6 ag6 tb6 ts6 sl6 un6 ze6 sz7 by7 ag7 tb7
  ts7 sl7 ze7 st7 fl7_0 fl7_1 fl7_2 fl7_3 sz8 by8 ag8 tb8 ts8 sl8
  ze8 st8 fl8_0 fl8_1 fl8_2 fl8_3 sz9 by9 ag9 tb9 ts9 sl9 ze9 sz10
  by10 ag10 tb10 ts10 sl10 ze10 sz11 by11 ag11 tb11 ts11 sl11 ze11 sz12
  by12 ag12 tb12 ts12 sl12 un12 ze12 sz13 by13 ag13 tb13 ts13 sl13 ze13
  st13 fl13_0 fl13_1 sz14 by14 ag14 tb14 ts14 sl14 ze14 st14 fl14_0 fl14_1 sz15
  by15 ag15 tb15 ts15 sl15 ze15 sz16 by16 ag16 tb16 ts16 sl16 ze16 sz17
  by17 ag17 tb17 ts17 sl17 ze17 sz18 by18 ag18 tb18 ts18 sl18 ze18 st18
  fl18_0 sz19 by19 ag19 tb19 ts19 sl19 ze19 st19 fl19_0 sz20 by20 ag20 tb20
  ts20 sl20 ze20 sz21 by21 ag21 tb21 ts21 sl21 un21 ze21 sz22 by22 ag22
  tb22 ts22 sl22 ze22 sz23 by23 ag23 tb23 ts23 sl23 ze23 sz24 by24 ag24
  tb24 ts24 sl24 ze24 sz25 by25 ag25 tb25 ts25 sl25 ze25 st25 fl25_0 fl25_1
  fl25_2 sz26 by26 ag26 tb26 ts26 sl26 ze26 st26 fl26_0 fl26_1 fl26_2 sz27 by27
  ag27 tb27 ts27 sl27 ze27 sz28 by28 ag28 tb28 ts28 sl28 ze28 sz29 by29
  ag29 tb29 ts29 sl29 ze29 sz30 by30 ag30 tb30 ts30 sl30 ze30 sz31 by31
  ag31 tb31 ts31 sl31 ze31 sz32 by32 ag32 tb32 ts32 sl32 ze32 sz33 by33
  ag33 tb33 ts33 sl33 sz34 by34 ag34 tb34 ts34 sl34 ze34 sz35 by35 ag35
  tb35 ts35 sl35 ze35 sz36 by36 ag36 tb36 ts36 sl36 ze36 sz37 by37 ag37
  tb37 ts37 sl37 ze37 st37 fl37_0 fl37_1 sz38 by38 ag38 tb38 ts38 sl38 ze38
  st38 fl38_0 fl38_1 sz39 by39 ag39 tb39 ts39 sl39 sz40 by40 ag40 tb40 ts40
  sl40 ze40 sz41 by41 ag41 tb41 ts41 sl41 ze41 sz42 by42 ag42 tb42 ts42
  sl42 ze42 sz43 by43 ag43 tb43 ts43 sl43 ze43 sz44 by44 ag44 tb44 ts44
  sl44 sz45 by45 ag45 tb45 ts45 sl45 ze45 sz46 by46 ag46 tb46 ts46 sl46
  ze46 sz47 by47 ag47 tb47 ts47 sl47 ze47 sz48 by48 ag48 tb48 ts48 sl48
  ze48 sz49 by49 ag49 tb49 ts49 sl49 sz50 by50 ag50 tb50 ts50 sl50 ze50
  sz51 by51 ag51 tb51 ts51 sl51 ze51 sz52 by52 ag52 tb52 ts52 sl52 ze52
  sz53 by53 ag53 tb53 ts53 sl53 sz54 by54 ag54 tb54 ts54 sl54 ze54 sz55
  by55 ag55 tb55 ts55 sl55 sz56 by56 ag56 tb56 ts56 sl56 ze56 sz57 by57
  ag57 tb57 ts57 sl57 ze57 sz58 by58 ag58 tb58 ts58 sl58 sz59 by59 ag59
  tb59 ts59 sl59 ze59 sz60 by60 ag60 tb60 ts60 sl60 sz61 by61 ag61 tb61
  ts61 sl61 ze61 sz62 by62 ag62 tb62 ts62 sl62 ze62 sz63 by63 ag63 tb63
  ts63 sl63 sz64 by64 ag64 tb64 ts64 sl64 ze64 sz65 by65 ag65 tb65 ts65
  sl65 ze65 sz66 by66 ag66 tb66 ts66 sl66 ze66 sz67 by67 ag67 tb67 ts67
  sl67 sz68 by68 ag68 tb68 ts68 sl68 ze68 sz69 by69 ag69 tb69 ts69 sl69
  ze69 sz70 by70 ag70 tb70 ts70 sl70 ze70 sz71 by71 ag71 tb71 ts71 sl71
  ze71 st71 fl71_0 fl71_1 fl71_2 fl71_3 sz72 by72 ag72 tb72 ts72 sl72 ze72 st72
  fl72_0 fl72_1 fl72_2 fl72_3 sz73 by73 ag73 tb73 ts73 sl73 ze73 sz74 by74 ag74
  tb74 ts74 sl74 ze74 sz75 by75 ag75 tb75 ts75 sl75 ze75 sz76 by76 ag76
  tb76 ts76 sl76 ze76 sz77 by77 ag77 tb77 ts77 sl77 ze77 st77 fl77_0 fl77_1
  fl77_2 sz78 by78 ag78 tb78 ts78 sl78 ze78 st78 fl78_0 fl78_1 fl78_2 sz79 by79
  ag79 tb79 ts79 sl79 ze79 st79 fl79_0 fl79_1 fl79_2 fl79_3 fl79_4 fl79_5 fl79_6 sz80
  by80 ag80 tb80 ts80 sl80 ze80 st80 fl80_0 fl80_1 fl80_2 fl80_3 fl80_4 fl80_5 fl80_6
  sz81 by81 ag81 tb81 ts81 sl81 ze81 sz82 by82 ag82 tb82 ts82 sl82 ze82
  sz83 by83 ag83 tb83 ts83 sl83 ze83 sz84 by84 ag84 tb84 ts84 sl84 ze84
  sz85 by85 ag85 tb85 ts85 sl85 ze85 sz86 by86 ag86 tb86 ts86 sl86 ze86
  sz87 by87 ag87 tb87 ts87 sl87 ze87 sz88 by88 ag88 tb88 ts88 sl88 ze88
  sz89 by89 ag89 tb89 ts89 sl89 ze89 st89 fl89_0 fl89_1 fl89_2 sz90 by90 ag90
  tb90 ts90 sl90 ze90 st90 fl90_0 fl90_1 fl90_2 sz91 by91 ag91 tb91 ts91 sl91
  ze91 sz92 by92 ag92 tb92 ts92 sl92 ze92 sz93 by93 ag93 tb93 ts93 sl93
  ze93 st93 fl93_0 fl93_1 sz94 by94 ag94 tb94 ts94 sl94 ze94 st94 fl94_0 fl94_1
  sz95 by95 ag95 tb95 ts95 sl95 ze95 sz96 by96 ag96 tb96 ts96 sl96 ze96
  st96 ti96 fl96_0 fl96_1 sz97 by97 ag97 tb97 ts97 sl97 ze97 st97 ti97 fl97_0
  fl97_1 sz98 by98 ag98 tb98 ts98 sl98 ze98 sz99 by99 ag99 tb99 ts99 sl99
  ze99 sz100 by100 ag100 tb100 ts100 sl100 ze100 sz101 by101 ag101 tb101 ts101 sl101
  ze101 sz102 by102 ag102 tb102 ts102 sl102 ze102 sz103 by103 ag103 tb103 ts103 sl103
  ze103 sz104 by104 ag104 tb104 ts104 sl104 sz105 by105 ag105 tb105 ts105 sl105 ze105
  sz106 by106 ag106 tb106 ts106 sl106 ze106 sz107 by107 ag107 tb107 ts107 sl107 ze107
  sz108 by108 ag108 tb108 ts108 sl108 ze108 sz109 by109 ag109 tb109 ts109 sl109 ze109
  sz110 by110 ag110 tb110 ts110 sl110 ze110 sz111 by111 ag111 tb111 ts111 sl111 ze111
  sz112 by112 ag112 tb112 ts112 sl112 ze112 sz113 by113 ag113 tb113 ts113 sl113 ze113
  sz114 by114 ag114 tb114 ts114 sl114 ze114 sz115 by115 ag115 tb115 ts115 sl115 ze115
  sz116 by116 ag116 tb116 ts116 sl116 ze116 sz117 by117 ag117 tb117 ts117 sl117 ze117
  sz118 by118 ag118 tb118 ts118 sl118 ze118 sz119 by119 ag119 tb119 ts119 sl119 ze119
  sz120 by120 ag120 tb120 ts120 sl120 ze120 sz121 by121 ag121 tb121 ts121 sl121 ze121
  sz122 by122 ag122 tb122 ts122 sl122 ze122 sz123 by123 ag123 tb123 ts123 sl123 ze123
  sz124 by124 ag124 tb124 ts124 sl124 ze124 sz125 by125 ag125 tb125 ts125 sl125 ze125
  st125 fl125_0 fl125_1 sz126 by126 ag126 tb126 ts126 sl126 ze126 st126 fl126_0 fl126_1 sz127
  by127 ag127 tb127 ts127 sl127 ze127 sz128 by128 ag128 tb128 ts128 sl128 ze128 sz129
  by129 ag129 tb129 ts129 sl129 ze129 sz130 by130 ag130 tb130 ts130 sl130 ze130 sz131
  by131 ag131 tb131 ts131 sl131 ze131 sz132 by132 ag132 tb132 ts132 sl132 ze132 sz133
  by133 ag133 tb133 ts133 sl133 sz134 by134 ag134 tb134 ts134 sl134 ze134 sz135 by135
  ag135 tb135 ts135 sl135 ze135 sz136 by136 ag136 tb136 ts136 sl136 ze136 sz137 by137
  ag137 tb137 ts137 sl137 ze137 sz138 by138 ag138 tb138 ts138 sl138 ze138 sz139 by139
  ag139 tb139 ts139 sl139 ze139 sz140 by140 ag140 tb140 ts140 sl140 ze140 sz141 by141
  ag141 tb141 ts141 sl141 ze141 sz142 by142 ag142 tb142 ts142 sl142 ze142 sz143 by143
  ag143 tb143 ts143 sl143 ze143 sz144 by144 ag144 tb144 ts144 sl144 ze144 sz145 by145
  ag145 tb145 ts145 sl145 ze145 sz146 by146 ag146 tb146 ts146 sl146 ze146 sz147 by147
  ag147 tb147 ts147 sl147 ze147 sz148 by148 ag148 tb148 ts148 sl148 ze148 sz149 by149
  ag149 tb149 ts149 sl149 ze149 sz150 by150 ag150 tb150 ts150 sl150 ze150 sz151 by151
  ag151 tb151 ts151 sl151 ze151 sz152 by152 ag152 tb152 ts152 sl152 ze152 sz153 by153
  ag153 tb153 ts153 sl153 ze153 sz154 by154 ag154 tb154 ts154 sl154 ze154 sz155 by155
  ag155 tb155 ts155 sl155 ze155 sz156 by156 ag156 tb156 ts156 sl156 ze156 sz157 by157
  ag157 tb157 ts157 sl157 ze157 sz158 by158 ag158 tb158 ts158 sl158 ze158 sz159 by159
  ag159 tb159 ts159 sl159 ze159 sz160 by160 ag160 tb160 ts160 sl160 ze160 sz161 by161
  ag161 tb161 ts161 sl161 ze161 sz162 by162 ag162 tb162 ts162 sl162 ze162 sz163 by163
  ag163 tb163 ts163 sl163 ze163 sz164 by164 ag164 tb164 ts164 sl164 ze164 sz165 by165
  ag165 tb165 ts165 sl165 ze165 sz166 by166 ag166 tb166 ts166 sl166 ze166 sz167 by167
  ag167 tb167 ts167 sl167 ze167 sz168 by168 ag168 tb168 ts168 sl168 ze168 sz169 by169
  ag169 tb169 ts169 sl169 ze169 sz170 by170 ag170 tb170 ts170 sl170 ze170 sz171 by171
  ag171 tb171 ts171 sl171 ze171 st171 fl171_0 fl171_1 fl171_2 fl171_3 sz172 by172 ag172 tb172
  ts172 sl172 ze172 st172 fl172_0 fl172_1 fl172_2 fl172_3 sz173 by173 ag173 tb173 ts173 sl173
  ze173 sz174 by174 ag174 tb174 ts174 sl174 ze174 st174 sz175 by175 ag175 tb175 ts175
  sl175 ze175 st175 sz176 by176 ag176 tb176 ts176 sl176 un176 ze176 sz177 by177 ag177
  tb177 ts177 sl177 un177 ze177 sz178 by178 ag178 tb178 ts178 sl178 un178 ze178 sz179
  by179 ag179 tb179 ts179 sl179 ze179 sz184 by184 ag184 tb184 ts184 sl184 ze184 st184
  fl184_0 fl184_1 fl184_2 fl184_3 fl184_4 fl184_5 fl184_6 fl184_7 fl184_8 fl184_9 fl184_10 Try.f3 Try.f4 Try.f5
  Try.f6 Try.f7 Try.f8 Try.f9 Try.f10 Try.f11 Try.f12 Try.f13 Try.f14 Try.f15 Try.f16 Try.f17 Try.f18 Try.f19
  Try.f20 Try.f21 Try.f22 Try.f23 Try.f24 Try.f25 Try.f26 Try.f27 Try.f28 Try.f29 Try.f30 Try.f31 Try.f32 Try.f33
  Try.f34 Try.f35 Try.f36 Try.f37 Try.f38 Try.f39 Try.f40 Try.f41 Try.f42 Try.f43 Try.f44 Try.f45 Try.f46 Try.f47
  Try.f48 Try.f49 Try.f50 Try.f51 Try.f52 Try.f53 Try.f54 Try.f55 Try.f56 Try.f57 Try.f58 Try.f59 Try.f60 Try.f61
  Try.f62 Try.f63 Try.f64 Try.f65 Try.f66 Try.f67 Try.f68 Try.f69 Try.f70 Try.f71 Try.f72 Try.f73 Try.f74 Try.f75
  Try.f76 Try.f77 Try.f78 Try.f79 Try.f80 Try.f81 Try.f82 Try.f83 Try.f84 Try.f85 Try.f86 Try.f87 Try.f88 Try.f89
  Try.f90 Try.f91 Try.f92 Try.f93 Try.f94 Try.f95 Try.f96 Try.f97 Try.f98 Try.f99 Try.f100 Try.f101 Try.f102 Try.f103
  Try.f104 Try.f105 Try.f106 Try.f107 Try.f108 Try.f109 Try.f110 Try.f111 Try.f112 Try.f113 Try.f114 Try.f115 Try.f116 Try.f117
  Try.f118 Try.f119 Try.f120 Try.f121 Try.f122 Try.f123 Try.f124 Try.f125 Try.f126 Try.f127 Try.f128 Try.f129 Try.f130 Try.f131
  Try.f132 Try.f133 Try.f134 Try.f135 Try.f136 Try.f137 Try.f138 Try.f139 Try.f140 Try.f141 Try.f142 Try.f143 Try.f144 Try.f145
  Try.f146 Try.f147 Try.f148 Try.f149 Try.f150 Try.f151 Try.f152 Try.f153 Try.f154 Try.f155 Try.f156 Try.f157 Try.f158 Try.f159
  Try.f160 Try.f161 Try.f162 Try.f163 Try.f164 Try.f165 Try.f166 Try.f167 Try.f168 Try.f169 Try.f170 Try.f171 Try.f172 Try.f173
  Try.f174 Try.f175 Try.f176 Try.f177 Try.f178
end Go.Proofs.Ytclgjiffpijgmaa.CtF
