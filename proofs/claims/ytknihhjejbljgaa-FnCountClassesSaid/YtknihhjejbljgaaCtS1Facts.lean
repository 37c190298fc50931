import Derived.Test.YtknihhjejbljgaaCtW
import Derived.Test.YtknihhjejbljgaaChecked
import Derived.KernelRfl
set_option linter.unusedVariables false
namespace Go.Proofs.Ytknihhjejbljgaa.CtF
open Go Go.CT

theorem mo : Try.prog.follows .mixedOrders = true := by kernel_rfl
theorem sz0 : tsz Try.prog 0 = some 1 := by kernel_rfl
theorem by0 : tbytes Try.prog 0 = some 0 := by kernel_rfl
theorem ag0 : tagg Try.prog 0 = some false := by kernel_rfl
theorem tb0 : tbool Try.prog 0 = false := by kernel_rfl
theorem ts0 : tstring Try.prog 0 = false := by kernel_rfl
theorem sl0 : tslice Try.prog 0 = none := by kernel_rfl
theorem sz1 : tsz Try.prog 1 = some 1 := by kernel_rfl
theorem by1 : tbytes Try.prog 1 = some 8 := by kernel_rfl
theorem ag1 : tagg Try.prog 1 = some false := by kernel_rfl
theorem tb1 : tbool Try.prog 1 = false := by kernel_rfl
theorem ts1 : tstring Try.prog 1 = false := by kernel_rfl
theorem sl1 : tslice Try.prog 1 = none := by kernel_rfl
theorem ze1 : tzero Try.prog 1 = some [.nilFunc] := by kernel_rfl
theorem sz2 : tsz Try.prog 2 = some 1 := by kernel_rfl
theorem by2 : tbytes Try.prog 2 = some 8 := by kernel_rfl
theorem ag2 : tagg Try.prog 2 = some false := by kernel_rfl
theorem tb2 : tbool Try.prog 2 = false := by kernel_rfl
theorem ts2 : tstring Try.prog 2 = false := by kernel_rfl
theorem sl2 : tslice Try.prog 2 = none := by kernel_rfl
theorem un2 : Try.prog.underlying 2 = some (.int .i64) := by kernel_rfl
theorem ze2 : tzero Try.prog 2 = some [.int .i64 0] := by kernel_rfl
theorem sz3 : tsz Try.prog 3 = some 1 := by kernel_rfl
theorem by3 : tbytes Try.prog 3 = some 8 := by kernel_rfl
theorem ag3 : tagg Try.prog 3 = some false := by kernel_rfl
theorem tb3 : tbool Try.prog 3 = false := by kernel_rfl
theorem ts3 : tstring Try.prog 3 = false := by kernel_rfl
theorem sl3 : tslice Try.prog 3 = none := by kernel_rfl
theorem un3 : Try.prog.underlying 3 = some (.int .i64) := by kernel_rfl
theorem ze3 : tzero Try.prog 3 = some [.int .i64 0] := by kernel_rfl
theorem sz4 : tsz Try.prog 4 = some 1 := by kernel_rfl
theorem by4 : tbytes Try.prog 4 = some 1 := by kernel_rfl
theorem ag4 : tagg Try.prog 4 = some false := by kernel_rfl
theorem tb4 : tbool Try.prog 4 = true := by kernel_rfl
theorem ts4 : tstring Try.prog 4 = false := by kernel_rfl
theorem sl4 : tslice Try.prog 4 = none := by kernel_rfl
theorem ze4 : tzero Try.prog 4 = some [.bool false] := by kernel_rfl
theorem sz5 : tsz Try.prog 5 = some 1 := by kernel_rfl
theorem by5 : tbytes Try.prog 5 = some 1 := by kernel_rfl
theorem ag5 : tagg Try.prog 5 = some false := by kernel_rfl
theorem tb5 : tbool Try.prog 5 = false := by kernel_rfl
theorem ts5 : tstring Try.prog 5 = false := by kernel_rfl
theorem sl5 : tslice Try.prog 5 = none := by kernel_rfl
theorem un5 : Try.prog.underlying 5 = some (.int .u8) := by kernel_rfl
theorem ze5 : tzero Try.prog 5 = some [.int .u8 0] := by kernel_rfl
theorem sz6 : tsz Try.prog 6 = some 1 := by kernel_rfl
theorem by6 : tbytes Try.prog 6 = some 1 := by kernel_rfl
theorem ag6 : tagg Try.prog 6 = some false := by kernel_rfl
theorem tb6 : tbool Try.prog 6 = false := by kernel_rfl
theorem ts6 : tstring Try.prog 6 = false := by kernel_rfl
theorem sl6 : tslice Try.prog 6 = none := by kernel_rfl
theorem un6 : Try.prog.underlying 6 = some (.int .u8) := by kernel_rfl
theorem ze6 : tzero Try.prog 6 = some [.int .u8 0] := by kernel_rfl
theorem sz7 : tsz Try.prog 7 = some 4 := by kernel_rfl
theorem by7 : tbytes Try.prog 7 = some 24 := by kernel_rfl
theorem ag7 : tagg Try.prog 7 = some true := by kernel_rfl
theorem tb7 : tbool Try.prog 7 = false := by kernel_rfl
theorem ts7 : tstring Try.prog 7 = false := by kernel_rfl
theorem sl7 : tslice Try.prog 7 = none := by kernel_rfl
theorem ze7 : tzero Try.prog 7 = some [.int .i64 0, .int .i64 0, .bool false, .int .u8 0] := by kernel_rfl
theorem st7 : tstruct Try.prog 7 = some [.int .i64 0, .int .i64 0, .bool false, .int .u8 0] := by kernel_rfl
theorem fl7_0 : tfield Try.prog 7 0 = some (0, 2) := by kernel_rfl
theorem fl7_1 : tfield Try.prog 7 1 = some (1, 3) := by kernel_rfl
theorem fl7_2 : tfield Try.prog 7 2 = some (2, 4) := by kernel_rfl
theorem fl7_3 : tfield Try.prog 7 3 = some (3, 6) := by kernel_rfl
theorem sz8 : tsz Try.prog 8 = some 4 := by kernel_rfl
theorem by8 : tbytes Try.prog 8 = some 24 := by kernel_rfl
theorem ag8 : tagg Try.prog 8 = some true := by kernel_rfl
theorem tb8 : tbool Try.prog 8 = false := by kernel_rfl
theorem ts8 : tstring Try.prog 8 = false := by kernel_rfl
theorem sl8 : tslice Try.prog 8 = none := by kernel_rfl
theorem ze8 : tzero Try.prog 8 = some [.int .i64 0, .int .i64 0, .bool false, .int .u8 0] := by kernel_rfl
theorem st8 : tstruct Try.prog 8 = some [.int .i64 0, .int .i64 0, .bool false, .int .u8 0] := by kernel_rfl
theorem fl8_0 : tfield Try.prog 8 0 = some (0, 2) := by kernel_rfl
theorem fl8_1 : tfield Try.prog 8 1 = some (1, 3) := by kernel_rfl
theorem fl8_2 : tfield Try.prog 8 2 = some (2, 4) := by kernel_rfl
theorem fl8_3 : tfield Try.prog 8 3 = some (3, 6) := by kernel_rfl
theorem sz9 : tsz Try.prog 9 = some 1 := by kernel_rfl
theorem by9 : tbytes Try.prog 9 = some 16 := by kernel_rfl
theorem ag9 : tagg Try.prog 9 = some false := by kernel_rfl
theorem tb9 : tbool Try.prog 9 = false := by kernel_rfl
theorem ts9 : tstring Try.prog 9 = true := by kernel_rfl
theorem sl9 : tslice Try.prog 9 = none := by kernel_rfl
theorem ze9 : tzero Try.prog 9 = some [.string .empty] := by kernel_rfl
theorem sz10 : tsz Try.prog 10 = some 1 := by kernel_rfl
theorem by10 : tbytes Try.prog 10 = some 16 := by kernel_rfl
theorem ag10 : tagg Try.prog 10 = some false := by kernel_rfl
theorem tb10 : tbool Try.prog 10 = false := by kernel_rfl
theorem ts10 : tstring Try.prog 10 = true := by kernel_rfl
theorem sl10 : tslice Try.prog 10 = none := by kernel_rfl
theorem ze10 : tzero Try.prog 10 = some [.string .empty] := by kernel_rfl
theorem sz11 : tsz Try.prog 11 = some 1 := by kernel_rfl
theorem by11 : tbytes Try.prog 11 = some 16 := by kernel_rfl
theorem ag11 : tagg Try.prog 11 = some false := by kernel_rfl
theorem tb11 : tbool Try.prog 11 = false := by kernel_rfl
theorem ts11 : tstring Try.prog 11 = true := by kernel_rfl
theorem sl11 : tslice Try.prog 11 = none := by kernel_rfl
theorem ze11 : tzero Try.prog 11 = some [.string .empty] := by kernel_rfl
theorem sz12 : tsz Try.prog 12 = some 1 := by kernel_rfl
theorem by12 : tbytes Try.prog 12 = some 8 := by kernel_rfl
theorem ag12 : tagg Try.prog 12 = some false := by kernel_rfl
theorem tb12 : tbool Try.prog 12 = false := by kernel_rfl
theorem ts12 : tstring Try.prog 12 = false := by kernel_rfl
theorem sl12 : tslice Try.prog 12 = none := by kernel_rfl
theorem un12 : Try.prog.underlying 12 = some (.int .u64) := by kernel_rfl
theorem ze12 : tzero Try.prog 12 = some [.int .u64 0] := by kernel_rfl
theorem sz13 : tsz Try.prog 13 = some 2 := by kernel_rfl
theorem by13 : tbytes Try.prog 13 = some 24 := by kernel_rfl
theorem ag13 : tagg Try.prog 13 = some true := by kernel_rfl
theorem tb13 : tbool Try.prog 13 = false := by kernel_rfl
theorem ts13 : tstring Try.prog 13 = false := by kernel_rfl
theorem sl13 : tslice Try.prog 13 = none := by kernel_rfl
theorem ze13 : tzero Try.prog 13 = some [.string .empty, .int .u64 0] := by kernel_rfl
theorem st13 : tstruct Try.prog 13 = some [.string .empty, .int .u64 0] := by kernel_rfl
theorem fl13_0 : tfield Try.prog 13 0 = some (0, 9) := by kernel_rfl
theorem fl13_1 : tfield Try.prog 13 1 = some (1, 12) := by kernel_rfl
theorem sz14 : tsz Try.prog 14 = some 2 := by kernel_rfl
theorem by14 : tbytes Try.prog 14 = some 24 := by kernel_rfl
theorem ag14 : tagg Try.prog 14 = some true := by kernel_rfl
theorem tb14 : tbool Try.prog 14 = false := by kernel_rfl
theorem ts14 : tstring Try.prog 14 = false := by kernel_rfl
theorem sl14 : tslice Try.prog 14 = none := by kernel_rfl
theorem ze14 : tzero Try.prog 14 = some [.string .empty, .int .u64 0] := by kernel_rfl
theorem st14 : tstruct Try.prog 14 = some [.string .empty, .int .u64 0] := by kernel_rfl
theorem fl14_0 : tfield Try.prog 14 0 = some (0, 9) := by kernel_rfl
theorem fl14_1 : tfield Try.prog 14 1 = some (1, 12) := by kernel_rfl
theorem sz15 : tsz Try.prog 15 = some 1 := by kernel_rfl
theorem by15 : tbytes Try.prog 15 = some 8 := by kernel_rfl
theorem ag15 : tagg Try.prog 15 = some false := by kernel_rfl
theorem tb15 : tbool Try.prog 15 = false := by kernel_rfl
theorem ts15 : tstring Try.prog 15 = false := by kernel_rfl
theorem sl15 : tslice Try.prog 15 = none := by kernel_rfl
theorem ze15 : tzero Try.prog 15 = some [.pointer none] := by kernel_rfl
theorem sz16 : tsz Try.prog 16 = some 1 := by kernel_rfl
theorem by16 : tbytes Try.prog 16 = some 8 := by kernel_rfl
theorem ag16 : tagg Try.prog 16 = some false := by kernel_rfl
theorem tb16 : tbool Try.prog 16 = false := by kernel_rfl
theorem ts16 : tstring Try.prog 16 = false := by kernel_rfl
theorem sl16 : tslice Try.prog 16 = none := by kernel_rfl
theorem ze16 : tzero Try.prog 16 = some [.pointer none] := by kernel_rfl
theorem sz17 : tsz Try.prog 17 = some 1 := by kernel_rfl
theorem by17 : tbytes Try.prog 17 = some 8 := by kernel_rfl
theorem ag17 : tagg Try.prog 17 = some false := by kernel_rfl
theorem tb17 : tbool Try.prog 17 = false := by kernel_rfl
theorem ts17 : tstring Try.prog 17 = false := by kernel_rfl
theorem sl17 : tslice Try.prog 17 = none := by kernel_rfl
theorem ze17 : tzero Try.prog 17 = some [.pointer none] := by kernel_rfl
theorem sz18 : tsz Try.prog 18 = some 1 := by kernel_rfl
theorem by18 : tbytes Try.prog 18 = some 8 := by kernel_rfl
theorem ag18 : tagg Try.prog 18 = some true := by kernel_rfl
theorem tb18 : tbool Try.prog 18 = false := by kernel_rfl
theorem ts18 : tstring Try.prog 18 = false := by kernel_rfl
theorem sl18 : tslice Try.prog 18 = none := by kernel_rfl
theorem ze18 : tzero Try.prog 18 = some [.pointer none] := by kernel_rfl
theorem st18 : tstruct Try.prog 18 = some [.pointer none] := by kernel_rfl
theorem fl18_0 : tfield Try.prog 18 0 = some (0, 17) := by kernel_rfl
theorem sz19 : tsz Try.prog 19 = some 1 := by kernel_rfl
theorem by19 : tbytes Try.prog 19 = some 8 := by kernel_rfl
theorem ag19 : tagg Try.prog 19 = some true := by kernel_rfl
theorem tb19 : tbool Try.prog 19 = false := by kernel_rfl
theorem ts19 : tstring Try.prog 19 = false := by kernel_rfl
theorem sl19 : tslice Try.prog 19 = none := by kernel_rfl
theorem ze19 : tzero Try.prog 19 = some [.pointer none] := by kernel_rfl
theorem st19 : tstruct Try.prog 19 = some [.pointer none] := by kernel_rfl
theorem fl19_0 : tfield Try.prog 19 0 = some (0, 17) := by kernel_rfl
theorem sz20 : tsz Try.prog 20 = some 1 := by kernel_rfl
theorem by20 : tbytes Try.prog 20 = some 16 := by kernel_rfl
theorem ag20 : tagg Try.prog 20 = some false := by kernel_rfl
theorem tb20 : tbool Try.prog 20 = false := by kernel_rfl
theorem ts20 : tstring Try.prog 20 = false := by kernel_rfl
theorem sl20 : tslice Try.prog 20 = none := by kernel_rfl
theorem ze20 : tzero Try.prog 20 = some [.nilIface] := by kernel_rfl
theorem sz21 : tsz Try.prog 21 = some 1 := by kernel_rfl
theorem by21 : tbytes Try.prog 21 = some 4 := by kernel_rfl
theorem ag21 : tagg Try.prog 21 = some false := by kernel_rfl
theorem tb21 : tbool Try.prog 21 = false := by kernel_rfl
theorem ts21 : tstring Try.prog 21 = false := by kernel_rfl
theorem sl21 : tslice Try.prog 21 = none := by kernel_rfl
theorem un21 : Try.prog.underlying 21 = some (.int .i32) := by kernel_rfl
theorem ze21 : tzero Try.prog 21 = some [.int .i32 0] := by kernel_rfl
theorem sz22 : tsz Try.prog 22 = some 1 := by kernel_rfl
theorem by22 : tbytes Try.prog 22 = some 24 := by kernel_rfl
theorem ag22 : tagg Try.prog 22 = some false := by kernel_rfl
theorem tb22 : tbool Try.prog 22 = false := by kernel_rfl
theorem ts22 : tstring Try.prog 22 = false := by kernel_rfl
theorem sl22 : tslice Try.prog 22 = some 3 := by kernel_rfl
theorem ze22 : tzero Try.prog 22 = some [.slice none 0 0] := by kernel_rfl
theorem sz23 : tsz Try.prog 23 = some 1 := by kernel_rfl
theorem by23 : tbytes Try.prog 23 = some 8 := by kernel_rfl
theorem ag23 : tagg Try.prog 23 = some false := by kernel_rfl
theorem tb23 : tbool Try.prog 23 = false := by kernel_rfl
theorem ts23 : tstring Try.prog 23 = false := by kernel_rfl
theorem sl23 : tslice Try.prog 23 = none := by kernel_rfl
theorem ze23 : tzero Try.prog 23 = some [.nilFunc] := by kernel_rfl
theorem sz24 : tsz Try.prog 24 = some 1 := by kernel_rfl
theorem by24 : tbytes Try.prog 24 = some 8 := by kernel_rfl
theorem ag24 : tagg Try.prog 24 = some false := by kernel_rfl
theorem tb24 : tbool Try.prog 24 = false := by kernel_rfl
theorem ts24 : tstring Try.prog 24 = false := by kernel_rfl
theorem sl24 : tslice Try.prog 24 = none := by kernel_rfl
theorem ze24 : tzero Try.prog 24 = some [.nilFunc] := by kernel_rfl
theorem sz25 : tsz Try.prog 25 = some 1 := by kernel_rfl
theorem by25 : tbytes Try.prog 25 = some 8 := by kernel_rfl
theorem ag25 : tagg Try.prog 25 = some false := by kernel_rfl
theorem tb25 : tbool Try.prog 25 = false := by kernel_rfl
theorem ts25 : tstring Try.prog 25 = false := by kernel_rfl
theorem sl25 : tslice Try.prog 25 = none := by kernel_rfl
theorem ze25 : tzero Try.prog 25 = some [.nilFunc] := by kernel_rfl
theorem sz26 : tsz Try.prog 26 = some 1 := by kernel_rfl
theorem by26 : tbytes Try.prog 26 = some 8 := by kernel_rfl
theorem ag26 : tagg Try.prog 26 = some false := by kernel_rfl
theorem tb26 : tbool Try.prog 26 = false := by kernel_rfl
theorem ts26 : tstring Try.prog 26 = false := by kernel_rfl
theorem sl26 : tslice Try.prog 26 = none := by kernel_rfl
theorem ze26 : tzero Try.prog 26 = some [.nilFunc] := by kernel_rfl
theorem sz27 : tsz Try.prog 27 = some 1 := by kernel_rfl
theorem by27 : tbytes Try.prog 27 = some 24 := by kernel_rfl
theorem ag27 : tagg Try.prog 27 = some false := by kernel_rfl
theorem tb27 : tbool Try.prog 27 = false := by kernel_rfl
theorem ts27 : tstring Try.prog 27 = false := by kernel_rfl
theorem sl27 : tslice Try.prog 27 = some 5 := by kernel_rfl
theorem ze27 : tzero Try.prog 27 = some [.slice none 0 0] := by kernel_rfl
theorem sz28 : tsz Try.prog 28 = some 1 := by kernel_rfl
theorem by28 : tbytes Try.prog 28 = some 8 := by kernel_rfl
theorem ag28 : tagg Try.prog 28 = some false := by kernel_rfl
theorem tb28 : tbool Try.prog 28 = false := by kernel_rfl
theorem ts28 : tstring Try.prog 28 = false := by kernel_rfl
theorem sl28 : tslice Try.prog 28 = none := by kernel_rfl
theorem ze28 : tzero Try.prog 28 = some [.nilFunc] := by kernel_rfl
theorem sz29 : tsz Try.prog 29 = some 1 := by kernel_rfl
theorem by29 : tbytes Try.prog 29 = some 8 := by kernel_rfl
theorem ag29 : tagg Try.prog 29 = some false := by kernel_rfl
theorem tb29 : tbool Try.prog 29 = false := by kernel_rfl
theorem ts29 : tstring Try.prog 29 = false := by kernel_rfl
theorem sl29 : tslice Try.prog 29 = none := by kernel_rfl
theorem ze29 : tzero Try.prog 29 = some [.nilFunc] := by kernel_rfl
theorem sz30 : tsz Try.prog 30 = some 1 := by kernel_rfl
theorem by30 : tbytes Try.prog 30 = some 8 := by kernel_rfl
theorem ag30 : tagg Try.prog 30 = some false := by kernel_rfl
theorem tb30 : tbool Try.prog 30 = false := by kernel_rfl
theorem ts30 : tstring Try.prog 30 = false := by kernel_rfl
theorem sl30 : tslice Try.prog 30 = none := by kernel_rfl
theorem ze30 : tzero Try.prog 30 = some [.map none] := by kernel_rfl
theorem sz31 : tsz Try.prog 31 = some 1 := by kernel_rfl
theorem by31 : tbytes Try.prog 31 = some 8 := by kernel_rfl
theorem ag31 : tagg Try.prog 31 = some false := by kernel_rfl
theorem tb31 : tbool Try.prog 31 = false := by kernel_rfl
theorem ts31 : tstring Try.prog 31 = false := by kernel_rfl
theorem sl31 : tslice Try.prog 31 = none := by kernel_rfl
theorem ze31 : tzero Try.prog 31 = some [.pointer none] := by kernel_rfl
theorem sz32 : tsz Try.prog 32 = some 1 := by kernel_rfl
theorem by32 : tbytes Try.prog 32 = some 8 := by kernel_rfl
theorem ag32 : tagg Try.prog 32 = some false := by kernel_rfl
theorem tb32 : tbool Try.prog 32 = false := by kernel_rfl
theorem ts32 : tstring Try.prog 32 = false := by kernel_rfl
theorem sl32 : tslice Try.prog 32 = none := by kernel_rfl
theorem ze32 : tzero Try.prog 32 = some [.nilFunc] := by kernel_rfl
theorem sz33 : tsz Try.prog 33 = some 2 := by kernel_rfl
theorem by33 : tbytes Try.prog 33 = some 32 := by kernel_rfl
theorem ag33 : tagg Try.prog 33 = some true := by kernel_rfl
theorem tb33 : tbool Try.prog 33 = false := by kernel_rfl
theorem ts33 : tstring Try.prog 33 = false := by kernel_rfl
theorem sl33 : tslice Try.prog 33 = none := by kernel_rfl
theorem ze33 : tzero Try.prog 33 = some [.slice none 0 0, .int .i64 0] := by kernel_rfl
theorem st33 : tstruct Try.prog 33 = some [.slice none 0 0, .int .i64 0] := by kernel_rfl
theorem fl33_0 : tfield Try.prog 33 0 = some (0, 27) := by kernel_rfl
theorem fl33_1 : tfield Try.prog 33 1 = some (1, 3) := by kernel_rfl
theorem sz34 : tsz Try.prog 34 = some 2 := by kernel_rfl
theorem by34 : tbytes Try.prog 34 = some 32 := by kernel_rfl
theorem ag34 : tagg Try.prog 34 = some true := by kernel_rfl
theorem tb34 : tbool Try.prog 34 = false := by kernel_rfl
theorem ts34 : tstring Try.prog 34 = false := by kernel_rfl
theorem sl34 : tslice Try.prog 34 = none := by kernel_rfl
theorem ze34 : tzero Try.prog 34 = some [.slice none 0 0, .int .i64 0] := by kernel_rfl
theorem st34 : tstruct Try.prog 34 = some [.slice none 0 0, .int .i64 0] := by kernel_rfl
theorem fl34_0 : tfield Try.prog 34 0 = some (0, 27) := by kernel_rfl
theorem fl34_1 : tfield Try.prog 34 1 = some (1, 3) := by kernel_rfl
theorem sz35 : tsz Try.prog 35 = some 1 := by kernel_rfl
theorem by35 : tbytes Try.prog 35 = some 8 := by kernel_rfl
theorem ag35 : tagg Try.prog 35 = some false := by kernel_rfl
theorem tb35 : tbool Try.prog 35 = false := by kernel_rfl
theorem ts35 : tstring Try.prog 35 = false := by kernel_rfl
theorem sl35 : tslice Try.prog 35 = none := by kernel_rfl
theorem ze35 : tzero Try.prog 35 = some [.nilFunc] := by kernel_rfl
theorem sz36 : tsz Try.prog 36 = some 1 := by kernel_rfl
theorem by36 : tbytes Try.prog 36 = some 8 := by kernel_rfl
theorem ag36 : tagg Try.prog 36 = some false := by kernel_rfl
theorem tb36 : tbool Try.prog 36 = false := by kernel_rfl
theorem ts36 : tstring Try.prog 36 = false := by kernel_rfl
theorem sl36 : tslice Try.prog 36 = none := by kernel_rfl
theorem ze36 : tzero Try.prog 36 = some [.nilFunc] := by kernel_rfl
theorem sz37 : tsz Try.prog 37 = some 4 := by kernel_rfl
theorem by37 : tbytes Try.prog 37 = some 40 := by kernel_rfl
theorem ag37 : tagg Try.prog 37 = some true := by kernel_rfl
theorem tb37 : tbool Try.prog 37 = false := by kernel_rfl
theorem ts37 : tstring Try.prog 37 = false := by kernel_rfl
theorem sl37 : tslice Try.prog 37 = none := by kernel_rfl
theorem ze37 : tzero Try.prog 37 = some [.pointer none, .pointer none, .pointer none, .string .empty] := by kernel_rfl
theorem st37 : tstruct Try.prog 37 = some [.pointer none, .pointer none, .pointer none, .string .empty] := by kernel_rfl
theorem fl37_0 : tfield Try.prog 37 0 = some (0, 17) := by kernel_rfl
theorem fl37_1 : tfield Try.prog 37 1 = some (1, 17) := by kernel_rfl
theorem fl37_2 : tfield Try.prog 37 2 = some (2, 17) := by kernel_rfl
theorem fl37_3 : tfield Try.prog 37 3 = some (3, 9) := by kernel_rfl
theorem sz38 : tsz Try.prog 38 = some 4 := by kernel_rfl
theorem by38 : tbytes Try.prog 38 = some 40 := by kernel_rfl
theorem ag38 : tagg Try.prog 38 = some true := by kernel_rfl
theorem tb38 : tbool Try.prog 38 = false := by kernel_rfl
theorem ts38 : tstring Try.prog 38 = false := by kernel_rfl
theorem sl38 : tslice Try.prog 38 = none := by kernel_rfl
theorem ze38 : tzero Try.prog 38 = some [.pointer none, .pointer none, .pointer none, .string .empty] := by kernel_rfl
theorem st38 : tstruct Try.prog 38 = some [.pointer none, .pointer none, .pointer none, .string .empty] := by kernel_rfl
theorem fl38_0 : tfield Try.prog 38 0 = some (0, 17) := by kernel_rfl
theorem fl38_1 : tfield Try.prog 38 1 = some (1, 17) := by kernel_rfl
theorem fl38_2 : tfield Try.prog 38 2 = some (2, 17) := by kernel_rfl
theorem fl38_3 : tfield Try.prog 38 3 = some (3, 9) := by kernel_rfl
theorem sz39 : tsz Try.prog 39 = some 0 := by kernel_rfl
theorem by39 : tbytes Try.prog 39 = some 0 := by kernel_rfl
theorem ag39 : tagg Try.prog 39 = some true := by kernel_rfl
theorem tb39 : tbool Try.prog 39 = false := by kernel_rfl
theorem ts39 : tstring Try.prog 39 = false := by kernel_rfl
theorem sl39 : tslice Try.prog 39 = none := by kernel_rfl
theorem ze39 : tzero Try.prog 39 = some [] := by kernel_rfl
theorem sz40 : tsz Try.prog 40 = some 0 := by kernel_rfl
theorem by40 : tbytes Try.prog 40 = some 0 := by kernel_rfl
theorem ag40 : tagg Try.prog 40 = some true := by kernel_rfl
theorem tb40 : tbool Try.prog 40 = false := by kernel_rfl
theorem ts40 : tstring Try.prog 40 = false := by kernel_rfl
theorem sl40 : tslice Try.prog 40 = none := by kernel_rfl
theorem ze40 : tzero Try.prog 40 = some [] := by kernel_rfl
theorem st40 : tstruct Try.prog 40 = some [] := by kernel_rfl
theorem sz41 : tsz Try.prog 41 = some 0 := by kernel_rfl
theorem by41 : tbytes Try.prog 41 = some 0 := by kernel_rfl
theorem ag41 : tagg Try.prog 41 = some true := by kernel_rfl
theorem tb41 : tbool Try.prog 41 = false := by kernel_rfl
theorem ts41 : tstring Try.prog 41 = false := by kernel_rfl
theorem sl41 : tslice Try.prog 41 = none := by kernel_rfl
theorem ze41 : tzero Try.prog 41 = some [] := by kernel_rfl
theorem st41 : tstruct Try.prog 41 = some [] := by kernel_rfl
theorem sz42 : tsz Try.prog 42 = some 1 := by kernel_rfl
theorem by42 : tbytes Try.prog 42 = some 8 := by kernel_rfl
theorem ag42 : tagg Try.prog 42 = some false := by kernel_rfl
theorem tb42 : tbool Try.prog 42 = false := by kernel_rfl
theorem ts42 : tstring Try.prog 42 = false := by kernel_rfl
theorem sl42 : tslice Try.prog 42 = none := by kernel_rfl
theorem ze42 : tzero Try.prog 42 = some [.nilFunc] := by kernel_rfl
theorem sz43 : tsz Try.prog 43 = some 1 := by kernel_rfl
theorem by43 : tbytes Try.prog 43 = some 4 := by kernel_rfl
theorem ag43 : tagg Try.prog 43 = some false := by kernel_rfl
theorem tb43 : tbool Try.prog 43 = false := by kernel_rfl
theorem ts43 : tstring Try.prog 43 = false := by kernel_rfl
theorem sl43 : tslice Try.prog 43 = none := by kernel_rfl
theorem un43 : Try.prog.underlying 43 = some (.int .u32) := by kernel_rfl
theorem ze43 : tzero Try.prog 43 = some [.int .u32 0] := by kernel_rfl
theorem sz44 : tsz Try.prog 44 = some 1 := by kernel_rfl
theorem by44 : tbytes Try.prog 44 = some 1 := by kernel_rfl
theorem ag44 : tagg Try.prog 44 = some false := by kernel_rfl
theorem tb44 : tbool Try.prog 44 = false := by kernel_rfl
theorem ts44 : tstring Try.prog 44 = false := by kernel_rfl
theorem sl44 : tslice Try.prog 44 = none := by kernel_rfl
theorem un44 : Try.prog.underlying 44 = some (.int .u8) := by kernel_rfl
theorem ze44 : tzero Try.prog 44 = some [.int .u8 0] := by kernel_rfl
theorem sz45 : tsz Try.prog 45 = some 1 := by kernel_rfl
theorem by45 : tbytes Try.prog 45 = some 1 := by kernel_rfl
theorem ag45 : tagg Try.prog 45 = some false := by kernel_rfl
theorem tb45 : tbool Try.prog 45 = false := by kernel_rfl
theorem ts45 : tstring Try.prog 45 = false := by kernel_rfl
theorem sl45 : tslice Try.prog 45 = none := by kernel_rfl
theorem un45 : Try.prog.underlying 45 = some (.int .u8) := by kernel_rfl
theorem ze45 : tzero Try.prog 45 = some [.int .u8 0] := by kernel_rfl
theorem sz46 : tsz Try.prog 46 = some 1 := by kernel_rfl
theorem by46 : tbytes Try.prog 46 = some 8 := by kernel_rfl
theorem ag46 : tagg Try.prog 46 = some false := by kernel_rfl
theorem tb46 : tbool Try.prog 46 = false := by kernel_rfl
theorem ts46 : tstring Try.prog 46 = false := by kernel_rfl
theorem sl46 : tslice Try.prog 46 = none := by kernel_rfl
theorem ze46 : tzero Try.prog 46 = some [.nilFunc] := by kernel_rfl
theorem sz47 : tsz Try.prog 47 = some 1 := by kernel_rfl
theorem by47 : tbytes Try.prog 47 = some 8 := by kernel_rfl
theorem ag47 : tagg Try.prog 47 = some false := by kernel_rfl
theorem tb47 : tbool Try.prog 47 = false := by kernel_rfl
theorem ts47 : tstring Try.prog 47 = false := by kernel_rfl
theorem sl47 : tslice Try.prog 47 = none := by kernel_rfl
theorem ze47 : tzero Try.prog 47 = some [.pointer none] := by kernel_rfl
theorem sz48 : tsz Try.prog 48 = some 1 := by kernel_rfl
theorem by48 : tbytes Try.prog 48 = some 4 := by kernel_rfl
theorem ag48 : tagg Try.prog 48 = some false := by kernel_rfl
theorem tb48 : tbool Try.prog 48 = false := by kernel_rfl
theorem ts48 : tstring Try.prog 48 = false := by kernel_rfl
theorem sl48 : tslice Try.prog 48 = none := by kernel_rfl
theorem un48 : Try.prog.underlying 48 = some (.int .i32) := by kernel_rfl
theorem ze48 : tzero Try.prog 48 = some [.int .i32 0] := by kernel_rfl
theorem sz49 : tsz Try.prog 49 = some 1 := by kernel_rfl
theorem by49 : tbytes Try.prog 49 = some 4 := by kernel_rfl
theorem ag49 : tagg Try.prog 49 = some false := by kernel_rfl
theorem tb49 : tbool Try.prog 49 = false := by kernel_rfl
theorem ts49 : tstring Try.prog 49 = false := by kernel_rfl
theorem sl49 : tslice Try.prog 49 = none := by kernel_rfl
theorem un49 : Try.prog.underlying 49 = some (.int .i32) := by kernel_rfl
theorem ze49 : tzero Try.prog 49 = some [.int .i32 0] := by kernel_rfl
theorem sz50 : tsz Try.prog 50 = some 11 := by kernel_rfl
theorem by50 : tbytes Try.prog 50 = some 48 := by kernel_rfl
theorem ag50 : tagg Try.prog 50 = some true := by kernel_rfl
theorem tb50 : tbool Try.prog 50 = false := by kernel_rfl
theorem ts50 : tstring Try.prog 50 = false := by kernel_rfl
theorem sl50 : tslice Try.prog 50 = none := by kernel_rfl
theorem ze50 : tzero Try.prog 50 = some [.int .u64 0, .int .u64 0, .int .u32 0, .int .u8 0, .int .u8 0, .int .u8 0, .int .u8 0, .nilFunc, .pointer none, .int .i32 0, .int .i32 0] := by kernel_rfl
theorem st50 : tstruct Try.prog 50 = some [.int .u64 0, .int .u64 0, .int .u32 0, .int .u8 0, .int .u8 0, .int .u8 0, .int .u8 0, .nilFunc, .pointer none, .int .i32 0, .int .i32 0] := by kernel_rfl
theorem fl50_0 : tfield Try.prog 50 0 = some (0, 12) := by kernel_rfl
theorem fl50_1 : tfield Try.prog 50 1 = some (1, 12) := by kernel_rfl
theorem fl50_2 : tfield Try.prog 50 2 = some (2, 43) := by kernel_rfl
theorem fl50_3 : tfield Try.prog 50 3 = some (3, 44) := by kernel_rfl
theorem fl50_4 : tfield Try.prog 50 4 = some (4, 5) := by kernel_rfl
theorem fl50_5 : tfield Try.prog 50 5 = some (5, 5) := by kernel_rfl
theorem fl50_6 : tfield Try.prog 50 6 = some (6, 45) := by kernel_rfl
theorem fl50_7 : tfield Try.prog 50 7 = some (7, 46) := by kernel_rfl
theorem fl50_8 : tfield Try.prog 50 8 = some (8, 47) := by kernel_rfl
theorem fl50_9 : tfield Try.prog 50 9 = some (9, 48) := by kernel_rfl
theorem fl50_10 : tfield Try.prog 50 10 = some (10, 49) := by kernel_rfl
theorem sz51 : tsz Try.prog 51 = some 11 := by kernel_rfl
theorem by51 : tbytes Try.prog 51 = some 48 := by kernel_rfl
theorem ag51 : tagg Try.prog 51 = some true := by kernel_rfl
theorem tb51 : tbool Try.prog 51 = false := by kernel_rfl
theorem ts51 : tstring Try.prog 51 = false := by kernel_rfl
theorem sl51 : tslice Try.prog 51 = none := by kernel_rfl
theorem ze51 : tzero Try.prog 51 = some [.int .u64 0, .int .u64 0, .int .u32 0, .int .u8 0, .int .u8 0, .int .u8 0, .int .u8 0, .nilFunc, .pointer none, .int .i32 0, .int .i32 0] := by kernel_rfl
theorem st51 : tstruct Try.prog 51 = some [.int .u64 0, .int .u64 0, .int .u32 0, .int .u8 0, .int .u8 0, .int .u8 0, .int .u8 0, .nilFunc, .pointer none, .int .i32 0, .int .i32 0] := by kernel_rfl
theorem fl51_0 : tfield Try.prog 51 0 = some (0, 12) := by kernel_rfl
theorem fl51_1 : tfield Try.prog 51 1 = some (1, 12) := by kernel_rfl
theorem fl51_2 : tfield Try.prog 51 2 = some (2, 43) := by kernel_rfl
theorem fl51_3 : tfield Try.prog 51 3 = some (3, 44) := by kernel_rfl
theorem fl51_4 : tfield Try.prog 51 4 = some (4, 5) := by kernel_rfl
theorem fl51_5 : tfield Try.prog 51 5 = some (5, 5) := by kernel_rfl
theorem fl51_6 : tfield Try.prog 51 6 = some (6, 45) := by kernel_rfl
theorem fl51_7 : tfield Try.prog 51 7 = some (7, 46) := by kernel_rfl
theorem fl51_8 : tfield Try.prog 51 8 = some (8, 47) := by kernel_rfl
theorem fl51_9 : tfield Try.prog 51 9 = some (9, 48) := by kernel_rfl
theorem fl51_10 : tfield Try.prog 51 10 = some (10, 49) := by kernel_rfl
theorem sz52 : tsz Try.prog 52 = some 1 := by kernel_rfl
theorem by52 : tbytes Try.prog 52 = some 8 := by kernel_rfl
theorem ag52 : tagg Try.prog 52 = some false := by kernel_rfl
theorem tb52 : tbool Try.prog 52 = false := by kernel_rfl
theorem ts52 : tstring Try.prog 52 = false := by kernel_rfl
theorem sl52 : tslice Try.prog 52 = none := by kernel_rfl
theorem ze52 : tzero Try.prog 52 = some [.nilFunc] := by kernel_rfl
theorem sz53 : tsz Try.prog 53 = some 1 := by kernel_rfl
theorem by53 : tbytes Try.prog 53 = some 8 := by kernel_rfl
theorem ag53 : tagg Try.prog 53 = some false := by kernel_rfl
theorem tb53 : tbool Try.prog 53 = false := by kernel_rfl
theorem ts53 : tstring Try.prog 53 = false := by kernel_rfl
theorem sl53 : tslice Try.prog 53 = none := by kernel_rfl
theorem ze53 : tzero Try.prog 53 = some [.pointer none] := by kernel_rfl
theorem sz54 : tsz Try.prog 54 = some 1 := by kernel_rfl
theorem by54 : tbytes Try.prog 54 = some 8 := by kernel_rfl
theorem ag54 : tagg Try.prog 54 = some false := by kernel_rfl
theorem tb54 : tbool Try.prog 54 = false := by kernel_rfl
theorem ts54 : tstring Try.prog 54 = false := by kernel_rfl
theorem sl54 : tslice Try.prog 54 = none := by kernel_rfl
theorem un54 : Try.prog.underlying 54 = some (.int .u64) := by kernel_rfl
theorem ze54 : tzero Try.prog 54 = some [.int .u64 0] := by kernel_rfl
theorem ok3 : fnOK Try.prog 3 = true := by kernel_rfl
theorem ok4 : fnOK Try.prog 4 = true := by kernel_rfl
theorem ok5 : fnOK Try.prog 5 = true := by kernel_rfl
theorem ok6 : fnOK Try.prog 6 = true := by kernel_rfl
theorem ok7 : fnOK Try.prog 7 = true := by kernel_rfl
theorem ok8 : fnOK Try.prog 8 = true := by kernel_rfl
theorem ok9 : fnOK Try.prog 9 = true := by kernel_rfl
theorem ok10 : fnOK Try.prog 10 = true := by kernel_rfl
theorem ok11 : fnOK Try.prog 11 = true := by kernel_rfl
theorem ok12 : fnOK Try.prog 12 = true := by kernel_rfl
end Go.Proofs.Ytknihhjejbljgaa.CtF
