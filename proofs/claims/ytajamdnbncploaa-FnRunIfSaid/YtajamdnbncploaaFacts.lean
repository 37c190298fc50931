/- Contracts of functions of the program, one behind the other, as plain data: what each call returns and which blocks it leaves. -/
import Derived.Test.YtajamdnbncploaaChecked
import Derived.KernelRfl
import Derived.Test.YtajamdnbncploaaCtC
set_option linter.unusedVariables false
set_option linter.unusedSimpArgs false
namespace Go.Proofs.Ytajamdnbncploaa.CtF
open Go Go.CT

theorem mo : Try.prog.follows .mixedOrders = true := by kernel_rfl
theorem sz0 : tsz Try.prog 0 = some 1 := by kernel_rfl
theorem by0 : tbytes Try.prog 0 = some 0 := by kernel_rfl
theorem ag0 : tagg Try.prog 0 = some false := by kernel_rfl
theorem tb0 : tbool Try.prog 0 = false := by kernel_rfl
theorem ts0 : tstring Try.prog 0 = false := by kernel_rfl
theorem sl0 : tslice Try.prog 0 = none := by kernel_rfl
theorem sz1 : tsz Try.prog 1 = some 1 := by kernel_rfl
theorem by1 : tbytes Try.prog 1 = some 8 := by kernel_rfl
theorem ag1 : tagg Try.prog 1 = some false := by kernel_rfl
theorem tb1 : tbool Try.prog 1 = false := by kernel_rfl
theorem ts1 : tstring Try.prog 1 = false := by kernel_rfl
theorem sl1 : tslice Try.prog 1 = none := by kernel_rfl
theorem ze1 : tzero Try.prog 1 = some [.nilFunc] := by kernel_rfl
theorem sz2 : tsz Try.prog 2 = some 1 := by kernel_rfl
theorem by2 : tbytes Try.prog 2 = some 8 := by kernel_rfl
theorem ag2 : tagg Try.prog 2 = some false := by kernel_rfl
theorem tb2 : tbool Try.prog 2 = false := by kernel_rfl
theorem ts2 : tstring Try.prog 2 = false := by kernel_rfl
theorem sl2 : tslice Try.prog 2 = none := by kernel_rfl
theorem un2 : Try.prog.underlying 2 = some (.int .i64) := by kernel_rfl
theorem ze2 : tzero Try.prog 2 = some [.int .i64 0] := by kernel_rfl
theorem sz3 : tsz Try.prog 3 = some 1 := by kernel_rfl
theorem by3 : tbytes Try.prog 3 = some 8 := by kernel_rfl
theorem ag3 : tagg Try.prog 3 = some false := by kernel_rfl
theorem tb3 : tbool Try.prog 3 = false := by kernel_rfl
theorem ts3 : tstring Try.prog 3 = false := by kernel_rfl
theorem sl3 : tslice Try.prog 3 = none := by kernel_rfl
theorem un3 : Try.prog.underlying 3 = some (.int .i64) := by kernel_rfl
theorem ze3 : tzero Try.prog 3 = some [.int .i64 0] := by kernel_rfl
theorem sz4 : tsz Try.prog 4 = some 1 := by kernel_rfl
theorem by4 : tbytes Try.prog 4 = some 1 := by kernel_rfl
theorem ag4 : tagg Try.prog 4 = some false := by kernel_rfl
theorem tb4 : tbool Try.prog 4 = true := by kernel_rfl
theorem ts4 : tstring Try.prog 4 = false := by kernel_rfl
theorem sl4 : tslice Try.prog 4 = none := by kernel_rfl
theorem ze4 : tzero Try.prog 4 = some [.bool false] := by kernel_rfl
theorem sz5 : tsz Try.prog 5 = some 1 := by kernel_rfl
theorem by5 : tbytes Try.prog 5 = some 1 := by kernel_rfl
theorem ag5 : tagg Try.prog 5 = some false := by kernel_rfl
theorem tb5 : tbool Try.prog 5 = false := by kernel_rfl
theorem ts5 : tstring Try.prog 5 = false := by kernel_rfl
theorem sl5 : tslice Try.prog 5 = none := by kernel_rfl
theorem un5 : Try.prog.underlying 5 = some (.int .u8) := by kernel_rfl
theorem ze5 : tzero Try.prog 5 = some [.int .u8 0] := by kernel_rfl
theorem sz6 : tsz Try.prog 6 = some 1 := by kernel_rfl
theorem by6 : tbytes Try.prog 6 = some 1 := by kernel_rfl
theorem ag6 : tagg Try.prog 6 = some false := by kernel_rfl
theorem tb6 : tbool Try.prog 6 = false := by kernel_rfl
theorem ts6 : tstring Try.prog 6 = false := by kernel_rfl
theorem sl6 : tslice Try.prog 6 = none := by kernel_rfl
theorem un6 : Try.prog.underlying 6 = some (.int .u8) := by kernel_rfl
theorem ze6 : tzero Try.prog 6 = some [.int .u8 0] := by kernel_rfl
theorem sz7 : tsz Try.prog 7 = some 4 := by kernel_rfl
theorem by7 : tbytes Try.prog 7 = some 24 := by kernel_rfl
theorem ag7 : tagg Try.prog 7 = some true := by kernel_rfl
theorem tb7 : tbool Try.prog 7 = false := by kernel_rfl
theorem ts7 : tstring Try.prog 7 = false := by kernel_rfl
theorem sl7 : tslice Try.prog 7 = none := by kernel_rfl
theorem ze7 : tzero Try.prog 7 = some [.int .i64 0, .int .i64 0, .bool false, .int .u8 0] := by kernel_rfl
theorem st7 : tstruct Try.prog 7 = some [.int .i64 0, .int .i64 0, .bool false, .int .u8 0] := by kernel_rfl
theorem fl7_0 : tfield Try.prog 7 0 = some (0, 2) := by kernel_rfl
theorem fl7_1 : tfield Try.prog 7 1 = some (1, 3) := by kernel_rfl
theorem fl7_2 : tfield Try.prog 7 2 = some (2, 4) := by kernel_rfl
theorem fl7_3 : tfield Try.prog 7 3 = some (3, 6) := by kernel_rfl
theorem sz8 : tsz Try.prog 8 = some 4 := by kernel_rfl
theorem by8 : tbytes Try.prog 8 = some 24 := by kernel_rfl
theorem ag8 : tagg Try.prog 8 = some true := by kernel_rfl
theorem tb8 : tbool Try.prog 8 = false := by kernel_rfl
theorem ts8 : tstring Try.prog 8 = false := by kernel_rfl
theorem sl8 : tslice Try.prog 8 = none := by kernel_rfl
theorem ze8 : tzero Try.prog 8 = some [.int .i64 0, .int .i64 0, .bool false, .int .u8 0] := by kernel_rfl
theorem st8 : tstruct Try.prog 8 = some [.int .i64 0, .int .i64 0, .bool false, .int .u8 0] := by kernel_rfl
theorem fl8_0 : tfield Try.prog 8 0 = some (0, 2) := by kernel_rfl
theorem fl8_1 : tfield Try.prog 8 1 = some (1, 3) := by kernel_rfl
theorem fl8_2 : tfield Try.prog 8 2 = some (2, 4) := by kernel_rfl
theorem fl8_3 : tfield Try.prog 8 3 = some (3, 6) := by kernel_rfl
theorem sz9 : tsz Try.prog 9 = some 1 := by kernel_rfl
theorem by9 : tbytes Try.prog 9 = some 16 := by kernel_rfl
theorem ag9 : tagg Try.prog 9 = some false := by kernel_rfl
theorem tb9 : tbool Try.prog 9 = false := by kernel_rfl
theorem ts9 : tstring Try.prog 9 = true := by kernel_rfl
theorem sl9 : tslice Try.prog 9 = none := by kernel_rfl
theorem ze9 : tzero Try.prog 9 = some [.string .empty] := by kernel_rfl
theorem sz10 : tsz Try.prog 10 = some 1 := by kernel_rfl
theorem by10 : tbytes Try.prog 10 = some 16 := by kernel_rfl
theorem ag10 : tagg Try.prog 10 = some false := by kernel_rfl
theorem tb10 : tbool Try.prog 10 = false := by kernel_rfl
theorem ts10 : tstring Try.prog 10 = true := by kernel_rfl
theorem sl10 : tslice Try.prog 10 = none := by kernel_rfl
theorem ze10 : tzero Try.prog 10 = some [.string .empty] := by kernel_rfl
theorem sz11 : tsz Try.prog 11 = some 1 := by kernel_rfl
theorem by11 : tbytes Try.prog 11 = some 16 := by kernel_rfl
theorem ag11 : tagg Try.prog 11 = some false := by kernel_rfl
theorem tb11 : tbool Try.prog 11 = false := by kernel_rfl
theorem ts11 : tstring Try.prog 11 = true := by kernel_rfl
theorem sl11 : tslice Try.prog 11 = none := by kernel_rfl
theorem ze11 : tzero Try.prog 11 = some [.string .empty] := by kernel_rfl
theorem sz12 : tsz Try.prog 12 = some 1 := by kernel_rfl
theorem by12 : tbytes Try.prog 12 = some 8 := by kernel_rfl
theorem ag12 : tagg Try.prog 12 = some false := by kernel_rfl
theorem tb12 : tbool Try.prog 12 = false := by kernel_rfl
theorem ts12 : tstring Try.prog 12 = false := by kernel_rfl
theorem sl12 : tslice Try.prog 12 = none := by kernel_rfl
theorem un12 : Try.prog.underlying 12 = some (.int .u64) := by kernel_rfl
theorem ze12 : tzero Try.prog 12 = some [.int .u64 0] := by kernel_rfl
theorem sz13 : tsz Try.prog 13 = some 2 := by kernel_rfl
theorem by13 : tbytes Try.prog 13 = some 24 := by kernel_rfl
theorem ag13 : tagg Try.prog 13 = some true := by kernel_rfl
theorem tb13 : tbool Try.prog 13 = false := by kernel_rfl
theorem ts13 : tstring Try.prog 13 = false := by kernel_rfl
theorem sl13 : tslice Try.prog 13 = none := by kernel_rfl
theorem ze13 : tzero Try.prog 13 = some [.string .empty, .int .u64 0] := by kernel_rfl
theorem st13 : tstruct Try.prog 13 = some [.string .empty, .int .u64 0] := by kernel_rfl
theorem fl13_0 : tfield Try.prog 13 0 = some (0, 9) := by kernel_rfl
theorem fl13_1 : tfield Try.prog 13 1 = some (1, 12) := by kernel_rfl
theorem sz14 : tsz Try.prog 14 = some 2 := by kernel_rfl
theorem by14 : tbytes Try.prog 14 = some 24 := by kernel_rfl
theorem ag14 : tagg Try.prog 14 = some true := by kernel_rfl
theorem tb14 : tbool Try.prog 14 = false := by kernel_rfl
theorem ts14 : tstring Try.prog 14 = false := by kernel_rfl
theorem sl14 : tslice Try.prog 14 = none := by kernel_rfl
theorem ze14 : tzero Try.prog 14 = some [.string .empty, .int .u64 0] := by kernel_rfl
theorem st14 : tstruct Try.prog 14 = some [.string .empty, .int .u64 0] := by kernel_rfl
theorem fl14_0 : tfield Try.prog 14 0 = some (0, 9) := by kernel_rfl
theorem fl14_1 : tfield Try.prog 14 1 = some (1, 12) := by kernel_rfl
theorem sz15 : tsz Try.prog 15 = some 1 := by kernel_rfl
theorem by15 : tbytes Try.prog 15 = some 8 := by kernel_rfl
theorem ag15 : tagg Try.prog 15 = some false := by kernel_rfl
theorem tb15 : tbool Try.prog 15 = false := by kernel_rfl
theorem ts15 : tstring Try.prog 15 = false := by kernel_rfl
theorem sl15 : tslice Try.prog 15 = none := by kernel_rfl
theorem ze15 : tzero Try.prog 15 = some [.pointer none] := by kernel_rfl
theorem sz16 : tsz Try.prog 16 = some 1 := by kernel_rfl
theorem by16 : tbytes Try.prog 16 = some 8 := by kernel_rfl
theorem ag16 : tagg Try.prog 16 = some false := by kernel_rfl
theorem tb16 : tbool Try.prog 16 = false := by kernel_rfl
theorem ts16 : tstring Try.prog 16 = false := by kernel_rfl
theorem sl16 : tslice Try.prog 16 = none := by kernel_rfl
theorem ze16 : tzero Try.prog 16 = some [.pointer none] := by kernel_rfl
theorem sz17 : tsz Try.prog 17 = some 1 := by kernel_rfl
theorem by17 : tbytes Try.prog 17 = some 8 := by kernel_rfl
theorem ag17 : tagg Try.prog 17 = some false := by kernel_rfl
theorem tb17 : tbool Try.prog 17 = false := by kernel_rfl
theorem ts17 : tstring Try.prog 17 = false := by kernel_rfl
theorem sl17 : tslice Try.prog 17 = none := by kernel_rfl
theorem ze17 : tzero Try.prog 17 = some [.pointer none] := by kernel_rfl
theorem sz18 : tsz Try.prog 18 = some 1 := by kernel_rfl
theorem by18 : tbytes Try.prog 18 = some 8 := by kernel_rfl
theorem ag18 : tagg Try.prog 18 = some true := by kernel_rfl
theorem tb18 : tbool Try.prog 18 = false := by kernel_rfl
theorem ts18 : tstring Try.prog 18 = false := by kernel_rfl
theorem sl18 : tslice Try.prog 18 = none := by kernel_rfl
theorem ze18 : tzero Try.prog 18 = some [.pointer none] := by kernel_rfl
theorem st18 : tstruct Try.prog 18 = some [.pointer none] := by kernel_rfl
theorem fl18_0 : tfield Try.prog 18 0 = some (0, 17) := by kernel_rfl
theorem sz19 : tsz Try.prog 19 = some 1 := by kernel_rfl
theorem by19 : tbytes Try.prog 19 = some 8 := by kernel_rfl
theorem ag19 : tagg Try.prog 19 = some true := by kernel_rfl
theorem tb19 : tbool Try.prog 19 = false := by kernel_rfl
theorem ts19 : tstring Try.prog 19 = false := by kernel_rfl
theorem sl19 : tslice Try.prog 19 = none := by kernel_rfl
theorem ze19 : tzero Try.prog 19 = some [.pointer none] := by kernel_rfl
theorem st19 : tstruct Try.prog 19 = some [.pointer none] := by kernel_rfl
theorem fl19_0 : tfield Try.prog 19 0 = some (0, 17) := by kernel_rfl
theorem sz20 : tsz Try.prog 20 = some 1 := by kernel_rfl
theorem by20 : tbytes Try.prog 20 = some 16 := by kernel_rfl
theorem ag20 : tagg Try.prog 20 = some false := by kernel_rfl
theorem tb20 : tbool Try.prog 20 = false := by kernel_rfl
theorem ts20 : tstring Try.prog 20 = false := by kernel_rfl
theorem sl20 : tslice Try.prog 20 = none := by kernel_rfl
theorem ze20 : tzero Try.prog 20 = some [.nilIface] := by kernel_rfl
theorem sz21 : tsz Try.prog 21 = some 1 := by kernel_rfl
theorem by21 : tbytes Try.prog 21 = some 4 := by kernel_rfl
theorem ag21 : tagg Try.prog 21 = some false := by kernel_rfl
theorem tb21 : tbool Try.prog 21 = false := by kernel_rfl
theorem ts21 : tstring Try.prog 21 = false := by kernel_rfl
theorem sl21 : tslice Try.prog 21 = none := by kernel_rfl
theorem un21 : Try.prog.underlying 21 = some (.int .i32) := by kernel_rfl
theorem ze21 : tzero Try.prog 21 = some [.int .i32 0] := by kernel_rfl
theorem sz22 : tsz Try.prog 22 = some 1 := by kernel_rfl
theorem by22 : tbytes Try.prog 22 = some 24 := by kernel_rfl
theorem ag22 : tagg Try.prog 22 = some false := by kernel_rfl
theorem tb22 : tbool Try.prog 22 = false := by kernel_rfl
theorem ts22 : tstring Try.prog 22 = false := by kernel_rfl
theorem sl22 : tslice Try.prog 22 = some 5 := by kernel_rfl
theorem ze22 : tzero Try.prog 22 = some [.slice none 0 0] := by kernel_rfl
theorem sz23 : tsz Try.prog 23 = some 1 := by kernel_rfl
theorem by23 : tbytes Try.prog 23 = some 24 := by kernel_rfl
theorem ag23 : tagg Try.prog 23 = some false := by kernel_rfl
theorem tb23 : tbool Try.prog 23 = false := by kernel_rfl
theorem ts23 : tstring Try.prog 23 = false := by kernel_rfl
theorem sl23 : tslice Try.prog 23 = some 3 := by kernel_rfl
theorem ze23 : tzero Try.prog 23 = some [.slice none 0 0] := by kernel_rfl
theorem sz24 : tsz Try.prog 24 = some 1 := by kernel_rfl
theorem by24 : tbytes Try.prog 24 = some 24 := by kernel_rfl
theorem ag24 : tagg Try.prog 24 = some false := by kernel_rfl
theorem tb24 : tbool Try.prog 24 = false := by kernel_rfl
theorem ts24 : tstring Try.prog 24 = false := by kernel_rfl
theorem sl24 : tslice Try.prog 24 = some 42 := by kernel_rfl
theorem ze24 : tzero Try.prog 24 = some [.slice none 0 0] := by kernel_rfl
theorem sz25 : tsz Try.prog 25 = some 3 := by kernel_rfl
theorem by25 : tbytes Try.prog 25 = some 72 := by kernel_rfl
theorem ag25 : tagg Try.prog 25 = some true := by kernel_rfl
theorem tb25 : tbool Try.prog 25 = false := by kernel_rfl
theorem ts25 : tstring Try.prog 25 = false := by kernel_rfl
theorem sl25 : tslice Try.prog 25 = none := by kernel_rfl
theorem ze25 : tzero Try.prog 25 = some [.slice none 0 0, .slice none 0 0, .slice none 0 0] := by kernel_rfl
theorem st25 : tstruct Try.prog 25 = some [.slice none 0 0, .slice none 0 0, .slice none 0 0] := by kernel_rfl
theorem fl25_0 : tfield Try.prog 25 0 = some (0, 23) := by kernel_rfl
theorem fl25_1 : tfield Try.prog 25 1 = some (1, 23) := by kernel_rfl
theorem fl25_2 : tfield Try.prog 25 2 = some (2, 24) := by kernel_rfl
theorem sz26 : tsz Try.prog 26 = some 3 := by kernel_rfl
theorem by26 : tbytes Try.prog 26 = some 72 := by kernel_rfl
theorem ag26 : tagg Try.prog 26 = some true := by kernel_rfl
theorem tb26 : tbool Try.prog 26 = false := by kernel_rfl
theorem ts26 : tstring Try.prog 26 = false := by kernel_rfl
theorem sl26 : tslice Try.prog 26 = none := by kernel_rfl
theorem ze26 : tzero Try.prog 26 = some [.slice none 0 0, .slice none 0 0, .slice none 0 0] := by kernel_rfl
theorem st26 : tstruct Try.prog 26 = some [.slice none 0 0, .slice none 0 0, .slice none 0 0] := by kernel_rfl
theorem fl26_0 : tfield Try.prog 26 0 = some (0, 23) := by kernel_rfl
theorem fl26_1 : tfield Try.prog 26 1 = some (1, 23) := by kernel_rfl
theorem fl26_2 : tfield Try.prog 26 2 = some (2, 24) := by kernel_rfl
theorem sz27 : tsz Try.prog 27 = some 1 := by kernel_rfl
theorem by27 : tbytes Try.prog 27 = some 24 := by kernel_rfl
theorem ag27 : tagg Try.prog 27 = some false := by kernel_rfl
theorem tb27 : tbool Try.prog 27 = false := by kernel_rfl
theorem ts27 : tstring Try.prog 27 = false := by kernel_rfl
theorem sl27 : tslice Try.prog 27 = some 23 := by kernel_rfl
theorem ze27 : tzero Try.prog 27 = some [.slice none 0 0] := by kernel_rfl
theorem sz28 : tsz Try.prog 28 = some 2 := by kernel_rfl
theorem by28 : tbytes Try.prog 28 = some 48 := by kernel_rfl
theorem ag28 : tagg Try.prog 28 = some true := by kernel_rfl
theorem tb28 : tbool Try.prog 28 = false := by kernel_rfl
theorem ts28 : tstring Try.prog 28 = false := by kernel_rfl
theorem sl28 : tslice Try.prog 28 = none := by kernel_rfl
theorem ze28 : tzero Try.prog 28 = some [.slice none 0 0, .slice none 0 0] := by kernel_rfl
theorem st28 : tstruct Try.prog 28 = some [.slice none 0 0, .slice none 0 0] := by kernel_rfl
theorem fl28_0 : tfield Try.prog 28 0 = some (0, 23) := by kernel_rfl
theorem fl28_1 : tfield Try.prog 28 1 = some (1, 27) := by kernel_rfl
theorem sz29 : tsz Try.prog 29 = some 2 := by kernel_rfl
theorem by29 : tbytes Try.prog 29 = some 48 := by kernel_rfl
theorem ag29 : tagg Try.prog 29 = some true := by kernel_rfl
theorem tb29 : tbool Try.prog 29 = false := by kernel_rfl
theorem ts29 : tstring Try.prog 29 = false := by kernel_rfl
theorem sl29 : tslice Try.prog 29 = none := by kernel_rfl
theorem ze29 : tzero Try.prog 29 = some [.slice none 0 0, .slice none 0 0] := by kernel_rfl
theorem st29 : tstruct Try.prog 29 = some [.slice none 0 0, .slice none 0 0] := by kernel_rfl
theorem fl29_0 : tfield Try.prog 29 0 = some (0, 23) := by kernel_rfl
theorem fl29_1 : tfield Try.prog 29 1 = some (1, 27) := by kernel_rfl
theorem sz30 : tsz Try.prog 30 = some 1 := by kernel_rfl
theorem by30 : tbytes Try.prog 30 = some 0 := by kernel_rfl
theorem ag30 : tagg Try.prog 30 = some false := by kernel_rfl
theorem tb30 : tbool Try.prog 30 = false := by kernel_rfl
theorem ts30 : tstring Try.prog 30 = false := by kernel_rfl
theorem sl30 : tslice Try.prog 30 = none := by kernel_rfl
theorem sz31 : tsz Try.prog 31 = some 1 := by kernel_rfl
theorem by31 : tbytes Try.prog 31 = some 8 := by kernel_rfl
theorem ag31 : tagg Try.prog 31 = some false := by kernel_rfl
theorem tb31 : tbool Try.prog 31 = false := by kernel_rfl
theorem ts31 : tstring Try.prog 31 = false := by kernel_rfl
theorem sl31 : tslice Try.prog 31 = none := by kernel_rfl
theorem ze31 : tzero Try.prog 31 = some [.nilFunc] := by kernel_rfl
theorem sz32 : tsz Try.prog 32 = some 1 := by kernel_rfl
theorem by32 : tbytes Try.prog 32 = some 24 := by kernel_rfl
theorem ag32 : tagg Try.prog 32 = some false := by kernel_rfl
theorem tb32 : tbool Try.prog 32 = false := by kernel_rfl
theorem ts32 : tstring Try.prog 32 = false := by kernel_rfl
theorem sl32 : tslice Try.prog 32 = some 49 := by kernel_rfl
theorem ze32 : tzero Try.prog 32 = some [.slice none 0 0] := by kernel_rfl
theorem sz33 : tsz Try.prog 33 = some 1 := by kernel_rfl
theorem by33 : tbytes Try.prog 33 = some 0 := by kernel_rfl
theorem ag33 : tagg Try.prog 33 = some false := by kernel_rfl
theorem tb33 : tbool Try.prog 33 = false := by kernel_rfl
theorem ts33 : tstring Try.prog 33 = false := by kernel_rfl
theorem sl33 : tslice Try.prog 33 = none := by kernel_rfl
theorem sz34 : tsz Try.prog 34 = some 1 := by kernel_rfl
theorem by34 : tbytes Try.prog 34 = some 8 := by kernel_rfl
theorem ag34 : tagg Try.prog 34 = some false := by kernel_rfl
theorem tb34 : tbool Try.prog 34 = false := by kernel_rfl
theorem ts34 : tstring Try.prog 34 = false := by kernel_rfl
theorem sl34 : tslice Try.prog 34 = none := by kernel_rfl
theorem ze34 : tzero Try.prog 34 = some [.nilFunc] := by kernel_rfl
theorem sz35 : tsz Try.prog 35 = some 1 := by kernel_rfl
theorem by35 : tbytes Try.prog 35 = some 8 := by kernel_rfl
theorem ag35 : tagg Try.prog 35 = some false := by kernel_rfl
theorem tb35 : tbool Try.prog 35 = false := by kernel_rfl
theorem ts35 : tstring Try.prog 35 = false := by kernel_rfl
theorem sl35 : tslice Try.prog 35 = none := by kernel_rfl
theorem ze35 : tzero Try.prog 35 = some [.nilFunc] := by kernel_rfl
theorem sz36 : tsz Try.prog 36 = some 1 := by kernel_rfl
theorem by36 : tbytes Try.prog 36 = some 8 := by kernel_rfl
theorem ag36 : tagg Try.prog 36 = some false := by kernel_rfl
theorem tb36 : tbool Try.prog 36 = false := by kernel_rfl
theorem ts36 : tstring Try.prog 36 = false := by kernel_rfl
theorem sl36 : tslice Try.prog 36 = none := by kernel_rfl
theorem ze36 : tzero Try.prog 36 = some [.nilFunc] := by kernel_rfl
theorem sz37 : tsz Try.prog 37 = some 1 := by kernel_rfl
theorem by37 : tbytes Try.prog 37 = some 8 := by kernel_rfl
theorem ag37 : tagg Try.prog 37 = some false := by kernel_rfl
theorem tb37 : tbool Try.prog 37 = false := by kernel_rfl
theorem ts37 : tstring Try.prog 37 = false := by kernel_rfl
theorem sl37 : tslice Try.prog 37 = none := by kernel_rfl
theorem ze37 : tzero Try.prog 37 = some [.nilFunc] := by kernel_rfl
theorem sz38 : tsz Try.prog 38 = some 1 := by kernel_rfl
theorem by38 : tbytes Try.prog 38 = some 24 := by kernel_rfl
theorem ag38 : tagg Try.prog 38 = some false := by kernel_rfl
theorem tb38 : tbool Try.prog 38 = false := by kernel_rfl
theorem ts38 : tstring Try.prog 38 = false := by kernel_rfl
theorem sl38 : tslice Try.prog 38 = some 40 := by kernel_rfl
theorem ze38 : tzero Try.prog 38 = some [.slice none 0 0] := by kernel_rfl
theorem sz39 : tsz Try.prog 39 = some 3 := by kernel_rfl
theorem by39 : tbytes Try.prog 39 = some 40 := by kernel_rfl
theorem ag39 : tagg Try.prog 39 = some true := by kernel_rfl
theorem tb39 : tbool Try.prog 39 = false := by kernel_rfl
theorem ts39 : tstring Try.prog 39 = false := by kernel_rfl
theorem sl39 : tslice Try.prog 39 = none := by kernel_rfl
theorem ze39 : tzero Try.prog 39 = some [.int .i64 0, .int .i64 0, .slice none 0 0] := by kernel_rfl
theorem st39 : tstruct Try.prog 39 = some [.int .i64 0, .int .i64 0, .slice none 0 0] := by kernel_rfl
theorem fl39_0 : tfield Try.prog 39 0 = some (0, 3) := by kernel_rfl
theorem fl39_1 : tfield Try.prog 39 1 = some (1, 3) := by kernel_rfl
theorem fl39_2 : tfield Try.prog 39 2 = some (2, 38) := by kernel_rfl
theorem sz40 : tsz Try.prog 40 = some 3 := by kernel_rfl
theorem by40 : tbytes Try.prog 40 = some 40 := by kernel_rfl
theorem ag40 : tagg Try.prog 40 = some true := by kernel_rfl
theorem tb40 : tbool Try.prog 40 = false := by kernel_rfl
theorem ts40 : tstring Try.prog 40 = false := by kernel_rfl
theorem sl40 : tslice Try.prog 40 = none := by kernel_rfl
theorem ze40 : tzero Try.prog 40 = some [.int .i64 0, .int .i64 0, .slice none 0 0] := by kernel_rfl
theorem st40 : tstruct Try.prog 40 = some [.int .i64 0, .int .i64 0, .slice none 0 0] := by kernel_rfl
theorem fl40_0 : tfield Try.prog 40 0 = some (0, 3) := by kernel_rfl
theorem fl40_1 : tfield Try.prog 40 1 = some (1, 3) := by kernel_rfl
theorem fl40_2 : tfield Try.prog 40 2 = some (2, 38) := by kernel_rfl
theorem sz41 : tsz Try.prog 41 = some 11 := by kernel_rfl
theorem by41 : tbytes Try.prog 41 = some 152 := by kernel_rfl
theorem ag41 : tagg Try.prog 41 = some true := by kernel_rfl
theorem tb41 : tbool Try.prog 41 = false := by kernel_rfl
theorem ts41 : tstring Try.prog 41 = false := by kernel_rfl
theorem sl41 : tslice Try.prog 41 = none := by kernel_rfl
theorem ze41 : tzero Try.prog 41 = some [.int .i64 0, .int .i64 0, .int .i64 0, .int .i64 0, .slice none 0 0, .int .i64 0, .int .i64 0, .slice none 0 0, .int .i64 0, .slice none 0 0, .slice none 0 0] := by kernel_rfl
theorem st41 : tstruct Try.prog 41 = some [.int .i64 0, .int .i64 0, .int .i64 0, .int .i64 0, .slice none 0 0, .int .i64 0, .int .i64 0, .slice none 0 0, .int .i64 0, .slice none 0 0, .slice none 0 0] := by kernel_rfl
theorem fl41_0 : tfield Try.prog 41 0 = some (0, 3) := by kernel_rfl
theorem fl41_1 : tfield Try.prog 41 1 = some (1, 3) := by kernel_rfl
theorem fl41_2 : tfield Try.prog 41 2 = some (2, 40) := by kernel_rfl
theorem fl41_3 : tfield Try.prog 41 3 = some (5, 40) := by kernel_rfl
theorem fl41_4 : tfield Try.prog 41 4 = some (8, 3) := by kernel_rfl
theorem fl41_5 : tfield Try.prog 41 5 = some (9, 24) := by kernel_rfl
theorem fl41_6 : tfield Try.prog 41 6 = some (10, 24) := by kernel_rfl
theorem sz42 : tsz Try.prog 42 = some 11 := by kernel_rfl
theorem by42 : tbytes Try.prog 42 = some 152 := by kernel_rfl
theorem ag42 : tagg Try.prog 42 = some true := by kernel_rfl
theorem tb42 : tbool Try.prog 42 = false := by kernel_rfl
theorem ts42 : tstring Try.prog 42 = false := by kernel_rfl
theorem sl42 : tslice Try.prog 42 = none := by kernel_rfl
theorem ze42 : tzero Try.prog 42 = some [.int .i64 0, .int .i64 0, .int .i64 0, .int .i64 0, .slice none 0 0, .int .i64 0, .int .i64 0, .slice none 0 0, .int .i64 0, .slice none 0 0, .slice none 0 0] := by kernel_rfl
theorem st42 : tstruct Try.prog 42 = some [.int .i64 0, .int .i64 0, .int .i64 0, .int .i64 0, .slice none 0 0, .int .i64 0, .int .i64 0, .slice none 0 0, .int .i64 0, .slice none 0 0, .slice none 0 0] := by kernel_rfl
theorem fl42_0 : tfield Try.prog 42 0 = some (0, 3) := by kernel_rfl
theorem fl42_1 : tfield Try.prog 42 1 = some (1, 3) := by kernel_rfl
theorem fl42_2 : tfield Try.prog 42 2 = some (2, 40) := by kernel_rfl
theorem fl42_3 : tfield Try.prog 42 3 = some (5, 40) := by kernel_rfl
theorem fl42_4 : tfield Try.prog 42 4 = some (8, 3) := by kernel_rfl
theorem fl42_5 : tfield Try.prog 42 5 = some (9, 24) := by kernel_rfl
theorem fl42_6 : tfield Try.prog 42 6 = some (10, 24) := by kernel_rfl
theorem sz43 : tsz Try.prog 43 = some 1 := by kernel_rfl
theorem by43 : tbytes Try.prog 43 = some 8 := by kernel_rfl
theorem ag43 : tagg Try.prog 43 = some false := by kernel_rfl
theorem tb43 : tbool Try.prog 43 = false := by kernel_rfl
theorem ts43 : tstring Try.prog 43 = false := by kernel_rfl
theorem sl43 : tslice Try.prog 43 = none := by kernel_rfl
theorem ze43 : tzero Try.prog 43 = some [.nilFunc] := by kernel_rfl
theorem sz44 : tsz Try.prog 44 = some 1 := by kernel_rfl
theorem by44 : tbytes Try.prog 44 = some 0 := by kernel_rfl
theorem ag44 : tagg Try.prog 44 = some false := by kernel_rfl
theorem tb44 : tbool Try.prog 44 = false := by kernel_rfl
theorem ts44 : tstring Try.prog 44 = false := by kernel_rfl
theorem sl44 : tslice Try.prog 44 = none := by kernel_rfl
theorem sz45 : tsz Try.prog 45 = some 1 := by kernel_rfl
theorem by45 : tbytes Try.prog 45 = some 8 := by kernel_rfl
theorem ag45 : tagg Try.prog 45 = some false := by kernel_rfl
theorem tb45 : tbool Try.prog 45 = false := by kernel_rfl
theorem ts45 : tstring Try.prog 45 = false := by kernel_rfl
theorem sl45 : tslice Try.prog 45 = none := by kernel_rfl
theorem ze45 : tzero Try.prog 45 = some [.nilFunc] := by kernel_rfl
theorem sz46 : tsz Try.prog 46 = some 1 := by kernel_rfl
theorem by46 : tbytes Try.prog 46 = some 0 := by kernel_rfl
theorem ag46 : tagg Try.prog 46 = some false := by kernel_rfl
theorem tb46 : tbool Try.prog 46 = false := by kernel_rfl
theorem ts46 : tstring Try.prog 46 = false := by kernel_rfl
theorem sl46 : tslice Try.prog 46 = none := by kernel_rfl
theorem sz47 : tsz Try.prog 47 = some 1 := by kernel_rfl
theorem by47 : tbytes Try.prog 47 = some 8 := by kernel_rfl
theorem ag47 : tagg Try.prog 47 = some false := by kernel_rfl
theorem tb47 : tbool Try.prog 47 = false := by kernel_rfl
theorem ts47 : tstring Try.prog 47 = false := by kernel_rfl
theorem sl47 : tslice Try.prog 47 = none := by kernel_rfl
theorem ze47 : tzero Try.prog 47 = some [.nilFunc] := by kernel_rfl
theorem sz48 : tsz Try.prog 48 = some 2 := by kernel_rfl
theorem by48 : tbytes Try.prog 48 = some 16 := by kernel_rfl
theorem ag48 : tagg Try.prog 48 = some true := by kernel_rfl
theorem tb48 : tbool Try.prog 48 = false := by kernel_rfl
theorem ts48 : tstring Try.prog 48 = false := by kernel_rfl
theorem sl48 : tslice Try.prog 48 = none := by kernel_rfl
theorem ze48 : tzero Try.prog 48 = some [.int .i64 0, .int .i64 0] := by kernel_rfl
theorem st48 : tstruct Try.prog 48 = some [.int .i64 0, .int .i64 0] := by kernel_rfl
theorem ti48 : tints Try.prog 48 = some 2 := by kernel_rfl
theorem fl48_0 : tfield Try.prog 48 0 = some (0, 3) := by kernel_rfl
theorem fl48_1 : tfield Try.prog 48 1 = some (1, 3) := by kernel_rfl
theorem sz49 : tsz Try.prog 49 = some 2 := by kernel_rfl
theorem by49 : tbytes Try.prog 49 = some 16 := by kernel_rfl
theorem ag49 : tagg Try.prog 49 = some true := by kernel_rfl
theorem tb49 : tbool Try.prog 49 = false := by kernel_rfl
theorem ts49 : tstring Try.prog 49 = false := by kernel_rfl
theorem sl49 : tslice Try.prog 49 = none := by kernel_rfl
theorem ze49 : tzero Try.prog 49 = some [.int .i64 0, .int .i64 0] := by kernel_rfl
theorem st49 : tstruct Try.prog 49 = some [.int .i64 0, .int .i64 0] := by kernel_rfl
theorem ti49 : tints Try.prog 49 = some 2 := by kernel_rfl
theorem fl49_0 : tfield Try.prog 49 0 = some (0, 3) := by kernel_rfl
theorem fl49_1 : tfield Try.prog 49 1 = some (1, 3) := by kernel_rfl
theorem sz50 : tsz Try.prog 50 = some 1 := by kernel_rfl
theorem by50 : tbytes Try.prog 50 = some 8 := by kernel_rfl
theorem ag50 : tagg Try.prog 50 = some false := by kernel_rfl
theorem tb50 : tbool Try.prog 50 = false := by kernel_rfl
theorem ts50 : tstring Try.prog 50 = false := by kernel_rfl
theorem sl50 : tslice Try.prog 50 = none := by kernel_rfl
theorem ze50 : tzero Try.prog 50 = some [.nilFunc] := by kernel_rfl
theorem sz51 : tsz Try.prog 51 = some 1 := by kernel_rfl
theorem by51 : tbytes Try.prog 51 = some 8 := by kernel_rfl
theorem ag51 : tagg Try.prog 51 = some false := by kernel_rfl
theorem tb51 : tbool Try.prog 51 = false := by kernel_rfl
theorem ts51 : tstring Try.prog 51 = false := by kernel_rfl
theorem sl51 : tslice Try.prog 51 = none := by kernel_rfl
theorem ze51 : tzero Try.prog 51 = some [.pointer none] := by kernel_rfl
theorem sz52 : tsz Try.prog 52 = some 1 := by kernel_rfl
theorem by52 : tbytes Try.prog 52 = some 8 := by kernel_rfl
theorem ag52 : tagg Try.prog 52 = some false := by kernel_rfl
theorem tb52 : tbool Try.prog 52 = false := by kernel_rfl
theorem ts52 : tstring Try.prog 52 = false := by kernel_rfl
theorem sl52 : tslice Try.prog 52 = none := by kernel_rfl
theorem ze52 : tzero Try.prog 52 = some [.nilFunc] := by kernel_rfl
theorem sz53 : tsz Try.prog 53 = some 3 := by kernel_rfl
theorem by53 : tbytes Try.prog 53 = some 72 := by kernel_rfl
theorem ag53 : tagg Try.prog 53 = some true := by kernel_rfl
theorem tb53 : tbool Try.prog 53 = false := by kernel_rfl
theorem ts53 : tstring Try.prog 53 = false := by kernel_rfl
theorem sl53 : tslice Try.prog 53 = none := by kernel_rfl
theorem ze53 : tzero Try.prog 53 = some [.slice none 0 0, .slice none 0 0, .slice none 0 0] := by kernel_rfl
theorem st53 : tstruct Try.prog 53 = some [.slice none 0 0, .slice none 0 0, .slice none 0 0] := by kernel_rfl
theorem fl53_0 : tfield Try.prog 53 0 = some (0, 29) := by kernel_rfl
theorem fl53_1 : tfield Try.prog 53 1 = some (2, 32) := by kernel_rfl
theorem sz54 : tsz Try.prog 54 = some 3 := by kernel_rfl
theorem by54 : tbytes Try.prog 54 = some 72 := by kernel_rfl
theorem ag54 : tagg Try.prog 54 = some true := by kernel_rfl
theorem tb54 : tbool Try.prog 54 = false := by kernel_rfl
theorem ts54 : tstring Try.prog 54 = false := by kernel_rfl
theorem sl54 : tslice Try.prog 54 = none := by kernel_rfl
theorem ze54 : tzero Try.prog 54 = some [.slice none 0 0, .slice none 0 0, .slice none 0 0] := by kernel_rfl
theorem st54 : tstruct Try.prog 54 = some [.slice none 0 0, .slice none 0 0, .slice none 0 0] := by kernel_rfl
theorem fl54_0 : tfield Try.prog 54 0 = some (0, 29) := by kernel_rfl
theorem fl54_1 : tfield Try.prog 54 1 = some (2, 32) := by kernel_rfl
theorem sz55 : tsz Try.prog 55 = some 1 := by kernel_rfl
theorem by55 : tbytes Try.prog 55 = some 8 := by kernel_rfl
theorem ag55 : tagg Try.prog 55 = some false := by kernel_rfl
theorem tb55 : tbool Try.prog 55 = false := by kernel_rfl
theorem ts55 : tstring Try.prog 55 = false := by kernel_rfl
theorem sl55 : tslice Try.prog 55 = none := by kernel_rfl
theorem ze55 : tzero Try.prog 55 = some [.nilFunc] := by kernel_rfl
theorem sz56 : tsz Try.prog 56 = some 1 := by kernel_rfl
theorem by56 : tbytes Try.prog 56 = some 8 := by kernel_rfl
theorem ag56 : tagg Try.prog 56 = some false := by kernel_rfl
theorem tb56 : tbool Try.prog 56 = false := by kernel_rfl
theorem ts56 : tstring Try.prog 56 = false := by kernel_rfl
theorem sl56 : tslice Try.prog 56 = none := by kernel_rfl
theorem ze56 : tzero Try.prog 56 = some [.nilFunc] := by kernel_rfl
theorem sz57 : tsz Try.prog 57 = some 1 := by kernel_rfl
theorem by57 : tbytes Try.prog 57 = some 8 := by kernel_rfl
theorem ag57 : tagg Try.prog 57 = some false := by kernel_rfl
theorem tb57 : tbool Try.prog 57 = false := by kernel_rfl
theorem ts57 : tstring Try.prog 57 = false := by kernel_rfl
theorem sl57 : tslice Try.prog 57 = none := by kernel_rfl
theorem ze57 : tzero Try.prog 57 = some [.nilFunc] := by kernel_rfl
theorem sz58 : tsz Try.prog 58 = some 1 := by kernel_rfl
theorem by58 : tbytes Try.prog 58 = some 8 := by kernel_rfl
theorem ag58 : tagg Try.prog 58 = some false := by kernel_rfl
theorem tb58 : tbool Try.prog 58 = false := by kernel_rfl
theorem ts58 : tstring Try.prog 58 = false := by kernel_rfl
theorem sl58 : tslice Try.prog 58 = none := by kernel_rfl
theorem ze58 : tzero Try.prog 58 = some [.nilFunc] := by kernel_rfl
theorem sz59 : tsz Try.prog 59 = some 1 := by kernel_rfl
theorem by59 : tbytes Try.prog 59 = some 8 := by kernel_rfl
theorem ag59 : tagg Try.prog 59 = some false := by kernel_rfl
theorem tb59 : tbool Try.prog 59 = false := by kernel_rfl
theorem ts59 : tstring Try.prog 59 = false := by kernel_rfl
theorem sl59 : tslice Try.prog 59 = none := by kernel_rfl
theorem ze59 : tzero Try.prog 59 = some [.nilFunc] := by kernel_rfl
theorem sz60 : tsz Try.prog 60 = some 1 := by kernel_rfl
theorem by60 : tbytes Try.prog 60 = some 8 := by kernel_rfl
theorem ag60 : tagg Try.prog 60 = some false := by kernel_rfl
theorem tb60 : tbool Try.prog 60 = false := by kernel_rfl
theorem ts60 : tstring Try.prog 60 = false := by kernel_rfl
theorem sl60 : tslice Try.prog 60 = none := by kernel_rfl
theorem ze60 : tzero Try.prog 60 = some [.pointer none] := by kernel_rfl
theorem sz61 : tsz Try.prog 61 = some 1 := by kernel_rfl
theorem by61 : tbytes Try.prog 61 = some 8 := by kernel_rfl
theorem ag61 : tagg Try.prog 61 = some false := by kernel_rfl
theorem tb61 : tbool Try.prog 61 = false := by kernel_rfl
theorem ts61 : tstring Try.prog 61 = false := by kernel_rfl
theorem sl61 : tslice Try.prog 61 = none := by kernel_rfl
theorem ze61 : tzero Try.prog 61 = some [.nilFunc] := by kernel_rfl
theorem sz62 : tsz Try.prog 62 = some 1 := by kernel_rfl
theorem by62 : tbytes Try.prog 62 = some 8 := by kernel_rfl
theorem ag62 : tagg Try.prog 62 = some false := by kernel_rfl
theorem tb62 : tbool Try.prog 62 = false := by kernel_rfl
theorem ts62 : tstring Try.prog 62 = false := by kernel_rfl
theorem sl62 : tslice Try.prog 62 = none := by kernel_rfl
theorem ze62 : tzero Try.prog 62 = some [.nilFunc] := by kernel_rfl
theorem sz63 : tsz Try.prog 63 = some 1 := by kernel_rfl
theorem by63 : tbytes Try.prog 63 = some 8 := by kernel_rfl
theorem ag63 : tagg Try.prog 63 = some false := by kernel_rfl
theorem tb63 : tbool Try.prog 63 = false := by kernel_rfl
theorem ts63 : tstring Try.prog 63 = false := by kernel_rfl
theorem sl63 : tslice Try.prog 63 = none := by kernel_rfl
theorem ze63 : tzero Try.prog 63 = some [.nilFunc] := by kernel_rfl
theorem sz64 : tsz Try.prog 64 = some 1 := by kernel_rfl
theorem by64 : tbytes Try.prog 64 = some 8 := by kernel_rfl
theorem ag64 : tagg Try.prog 64 = some false := by kernel_rfl
theorem tb64 : tbool Try.prog 64 = false := by kernel_rfl
theorem ts64 : tstring Try.prog 64 = false := by kernel_rfl
theorem sl64 : tslice Try.prog 64 = none := by kernel_rfl
theorem ze64 : tzero Try.prog 64 = some [.nilFunc] := by kernel_rfl
theorem sz65 : tsz Try.prog 65 = some 1 := by kernel_rfl
theorem by65 : tbytes Try.prog 65 = some 8 := by kernel_rfl
theorem ag65 : tagg Try.prog 65 = some false := by kernel_rfl
theorem tb65 : tbool Try.prog 65 = false := by kernel_rfl
theorem ts65 : tstring Try.prog 65 = false := by kernel_rfl
theorem sl65 : tslice Try.prog 65 = none := by kernel_rfl
theorem ze65 : tzero Try.prog 65 = some [.nilFunc] := by kernel_rfl
theorem sz66 : tsz Try.prog 66 = some 1 := by kernel_rfl
theorem by66 : tbytes Try.prog 66 = some 8 := by kernel_rfl
theorem ag66 : tagg Try.prog 66 = some false := by kernel_rfl
theorem tb66 : tbool Try.prog 66 = false := by kernel_rfl
theorem ts66 : tstring Try.prog 66 = false := by kernel_rfl
theorem sl66 : tslice Try.prog 66 = none := by kernel_rfl
theorem ze66 : tzero Try.prog 66 = some [.nilFunc] := by kernel_rfl
theorem sz67 : tsz Try.prog 67 = some 1 := by kernel_rfl
theorem by67 : tbytes Try.prog 67 = some 8 := by kernel_rfl
theorem ag67 : tagg Try.prog 67 = some false := by kernel_rfl
theorem tb67 : tbool Try.prog 67 = false := by kernel_rfl
theorem ts67 : tstring Try.prog 67 = false := by kernel_rfl
theorem sl67 : tslice Try.prog 67 = none := by kernel_rfl
theorem ze67 : tzero Try.prog 67 = some [.nilFunc] := by kernel_rfl
theorem sz68 : tsz Try.prog 68 = some 1 := by kernel_rfl
theorem by68 : tbytes Try.prog 68 = some 8 := by kernel_rfl
theorem ag68 : tagg Try.prog 68 = some false := by kernel_rfl
theorem tb68 : tbool Try.prog 68 = false := by kernel_rfl
theorem ts68 : tstring Try.prog 68 = false := by kernel_rfl
theorem sl68 : tslice Try.prog 68 = none := by kernel_rfl
theorem ze68 : tzero Try.prog 68 = some [.nilFunc] := by kernel_rfl
theorem sz69 : tsz Try.prog 69 = some 1 := by kernel_rfl
theorem by69 : tbytes Try.prog 69 = some 8 := by kernel_rfl
theorem ag69 : tagg Try.prog 69 = some false := by kernel_rfl
theorem tb69 : tbool Try.prog 69 = false := by kernel_rfl
theorem ts69 : tstring Try.prog 69 = false := by kernel_rfl
theorem sl69 : tslice Try.prog 69 = none := by kernel_rfl
theorem ze69 : tzero Try.prog 69 = some [.nilFunc] := by kernel_rfl
theorem sz70 : tsz Try.prog 70 = some 1 := by kernel_rfl
theorem by70 : tbytes Try.prog 70 = some 8 := by kernel_rfl
theorem ag70 : tagg Try.prog 70 = some false := by kernel_rfl
theorem tb70 : tbool Try.prog 70 = false := by kernel_rfl
theorem ts70 : tstring Try.prog 70 = false := by kernel_rfl
theorem sl70 : tslice Try.prog 70 = none := by kernel_rfl
theorem ze70 : tzero Try.prog 70 = some [.nilFunc] := by kernel_rfl
theorem sz71 : tsz Try.prog 71 = some 1 := by kernel_rfl
theorem by71 : tbytes Try.prog 71 = some 8 := by kernel_rfl
theorem ag71 : tagg Try.prog 71 = some false := by kernel_rfl
theorem tb71 : tbool Try.prog 71 = false := by kernel_rfl
theorem ts71 : tstring Try.prog 71 = false := by kernel_rfl
theorem sl71 : tslice Try.prog 71 = none := by kernel_rfl
theorem ze71 : tzero Try.prog 71 = some [.nilFunc] := by kernel_rfl
theorem sz72 : tsz Try.prog 72 = some 1 := by kernel_rfl
theorem by72 : tbytes Try.prog 72 = some 8 := by kernel_rfl
theorem ag72 : tagg Try.prog 72 = some false := by kernel_rfl
theorem tb72 : tbool Try.prog 72 = false := by kernel_rfl
theorem ts72 : tstring Try.prog 72 = false := by kernel_rfl
theorem sl72 : tslice Try.prog 72 = none := by kernel_rfl
theorem ze72 : tzero Try.prog 72 = some [.nilFunc] := by kernel_rfl
theorem sz73 : tsz Try.prog 73 = some 1 := by kernel_rfl
theorem by73 : tbytes Try.prog 73 = some 8 := by kernel_rfl
theorem ag73 : tagg Try.prog 73 = some false := by kernel_rfl
theorem tb73 : tbool Try.prog 73 = false := by kernel_rfl
theorem ts73 : tstring Try.prog 73 = false := by kernel_rfl
theorem sl73 : tslice Try.prog 73 = none := by kernel_rfl
theorem ze73 : tzero Try.prog 73 = some [.nilFunc] := by kernel_rfl
theorem sz74 : tsz Try.prog 74 = some 1 := by kernel_rfl
theorem by74 : tbytes Try.prog 74 = some 8 := by kernel_rfl
theorem ag74 : tagg Try.prog 74 = some false := by kernel_rfl
theorem tb74 : tbool Try.prog 74 = false := by kernel_rfl
theorem ts74 : tstring Try.prog 74 = false := by kernel_rfl
theorem sl74 : tslice Try.prog 74 = none := by kernel_rfl
theorem ze74 : tzero Try.prog 74 = some [.nilFunc] := by kernel_rfl
theorem sz75 : tsz Try.prog 75 = some 1 := by kernel_rfl
theorem by75 : tbytes Try.prog 75 = some 8 := by kernel_rfl
theorem ag75 : tagg Try.prog 75 = some false := by kernel_rfl
theorem tb75 : tbool Try.prog 75 = false := by kernel_rfl
theorem ts75 : tstring Try.prog 75 = false := by kernel_rfl
theorem sl75 : tslice Try.prog 75 = none := by kernel_rfl
theorem ze75 : tzero Try.prog 75 = some [.nilFunc] := by kernel_rfl
theorem sz76 : tsz Try.prog 76 = some 1 := by kernel_rfl
theorem by76 : tbytes Try.prog 76 = some 8 := by kernel_rfl
theorem ag76 : tagg Try.prog 76 = some false := by kernel_rfl
theorem tb76 : tbool Try.prog 76 = false := by kernel_rfl
theorem ts76 : tstring Try.prog 76 = false := by kernel_rfl
theorem sl76 : tslice Try.prog 76 = none := by kernel_rfl
theorem ze76 : tzero Try.prog 76 = some [.nilFunc] := by kernel_rfl
theorem sz77 : tsz Try.prog 77 = some 1 := by kernel_rfl
theorem by77 : tbytes Try.prog 77 = some 8 := by kernel_rfl
theorem ag77 : tagg Try.prog 77 = some false := by kernel_rfl
theorem tb77 : tbool Try.prog 77 = false := by kernel_rfl
theorem ts77 : tstring Try.prog 77 = false := by kernel_rfl
theorem sl77 : tslice Try.prog 77 = none := by kernel_rfl
theorem ze77 : tzero Try.prog 77 = some [.nilFunc] := by kernel_rfl
theorem sz78 : tsz Try.prog 78 = some 1 := by kernel_rfl
theorem by78 : tbytes Try.prog 78 = some 0 := by kernel_rfl
theorem ag78 : tagg Try.prog 78 = some false := by kernel_rfl
theorem tb78 : tbool Try.prog 78 = false := by kernel_rfl
theorem ts78 : tstring Try.prog 78 = false := by kernel_rfl
theorem sl78 : tslice Try.prog 78 = none := by kernel_rfl
theorem sz79 : tsz Try.prog 79 = some 1 := by kernel_rfl
theorem by79 : tbytes Try.prog 79 = some 8 := by kernel_rfl
theorem ag79 : tagg Try.prog 79 = some false := by kernel_rfl
theorem tb79 : tbool Try.prog 79 = false := by kernel_rfl
theorem ts79 : tstring Try.prog 79 = false := by kernel_rfl
theorem sl79 : tslice Try.prog 79 = none := by kernel_rfl
theorem ze79 : tzero Try.prog 79 = some [.nilFunc] := by kernel_rfl
theorem sz80 : tsz Try.prog 80 = some 2 := by kernel_rfl
theorem by80 : tbytes Try.prog 80 = some 32 := by kernel_rfl
theorem ag80 : tagg Try.prog 80 = some true := by kernel_rfl
theorem tb80 : tbool Try.prog 80 = false := by kernel_rfl
theorem ts80 : tstring Try.prog 80 = false := by kernel_rfl
theorem sl80 : tslice Try.prog 80 = none := by kernel_rfl
theorem ze80 : tzero Try.prog 80 = some [.slice none 0 0, .int .i64 0] := by kernel_rfl
theorem st80 : tstruct Try.prog 80 = some [.slice none 0 0, .int .i64 0] := by kernel_rfl
theorem fl80_0 : tfield Try.prog 80 0 = some (0, 22) := by kernel_rfl
theorem fl80_1 : tfield Try.prog 80 1 = some (1, 3) := by kernel_rfl
theorem sz81 : tsz Try.prog 81 = some 2 := by kernel_rfl
theorem by81 : tbytes Try.prog 81 = some 32 := by kernel_rfl
theorem ag81 : tagg Try.prog 81 = some true := by kernel_rfl
theorem tb81 : tbool Try.prog 81 = false := by kernel_rfl
theorem ts81 : tstring Try.prog 81 = false := by kernel_rfl
theorem sl81 : tslice Try.prog 81 = none := by kernel_rfl
theorem ze81 : tzero Try.prog 81 = some [.slice none 0 0, .int .i64 0] := by kernel_rfl
theorem st81 : tstruct Try.prog 81 = some [.slice none 0 0, .int .i64 0] := by kernel_rfl
theorem fl81_0 : tfield Try.prog 81 0 = some (0, 22) := by kernel_rfl
theorem fl81_1 : tfield Try.prog 81 1 = some (1, 3) := by kernel_rfl
theorem sz82 : tsz Try.prog 82 = some 1 := by kernel_rfl
theorem by82 : tbytes Try.prog 82 = some 8 := by kernel_rfl
theorem ag82 : tagg Try.prog 82 = some false := by kernel_rfl
theorem tb82 : tbool Try.prog 82 = false := by kernel_rfl
theorem ts82 : tstring Try.prog 82 = false := by kernel_rfl
theorem sl82 : tslice Try.prog 82 = none := by kernel_rfl
theorem ze82 : tzero Try.prog 82 = some [.nilFunc] := by kernel_rfl
theorem sz83 : tsz Try.prog 83 = some 1 := by kernel_rfl
theorem by83 : tbytes Try.prog 83 = some 8 := by kernel_rfl
theorem ag83 : tagg Try.prog 83 = some false := by kernel_rfl
theorem tb83 : tbool Try.prog 83 = false := by kernel_rfl
theorem ts83 : tstring Try.prog 83 = false := by kernel_rfl
theorem sl83 : tslice Try.prog 83 = none := by kernel_rfl
theorem ze83 : tzero Try.prog 83 = some [.nilFunc] := by kernel_rfl
theorem sz84 : tsz Try.prog 84 = some 1 := by kernel_rfl
theorem by84 : tbytes Try.prog 84 = some 8 := by kernel_rfl
theorem ag84 : tagg Try.prog 84 = some false := by kernel_rfl
theorem tb84 : tbool Try.prog 84 = false := by kernel_rfl
theorem ts84 : tstring Try.prog 84 = false := by kernel_rfl
theorem sl84 : tslice Try.prog 84 = none := by kernel_rfl
theorem ze84 : tzero Try.prog 84 = some [.nilFunc] := by kernel_rfl
theorem sz85 : tsz Try.prog 85 = some 1 := by kernel_rfl
theorem by85 : tbytes Try.prog 85 = some 8 := by kernel_rfl
theorem ag85 : tagg Try.prog 85 = some false := by kernel_rfl
theorem tb85 : tbool Try.prog 85 = false := by kernel_rfl
theorem ts85 : tstring Try.prog 85 = false := by kernel_rfl
theorem sl85 : tslice Try.prog 85 = none := by kernel_rfl
theorem ze85 : tzero Try.prog 85 = some [.nilFunc] := by kernel_rfl
theorem sz86 : tsz Try.prog 86 = some 1 := by kernel_rfl
theorem by86 : tbytes Try.prog 86 = some 8 := by kernel_rfl
theorem ag86 : tagg Try.prog 86 = some false := by kernel_rfl
theorem tb86 : tbool Try.prog 86 = false := by kernel_rfl
theorem ts86 : tstring Try.prog 86 = false := by kernel_rfl
theorem sl86 : tslice Try.prog 86 = none := by kernel_rfl
theorem ze86 : tzero Try.prog 86 = some [.nilFunc] := by kernel_rfl
theorem sz87 : tsz Try.prog 87 = some 1 := by kernel_rfl
theorem by87 : tbytes Try.prog 87 = some 8 := by kernel_rfl
theorem ag87 : tagg Try.prog 87 = some false := by kernel_rfl
theorem tb87 : tbool Try.prog 87 = false := by kernel_rfl
theorem ts87 : tstring Try.prog 87 = false := by kernel_rfl
theorem sl87 : tslice Try.prog 87 = none := by kernel_rfl
theorem ze87 : tzero Try.prog 87 = some [.nilFunc] := by kernel_rfl
theorem sz88 : tsz Try.prog 88 = some 1 := by kernel_rfl
theorem by88 : tbytes Try.prog 88 = some 8 := by kernel_rfl
theorem ag88 : tagg Try.prog 88 = some false := by kernel_rfl
theorem tb88 : tbool Try.prog 88 = false := by kernel_rfl
theorem ts88 : tstring Try.prog 88 = false := by kernel_rfl
theorem sl88 : tslice Try.prog 88 = none := by kernel_rfl
theorem ze88 : tzero Try.prog 88 = some [.pointer none] := by kernel_rfl
theorem sz89 : tsz Try.prog 89 = some 1 := by kernel_rfl
theorem by89 : tbytes Try.prog 89 = some 8 := by kernel_rfl
theorem ag89 : tagg Try.prog 89 = some false := by kernel_rfl
theorem tb89 : tbool Try.prog 89 = false := by kernel_rfl
theorem ts89 : tstring Try.prog 89 = false := by kernel_rfl
theorem sl89 : tslice Try.prog 89 = none := by kernel_rfl
theorem ze89 : tzero Try.prog 89 = some [.nilFunc] := by kernel_rfl
theorem sz90 : tsz Try.prog 90 = some 1 := by kernel_rfl
theorem by90 : tbytes Try.prog 90 = some 8 := by kernel_rfl
theorem ag90 : tagg Try.prog 90 = some false := by kernel_rfl
theorem tb90 : tbool Try.prog 90 = false := by kernel_rfl
theorem ts90 : tstring Try.prog 90 = false := by kernel_rfl
theorem sl90 : tslice Try.prog 90 = none := by kernel_rfl
theorem ze90 : tzero Try.prog 90 = some [.nilFunc] := by kernel_rfl
theorem sz91 : tsz Try.prog 91 = some 1 := by kernel_rfl
theorem by91 : tbytes Try.prog 91 = some 8 := by kernel_rfl
theorem ag91 : tagg Try.prog 91 = some false := by kernel_rfl
theorem tb91 : tbool Try.prog 91 = false := by kernel_rfl
theorem ts91 : tstring Try.prog 91 = false := by kernel_rfl
theorem sl91 : tslice Try.prog 91 = none := by kernel_rfl
theorem ze91 : tzero Try.prog 91 = some [.nilFunc] := by kernel_rfl
theorem sz92 : tsz Try.prog 92 = some 1 := by kernel_rfl
theorem by92 : tbytes Try.prog 92 = some 8 := by kernel_rfl
theorem ag92 : tagg Try.prog 92 = some false := by kernel_rfl
theorem tb92 : tbool Try.prog 92 = false := by kernel_rfl
theorem ts92 : tstring Try.prog 92 = false := by kernel_rfl
theorem sl92 : tslice Try.prog 92 = none := by kernel_rfl
theorem ze92 : tzero Try.prog 92 = some [.nilFunc] := by kernel_rfl
theorem sz93 : tsz Try.prog 93 = some 1 := by kernel_rfl
theorem by93 : tbytes Try.prog 93 = some 8 := by kernel_rfl
theorem ag93 : tagg Try.prog 93 = some false := by kernel_rfl
theorem tb93 : tbool Try.prog 93 = false := by kernel_rfl
theorem ts93 : tstring Try.prog 93 = false := by kernel_rfl
theorem sl93 : tslice Try.prog 93 = none := by kernel_rfl
theorem ze93 : tzero Try.prog 93 = some [.nilFunc] := by kernel_rfl
theorem sz94 : tsz Try.prog 94 = some 1 := by kernel_rfl
theorem by94 : tbytes Try.prog 94 = some 8 := by kernel_rfl
theorem ag94 : tagg Try.prog 94 = some false := by kernel_rfl
theorem tb94 : tbool Try.prog 94 = false := by kernel_rfl
theorem ts94 : tstring Try.prog 94 = false := by kernel_rfl
theorem sl94 : tslice Try.prog 94 = none := by kernel_rfl
theorem ze94 : tzero Try.prog 94 = some [.nilFunc] := by kernel_rfl
theorem sz95 : tsz Try.prog 95 = some 1 := by kernel_rfl
theorem by95 : tbytes Try.prog 95 = some 8 := by kernel_rfl
theorem ag95 : tagg Try.prog 95 = some false := by kernel_rfl
theorem tb95 : tbool Try.prog 95 = false := by kernel_rfl
theorem ts95 : tstring Try.prog 95 = false := by kernel_rfl
theorem sl95 : tslice Try.prog 95 = none := by kernel_rfl
theorem ze95 : tzero Try.prog 95 = some [.nilFunc] := by kernel_rfl
theorem sz96 : tsz Try.prog 96 = some 1 := by kernel_rfl
theorem by96 : tbytes Try.prog 96 = some 8 := by kernel_rfl
theorem ag96 : tagg Try.prog 96 = some false := by kernel_rfl
theorem tb96 : tbool Try.prog 96 = false := by kernel_rfl
theorem ts96 : tstring Try.prog 96 = false := by kernel_rfl
theorem sl96 : tslice Try.prog 96 = none := by kernel_rfl
theorem ze96 : tzero Try.prog 96 = some [.nilFunc] := by kernel_rfl
theorem sz97 : tsz Try.prog 97 = some 1 := by kernel_rfl
theorem by97 : tbytes Try.prog 97 = some 8 := by kernel_rfl
theorem ag97 : tagg Try.prog 97 = some false := by kernel_rfl
theorem tb97 : tbool Try.prog 97 = false := by kernel_rfl
theorem ts97 : tstring Try.prog 97 = false := by kernel_rfl
theorem sl97 : tslice Try.prog 97 = none := by kernel_rfl
theorem ze97 : tzero Try.prog 97 = some [.nilFunc] := by kernel_rfl
theorem sz98 : tsz Try.prog 98 = some 1 := by kernel_rfl
theorem by98 : tbytes Try.prog 98 = some 8 := by kernel_rfl
theorem ag98 : tagg Try.prog 98 = some false := by kernel_rfl
theorem tb98 : tbool Try.prog 98 = false := by kernel_rfl
theorem ts98 : tstring Try.prog 98 = false := by kernel_rfl
theorem sl98 : tslice Try.prog 98 = none := by kernel_rfl
theorem ze98 : tzero Try.prog 98 = some [.nilFunc] := by kernel_rfl
theorem sz99 : tsz Try.prog 99 = some 1 := by kernel_rfl
theorem by99 : tbytes Try.prog 99 = some 8 := by kernel_rfl
theorem ag99 : tagg Try.prog 99 = some false := by kernel_rfl
theorem tb99 : tbool Try.prog 99 = false := by kernel_rfl
theorem ts99 : tstring Try.prog 99 = false := by kernel_rfl
theorem sl99 : tslice Try.prog 99 = none := by kernel_rfl
theorem ze99 : tzero Try.prog 99 = some [.nilFunc] := by kernel_rfl
theorem sz100 : tsz Try.prog 100 = some 1 := by kernel_rfl
theorem by100 : tbytes Try.prog 100 = some 8 := by kernel_rfl
theorem ag100 : tagg Try.prog 100 = some false := by kernel_rfl
theorem tb100 : tbool Try.prog 100 = false := by kernel_rfl
theorem ts100 : tstring Try.prog 100 = false := by kernel_rfl
theorem sl100 : tslice Try.prog 100 = none := by kernel_rfl
theorem ze100 : tzero Try.prog 100 = some [.nilFunc] := by kernel_rfl
theorem sz101 : tsz Try.prog 101 = some 1 := by kernel_rfl
theorem by101 : tbytes Try.prog 101 = some 8 := by kernel_rfl
theorem ag101 : tagg Try.prog 101 = some false := by kernel_rfl
theorem tb101 : tbool Try.prog 101 = false := by kernel_rfl
theorem ts101 : tstring Try.prog 101 = false := by kernel_rfl
theorem sl101 : tslice Try.prog 101 = none := by kernel_rfl
theorem ze101 : tzero Try.prog 101 = some [.nilFunc] := by kernel_rfl
theorem sz102 : tsz Try.prog 102 = some 1 := by kernel_rfl
theorem by102 : tbytes Try.prog 102 = some 8 := by kernel_rfl
theorem ag102 : tagg Try.prog 102 = some false := by kernel_rfl
theorem tb102 : tbool Try.prog 102 = false := by kernel_rfl
theorem ts102 : tstring Try.prog 102 = false := by kernel_rfl
theorem sl102 : tslice Try.prog 102 = none := by kernel_rfl
theorem ze102 : tzero Try.prog 102 = some [.nilFunc] := by kernel_rfl
theorem sz103 : tsz Try.prog 103 = some 1 := by kernel_rfl
theorem by103 : tbytes Try.prog 103 = some 8 := by kernel_rfl
theorem ag103 : tagg Try.prog 103 = some false := by kernel_rfl
theorem tb103 : tbool Try.prog 103 = false := by kernel_rfl
theorem ts103 : tstring Try.prog 103 = false := by kernel_rfl
theorem sl103 : tslice Try.prog 103 = none := by kernel_rfl
theorem ze103 : tzero Try.prog 103 = some [.nilFunc] := by kernel_rfl
theorem sz104 : tsz Try.prog 104 = some 1 := by kernel_rfl
theorem by104 : tbytes Try.prog 104 = some 8 := by kernel_rfl
theorem ag104 : tagg Try.prog 104 = some false := by kernel_rfl
theorem tb104 : tbool Try.prog 104 = false := by kernel_rfl
theorem ts104 : tstring Try.prog 104 = false := by kernel_rfl
theorem sl104 : tslice Try.prog 104 = none := by kernel_rfl
theorem ze104 : tzero Try.prog 104 = some [.nilFunc] := by kernel_rfl
theorem sz105 : tsz Try.prog 105 = some 1 := by kernel_rfl
theorem by105 : tbytes Try.prog 105 = some 8 := by kernel_rfl
theorem ag105 : tagg Try.prog 105 = some false := by kernel_rfl
theorem tb105 : tbool Try.prog 105 = false := by kernel_rfl
theorem ts105 : tstring Try.prog 105 = false := by kernel_rfl
theorem sl105 : tslice Try.prog 105 = none := by kernel_rfl
theorem ze105 : tzero Try.prog 105 = some [.nilFunc] := by kernel_rfl
theorem sz106 : tsz Try.prog 106 = some 1 := by kernel_rfl
theorem by106 : tbytes Try.prog 106 = some 8 := by kernel_rfl
theorem ag106 : tagg Try.prog 106 = some false := by kernel_rfl
theorem tb106 : tbool Try.prog 106 = false := by kernel_rfl
theorem ts106 : tstring Try.prog 106 = false := by kernel_rfl
theorem sl106 : tslice Try.prog 106 = none := by kernel_rfl
theorem ze106 : tzero Try.prog 106 = some [.nilFunc] := by kernel_rfl
theorem sz107 : tsz Try.prog 107 = some 1 := by kernel_rfl
theorem by107 : tbytes Try.prog 107 = some 8 := by kernel_rfl
theorem ag107 : tagg Try.prog 107 = some false := by kernel_rfl
theorem tb107 : tbool Try.prog 107 = false := by kernel_rfl
theorem ts107 : tstring Try.prog 107 = false := by kernel_rfl
theorem sl107 : tslice Try.prog 107 = none := by kernel_rfl
theorem ze107 : tzero Try.prog 107 = some [.nilFunc] := by kernel_rfl
theorem sz108 : tsz Try.prog 108 = some 1 := by kernel_rfl
theorem by108 : tbytes Try.prog 108 = some 8 := by kernel_rfl
theorem ag108 : tagg Try.prog 108 = some false := by kernel_rfl
theorem tb108 : tbool Try.prog 108 = false := by kernel_rfl
theorem ts108 : tstring Try.prog 108 = false := by kernel_rfl
theorem sl108 : tslice Try.prog 108 = none := by kernel_rfl
theorem ze108 : tzero Try.prog 108 = some [.nilFunc] := by kernel_rfl
theorem sz109 : tsz Try.prog 109 = some 1 := by kernel_rfl
theorem by109 : tbytes Try.prog 109 = some 8 := by kernel_rfl
theorem ag109 : tagg Try.prog 109 = some false := by kernel_rfl
theorem tb109 : tbool Try.prog 109 = false := by kernel_rfl
theorem ts109 : tstring Try.prog 109 = false := by kernel_rfl
theorem sl109 : tslice Try.prog 109 = none := by kernel_rfl
theorem ze109 : tzero Try.prog 109 = some [.nilFunc] := by kernel_rfl
theorem sz110 : tsz Try.prog 110 = some 4 := by kernel_rfl
theorem by110 : tbytes Try.prog 110 = some 40 := by kernel_rfl
theorem ag110 : tagg Try.prog 110 = some true := by kernel_rfl
theorem tb110 : tbool Try.prog 110 = false := by kernel_rfl
theorem ts110 : tstring Try.prog 110 = false := by kernel_rfl
theorem sl110 : tslice Try.prog 110 = none := by kernel_rfl
theorem ze110 : tzero Try.prog 110 = some [.pointer none, .pointer none, .pointer none, .string .empty] := by kernel_rfl
theorem st110 : tstruct Try.prog 110 = some [.pointer none, .pointer none, .pointer none, .string .empty] := by kernel_rfl
theorem fl110_0 : tfield Try.prog 110 0 = some (0, 17) := by kernel_rfl
theorem fl110_1 : tfield Try.prog 110 1 = some (1, 17) := by kernel_rfl
theorem fl110_2 : tfield Try.prog 110 2 = some (2, 17) := by kernel_rfl
theorem fl110_3 : tfield Try.prog 110 3 = some (3, 9) := by kernel_rfl
theorem sz111 : tsz Try.prog 111 = some 4 := by kernel_rfl
theorem by111 : tbytes Try.prog 111 = some 40 := by kernel_rfl
theorem ag111 : tagg Try.prog 111 = some true := by kernel_rfl
theorem tb111 : tbool Try.prog 111 = false := by kernel_rfl
theorem ts111 : tstring Try.prog 111 = false := by kernel_rfl
theorem sl111 : tslice Try.prog 111 = none := by kernel_rfl
theorem ze111 : tzero Try.prog 111 = some [.pointer none, .pointer none, .pointer none, .string .empty] := by kernel_rfl
theorem st111 : tstruct Try.prog 111 = some [.pointer none, .pointer none, .pointer none, .string .empty] := by kernel_rfl
theorem fl111_0 : tfield Try.prog 111 0 = some (0, 17) := by kernel_rfl
theorem fl111_1 : tfield Try.prog 111 1 = some (1, 17) := by kernel_rfl
theorem fl111_2 : tfield Try.prog 111 2 = some (2, 17) := by kernel_rfl
theorem fl111_3 : tfield Try.prog 111 3 = some (3, 9) := by kernel_rfl
theorem sz112 : tsz Try.prog 112 = some 0 := by kernel_rfl
theorem by112 : tbytes Try.prog 112 = some 0 := by kernel_rfl
theorem ag112 : tagg Try.prog 112 = some true := by kernel_rfl
theorem tb112 : tbool Try.prog 112 = false := by kernel_rfl
theorem ts112 : tstring Try.prog 112 = false := by kernel_rfl
theorem sl112 : tslice Try.prog 112 = none := by kernel_rfl
theorem ze112 : tzero Try.prog 112 = some [] := by kernel_rfl
theorem sz113 : tsz Try.prog 113 = some 0 := by kernel_rfl
theorem by113 : tbytes Try.prog 113 = some 0 := by kernel_rfl
theorem ag113 : tagg Try.prog 113 = some true := by kernel_rfl
theorem tb113 : tbool Try.prog 113 = false := by kernel_rfl
theorem ts113 : tstring Try.prog 113 = false := by kernel_rfl
theorem sl113 : tslice Try.prog 113 = none := by kernel_rfl
theorem ze113 : tzero Try.prog 113 = some [] := by kernel_rfl
theorem st113 : tstruct Try.prog 113 = some [] := by kernel_rfl
theorem sz114 : tsz Try.prog 114 = some 0 := by kernel_rfl
theorem by114 : tbytes Try.prog 114 = some 0 := by kernel_rfl
theorem ag114 : tagg Try.prog 114 = some true := by kernel_rfl
theorem tb114 : tbool Try.prog 114 = false := by kernel_rfl
theorem ts114 : tstring Try.prog 114 = false := by kernel_rfl
theorem sl114 : tslice Try.prog 114 = none := by kernel_rfl
theorem ze114 : tzero Try.prog 114 = some [] := by kernel_rfl
theorem st114 : tstruct Try.prog 114 = some [] := by kernel_rfl
theorem sz115 : tsz Try.prog 115 = some 1 := by kernel_rfl
theorem by115 : tbytes Try.prog 115 = some 8 := by kernel_rfl
theorem ag115 : tagg Try.prog 115 = some false := by kernel_rfl
theorem tb115 : tbool Try.prog 115 = false := by kernel_rfl
theorem ts115 : tstring Try.prog 115 = false := by kernel_rfl
theorem sl115 : tslice Try.prog 115 = none := by kernel_rfl
theorem ze115 : tzero Try.prog 115 = some [.nilFunc] := by kernel_rfl
theorem sz116 : tsz Try.prog 116 = some 1 := by kernel_rfl
theorem by116 : tbytes Try.prog 116 = some 4 := by kernel_rfl
theorem ag116 : tagg Try.prog 116 = some false := by kernel_rfl
theorem tb116 : tbool Try.prog 116 = false := by kernel_rfl
theorem ts116 : tstring Try.prog 116 = false := by kernel_rfl
theorem sl116 : tslice Try.prog 116 = none := by kernel_rfl
theorem un116 : Try.prog.underlying 116 = some (.int .u32) := by kernel_rfl
theorem ze116 : tzero Try.prog 116 = some [.int .u32 0] := by kernel_rfl
theorem sz117 : tsz Try.prog 117 = some 1 := by kernel_rfl
theorem by117 : tbytes Try.prog 117 = some 1 := by kernel_rfl
theorem ag117 : tagg Try.prog 117 = some false := by kernel_rfl
theorem tb117 : tbool Try.prog 117 = false := by kernel_rfl
theorem ts117 : tstring Try.prog 117 = false := by kernel_rfl
theorem sl117 : tslice Try.prog 117 = none := by kernel_rfl
theorem un117 : Try.prog.underlying 117 = some (.int .u8) := by kernel_rfl
theorem ze117 : tzero Try.prog 117 = some [.int .u8 0] := by kernel_rfl
theorem sz118 : tsz Try.prog 118 = some 1 := by kernel_rfl
theorem by118 : tbytes Try.prog 118 = some 1 := by kernel_rfl
theorem ag118 : tagg Try.prog 118 = some false := by kernel_rfl
theorem tb118 : tbool Try.prog 118 = false := by kernel_rfl
theorem ts118 : tstring Try.prog 118 = false := by kernel_rfl
theorem sl118 : tslice Try.prog 118 = none := by kernel_rfl
theorem un118 : Try.prog.underlying 118 = some (.int .u8) := by kernel_rfl
theorem ze118 : tzero Try.prog 118 = some [.int .u8 0] := by kernel_rfl
theorem sz119 : tsz Try.prog 119 = some 1 := by kernel_rfl
theorem by119 : tbytes Try.prog 119 = some 8 := by kernel_rfl
theorem ag119 : tagg Try.prog 119 = some false := by kernel_rfl
theorem tb119 : tbool Try.prog 119 = false := by kernel_rfl
theorem ts119 : tstring Try.prog 119 = false := by kernel_rfl
theorem sl119 : tslice Try.prog 119 = none := by kernel_rfl
theorem ze119 : tzero Try.prog 119 = some [.nilFunc] := by kernel_rfl
theorem sz120 : tsz Try.prog 120 = some 1 := by kernel_rfl
theorem by120 : tbytes Try.prog 120 = some 8 := by kernel_rfl
theorem ag120 : tagg Try.prog 120 = some false := by kernel_rfl
theorem tb120 : tbool Try.prog 120 = false := by kernel_rfl
theorem ts120 : tstring Try.prog 120 = false := by kernel_rfl
theorem sl120 : tslice Try.prog 120 = none := by kernel_rfl
theorem ze120 : tzero Try.prog 120 = some [.pointer none] := by kernel_rfl
theorem sz121 : tsz Try.prog 121 = some 1 := by kernel_rfl
theorem by121 : tbytes Try.prog 121 = some 4 := by kernel_rfl
theorem ag121 : tagg Try.prog 121 = some false := by kernel_rfl
theorem tb121 : tbool Try.prog 121 = false := by kernel_rfl
theorem ts121 : tstring Try.prog 121 = false := by kernel_rfl
theorem sl121 : tslice Try.prog 121 = none := by kernel_rfl
theorem un121 : Try.prog.underlying 121 = some (.int .i32) := by kernel_rfl
theorem ze121 : tzero Try.prog 121 = some [.int .i32 0] := by kernel_rfl
theorem sz122 : tsz Try.prog 122 = some 1 := by kernel_rfl
theorem by122 : tbytes Try.prog 122 = some 4 := by kernel_rfl
theorem ag122 : tagg Try.prog 122 = some false := by kernel_rfl
theorem tb122 : tbool Try.prog 122 = false := by kernel_rfl
theorem ts122 : tstring Try.prog 122 = false := by kernel_rfl
theorem sl122 : tslice Try.prog 122 = none := by kernel_rfl
theorem un122 : Try.prog.underlying 122 = some (.int .i32) := by kernel_rfl
theorem ze122 : tzero Try.prog 122 = some [.int .i32 0] := by kernel_rfl
theorem sz123 : tsz Try.prog 123 = some 11 := by kernel_rfl
theorem by123 : tbytes Try.prog 123 = some 48 := by kernel_rfl
theorem ag123 : tagg Try.prog 123 = some true := by kernel_rfl
theorem tb123 : tbool Try.prog 123 = false := by kernel_rfl
theorem ts123 : tstring Try.prog 123 = false := by kernel_rfl
theorem sl123 : tslice Try.prog 123 = none := by kernel_rfl
theorem ze123 : tzero Try.prog 123 = some [.int .u64 0, .int .u64 0, .int .u32 0, .int .u8 0, .int .u8 0, .int .u8 0, .int .u8 0, .nilFunc, .pointer none, .int .i32 0, .int .i32 0] := by kernel_rfl
theorem st123 : tstruct Try.prog 123 = some [.int .u64 0, .int .u64 0, .int .u32 0, .int .u8 0, .int .u8 0, .int .u8 0, .int .u8 0, .nilFunc, .pointer none, .int .i32 0, .int .i32 0] := by kernel_rfl
theorem fl123_0 : tfield Try.prog 123 0 = some (0, 12) := by kernel_rfl
theorem fl123_1 : tfield Try.prog 123 1 = some (1, 12) := by kernel_rfl
theorem fl123_2 : tfield Try.prog 123 2 = some (2, 116) := by kernel_rfl
theorem fl123_3 : tfield Try.prog 123 3 = some (3, 117) := by kernel_rfl
theorem fl123_4 : tfield Try.prog 123 4 = some (4, 5) := by kernel_rfl
theorem fl123_5 : tfield Try.prog 123 5 = some (5, 5) := by kernel_rfl
theorem fl123_6 : tfield Try.prog 123 6 = some (6, 118) := by kernel_rfl
theorem fl123_7 : tfield Try.prog 123 7 = some (7, 119) := by kernel_rfl
theorem fl123_8 : tfield Try.prog 123 8 = some (8, 120) := by kernel_rfl
theorem fl123_9 : tfield Try.prog 123 9 = some (9, 121) := by kernel_rfl
theorem fl123_10 : tfield Try.prog 123 10 = some (10, 122) := by kernel_rfl
theorem sz124 : tsz Try.prog 124 = some 11 := by kernel_rfl
theorem by124 : tbytes Try.prog 124 = some 48 := by kernel_rfl
theorem ag124 : tagg Try.prog 124 = some true := by kernel_rfl
theorem tb124 : tbool Try.prog 124 = false := by kernel_rfl
theorem ts124 : tstring Try.prog 124 = false := by kernel_rfl
theorem sl124 : tslice Try.prog 124 = none := by kernel_rfl
theorem ze124 : tzero Try.prog 124 = some [.int .u64 0, .int .u64 0, .int .u32 0, .int .u8 0, .int .u8 0, .int .u8 0, .int .u8 0, .nilFunc, .pointer none, .int .i32 0, .int .i32 0] := by kernel_rfl
theorem st124 : tstruct Try.prog 124 = some [.int .u64 0, .int .u64 0, .int .u32 0, .int .u8 0, .int .u8 0, .int .u8 0, .int .u8 0, .nilFunc, .pointer none, .int .i32 0, .int .i32 0] := by kernel_rfl
theorem fl124_0 : tfield Try.prog 124 0 = some (0, 12) := by kernel_rfl
theorem fl124_1 : tfield Try.prog 124 1 = some (1, 12) := by kernel_rfl
theorem fl124_2 : tfield Try.prog 124 2 = some (2, 116) := by kernel_rfl
theorem fl124_3 : tfield Try.prog 124 3 = some (3, 117) := by kernel_rfl
theorem fl124_4 : tfield Try.prog 124 4 = some (4, 5) := by kernel_rfl
theorem fl124_5 : tfield Try.prog 124 5 = some (5, 5) := by kernel_rfl
theorem fl124_6 : tfield Try.prog 124 6 = some (6, 118) := by kernel_rfl
theorem fl124_7 : tfield Try.prog 124 7 = some (7, 119) := by kernel_rfl
theorem fl124_8 : tfield Try.prog 124 8 = some (8, 120) := by kernel_rfl
theorem fl124_9 : tfield Try.prog 124 9 = some (9, 121) := by kernel_rfl
theorem fl124_10 : tfield Try.prog 124 10 = some (10, 122) := by kernel_rfl
theorem sz125 : tsz Try.prog 125 = some 1 := by kernel_rfl
theorem by125 : tbytes Try.prog 125 = some 8 := by kernel_rfl
theorem ag125 : tagg Try.prog 125 = some false := by kernel_rfl
theorem tb125 : tbool Try.prog 125 = false := by kernel_rfl
theorem ts125 : tstring Try.prog 125 = false := by kernel_rfl
theorem sl125 : tslice Try.prog 125 = none := by kernel_rfl
theorem ze125 : tzero Try.prog 125 = some [.nilFunc] := by kernel_rfl
theorem sz126 : tsz Try.prog 126 = some 1 := by kernel_rfl
theorem by126 : tbytes Try.prog 126 = some 8 := by kernel_rfl
theorem ag126 : tagg Try.prog 126 = some false := by kernel_rfl
theorem tb126 : tbool Try.prog 126 = false := by kernel_rfl
theorem ts126 : tstring Try.prog 126 = false := by kernel_rfl
theorem sl126 : tslice Try.prog 126 = none := by kernel_rfl
theorem ze126 : tzero Try.prog 126 = some [.pointer none] := by kernel_rfl
theorem sz127 : tsz Try.prog 127 = some 1 := by kernel_rfl
theorem by127 : tbytes Try.prog 127 = some 8 := by kernel_rfl
theorem ag127 : tagg Try.prog 127 = some false := by kernel_rfl
theorem tb127 : tbool Try.prog 127 = false := by kernel_rfl
theorem ts127 : tstring Try.prog 127 = false := by kernel_rfl
theorem sl127 : tslice Try.prog 127 = none := by kernel_rfl
theorem un127 : Try.prog.underlying 127 = some (.int .u64) := by kernel_rfl
theorem ze127 : tzero Try.prog 127 = some [.int .u64 0] := by kernel_rfl
theorem ok3 : fnOK Try.prog 3 = true := by kernel_rfl
theorem ok4 : fnOK Try.prog 4 = true := by kernel_rfl
theorem ok5 : fnOK Try.prog 5 = true := by kernel_rfl
theorem ok6 : fnOK Try.prog 6 = true := by kernel_rfl
theorem ok7 : fnOK Try.prog 7 = true := by kernel_rfl
theorem ok8 : fnOK Try.prog 8 = true := by kernel_rfl
theorem ok9 : fnOK Try.prog 9 = true := by kernel_rfl
theorem ok10 : fnOK Try.prog 10 = true := by kernel_rfl
theorem ok11 : fnOK Try.prog 11 = true := by kernel_rfl
theorem ok12 : fnOK Try.prog 12 = true := by kernel_rfl
theorem ok13 : fnOK Try.prog 13 = true := by kernel_rfl
theorem ok14 : fnOK Try.prog 14 = true := by kernel_rfl
theorem ok15 : fnOK Try.prog 15 = true := by kernel_rfl
theorem ok16 : fnOK Try.prog 16 = true := by kernel_rfl
theorem ok17 : fnOK Try.prog 17 = true := by kernel_rfl
theorem ok18 : fnOK Try.prog 18 = true := by kernel_rfl
theorem ok19 : fnOK Try.prog 19 = true := by kernel_rfl
theorem ok20 : fnOK Try.prog 20 = true := by kernel_rfl
theorem ok21 : fnOK Try.prog 21 = true := by kernel_rfl
theorem ok22 : fnOK Try.prog 22 = true := by kernel_rfl
theorem ok23 : fnOK Try.prog 23 = true := by kernel_rfl
theorem ok24 : fnOK Try.prog 24 = true := by kernel_rfl
theorem ok25 : fnOK Try.prog 25 = true := by kernel_rfl
theorem ok26 : fnOK Try.prog 26 = true := by kernel_rfl
theorem ok27 : fnOK Try.prog 27 = true := by kernel_rfl
theorem ok28 : fnOK Try.prog 28 = true := by kernel_rfl
theorem ok29 : fnOK Try.prog 29 = true := by kernel_rfl
theorem ok30 : fnOK Try.prog 30 = true := by kernel_rfl
theorem ok31 : fnOK Try.prog 31 = true := by kernel_rfl
theorem ok32 : fnOK Try.prog 32 = true := by kernel_rfl
theorem ok33 : fnOK Try.prog 33 = true := by kernel_rfl
theorem ok34 : fnOK Try.prog 34 = true := by kernel_rfl
theorem ok35 : fnOK Try.prog 35 = true := by kernel_rfl
theorem ok36 : fnOK Try.prog 36 = true := by kernel_rfl
theorem ok37 : fnOK Try.prog 37 = true := by kernel_rfl
theorem ok38 : fnOK Try.prog 38 = true := by kernel_rfl
theorem ok39 : fnOK Try.prog 39 = true := by kernel_rfl
theorem ok40 : fnOK Try.prog 40 = true := by kernel_rfl
theorem ok41 : fnOK Try.prog 41 = true := by kernel_rfl
theorem ok42 : fnOK Try.prog 42 = true := by kernel_rfl
theorem ok43 : fnOK Try.prog 43 = true := by kernel_rfl
theorem ok44 : fnOK Try.prog 44 = true := by kernel_rfl
theorem ok45 : fnOK Try.prog 45 = true := by kernel_rfl
theorem ok46 : fnOK Try.prog 46 = true := by kernel_rfl
theorem ok47 : fnOK Try.prog 47 = true := by kernel_rfl
theorem ok48 : fnOK Try.prog 48 = true := by kernel_rfl
theorem ok49 : fnOK Try.prog 49 = true := by kernel_rfl
theorem ok50 : fnOK Try.prog 50 = true := by kernel_rfl
theorem ok51 : fnOK Try.prog 51 = true := by kernel_rfl
theorem ok52 : fnOK Try.prog 52 = true := by kernel_rfl
theorem ok53 : fnOK Try.prog 53 = true := by kernel_rfl
theorem ok54 : fnOK Try.prog 54 = true := by kernel_rfl
theorem ok55 : fnOK Try.prog 55 = true := by kernel_rfl
theorem ok56 : fnOK Try.prog 56 = true := by kernel_rfl
theorem ok57 : fnOK Try.prog 57 = true := by kernel_rfl
theorem ok58 : fnOK Try.prog 58 = true := by kernel_rfl
theorem ok59 : fnOK Try.prog 59 = true := by kernel_rfl
theorem ok60 : fnOK Try.prog 60 = true := by kernel_rfl
theorem ok61 : fnOK Try.prog 61 = true := by kernel_rfl
theorem ok62 : fnOK Try.prog 62 = true := by kernel_rfl
theorem ok63 : fnOK Try.prog 63 = true := by kernel_rfl
theorem ok64 : fnOK Try.prog 64 = true := by kernel_rfl
theorem ok65 : fnOK Try.prog 65 = true := by kernel_rfl
theorem ok66 : fnOK Try.prog 66 = true := by kernel_rfl
theorem ok67 : fnOK Try.prog 67 = true := by kernel_rfl
theorem ok68 : fnOK Try.prog 68 = true := by kernel_rfl
theorem ok69 : fnOK Try.prog 69 = true := by kernel_rfl
theorem ok70 : fnOK Try.prog 70 = true := by kernel_rfl
theorem ok71 : fnOK Try.prog 71 = true := by kernel_rfl
theorem ok72 : fnOK Try.prog 72 = true := by kernel_rfl
theorem ok73 : fnOK Try.prog 73 = true := by kernel_rfl
theorem ok74 : fnOK Try.prog 74 = true := by kernel_rfl
theorem ok75 : fnOK Try.prog 75 = true := by kernel_rfl
theorem ok76 : fnOK Try.prog 76 = true := by kernel_rfl
theorem ok77 : fnOK Try.prog 77 = true := by kernel_rfl
theorem ok78 : fnOK Try.prog 78 = true := by kernel_rfl
theorem ok79 : fnOK Try.prog 79 = true := by kernel_rfl
theorem ok80 : fnOK Try.prog 80 = true := by kernel_rfl
theorem ok81 : fnOK Try.prog 81 = true := by kernel_rfl
theorem ok82 : fnOK Try.prog 82 = true := by kernel_rfl
theorem ok83 : fnOK Try.prog 83 = true := by kernel_rfl
theorem ok84 : fnOK Try.prog 84 = true := by kernel_rfl
theorem ok85 : fnOK Try.prog 85 = true := by kernel_rfl
theorem ok86 : fnOK Try.prog 86 = true := by kernel_rfl
theorem ok87 : fnOK Try.prog 87 = true := by kernel_rfl
theorem ok88 : fnOK Try.prog 88 = true := by kernel_rfl
attribute [go_sem] sz0 by0 ag0 tb0 ts0 sl0 sz1 by1 ag1 tb1 ts1 sl1 ze1 sz2
  by2 ag2 tb2 ts2 sl2 un2 ze2 sz3 by3 ag3 tb3 ts3 sl3 un3
  ze3 sz4 by4 ag4 tb4 ts4 sl4 ze4 sz5 by5 ag5 tb5 ts5 sl5
  un5 ze5 sz6 by6 ag6 tb6 ts6 sl6 un6 ze6 sz7 by7 ag7 tb7
  ts7 sl7 ze7 st7 fl7_0 fl7_1 fl7_2 fl7_3 sz8 by8 ag8 tb8 ts8 sl8
  ze8 st8 fl8_0 fl8_1 fl8_2 fl8_3 sz9 by9 ag9 tb9 ts9 sl9 ze9 sz10
  by10 ag10 tb10 ts10 sl10 ze10 sz11 by11 ag11 tb11 ts11 sl11 ze11 sz12
  by12 ag12 tb12 ts12 sl12 un12 ze12 sz13 by13 ag13 tb13 ts13 sl13 ze13
  st13 fl13_0 fl13_1 sz14 by14 ag14 tb14 ts14 sl14 ze14 st14 fl14_0 fl14_1 sz15
  by15 ag15 tb15 ts15 sl15 ze15 sz16 by16 ag16 tb16 ts16 sl16 ze16 sz17
  by17 ag17 tb17 ts17 sl17 ze17 sz18 by18 ag18 tb18 ts18 sl18 ze18 st18
  fl18_0 sz19 by19 ag19 tb19 ts19 sl19 ze19 st19 fl19_0 sz20 by20 ag20 tb20
  ts20 sl20 ze20 sz21 by21 ag21 tb21 ts21 sl21 un21 ze21 sz22 by22 ag22
  tb22 ts22 sl22 ze22 sz23 by23 ag23 tb23 ts23 sl23 ze23 sz24 by24 ag24
  tb24 ts24 sl24 ze24 sz25 by25 ag25 tb25 ts25 sl25 ze25 st25 fl25_0 fl25_1
  fl25_2 sz26 by26 ag26 tb26 ts26 sl26 ze26 st26 fl26_0 fl26_1 fl26_2 sz27 by27
  ag27 tb27 ts27 sl27 ze27 sz28 by28 ag28 tb28 ts28 sl28 ze28 st28 fl28_0
  fl28_1 sz29 by29 ag29 tb29 ts29 sl29 ze29 st29 fl29_0 fl29_1 sz30 by30 ag30
  tb30 ts30 sl30 sz31 by31 ag31 tb31 ts31 sl31 ze31 sz32 by32 ag32 tb32
  ts32 sl32 ze32 sz33 by33 ag33 tb33 ts33 sl33 sz34 by34 ag34 tb34 ts34
  sl34 ze34 sz35 by35 ag35 tb35 ts35 sl35 ze35 sz36 by36 ag36 tb36 ts36
  sl36 ze36 sz37 by37 ag37 tb37 ts37 sl37 ze37 sz38 by38 ag38 tb38 ts38
  sl38 ze38 sz39 by39 ag39 tb39 ts39 sl39 ze39 st39 fl39_0 fl39_1 fl39_2 sz40
  by40 ag40 tb40 ts40 sl40 ze40 st40 fl40_0 fl40_1 fl40_2 sz41 by41 ag41 tb41
  ts41 sl41 ze41 st41 fl41_0 fl41_1 fl41_2 fl41_3 fl41_4 fl41_5 fl41_6 sz42 by42 ag42
  tb42 ts42 sl42 ze42 st42 fl42_0 fl42_1 fl42_2 fl42_3 fl42_4 fl42_5 fl42_6 sz43 by43
  ag43 tb43 ts43 sl43 ze43 sz44 by44 ag44 tb44 ts44 sl44 sz45 by45 ag45
  tb45 ts45 sl45 ze45 sz46 by46 ag46 tb46 ts46 sl46 sz47 by47 ag47 tb47
  ts47 sl47 ze47 sz48 by48 ag48 tb48 ts48 sl48 ze48 st48 ti48 fl48_0 fl48_1
  sz49 by49 ag49 tb49 ts49 sl49 ze49 st49 ti49 fl49_0 fl49_1 sz50 by50 ag50
  tb50 ts50 sl50 ze50 sz51 by51 ag51 tb51 ts51 sl51 ze51 sz52 by52 ag52
  tb52 ts52 sl52 ze52 sz53 by53 ag53 tb53 ts53 sl53 ze53 st53 fl53_0 fl53_1
  sz54 by54 ag54 tb54 ts54 sl54 ze54 st54 fl54_0 fl54_1 sz55 by55 ag55 tb55
  ts55 sl55 ze55 sz56 by56 ag56 tb56 ts56 sl56 ze56 sz57 by57 ag57 tb57
  ts57 sl57 ze57 sz58 by58 ag58 tb58 ts58 sl58 ze58 sz59 by59 ag59 tb59
  ts59 sl59 ze59 sz60 by60 ag60 tb60 ts60 sl60 ze60 sz61 by61 ag61 tb61
  ts61 sl61 ze61 sz62 by62 ag62 tb62 ts62 sl62 ze62 sz63 by63 ag63 tb63
  ts63 sl63 ze63 sz64 by64 ag64 tb64 ts64 sl64 ze64 sz65 by65 ag65 tb65
  ts65 sl65 ze65 sz66 by66 ag66 tb66 ts66 sl66 ze66 sz67 by67 ag67 tb67
  ts67 sl67 ze67 sz68 by68 ag68 tb68 ts68 sl68 ze68 sz69 by69 ag69 tb69
  ts69 sl69 ze69 sz70 by70 ag70 tb70 ts70 sl70 ze70 sz71 by71 ag71 tb71
  ts71 sl71 ze71 sz72 by72 ag72 tb72 ts72 sl72 ze72 sz73 by73 ag73 tb73
  ts73 sl73 ze73 sz74 by74 ag74 tb74 ts74 sl74 ze74 sz75 by75 ag75 tb75
  ts75 sl75 ze75 sz76 by76 ag76 tb76 ts76 sl76 ze76 sz77 by77 ag77 tb77
  ts77 sl77 ze77 sz78 by78 ag78 tb78 ts78 sl78 sz79 by79 ag79 tb79 ts79
  sl79 ze79 sz80 by80 ag80 tb80 ts80 sl80 ze80 st80 fl80_0 fl80_1 sz81 by81
  ag81 tb81 ts81 sl81 ze81 st81 fl81_0 fl81_1 sz82 by82 ag82 tb82 ts82 sl82
  ze82 sz83 by83 ag83 tb83 ts83 sl83 ze83 sz84 by84 ag84 tb84 ts84 sl84
  ze84 sz85 by85 ag85 tb85 ts85 sl85 ze85 sz86 by86 ag86 tb86 ts86 sl86
  ze86 sz87 by87 ag87 tb87 ts87 sl87 ze87 sz88 by88 ag88 tb88 ts88 sl88
  ze88 sz89 by89 ag89 tb89 ts89 sl89 ze89 sz90 by90 ag90 tb90 ts90 sl90
  ze90 sz91 by91 ag91 tb91 ts91 sl91 ze91 sz92 by92 ag92 tb92 ts92 sl92
  ze92 sz93 by93 ag93 tb93 ts93 sl93 ze93 sz94 by94 ag94 tb94 ts94 sl94
  ze94 sz95 by95 ag95 tb95 ts95 sl95 ze95 sz96 by96 ag96 tb96 ts96 sl96
  ze96 sz97 by97 ag97 tb97 ts97 sl97 ze97 sz98 by98 ag98 tb98 ts98 sl98
  ze98 sz99 by99 ag99 tb99 ts99 sl99 ze99 sz100 by100 ag100 tb100 ts100 sl100
  ze100 sz101 by101 ag101 tb101 ts101 sl101 ze101 sz102 by102 ag102 tb102 ts102 sl102
  ze102 sz103 by103 ag103 tb103 ts103 sl103 ze103 sz104 by104 ag104 tb104 ts104 sl104
  ze104 sz105 by105 ag105 tb105 ts105 sl105 ze105 sz106 by106 ag106 tb106 ts106 sl106
  ze106 sz107 by107 ag107 tb107 ts107 sl107 ze107 sz108 by108 ag108 tb108 ts108 sl108
  ze108 sz109 by109 ag109 tb109 ts109 sl109 ze109 sz110 by110 ag110 tb110 ts110 sl110
  ze110 st110 fl110_0 fl110_1 fl110_2 fl110_3 sz111 by111 ag111 tb111 ts111 sl111 ze111 st111
  fl111_0 fl111_1 fl111_2 fl111_3 sz112 by112 ag112 tb112 ts112 sl112 ze112 sz113 by113 ag113
  tb113 ts113 sl113 ze113 st113 sz114 by114 ag114 tb114 ts114 sl114 ze114 st114 sz115
  by115 ag115 tb115 ts115 sl115 ze115 sz116 by116 ag116 tb116 ts116 sl116 un116 ze116
  sz117 by117 ag117 tb117 ts117 sl117 un117 ze117 sz118 by118 ag118 tb118 ts118 sl118
  un118 ze118 sz119 by119 ag119 tb119 ts119 sl119 ze119 sz120 by120 ag120 tb120 ts120
  sl120 ze120 sz121 by121 ag121 tb121 ts121 sl121 un121 ze121 sz122 by122 ag122 tb122
  ts122 sl122 un122 ze122 sz123 by123 ag123 tb123 ts123 sl123 ze123 st123 fl123_0 fl123_1
  fl123_2 fl123_3 fl123_4 fl123_5 fl123_6 fl123_7 fl123_8 fl123_9 fl123_10 sz124 by124 ag124 tb124 ts124
  sl124 ze124 st124 fl124_0 fl124_1 fl124_2 fl124_3 fl124_4 fl124_5 fl124_6 fl124_7 fl124_8 fl124_9 fl124_10
  sz125 by125 ag125 tb125 ts125 sl125 ze125 sz126 by126 ag126 tb126 ts126 sl126 ze126
  sz127 by127 ag127 tb127 ts127 sl127 un127 ze127 Try.f3 Try.f4 Try.f5 Try.f6 Try.f7 Try.f8
  Try.f9 Try.f10 Try.f11 Try.f12 Try.f13 Try.f14 Try.f15 Try.f16 Try.f17 Try.f18 Try.f19 Try.f20 Try.f21 Try.f22
  Try.f23 Try.f24 Try.f25 Try.f26 Try.f27 Try.f28 Try.f29 Try.f30 Try.f31 Try.f32 Try.f33 Try.f34 Try.f35 Try.f36
  Try.f37 Try.f38 Try.f39 Try.f40 Try.f41 Try.f42 Try.f43 Try.f44 Try.f45 Try.f46 Try.f47 Try.f48 Try.f49 Try.f50
  Try.f51 Try.f52 Try.f53 Try.f54 Try.f55 Try.f56 Try.f57 Try.f58 Try.f59 Try.f60 Try.f61 Try.f62 Try.f63 Try.f64
  Try.f65 Try.f66 Try.f67 Try.f68 Try.f69 Try.f70 Try.f71 Try.f72 Try.f73 Try.f74 Try.f75 Try.f76 Try.f77 Try.f78
  Try.f79 Try.f80 Try.f81 Try.f82 Try.f83 Try.f84 Try.f85 Try.f86 Try.f87 Try.f88
end Go.Proofs.Ytajamdnbncploaa.CtF
