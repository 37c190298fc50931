/- Contracts of functions of the program, one behind the other, as plain data: what each call returns and which blocks it leaves. -/
import Derived.Test.YtmjkgjkkpaephaaChecked
import Derived.KernelRfl
import Derived.Test.YtmjkgjkkpaephaaMAh
set_option linter.unusedVariables false
set_option linter.unusedSimpArgs false
set_option maxHeartbeats 16000000
set_option maxRecDepth 100000
namespace Go.Proofs.Ytmjkgjkkpaephaa.CtF
open Go Go.CT
theorem mo:Try.prog.follows .mixedOrders=true:=by kernel_rfl
theorem drvZ {m nt:Nat} {f:FuncId} {R:D→List (Option (List C))→Prop} {r:Option Rg} {k:List Item} {S:Ms} {fn:Func} (hfn:Try.prog.funcs[f]? = some fn) (h:drv Try.prog m f nt R fn.results.toList 12 r k S):XK Try.prog m f nt R r k S :=
 drv_sound hfn mo rfl 12 r k S h
theorem drvL {m nt:Nat} {f:FuncId} {R:D→List (Option (List C))→Prop} {k:List Item} {S:Ms} {fn:Func} (hfn:Try.prog.funcs[f]? = some fn) (h:drv Try.prog m f nt R fn.results.toList 12 none k S):Go Try.prog m f nt R k S :=
 drv_sound hfn mo rfl 12 none k S h
theorem dcZ {f : FuncId} {R : D → List (Option (List C)) → Prop} {args : List D} {h : List (Option (List C))} {fn : Func} {c : Code} (hf : Try.prog.funcs[f]? = some fn)
 (hg:drv Try.prog h.length f fn.ntmps R fn.results.toList 12 none [.code c] ⟨ofArgs 0 args,hpL h,h.length⟩) (hb:fn.body=some c:=by rfl) (hn:args.length≤fn.ntmps:=by simp):DC Try.prog f args h R :=
 dc_of_go hf hb hn (drv_sound hf mo rfl 12 none _ _ hg)
theorem ft0:tsz Try.prog 0=some 1∧tbytes Try.prog 0=some 0∧tagg Try.prog 0=some false∧tslice Try.prog 0=none:=by and_intros<;>kernel_rfl
theorem ft1:tsz Try.prog 1=some 1∧tbytes Try.prog 1=some 8∧tagg Try.prog 1=some false∧tslice Try.prog 1=none∧tzero Try.prog 1=some [.nilFunc]:=by and_intros<;>kernel_rfl
theorem ft2:tsz Try.prog 2=some 1∧tbytes Try.prog 2=some 8∧tagg Try.prog 2=some false∧tslice Try.prog 2=none∧Try.prog.underlying 2=some (.int .i64)∧tzero Try.prog 2=some [.int .i64 0]:=by and_intros<;>kernel_rfl
theorem ft3:tsz Try.prog 3=some 1∧tbytes Try.prog 3=some 8∧tagg Try.prog 3=some false∧tslice Try.prog 3=none∧Try.prog.underlying 3=some (.int .i64)∧tzero Try.prog 3=some [.int .i64 0]:=by and_intros<;>kernel_rfl
theorem ft4:tsz Try.prog 4=some 1∧tbytes Try.prog 4=some 1∧tagg Try.prog 4=some false∧tbool Try.prog 4=true∧tslice Try.prog 4=none∧tzero Try.prog 4=some [.bool false]:=by and_intros<;>kernel_rfl
theorem ft5:tsz Try.prog 5=some 1∧tbytes Try.prog 5=some 1∧tagg Try.prog 5=some false∧tslice Try.prog 5=none∧Try.prog.underlying 5=some (.int .u8)∧tzero Try.prog 5=some [.int .u8 0]:=by and_intros<;>kernel_rfl
theorem ft6:tsz Try.prog 6=some 1∧tbytes Try.prog 6=some 1∧tagg Try.prog 6=some false∧tslice Try.prog 6=none∧Try.prog.underlying 6=some (.int .u8)∧tzero Try.prog 6=some [.int .u8 0]:=by and_intros<;>kernel_rfl
theorem ft7:tsz Try.prog 7=some 4∧tbytes Try.prog 7=some 24∧tagg Try.prog 7=some true∧tslice Try.prog 7=none∧tzero Try.prog 7=some [.int .i64 0,.int .i64 0,.bool false,.int .u8 0]∧tstruct Try.prog 7=some [.int .i64 0,.int .i64 0,.bool false,.int .u8 0]∧tfield Try.prog 7 0=some (0,2)∧tfield Try.prog 7 1=some (1,3)∧tfield Try.prog 7 2=some (2,4)∧tfield Try.prog 7 3=some (3,6):=by and_intros<;>kernel_rfl
theorem ft8:tsz Try.prog 8=some 4∧tbytes Try.prog 8=some 24∧tagg Try.prog 8=some true∧tslice Try.prog 8=none∧tzero Try.prog 8=some [.int .i64 0,.int .i64 0,.bool false,.int .u8 0]∧tstruct Try.prog 8=some [.int .i64 0,.int .i64 0,.bool false,.int .u8 0]∧tfield Try.prog 8 0=some (0,2)∧tfield Try.prog 8 1=some (1,3)∧tfield Try.prog 8 2=some (2,4)∧tfield Try.prog 8 3=some (3,6):=by and_intros<;>kernel_rfl
theorem ft9:tsz Try.prog 9=some 1∧tbytes Try.prog 9=some 16∧tagg Try.prog 9=some false∧tstring Try.prog 9=true∧tslice Try.prog 9=none∧tzero Try.prog 9=some [.string .empty]:=by and_intros<;>kernel_rfl
theorem ft10:tsz Try.prog 10=some 1∧tbytes Try.prog 10=some 16∧tagg Try.prog 10=some false∧tstring Try.prog 10=true∧tslice Try.prog 10=none∧tzero Try.prog 10=some [.string .empty]:=by and_intros<;>kernel_rfl
theorem ft11:tsz Try.prog 11=some 1∧tbytes Try.prog 11=some 16∧tagg Try.prog 11=some false∧tstring Try.prog 11=true∧tslice Try.prog 11=none∧tzero Try.prog 11=some [.string .empty]:=by and_intros<;>kernel_rfl
theorem ft12:tsz Try.prog 12=some 1∧tbytes Try.prog 12=some 8∧tagg Try.prog 12=some false∧tslice Try.prog 12=none∧Try.prog.underlying 12=some (.int .u64)∧tzero Try.prog 12=some [.int .u64 0]:=by and_intros<;>kernel_rfl
theorem ft13:tsz Try.prog 13=some 2∧tbytes Try.prog 13=some 24∧tagg Try.prog 13=some true∧tslice Try.prog 13=none∧tzero Try.prog 13=some [.string .empty,.int .u64 0]∧tstruct Try.prog 13=some [.string .empty,.int .u64 0]∧tfield Try.prog 13 0=some (0,9)∧tfield Try.prog 13 1=some (1,12):=by and_intros<;>kernel_rfl
theorem ft14:tsz Try.prog 14=some 2∧tbytes Try.prog 14=some 24∧tagg Try.prog 14=some true∧tslice Try.prog 14=none∧tzero Try.prog 14=some [.string .empty,.int .u64 0]∧tstruct Try.prog 14=some [.string .empty,.int .u64 0]∧tfield Try.prog 14 0=some (0,9)∧tfield Try.prog 14 1=some (1,12):=by and_intros<;>kernel_rfl
theorem ft22:tsz Try.prog 22=some 1∧tbytes Try.prog 22=some 24∧tagg Try.prog 22=some false∧tslice Try.prog 22=some 3∧tzero Try.prog 22=some [.slice none 0 0]:=by and_intros<;>kernel_rfl
theorem ft23:tsz Try.prog 23=some 1∧tbytes Try.prog 23=some 24∧tagg Try.prog 23=some false∧tslice Try.prog 23=some 96∧tzero Try.prog 23=some [.slice none 0 0]:=by and_intros<;>kernel_rfl
theorem ft24:tsz Try.prog 24=some 3∧tbytes Try.prog 24=some 72∧tagg Try.prog 24=some true∧tslice Try.prog 24=none∧tzero Try.prog 24=some [.slice none 0 0,.slice none 0 0,.slice none 0 0]∧tstruct Try.prog 24=some [.slice none 0 0,.slice none 0 0,.slice none 0 0]∧tfield Try.prog 24 0=some (0,22)∧tfield Try.prog 24 1=some (1,22)∧tfield Try.prog 24 2=some (2,23):=by and_intros<;>kernel_rfl
theorem ft25:tsz Try.prog 25=some 3∧tbytes Try.prog 25=some 72∧tagg Try.prog 25=some true∧tslice Try.prog 25=none∧tzero Try.prog 25=some [.slice none 0 0,.slice none 0 0,.slice none 0 0]∧tstruct Try.prog 25=some [.slice none 0 0,.slice none 0 0,.slice none 0 0]∧tfield Try.prog 25 0=some (0,22)∧tfield Try.prog 25 1=some (1,22)∧tfield Try.prog 25 2=some (2,23):=by and_intros<;>kernel_rfl
theorem ft26:tsz Try.prog 26=some 1∧tbytes Try.prog 26=some 24∧tagg Try.prog 26=some false∧tslice Try.prog 26=some 22∧tzero Try.prog 26=some [.slice none 0 0]:=by and_intros<;>kernel_rfl
theorem ft27:tsz Try.prog 27=some 2∧tbytes Try.prog 27=some 48∧tagg Try.prog 27=some true∧tslice Try.prog 27=none∧tzero Try.prog 27=some [.slice none 0 0,.slice none 0 0]∧tstruct Try.prog 27=some [.slice none 0 0,.slice none 0 0]∧tfield Try.prog 27 0=some (0,22)∧tfield Try.prog 27 1=some (1,26):=by and_intros<;>kernel_rfl
theorem ft28:tsz Try.prog 28=some 2∧tbytes Try.prog 28=some 48∧tagg Try.prog 28=some true∧tslice Try.prog 28=none∧tzero Try.prog 28=some [.slice none 0 0,.slice none 0 0]∧tstruct Try.prog 28=some [.slice none 0 0,.slice none 0 0]∧tfield Try.prog 28 0=some (0,22)∧tfield Try.prog 28 1=some (1,26):=by and_intros<;>kernel_rfl
theorem ft32:tsz Try.prog 32=some 1∧tbytes Try.prog 32=some 24∧tagg Try.prog 32=some false∧tslice Try.prog 32=some 45∧tzero Try.prog 32=some [.slice none 0 0]:=by and_intros<;>kernel_rfl
theorem ft33:tsz Try.prog 33=some 3∧tbytes Try.prog 33=some 72∧tagg Try.prog 33=some true∧tslice Try.prog 33=none∧tzero Try.prog 33=some [.slice none 0 0,.slice none 0 0,.slice none 0 0]∧tstruct Try.prog 33=some [.slice none 0 0,.slice none 0 0,.slice none 0 0]∧tfield Try.prog 33 0=some (0,22)∧tfield Try.prog 33 1=some (1,22)∧tfield Try.prog 33 2=some (2,32):=by and_intros<;>kernel_rfl
theorem ft34:tsz Try.prog 34=some 3∧tbytes Try.prog 34=some 72∧tagg Try.prog 34=some true∧tslice Try.prog 34=none∧tzero Try.prog 34=some [.slice none 0 0,.slice none 0 0,.slice none 0 0]∧tstruct Try.prog 34=some [.slice none 0 0,.slice none 0 0,.slice none 0 0]∧tfield Try.prog 34 0=some (0,22)∧tfield Try.prog 34 1=some (1,22)∧tfield Try.prog 34 2=some (2,32):=by and_intros<;>kernel_rfl
theorem ft36:tsz Try.prog 36=some 2∧tbytes Try.prog 36=some 48∧tagg Try.prog 36=some true∧tslice Try.prog 36=none∧tzero Try.prog 36=some [.slice none 0 0,.slice none 0 0]∧tstruct Try.prog 36=some [.slice none 0 0,.slice none 0 0]∧tfield Try.prog 36 0=some (0,22)∧tfield Try.prog 36 1=some (1,26):=by and_intros<;>kernel_rfl
theorem ft41:tsz Try.prog 41=some 1∧tbytes Try.prog 41=some 24∧tagg Try.prog 41=some false∧tslice Try.prog 41=some 5∧tzero Try.prog 41=some [.slice none 0 0]:=by and_intros<;>kernel_rfl
theorem ft44:tsz Try.prog 44=some 5∧tbytes Try.prog 44=some 40∧tagg Try.prog 44=some true∧tslice Try.prog 44=none∧tzero Try.prog 44=some [.int .i64 0,.int .i64 0,.int .i64 0,.int .i64 0,.int .i64 0]∧tstruct Try.prog 44=some [.int .i64 0,.int .i64 0,.int .i64 0,.int .i64 0,.int .i64 0]∧tints Try.prog 44=some 5∧tfield Try.prog 44 0=some (0,3)∧tfield Try.prog 44 1=some (1,3)∧tfield Try.prog 44 2=some (2,3)∧tfield Try.prog 44 3=some (3,3)∧tfield Try.prog 44 4=some (4,3):=by and_intros<;>kernel_rfl
theorem ft45:tsz Try.prog 45=some 5∧tbytes Try.prog 45=some 40∧tagg Try.prog 45=some true∧tslice Try.prog 45=none∧tzero Try.prog 45=some [.int .i64 0,.int .i64 0,.int .i64 0,.int .i64 0,.int .i64 0]∧tstruct Try.prog 45=some [.int .i64 0,.int .i64 0,.int .i64 0,.int .i64 0,.int .i64 0]∧tints Try.prog 45=some 5∧tfield Try.prog 45 0=some (0,3)∧tfield Try.prog 45 1=some (1,3)∧tfield Try.prog 45 2=some (2,3)∧tfield Try.prog 45 3=some (3,3)∧tfield Try.prog 45 4=some (4,3):=by and_intros<;>kernel_rfl
theorem ft47:tsz Try.prog 47=some 1∧tbytes Try.prog 47=some 24∧tagg Try.prog 47=some false∧tslice Try.prog 47=some 68∧tzero Try.prog 47=some [.slice none 0 0]:=by and_intros<;>kernel_rfl
theorem ft48:tsz Try.prog 48=some 1∧tbytes Try.prog 48=some 0∧tagg Try.prog 48=some false∧tslice Try.prog 48=none:=by and_intros<;>kernel_rfl
theorem ft67:tsz Try.prog 67=some 2∧tbytes Try.prog 67=some 16∧tagg Try.prog 67=some true∧tslice Try.prog 67=none∧tzero Try.prog 67=some [.int .i64 0,.int .i64 0]∧tstruct Try.prog 67=some [.int .i64 0,.int .i64 0]∧tints Try.prog 67=some 2∧tfield Try.prog 67 0=some (0,3)∧tfield Try.prog 67 1=some (1,3):=by and_intros<;>kernel_rfl
theorem ft68:tsz Try.prog 68=some 2∧tbytes Try.prog 68=some 16∧tagg Try.prog 68=some true∧tslice Try.prog 68=none∧tzero Try.prog 68=some [.int .i64 0,.int .i64 0]∧tstruct Try.prog 68=some [.int .i64 0,.int .i64 0]∧tints Try.prog 68=some 2∧tfield Try.prog 68 0=some (0,3)∧tfield Try.prog 68 1=some (1,3):=by and_intros<;>kernel_rfl
theorem ft72:tsz Try.prog 72=some 1∧tbytes Try.prog 72=some 8∧tagg Try.prog 72=some false∧tslice Try.prog 72=none∧tzero Try.prog 72=some [.pointer none]:=by and_intros<;>kernel_rfl
theorem ft76:tsz Try.prog 76=some 1∧tbytes Try.prog 76=some 24∧tagg Try.prog 76=some false∧tslice Try.prog 76=some 128∧tzero Try.prog 76=some [.slice none 0 0]:=by and_intros<;>kernel_rfl
theorem ft77:tsz Try.prog 77=some 3∧tbytes Try.prog 77=some 72∧tagg Try.prog 77=some true∧tslice Try.prog 77=none∧tzero Try.prog 77=some [.slice none 0 0,.slice none 0 0,.slice none 0 0]∧tstruct Try.prog 77=some [.slice none 0 0,.slice none 0 0,.slice none 0 0]∧tfield Try.prog 77 0=some (0,22)∧tfield Try.prog 77 1=some (1,22)∧tfield Try.prog 77 2=some (2,76):=by and_intros<;>kernel_rfl
theorem ft78:tsz Try.prog 78=some 3∧tbytes Try.prog 78=some 72∧tagg Try.prog 78=some true∧tslice Try.prog 78=none∧tzero Try.prog 78=some [.slice none 0 0,.slice none 0 0,.slice none 0 0]∧tstruct Try.prog 78=some [.slice none 0 0,.slice none 0 0,.slice none 0 0]∧tfield Try.prog 78 0=some (0,22)∧tfield Try.prog 78 1=some (1,22)∧tfield Try.prog 78 2=some (2,76):=by and_intros<;>kernel_rfl
theorem ft82:tsz Try.prog 82=some 1∧tbytes Try.prog 82=some 8∧tagg Try.prog 82=some false∧tslice Try.prog 82=none∧tzero Try.prog 82=some [.pointer none]:=by and_intros<;>kernel_rfl
theorem ft83:tsz Try.prog 83=some 1∧tbytes Try.prog 83=some 0∧tagg Try.prog 83=some false∧tslice Try.prog 83=none:=by and_intros<;>kernel_rfl
theorem ft85:tsz Try.prog 85=some 4∧tbytes Try.prog 85=some 80∧tagg Try.prog 85=some true∧tslice Try.prog 85=none∧tzero Try.prog 85=some [.int .i64 0,.slice none 0 0,.slice none 0 0,.slice none 0 0]∧tstruct Try.prog 85=some [.int .i64 0,.slice none 0 0,.slice none 0 0,.slice none 0 0]∧tfield Try.prog 85 0=some (0,3)∧tfield Try.prog 85 1=some (1,22)∧tfield Try.prog 85 2=some (2,36):=by and_intros<;>kernel_rfl
theorem ft86:tsz Try.prog 86=some 4∧tbytes Try.prog 86=some 80∧tagg Try.prog 86=some true∧tslice Try.prog 86=none∧tzero Try.prog 86=some [.int .i64 0,.slice none 0 0,.slice none 0 0,.slice none 0 0]∧tstruct Try.prog 86=some [.int .i64 0,.slice none 0 0,.slice none 0 0,.slice none 0 0]∧tfield Try.prog 86 0=some (0,3)∧tfield Try.prog 86 1=some (1,22)∧tfield Try.prog 86 2=some (2,36):=by and_intros<;>kernel_rfl
theorem ft92:tsz Try.prog 92=some 1∧tbytes Try.prog 92=some 8∧tagg Try.prog 92=some false∧tslice Try.prog 92=none∧tzero Try.prog 92=some [.nilFunc]:=by and_intros<;>kernel_rfl
theorem ft96:tsz Try.prog 96=some 5∧tbytes Try.prog 96=some 40∧tagg Try.prog 96=some true∧tslice Try.prog 96=none∧tzero Try.prog 96=some [.int .i64 0,.int .i64 0,.int .i64 0,.int .i64 0,.int .i64 0]∧tstruct Try.prog 96=some [.int .i64 0,.int .i64 0,.int .i64 0,.int .i64 0,.int .i64 0]∧tints Try.prog 96=some 5∧tfield Try.prog 96 0=some (0,3)∧tfield Try.prog 96 1=some (1,3)∧tfield Try.prog 96 2=some (2,3)∧tfield Try.prog 96 3=some (3,3)∧tfield Try.prog 96 4=some (4,3):=by and_intros<;>kernel_rfl
theorem ft98:tsz Try.prog 98=some 2∧tbytes Try.prog 98=some 32∧tagg Try.prog 98=some true∧tslice Try.prog 98=none∧tzero Try.prog 98=some [.slice none 0 0,.int .i64 0]∧tstruct Try.prog 98=some [.slice none 0 0,.int .i64 0]∧tfield Try.prog 98 0=some (0,41)∧tfield Try.prog 98 1=some (1,3):=by and_intros<;>kernel_rfl
theorem ft99:tsz Try.prog 99=some 2∧tbytes Try.prog 99=some 32∧tagg Try.prog 99=some true∧tslice Try.prog 99=none∧tzero Try.prog 99=some [.slice none 0 0,.int .i64 0]∧tstruct Try.prog 99=some [.slice none 0 0,.int .i64 0]∧tfield Try.prog 99 0=some (0,41)∧tfield Try.prog 99 1=some (1,3):=by and_intros<;>kernel_rfl
theorem ft107:tsz Try.prog 107=some 1∧tbytes Try.prog 107=some 0∧tagg Try.prog 107=some false∧tslice Try.prog 107=none:=by and_intros<;>kernel_rfl
theorem ft110:tsz Try.prog 110=some 1∧tbytes Try.prog 110=some 8∧tagg Try.prog 110=some false∧tslice Try.prog 110=none∧tzero Try.prog 110=some [.nilFunc]:=by and_intros<;>kernel_rfl
theorem ft111:tsz Try.prog 111=some 1∧tbytes Try.prog 111=some 8∧tagg Try.prog 111=some false∧tslice Try.prog 111=none∧tzero Try.prog 111=some [.nilFunc]:=by and_intros<;>kernel_rfl
theorem ft116:tsz Try.prog 116=some 1∧tbytes Try.prog 116=some 0∧tagg Try.prog 116=some false∧tslice Try.prog 116=none:=by and_intros<;>kernel_rfl
theorem ft124:tsz Try.prog 124=some 1∧tbytes Try.prog 124=some 24∧tagg Try.prog 124=some false∧tslice Try.prog 124=some 126∧tzero Try.prog 124=some [.slice none 0 0]:=by and_intros<;>kernel_rfl
theorem ft125:tsz Try.prog 125=some 3∧tbytes Try.prog 125=some 40∧tagg Try.prog 125=some true∧tslice Try.prog 125=none∧tzero Try.prog 125=some [.int .i64 0,.int .i64 0,.slice none 0 0]∧tstruct Try.prog 125=some [.int .i64 0,.int .i64 0,.slice none 0 0]∧tfield Try.prog 125 0=some (0,3)∧tfield Try.prog 125 1=some (1,3)∧tfield Try.prog 125 2=some (2,124):=by and_intros<;>kernel_rfl
theorem ft126:tsz Try.prog 126=some 3∧tbytes Try.prog 126=some 40∧tagg Try.prog 126=some true∧tslice Try.prog 126=none∧tzero Try.prog 126=some [.int .i64 0,.int .i64 0,.slice none 0 0]∧tstruct Try.prog 126=some [.int .i64 0,.int .i64 0,.slice none 0 0]∧tfield Try.prog 126 0=some (0,3)∧tfield Try.prog 126 1=some (1,3)∧tfield Try.prog 126 2=some (2,124):=by and_intros<;>kernel_rfl
theorem ft127:tsz Try.prog 127=some 11∧tbytes Try.prog 127=some 152∧tagg Try.prog 127=some true∧tslice Try.prog 127=none∧tzero Try.prog 127=some [.int .i64 0,.int .i64 0,.int .i64 0,.int .i64 0,.slice none 0 0,.int .i64 0,.int .i64 0,.slice none 0 0,.int .i64 0,.slice none 0 0,.slice none 0 0]∧tstruct Try.prog 127=some [.int .i64 0,.int .i64 0,.int .i64 0,.int .i64 0,.slice none 0 0,.int .i64 0,.int .i64 0,.slice none 0 0,.int .i64 0,.slice none 0 0,.slice none 0 0]∧tfield Try.prog 127 0=some (0,3)∧tfield Try.prog 127 1=some (1,3)∧tfield Try.prog 127 2=some (2,126)∧tfield Try.prog 127 3=some (5,126)∧tfield Try.prog 127 4=some (8,3)∧tfield Try.prog 127 5=some (9,76)∧tfield Try.prog 127 6=some (10,76):=by and_intros<;>kernel_rfl
theorem ft128:tsz Try.prog 128=some 11∧tbytes Try.prog 128=some 152∧tagg Try.prog 128=some true∧tslice Try.prog 128=none∧tzero Try.prog 128=some [.int .i64 0,.int .i64 0,.int .i64 0,.int .i64 0,.slice none 0 0,.int .i64 0,.int .i64 0,.slice none 0 0,.int .i64 0,.slice none 0 0,.slice none 0 0]∧tstruct Try.prog 128=some [.int .i64 0,.int .i64 0,.int .i64 0,.int .i64 0,.slice none 0 0,.int .i64 0,.int .i64 0,.slice none 0 0,.int .i64 0,.slice none 0 0,.slice none 0 0]∧tfield Try.prog 128 0=some (0,3)∧tfield Try.prog 128 1=some (1,3)∧tfield Try.prog 128 2=some (2,126)∧tfield Try.prog 128 3=some (5,126)∧tfield Try.prog 128 4=some (8,3)∧tfield Try.prog 128 5=some (9,76)∧tfield Try.prog 128 6=some (10,76):=by and_intros<;>kernel_rfl
theorem ft145:tsz Try.prog 145=some 1∧tbytes Try.prog 145=some 8∧tagg Try.prog 145=some false∧tslice Try.prog 145=none∧tzero Try.prog 145=some [.nilFunc]:=by and_intros<;>kernel_rfl
theorem ft147:tsz Try.prog 147=some 1∧tbytes Try.prog 147=some 24∧tagg Try.prog 147=some false∧tslice Try.prog 147=some 9∧tzero Try.prog 147=some [.slice none 0 0]:=by and_intros<;>kernel_rfl
theorem ok3:fnOK Try.prog 3=true:=by kernel_rfl
theorem ok7:fnOK Try.prog 7=true:=by kernel_rfl
theorem ok8:fnOK Try.prog 8=true:=by kernel_rfl
theorem ok9:fnOK Try.prog 9=true:=by kernel_rfl
theorem ok10:fnOK Try.prog 10=true:=by kernel_rfl
theorem ok11:fnOK Try.prog 11=true:=by kernel_rfl
theorem ok12:fnOK Try.prog 12=true:=by kernel_rfl
theorem ok13:fnOK Try.prog 13=true:=by kernel_rfl
theorem ok14:fnOK Try.prog 14=true:=by kernel_rfl
theorem ok16:fnOK Try.prog 16=true:=by kernel_rfl
theorem ok23:fnOK Try.prog 23=true:=by kernel_rfl
theorem ok24:fnOK Try.prog 24=true:=by kernel_rfl
theorem ok25:fnOK Try.prog 25=true:=by kernel_rfl
theorem ok26:fnOK Try.prog 26=true:=by kernel_rfl
theorem ok27:fnOK Try.prog 27=true:=by kernel_rfl
theorem ok28:fnOK Try.prog 28=true:=by kernel_rfl
theorem ok29:fnOK Try.prog 29=true:=by kernel_rfl
theorem ok30:fnOK Try.prog 30=true:=by kernel_rfl
theorem ok31:fnOK Try.prog 31=true:=by kernel_rfl
theorem ok32:fnOK Try.prog 32=true:=by kernel_rfl
theorem ok33:fnOK Try.prog 33=true:=by kernel_rfl
theorem ok34:fnOK Try.prog 34=true:=by kernel_rfl
theorem ok35:fnOK Try.prog 35=true:=by kernel_rfl
theorem ok39:fnOK Try.prog 39=true:=by kernel_rfl
theorem ok42:fnOK Try.prog 42=true:=by kernel_rfl
theorem ok44:fnOK Try.prog 44=true:=by kernel_rfl
theorem ok51:fnOK Try.prog 51=true:=by kernel_rfl
theorem ok52:fnOK Try.prog 52=true:=by kernel_rfl
theorem ok53:fnOK Try.prog 53=true:=by kernel_rfl
theorem ok54:fnOK Try.prog 54=true:=by kernel_rfl
theorem ok55:fnOK Try.prog 55=true:=by kernel_rfl
theorem ok61:fnOK Try.prog 61=true:=by kernel_rfl
theorem ok62:fnOK Try.prog 62=true:=by kernel_rfl
theorem ok63:fnOK Try.prog 63=true:=by kernel_rfl
theorem ok64:fnOK Try.prog 64=true:=by kernel_rfl
theorem ok65:fnOK Try.prog 65=true:=by kernel_rfl
theorem ok67:fnOK Try.prog 67=true:=by kernel_rfl
theorem ok68:fnOK Try.prog 68=true:=by kernel_rfl
theorem ok71:fnOK Try.prog 71=true:=by kernel_rfl
theorem ok72:fnOK Try.prog 72=true:=by kernel_rfl
theorem ok73:fnOK Try.prog 73=true:=by kernel_rfl
theorem ok78:fnOK Try.prog 78=true:=by kernel_rfl
theorem ok79:fnOK Try.prog 79=true:=by kernel_rfl
theorem ok80:fnOK Try.prog 80=true:=by kernel_rfl
theorem ok81:fnOK Try.prog 81=true:=by kernel_rfl
theorem ok82:fnOK Try.prog 82=true:=by kernel_rfl
theorem ok83:fnOK Try.prog 83=true:=by kernel_rfl
theorem ok84:fnOK Try.prog 84=true:=by kernel_rfl
theorem ok85:fnOK Try.prog 85=true:=by kernel_rfl
theorem ok86:fnOK Try.prog 86=true:=by kernel_rfl
theorem ok87:fnOK Try.prog 87=true:=by kernel_rfl
theorem ok88:fnOK Try.prog 88=true:=by kernel_rfl
theorem ok89:fnOK Try.prog 89=true:=by kernel_rfl
theorem ok90:fnOK Try.prog 90=true:=by kernel_rfl
theorem ok91:fnOK Try.prog 91=true:=by kernel_rfl
theorem ok97:fnOK Try.prog 97=true:=by kernel_rfl
theorem ok98:fnOK Try.prog 98=true:=by kernel_rfl
theorem ok99:fnOK Try.prog 99=true:=by kernel_rfl
theorem ok100:fnOK Try.prog 100=true:=by kernel_rfl
theorem ok101:fnOK Try.prog 101=true:=by kernel_rfl
theorem ok102:fnOK Try.prog 102=true:=by kernel_rfl
theorem ok103:fnOK Try.prog 103=true:=by kernel_rfl
theorem ok104:fnOK Try.prog 104=true:=by kernel_rfl
theorem ok105:fnOK Try.prog 105=true:=by kernel_rfl
theorem ok106:fnOK Try.prog 106=true:=by kernel_rfl
theorem ok111:fnOK Try.prog 111=true:=by kernel_rfl
theorem ok112:fnOK Try.prog 112=true:=by kernel_rfl
theorem ok113:fnOK Try.prog 113=true:=by kernel_rfl
theorem ok114:fnOK Try.prog 114=true:=by kernel_rfl
theorem ok115:fnOK Try.prog 115=true:=by kernel_rfl
theorem ok116:fnOK Try.prog 116=true:=by kernel_rfl
theorem ok117:fnOK Try.prog 117=true:=by kernel_rfl
theorem ok118:fnOK Try.prog 118=true:=by kernel_rfl
theorem ok119:fnOK Try.prog 119=true:=by kernel_rfl
theorem ok125:fnOK Try.prog 125=true:=by kernel_rfl
theorem ok126:fnOK Try.prog 126=true:=by kernel_rfl
attribute [go_sem] ft0 ft1 ft2 ft3 ft4 ft5 ft6 ft7 ft8 ft9 ft10 ft11 ft12 ft13
 ft14 ft22 ft23 ft24 ft25 ft26 ft27
 ft28 ft32 ft33 ft34 ft36 ft41
 ft44 ft45 ft47 ft48
 ft67 ft68
 ft72 ft76 ft77 ft78 ft82 ft83
 ft85 ft86 ft92 ft96
 ft98 ft99 ft107 ft110 ft111
 ft116 ft124 ft125
 ft126 ft127 ft128
 ft145 ft147
 Try.f3 Try.f7 Try.f8 Try.f9 Try.f10 Try.f11 Try.f12 Try.f13 Try.f14
 Try.f16 Try.f23 Try.f24 Try.f25 Try.f26 Try.f27 Try.f28 Try.f29 Try.f30 Try.f31 Try.f32 Try.f33 Try.f34 Try.f35
 Try.f39 Try.f42 Try.f44 Try.f51 Try.f52 Try.f53 Try.f54 Try.f55 Try.f61 Try.f62 Try.f63 Try.f64 Try.f65 Try.f67
 Try.f68 Try.f71 Try.f72 Try.f73 Try.f78 Try.f79 Try.f80 Try.f81 Try.f82 Try.f83 Try.f84 Try.f85 Try.f86 Try.f87
 Try.f88 Try.f89 Try.f90 Try.f91 Try.f97 Try.f98 Try.f99 Try.f100 Try.f101 Try.f102 Try.f103 Try.f104 Try.f105 Try.f106
 Try.f111 Try.f112 Try.f113 Try.f114 Try.f115 Try.f116 Try.f117 Try.f118 Try.f119 Try.f125 Try.f126
end Go.Proofs.Ytmjkgjkkpaephaa.CtF
