/- Contracts of functions of the program, one behind the other, as plain data: what each call returns and which blocks it leaves. -/
import Derived.Test.YtddanjifhdaebaaChecked
import Derived.KernelRfl
import Derived.Test.YtddanjifhdaebaaIAi
set_option linter.unusedVariables false
set_option linter.unusedSimpArgs false
set_option linter.unusedSectionVars false
set_option maxHeartbeats 16000000
set_option maxRecDepth 100000
namespace Go.Proofs.Ytddanjifhdaebaa.CtF
open Go Go.CT
theorem mo:Try.prog.follows .mixedOrders=true:=by kernel_rfl
theorem drvZ [Yn] {K:Bool} {m nt:Nat} {f:FuncId} {R:D→List (Option (List C))→Prop} {r:Option Rg} {k:List Item} {S:Ms} {fn:Func} (hfn:Try.prog.funcs[f]? = some fn) (h:drv K Try.prog m f nt R fn.results.toList 12 r k S):XK K Try.prog m f nt R r k S :=
 drv_sound hfn mo rfl 12 r k S h
theorem drvL [Yn] {K:Bool} {m nt:Nat} {f:FuncId} {R:D→List (Option (List C))→Prop} {k:List Item} {S:Ms} {fn:Func} (hfn:Try.prog.funcs[f]? = some fn) (h:drv K Try.prog m f nt R fn.results.toList 12 none k S):Go K Try.prog m f nt R k S :=
 drv_sound hfn mo rfl 12 none k S h
theorem dcZ [Yn] {f : FuncId} {R : D → List (Option (List C)) → Prop} {args : List D} {h : List (Option (List C))} {fn : Func} {c : Code} (hf : Try.prog.funcs[f]? = some fn)
 (hg:drv false Try.prog h.length f fn.ntmps R fn.results.toList 12 none [.code c] ⟨ofArgs 0 args,hpL h,h.length⟩) (hb:fn.body=some c:=by rfl) (hn:args.length≤fn.ntmps:=by simp):DC Try.prog f args h R :=
 dc_of_go hf hb hn (drv_sound hf mo rfl 12 none _ _ hg)
theorem ft0:tsz Try.prog 0=some 1∧tbytes Try.prog 0=some 0∧tagg Try.prog 0=some false∧tslice Try.prog 0=none:=by and_intros<;>kernel_rfl
theorem ft1:tsz Try.prog 1=some 1∧tbytes Try.prog 1=some 8∧tagg Try.prog 1=some false∧tslice Try.prog 1=none∧tzero Try.prog 1=some [.nilFunc]:=by and_intros<;>kernel_rfl
theorem ft2:tsz Try.prog 2=some 1∧tbytes Try.prog 2=some 8∧tagg Try.prog 2=some false∧tslice Try.prog 2=none∧Try.prog.underlying 2=some (.int .i64)∧tzero Try.prog 2=some [.int .i64 0]:=by and_intros<;>kernel_rfl
theorem ft3:tsz Try.prog 3=some 1∧tbytes Try.prog 3=some 8∧tagg Try.prog 3=some false∧tslice Try.prog 3=none∧Try.prog.underlying 3=some (.int .i64)∧tzero Try.prog 3=some [.int .i64 0]:=by and_intros<;>kernel_rfl
theorem ft4:tsz Try.prog 4=some 1∧tbytes Try.prog 4=some 1∧tagg Try.prog 4=some false∧tbool Try.prog 4=true∧tslice Try.prog 4=none∧tzero Try.prog 4=some [.bool false]:=by and_intros<;>kernel_rfl
theorem ft5:tsz Try.prog 5=some 1∧tbytes Try.prog 5=some 1∧tagg Try.prog 5=some false∧tslice Try.prog 5=none∧Try.prog.underlying 5=some (.int .u8)∧tzero Try.prog 5=some [.int .u8 0]:=by and_intros<;>kernel_rfl
theorem ft6:tsz Try.prog 6=some 1∧tbytes Try.prog 6=some 1∧tagg Try.prog 6=some false∧tslice Try.prog 6=none∧Try.prog.underlying 6=some (.int .u8)∧tzero Try.prog 6=some [.int .u8 0]:=by and_intros<;>kernel_rfl
theorem ft7:tsz Try.prog 7=some 4∧tbytes Try.prog 7=some 24∧tagg Try.prog 7=some true∧tslice Try.prog 7=none∧tzero Try.prog 7=some [.int .i64 0,.int .i64 0,.bool false,.int .u8 0]∧tstruct Try.prog 7=some [.int .i64 0,.int .i64 0,.bool false,.int .u8 0]∧tfield Try.prog 7 0=some (0,2)∧tfield Try.prog 7 1=some (1,3)∧tfield Try.prog 7 2=some (2,4)∧tfield Try.prog 7 3=some (3,6):=by and_intros<;>kernel_rfl
theorem ft8:tsz Try.prog 8=some 4∧tbytes Try.prog 8=some 24∧tagg Try.prog 8=some true∧tslice Try.prog 8=none∧tzero Try.prog 8=some [.int .i64 0,.int .i64 0,.bool false,.int .u8 0]∧tstruct Try.prog 8=some [.int .i64 0,.int .i64 0,.bool false,.int .u8 0]∧tfield Try.prog 8 0=some (0,2)∧tfield Try.prog 8 1=some (1,3)∧tfield Try.prog 8 2=some (2,4)∧tfield Try.prog 8 3=some (3,6):=by and_intros<;>kernel_rfl
theorem ft9:tsz Try.prog 9=some 1∧tbytes Try.prog 9=some 16∧tagg Try.prog 9=some false∧tstring Try.prog 9=true∧tslice Try.prog 9=none∧tzero Try.prog 9=some [.string .empty]:=by and_intros<;>kernel_rfl
theorem ft10:tsz Try.prog 10=some 1∧tbytes Try.prog 10=some 16∧tagg Try.prog 10=some false∧tstring Try.prog 10=true∧tslice Try.prog 10=none∧tzero Try.prog 10=some [.string .empty]:=by and_intros<;>kernel_rfl
theorem ft11:tsz Try.prog 11=some 1∧tbytes Try.prog 11=some 16∧tagg Try.prog 11=some false∧tstring Try.prog 11=true∧tslice Try.prog 11=none∧tzero Try.prog 11=some [.string .empty]:=by and_intros<;>kernel_rfl
theorem ft12:tsz Try.prog 12=some 1∧tbytes Try.prog 12=some 8∧tagg Try.prog 12=some false∧tslice Try.prog 12=none∧Try.prog.underlying 12=some (.int .u64)∧tzero Try.prog 12=some [.int .u64 0]:=by and_intros<;>kernel_rfl
theorem ft13:tsz Try.prog 13=some 2∧tbytes Try.prog 13=some 24∧tagg Try.prog 13=some true∧tslice Try.prog 13=none∧tzero Try.prog 13=some [.string .empty,.int .u64 0]∧tstruct Try.prog 13=some [.string .empty,.int .u64 0]∧tfield Try.prog 13 0=some (0,9)∧tfield Try.prog 13 1=some (1,12):=by and_intros<;>kernel_rfl
theorem ft14:tsz Try.prog 14=some 2∧tbytes Try.prog 14=some 24∧tagg Try.prog 14=some true∧tslice Try.prog 14=none∧tzero Try.prog 14=some [.string .empty,.int .u64 0]∧tstruct Try.prog 14=some [.string .empty,.int .u64 0]∧tfield Try.prog 14 0=some (0,9)∧tfield Try.prog 14 1=some (1,12):=by and_intros<;>kernel_rfl
theorem ft15:tsz Try.prog 15=some 1∧tbytes Try.prog 15=some 8∧tagg Try.prog 15=some false∧tslice Try.prog 15=none∧tzero Try.prog 15=some [.pointer none]:=by and_intros<;>kernel_rfl
theorem ft16:tsz Try.prog 16=some 1∧tbytes Try.prog 16=some 8∧tagg Try.prog 16=some false∧tslice Try.prog 16=none∧tzero Try.prog 16=some [.pointer none]:=by and_intros<;>kernel_rfl
theorem ft17:tsz Try.prog 17=some 1∧tbytes Try.prog 17=some 8∧tagg Try.prog 17=some false∧tslice Try.prog 17=none∧tzero Try.prog 17=some [.pointer none]:=by and_intros<;>kernel_rfl
theorem ft18:tsz Try.prog 18=some 1∧tbytes Try.prog 18=some 8∧tagg Try.prog 18=some true∧tslice Try.prog 18=none∧tzero Try.prog 18=some [.pointer none]∧tstruct Try.prog 18=some [.pointer none]∧tfield Try.prog 18 0=some (0,17):=by and_intros<;>kernel_rfl
theorem ft19:tsz Try.prog 19=some 1∧tbytes Try.prog 19=some 8∧tagg Try.prog 19=some true∧tslice Try.prog 19=none∧tzero Try.prog 19=some [.pointer none]∧tstruct Try.prog 19=some [.pointer none]∧tfield Try.prog 19 0=some (0,17):=by and_intros<;>kernel_rfl
theorem ft20:tsz Try.prog 20=some 1∧tbytes Try.prog 20=some 16∧tagg Try.prog 20=some false∧tslice Try.prog 20=none∧tzero Try.prog 20=some [.nilIface]:=by and_intros<;>kernel_rfl
theorem ft21:tsz Try.prog 21=some 1∧tbytes Try.prog 21=some 4∧tagg Try.prog 21=some false∧tslice Try.prog 21=none∧Try.prog.underlying 21=some (.int .i32)∧tzero Try.prog 21=some [.int .i32 0]:=by and_intros<;>kernel_rfl
theorem ft22:tsz Try.prog 22=some 1∧tbytes Try.prog 22=some 24∧tagg Try.prog 22=some false∧tslice Try.prog 22=some 3∧tzero Try.prog 22=some [.slice none 0 0]:=by and_intros<;>kernel_rfl
theorem ft23:tsz Try.prog 23=some 1∧tbytes Try.prog 23=some 24∧tagg Try.prog 23=some false∧tslice Try.prog 23=some 158∧tzero Try.prog 23=some [.slice none 0 0]:=by and_intros<;>kernel_rfl
theorem ft24:tsz Try.prog 24=some 3∧tbytes Try.prog 24=some 72∧tagg Try.prog 24=some true∧tslice Try.prog 24=none∧tzero Try.prog 24=some [.slice none 0 0,.slice none 0 0,.slice none 0 0]∧tstruct Try.prog 24=some [.slice none 0 0,.slice none 0 0,.slice none 0 0]∧tfield Try.prog 24 0=some (0,22)∧tfield Try.prog 24 1=some (1,22)∧tfield Try.prog 24 2=some (2,23):=by and_intros<;>kernel_rfl
theorem ft25:tsz Try.prog 25=some 3∧tbytes Try.prog 25=some 72∧tagg Try.prog 25=some true∧tslice Try.prog 25=none∧tzero Try.prog 25=some [.slice none 0 0,.slice none 0 0,.slice none 0 0]∧tstruct Try.prog 25=some [.slice none 0 0,.slice none 0 0,.slice none 0 0]∧tfield Try.prog 25 0=some (0,22)∧tfield Try.prog 25 1=some (1,22)∧tfield Try.prog 25 2=some (2,23):=by and_intros<;>kernel_rfl
theorem ft26:tsz Try.prog 26=some 1∧tbytes Try.prog 26=some 24∧tagg Try.prog 26=some false∧tslice Try.prog 26=some 65∧tzero Try.prog 26=some [.slice none 0 0]:=by and_intros<;>kernel_rfl
theorem ft27:tsz Try.prog 27=some 1∧tbytes Try.prog 27=some 8∧tagg Try.prog 27=some false∧tslice Try.prog 27=none∧tzero Try.prog 27=some [.nilFunc]:=by and_intros<;>kernel_rfl
theorem ft28:tsz Try.prog 28=some 1∧tbytes Try.prog 28=some 8∧tagg Try.prog 28=some false∧tslice Try.prog 28=none∧tzero Try.prog 28=some [.nilFunc]:=by and_intros<;>kernel_rfl
theorem ft29:tsz Try.prog 29=some 1∧tbytes Try.prog 29=some 0∧tagg Try.prog 29=some false∧tslice Try.prog 29=none:=by and_intros<;>kernel_rfl
theorem ft30:tsz Try.prog 30=some 1∧tbytes Try.prog 30=some 8∧tagg Try.prog 30=some false∧tslice Try.prog 30=none∧tzero Try.prog 30=some [.nilFunc]:=by and_intros<;>kernel_rfl
theorem ft31:tsz Try.prog 31=some 1∧tbytes Try.prog 31=some 24∧tagg Try.prog 31=some false∧tslice Try.prog 31=some 81∧tzero Try.prog 31=some [.slice none 0 0]:=by and_intros<;>kernel_rfl
theorem ft32:tsz Try.prog 32=some 3∧tbytes Try.prog 32=some 72∧tagg Try.prog 32=some true∧tslice Try.prog 32=none∧tzero Try.prog 32=some [.slice none 0 0,.slice none 0 0,.slice none 0 0]∧tstruct Try.prog 32=some [.slice none 0 0,.slice none 0 0,.slice none 0 0]∧tfield Try.prog 32 0=some (0,22)∧tfield Try.prog 32 1=some (1,22)∧tfield Try.prog 32 2=some (2,31):=by and_intros<;>kernel_rfl
theorem ft33:tsz Try.prog 33=some 3∧tbytes Try.prog 33=some 72∧tagg Try.prog 33=some true∧tslice Try.prog 33=none∧tzero Try.prog 33=some [.slice none 0 0,.slice none 0 0,.slice none 0 0]∧tstruct Try.prog 33=some [.slice none 0 0,.slice none 0 0,.slice none 0 0]∧tfield Try.prog 33 0=some (0,22)∧tfield Try.prog 33 1=some (1,22)∧tfield Try.prog 33 2=some (2,31):=by and_intros<;>kernel_rfl
theorem ft34:tsz Try.prog 34=some 1∧tbytes Try.prog 34=some 8∧tagg Try.prog 34=some false∧tslice Try.prog 34=none∧tzero Try.prog 34=some [.nilFunc]:=by and_intros<;>kernel_rfl
theorem ft35:tsz Try.prog 35=some 1∧tbytes Try.prog 35=some 24∧tagg Try.prog 35=some false∧tslice Try.prog 35=some 69∧tzero Try.prog 35=some [.slice none 0 0]:=by and_intros<;>kernel_rfl
theorem ft36:tsz Try.prog 36=some 1∧tbytes Try.prog 36=some 8∧tagg Try.prog 36=some false∧tslice Try.prog 36=none∧tzero Try.prog 36=some [.nilFunc]:=by and_intros<;>kernel_rfl
theorem ft37:tsz Try.prog 37=some 1∧tbytes Try.prog 37=some 8∧tagg Try.prog 37=some false∧tslice Try.prog 37=none∧tzero Try.prog 37=some [.nilFunc]:=by and_intros<;>kernel_rfl
theorem ft38:tsz Try.prog 38=some 1∧tbytes Try.prog 38=some 8∧tagg Try.prog 38=some false∧tslice Try.prog 38=none∧tzero Try.prog 38=some [.nilFunc]:=by and_intros<;>kernel_rfl
theorem ft39:tsz Try.prog 39=some 1∧tbytes Try.prog 39=some 8∧tagg Try.prog 39=some false∧tslice Try.prog 39=none∧tzero Try.prog 39=some [.nilFunc]:=by and_intros<;>kernel_rfl
theorem ft40:tsz Try.prog 40=some 1∧tbytes Try.prog 40=some 24∧tagg Try.prog 40=some false∧tslice Try.prog 40=some 166∧tzero Try.prog 40=some [.slice none 0 0]:=by and_intros<;>kernel_rfl
theorem ft41:tsz Try.prog 41=some 3∧tbytes Try.prog 41=some 72∧tagg Try.prog 41=some true∧tslice Try.prog 41=none∧tzero Try.prog 41=some [.slice none 0 0,.slice none 0 0,.slice none 0 0]∧tstruct Try.prog 41=some [.slice none 0 0,.slice none 0 0,.slice none 0 0]∧tfield Try.prog 41 0=some (0,22)∧tfield Try.prog 41 1=some (1,22)∧tfield Try.prog 41 2=some (2,40):=by and_intros<;>kernel_rfl
theorem ft42:tsz Try.prog 42=some 3∧tbytes Try.prog 42=some 72∧tagg Try.prog 42=some true∧tslice Try.prog 42=none∧tzero Try.prog 42=some [.slice none 0 0,.slice none 0 0,.slice none 0 0]∧tstruct Try.prog 42=some [.slice none 0 0,.slice none 0 0,.slice none 0 0]∧tfield Try.prog 42 0=some (0,22)∧tfield Try.prog 42 1=some (1,22)∧tfield Try.prog 42 2=some (2,40):=by and_intros<;>kernel_rfl
theorem ft43:tsz Try.prog 43=some 1∧tbytes Try.prog 43=some 8∧tagg Try.prog 43=some false∧tslice Try.prog 43=none∧tzero Try.prog 43=some [.nilFunc]:=by and_intros<;>kernel_rfl
theorem ft44:tsz Try.prog 44=some 1∧tbytes Try.prog 44=some 24∧tagg Try.prog 44=some false∧tslice Try.prog 44=some 4∧tzero Try.prog 44=some [.slice none 0 0]:=by and_intros<;>kernel_rfl
theorem ft45:tsz Try.prog 45=some 1∧tbytes Try.prog 45=some 8∧tagg Try.prog 45=some false∧tslice Try.prog 45=none∧tzero Try.prog 45=some [.nilFunc]:=by and_intros<;>kernel_rfl
theorem ft46:tsz Try.prog 46=some 1∧tbytes Try.prog 46=some 24∧tagg Try.prog 46=some false∧tslice Try.prog 46=some 172∧tzero Try.prog 46=some [.slice none 0 0]:=by and_intros<;>kernel_rfl
theorem ft47:tsz Try.prog 47=some 3∧tbytes Try.prog 47=some 72∧tagg Try.prog 47=some true∧tslice Try.prog 47=none∧tzero Try.prog 47=some [.slice none 0 0,.slice none 0 0,.slice none 0 0]∧tstruct Try.prog 47=some [.slice none 0 0,.slice none 0 0,.slice none 0 0]∧tfield Try.prog 47 0=some (0,22)∧tfield Try.prog 47 1=some (1,22)∧tfield Try.prog 47 2=some (2,46):=by and_intros<;>kernel_rfl
theorem ft48:tsz Try.prog 48=some 3∧tbytes Try.prog 48=some 72∧tagg Try.prog 48=some true∧tslice Try.prog 48=none∧tzero Try.prog 48=some [.slice none 0 0,.slice none 0 0,.slice none 0 0]∧tstruct Try.prog 48=some [.slice none 0 0,.slice none 0 0,.slice none 0 0]∧tfield Try.prog 48 0=some (0,22)∧tfield Try.prog 48 1=some (1,22)∧tfield Try.prog 48 2=some (2,46):=by and_intros<;>kernel_rfl
theorem ft49:tsz Try.prog 49=some 1∧tbytes Try.prog 49=some 8∧tagg Try.prog 49=some false∧tslice Try.prog 49=none∧tzero Try.prog 49=some [.nilFunc]:=by and_intros<;>kernel_rfl
theorem ft50:tsz Try.prog 50=some 1∧tbytes Try.prog 50=some 8∧tagg Try.prog 50=some false∧tslice Try.prog 50=none∧tzero Try.prog 50=some [.nilFunc]:=by and_intros<;>kernel_rfl
theorem ft51:tsz Try.prog 51=some 1∧tbytes Try.prog 51=some 8∧tagg Try.prog 51=some false∧tslice Try.prog 51=none∧tzero Try.prog 51=some [.nilFunc]:=by and_intros<;>kernel_rfl
theorem ft52:tsz Try.prog 52=some 1∧tbytes Try.prog 52=some 8∧tagg Try.prog 52=some false∧tslice Try.prog 52=none∧tzero Try.prog 52=some [.nilFunc]:=by and_intros<;>kernel_rfl
theorem ft53:tsz Try.prog 53=some 1∧tbytes Try.prog 53=some 8∧tagg Try.prog 53=some false∧tslice Try.prog 53=none∧tzero Try.prog 53=some [.nilFunc]:=by and_intros<;>kernel_rfl
theorem ft54:tsz Try.prog 54=some 1∧tbytes Try.prog 54=some 8∧tagg Try.prog 54=some false∧tslice Try.prog 54=none∧tzero Try.prog 54=some [.nilFunc]:=by and_intros<;>kernel_rfl
theorem ft55:tsz Try.prog 55=some 1∧tbytes Try.prog 55=some 24∧tagg Try.prog 55=some false∧tslice Try.prog 55=some 44∧tzero Try.prog 55=some [.slice none 0 0]:=by and_intros<;>kernel_rfl
theorem ft56:tsz Try.prog 56=some 1∧tbytes Try.prog 56=some 8∧tagg Try.prog 56=some false∧tslice Try.prog 56=none∧tzero Try.prog 56=some [.nilFunc]:=by and_intros<;>kernel_rfl
theorem ft57:tsz Try.prog 57=some 1∧tbytes Try.prog 57=some 8∧tagg Try.prog 57=some false∧tslice Try.prog 57=none∧tzero Try.prog 57=some [.nilFunc]:=by and_intros<;>kernel_rfl
theorem ft58:tsz Try.prog 58=some 1∧tbytes Try.prog 58=some 8∧tagg Try.prog 58=some false∧tslice Try.prog 58=none∧tzero Try.prog 58=some [.nilFunc]:=by and_intros<;>kernel_rfl
theorem ft59:tsz Try.prog 59=some 1∧tbytes Try.prog 59=some 0∧tagg Try.prog 59=some false∧tslice Try.prog 59=none:=by and_intros<;>kernel_rfl
theorem ft60:tsz Try.prog 60=some 1∧tbytes Try.prog 60=some 8∧tagg Try.prog 60=some false∧tslice Try.prog 60=none∧tzero Try.prog 60=some [.nilFunc]:=by and_intros<;>kernel_rfl
theorem ft61:tsz Try.prog 61=some 1∧tbytes Try.prog 61=some 8∧tagg Try.prog 61=some false∧tslice Try.prog 61=none∧tzero Try.prog 61=some [.nilFunc]:=by and_intros<;>kernel_rfl
theorem ft62:tsz Try.prog 62=some 1∧tbytes Try.prog 62=some 8∧tagg Try.prog 62=some false∧tslice Try.prog 62=none∧tzero Try.prog 62=some [.nilFunc]:=by and_intros<;>kernel_rfl
theorem ft63:tsz Try.prog 63=some 1∧tbytes Try.prog 63=some 24∧tagg Try.prog 63=some false∧tslice Try.prog 63=some 22∧tzero Try.prog 63=some [.slice none 0 0]:=by and_intros<;>kernel_rfl
theorem ft64:tsz Try.prog 64=some 2∧tbytes Try.prog 64=some 48∧tagg Try.prog 64=some true∧tslice Try.prog 64=none∧tzero Try.prog 64=some [.slice none 0 0,.slice none 0 0]∧tstruct Try.prog 64=some [.slice none 0 0,.slice none 0 0]∧tfield Try.prog 64 0=some (0,22)∧tfield Try.prog 64 1=some (1,63):=by and_intros<;>kernel_rfl
theorem ft65:tsz Try.prog 65=some 2∧tbytes Try.prog 65=some 48∧tagg Try.prog 65=some true∧tslice Try.prog 65=none∧tzero Try.prog 65=some [.slice none 0 0,.slice none 0 0]∧tstruct Try.prog 65=some [.slice none 0 0,.slice none 0 0]∧tfield Try.prog 65 0=some (0,22)∧tfield Try.prog 65 1=some (1,63):=by and_intros<;>kernel_rfl
theorem ft66:tsz Try.prog 66=some 1∧tbytes Try.prog 66=some 8∧tagg Try.prog 66=some false∧tslice Try.prog 66=none∧tzero Try.prog 66=some [.nilFunc]:=by and_intros<;>kernel_rfl
theorem ft67:tsz Try.prog 67=some 1∧tbytes Try.prog 67=some 0∧tagg Try.prog 67=some false∧tslice Try.prog 67=none:=by and_intros<;>kernel_rfl
theorem ft68:tsz Try.prog 68=some 1∧tbytes Try.prog 68=some 8∧tagg Try.prog 68=some false∧tslice Try.prog 68=none∧tzero Try.prog 68=some [.nilFunc]:=by and_intros<;>kernel_rfl
theorem ft69:tsz Try.prog 69=some 2∧tbytes Try.prog 69=some 48∧tagg Try.prog 69=some true∧tslice Try.prog 69=none∧tzero Try.prog 69=some [.slice none 0 0,.slice none 0 0]∧tstruct Try.prog 69=some [.slice none 0 0,.slice none 0 0]∧tfield Try.prog 69 0=some (0,22)∧tfield Try.prog 69 1=some (1,63):=by and_intros<;>kernel_rfl
theorem ft70:tsz Try.prog 70=some 1∧tbytes Try.prog 70=some 8∧tagg Try.prog 70=some false∧tslice Try.prog 70=none∧tzero Try.prog 70=some [.nilFunc]:=by and_intros<;>kernel_rfl
theorem ft71:tsz Try.prog 71=some 1∧tbytes Try.prog 71=some 8∧tagg Try.prog 71=some false∧tslice Try.prog 71=none∧tzero Try.prog 71=some [.nilFunc]:=by and_intros<;>kernel_rfl
theorem ft72:tsz Try.prog 72=some 1∧tbytes Try.prog 72=some 8∧tagg Try.prog 72=some false∧tslice Try.prog 72=none∧tzero Try.prog 72=some [.nilFunc]:=by and_intros<;>kernel_rfl
theorem ft73:tsz Try.prog 73=some 1∧tbytes Try.prog 73=some 8∧tagg Try.prog 73=some false∧tslice Try.prog 73=none∧tzero Try.prog 73=some [.nilFunc]:=by and_intros<;>kernel_rfl
theorem ft74:tsz Try.prog 74=some 1∧tbytes Try.prog 74=some 8∧tagg Try.prog 74=some false∧tslice Try.prog 74=none∧tzero Try.prog 74=some [.nilFunc]:=by and_intros<;>kernel_rfl
theorem ft75:tsz Try.prog 75=some 1∧tbytes Try.prog 75=some 8∧tagg Try.prog 75=some false∧tslice Try.prog 75=none∧tzero Try.prog 75=some [.nilFunc]:=by and_intros<;>kernel_rfl
theorem ft76:tsz Try.prog 76=some 1∧tbytes Try.prog 76=some 24∧tagg Try.prog 76=some false∧tslice Try.prog 76=some 5∧tzero Try.prog 76=some [.slice none 0 0]:=by and_intros<;>kernel_rfl
theorem ft77:tsz Try.prog 77=some 1∧tbytes Try.prog 77=some 0∧tagg Try.prog 77=some false∧tslice Try.prog 77=none:=by and_intros<;>kernel_rfl
theorem ft78:tsz Try.prog 78=some 1∧tbytes Try.prog 78=some 8∧tagg Try.prog 78=some false∧tslice Try.prog 78=none∧tzero Try.prog 78=some [.nilFunc]:=by and_intros<;>kernel_rfl
theorem ft79:tsz Try.prog 79=some 1∧tbytes Try.prog 79=some 8∧tagg Try.prog 79=some false∧tslice Try.prog 79=none∧tzero Try.prog 79=some [.nilFunc]:=by and_intros<;>kernel_rfl
theorem ft80:tsz Try.prog 80=some 5∧tbytes Try.prog 80=some 40∧tagg Try.prog 80=some true∧tslice Try.prog 80=none∧tzero Try.prog 80=some [.int .i64 0,.int .i64 0,.int .i64 0,.int .i64 0,.int .i64 0]∧tstruct Try.prog 80=some [.int .i64 0,.int .i64 0,.int .i64 0,.int .i64 0,.int .i64 0]∧tints Try.prog 80=some 5∧tfield Try.prog 80 0=some (0,3)∧tfield Try.prog 80 1=some (1,3)∧tfield Try.prog 80 2=some (2,3)∧tfield Try.prog 80 3=some (3,3)∧tfield Try.prog 80 4=some (4,3):=by and_intros<;>kernel_rfl
theorem ft81:tsz Try.prog 81=some 5∧tbytes Try.prog 81=some 40∧tagg Try.prog 81=some true∧tslice Try.prog 81=none∧tzero Try.prog 81=some [.int .i64 0,.int .i64 0,.int .i64 0,.int .i64 0,.int .i64 0]∧tstruct Try.prog 81=some [.int .i64 0,.int .i64 0,.int .i64 0,.int .i64 0,.int .i64 0]∧tints Try.prog 81=some 5∧tfield Try.prog 81 0=some (0,3)∧tfield Try.prog 81 1=some (1,3)∧tfield Try.prog 81 2=some (2,3)∧tfield Try.prog 81 3=some (3,3)∧tfield Try.prog 81 4=some (4,3):=by and_intros<;>kernel_rfl
theorem ft82:tsz Try.prog 82=some 1∧tbytes Try.prog 82=some 8∧tagg Try.prog 82=some false∧tslice Try.prog 82=none∧tzero Try.prog 82=some [.nilFunc]:=by and_intros<;>kernel_rfl
theorem ft83:tsz Try.prog 83=some 1∧tbytes Try.prog 83=some 8∧tagg Try.prog 83=some false∧tslice Try.prog 83=none∧tzero Try.prog 83=some [.nilFunc]:=by and_intros<;>kernel_rfl
theorem ft84:tsz Try.prog 84=some 1∧tbytes Try.prog 84=some 8∧tagg Try.prog 84=some false∧tslice Try.prog 84=none∧tzero Try.prog 84=some [.nilFunc]:=by and_intros<;>kernel_rfl
theorem ft85:tsz Try.prog 85=some 1∧tbytes Try.prog 85=some 24∧tagg Try.prog 85=some false∧tslice Try.prog 85=some 128∧tzero Try.prog 85=some [.slice none 0 0]:=by and_intros<;>kernel_rfl
theorem ft86:tsz Try.prog 86=some 1∧tbytes Try.prog 86=some 0∧tagg Try.prog 86=some false∧tslice Try.prog 86=none:=by and_intros<;>kernel_rfl
theorem ft87:tsz Try.prog 87=some 1∧tbytes Try.prog 87=some 8∧tagg Try.prog 87=some false∧tslice Try.prog 87=none∧tzero Try.prog 87=some [.nilFunc]:=by and_intros<;>kernel_rfl
theorem ft88:tsz Try.prog 88=some 1∧tbytes Try.prog 88=some 8∧tagg Try.prog 88=some false∧tslice Try.prog 88=none∧tzero Try.prog 88=some [.nilFunc]:=by and_intros<;>kernel_rfl
theorem ft89:tsz Try.prog 89=some 1∧tbytes Try.prog 89=some 8∧tagg Try.prog 89=some false∧tslice Try.prog 89=none∧tzero Try.prog 89=some [.nilFunc]:=by and_intros<;>kernel_rfl
theorem ft90:tsz Try.prog 90=some 1∧tbytes Try.prog 90=some 8∧tagg Try.prog 90=some false∧tslice Try.prog 90=none∧tzero Try.prog 90=some [.nilFunc]:=by and_intros<;>kernel_rfl
theorem ft91:tsz Try.prog 91=some 1∧tbytes Try.prog 91=some 8∧tagg Try.prog 91=some false∧tslice Try.prog 91=none∧tzero Try.prog 91=some [.nilFunc]:=by and_intros<;>kernel_rfl
theorem ft92:tsz Try.prog 92=some 1∧tbytes Try.prog 92=some 8∧tagg Try.prog 92=some false∧tslice Try.prog 92=none∧tzero Try.prog 92=some [.nilFunc]:=by and_intros<;>kernel_rfl
theorem ft93:tsz Try.prog 93=some 1∧tbytes Try.prog 93=some 8∧tagg Try.prog 93=some false∧tslice Try.prog 93=none∧tzero Try.prog 93=some [.nilFunc]:=by and_intros<;>kernel_rfl
theorem ft94:tsz Try.prog 94=some 1∧tbytes Try.prog 94=some 8∧tagg Try.prog 94=some false∧tslice Try.prog 94=none∧tzero Try.prog 94=some [.nilFunc]:=by and_intros<;>kernel_rfl
theorem ft95:tsz Try.prog 95=some 1∧tbytes Try.prog 95=some 8∧tagg Try.prog 95=some false∧tslice Try.prog 95=none∧tzero Try.prog 95=some [.nilFunc]:=by and_intros<;>kernel_rfl
theorem ft96:tsz Try.prog 96=some 1∧tbytes Try.prog 96=some 8∧tagg Try.prog 96=some false∧tslice Try.prog 96=none∧tzero Try.prog 96=some [.nilFunc]:=by and_intros<;>kernel_rfl
theorem ft97:tsz Try.prog 97=some 1∧tbytes Try.prog 97=some 24∧tagg Try.prog 97=some false∧tslice Try.prog 97=some 85∧tzero Try.prog 97=some [.slice none 0 0]:=by and_intros<;>kernel_rfl
theorem ft98:tsz Try.prog 98=some 1∧tbytes Try.prog 98=some 8∧tagg Try.prog 98=some false∧tslice Try.prog 98=none∧tzero Try.prog 98=some [.nilFunc]:=by and_intros<;>kernel_rfl
theorem ft99:tsz Try.prog 99=some 1∧tbytes Try.prog 99=some 8∧tagg Try.prog 99=some false∧tslice Try.prog 99=none∧tzero Try.prog 99=some [.nilFunc]:=by and_intros<;>kernel_rfl
theorem ft100:tsz Try.prog 100=some 1∧tbytes Try.prog 100=some 8∧tagg Try.prog 100=some false∧tslice Try.prog 100=none∧tzero Try.prog 100=some [.nilFunc]:=by and_intros<;>kernel_rfl
theorem ft101:tsz Try.prog 101=some 1∧tbytes Try.prog 101=some 8∧tagg Try.prog 101=some false∧tslice Try.prog 101=none∧tzero Try.prog 101=some [.nilFunc]:=by and_intros<;>kernel_rfl
theorem ft102:tsz Try.prog 102=some 1∧tbytes Try.prog 102=some 8∧tagg Try.prog 102=some false∧tslice Try.prog 102=none∧tzero Try.prog 102=some [.nilFunc]:=by and_intros<;>kernel_rfl
theorem ft103:tsz Try.prog 103=some 1∧tbytes Try.prog 103=some 8∧tagg Try.prog 103=some false∧tslice Try.prog 103=none∧tzero Try.prog 103=some [.nilFunc]:=by and_intros<;>kernel_rfl
theorem ft104:tsz Try.prog 104=some 6∧tbytes Try.prog 104=some 144∧tagg Try.prog 104=some true∧tslice Try.prog 104=none∧tzero Try.prog 104=some [.slice none 0 0,.slice none 0 0,.slice none 0 0,.slice none 0 0,.slice none 0 0,.slice none 0 0]∧tstruct Try.prog 104=some [.slice none 0 0,.slice none 0 0,.slice none 0 0,.slice none 0 0,.slice none 0 0,.slice none 0 0]∧tfield Try.prog 104 0=some (0,48)∧tfield Try.prog 104 1=some (3,55)∧tfield Try.prog 104 2=some (4,44)∧tfield Try.prog 104 3=some (5,44):=by and_intros<;>kernel_rfl
theorem ft105:tsz Try.prog 105=some 6∧tbytes Try.prog 105=some 144∧tagg Try.prog 105=some true∧tslice Try.prog 105=none∧tzero Try.prog 105=some [.slice none 0 0,.slice none 0 0,.slice none 0 0,.slice none 0 0,.slice none 0 0,.slice none 0 0]∧tstruct Try.prog 105=some [.slice none 0 0,.slice none 0 0,.slice none 0 0,.slice none 0 0,.slice none 0 0,.slice none 0 0]∧tfield Try.prog 105 0=some (0,48)∧tfield Try.prog 105 1=some (3,55)∧tfield Try.prog 105 2=some (4,44)∧tfield Try.prog 105 3=some (5,44):=by and_intros<;>kernel_rfl
theorem ft106:tsz Try.prog 106=some 1∧tbytes Try.prog 106=some 8∧tagg Try.prog 106=some false∧tslice Try.prog 106=none∧tzero Try.prog 106=some [.nilFunc]:=by and_intros<;>kernel_rfl
theorem ft107:tsz Try.prog 107=some 1∧tbytes Try.prog 107=some 8∧tagg Try.prog 107=some false∧tslice Try.prog 107=none∧tzero Try.prog 107=some [.nilFunc]:=by and_intros<;>kernel_rfl
theorem ft108:tsz Try.prog 108=some 1∧tbytes Try.prog 108=some 8∧tagg Try.prog 108=some false∧tslice Try.prog 108=none∧tzero Try.prog 108=some [.nilFunc]:=by and_intros<;>kernel_rfl
theorem ft109:tsz Try.prog 109=some 1∧tbytes Try.prog 109=some 8∧tagg Try.prog 109=some false∧tslice Try.prog 109=none∧tzero Try.prog 109=some [.nilFunc]:=by and_intros<;>kernel_rfl
theorem ft110:tsz Try.prog 110=some 1∧tbytes Try.prog 110=some 8∧tagg Try.prog 110=some false∧tslice Try.prog 110=none∧tzero Try.prog 110=some [.pointer none]:=by and_intros<;>kernel_rfl
theorem ft111:tsz Try.prog 111=some 1∧tbytes Try.prog 111=some 0∧tagg Try.prog 111=some false∧tslice Try.prog 111=none:=by and_intros<;>kernel_rfl
theorem ft112:tsz Try.prog 112=some 1∧tbytes Try.prog 112=some 8∧tagg Try.prog 112=some false∧tslice Try.prog 112=none∧tzero Try.prog 112=some [.nilFunc]:=by and_intros<;>kernel_rfl
theorem ft113:tsz Try.prog 113=some 1∧tbytes Try.prog 113=some 8∧tagg Try.prog 113=some false∧tslice Try.prog 113=none∧tzero Try.prog 113=some [.nilFunc]:=by and_intros<;>kernel_rfl
theorem ft114:tsz Try.prog 114=some 5∧tbytes Try.prog 114=some 88∧tagg Try.prog 114=some true∧tslice Try.prog 114=none∧tzero Try.prog 114=some [.slice none 0 0,.slice none 0 0,.slice none 0 0,.int .i64 0,.int .i64 0]∧tstruct Try.prog 114=some [.slice none 0 0,.slice none 0 0,.slice none 0 0,.int .i64 0,.int .i64 0]∧tfield Try.prog 114 0=some (0,48)∧tfield Try.prog 114 1=some (3,3)∧tfield Try.prog 114 2=some (4,3):=by and_intros<;>kernel_rfl
theorem ft115:tsz Try.prog 115=some 5∧tbytes Try.prog 115=some 88∧tagg Try.prog 115=some true∧tslice Try.prog 115=none∧tzero Try.prog 115=some [.slice none 0 0,.slice none 0 0,.slice none 0 0,.int .i64 0,.int .i64 0]∧tstruct Try.prog 115=some [.slice none 0 0,.slice none 0 0,.slice none 0 0,.int .i64 0,.int .i64 0]∧tfield Try.prog 115 0=some (0,48)∧tfield Try.prog 115 1=some (3,3)∧tfield Try.prog 115 2=some (4,3):=by and_intros<;>kernel_rfl
theorem ft116:tsz Try.prog 116=some 1∧tbytes Try.prog 116=some 8∧tagg Try.prog 116=some false∧tslice Try.prog 116=none∧tzero Try.prog 116=some [.nilFunc]:=by and_intros<;>kernel_rfl
theorem ft117:tsz Try.prog 117=some 1∧tbytes Try.prog 117=some 8∧tagg Try.prog 117=some false∧tslice Try.prog 117=none∧tzero Try.prog 117=some [.nilFunc]:=by and_intros<;>kernel_rfl
theorem ft118:tsz Try.prog 118=some 1∧tbytes Try.prog 118=some 8∧tagg Try.prog 118=some false∧tslice Try.prog 118=none∧tzero Try.prog 118=some [.nilFunc]:=by and_intros<;>kernel_rfl
theorem ft119:tsz Try.prog 119=some 1∧tbytes Try.prog 119=some 8∧tagg Try.prog 119=some false∧tslice Try.prog 119=none∧tzero Try.prog 119=some [.nilFunc]:=by and_intros<;>kernel_rfl
theorem ft120:tsz Try.prog 120=some 1∧tbytes Try.prog 120=some 8∧tagg Try.prog 120=some false∧tslice Try.prog 120=none∧tzero Try.prog 120=some [.nilFunc]:=by and_intros<;>kernel_rfl
theorem ft121:tsz Try.prog 121=some 1∧tbytes Try.prog 121=some 8∧tagg Try.prog 121=some false∧tslice Try.prog 121=none∧tzero Try.prog 121=some [.nilFunc]:=by and_intros<;>kernel_rfl
theorem ft122:tsz Try.prog 122=some 1∧tbytes Try.prog 122=some 0∧tagg Try.prog 122=some false∧tslice Try.prog 122=none:=by and_intros<;>kernel_rfl
theorem ft123:tsz Try.prog 123=some 1∧tbytes Try.prog 123=some 8∧tagg Try.prog 123=some false∧tslice Try.prog 123=none∧tzero Try.prog 123=some [.nilFunc]:=by and_intros<;>kernel_rfl
theorem ft124:tsz Try.prog 124=some 1∧tbytes Try.prog 124=some 8∧tagg Try.prog 124=some false∧tslice Try.prog 124=none∧tzero Try.prog 124=some [.nilFunc]:=by and_intros<;>kernel_rfl
theorem ft125:tsz Try.prog 125=some 1∧tbytes Try.prog 125=some 8∧tagg Try.prog 125=some false∧tslice Try.prog 125=none∧tzero Try.prog 125=some [.nilFunc]:=by and_intros<;>kernel_rfl
theorem ft126:tsz Try.prog 126=some 1∧tbytes Try.prog 126=some 8∧tagg Try.prog 126=some false∧tslice Try.prog 126=none∧tzero Try.prog 126=some [.nilFunc]:=by and_intros<;>kernel_rfl
theorem ft127:tsz Try.prog 127=some 2∧tbytes Try.prog 127=some 16∧tagg Try.prog 127=some true∧tslice Try.prog 127=none∧tzero Try.prog 127=some [.int .i64 0,.int .i64 0]∧tstruct Try.prog 127=some [.int .i64 0,.int .i64 0]∧tints Try.prog 127=some 2∧tfield Try.prog 127 0=some (0,3)∧tfield Try.prog 127 1=some (1,3):=by and_intros<;>kernel_rfl
theorem ft128:tsz Try.prog 128=some 2∧tbytes Try.prog 128=some 16∧tagg Try.prog 128=some true∧tslice Try.prog 128=none∧tzero Try.prog 128=some [.int .i64 0,.int .i64 0]∧tstruct Try.prog 128=some [.int .i64 0,.int .i64 0]∧tints Try.prog 128=some 2∧tfield Try.prog 128 0=some (0,3)∧tfield Try.prog 128 1=some (1,3):=by and_intros<;>kernel_rfl
theorem ft129:tsz Try.prog 129=some 1∧tbytes Try.prog 129=some 8∧tagg Try.prog 129=some false∧tslice Try.prog 129=none∧tzero Try.prog 129=some [.nilFunc]:=by and_intros<;>kernel_rfl
theorem ft130:tsz Try.prog 130=some 1∧tbytes Try.prog 130=some 8∧tagg Try.prog 130=some false∧tslice Try.prog 130=none∧tzero Try.prog 130=some [.nilFunc]:=by and_intros<;>kernel_rfl
theorem ft131:tsz Try.prog 131=some 1∧tbytes Try.prog 131=some 8∧tagg Try.prog 131=some false∧tslice Try.prog 131=none∧tzero Try.prog 131=some [.pointer none]:=by and_intros<;>kernel_rfl
theorem ft132:tsz Try.prog 132=some 1∧tbytes Try.prog 132=some 8∧tagg Try.prog 132=some false∧tslice Try.prog 132=none∧tzero Try.prog 132=some [.nilFunc]:=by and_intros<;>kernel_rfl
theorem ft133:tsz Try.prog 133=some 1∧tbytes Try.prog 133=some 8∧tagg Try.prog 133=some false∧tslice Try.prog 133=none∧tzero Try.prog 133=some [.nilFunc]:=by and_intros<;>kernel_rfl
theorem ft134:tsz Try.prog 134=some 1∧tbytes Try.prog 134=some 8∧tagg Try.prog 134=some false∧tslice Try.prog 134=none∧tzero Try.prog 134=some [.nilFunc]:=by and_intros<;>kernel_rfl
theorem ft135:tsz Try.prog 135=some 1∧tbytes Try.prog 135=some 8∧tagg Try.prog 135=some false∧tslice Try.prog 135=none∧tzero Try.prog 135=some [.nilFunc]:=by and_intros<;>kernel_rfl
theorem ft136:tsz Try.prog 136=some 1∧tbytes Try.prog 136=some 8∧tagg Try.prog 136=some false∧tslice Try.prog 136=none∧tzero Try.prog 136=some [.nilFunc]:=by and_intros<;>kernel_rfl
theorem ft137:tsz Try.prog 137=some 1∧tbytes Try.prog 137=some 8∧tagg Try.prog 137=some false∧tslice Try.prog 137=none∧tzero Try.prog 137=some [.nilFunc]:=by and_intros<;>kernel_rfl
theorem ft138:tsz Try.prog 138=some 1∧tbytes Try.prog 138=some 8∧tagg Try.prog 138=some false∧tslice Try.prog 138=none∧tzero Try.prog 138=some [.nilFunc]:=by and_intros<;>kernel_rfl
theorem ft139:tsz Try.prog 139=some 1∧tbytes Try.prog 139=some 8∧tagg Try.prog 139=some false∧tslice Try.prog 139=none∧tzero Try.prog 139=some [.nilFunc]:=by and_intros<;>kernel_rfl
theorem ft140:tsz Try.prog 140=some 1∧tbytes Try.prog 140=some 8∧tagg Try.prog 140=some false∧tslice Try.prog 140=none∧tzero Try.prog 140=some [.nilFunc]:=by and_intros<;>kernel_rfl
theorem ft141:tsz Try.prog 141=some 1∧tbytes Try.prog 141=some 8∧tagg Try.prog 141=some false∧tslice Try.prog 141=none∧tzero Try.prog 141=some [.pointer none]:=by and_intros<;>kernel_rfl
theorem ft142:tsz Try.prog 142=some 1∧tbytes Try.prog 142=some 8∧tagg Try.prog 142=some false∧tslice Try.prog 142=none∧tzero Try.prog 142=some [.nilFunc]:=by and_intros<;>kernel_rfl
theorem ft143:tsz Try.prog 143=some 3∧tbytes Try.prog 143=some 72∧tagg Try.prog 143=some true∧tslice Try.prog 143=none∧tzero Try.prog 143=some [.slice none 0 0,.slice none 0 0,.slice none 0 0]∧tstruct Try.prog 143=some [.slice none 0 0,.slice none 0 0,.slice none 0 0]∧tfield Try.prog 143 0=some (0,69)∧tfield Try.prog 143 1=some (2,85):=by and_intros<;>kernel_rfl
theorem ft144:tsz Try.prog 144=some 3∧tbytes Try.prog 144=some 72∧tagg Try.prog 144=some true∧tslice Try.prog 144=none∧tzero Try.prog 144=some [.slice none 0 0,.slice none 0 0,.slice none 0 0]∧tstruct Try.prog 144=some [.slice none 0 0,.slice none 0 0,.slice none 0 0]∧tfield Try.prog 144 0=some (0,69)∧tfield Try.prog 144 1=some (2,85):=by and_intros<;>kernel_rfl
theorem ft145:tsz Try.prog 145=some 1∧tbytes Try.prog 145=some 8∧tagg Try.prog 145=some false∧tslice Try.prog 145=none∧tzero Try.prog 145=some [.nilFunc]:=by and_intros<;>kernel_rfl
theorem ft146:tsz Try.prog 146=some 1∧tbytes Try.prog 146=some 8∧tagg Try.prog 146=some false∧tslice Try.prog 146=none∧tzero Try.prog 146=some [.nilFunc]:=by and_intros<;>kernel_rfl
theorem ft147:tsz Try.prog 147=some 1∧tbytes Try.prog 147=some 8∧tagg Try.prog 147=some false∧tslice Try.prog 147=none∧tzero Try.prog 147=some [.nilFunc]:=by and_intros<;>kernel_rfl
theorem ft148:tsz Try.prog 148=some 1∧tbytes Try.prog 148=some 8∧tagg Try.prog 148=some false∧tslice Try.prog 148=none∧tzero Try.prog 148=some [.pointer none]:=by and_intros<;>kernel_rfl
theorem ft149:tsz Try.prog 149=some 1∧tbytes Try.prog 149=some 0∧tagg Try.prog 149=some false∧tslice Try.prog 149=none:=by and_intros<;>kernel_rfl
theorem ft150:tsz Try.prog 150=some 1∧tbytes Try.prog 150=some 8∧tagg Try.prog 150=some false∧tslice Try.prog 150=none∧tzero Try.prog 150=some [.nilFunc]:=by and_intros<;>kernel_rfl
theorem ft151:tsz Try.prog 151=some 4∧tbytes Try.prog 151=some 80∧tagg Try.prog 151=some true∧tslice Try.prog 151=none∧tzero Try.prog 151=some [.int .i64 0,.slice none 0 0,.slice none 0 0,.slice none 0 0]∧tstruct Try.prog 151=some [.int .i64 0,.slice none 0 0,.slice none 0 0,.slice none 0 0]∧tfield Try.prog 151 0=some (0,3)∧tfield Try.prog 151 1=some (1,22)∧tfield Try.prog 151 2=some (2,69):=by and_intros<;>kernel_rfl
theorem ft152:tsz Try.prog 152=some 4∧tbytes Try.prog 152=some 80∧tagg Try.prog 152=some true∧tslice Try.prog 152=none∧tzero Try.prog 152=some [.int .i64 0,.slice none 0 0,.slice none 0 0,.slice none 0 0]∧tstruct Try.prog 152=some [.int .i64 0,.slice none 0 0,.slice none 0 0,.slice none 0 0]∧tfield Try.prog 152 0=some (0,3)∧tfield Try.prog 152 1=some (1,22)∧tfield Try.prog 152 2=some (2,69):=by and_intros<;>kernel_rfl
theorem ft153:tsz Try.prog 153=some 1∧tbytes Try.prog 153=some 8∧tagg Try.prog 153=some false∧tslice Try.prog 153=none∧tzero Try.prog 153=some [.nilFunc]:=by and_intros<;>kernel_rfl
theorem ft154:tsz Try.prog 154=some 1∧tbytes Try.prog 154=some 8∧tagg Try.prog 154=some false∧tslice Try.prog 154=none∧tzero Try.prog 154=some [.nilFunc]:=by and_intros<;>kernel_rfl
theorem ft155:tsz Try.prog 155=some 1∧tbytes Try.prog 155=some 8∧tagg Try.prog 155=some false∧tslice Try.prog 155=none∧tzero Try.prog 155=some [.nilFunc]:=by and_intros<;>kernel_rfl
theorem ft156:tsz Try.prog 156=some 1∧tbytes Try.prog 156=some 8∧tagg Try.prog 156=some false∧tslice Try.prog 156=none∧tzero Try.prog 156=some [.nilFunc]:=by and_intros<;>kernel_rfl
theorem ft157:tsz Try.prog 157=some 1∧tbytes Try.prog 157=some 8∧tagg Try.prog 157=some false∧tslice Try.prog 157=none∧tzero Try.prog 157=some [.nilFunc]:=by and_intros<;>kernel_rfl
theorem ft158:tsz Try.prog 158=some 5∧tbytes Try.prog 158=some 40∧tagg Try.prog 158=some true∧tslice Try.prog 158=none∧tzero Try.prog 158=some [.int .i64 0,.int .i64 0,.int .i64 0,.int .i64 0,.int .i64 0]∧tstruct Try.prog 158=some [.int .i64 0,.int .i64 0,.int .i64 0,.int .i64 0,.int .i64 0]∧tints Try.prog 158=some 5∧tfield Try.prog 158 0=some (0,3)∧tfield Try.prog 158 1=some (1,3)∧tfield Try.prog 158 2=some (2,3)∧tfield Try.prog 158 3=some (3,3)∧tfield Try.prog 158 4=some (4,3):=by and_intros<;>kernel_rfl
theorem ft159:tsz Try.prog 159=some 1∧tbytes Try.prog 159=some 8∧tagg Try.prog 159=some false∧tslice Try.prog 159=none∧tzero Try.prog 159=some [.nilFunc]:=by and_intros<;>kernel_rfl
theorem ft160:tsz Try.prog 160=some 1∧tbytes Try.prog 160=some 8∧tagg Try.prog 160=some false∧tslice Try.prog 160=none∧tzero Try.prog 160=some [.nilFunc]:=by and_intros<;>kernel_rfl
theorem ft161:tsz Try.prog 161=some 1∧tbytes Try.prog 161=some 8∧tagg Try.prog 161=some false∧tslice Try.prog 161=none∧tzero Try.prog 161=some [.nilFunc]:=by and_intros<;>kernel_rfl
theorem ft162:tsz Try.prog 162=some 1∧tbytes Try.prog 162=some 24∧tagg Try.prog 162=some false∧tslice Try.prog 162=some 164∧tzero Try.prog 162=some [.slice none 0 0]:=by and_intros<;>kernel_rfl
theorem ft163:tsz Try.prog 163=some 3∧tbytes Try.prog 163=some 40∧tagg Try.prog 163=some true∧tslice Try.prog 163=none∧tzero Try.prog 163=some [.int .i64 0,.int .i64 0,.slice none 0 0]∧tstruct Try.prog 163=some [.int .i64 0,.int .i64 0,.slice none 0 0]∧tfield Try.prog 163 0=some (0,3)∧tfield Try.prog 163 1=some (1,3)∧tfield Try.prog 163 2=some (2,162):=by and_intros<;>kernel_rfl
theorem ft164:tsz Try.prog 164=some 3∧tbytes Try.prog 164=some 40∧tagg Try.prog 164=some true∧tslice Try.prog 164=none∧tzero Try.prog 164=some [.int .i64 0,.int .i64 0,.slice none 0 0]∧tstruct Try.prog 164=some [.int .i64 0,.int .i64 0,.slice none 0 0]∧tfield Try.prog 164 0=some (0,3)∧tfield Try.prog 164 1=some (1,3)∧tfield Try.prog 164 2=some (2,162):=by and_intros<;>kernel_rfl
theorem ft165:tsz Try.prog 165=some 11∧tbytes Try.prog 165=some 152∧tagg Try.prog 165=some true∧tslice Try.prog 165=none∧tzero Try.prog 165=some [.int .i64 0,.int .i64 0,.int .i64 0,.int .i64 0,.slice none 0 0,.int .i64 0,.int .i64 0,.slice none 0 0,.int .i64 0,.slice none 0 0,.slice none 0 0]∧tstruct Try.prog 165=some [.int .i64 0,.int .i64 0,.int .i64 0,.int .i64 0,.slice none 0 0,.int .i64 0,.int .i64 0,.slice none 0 0,.int .i64 0,.slice none 0 0,.slice none 0 0]∧tfield Try.prog 165 0=some (0,3)∧tfield Try.prog 165 1=some (1,3)∧tfield Try.prog 165 2=some (2,164)∧tfield Try.prog 165 3=some (5,164)∧tfield Try.prog 165 4=some (8,3)∧tfield Try.prog 165 5=some (9,40)∧tfield Try.prog 165 6=some (10,40):=by and_intros<;>kernel_rfl
theorem ft166:tsz Try.prog 166=some 11∧tbytes Try.prog 166=some 152∧tagg Try.prog 166=some true∧tslice Try.prog 166=none∧tzero Try.prog 166=some [.int .i64 0,.int .i64 0,.int .i64 0,.int .i64 0,.slice none 0 0,.int .i64 0,.int .i64 0,.slice none 0 0,.int .i64 0,.slice none 0 0,.slice none 0 0]∧tstruct Try.prog 166=some [.int .i64 0,.int .i64 0,.int .i64 0,.int .i64 0,.slice none 0 0,.int .i64 0,.int .i64 0,.slice none 0 0,.int .i64 0,.slice none 0 0,.slice none 0 0]∧tfield Try.prog 166 0=some (0,3)∧tfield Try.prog 166 1=some (1,3)∧tfield Try.prog 166 2=some (2,164)∧tfield Try.prog 166 3=some (5,164)∧tfield Try.prog 166 4=some (8,3)∧tfield Try.prog 166 5=some (9,40)∧tfield Try.prog 166 6=some (10,40):=by and_intros<;>kernel_rfl
theorem ft167:tsz Try.prog 167=some 1∧tbytes Try.prog 167=some 8∧tagg Try.prog 167=some false∧tslice Try.prog 167=none∧tzero Try.prog 167=some [.nilFunc]:=by and_intros<;>kernel_rfl
theorem ft168:tsz Try.prog 168=some 1∧tbytes Try.prog 168=some 24∧tagg Try.prog 168=some false∧tslice Try.prog 168=some 170∧tzero Try.prog 168=some [.slice none 0 0]:=by and_intros<;>kernel_rfl
theorem ft169:tsz Try.prog 169=some 3∧tbytes Try.prog 169=some 40∧tagg Try.prog 169=some true∧tslice Try.prog 169=none∧tzero Try.prog 169=some [.int .i64 0,.int .i64 0,.slice none 0 0]∧tstruct Try.prog 169=some [.int .i64 0,.int .i64 0,.slice none 0 0]∧tfield Try.prog 169 0=some (0,3)∧tfield Try.prog 169 1=some (1,3)∧tfield Try.prog 169 2=some (2,168):=by and_intros<;>kernel_rfl
theorem ft170:tsz Try.prog 170=some 3∧tbytes Try.prog 170=some 40∧tagg Try.prog 170=some true∧tslice Try.prog 170=none∧tzero Try.prog 170=some [.int .i64 0,.int .i64 0,.slice none 0 0]∧tstruct Try.prog 170=some [.int .i64 0,.int .i64 0,.slice none 0 0]∧tfield Try.prog 170 0=some (0,3)∧tfield Try.prog 170 1=some (1,3)∧tfield Try.prog 170 2=some (2,168):=by and_intros<;>kernel_rfl
theorem ft171:tsz Try.prog 171=some 11∧tbytes Try.prog 171=some 152∧tagg Try.prog 171=some true∧tslice Try.prog 171=none∧tzero Try.prog 171=some [.int .i64 0,.int .i64 0,.int .i64 0,.int .i64 0,.slice none 0 0,.int .i64 0,.int .i64 0,.slice none 0 0,.int .i64 0,.slice none 0 0,.slice none 0 0]∧tstruct Try.prog 171=some [.int .i64 0,.int .i64 0,.int .i64 0,.int .i64 0,.slice none 0 0,.int .i64 0,.int .i64 0,.slice none 0 0,.int .i64 0,.slice none 0 0,.slice none 0 0]∧tfield Try.prog 171 0=some (0,3)∧tfield Try.prog 171 1=some (1,3)∧tfield Try.prog 171 2=some (2,170)∧tfield Try.prog 171 3=some (5,170)∧tfield Try.prog 171 4=some (8,3)∧tfield Try.prog 171 5=some (9,46)∧tfield Try.prog 171 6=some (10,46):=by and_intros<;>kernel_rfl
theorem ft172:tsz Try.prog 172=some 11∧tbytes Try.prog 172=some 152∧tagg Try.prog 172=some true∧tslice Try.prog 172=none∧tzero Try.prog 172=some [.int .i64 0,.int .i64 0,.int .i64 0,.int .i64 0,.slice none 0 0,.int .i64 0,.int .i64 0,.slice none 0 0,.int .i64 0,.slice none 0 0,.slice none 0 0]∧tstruct Try.prog 172=some [.int .i64 0,.int .i64 0,.int .i64 0,.int .i64 0,.slice none 0 0,.int .i64 0,.int .i64 0,.slice none 0 0,.int .i64 0,.slice none 0 0,.slice none 0 0]∧tfield Try.prog 172 0=some (0,3)∧tfield Try.prog 172 1=some (1,3)∧tfield Try.prog 172 2=some (2,170)∧tfield Try.prog 172 3=some (5,170)∧tfield Try.prog 172 4=some (8,3)∧tfield Try.prog 172 5=some (9,46)∧tfield Try.prog 172 6=some (10,46):=by and_intros<;>kernel_rfl
theorem ft173:tsz Try.prog 173=some 1∧tbytes Try.prog 173=some 8∧tagg Try.prog 173=some false∧tslice Try.prog 173=none∧tzero Try.prog 173=some [.nilFunc]:=by and_intros<;>kernel_rfl
theorem ft174:tsz Try.prog 174=some 1∧tbytes Try.prog 174=some 8∧tagg Try.prog 174=some false∧tslice Try.prog 174=none∧tzero Try.prog 174=some [.nilFunc]:=by and_intros<;>kernel_rfl
theorem ft175:tsz Try.prog 175=some 1∧tbytes Try.prog 175=some 8∧tagg Try.prog 175=some false∧tslice Try.prog 175=none∧tzero Try.prog 175=some [.nilFunc]:=by and_intros<;>kernel_rfl
theorem ft176:tsz Try.prog 176=some 1∧tbytes Try.prog 176=some 8∧tagg Try.prog 176=some false∧tslice Try.prog 176=none∧tzero Try.prog 176=some [.nilFunc]:=by and_intros<;>kernel_rfl
theorem ft177:tsz Try.prog 177=some 1∧tbytes Try.prog 177=some 8∧tagg Try.prog 177=some false∧tslice Try.prog 177=none∧tzero Try.prog 177=some [.pointer none]:=by and_intros<;>kernel_rfl
theorem ft178:tsz Try.prog 178=some 1∧tbytes Try.prog 178=some 8∧tagg Try.prog 178=some false∧tslice Try.prog 178=none∧tzero Try.prog 178=some [.nilFunc]:=by and_intros<;>kernel_rfl
theorem ft179:tsz Try.prog 179=some 1∧tbytes Try.prog 179=some 8∧tagg Try.prog 179=some false∧tslice Try.prog 179=none∧tzero Try.prog 179=some [.nilFunc]:=by and_intros<;>kernel_rfl
theorem ft180:tsz Try.prog 180=some 1∧tbytes Try.prog 180=some 8∧tagg Try.prog 180=some false∧tslice Try.prog 180=none∧tzero Try.prog 180=some [.nilFunc]:=by and_intros<;>kernel_rfl
theorem ft181:tsz Try.prog 181=some 1∧tbytes Try.prog 181=some 8∧tagg Try.prog 181=some false∧tslice Try.prog 181=none∧tzero Try.prog 181=some [.nilFunc]:=by and_intros<;>kernel_rfl
theorem ft182:tsz Try.prog 182=some 1∧tbytes Try.prog 182=some 8∧tagg Try.prog 182=some false∧tslice Try.prog 182=none∧tzero Try.prog 182=some [.nilFunc]:=by and_intros<;>kernel_rfl
theorem ft183:tsz Try.prog 183=some 1∧tbytes Try.prog 183=some 8∧tagg Try.prog 183=some false∧tslice Try.prog 183=none∧tzero Try.prog 183=some [.nilFunc]:=by and_intros<;>kernel_rfl
theorem ft184:tsz Try.prog 184=some 1∧tbytes Try.prog 184=some 8∧tagg Try.prog 184=some false∧tslice Try.prog 184=none∧tzero Try.prog 184=some [.nilFunc]:=by and_intros<;>kernel_rfl
theorem ft185:tsz Try.prog 185=some 1∧tbytes Try.prog 185=some 8∧tagg Try.prog 185=some false∧tslice Try.prog 185=none∧tzero Try.prog 185=some [.nilFunc]:=by and_intros<;>kernel_rfl
theorem ft186:tsz Try.prog 186=some 2∧tbytes Try.prog 186=some 32∧tagg Try.prog 186=some true∧tslice Try.prog 186=none∧tzero Try.prog 186=some [.slice none 0 0,.int .i64 0]∧tstruct Try.prog 186=some [.slice none 0 0,.int .i64 0]∧tfield Try.prog 186 0=some (0,76)∧tfield Try.prog 186 1=some (1,3):=by and_intros<;>kernel_rfl
theorem ft187:tsz Try.prog 187=some 2∧tbytes Try.prog 187=some 32∧tagg Try.prog 187=some true∧tslice Try.prog 187=none∧tzero Try.prog 187=some [.slice none 0 0,.int .i64 0]∧tstruct Try.prog 187=some [.slice none 0 0,.int .i64 0]∧tfield Try.prog 187 0=some (0,76)∧tfield Try.prog 187 1=some (1,3):=by and_intros<;>kernel_rfl
theorem ft188:tsz Try.prog 188=some 1∧tbytes Try.prog 188=some 8∧tagg Try.prog 188=some false∧tslice Try.prog 188=none∧tzero Try.prog 188=some [.nilFunc]:=by and_intros<;>kernel_rfl
theorem ft189:tsz Try.prog 189=some 1∧tbytes Try.prog 189=some 0∧tagg Try.prog 189=some false∧tslice Try.prog 189=none:=by and_intros<;>kernel_rfl
theorem ft190:tsz Try.prog 190=some 1∧tbytes Try.prog 190=some 8∧tagg Try.prog 190=some false∧tslice Try.prog 190=none∧tzero Try.prog 190=some [.nilFunc]:=by and_intros<;>kernel_rfl
theorem ft191:tsz Try.prog 191=some 1∧tbytes Try.prog 191=some 8∧tagg Try.prog 191=some false∧tslice Try.prog 191=none∧tzero Try.prog 191=some [.nilFunc]:=by and_intros<;>kernel_rfl
theorem ft192:tsz Try.prog 192=some 1∧tbytes Try.prog 192=some 8∧tagg Try.prog 192=some false∧tslice Try.prog 192=none∧tzero Try.prog 192=some [.nilFunc]:=by and_intros<;>kernel_rfl
theorem ft193:tsz Try.prog 193=some 1∧tbytes Try.prog 193=some 0∧tagg Try.prog 193=some false∧tslice Try.prog 193=none:=by and_intros<;>kernel_rfl
theorem ft194:tsz Try.prog 194=some 1∧tbytes Try.prog 194=some 8∧tagg Try.prog 194=some false∧tslice Try.prog 194=none∧tzero Try.prog 194=some [.nilFunc]:=by and_intros<;>kernel_rfl
theorem ft195:tsz Try.prog 195=some 1∧tbytes Try.prog 195=some 8∧tagg Try.prog 195=some false∧tslice Try.prog 195=none∧tzero Try.prog 195=some [.nilFunc]:=by and_intros<;>kernel_rfl
theorem ft196:tsz Try.prog 196=some 1∧tbytes Try.prog 196=some 8∧tagg Try.prog 196=some false∧tslice Try.prog 196=none∧tzero Try.prog 196=some [.nilFunc]:=by and_intros<;>kernel_rfl
theorem ft197:tsz Try.prog 197=some 1∧tbytes Try.prog 197=some 8∧tagg Try.prog 197=some false∧tslice Try.prog 197=none∧tzero Try.prog 197=some [.nilFunc]:=by and_intros<;>kernel_rfl
theorem ft198:tsz Try.prog 198=some 1∧tbytes Try.prog 198=some 0∧tagg Try.prog 198=some false∧tslice Try.prog 198=none:=by and_intros<;>kernel_rfl
theorem ft199:tsz Try.prog 199=some 1∧tbytes Try.prog 199=some 8∧tagg Try.prog 199=some false∧tslice Try.prog 199=none∧tzero Try.prog 199=some [.nilFunc]:=by and_intros<;>kernel_rfl
theorem ft200:tsz Try.prog 200=some 1∧tbytes Try.prog 200=some 8∧tagg Try.prog 200=some false∧tslice Try.prog 200=none∧tzero Try.prog 200=some [.nilFunc]:=by and_intros<;>kernel_rfl
theorem ft201:tsz Try.prog 201=some 1∧tbytes Try.prog 201=some 8∧tagg Try.prog 201=some false∧tslice Try.prog 201=none∧tzero Try.prog 201=some [.nilFunc]:=by and_intros<;>kernel_rfl
theorem ft202:tsz Try.prog 202=some 1∧tbytes Try.prog 202=some 8∧tagg Try.prog 202=some false∧tslice Try.prog 202=none∧tzero Try.prog 202=some [.nilFunc]:=by and_intros<;>kernel_rfl
theorem ft203:tsz Try.prog 203=some 1∧tbytes Try.prog 203=some 0∧tagg Try.prog 203=some false∧tslice Try.prog 203=none:=by and_intros<;>kernel_rfl
theorem ft204:tsz Try.prog 204=some 1∧tbytes Try.prog 204=some 8∧tagg Try.prog 204=some false∧tslice Try.prog 204=none∧tzero Try.prog 204=some [.nilFunc]:=by and_intros<;>kernel_rfl
theorem ft205:tsz Try.prog 205=some 1∧tbytes Try.prog 205=some 8∧tagg Try.prog 205=some false∧tslice Try.prog 205=none∧tzero Try.prog 205=some [.nilFunc]:=by and_intros<;>kernel_rfl
theorem ft206:tsz Try.prog 206=some 1∧tbytes Try.prog 206=some 8∧tagg Try.prog 206=some false∧tslice Try.prog 206=none∧tzero Try.prog 206=some [.nilFunc]:=by and_intros<;>kernel_rfl
theorem ft207:tsz Try.prog 207=some 1∧tbytes Try.prog 207=some 8∧tagg Try.prog 207=some false∧tslice Try.prog 207=none∧tzero Try.prog 207=some [.nilFunc]:=by and_intros<;>kernel_rfl
theorem ft208:tsz Try.prog 208=some 1∧tbytes Try.prog 208=some 8∧tagg Try.prog 208=some false∧tslice Try.prog 208=none∧tzero Try.prog 208=some [.nilFunc]:=by and_intros<;>kernel_rfl
theorem ft209:tsz Try.prog 209=some 1∧tbytes Try.prog 209=some 8∧tagg Try.prog 209=some false∧tslice Try.prog 209=none∧tzero Try.prog 209=some [.nilFunc]:=by and_intros<;>kernel_rfl
theorem ft210:tsz Try.prog 210=some 1∧tbytes Try.prog 210=some 8∧tagg Try.prog 210=some false∧tslice Try.prog 210=none∧tzero Try.prog 210=some [.nilFunc]:=by and_intros<;>kernel_rfl
theorem ft211:tsz Try.prog 211=some 1∧tbytes Try.prog 211=some 8∧tagg Try.prog 211=some false∧tslice Try.prog 211=none∧tzero Try.prog 211=some [.nilFunc]:=by and_intros<;>kernel_rfl
theorem ft212:tsz Try.prog 212=some 1∧tbytes Try.prog 212=some 8∧tagg Try.prog 212=some false∧tslice Try.prog 212=none∧tzero Try.prog 212=some [.nilFunc]:=by and_intros<;>kernel_rfl
theorem ft213:tsz Try.prog 213=some 1∧tbytes Try.prog 213=some 8∧tagg Try.prog 213=some false∧tslice Try.prog 213=none∧tzero Try.prog 213=some [.nilFunc]:=by and_intros<;>kernel_rfl
theorem ft214:tsz Try.prog 214=some 3∧tbytes Try.prog 214=some 56∧tagg Try.prog 214=some true∧tslice Try.prog 214=none∧tzero Try.prog 214=some [.slice none 0 0,.slice none 0 0,.int .i64 0]∧tstruct Try.prog 214=some [.slice none 0 0,.slice none 0 0,.int .i64 0]∧tfield Try.prog 214 0=some (0,31)∧tfield Try.prog 214 1=some (1,22)∧tfield Try.prog 214 2=some (2,3):=by and_intros<;>kernel_rfl
theorem ft216:tsz Try.prog 216=some 1∧tbytes Try.prog 216=some 0∧tagg Try.prog 216=some false∧tslice Try.prog 216=none:=by and_intros<;>kernel_rfl
theorem ft217:tsz Try.prog 217=some 1∧tbytes Try.prog 217=some 8∧tagg Try.prog 217=some false∧tslice Try.prog 217=none∧tzero Try.prog 217=some [.nilFunc]:=by and_intros<;>kernel_rfl
theorem ft218:tsz Try.prog 218=some 1∧tbytes Try.prog 218=some 8∧tagg Try.prog 218=some false∧tslice Try.prog 218=none∧tzero Try.prog 218=some [.nilFunc]:=by and_intros<;>kernel_rfl
theorem ft219:tsz Try.prog 219=some 1∧tbytes Try.prog 219=some 8∧tagg Try.prog 219=some false∧tslice Try.prog 219=none∧tzero Try.prog 219=some [.nilFunc]:=by and_intros<;>kernel_rfl
theorem ft220:tsz Try.prog 220=some 1∧tbytes Try.prog 220=some 8∧tagg Try.prog 220=some false∧tslice Try.prog 220=none∧tzero Try.prog 220=some [.nilFunc]:=by and_intros<;>kernel_rfl
theorem ft221:tsz Try.prog 221=some 1∧tbytes Try.prog 221=some 8∧tagg Try.prog 221=some false∧tslice Try.prog 221=none∧tzero Try.prog 221=some [.nilFunc]:=by and_intros<;>kernel_rfl
theorem ft222:tsz Try.prog 222=some 1∧tbytes Try.prog 222=some 8∧tagg Try.prog 222=some false∧tslice Try.prog 222=none∧tzero Try.prog 222=some [.nilFunc]:=by and_intros<;>kernel_rfl
theorem ft223:tsz Try.prog 223=some 1∧tbytes Try.prog 223=some 8∧tagg Try.prog 223=some false∧tslice Try.prog 223=none∧tzero Try.prog 223=some [.nilFunc]:=by and_intros<;>kernel_rfl
theorem ft224:tsz Try.prog 224=some 1∧tbytes Try.prog 224=some 8∧tagg Try.prog 224=some false∧tslice Try.prog 224=none∧tzero Try.prog 224=some [.nilFunc]:=by and_intros<;>kernel_rfl
theorem ft225:tsz Try.prog 225=some 1∧tbytes Try.prog 225=some 8∧tagg Try.prog 225=some false∧tslice Try.prog 225=none∧tzero Try.prog 225=some [.nilFunc]:=by and_intros<;>kernel_rfl
theorem ft226:tsz Try.prog 226=some 1∧tbytes Try.prog 226=some 8∧tagg Try.prog 226=some false∧tslice Try.prog 226=none∧tzero Try.prog 226=some [.nilFunc]:=by and_intros<;>kernel_rfl
theorem ft227:tsz Try.prog 227=some 1∧tbytes Try.prog 227=some 8∧tagg Try.prog 227=some false∧tslice Try.prog 227=none∧tzero Try.prog 227=some [.nilFunc]:=by and_intros<;>kernel_rfl
theorem ft228:tsz Try.prog 228=some 1∧tbytes Try.prog 228=some 8∧tagg Try.prog 228=some false∧tslice Try.prog 228=none∧tzero Try.prog 228=some [.nilFunc]:=by and_intros<;>kernel_rfl
theorem ft230:tsz Try.prog 230=some 1∧tbytes Try.prog 230=some 8∧tagg Try.prog 230=some false∧tslice Try.prog 230=none∧tzero Try.prog 230=some [.nilFunc]:=by and_intros<;>kernel_rfl
theorem ft231:tsz Try.prog 231=some 1∧tbytes Try.prog 231=some 8∧tagg Try.prog 231=some false∧tslice Try.prog 231=none∧tzero Try.prog 231=some [.nilFunc]:=by and_intros<;>kernel_rfl
theorem ft232:tsz Try.prog 232=some 1∧tbytes Try.prog 232=some 8∧tagg Try.prog 232=some false∧tslice Try.prog 232=none∧tzero Try.prog 232=some [.nilFunc]:=by and_intros<;>kernel_rfl
theorem ft233:tsz Try.prog 233=some 1∧tbytes Try.prog 233=some 8∧tagg Try.prog 233=some false∧tslice Try.prog 233=none∧tzero Try.prog 233=some [.nilFunc]:=by and_intros<;>kernel_rfl
theorem ft234:tsz Try.prog 234=some 1∧tbytes Try.prog 234=some 8∧tagg Try.prog 234=some false∧tslice Try.prog 234=none∧tzero Try.prog 234=some [.nilFunc]:=by and_intros<;>kernel_rfl
theorem ft235:tsz Try.prog 235=some 1∧tbytes Try.prog 235=some 8∧tagg Try.prog 235=some false∧tslice Try.prog 235=none∧tzero Try.prog 235=some [.nilFunc]:=by and_intros<;>kernel_rfl
theorem ft236:tsz Try.prog 236=some 1∧tbytes Try.prog 236=some 8∧tagg Try.prog 236=some false∧tslice Try.prog 236=none∧tzero Try.prog 236=some [.nilFunc]:=by and_intros<;>kernel_rfl
theorem ft237:tsz Try.prog 237=some 1∧tbytes Try.prog 237=some 8∧tagg Try.prog 237=some false∧tslice Try.prog 237=none∧tzero Try.prog 237=some [.nilFunc]:=by and_intros<;>kernel_rfl
theorem ft238:tsz Try.prog 238=some 1∧tbytes Try.prog 238=some 8∧tagg Try.prog 238=some false∧tslice Try.prog 238=none∧tzero Try.prog 238=some [.nilFunc]:=by and_intros<;>kernel_rfl
theorem ft239:tsz Try.prog 239=some 1∧tbytes Try.prog 239=some 8∧tagg Try.prog 239=some false∧tslice Try.prog 239=none∧tzero Try.prog 239=some [.nilFunc]:=by and_intros<;>kernel_rfl
theorem ft240:tsz Try.prog 240=some 1∧tbytes Try.prog 240=some 24∧tagg Try.prog 240=some false∧tslice Try.prog 240=some 9∧tzero Try.prog 240=some [.slice none 0 0]:=by and_intros<;>kernel_rfl
theorem ft255:tsz Try.prog 255=some 4∧tbytes Try.prog 255=some 40∧tagg Try.prog 255=some true∧tslice Try.prog 255=none∧tzero Try.prog 255=some [.pointer none,.pointer none,.pointer none,.string .empty]∧tstruct Try.prog 255=some [.pointer none,.pointer none,.pointer none,.string .empty]∧tfield Try.prog 255 0=some (0,17)∧tfield Try.prog 255 1=some (1,17)∧tfield Try.prog 255 2=some (2,17)∧tfield Try.prog 255 3=some (3,9):=by and_intros<;>kernel_rfl
theorem ft256:tsz Try.prog 256=some 0∧tbytes Try.prog 256=some 0∧tagg Try.prog 256=some true∧tslice Try.prog 256=none∧tzero Try.prog 256=some []:=by and_intros<;>kernel_rfl
theorem ft258:tsz Try.prog 258=some 0∧tbytes Try.prog 258=some 0∧tagg Try.prog 258=some true∧tslice Try.prog 258=none∧tzero Try.prog 258=some []∧tstruct Try.prog 258=some []:=by and_intros<;>kernel_rfl
theorem ft267:tsz Try.prog 267=some 11∧tbytes Try.prog 267=some 48∧tagg Try.prog 267=some true∧tslice Try.prog 267=none∧tzero Try.prog 267=some [.int .u64 0,.int .u64 0,.int .u32 0,.int .u8 0,.int .u8 0,.int .u8 0,.int .u8 0,.nilFunc,.pointer none,.int .i32 0,.int .i32 0]∧tstruct Try.prog 267=some [.int .u64 0,.int .u64 0,.int .u32 0,.int .u8 0,.int .u8 0,.int .u8 0,.int .u8 0,.nilFunc,.pointer none,.int .i32 0,.int .i32 0]∧tfield Try.prog 267 0=some (0,12)∧tfield Try.prog 267 1=some (1,12)∧tfield Try.prog 267 2=some (2,259)∧tfield Try.prog 267 3=some (3,260)∧tfield Try.prog 267 4=some (4,5)∧tfield Try.prog 267 5=some (5,5)∧tfield Try.prog 267 6=some (6,261)∧tfield Try.prog 267 7=some (7,262)∧tfield Try.prog 267 8=some (8,263)∧tfield Try.prog 267 9=some (9,264)∧tfield Try.prog 267 10=some (10,265):=by and_intros<;>kernel_rfl
theorem ok3:fnOK Try.prog 3=true:=by kernel_rfl
theorem ok14:fnOK Try.prog 14=true:=by kernel_rfl
theorem ok15:fnOK Try.prog 15=true:=by kernel_rfl
theorem ok16:fnOK Try.prog 16=true:=by kernel_rfl
theorem ok17:fnOK Try.prog 17=true:=by kernel_rfl
theorem ok18:fnOK Try.prog 18=true:=by kernel_rfl
theorem ok19:fnOK Try.prog 19=true:=by kernel_rfl
theorem ok20:fnOK Try.prog 20=true:=by kernel_rfl
theorem ok21:fnOK Try.prog 21=true:=by kernel_rfl
theorem ok44:fnOK Try.prog 44=true:=by kernel_rfl
theorem ok46:fnOK Try.prog 46=true:=by kernel_rfl
theorem ok48:fnOK Try.prog 48=true:=by kernel_rfl
theorem ok49:fnOK Try.prog 49=true:=by kernel_rfl
theorem ok58:fnOK Try.prog 58=true:=by kernel_rfl
theorem ok59:fnOK Try.prog 59=true:=by kernel_rfl
theorem ok66:fnOK Try.prog 66=true:=by kernel_rfl
theorem ok67:fnOK Try.prog 67=true:=by kernel_rfl
theorem ok68:fnOK Try.prog 68=true:=by kernel_rfl
theorem ok69:fnOK Try.prog 69=true:=by kernel_rfl
theorem ok70:fnOK Try.prog 70=true:=by kernel_rfl
theorem ok71:fnOK Try.prog 71=true:=by kernel_rfl
theorem ok72:fnOK Try.prog 72=true:=by kernel_rfl
theorem ok73:fnOK Try.prog 73=true:=by kernel_rfl
theorem ok74:fnOK Try.prog 74=true:=by kernel_rfl
theorem ok75:fnOK Try.prog 75=true:=by kernel_rfl
theorem ok76:fnOK Try.prog 76=true:=by kernel_rfl
theorem ok77:fnOK Try.prog 77=true:=by kernel_rfl
theorem ok78:fnOK Try.prog 78=true:=by kernel_rfl
theorem ok79:fnOK Try.prog 79=true:=by kernel_rfl
theorem ok96:fnOK Try.prog 96=true:=by kernel_rfl
theorem ok98:fnOK Try.prog 98=true:=by kernel_rfl
theorem ok103:fnOK Try.prog 103=true:=by kernel_rfl
theorem ok104:fnOK Try.prog 104=true:=by kernel_rfl
theorem ok105:fnOK Try.prog 105=true:=by kernel_rfl
theorem ok113:fnOK Try.prog 113=true:=by kernel_rfl
theorem ok116:fnOK Try.prog 116=true:=by kernel_rfl
theorem ok119:fnOK Try.prog 119=true:=by kernel_rfl
theorem ok120:fnOK Try.prog 120=true:=by kernel_rfl
theorem ok124:fnOK Try.prog 124=true:=by kernel_rfl
theorem ok125:fnOK Try.prog 125=true:=by kernel_rfl
theorem ok128:fnOK Try.prog 128=true:=by kernel_rfl
theorem ok129:fnOK Try.prog 129=true:=by kernel_rfl
theorem ok130:fnOK Try.prog 130=true:=by kernel_rfl
theorem ok131:fnOK Try.prog 131=true:=by kernel_rfl
theorem ok132:fnOK Try.prog 132=true:=by kernel_rfl
theorem ok133:fnOK Try.prog 133=true:=by kernel_rfl
theorem ok134:fnOK Try.prog 134=true:=by kernel_rfl
theorem ok135:fnOK Try.prog 135=true:=by kernel_rfl
theorem ok136:fnOK Try.prog 136=true:=by kernel_rfl
theorem ok139:fnOK Try.prog 139=true:=by kernel_rfl
theorem ok145:fnOK Try.prog 145=true:=by kernel_rfl
theorem ok156:fnOK Try.prog 156=true:=by kernel_rfl
theorem ok158:fnOK Try.prog 158=true:=by kernel_rfl
theorem ok159:fnOK Try.prog 159=true:=by kernel_rfl
theorem ok165:fnOK Try.prog 165=true:=by kernel_rfl
theorem ok166:fnOK Try.prog 166=true:=by kernel_rfl
theorem ok167:fnOK Try.prog 167=true:=by kernel_rfl
theorem ok168:fnOK Try.prog 168=true:=by kernel_rfl
theorem ok171:fnOK Try.prog 171=true:=by kernel_rfl
theorem ok172:fnOK Try.prog 172=true:=by kernel_rfl
theorem ok173:fnOK Try.prog 173=true:=by kernel_rfl
theorem ok174:fnOK Try.prog 174=true:=by kernel_rfl
theorem ok175:fnOK Try.prog 175=true:=by kernel_rfl
theorem ok176:fnOK Try.prog 176=true:=by kernel_rfl
theorem ok181:fnOK Try.prog 181=true:=by kernel_rfl
theorem ok189:fnOK Try.prog 189=true:=by kernel_rfl
theorem ok190:fnOK Try.prog 190=true:=by kernel_rfl
theorem ok191:fnOK Try.prog 191=true:=by kernel_rfl
theorem ok192:fnOK Try.prog 192=true:=by kernel_rfl
theorem ok193:fnOK Try.prog 193=true:=by kernel_rfl
theorem ok194:fnOK Try.prog 194=true:=by kernel_rfl
theorem ok195:fnOK Try.prog 195=true:=by kernel_rfl
theorem ok196:fnOK Try.prog 196=true:=by kernel_rfl
theorem ok197:fnOK Try.prog 197=true:=by kernel_rfl
theorem ok198:fnOK Try.prog 198=true:=by kernel_rfl
theorem ok199:fnOK Try.prog 199=true:=by kernel_rfl
theorem ok200:fnOK Try.prog 200=true:=by kernel_rfl
theorem ok207:fnOK Try.prog 207=true:=by kernel_rfl
theorem ok208:fnOK Try.prog 208=true:=by kernel_rfl
theorem ok211:fnOK Try.prog 211=true:=by kernel_rfl
theorem ok216:fnOK Try.prog 216=true:=by kernel_rfl
theorem ok217:fnOK Try.prog 217=true:=by kernel_rfl
theorem ok218:fnOK Try.prog 218=true:=by kernel_rfl
theorem ok219:fnOK Try.prog 219=true:=by kernel_rfl
theorem ok220:fnOK Try.prog 220=true:=by kernel_rfl
theorem ok225:fnOK Try.prog 225=true:=by kernel_rfl
theorem ok230:fnOK Try.prog 230=true:=by kernel_rfl
theorem ok231:fnOK Try.prog 231=true:=by kernel_rfl
theorem ok232:fnOK Try.prog 232=true:=by kernel_rfl
theorem ok233:fnOK Try.prog 233=true:=by kernel_rfl
attribute [go_sem] ft0 ft1 ft2 ft3 ft4 ft5 ft6 ft7 ft8 ft9 ft10 ft11 ft12 ft13
 ft14 ft15 ft16 ft17 ft18 ft19 ft20 ft21 ft22 ft23 ft24 ft25 ft26 ft27
 ft28 ft29 ft30 ft31 ft32 ft33 ft34 ft35 ft36 ft37 ft38 ft39 ft40 ft41
 ft42 ft43 ft44 ft45 ft46 ft47 ft48 ft49 ft50 ft51 ft52 ft53 ft54 ft55
 ft56 ft57 ft58 ft59 ft60 ft61 ft62 ft63 ft64 ft65 ft66 ft67 ft68 ft69
 ft70 ft71 ft72 ft73 ft74 ft75 ft76 ft77 ft78 ft79 ft80 ft81 ft82 ft83
 ft84 ft85 ft86 ft87 ft88 ft89 ft90 ft91 ft92 ft93 ft94 ft95 ft96 ft97
 ft98 ft99 ft100 ft101 ft102 ft103 ft104 ft105 ft106 ft107 ft108 ft109 ft110 ft111
 ft112 ft113 ft114 ft115 ft116 ft117 ft118 ft119 ft120 ft121 ft122 ft123 ft124 ft125
 ft126 ft127 ft128 ft129 ft130 ft131 ft132 ft133 ft134 ft135 ft136 ft137 ft138 ft139
 ft140 ft141 ft142 ft143 ft144 ft145 ft146 ft147 ft148 ft149 ft150 ft151 ft152 ft153
 ft154 ft155 ft156 ft157 ft158 ft159 ft160 ft161 ft162 ft163 ft164 ft165 ft166 ft167
 ft168 ft169 ft170 ft171 ft172 ft173 ft174 ft175 ft176 ft177 ft178 ft179 ft180 ft181
 ft182 ft183 ft184 ft185 ft186 ft187 ft188 ft189 ft190 ft191 ft192 ft193 ft194 ft195
 ft196 ft197 ft198 ft199 ft200 ft201 ft202 ft203 ft204 ft205 ft206 ft207 ft208 ft209
 ft210 ft211 ft212 ft213 ft214 ft216 ft217 ft218 ft219 ft220 ft221 ft222 ft223 ft224
 ft225 ft226 ft227 ft228 ft230 ft231 ft232 ft233 ft234 ft235 ft236 ft237 ft238 ft239
 ft240 ft255 ft256 ft258 ft267 Try.f3 Try.f14 Try.f15 Try.f16 Try.f17 Try.f18 Try.f19 Try.f20 Try.f21
 Try.f44 Try.f46 Try.f48 Try.f49 Try.f58 Try.f59 Try.f66 Try.f67 Try.f68 Try.f69 Try.f70 Try.f71 Try.f72 Try.f73
 Try.f74 Try.f75 Try.f76 Try.f77 Try.f78 Try.f79 Try.f96 Try.f98 Try.f103 Try.f104 Try.f105 Try.f113 Try.f116 Try.f119
 Try.f120 Try.f124 Try.f125 Try.f128 Try.f129 Try.f130 Try.f131 Try.f132 Try.f133 Try.f134 Try.f135 Try.f136 Try.f139 Try.f145
 Try.f156 Try.f158 Try.f159 Try.f165 Try.f166 Try.f167 Try.f168 Try.f171 Try.f172 Try.f173 Try.f174 Try.f175 Try.f176 Try.f181
 Try.f189 Try.f190 Try.f191 Try.f192 Try.f193 Try.f194 Try.f195 Try.f196 Try.f197 Try.f198 Try.f199 Try.f200 Try.f207 Try.f208
 Try.f211 Try.f216 Try.f217 Try.f218 Try.f219 Try.f220 Try.f225 Try.f230 Try.f231 Try.f232 Try.f233
end Go.Proofs.Ytddanjifhdaebaa.CtF
