/- Contracts of functions of the program, one behind the other, as plain data: what each call returns and which blocks it leaves. -/
import Derived.Test.YtbknljofedfpjaaChecked
import Derived.KernelRfl
import Derived.Test.YtbknljofedfpjaaXAi
set_option linter.unusedVariables false
set_option linter.unusedSimpArgs false
set_option linter.unusedSectionVars false
set_option maxHeartbeats 16000000
set_option maxRecDepth 100000
namespace Go.Proofs.Ytbknljofedfpjaa.CtF
open Go Go.CT
theorem mo:Try.prog.follows .mixedOrders=true:=by kernel_rfl
theorem drvZ [Yn] {K:Bool} {m nt:Nat} {f:FuncId} {R:D→List (Option (List C))→Prop} {r:Option Rg} {k:List Item} {S:Ms} {fn:Func} (hfn:Try.prog.funcs[f]? = some fn) (h:drv K Try.prog m f nt R fn.results.toList 12 r k S):XK K Try.prog m f nt R r k S :=
 drv_sound hfn mo rfl 12 r k S h
theorem drvL [Yn] {K:Bool} {m nt:Nat} {f:FuncId} {R:D→List (Option (List C))→Prop} {k:List Item} {S:Ms} {fn:Func} (hfn:Try.prog.funcs[f]? = some fn) (h:drv K Try.prog m f nt R fn.results.toList 12 none k S):Go K Try.prog m f nt R k S :=
 drv_sound hfn mo rfl 12 none k S h
theorem dcZ [Yn] {f : FuncId} {R : D → List (Option (List C)) → Prop} {args : List D} {h : List (Option (List C))} {fn : Func} {c : Code} (hf : Try.prog.funcs[f]? = some fn)
 (hg:drv false Try.prog h.length f fn.ntmps R fn.results.toList 12 none [.code c] ⟨ofArgs 0 args,hpL h,h.length⟩) (hb:fn.body=some c:=by rfl) (hn:args.length≤fn.ntmps:=by simp):DC Try.prog f args h R :=
 dc_of_go hf hb hn (drv_sound hf mo rfl 12 none _ _ hg)
theorem ft0:tsz Try.prog 0=some 1∧tbytes Try.prog 0=some 0∧tagg Try.prog 0=some false∧tslice Try.prog 0=none:=by and_intros<;>kernel_rfl
theorem ft1:tsz Try.prog 1=some 1∧tbytes Try.prog 1=some 8∧tagg Try.prog 1=some false∧tslice Try.prog 1=none∧tzero Try.prog 1=some [.nilFunc]:=by and_intros<;>kernel_rfl
theorem ft2:tsz Try.prog 2=some 1∧tbytes Try.prog 2=some 8∧tagg Try.prog 2=some false∧tslice Try.prog 2=none∧Try.prog.underlying 2=some (.int .i64)∧tzero Try.prog 2=some [.int .i64 0]:=by and_intros<;>kernel_rfl
theorem ft3:tsz Try.prog 3=some 1∧tbytes Try.prog 3=some 8∧tagg Try.prog 3=some false∧tslice Try.prog 3=none∧Try.prog.underlying 3=some (.int .i64)∧tzero Try.prog 3=some [.int .i64 0]:=by and_intros<;>kernel_rfl
theorem ft4:tsz Try.prog 4=some 1∧tbytes Try.prog 4=some 1∧tagg Try.prog 4=some false∧tbool Try.prog 4=true∧tslice Try.prog 4=none∧tzero Try.prog 4=some [.bool false]:=by and_intros<;>kernel_rfl
theorem ft5:tsz Try.prog 5=some 1∧tbytes Try.prog 5=some 1∧tagg Try.prog 5=some false∧tslice Try.prog 5=none∧Try.prog.underlying 5=some (.int .u8)∧tzero Try.prog 5=some [.int .u8 0]:=by and_intros<;>kernel_rfl
theorem ft6:tsz Try.prog 6=some 1∧tbytes Try.prog 6=some 1∧tagg Try.prog 6=some false∧tslice Try.prog 6=none∧Try.prog.underlying 6=some (.int .u8)∧tzero Try.prog 6=some [.int .u8 0]:=by and_intros<;>kernel_rfl
theorem ft7:tsz Try.prog 7=some 4∧tbytes Try.prog 7=some 24∧tagg Try.prog 7=some true∧tslice Try.prog 7=none∧tzero Try.prog 7=some [.int .i64 0,.int .i64 0,.bool false,.int .u8 0]∧tstruct Try.prog 7=some [.int .i64 0,.int .i64 0,.bool false,.int .u8 0]∧tfield Try.prog 7 0=some (0,2)∧tfield Try.prog 7 1=some (1,3)∧tfield Try.prog 7 2=some (2,4)∧tfield Try.prog 7 3=some (3,6):=by and_intros<;>kernel_rfl
theorem ft8:tsz Try.prog 8=some 4∧tbytes Try.prog 8=some 24∧tagg Try.prog 8=some true∧tslice Try.prog 8=none∧tzero Try.prog 8=some [.int .i64 0,.int .i64 0,.bool false,.int .u8 0]∧tstruct Try.prog 8=some [.int .i64 0,.int .i64 0,.bool false,.int .u8 0]∧tfield Try.prog 8 0=some (0,2)∧tfield Try.prog 8 1=some (1,3)∧tfield Try.prog 8 2=some (2,4)∧tfield Try.prog 8 3=some (3,6):=by and_intros<;>kernel_rfl
theorem ft9:tsz Try.prog 9=some 1∧tbytes Try.prog 9=some 16∧tagg Try.prog 9=some false∧tstring Try.prog 9=true∧tslice Try.prog 9=none∧tzero Try.prog 9=some [.string .empty]:=by and_intros<;>kernel_rfl
theorem ft10:tsz Try.prog 10=some 1∧tbytes Try.prog 10=some 16∧tagg Try.prog 10=some false∧tstring Try.prog 10=true∧tslice Try.prog 10=none∧tzero Try.prog 10=some [.string .empty]:=by and_intros<;>kernel_rfl
theorem ft11:tsz Try.prog 11=some 1∧tbytes Try.prog 11=some 16∧tagg Try.prog 11=some false∧tstring Try.prog 11=true∧tslice Try.prog 11=none∧tzero Try.prog 11=some [.string .empty]:=by and_intros<;>kernel_rfl
theorem ft12:tsz Try.prog 12=some 1∧tbytes Try.prog 12=some 8∧tagg Try.prog 12=some false∧tslice Try.prog 12=none∧Try.prog.underlying 12=some (.int .u64)∧tzero Try.prog 12=some [.int .u64 0]:=by and_intros<;>kernel_rfl
theorem ft13:tsz Try.prog 13=some 2∧tbytes Try.prog 13=some 24∧tagg Try.prog 13=some true∧tslice Try.prog 13=none∧tzero Try.prog 13=some [.string .empty,.int .u64 0]∧tstruct Try.prog 13=some [.string .empty,.int .u64 0]∧tfield Try.prog 13 0=some (0,9)∧tfield Try.prog 13 1=some (1,12):=by and_intros<;>kernel_rfl
theorem ft14:tsz Try.prog 14=some 2∧tbytes Try.prog 14=some 24∧tagg Try.prog 14=some true∧tslice Try.prog 14=none∧tzero Try.prog 14=some [.string .empty,.int .u64 0]∧tstruct Try.prog 14=some [.string .empty,.int .u64 0]∧tfield Try.prog 14 0=some (0,9)∧tfield Try.prog 14 1=some (1,12):=by and_intros<;>kernel_rfl
theorem ft15:tsz Try.prog 15=some 1∧tbytes Try.prog 15=some 8∧tagg Try.prog 15=some false∧tslice Try.prog 15=none∧tzero Try.prog 15=some [.pointer none]:=by and_intros<;>kernel_rfl
theorem ft16:tsz Try.prog 16=some 1∧tbytes Try.prog 16=some 8∧tagg Try.prog 16=some false∧tslice Try.prog 16=none∧tzero Try.prog 16=some [.pointer none]:=by and_intros<;>kernel_rfl
theorem ft17:tsz Try.prog 17=some 1∧tbytes Try.prog 17=some 8∧tagg Try.prog 17=some false∧tslice Try.prog 17=none∧tzero Try.prog 17=some [.pointer none]:=by and_intros<;>kernel_rfl
theorem ft18:tsz Try.prog 18=some 1∧tbytes Try.prog 18=some 8∧tagg Try.prog 18=some true∧tslice Try.prog 18=none∧tzero Try.prog 18=some [.pointer none]∧tstruct Try.prog 18=some [.pointer none]∧tfield Try.prog 18 0=some (0,17):=by and_intros<;>kernel_rfl
theorem ft19:tsz Try.prog 19=some 1∧tbytes Try.prog 19=some 8∧tagg Try.prog 19=some true∧tslice Try.prog 19=none∧tzero Try.prog 19=some [.pointer none]∧tstruct Try.prog 19=some [.pointer none]∧tfield Try.prog 19 0=some (0,17):=by and_intros<;>kernel_rfl
theorem ft20:tsz Try.prog 20=some 1∧tbytes Try.prog 20=some 16∧tagg Try.prog 20=some false∧tslice Try.prog 20=none∧tzero Try.prog 20=some [.nilIface]:=by and_intros<;>kernel_rfl
theorem ft21:tsz Try.prog 21=some 1∧tbytes Try.prog 21=some 4∧tagg Try.prog 21=some false∧tslice Try.prog 21=none∧Try.prog.underlying 21=some (.int .i32)∧tzero Try.prog 21=some [.int .i32 0]:=by and_intros<;>kernel_rfl
theorem ft22:tsz Try.prog 22=some 1∧tbytes Try.prog 22=some 24∧tagg Try.prog 22=some false∧tslice Try.prog 22=some 3∧tzero Try.prog 22=some [.slice none 0 0]:=by and_intros<;>kernel_rfl
theorem ft23:tsz Try.prog 23=some 1∧tbytes Try.prog 23=some 24∧tagg Try.prog 23=some false∧tslice Try.prog 23=some 75∧tzero Try.prog 23=some [.slice none 0 0]:=by and_intros<;>kernel_rfl
theorem ft24:tsz Try.prog 24=some 3∧tbytes Try.prog 24=some 72∧tagg Try.prog 24=some true∧tslice Try.prog 24=none∧tzero Try.prog 24=some [.slice none 0 0,.slice none 0 0,.slice none 0 0]∧tstruct Try.prog 24=some [.slice none 0 0,.slice none 0 0,.slice none 0 0]∧tfield Try.prog 24 0=some (0,22)∧tfield Try.prog 24 1=some (1,22)∧tfield Try.prog 24 2=some (2,23):=by and_intros<;>kernel_rfl
theorem ft25:tsz Try.prog 25=some 3∧tbytes Try.prog 25=some 72∧tagg Try.prog 25=some true∧tslice Try.prog 25=none∧tzero Try.prog 25=some [.slice none 0 0,.slice none 0 0,.slice none 0 0]∧tstruct Try.prog 25=some [.slice none 0 0,.slice none 0 0,.slice none 0 0]∧tfield Try.prog 25 0=some (0,22)∧tfield Try.prog 25 1=some (1,22)∧tfield Try.prog 25 2=some (2,23):=by and_intros<;>kernel_rfl
theorem ft26:tsz Try.prog 26=some 1∧tbytes Try.prog 26=some 8∧tagg Try.prog 26=some false∧tslice Try.prog 26=none∧tzero Try.prog 26=some [.nilFunc]:=by and_intros<;>kernel_rfl
theorem ft27:tsz Try.prog 27=some 1∧tbytes Try.prog 27=some 24∧tagg Try.prog 27=some false∧tslice Try.prog 27=some 38∧tzero Try.prog 27=some [.slice none 0 0]:=by and_intros<;>kernel_rfl
theorem ft28:tsz Try.prog 28=some 1∧tbytes Try.prog 28=some 8∧tagg Try.prog 28=some false∧tslice Try.prog 28=none∧tzero Try.prog 28=some [.nilFunc]:=by and_intros<;>kernel_rfl
theorem ft29:tsz Try.prog 29=some 1∧tbytes Try.prog 29=some 24∧tagg Try.prog 29=some false∧tslice Try.prog 29=some 81∧tzero Try.prog 29=some [.slice none 0 0]:=by and_intros<;>kernel_rfl
theorem ft30:tsz Try.prog 30=some 3∧tbytes Try.prog 30=some 72∧tagg Try.prog 30=some true∧tslice Try.prog 30=none∧tzero Try.prog 30=some [.slice none 0 0,.slice none 0 0,.slice none 0 0]∧tstruct Try.prog 30=some [.slice none 0 0,.slice none 0 0,.slice none 0 0]∧tfield Try.prog 30 0=some (0,22)∧tfield Try.prog 30 1=some (1,22)∧tfield Try.prog 30 2=some (2,29):=by and_intros<;>kernel_rfl
theorem ft31:tsz Try.prog 31=some 3∧tbytes Try.prog 31=some 72∧tagg Try.prog 31=some true∧tslice Try.prog 31=none∧tzero Try.prog 31=some [.slice none 0 0,.slice none 0 0,.slice none 0 0]∧tstruct Try.prog 31=some [.slice none 0 0,.slice none 0 0,.slice none 0 0]∧tfield Try.prog 31 0=some (0,22)∧tfield Try.prog 31 1=some (1,22)∧tfield Try.prog 31 2=some (2,29):=by and_intros<;>kernel_rfl
theorem ft32:tsz Try.prog 32=some 1∧tbytes Try.prog 32=some 8∧tagg Try.prog 32=some false∧tslice Try.prog 32=none∧tzero Try.prog 32=some [.nilFunc]:=by and_intros<;>kernel_rfl
theorem ft33:tsz Try.prog 33=some 1∧tbytes Try.prog 33=some 8∧tagg Try.prog 33=some false∧tslice Try.prog 33=none∧tzero Try.prog 33=some [.nilFunc]:=by and_intros<;>kernel_rfl
theorem ft34:tsz Try.prog 34=some 1∧tbytes Try.prog 34=some 8∧tagg Try.prog 34=some false∧tslice Try.prog 34=none∧tzero Try.prog 34=some [.nilFunc]:=by and_intros<;>kernel_rfl
theorem ft35:tsz Try.prog 35=some 1∧tbytes Try.prog 35=some 8∧tagg Try.prog 35=some false∧tslice Try.prog 35=none∧tzero Try.prog 35=some [.nilFunc]:=by and_intros<;>kernel_rfl
theorem ft36:tsz Try.prog 36=some 1∧tbytes Try.prog 36=some 8∧tagg Try.prog 36=some false∧tslice Try.prog 36=none∧tzero Try.prog 36=some [.nilFunc]:=by and_intros<;>kernel_rfl
theorem ft37:tsz Try.prog 37=some 1∧tbytes Try.prog 37=some 8∧tagg Try.prog 37=some false∧tslice Try.prog 37=none∧tzero Try.prog 37=some [.nilFunc]:=by and_intros<;>kernel_rfl
theorem ft38:tsz Try.prog 38=some 1∧tbytes Try.prog 38=some 24∧tagg Try.prog 38=some false∧tslice Try.prog 38=some 4∧tzero Try.prog 38=some [.slice none 0 0]:=by and_intros<;>kernel_rfl
theorem ft39:tsz Try.prog 39=some 1∧tbytes Try.prog 39=some 0∧tagg Try.prog 39=some false∧tslice Try.prog 39=none:=by and_intros<;>kernel_rfl
theorem ft40:tsz Try.prog 40=some 1∧tbytes Try.prog 40=some 8∧tagg Try.prog 40=some false∧tslice Try.prog 40=none∧tzero Try.prog 40=some [.nilFunc]:=by and_intros<;>kernel_rfl
theorem ft41:tsz Try.prog 41=some 1∧tbytes Try.prog 41=some 8∧tagg Try.prog 41=some false∧tslice Try.prog 41=none∧tzero Try.prog 41=some [.nilFunc]:=by and_intros<;>kernel_rfl
theorem ft42:tsz Try.prog 42=some 1∧tbytes Try.prog 42=some 8∧tagg Try.prog 42=some false∧tslice Try.prog 42=none∧tzero Try.prog 42=some [.nilFunc]:=by and_intros<;>kernel_rfl
theorem ft43:tsz Try.prog 43=some 1∧tbytes Try.prog 43=some 8∧tagg Try.prog 43=some false∧tslice Try.prog 43=none∧tzero Try.prog 43=some [.nilFunc]:=by and_intros<;>kernel_rfl
theorem ft44:tsz Try.prog 44=some 1∧tbytes Try.prog 44=some 8∧tagg Try.prog 44=some false∧tslice Try.prog 44=none∧tzero Try.prog 44=some [.nilFunc]:=by and_intros<;>kernel_rfl
theorem ft45:tsz Try.prog 45=some 1∧tbytes Try.prog 45=some 8∧tagg Try.prog 45=some false∧tslice Try.prog 45=none∧tzero Try.prog 45=some [.nilFunc]:=by and_intros<;>kernel_rfl
theorem ft46:tsz Try.prog 46=some 1∧tbytes Try.prog 46=some 8∧tagg Try.prog 46=some false∧tslice Try.prog 46=none∧tzero Try.prog 46=some [.nilFunc]:=by and_intros<;>kernel_rfl
theorem ft47:tsz Try.prog 47=some 1∧tbytes Try.prog 47=some 8∧tagg Try.prog 47=some false∧tslice Try.prog 47=none∧tzero Try.prog 47=some [.nilFunc]:=by and_intros<;>kernel_rfl
theorem ft48:tsz Try.prog 48=some 1∧tbytes Try.prog 48=some 8∧tagg Try.prog 48=some false∧tslice Try.prog 48=none∧tzero Try.prog 48=some [.nilFunc]:=by and_intros<;>kernel_rfl
theorem ft49:tsz Try.prog 49=some 6∧tbytes Try.prog 49=some 144∧tagg Try.prog 49=some true∧tslice Try.prog 49=none∧tzero Try.prog 49=some [.slice none 0 0,.slice none 0 0,.slice none 0 0,.slice none 0 0,.slice none 0 0,.slice none 0 0]∧tstruct Try.prog 49=some [.slice none 0 0,.slice none 0 0,.slice none 0 0,.slice none 0 0,.slice none 0 0,.slice none 0 0]∧tfield Try.prog 49 0=some (0,31)∧tfield Try.prog 49 1=some (3,27)∧tfield Try.prog 49 2=some (4,38)∧tfield Try.prog 49 3=some (5,38):=by and_intros<;>kernel_rfl
theorem ft50:tsz Try.prog 50=some 6∧tbytes Try.prog 50=some 144∧tagg Try.prog 50=some true∧tslice Try.prog 50=none∧tzero Try.prog 50=some [.slice none 0 0,.slice none 0 0,.slice none 0 0,.slice none 0 0,.slice none 0 0,.slice none 0 0]∧tstruct Try.prog 50=some [.slice none 0 0,.slice none 0 0,.slice none 0 0,.slice none 0 0,.slice none 0 0,.slice none 0 0]∧tfield Try.prog 50 0=some (0,31)∧tfield Try.prog 50 1=some (3,27)∧tfield Try.prog 50 2=some (4,38)∧tfield Try.prog 50 3=some (5,38):=by and_intros<;>kernel_rfl
theorem ft51:tsz Try.prog 51=some 1∧tbytes Try.prog 51=some 8∧tagg Try.prog 51=some false∧tslice Try.prog 51=none∧tzero Try.prog 51=some [.nilFunc]:=by and_intros<;>kernel_rfl
theorem ft52:tsz Try.prog 52=some 1∧tbytes Try.prog 52=some 8∧tagg Try.prog 52=some false∧tslice Try.prog 52=none∧tzero Try.prog 52=some [.nilFunc]:=by and_intros<;>kernel_rfl
theorem ft53:tsz Try.prog 53=some 1∧tbytes Try.prog 53=some 8∧tagg Try.prog 53=some false∧tslice Try.prog 53=none∧tzero Try.prog 53=some [.nilFunc]:=by and_intros<;>kernel_rfl
theorem ft54:tsz Try.prog 54=some 1∧tbytes Try.prog 54=some 8∧tagg Try.prog 54=some false∧tslice Try.prog 54=none∧tzero Try.prog 54=some [.nilFunc]:=by and_intros<;>kernel_rfl
theorem ft55:tsz Try.prog 55=some 1∧tbytes Try.prog 55=some 8∧tagg Try.prog 55=some false∧tslice Try.prog 55=none∧tzero Try.prog 55=some [.nilFunc]:=by and_intros<;>kernel_rfl
theorem ft56:tsz Try.prog 56=some 1∧tbytes Try.prog 56=some 8∧tagg Try.prog 56=some false∧tslice Try.prog 56=none∧tzero Try.prog 56=some [.pointer none]:=by and_intros<;>kernel_rfl
theorem ft57:tsz Try.prog 57=some 1∧tbytes Try.prog 57=some 0∧tagg Try.prog 57=some false∧tslice Try.prog 57=none:=by and_intros<;>kernel_rfl
theorem ft58:tsz Try.prog 58=some 1∧tbytes Try.prog 58=some 8∧tagg Try.prog 58=some false∧tslice Try.prog 58=none∧tzero Try.prog 58=some [.nilFunc]:=by and_intros<;>kernel_rfl
theorem ft59:tsz Try.prog 59=some 1∧tbytes Try.prog 59=some 8∧tagg Try.prog 59=some false∧tslice Try.prog 59=none∧tzero Try.prog 59=some [.nilFunc]:=by and_intros<;>kernel_rfl
theorem ft60:tsz Try.prog 60=some 1∧tbytes Try.prog 60=some 8∧tagg Try.prog 60=some false∧tslice Try.prog 60=none∧tzero Try.prog 60=some [.nilFunc]:=by and_intros<;>kernel_rfl
theorem ft61:tsz Try.prog 61=some 1∧tbytes Try.prog 61=some 8∧tagg Try.prog 61=some false∧tslice Try.prog 61=none∧tzero Try.prog 61=some [.nilFunc]:=by and_intros<;>kernel_rfl
theorem ft62:tsz Try.prog 62=some 1∧tbytes Try.prog 62=some 8∧tagg Try.prog 62=some false∧tslice Try.prog 62=none∧tzero Try.prog 62=some [.nilFunc]:=by and_intros<;>kernel_rfl
theorem ft63:tsz Try.prog 63=some 1∧tbytes Try.prog 63=some 8∧tagg Try.prog 63=some false∧tslice Try.prog 63=none∧tzero Try.prog 63=some [.nilFunc]:=by and_intros<;>kernel_rfl
theorem ft64:tsz Try.prog 64=some 1∧tbytes Try.prog 64=some 8∧tagg Try.prog 64=some false∧tslice Try.prog 64=none∧tzero Try.prog 64=some [.nilFunc]:=by and_intros<;>kernel_rfl
theorem ft65:tsz Try.prog 65=some 1∧tbytes Try.prog 65=some 8∧tagg Try.prog 65=some false∧tslice Try.prog 65=none∧tzero Try.prog 65=some [.nilFunc]:=by and_intros<;>kernel_rfl
theorem ft66:tsz Try.prog 66=some 1∧tbytes Try.prog 66=some 8∧tagg Try.prog 66=some false∧tslice Try.prog 66=none∧tzero Try.prog 66=some [.nilFunc]:=by and_intros<;>kernel_rfl
theorem ft67:tsz Try.prog 67=some 1∧tbytes Try.prog 67=some 0∧tagg Try.prog 67=some false∧tslice Try.prog 67=none:=by and_intros<;>kernel_rfl
theorem ft68:tsz Try.prog 68=some 1∧tbytes Try.prog 68=some 8∧tagg Try.prog 68=some false∧tslice Try.prog 68=none∧tzero Try.prog 68=some [.nilFunc]:=by and_intros<;>kernel_rfl
theorem ft69:tsz Try.prog 69=some 1∧tbytes Try.prog 69=some 8∧tagg Try.prog 69=some false∧tslice Try.prog 69=none∧tzero Try.prog 69=some [.nilFunc]:=by and_intros<;>kernel_rfl
theorem ft70:tsz Try.prog 70=some 1∧tbytes Try.prog 70=some 8∧tagg Try.prog 70=some false∧tslice Try.prog 70=none∧tzero Try.prog 70=some [.nilFunc]:=by and_intros<;>kernel_rfl
theorem ft71:tsz Try.prog 71=some 1∧tbytes Try.prog 71=some 24∧tagg Try.prog 71=some false∧tslice Try.prog 71=some 73∧tzero Try.prog 71=some [.slice none 0 0]:=by and_intros<;>kernel_rfl
theorem ft72:tsz Try.prog 72=some 3∧tbytes Try.prog 72=some 40∧tagg Try.prog 72=some true∧tslice Try.prog 72=none∧tzero Try.prog 72=some [.int .i64 0,.int .i64 0,.slice none 0 0]∧tstruct Try.prog 72=some [.int .i64 0,.int .i64 0,.slice none 0 0]∧tfield Try.prog 72 0=some (0,3)∧tfield Try.prog 72 1=some (1,3)∧tfield Try.prog 72 2=some (2,71):=by and_intros<;>kernel_rfl
theorem ft73:tsz Try.prog 73=some 3∧tbytes Try.prog 73=some 40∧tagg Try.prog 73=some true∧tslice Try.prog 73=none∧tzero Try.prog 73=some [.int .i64 0,.int .i64 0,.slice none 0 0]∧tstruct Try.prog 73=some [.int .i64 0,.int .i64 0,.slice none 0 0]∧tfield Try.prog 73 0=some (0,3)∧tfield Try.prog 73 1=some (1,3)∧tfield Try.prog 73 2=some (2,71):=by and_intros<;>kernel_rfl
theorem ft74:tsz Try.prog 74=some 11∧tbytes Try.prog 74=some 152∧tagg Try.prog 74=some true∧tslice Try.prog 74=none∧tzero Try.prog 74=some [.int .i64 0,.int .i64 0,.int .i64 0,.int .i64 0,.slice none 0 0,.int .i64 0,.int .i64 0,.slice none 0 0,.int .i64 0,.slice none 0 0,.slice none 0 0]∧tstruct Try.prog 74=some [.int .i64 0,.int .i64 0,.int .i64 0,.int .i64 0,.slice none 0 0,.int .i64 0,.int .i64 0,.slice none 0 0,.int .i64 0,.slice none 0 0,.slice none 0 0]∧tfield Try.prog 74 0=some (0,3)∧tfield Try.prog 74 1=some (1,3)∧tfield Try.prog 74 2=some (2,73)∧tfield Try.prog 74 3=some (5,73)∧tfield Try.prog 74 4=some (8,3)∧tfield Try.prog 74 5=some (9,23)∧tfield Try.prog 74 6=some (10,23):=by and_intros<;>kernel_rfl
theorem ft75:tsz Try.prog 75=some 11∧tbytes Try.prog 75=some 152∧tagg Try.prog 75=some true∧tslice Try.prog 75=none∧tzero Try.prog 75=some [.int .i64 0,.int .i64 0,.int .i64 0,.int .i64 0,.slice none 0 0,.int .i64 0,.int .i64 0,.slice none 0 0,.int .i64 0,.slice none 0 0,.slice none 0 0]∧tstruct Try.prog 75=some [.int .i64 0,.int .i64 0,.int .i64 0,.int .i64 0,.slice none 0 0,.int .i64 0,.int .i64 0,.slice none 0 0,.int .i64 0,.slice none 0 0,.slice none 0 0]∧tfield Try.prog 75 0=some (0,3)∧tfield Try.prog 75 1=some (1,3)∧tfield Try.prog 75 2=some (2,73)∧tfield Try.prog 75 3=some (5,73)∧tfield Try.prog 75 4=some (8,3)∧tfield Try.prog 75 5=some (9,23)∧tfield Try.prog 75 6=some (10,23):=by and_intros<;>kernel_rfl
theorem ft76:tsz Try.prog 76=some 1∧tbytes Try.prog 76=some 8∧tagg Try.prog 76=some false∧tslice Try.prog 76=none∧tzero Try.prog 76=some [.nilFunc]:=by and_intros<;>kernel_rfl
theorem ft77:tsz Try.prog 77=some 1∧tbytes Try.prog 77=some 24∧tagg Try.prog 77=some false∧tslice Try.prog 77=some 79∧tzero Try.prog 77=some [.slice none 0 0]:=by and_intros<;>kernel_rfl
theorem ft78:tsz Try.prog 78=some 3∧tbytes Try.prog 78=some 40∧tagg Try.prog 78=some true∧tslice Try.prog 78=none∧tzero Try.prog 78=some [.int .i64 0,.int .i64 0,.slice none 0 0]∧tstruct Try.prog 78=some [.int .i64 0,.int .i64 0,.slice none 0 0]∧tfield Try.prog 78 0=some (0,3)∧tfield Try.prog 78 1=some (1,3)∧tfield Try.prog 78 2=some (2,77):=by and_intros<;>kernel_rfl
theorem ft79:tsz Try.prog 79=some 3∧tbytes Try.prog 79=some 40∧tagg Try.prog 79=some true∧tslice Try.prog 79=none∧tzero Try.prog 79=some [.int .i64 0,.int .i64 0,.slice none 0 0]∧tstruct Try.prog 79=some [.int .i64 0,.int .i64 0,.slice none 0 0]∧tfield Try.prog 79 0=some (0,3)∧tfield Try.prog 79 1=some (1,3)∧tfield Try.prog 79 2=some (2,77):=by and_intros<;>kernel_rfl
theorem ft80:tsz Try.prog 80=some 11∧tbytes Try.prog 80=some 152∧tagg Try.prog 80=some true∧tslice Try.prog 80=none∧tzero Try.prog 80=some [.int .i64 0,.int .i64 0,.int .i64 0,.int .i64 0,.slice none 0 0,.int .i64 0,.int .i64 0,.slice none 0 0,.int .i64 0,.slice none 0 0,.slice none 0 0]∧tstruct Try.prog 80=some [.int .i64 0,.int .i64 0,.int .i64 0,.int .i64 0,.slice none 0 0,.int .i64 0,.int .i64 0,.slice none 0 0,.int .i64 0,.slice none 0 0,.slice none 0 0]∧tfield Try.prog 80 0=some (0,3)∧tfield Try.prog 80 1=some (1,3)∧tfield Try.prog 80 2=some (2,79)∧tfield Try.prog 80 3=some (5,79)∧tfield Try.prog 80 4=some (8,3)∧tfield Try.prog 80 5=some (9,29)∧tfield Try.prog 80 6=some (10,29):=by and_intros<;>kernel_rfl
theorem ft81:tsz Try.prog 81=some 11∧tbytes Try.prog 81=some 152∧tagg Try.prog 81=some true∧tslice Try.prog 81=none∧tzero Try.prog 81=some [.int .i64 0,.int .i64 0,.int .i64 0,.int .i64 0,.slice none 0 0,.int .i64 0,.int .i64 0,.slice none 0 0,.int .i64 0,.slice none 0 0,.slice none 0 0]∧tstruct Try.prog 81=some [.int .i64 0,.int .i64 0,.int .i64 0,.int .i64 0,.slice none 0 0,.int .i64 0,.int .i64 0,.slice none 0 0,.int .i64 0,.slice none 0 0,.slice none 0 0]∧tfield Try.prog 81 0=some (0,3)∧tfield Try.prog 81 1=some (1,3)∧tfield Try.prog 81 2=some (2,79)∧tfield Try.prog 81 3=some (5,79)∧tfield Try.prog 81 4=some (8,3)∧tfield Try.prog 81 5=some (9,29)∧tfield Try.prog 81 6=some (10,29):=by and_intros<;>kernel_rfl
theorem ft82:tsz Try.prog 82=some 1∧tbytes Try.prog 82=some 8∧tagg Try.prog 82=some false∧tslice Try.prog 82=none∧tzero Try.prog 82=some [.nilFunc]:=by and_intros<;>kernel_rfl
theorem ft83:tsz Try.prog 83=some 1∧tbytes Try.prog 83=some 8∧tagg Try.prog 83=some false∧tslice Try.prog 83=none∧tzero Try.prog 83=some [.nilFunc]:=by and_intros<;>kernel_rfl
theorem ft84:tsz Try.prog 84=some 1∧tbytes Try.prog 84=some 8∧tagg Try.prog 84=some false∧tslice Try.prog 84=none∧tzero Try.prog 84=some [.nilFunc]:=by and_intros<;>kernel_rfl
theorem ft85:tsz Try.prog 85=some 1∧tbytes Try.prog 85=some 8∧tagg Try.prog 85=some false∧tslice Try.prog 85=none∧tzero Try.prog 85=some [.nilFunc]:=by and_intros<;>kernel_rfl
theorem ft86:tsz Try.prog 86=some 1∧tbytes Try.prog 86=some 8∧tagg Try.prog 86=some false∧tslice Try.prog 86=none∧tzero Try.prog 86=some [.pointer none]:=by and_intros<;>kernel_rfl
theorem ft87:tsz Try.prog 87=some 5∧tbytes Try.prog 87=some 88∧tagg Try.prog 87=some true∧tslice Try.prog 87=none∧tzero Try.prog 87=some [.slice none 0 0,.slice none 0 0,.slice none 0 0,.int .i64 0,.int .i64 0]∧tstruct Try.prog 87=some [.slice none 0 0,.slice none 0 0,.slice none 0 0,.int .i64 0,.int .i64 0]∧tfield Try.prog 87 0=some (0,31)∧tfield Try.prog 87 1=some (3,3)∧tfield Try.prog 87 2=some (4,3):=by and_intros<;>kernel_rfl
theorem ft88:tsz Try.prog 88=some 5∧tbytes Try.prog 88=some 88∧tagg Try.prog 88=some true∧tslice Try.prog 88=none∧tzero Try.prog 88=some [.slice none 0 0,.slice none 0 0,.slice none 0 0,.int .i64 0,.int .i64 0]∧tstruct Try.prog 88=some [.slice none 0 0,.slice none 0 0,.slice none 0 0,.int .i64 0,.int .i64 0]∧tfield Try.prog 88 0=some (0,31)∧tfield Try.prog 88 1=some (3,3)∧tfield Try.prog 88 2=some (4,3):=by and_intros<;>kernel_rfl
theorem ft89:tsz Try.prog 89=some 1∧tbytes Try.prog 89=some 8∧tagg Try.prog 89=some false∧tslice Try.prog 89=none∧tzero Try.prog 89=some [.nilFunc]:=by and_intros<;>kernel_rfl
theorem ft90:tsz Try.prog 90=some 1∧tbytes Try.prog 90=some 8∧tagg Try.prog 90=some false∧tslice Try.prog 90=none∧tzero Try.prog 90=some [.nilFunc]:=by and_intros<;>kernel_rfl
theorem ft91:tsz Try.prog 91=some 1∧tbytes Try.prog 91=some 8∧tagg Try.prog 91=some false∧tslice Try.prog 91=none∧tzero Try.prog 91=some [.nilFunc]:=by and_intros<;>kernel_rfl
theorem ft92:tsz Try.prog 92=some 1∧tbytes Try.prog 92=some 8∧tagg Try.prog 92=some false∧tslice Try.prog 92=none∧tzero Try.prog 92=some [.nilFunc]:=by and_intros<;>kernel_rfl
theorem ft93:tsz Try.prog 93=some 1∧tbytes Try.prog 93=some 8∧tagg Try.prog 93=some false∧tslice Try.prog 93=none∧tzero Try.prog 93=some [.nilFunc]:=by and_intros<;>kernel_rfl
theorem ft94:tsz Try.prog 94=some 1∧tbytes Try.prog 94=some 8∧tagg Try.prog 94=some false∧tslice Try.prog 94=none∧tzero Try.prog 94=some [.nilFunc]:=by and_intros<;>kernel_rfl
theorem ft95:tsz Try.prog 95=some 1∧tbytes Try.prog 95=some 8∧tagg Try.prog 95=some false∧tslice Try.prog 95=none∧tzero Try.prog 95=some [.nilFunc]:=by and_intros<;>kernel_rfl
theorem ft96:tsz Try.prog 96=some 1∧tbytes Try.prog 96=some 8∧tagg Try.prog 96=some false∧tslice Try.prog 96=none∧tzero Try.prog 96=some [.nilFunc]:=by and_intros<;>kernel_rfl
theorem ft97:tsz Try.prog 97=some 1∧tbytes Try.prog 97=some 8∧tagg Try.prog 97=some false∧tslice Try.prog 97=none∧tzero Try.prog 97=some [.nilFunc]:=by and_intros<;>kernel_rfl
theorem ft98:tsz Try.prog 98=some 1∧tbytes Try.prog 98=some 8∧tagg Try.prog 98=some false∧tslice Try.prog 98=none∧tzero Try.prog 98=some [.nilFunc]:=by and_intros<;>kernel_rfl
theorem ft99:tsz Try.prog 99=some 1∧tbytes Try.prog 99=some 8∧tagg Try.prog 99=some false∧tslice Try.prog 99=none∧tzero Try.prog 99=some [.nilFunc]:=by and_intros<;>kernel_rfl
theorem ft100:tsz Try.prog 100=some 1∧tbytes Try.prog 100=some 8∧tagg Try.prog 100=some false∧tslice Try.prog 100=none∧tzero Try.prog 100=some [.nilFunc]:=by and_intros<;>kernel_rfl
theorem ft101:tsz Try.prog 101=some 1∧tbytes Try.prog 101=some 8∧tagg Try.prog 101=some false∧tslice Try.prog 101=none∧tzero Try.prog 101=some [.nilFunc]:=by and_intros<;>kernel_rfl
theorem ft102:tsz Try.prog 102=some 1∧tbytes Try.prog 102=some 8∧tagg Try.prog 102=some false∧tslice Try.prog 102=none∧tzero Try.prog 102=some [.nilFunc]:=by and_intros<;>kernel_rfl
theorem ft103:tsz Try.prog 103=some 1∧tbytes Try.prog 103=some 8∧tagg Try.prog 103=some false∧tslice Try.prog 103=none∧tzero Try.prog 103=some [.nilFunc]:=by and_intros<;>kernel_rfl
theorem ft104:tsz Try.prog 104=some 1∧tbytes Try.prog 104=some 8∧tagg Try.prog 104=some false∧tslice Try.prog 104=none∧tzero Try.prog 104=some [.nilFunc]:=by and_intros<;>kernel_rfl
theorem ft105:tsz Try.prog 105=some 1∧tbytes Try.prog 105=some 8∧tagg Try.prog 105=some false∧tslice Try.prog 105=none∧tzero Try.prog 105=some [.nilFunc]:=by and_intros<;>kernel_rfl
theorem ft106:tsz Try.prog 106=some 1∧tbytes Try.prog 106=some 8∧tagg Try.prog 106=some false∧tslice Try.prog 106=none∧tzero Try.prog 106=some [.nilFunc]:=by and_intros<;>kernel_rfl
theorem ft107:tsz Try.prog 107=some 1∧tbytes Try.prog 107=some 8∧tagg Try.prog 107=some false∧tslice Try.prog 107=none∧tzero Try.prog 107=some [.nilFunc]:=by and_intros<;>kernel_rfl
theorem ft108:tsz Try.prog 108=some 1∧tbytes Try.prog 108=some 8∧tagg Try.prog 108=some false∧tslice Try.prog 108=none∧tzero Try.prog 108=some [.nilFunc]:=by and_intros<;>kernel_rfl
theorem ft109:tsz Try.prog 109=some 1∧tbytes Try.prog 109=some 8∧tagg Try.prog 109=some false∧tslice Try.prog 109=none∧tzero Try.prog 109=some [.nilFunc]:=by and_intros<;>kernel_rfl
theorem ft110:tsz Try.prog 110=some 1∧tbytes Try.prog 110=some 8∧tagg Try.prog 110=some false∧tslice Try.prog 110=none∧tzero Try.prog 110=some [.nilFunc]:=by and_intros<;>kernel_rfl
theorem ft111:tsz Try.prog 111=some 1∧tbytes Try.prog 111=some 8∧tagg Try.prog 111=some false∧tslice Try.prog 111=none∧tzero Try.prog 111=some [.nilFunc]:=by and_intros<;>kernel_rfl
theorem ft112:tsz Try.prog 112=some 1∧tbytes Try.prog 112=some 8∧tagg Try.prog 112=some false∧tslice Try.prog 112=none∧tzero Try.prog 112=some [.nilFunc]:=by and_intros<;>kernel_rfl
theorem ft113:tsz Try.prog 113=some 1∧tbytes Try.prog 113=some 8∧tagg Try.prog 113=some false∧tslice Try.prog 113=none∧tzero Try.prog 113=some [.nilFunc]:=by and_intros<;>kernel_rfl
theorem ft114:tsz Try.prog 114=some 1∧tbytes Try.prog 114=some 8∧tagg Try.prog 114=some false∧tslice Try.prog 114=none∧tzero Try.prog 114=some [.nilFunc]:=by and_intros<;>kernel_rfl
theorem ft115:tsz Try.prog 115=some 1∧tbytes Try.prog 115=some 8∧tagg Try.prog 115=some false∧tslice Try.prog 115=none∧tzero Try.prog 115=some [.nilFunc]:=by and_intros<;>kernel_rfl
theorem ft116:tsz Try.prog 116=some 1∧tbytes Try.prog 116=some 8∧tagg Try.prog 116=some false∧tslice Try.prog 116=none∧tzero Try.prog 116=some [.nilFunc]:=by and_intros<;>kernel_rfl
theorem ft117:tsz Try.prog 117=some 1∧tbytes Try.prog 117=some 8∧tagg Try.prog 117=some false∧tslice Try.prog 117=none∧tzero Try.prog 117=some [.nilFunc]:=by and_intros<;>kernel_rfl
theorem ft118:tsz Try.prog 118=some 1∧tbytes Try.prog 118=some 8∧tagg Try.prog 118=some false∧tslice Try.prog 118=none∧tzero Try.prog 118=some [.nilFunc]:=by and_intros<;>kernel_rfl
theorem ft119:tsz Try.prog 119=some 1∧tbytes Try.prog 119=some 8∧tagg Try.prog 119=some false∧tslice Try.prog 119=none∧tzero Try.prog 119=some [.nilFunc]:=by and_intros<;>kernel_rfl
theorem ft120:tsz Try.prog 120=some 4∧tbytes Try.prog 120=some 40∧tagg Try.prog 120=some true∧tslice Try.prog 120=none∧tzero Try.prog 120=some [.pointer none,.pointer none,.pointer none,.string .empty]∧tstruct Try.prog 120=some [.pointer none,.pointer none,.pointer none,.string .empty]∧tfield Try.prog 120 0=some (0,17)∧tfield Try.prog 120 1=some (1,17)∧tfield Try.prog 120 2=some (2,17)∧tfield Try.prog 120 3=some (3,9):=by and_intros<;>kernel_rfl
theorem ft121:tsz Try.prog 121=some 4∧tbytes Try.prog 121=some 40∧tagg Try.prog 121=some true∧tslice Try.prog 121=none∧tzero Try.prog 121=some [.pointer none,.pointer none,.pointer none,.string .empty]∧tstruct Try.prog 121=some [.pointer none,.pointer none,.pointer none,.string .empty]∧tfield Try.prog 121 0=some (0,17)∧tfield Try.prog 121 1=some (1,17)∧tfield Try.prog 121 2=some (2,17)∧tfield Try.prog 121 3=some (3,9):=by and_intros<;>kernel_rfl
theorem ft122:tsz Try.prog 122=some 0∧tbytes Try.prog 122=some 0∧tagg Try.prog 122=some true∧tslice Try.prog 122=none∧tzero Try.prog 122=some []:=by and_intros<;>kernel_rfl
theorem ft123:tsz Try.prog 123=some 0∧tbytes Try.prog 123=some 0∧tagg Try.prog 123=some true∧tslice Try.prog 123=none∧tzero Try.prog 123=some []∧tstruct Try.prog 123=some []:=by and_intros<;>kernel_rfl
theorem ft124:tsz Try.prog 124=some 0∧tbytes Try.prog 124=some 0∧tagg Try.prog 124=some true∧tslice Try.prog 124=none∧tzero Try.prog 124=some []∧tstruct Try.prog 124=some []:=by and_intros<;>kernel_rfl
theorem ft125:tsz Try.prog 125=some 1∧tbytes Try.prog 125=some 4∧tagg Try.prog 125=some false∧tslice Try.prog 125=none∧Try.prog.underlying 125=some (.int .u32)∧tzero Try.prog 125=some [.int .u32 0]:=by and_intros<;>kernel_rfl
theorem ft126:tsz Try.prog 126=some 1∧tbytes Try.prog 126=some 1∧tagg Try.prog 126=some false∧tslice Try.prog 126=none∧Try.prog.underlying 126=some (.int .u8)∧tzero Try.prog 126=some [.int .u8 0]:=by and_intros<;>kernel_rfl
theorem ft127:tsz Try.prog 127=some 1∧tbytes Try.prog 127=some 1∧tagg Try.prog 127=some false∧tslice Try.prog 127=none∧Try.prog.underlying 127=some (.int .u8)∧tzero Try.prog 127=some [.int .u8 0]:=by and_intros<;>kernel_rfl
theorem ft128:tsz Try.prog 128=some 1∧tbytes Try.prog 128=some 8∧tagg Try.prog 128=some false∧tslice Try.prog 128=none∧tzero Try.prog 128=some [.nilFunc]:=by and_intros<;>kernel_rfl
theorem ft129:tsz Try.prog 129=some 1∧tbytes Try.prog 129=some 8∧tagg Try.prog 129=some false∧tslice Try.prog 129=none∧tzero Try.prog 129=some [.pointer none]:=by and_intros<;>kernel_rfl
theorem ft130:tsz Try.prog 130=some 1∧tbytes Try.prog 130=some 4∧tagg Try.prog 130=some false∧tslice Try.prog 130=none∧Try.prog.underlying 130=some (.int .i32)∧tzero Try.prog 130=some [.int .i32 0]:=by and_intros<;>kernel_rfl
theorem ft131:tsz Try.prog 131=some 1∧tbytes Try.prog 131=some 4∧tagg Try.prog 131=some false∧tslice Try.prog 131=none∧Try.prog.underlying 131=some (.int .i32)∧tzero Try.prog 131=some [.int .i32 0]:=by and_intros<;>kernel_rfl
theorem ft132:tsz Try.prog 132=some 11∧tbytes Try.prog 132=some 48∧tagg Try.prog 132=some true∧tslice Try.prog 132=none∧tzero Try.prog 132=some [.int .u64 0,.int .u64 0,.int .u32 0,.int .u8 0,.int .u8 0,.int .u8 0,.int .u8 0,.nilFunc,.pointer none,.int .i32 0,.int .i32 0]∧tstruct Try.prog 132=some [.int .u64 0,.int .u64 0,.int .u32 0,.int .u8 0,.int .u8 0,.int .u8 0,.int .u8 0,.nilFunc,.pointer none,.int .i32 0,.int .i32 0]∧tfield Try.prog 132 0=some (0,12)∧tfield Try.prog 132 1=some (1,12)∧tfield Try.prog 132 2=some (2,125)∧tfield Try.prog 132 3=some (3,126)∧tfield Try.prog 132 4=some (4,5)∧tfield Try.prog 132 5=some (5,5)∧tfield Try.prog 132 6=some (6,127)∧tfield Try.prog 132 7=some (7,128)∧tfield Try.prog 132 8=some (8,129)∧tfield Try.prog 132 9=some (9,130)∧tfield Try.prog 132 10=some (10,131):=by and_intros<;>kernel_rfl
theorem ft133:tsz Try.prog 133=some 11∧tbytes Try.prog 133=some 48∧tagg Try.prog 133=some true∧tslice Try.prog 133=none∧tzero Try.prog 133=some [.int .u64 0,.int .u64 0,.int .u32 0,.int .u8 0,.int .u8 0,.int .u8 0,.int .u8 0,.nilFunc,.pointer none,.int .i32 0,.int .i32 0]∧tstruct Try.prog 133=some [.int .u64 0,.int .u64 0,.int .u32 0,.int .u8 0,.int .u8 0,.int .u8 0,.int .u8 0,.nilFunc,.pointer none,.int .i32 0,.int .i32 0]∧tfield Try.prog 133 0=some (0,12)∧tfield Try.prog 133 1=some (1,12)∧tfield Try.prog 133 2=some (2,125)∧tfield Try.prog 133 3=some (3,126)∧tfield Try.prog 133 4=some (4,5)∧tfield Try.prog 133 5=some (5,5)∧tfield Try.prog 133 6=some (6,127)∧tfield Try.prog 133 7=some (7,128)∧tfield Try.prog 133 8=some (8,129)∧tfield Try.prog 133 9=some (9,130)∧tfield Try.prog 133 10=some (10,131):=by and_intros<;>kernel_rfl
theorem ft134:tsz Try.prog 134=some 1∧tbytes Try.prog 134=some 8∧tagg Try.prog 134=some false∧tslice Try.prog 134=none∧tzero Try.prog 134=some [.pointer none]:=by and_intros<;>kernel_rfl
theorem ok3:fnOK Try.prog 3=true:=by kernel_rfl
theorem ok5:fnOK Try.prog 5=true:=by kernel_rfl
theorem ok6:fnOK Try.prog 6=true:=by kernel_rfl
theorem ok7:fnOK Try.prog 7=true:=by kernel_rfl
theorem ok8:fnOK Try.prog 8=true:=by kernel_rfl
theorem ok9:fnOK Try.prog 9=true:=by kernel_rfl
theorem ok10:fnOK Try.prog 10=true:=by kernel_rfl
theorem ok11:fnOK Try.prog 11=true:=by kernel_rfl
theorem ok12:fnOK Try.prog 12=true:=by kernel_rfl
theorem ok13:fnOK Try.prog 13=true:=by kernel_rfl
theorem ok17:fnOK Try.prog 17=true:=by kernel_rfl
theorem ok18:fnOK Try.prog 18=true:=by kernel_rfl
theorem ok20:fnOK Try.prog 20=true:=by kernel_rfl
theorem ok21:fnOK Try.prog 21=true:=by kernel_rfl
theorem ok22:fnOK Try.prog 22=true:=by kernel_rfl
theorem ok23:fnOK Try.prog 23=true:=by kernel_rfl
theorem ok24:fnOK Try.prog 24=true:=by kernel_rfl
theorem ok25:fnOK Try.prog 25=true:=by kernel_rfl
theorem ok26:fnOK Try.prog 26=true:=by kernel_rfl
theorem ok27:fnOK Try.prog 27=true:=by kernel_rfl
theorem ok28:fnOK Try.prog 28=true:=by kernel_rfl
theorem ok29:fnOK Try.prog 29=true:=by kernel_rfl
theorem ok30:fnOK Try.prog 30=true:=by kernel_rfl
theorem ok31:fnOK Try.prog 31=true:=by kernel_rfl
theorem ok32:fnOK Try.prog 32=true:=by kernel_rfl
theorem ok33:fnOK Try.prog 33=true:=by kernel_rfl
theorem ok34:fnOK Try.prog 34=true:=by kernel_rfl
theorem ok35:fnOK Try.prog 35=true:=by kernel_rfl
theorem ok36:fnOK Try.prog 36=true:=by kernel_rfl
theorem ok38:fnOK Try.prog 38=true:=by kernel_rfl
theorem ok40:fnOK Try.prog 40=true:=by kernel_rfl
theorem ok43:fnOK Try.prog 43=true:=by kernel_rfl
theorem ok47:fnOK Try.prog 47=true:=by kernel_rfl
theorem ok48:fnOK Try.prog 48=true:=by kernel_rfl
theorem ok49:fnOK Try.prog 49=true:=by kernel_rfl
theorem ok50:fnOK Try.prog 50=true:=by kernel_rfl
theorem ok51:fnOK Try.prog 51=true:=by kernel_rfl
theorem ok52:fnOK Try.prog 52=true:=by kernel_rfl
theorem ok53:fnOK Try.prog 53=true:=by kernel_rfl
theorem ok54:fnOK Try.prog 54=true:=by kernel_rfl
theorem ok55:fnOK Try.prog 55=true:=by kernel_rfl
theorem ok56:fnOK Try.prog 56=true:=by kernel_rfl
theorem ok57:fnOK Try.prog 57=true:=by kernel_rfl
theorem ok58:fnOK Try.prog 58=true:=by kernel_rfl
theorem ok59:fnOK Try.prog 59=true:=by kernel_rfl
theorem ok62:fnOK Try.prog 62=true:=by kernel_rfl
theorem ok66:fnOK Try.prog 66=true:=by kernel_rfl
theorem ok67:fnOK Try.prog 67=true:=by kernel_rfl
theorem ok68:fnOK Try.prog 68=true:=by kernel_rfl
theorem ok69:fnOK Try.prog 69=true:=by kernel_rfl
theorem ok70:fnOK Try.prog 70=true:=by kernel_rfl
theorem ok71:fnOK Try.prog 71=true:=by kernel_rfl
theorem ok72:fnOK Try.prog 72=true:=by kernel_rfl
theorem ok73:fnOK Try.prog 73=true:=by kernel_rfl
theorem ok74:fnOK Try.prog 74=true:=by kernel_rfl
theorem ok75:fnOK Try.prog 75=true:=by kernel_rfl
theorem ok76:fnOK Try.prog 76=true:=by kernel_rfl
theorem ok77:fnOK Try.prog 77=true:=by kernel_rfl
theorem ok78:fnOK Try.prog 78=true:=by kernel_rfl
theorem ok79:fnOK Try.prog 79=true:=by kernel_rfl
theorem ok80:fnOK Try.prog 80=true:=by kernel_rfl
theorem ok81:fnOK Try.prog 81=true:=by kernel_rfl
theorem ok82:fnOK Try.prog 82=true:=by kernel_rfl
theorem ok83:fnOK Try.prog 83=true:=by kernel_rfl
theorem ok84:fnOK Try.prog 84=true:=by kernel_rfl
theorem ok85:fnOK Try.prog 85=true:=by kernel_rfl
theorem ok86:fnOK Try.prog 86=true:=by kernel_rfl
theorem ok87:fnOK Try.prog 87=true:=by kernel_rfl
theorem ok88:fnOK Try.prog 88=true:=by kernel_rfl
theorem ok89:fnOK Try.prog 89=true:=by kernel_rfl
theorem ok90:fnOK Try.prog 90=true:=by kernel_rfl
theorem ok91:fnOK Try.prog 91=true:=by kernel_rfl
theorem ok92:fnOK Try.prog 92=true:=by kernel_rfl
theorem ok93:fnOK Try.prog 93=true:=by kernel_rfl
theorem ok94:fnOK Try.prog 94=true:=by kernel_rfl
theorem ok95:fnOK Try.prog 95=true:=by kernel_rfl
theorem ok96:fnOK Try.prog 96=true:=by kernel_rfl
theorem ok97:fnOK Try.prog 97=true:=by kernel_rfl
theorem ok98:fnOK Try.prog 98=true:=by kernel_rfl
theorem ok99:fnOK Try.prog 99=true:=by kernel_rfl
attribute [go_sem] ft0 ft1 ft2 ft3 ft4 ft5 ft6 ft7 ft8 ft9 ft10 ft11 ft12 ft13
 ft14 ft15 ft16 ft17 ft18 ft19 ft20 ft21 ft22 ft23 ft24 ft25 ft26 ft27
 ft28 ft29 ft30 ft31 ft32 ft33 ft34 ft35 ft36 ft37 ft38 ft39 ft40 ft41
 ft42 ft43 ft44 ft45 ft46 ft47 ft48 ft49 ft50 ft51 ft52 ft53 ft54 ft55
 ft56 ft57 ft58 ft59 ft60 ft61 ft62 ft63 ft64 ft65 ft66 ft67 ft68 ft69
 ft70 ft71 ft72 ft73 ft74 ft75 ft76 ft77 ft78 ft79 ft80 ft81 ft82 ft83
 ft84 ft85 ft86 ft87 ft88 ft89 ft90 ft91 ft92 ft93 ft94 ft95 ft96 ft97
 ft98 ft99 ft100 ft101 ft102 ft103 ft104 ft105 ft106 ft107 ft108 ft109 ft110 ft111
 ft112 ft113 ft114 ft115 ft116 ft117 ft118 ft119 ft120 ft121 ft122 ft123 ft124 ft125
 ft126 ft127 ft128 ft129 ft130 ft131 ft132 ft133 ft134 Try.f3 Try.f5 Try.f6 Try.f7 Try.f8
 Try.f9 Try.f10 Try.f11 Try.f12 Try.f13 Try.f17 Try.f18 Try.f20 Try.f21 Try.f22 Try.f23 Try.f24 Try.f25 Try.f26
 Try.f27 Try.f28 Try.f29 Try.f30 Try.f31 Try.f32 Try.f33 Try.f34 Try.f35 Try.f36 Try.f38 Try.f40 Try.f43 Try.f47
 Try.f48 Try.f49 Try.f50 Try.f51 Try.f52 Try.f53 Try.f54 Try.f55 Try.f56 Try.f57 Try.f58 Try.f59 Try.f62 Try.f66
 Try.f67 Try.f68 Try.f69 Try.f70 Try.f71 Try.f72 Try.f73 Try.f74 Try.f75 Try.f76 Try.f77 Try.f78 Try.f79 Try.f80
 Try.f81 Try.f82 Try.f83 Try.f84 Try.f85 Try.f86 Try.f87 Try.f88 Try.f89 Try.f90 Try.f91 Try.f92 Try.f93 Try.f94
 Try.f95 Try.f96 Try.f97 Try.f98 Try.f99
end Go.Proofs.Ytbknljofedfpjaa.CtF
