/- Contracts of functions of the program, one behind the other, as plain data: what each call returns and which blocks it leaves. -/
import Derived.Test.YtbknljofedfpjaaGreatChecked
import Derived.KernelRfl
import Derived.Test.YtbknljofedfpjaaGreatYAi
set_option linter.unusedVariables false
set_option linter.unusedSimpArgs false
set_option linter.unusedSectionVars false
set_option maxHeartbeats 16000000
set_option maxRecDepth 100000
namespace Go.Proofs.YtbknljofedfpjaaGreat.CtF
open Go Go.CT
theorem mo:Tryz.prog.follows .mixedOrders=true:=by kernel_rfl
theorem drvZ [Yn] {K:Bool} {m nt:Nat} {f:FuncId} {R:D→List (Option (List C))→Prop} {r:Option Rg} {k:List Item} {S:Ms} {fn:Func} (hfn:Tryz.prog.funcs[f]? = some fn) (h:drv K Tryz.prog m f nt R fn.results.toList 12 r k S):XK K Tryz.prog m f nt R r k S :=
 drv_sound hfn mo rfl 12 r k S h
theorem drvL [Yn] {K:Bool} {m nt:Nat} {f:FuncId} {R:D→List (Option (List C))→Prop} {k:List Item} {S:Ms} {fn:Func} (hfn:Tryz.prog.funcs[f]? = some fn) (h:drv K Tryz.prog m f nt R fn.results.toList 12 none k S):Go K Tryz.prog m f nt R k S :=
 drv_sound hfn mo rfl 12 none k S h
theorem dcZ [Yn] {f : FuncId} {R : D → List (Option (List C)) → Prop} {args : List D} {h : List (Option (List C))} {fn : Func} {c : Code} (hf : Tryz.prog.funcs[f]? = some fn)
 (hg:drv false Tryz.prog h.length f fn.ntmps R fn.results.toList 12 none [.code c] ⟨ofArgs 0 args,hpL h,h.length⟩) (hb:fn.body=some c:=by rfl) (hn:args.length≤fn.ntmps:=by simp):DC Tryz.prog f args h R :=
 dc_of_go hf hb hn (drv_sound hf mo rfl 12 none _ _ hg)
theorem ft0:tsz Tryz.prog 0=some 1∧tbytes Tryz.prog 0=some 0∧tagg Tryz.prog 0=some false∧tslice Tryz.prog 0=none:=by and_intros<;>kernel_rfl
theorem ft1:tsz Tryz.prog 1=some 1∧tbytes Tryz.prog 1=some 8∧tagg Tryz.prog 1=some false∧tslice Tryz.prog 1=none∧tzero Tryz.prog 1=some [.nilFunc]:=by and_intros<;>kernel_rfl
theorem ft2:tsz Tryz.prog 2=some 1∧tbytes Tryz.prog 2=some 8∧tagg Tryz.prog 2=some false∧tslice Tryz.prog 2=none∧Tryz.prog.underlying 2=some (.int .i64)∧tzero Tryz.prog 2=some [.int .i64 0]:=by and_intros<;>kernel_rfl
theorem ft3:tsz Tryz.prog 3=some 1∧tbytes Tryz.prog 3=some 8∧tagg Tryz.prog 3=some false∧tslice Tryz.prog 3=none∧Tryz.prog.underlying 3=some (.int .i64)∧tzero Tryz.prog 3=some [.int .i64 0]:=by and_intros<;>kernel_rfl
theorem ft4:tsz Tryz.prog 4=some 1∧tbytes Tryz.prog 4=some 1∧tagg Tryz.prog 4=some false∧tbool Tryz.prog 4=true∧tslice Tryz.prog 4=none∧tzero Tryz.prog 4=some [.bool false]:=by and_intros<;>kernel_rfl
theorem ft5:tsz Tryz.prog 5=some 1∧tbytes Tryz.prog 5=some 1∧tagg Tryz.prog 5=some false∧tslice Tryz.prog 5=none∧Tryz.prog.underlying 5=some (.int .u8)∧tzero Tryz.prog 5=some [.int .u8 0]:=by and_intros<;>kernel_rfl
theorem ft6:tsz Tryz.prog 6=some 1∧tbytes Tryz.prog 6=some 1∧tagg Tryz.prog 6=some false∧tslice Tryz.prog 6=none∧Tryz.prog.underlying 6=some (.int .u8)∧tzero Tryz.prog 6=some [.int .u8 0]:=by and_intros<;>kernel_rfl
theorem ft7:tsz Tryz.prog 7=some 4∧tbytes Tryz.prog 7=some 24∧tagg Tryz.prog 7=some true∧tslice Tryz.prog 7=none∧tzero Tryz.prog 7=some [.int .i64 0,.int .i64 0,.bool false,.int .u8 0]∧tstruct Tryz.prog 7=some [.int .i64 0,.int .i64 0,.bool false,.int .u8 0]∧tfield Tryz.prog 7 0=some (0,2)∧tfield Tryz.prog 7 1=some (1,3)∧tfield Tryz.prog 7 2=some (2,4)∧tfield Tryz.prog 7 3=some (3,6):=by and_intros<;>kernel_rfl
theorem ft8:tsz Tryz.prog 8=some 4∧tbytes Tryz.prog 8=some 24∧tagg Tryz.prog 8=some true∧tslice Tryz.prog 8=none∧tzero Tryz.prog 8=some [.int .i64 0,.int .i64 0,.bool false,.int .u8 0]∧tstruct Tryz.prog 8=some [.int .i64 0,.int .i64 0,.bool false,.int .u8 0]∧tfield Tryz.prog 8 0=some (0,2)∧tfield Tryz.prog 8 1=some (1,3)∧tfield Tryz.prog 8 2=some (2,4)∧tfield Tryz.prog 8 3=some (3,6):=by and_intros<;>kernel_rfl
theorem ft9:tsz Tryz.prog 9=some 1∧tbytes Tryz.prog 9=some 16∧tagg Tryz.prog 9=some false∧tstring Tryz.prog 9=true∧tslice Tryz.prog 9=none∧tzero Tryz.prog 9=some [.string .empty]:=by and_intros<;>kernel_rfl
theorem ft10:tsz Tryz.prog 10=some 1∧tbytes Tryz.prog 10=some 16∧tagg Tryz.prog 10=some false∧tstring Tryz.prog 10=true∧tslice Tryz.prog 10=none∧tzero Tryz.prog 10=some [.string .empty]:=by and_intros<;>kernel_rfl
theorem ft11:tsz Tryz.prog 11=some 1∧tbytes Tryz.prog 11=some 16∧tagg Tryz.prog 11=some false∧tstring Tryz.prog 11=true∧tslice Tryz.prog 11=none∧tzero Tryz.prog 11=some [.string .empty]:=by and_intros<;>kernel_rfl
theorem ft12:tsz Tryz.prog 12=some 1∧tbytes Tryz.prog 12=some 8∧tagg Tryz.prog 12=some false∧tslice Tryz.prog 12=none∧Tryz.prog.underlying 12=some (.int .u64)∧tzero Tryz.prog 12=some [.int .u64 0]:=by and_intros<;>kernel_rfl
theorem ft13:tsz Tryz.prog 13=some 2∧tbytes Tryz.prog 13=some 24∧tagg Tryz.prog 13=some true∧tslice Tryz.prog 13=none∧tzero Tryz.prog 13=some [.string .empty,.int .u64 0]∧tstruct Tryz.prog 13=some [.string .empty,.int .u64 0]∧tfield Tryz.prog 13 0=some (0,9)∧tfield Tryz.prog 13 1=some (1,12):=by and_intros<;>kernel_rfl
theorem ft14:tsz Tryz.prog 14=some 2∧tbytes Tryz.prog 14=some 24∧tagg Tryz.prog 14=some true∧tslice Tryz.prog 14=none∧tzero Tryz.prog 14=some [.string .empty,.int .u64 0]∧tstruct Tryz.prog 14=some [.string .empty,.int .u64 0]∧tfield Tryz.prog 14 0=some (0,9)∧tfield Tryz.prog 14 1=some (1,12):=by and_intros<;>kernel_rfl
theorem ft15:tsz Tryz.prog 15=some 1∧tbytes Tryz.prog 15=some 8∧tagg Tryz.prog 15=some false∧tslice Tryz.prog 15=none∧tzero Tryz.prog 15=some [.pointer none]:=by and_intros<;>kernel_rfl
theorem ft16:tsz Tryz.prog 16=some 1∧tbytes Tryz.prog 16=some 8∧tagg Tryz.prog 16=some false∧tslice Tryz.prog 16=none∧tzero Tryz.prog 16=some [.pointer none]:=by and_intros<;>kernel_rfl
theorem ft17:tsz Tryz.prog 17=some 1∧tbytes Tryz.prog 17=some 8∧tagg Tryz.prog 17=some false∧tslice Tryz.prog 17=none∧tzero Tryz.prog 17=some [.pointer none]:=by and_intros<;>kernel_rfl
theorem ft18:tsz Tryz.prog 18=some 1∧tbytes Tryz.prog 18=some 8∧tagg Tryz.prog 18=some true∧tslice Tryz.prog 18=none∧tzero Tryz.prog 18=some [.pointer none]∧tstruct Tryz.prog 18=some [.pointer none]∧tfield Tryz.prog 18 0=some (0,17):=by and_intros<;>kernel_rfl
theorem ft19:tsz Tryz.prog 19=some 1∧tbytes Tryz.prog 19=some 8∧tagg Tryz.prog 19=some true∧tslice Tryz.prog 19=none∧tzero Tryz.prog 19=some [.pointer none]∧tstruct Tryz.prog 19=some [.pointer none]∧tfield Tryz.prog 19 0=some (0,17):=by and_intros<;>kernel_rfl
theorem ft20:tsz Tryz.prog 20=some 1∧tbytes Tryz.prog 20=some 16∧tagg Tryz.prog 20=some false∧tslice Tryz.prog 20=none∧tzero Tryz.prog 20=some [.nilIface]:=by and_intros<;>kernel_rfl
theorem ft21:tsz Tryz.prog 21=some 1∧tbytes Tryz.prog 21=some 4∧tagg Tryz.prog 21=some false∧tslice Tryz.prog 21=none∧Tryz.prog.underlying 21=some (.int .i32)∧tzero Tryz.prog 21=some [.int .i32 0]:=by and_intros<;>kernel_rfl
theorem ft22:tsz Tryz.prog 22=some 1∧tbytes Tryz.prog 22=some 24∧tagg Tryz.prog 22=some false∧tslice Tryz.prog 22=some 5∧tzero Tryz.prog 22=some [.slice none 0 0]:=by and_intros<;>kernel_rfl
theorem ft23:tsz Tryz.prog 23=some 1∧tbytes Tryz.prog 23=some 24∧tagg Tryz.prog 23=some false∧tslice Tryz.prog 23=some 3∧tzero Tryz.prog 23=some [.slice none 0 0]:=by and_intros<;>kernel_rfl
theorem ft24:tsz Tryz.prog 24=some 1∧tbytes Tryz.prog 24=some 24∧tagg Tryz.prog 24=some false∧tslice Tryz.prog 24=some 138∧tzero Tryz.prog 24=some [.slice none 0 0]:=by and_intros<;>kernel_rfl
theorem ft25:tsz Tryz.prog 25=some 3∧tbytes Tryz.prog 25=some 72∧tagg Tryz.prog 25=some true∧tslice Tryz.prog 25=none∧tzero Tryz.prog 25=some [.slice none 0 0,.slice none 0 0,.slice none 0 0]∧tstruct Tryz.prog 25=some [.slice none 0 0,.slice none 0 0,.slice none 0 0]∧tfield Tryz.prog 25 0=some (0,23)∧tfield Tryz.prog 25 1=some (1,23)∧tfield Tryz.prog 25 2=some (2,24):=by and_intros<;>kernel_rfl
theorem ft26:tsz Tryz.prog 26=some 3∧tbytes Tryz.prog 26=some 72∧tagg Tryz.prog 26=some true∧tslice Tryz.prog 26=none∧tzero Tryz.prog 26=some [.slice none 0 0,.slice none 0 0,.slice none 0 0]∧tstruct Tryz.prog 26=some [.slice none 0 0,.slice none 0 0,.slice none 0 0]∧tfield Tryz.prog 26 0=some (0,23)∧tfield Tryz.prog 26 1=some (1,23)∧tfield Tryz.prog 26 2=some (2,24):=by and_intros<;>kernel_rfl
theorem ft27:tsz Tryz.prog 27=some 1∧tbytes Tryz.prog 27=some 24∧tagg Tryz.prog 27=some false∧tslice Tryz.prog 27=some 23∧tzero Tryz.prog 27=some [.slice none 0 0]:=by and_intros<;>kernel_rfl
theorem ft28:tsz Tryz.prog 28=some 2∧tbytes Tryz.prog 28=some 48∧tagg Tryz.prog 28=some true∧tslice Tryz.prog 28=none∧tzero Tryz.prog 28=some [.slice none 0 0,.slice none 0 0]∧tstruct Tryz.prog 28=some [.slice none 0 0,.slice none 0 0]∧tfield Tryz.prog 28 0=some (0,23)∧tfield Tryz.prog 28 1=some (1,27):=by and_intros<;>kernel_rfl
theorem ft29:tsz Tryz.prog 29=some 2∧tbytes Tryz.prog 29=some 48∧tagg Tryz.prog 29=some true∧tslice Tryz.prog 29=none∧tzero Tryz.prog 29=some [.slice none 0 0,.slice none 0 0]∧tstruct Tryz.prog 29=some [.slice none 0 0,.slice none 0 0]∧tfield Tryz.prog 29 0=some (0,23)∧tfield Tryz.prog 29 1=some (1,27):=by and_intros<;>kernel_rfl
theorem ft30:tsz Tryz.prog 30=some 1∧tbytes Tryz.prog 30=some 0∧tagg Tryz.prog 30=some false∧tslice Tryz.prog 30=none:=by and_intros<;>kernel_rfl
theorem ft31:tsz Tryz.prog 31=some 1∧tbytes Tryz.prog 31=some 8∧tagg Tryz.prog 31=some false∧tslice Tryz.prog 31=none∧tzero Tryz.prog 31=some [.nilFunc]:=by and_intros<;>kernel_rfl
theorem ft32:tsz Tryz.prog 32=some 1∧tbytes Tryz.prog 32=some 24∧tagg Tryz.prog 32=some false∧tslice Tryz.prog 32=some 81∧tzero Tryz.prog 32=some [.slice none 0 0]:=by and_intros<;>kernel_rfl
theorem ft33:tsz Tryz.prog 33=some 3∧tbytes Tryz.prog 33=some 72∧tagg Tryz.prog 33=some true∧tslice Tryz.prog 33=none∧tzero Tryz.prog 33=some [.slice none 0 0,.slice none 0 0,.slice none 0 0]∧tstruct Tryz.prog 33=some [.slice none 0 0,.slice none 0 0,.slice none 0 0]∧tfield Tryz.prog 33 0=some (0,23)∧tfield Tryz.prog 33 1=some (1,23)∧tfield Tryz.prog 33 2=some (2,32):=by and_intros<;>kernel_rfl
theorem ft34:tsz Tryz.prog 34=some 3∧tbytes Tryz.prog 34=some 72∧tagg Tryz.prog 34=some true∧tslice Tryz.prog 34=none∧tzero Tryz.prog 34=some [.slice none 0 0,.slice none 0 0,.slice none 0 0]∧tstruct Tryz.prog 34=some [.slice none 0 0,.slice none 0 0,.slice none 0 0]∧tfield Tryz.prog 34 0=some (0,23)∧tfield Tryz.prog 34 1=some (1,23)∧tfield Tryz.prog 34 2=some (2,32):=by and_intros<;>kernel_rfl
theorem ft35:tsz Tryz.prog 35=some 1∧tbytes Tryz.prog 35=some 0∧tagg Tryz.prog 35=some false∧tslice Tryz.prog 35=none:=by and_intros<;>kernel_rfl
theorem ft36:tsz Tryz.prog 36=some 1∧tbytes Tryz.prog 36=some 8∧tagg Tryz.prog 36=some false∧tslice Tryz.prog 36=none∧tzero Tryz.prog 36=some [.nilFunc]:=by and_intros<;>kernel_rfl
theorem ft37:tsz Tryz.prog 37=some 1∧tbytes Tryz.prog 37=some 8∧tagg Tryz.prog 37=some false∧tslice Tryz.prog 37=none∧tzero Tryz.prog 37=some [.nilFunc]:=by and_intros<;>kernel_rfl
theorem ft38:tsz Tryz.prog 38=some 1∧tbytes Tryz.prog 38=some 8∧tagg Tryz.prog 38=some false∧tslice Tryz.prog 38=none∧tzero Tryz.prog 38=some [.nilFunc]:=by and_intros<;>kernel_rfl
theorem ft39:tsz Tryz.prog 39=some 1∧tbytes Tryz.prog 39=some 24∧tagg Tryz.prog 39=some false∧tslice Tryz.prog 39=some 4∧tzero Tryz.prog 39=some [.slice none 0 0]:=by and_intros<;>kernel_rfl
theorem ft40:tsz Tryz.prog 40=some 1∧tbytes Tryz.prog 40=some 0∧tagg Tryz.prog 40=some false∧tslice Tryz.prog 40=none:=by and_intros<;>kernel_rfl
theorem ft41:tsz Tryz.prog 41=some 1∧tbytes Tryz.prog 41=some 8∧tagg Tryz.prog 41=some false∧tslice Tryz.prog 41=none∧tzero Tryz.prog 41=some [.nilFunc]:=by and_intros<;>kernel_rfl
theorem ft42:tsz Tryz.prog 42=some 1∧tbytes Tryz.prog 42=some 24∧tagg Tryz.prog 42=some false∧tslice Tryz.prog 42=some 112∧tzero Tryz.prog 42=some [.slice none 0 0]:=by and_intros<;>kernel_rfl
theorem ft43:tsz Tryz.prog 43=some 1∧tbytes Tryz.prog 43=some 0∧tagg Tryz.prog 43=some false∧tslice Tryz.prog 43=none:=by and_intros<;>kernel_rfl
theorem ft44:tsz Tryz.prog 44=some 1∧tbytes Tryz.prog 44=some 8∧tagg Tryz.prog 44=some false∧tslice Tryz.prog 44=none∧tzero Tryz.prog 44=some [.nilFunc]:=by and_intros<;>kernel_rfl
theorem ft45:tsz Tryz.prog 45=some 1∧tbytes Tryz.prog 45=some 8∧tagg Tryz.prog 45=some false∧tslice Tryz.prog 45=none∧tzero Tryz.prog 45=some [.nilFunc]:=by and_intros<;>kernel_rfl
theorem ft46:tsz Tryz.prog 46=some 1∧tbytes Tryz.prog 46=some 8∧tagg Tryz.prog 46=some false∧tslice Tryz.prog 46=none∧tzero Tryz.prog 46=some [.nilFunc]:=by and_intros<;>kernel_rfl
theorem ft47:tsz Tryz.prog 47=some 1∧tbytes Tryz.prog 47=some 8∧tagg Tryz.prog 47=some false∧tslice Tryz.prog 47=none∧tzero Tryz.prog 47=some [.nilFunc]:=by and_intros<;>kernel_rfl
theorem ft48:tsz Tryz.prog 48=some 1∧tbytes Tryz.prog 48=some 0∧tagg Tryz.prog 48=some false∧tslice Tryz.prog 48=none:=by and_intros<;>kernel_rfl
theorem ft49:tsz Tryz.prog 49=some 1∧tbytes Tryz.prog 49=some 8∧tagg Tryz.prog 49=some false∧tslice Tryz.prog 49=none∧tzero Tryz.prog 49=some [.nilFunc]:=by and_intros<;>kernel_rfl
theorem ft50:tsz Tryz.prog 50=some 1∧tbytes Tryz.prog 50=some 8∧tagg Tryz.prog 50=some false∧tslice Tryz.prog 50=none∧tzero Tryz.prog 50=some [.nilFunc]:=by and_intros<;>kernel_rfl
theorem ft51:tsz Tryz.prog 51=some 1∧tbytes Tryz.prog 51=some 8∧tagg Tryz.prog 51=some false∧tslice Tryz.prog 51=none∧tzero Tryz.prog 51=some [.nilFunc]:=by and_intros<;>kernel_rfl
theorem ft52:tsz Tryz.prog 52=some 1∧tbytes Tryz.prog 52=some 8∧tagg Tryz.prog 52=some false∧tslice Tryz.prog 52=none∧tzero Tryz.prog 52=some [.nilFunc]:=by and_intros<;>kernel_rfl
theorem ft53:tsz Tryz.prog 53=some 1∧tbytes Tryz.prog 53=some 8∧tagg Tryz.prog 53=some false∧tslice Tryz.prog 53=none∧tzero Tryz.prog 53=some [.nilFunc]:=by and_intros<;>kernel_rfl
theorem ft54:tsz Tryz.prog 54=some 1∧tbytes Tryz.prog 54=some 24∧tagg Tryz.prog 54=some false∧tslice Tryz.prog 54=some 29∧tzero Tryz.prog 54=some [.slice none 0 0]:=by and_intros<;>kernel_rfl
theorem ft55:tsz Tryz.prog 55=some 1∧tbytes Tryz.prog 55=some 0∧tagg Tryz.prog 55=some false∧tslice Tryz.prog 55=none:=by and_intros<;>kernel_rfl
theorem ft56:tsz Tryz.prog 56=some 1∧tbytes Tryz.prog 56=some 8∧tagg Tryz.prog 56=some false∧tslice Tryz.prog 56=none∧tzero Tryz.prog 56=some [.nilFunc]:=by and_intros<;>kernel_rfl
theorem ft57:tsz Tryz.prog 57=some 1∧tbytes Tryz.prog 57=some 0∧tagg Tryz.prog 57=some false∧tslice Tryz.prog 57=none:=by and_intros<;>kernel_rfl
theorem ft58:tsz Tryz.prog 58=some 1∧tbytes Tryz.prog 58=some 8∧tagg Tryz.prog 58=some false∧tslice Tryz.prog 58=none∧tzero Tryz.prog 58=some [.nilFunc]:=by and_intros<;>kernel_rfl
theorem ft59:tsz Tryz.prog 59=some 1∧tbytes Tryz.prog 59=some 0∧tagg Tryz.prog 59=some false∧tslice Tryz.prog 59=none:=by and_intros<;>kernel_rfl
theorem ft60:tsz Tryz.prog 60=some 1∧tbytes Tryz.prog 60=some 8∧tagg Tryz.prog 60=some false∧tslice Tryz.prog 60=none∧tzero Tryz.prog 60=some [.nilFunc]:=by and_intros<;>kernel_rfl
theorem ft61:tsz Tryz.prog 61=some 1∧tbytes Tryz.prog 61=some 0∧tagg Tryz.prog 61=some false∧tslice Tryz.prog 61=none:=by and_intros<;>kernel_rfl
theorem ft62:tsz Tryz.prog 62=some 1∧tbytes Tryz.prog 62=some 8∧tagg Tryz.prog 62=some false∧tslice Tryz.prog 62=none∧tzero Tryz.prog 62=some [.nilFunc]:=by and_intros<;>kernel_rfl
theorem ft63:tsz Tryz.prog 63=some 1∧tbytes Tryz.prog 63=some 8∧tagg Tryz.prog 63=some false∧tslice Tryz.prog 63=none∧tzero Tryz.prog 63=some [.nilFunc]:=by and_intros<;>kernel_rfl
theorem ft64:tsz Tryz.prog 64=some 1∧tbytes Tryz.prog 64=some 8∧tagg Tryz.prog 64=some false∧tslice Tryz.prog 64=none∧tzero Tryz.prog 64=some [.pointer none]:=by and_intros<;>kernel_rfl
theorem ft65:tsz Tryz.prog 65=some 1∧tbytes Tryz.prog 65=some 8∧tagg Tryz.prog 65=some false∧tslice Tryz.prog 65=none∧tzero Tryz.prog 65=some [.nilFunc]:=by and_intros<;>kernel_rfl
theorem ft66:tsz Tryz.prog 66=some 1∧tbytes Tryz.prog 66=some 8∧tagg Tryz.prog 66=some false∧tslice Tryz.prog 66=none∧tzero Tryz.prog 66=some [.nilFunc]:=by and_intros<;>kernel_rfl
theorem ft67:tsz Tryz.prog 67=some 1∧tbytes Tryz.prog 67=some 8∧tagg Tryz.prog 67=some false∧tslice Tryz.prog 67=none∧tzero Tryz.prog 67=some [.nilFunc]:=by and_intros<;>kernel_rfl
theorem ft68:tsz Tryz.prog 68=some 1∧tbytes Tryz.prog 68=some 8∧tagg Tryz.prog 68=some false∧tslice Tryz.prog 68=none∧tzero Tryz.prog 68=some [.nilFunc]:=by and_intros<;>kernel_rfl
theorem ft69:tsz Tryz.prog 69=some 1∧tbytes Tryz.prog 69=some 8∧tagg Tryz.prog 69=some false∧tslice Tryz.prog 69=none∧tzero Tryz.prog 69=some [.pointer none]:=by and_intros<;>kernel_rfl
theorem ft70:tsz Tryz.prog 70=some 1∧tbytes Tryz.prog 70=some 0∧tagg Tryz.prog 70=some false∧tslice Tryz.prog 70=none:=by and_intros<;>kernel_rfl
theorem ft71:tsz Tryz.prog 71=some 1∧tbytes Tryz.prog 71=some 8∧tagg Tryz.prog 71=some false∧tslice Tryz.prog 71=none∧tzero Tryz.prog 71=some [.nilFunc]:=by and_intros<;>kernel_rfl
theorem ft72:tsz Tryz.prog 72=some 1∧tbytes Tryz.prog 72=some 8∧tagg Tryz.prog 72=some false∧tslice Tryz.prog 72=none∧tzero Tryz.prog 72=some [.nilFunc]:=by and_intros<;>kernel_rfl
theorem ft73:tsz Tryz.prog 73=some 4∧tbytes Tryz.prog 73=some 64∧tagg Tryz.prog 73=some true∧tslice Tryz.prog 73=none∧tzero Tryz.prog 73=some [.slice none 0 0,.slice none 0 0,.int .i64 0,.int .i64 0]∧tstruct Tryz.prog 73=some [.slice none 0 0,.slice none 0 0,.int .i64 0,.int .i64 0]∧tfield Tryz.prog 73 0=some (0,32)∧tfield Tryz.prog 73 1=some (1,23)∧tfield Tryz.prog 73 2=some (2,3)∧tfield Tryz.prog 73 3=some (3,3):=by and_intros<;>kernel_rfl
theorem ft74:tsz Tryz.prog 74=some 4∧tbytes Tryz.prog 74=some 64∧tagg Tryz.prog 74=some true∧tslice Tryz.prog 74=none∧tzero Tryz.prog 74=some [.slice none 0 0,.slice none 0 0,.int .i64 0,.int .i64 0]∧tstruct Tryz.prog 74=some [.slice none 0 0,.slice none 0 0,.int .i64 0,.int .i64 0]∧tfield Tryz.prog 74 0=some (0,32)∧tfield Tryz.prog 74 1=some (1,23)∧tfield Tryz.prog 74 2=some (2,3)∧tfield Tryz.prog 74 3=some (3,3):=by and_intros<;>kernel_rfl
theorem ft75:tsz Tryz.prog 75=some 3∧tbytes Tryz.prog 75=some 56∧tagg Tryz.prog 75=some true∧tslice Tryz.prog 75=none∧tzero Tryz.prog 75=some [.slice none 0 0,.slice none 0 0,.int .i64 0]∧tstruct Tryz.prog 75=some [.slice none 0 0,.slice none 0 0,.int .i64 0]∧tfield Tryz.prog 75 0=some (0,32)∧tfield Tryz.prog 75 1=some (1,23)∧tfield Tryz.prog 75 2=some (2,3):=by and_intros<;>kernel_rfl
theorem ft76:tsz Tryz.prog 76=some 3∧tbytes Tryz.prog 76=some 56∧tagg Tryz.prog 76=some true∧tslice Tryz.prog 76=none∧tzero Tryz.prog 76=some [.slice none 0 0,.slice none 0 0,.int .i64 0]∧tstruct Tryz.prog 76=some [.slice none 0 0,.slice none 0 0,.int .i64 0]∧tfield Tryz.prog 76 0=some (0,32)∧tfield Tryz.prog 76 1=some (1,23)∧tfield Tryz.prog 76 2=some (2,3):=by and_intros<;>kernel_rfl
theorem ft77:tsz Tryz.prog 77=some 1∧tbytes Tryz.prog 77=some 0∧tagg Tryz.prog 77=some false∧tslice Tryz.prog 77=none:=by and_intros<;>kernel_rfl
theorem ft78:tsz Tryz.prog 78=some 1∧tbytes Tryz.prog 78=some 8∧tagg Tryz.prog 78=some false∧tslice Tryz.prog 78=none∧tzero Tryz.prog 78=some [.nilFunc]:=by and_intros<;>kernel_rfl
theorem ft79:tsz Tryz.prog 79=some 1∧tbytes Tryz.prog 79=some 8∧tagg Tryz.prog 79=some false∧tslice Tryz.prog 79=none∧tzero Tryz.prog 79=some [.nilFunc]:=by and_intros<;>kernel_rfl
theorem ft80:tsz Tryz.prog 80=some 5∧tbytes Tryz.prog 80=some 40∧tagg Tryz.prog 80=some true∧tslice Tryz.prog 80=none∧tzero Tryz.prog 80=some [.int .i64 0,.int .i64 0,.int .i64 0,.int .i64 0,.int .i64 0]∧tstruct Tryz.prog 80=some [.int .i64 0,.int .i64 0,.int .i64 0,.int .i64 0,.int .i64 0]∧tints Tryz.prog 80=some 5∧tfield Tryz.prog 80 0=some (0,3)∧tfield Tryz.prog 80 1=some (1,3)∧tfield Tryz.prog 80 2=some (2,3)∧tfield Tryz.prog 80 3=some (3,3)∧tfield Tryz.prog 80 4=some (4,3):=by and_intros<;>kernel_rfl
theorem ft81:tsz Tryz.prog 81=some 5∧tbytes Tryz.prog 81=some 40∧tagg Tryz.prog 81=some true∧tslice Tryz.prog 81=none∧tzero Tryz.prog 81=some [.int .i64 0,.int .i64 0,.int .i64 0,.int .i64 0,.int .i64 0]∧tstruct Tryz.prog 81=some [.int .i64 0,.int .i64 0,.int .i64 0,.int .i64 0,.int .i64 0]∧tints Tryz.prog 81=some 5∧tfield Tryz.prog 81 0=some (0,3)∧tfield Tryz.prog 81 1=some (1,3)∧tfield Tryz.prog 81 2=some (2,3)∧tfield Tryz.prog 81 3=some (3,3)∧tfield Tryz.prog 81 4=some (4,3):=by and_intros<;>kernel_rfl
theorem ft82:tsz Tryz.prog 82=some 1∧tbytes Tryz.prog 82=some 8∧tagg Tryz.prog 82=some false∧tslice Tryz.prog 82=none∧tzero Tryz.prog 82=some [.nilFunc]:=by and_intros<;>kernel_rfl
theorem ft83:tsz Tryz.prog 83=some 1∧tbytes Tryz.prog 83=some 8∧tagg Tryz.prog 83=some false∧tslice Tryz.prog 83=none∧tzero Tryz.prog 83=some [.nilFunc]:=by and_intros<;>kernel_rfl
theorem ft84:tsz Tryz.prog 84=some 1∧tbytes Tryz.prog 84=some 8∧tagg Tryz.prog 84=some false∧tslice Tryz.prog 84=none∧tzero Tryz.prog 84=some [.nilFunc]:=by and_intros<;>kernel_rfl
theorem ft85:tsz Tryz.prog 85=some 1∧tbytes Tryz.prog 85=some 8∧tagg Tryz.prog 85=some false∧tslice Tryz.prog 85=none∧tzero Tryz.prog 85=some [.nilFunc]:=by and_intros<;>kernel_rfl
theorem ft86:tsz Tryz.prog 86=some 1∧tbytes Tryz.prog 86=some 8∧tagg Tryz.prog 86=some false∧tslice Tryz.prog 86=none∧tzero Tryz.prog 86=some [.nilFunc]:=by and_intros<;>kernel_rfl
theorem ft87:tsz Tryz.prog 87=some 1∧tbytes Tryz.prog 87=some 8∧tagg Tryz.prog 87=some false∧tslice Tryz.prog 87=none∧tzero Tryz.prog 87=some [.nilFunc]:=by and_intros<;>kernel_rfl
theorem ft88:tsz Tryz.prog 88=some 1∧tbytes Tryz.prog 88=some 8∧tagg Tryz.prog 88=some false∧tslice Tryz.prog 88=none∧tzero Tryz.prog 88=some [.nilFunc]:=by and_intros<;>kernel_rfl
theorem ft89:tsz Tryz.prog 89=some 1∧tbytes Tryz.prog 89=some 8∧tagg Tryz.prog 89=some false∧tslice Tryz.prog 89=none∧tzero Tryz.prog 89=some [.nilFunc]:=by and_intros<;>kernel_rfl
theorem ft90:tsz Tryz.prog 90=some 1∧tbytes Tryz.prog 90=some 8∧tagg Tryz.prog 90=some false∧tslice Tryz.prog 90=none∧tzero Tryz.prog 90=some [.nilFunc]:=by and_intros<;>kernel_rfl
theorem ft91:tsz Tryz.prog 91=some 1∧tbytes Tryz.prog 91=some 8∧tagg Tryz.prog 91=some false∧tslice Tryz.prog 91=none∧tzero Tryz.prog 91=some [.nilFunc]:=by and_intros<;>kernel_rfl
theorem ft92:tsz Tryz.prog 92=some 1∧tbytes Tryz.prog 92=some 8∧tagg Tryz.prog 92=some false∧tslice Tryz.prog 92=none∧tzero Tryz.prog 92=some [.nilFunc]:=by and_intros<;>kernel_rfl
theorem ft93:tsz Tryz.prog 93=some 1∧tbytes Tryz.prog 93=some 8∧tagg Tryz.prog 93=some false∧tslice Tryz.prog 93=none∧tzero Tryz.prog 93=some [.nilFunc]:=by and_intros<;>kernel_rfl
theorem ft94:tsz Tryz.prog 94=some 1∧tbytes Tryz.prog 94=some 8∧tagg Tryz.prog 94=some false∧tslice Tryz.prog 94=none∧tzero Tryz.prog 94=some [.nilFunc]:=by and_intros<;>kernel_rfl
theorem ft95:tsz Tryz.prog 95=some 1∧tbytes Tryz.prog 95=some 8∧tagg Tryz.prog 95=some false∧tslice Tryz.prog 95=none∧tzero Tryz.prog 95=some [.nilFunc]:=by and_intros<;>kernel_rfl
theorem ft96:tsz Tryz.prog 96=some 1∧tbytes Tryz.prog 96=some 8∧tagg Tryz.prog 96=some false∧tslice Tryz.prog 96=none∧tzero Tryz.prog 96=some [.nilFunc]:=by and_intros<;>kernel_rfl
theorem ft97:tsz Tryz.prog 97=some 1∧tbytes Tryz.prog 97=some 8∧tagg Tryz.prog 97=some false∧tslice Tryz.prog 97=none∧tzero Tryz.prog 97=some [.pointer none]:=by and_intros<;>kernel_rfl
theorem ft98:tsz Tryz.prog 98=some 1∧tbytes Tryz.prog 98=some 8∧tagg Tryz.prog 98=some false∧tslice Tryz.prog 98=none∧tzero Tryz.prog 98=some [.nilFunc]:=by and_intros<;>kernel_rfl
theorem ft99:tsz Tryz.prog 99=some 3∧tbytes Tryz.prog 99=some 72∧tagg Tryz.prog 99=some true∧tslice Tryz.prog 99=none∧tzero Tryz.prog 99=some [.slice none 0 0,.slice none 0 0,.slice none 0 0]∧tstruct Tryz.prog 99=some [.slice none 0 0,.slice none 0 0,.slice none 0 0]∧tfield Tryz.prog 99 0=some (0,29)∧tfield Tryz.prog 99 1=some (2,42):=by and_intros<;>kernel_rfl
theorem ft100:tsz Tryz.prog 100=some 3∧tbytes Tryz.prog 100=some 72∧tagg Tryz.prog 100=some true∧tslice Tryz.prog 100=none∧tzero Tryz.prog 100=some [.slice none 0 0,.slice none 0 0,.slice none 0 0]∧tstruct Tryz.prog 100=some [.slice none 0 0,.slice none 0 0,.slice none 0 0]∧tfield Tryz.prog 100 0=some (0,29)∧tfield Tryz.prog 100 1=some (2,42):=by and_intros<;>kernel_rfl
theorem ft101:tsz Tryz.prog 101=some 1∧tbytes Tryz.prog 101=some 8∧tagg Tryz.prog 101=some false∧tslice Tryz.prog 101=none∧tzero Tryz.prog 101=some [.nilFunc]:=by and_intros<;>kernel_rfl
theorem ft102:tsz Tryz.prog 102=some 4∧tbytes Tryz.prog 102=some 80∧tagg Tryz.prog 102=some true∧tslice Tryz.prog 102=none∧tzero Tryz.prog 102=some [.int .i64 0,.slice none 0 0,.slice none 0 0,.slice none 0 0]∧tstruct Tryz.prog 102=some [.int .i64 0,.slice none 0 0,.slice none 0 0,.slice none 0 0]∧tfield Tryz.prog 102 0=some (0,3)∧tfield Tryz.prog 102 1=some (1,23)∧tfield Tryz.prog 102 2=some (2,29):=by and_intros<;>kernel_rfl
theorem ft103:tsz Tryz.prog 103=some 4∧tbytes Tryz.prog 103=some 80∧tagg Tryz.prog 103=some true∧tslice Tryz.prog 103=none∧tzero Tryz.prog 103=some [.int .i64 0,.slice none 0 0,.slice none 0 0,.slice none 0 0]∧tstruct Tryz.prog 103=some [.int .i64 0,.slice none 0 0,.slice none 0 0,.slice none 0 0]∧tfield Tryz.prog 103 0=some (0,3)∧tfield Tryz.prog 103 1=some (1,23)∧tfield Tryz.prog 103 2=some (2,29):=by and_intros<;>kernel_rfl
theorem ft104:tsz Tryz.prog 104=some 1∧tbytes Tryz.prog 104=some 0∧tagg Tryz.prog 104=some false∧tslice Tryz.prog 104=none:=by and_intros<;>kernel_rfl
theorem ft105:tsz Tryz.prog 105=some 1∧tbytes Tryz.prog 105=some 8∧tagg Tryz.prog 105=some false∧tslice Tryz.prog 105=none∧tzero Tryz.prog 105=some [.nilFunc]:=by and_intros<;>kernel_rfl
theorem ft106:tsz Tryz.prog 106=some 1∧tbytes Tryz.prog 106=some 8∧tagg Tryz.prog 106=some false∧tslice Tryz.prog 106=none∧tzero Tryz.prog 106=some [.nilFunc]:=by and_intros<;>kernel_rfl
theorem ft107:tsz Tryz.prog 107=some 1∧tbytes Tryz.prog 107=some 8∧tagg Tryz.prog 107=some false∧tslice Tryz.prog 107=none∧tzero Tryz.prog 107=some [.pointer none]:=by and_intros<;>kernel_rfl
theorem ft108:tsz Tryz.prog 108=some 1∧tbytes Tryz.prog 108=some 8∧tagg Tryz.prog 108=some false∧tslice Tryz.prog 108=none∧tzero Tryz.prog 108=some [.nilFunc]:=by and_intros<;>kernel_rfl
theorem ft109:tsz Tryz.prog 109=some 1∧tbytes Tryz.prog 109=some 8∧tagg Tryz.prog 109=some false∧tslice Tryz.prog 109=none∧tzero Tryz.prog 109=some [.nilFunc]:=by and_intros<;>kernel_rfl
theorem ft110:tsz Tryz.prog 110=some 1∧tbytes Tryz.prog 110=some 8∧tagg Tryz.prog 110=some false∧tslice Tryz.prog 110=none∧tzero Tryz.prog 110=some [.nilFunc]:=by and_intros<;>kernel_rfl
theorem ft111:tsz Tryz.prog 111=some 2∧tbytes Tryz.prog 111=some 16∧tagg Tryz.prog 111=some true∧tslice Tryz.prog 111=none∧tzero Tryz.prog 111=some [.int .i64 0,.int .i64 0]∧tstruct Tryz.prog 111=some [.int .i64 0,.int .i64 0]∧tints Tryz.prog 111=some 2∧tfield Tryz.prog 111 0=some (0,3)∧tfield Tryz.prog 111 1=some (1,3):=by and_intros<;>kernel_rfl
theorem ft112:tsz Tryz.prog 112=some 2∧tbytes Tryz.prog 112=some 16∧tagg Tryz.prog 112=some true∧tslice Tryz.prog 112=none∧tzero Tryz.prog 112=some [.int .i64 0,.int .i64 0]∧tstruct Tryz.prog 112=some [.int .i64 0,.int .i64 0]∧tints Tryz.prog 112=some 2∧tfield Tryz.prog 112 0=some (0,3)∧tfield Tryz.prog 112 1=some (1,3):=by and_intros<;>kernel_rfl
theorem ft113:tsz Tryz.prog 113=some 1∧tbytes Tryz.prog 113=some 8∧tagg Tryz.prog 113=some false∧tslice Tryz.prog 113=none∧tzero Tryz.prog 113=some [.nilFunc]:=by and_intros<;>kernel_rfl
theorem ft114:tsz Tryz.prog 114=some 1∧tbytes Tryz.prog 114=some 8∧tagg Tryz.prog 114=some false∧tslice Tryz.prog 114=none∧tzero Tryz.prog 114=some [.nilFunc]:=by and_intros<;>kernel_rfl
theorem ft115:tsz Tryz.prog 115=some 1∧tbytes Tryz.prog 115=some 0∧tagg Tryz.prog 115=some false∧tslice Tryz.prog 115=none:=by and_intros<;>kernel_rfl
theorem ft116:tsz Tryz.prog 116=some 1∧tbytes Tryz.prog 116=some 8∧tagg Tryz.prog 116=some false∧tslice Tryz.prog 116=none∧tzero Tryz.prog 116=some [.nilFunc]:=by and_intros<;>kernel_rfl
theorem ft117:tsz Tryz.prog 117=some 1∧tbytes Tryz.prog 117=some 8∧tagg Tryz.prog 117=some false∧tslice Tryz.prog 117=none∧tzero Tryz.prog 117=some [.nilFunc]:=by and_intros<;>kernel_rfl
theorem ft118:tsz Tryz.prog 118=some 1∧tbytes Tryz.prog 118=some 8∧tagg Tryz.prog 118=some false∧tslice Tryz.prog 118=none∧tzero Tryz.prog 118=some [.nilFunc]:=by and_intros<;>kernel_rfl
theorem ft119:tsz Tryz.prog 119=some 1∧tbytes Tryz.prog 119=some 8∧tagg Tryz.prog 119=some false∧tslice Tryz.prog 119=none∧tzero Tryz.prog 119=some [.nilFunc]:=by and_intros<;>kernel_rfl
theorem ft120:tsz Tryz.prog 120=some 1∧tbytes Tryz.prog 120=some 8∧tagg Tryz.prog 120=some false∧tslice Tryz.prog 120=none∧tzero Tryz.prog 120=some [.nilFunc]:=by and_intros<;>kernel_rfl
theorem ft121:tsz Tryz.prog 121=some 1∧tbytes Tryz.prog 121=some 24∧tagg Tryz.prog 121=some false∧tslice Tryz.prog 121=some 42∧tzero Tryz.prog 121=some [.slice none 0 0]:=by and_intros<;>kernel_rfl
theorem ft122:tsz Tryz.prog 122=some 1∧tbytes Tryz.prog 122=some 8∧tagg Tryz.prog 122=some false∧tslice Tryz.prog 122=none∧tzero Tryz.prog 122=some [.nilFunc]:=by and_intros<;>kernel_rfl
theorem ft123:tsz Tryz.prog 123=some 1∧tbytes Tryz.prog 123=some 8∧tagg Tryz.prog 123=some false∧tslice Tryz.prog 123=none∧tzero Tryz.prog 123=some [.nilFunc]:=by and_intros<;>kernel_rfl
theorem ft124:tsz Tryz.prog 124=some 1∧tbytes Tryz.prog 124=some 8∧tagg Tryz.prog 124=some false∧tslice Tryz.prog 124=none∧tzero Tryz.prog 124=some [.nilFunc]:=by and_intros<;>kernel_rfl
theorem ft125:tsz Tryz.prog 125=some 1∧tbytes Tryz.prog 125=some 8∧tagg Tryz.prog 125=some false∧tslice Tryz.prog 125=none∧tzero Tryz.prog 125=some [.nilFunc]:=by and_intros<;>kernel_rfl
theorem ft126:tsz Tryz.prog 126=some 1∧tbytes Tryz.prog 126=some 24∧tagg Tryz.prog 126=some false∧tslice Tryz.prog 126=some 39∧tzero Tryz.prog 126=some [.slice none 0 0]:=by and_intros<;>kernel_rfl
theorem ft127:tsz Tryz.prog 127=some 1∧tbytes Tryz.prog 127=some 8∧tagg Tryz.prog 127=some false∧tslice Tryz.prog 127=none∧tzero Tryz.prog 127=some [.nilFunc]:=by and_intros<;>kernel_rfl
theorem ft128:tsz Tryz.prog 128=some 1∧tbytes Tryz.prog 128=some 8∧tagg Tryz.prog 128=some false∧tslice Tryz.prog 128=none∧tzero Tryz.prog 128=some [.nilFunc]:=by and_intros<;>kernel_rfl
theorem ft129:tsz Tryz.prog 129=some 1∧tbytes Tryz.prog 129=some 8∧tagg Tryz.prog 129=some false∧tslice Tryz.prog 129=none∧tzero Tryz.prog 129=some [.nilFunc]:=by and_intros<;>kernel_rfl
theorem ft130:tsz Tryz.prog 130=some 2∧tbytes Tryz.prog 130=some 32∧tagg Tryz.prog 130=some true∧tslice Tryz.prog 130=none∧tzero Tryz.prog 130=some [.slice none 0 0,.int .i64 0]∧tstruct Tryz.prog 130=some [.slice none 0 0,.int .i64 0]∧tfield Tryz.prog 130 0=some (0,22)∧tfield Tryz.prog 130 1=some (1,3):=by and_intros<;>kernel_rfl
theorem ft131:tsz Tryz.prog 131=some 2∧tbytes Tryz.prog 131=some 32∧tagg Tryz.prog 131=some true∧tslice Tryz.prog 131=none∧tzero Tryz.prog 131=some [.slice none 0 0,.int .i64 0]∧tstruct Tryz.prog 131=some [.slice none 0 0,.int .i64 0]∧tfield Tryz.prog 131 0=some (0,22)∧tfield Tryz.prog 131 1=some (1,3):=by and_intros<;>kernel_rfl
theorem ft132:tsz Tryz.prog 132=some 1∧tbytes Tryz.prog 132=some 8∧tagg Tryz.prog 132=some false∧tslice Tryz.prog 132=none∧tzero Tryz.prog 132=some [.nilFunc]:=by and_intros<;>kernel_rfl
theorem ft133:tsz Tryz.prog 133=some 1∧tbytes Tryz.prog 133=some 8∧tagg Tryz.prog 133=some false∧tslice Tryz.prog 133=none∧tzero Tryz.prog 133=some [.nilFunc]:=by and_intros<;>kernel_rfl
theorem ft134:tsz Tryz.prog 134=some 1∧tbytes Tryz.prog 134=some 24∧tagg Tryz.prog 134=some false∧tslice Tryz.prog 134=some 136∧tzero Tryz.prog 134=some [.slice none 0 0]:=by and_intros<;>kernel_rfl
theorem ft135:tsz Tryz.prog 135=some 3∧tbytes Tryz.prog 135=some 40∧tagg Tryz.prog 135=some true∧tslice Tryz.prog 135=none∧tzero Tryz.prog 135=some [.int .i64 0,.int .i64 0,.slice none 0 0]∧tstruct Tryz.prog 135=some [.int .i64 0,.int .i64 0,.slice none 0 0]∧tfield Tryz.prog 135 0=some (0,3)∧tfield Tryz.prog 135 1=some (1,3)∧tfield Tryz.prog 135 2=some (2,134):=by and_intros<;>kernel_rfl
theorem ft136:tsz Tryz.prog 136=some 3∧tbytes Tryz.prog 136=some 40∧tagg Tryz.prog 136=some true∧tslice Tryz.prog 136=none∧tzero Tryz.prog 136=some [.int .i64 0,.int .i64 0,.slice none 0 0]∧tstruct Tryz.prog 136=some [.int .i64 0,.int .i64 0,.slice none 0 0]∧tfield Tryz.prog 136 0=some (0,3)∧tfield Tryz.prog 136 1=some (1,3)∧tfield Tryz.prog 136 2=some (2,134):=by and_intros<;>kernel_rfl
theorem ft137:tsz Tryz.prog 137=some 11∧tbytes Tryz.prog 137=some 152∧tagg Tryz.prog 137=some true∧tslice Tryz.prog 137=none∧tzero Tryz.prog 137=some [.int .i64 0,.int .i64 0,.int .i64 0,.int .i64 0,.slice none 0 0,.int .i64 0,.int .i64 0,.slice none 0 0,.int .i64 0,.slice none 0 0,.slice none 0 0]∧tstruct Tryz.prog 137=some [.int .i64 0,.int .i64 0,.int .i64 0,.int .i64 0,.slice none 0 0,.int .i64 0,.int .i64 0,.slice none 0 0,.int .i64 0,.slice none 0 0,.slice none 0 0]∧tfield Tryz.prog 137 0=some (0,3)∧tfield Tryz.prog 137 1=some (1,3)∧tfield Tryz.prog 137 2=some (2,136)∧tfield Tryz.prog 137 3=some (5,136)∧tfield Tryz.prog 137 4=some (8,3)∧tfield Tryz.prog 137 5=some (9,24)∧tfield Tryz.prog 137 6=some (10,24):=by and_intros<;>kernel_rfl
theorem ft138:tsz Tryz.prog 138=some 11∧tbytes Tryz.prog 138=some 152∧tagg Tryz.prog 138=some true∧tslice Tryz.prog 138=none∧tzero Tryz.prog 138=some [.int .i64 0,.int .i64 0,.int .i64 0,.int .i64 0,.slice none 0 0,.int .i64 0,.int .i64 0,.slice none 0 0,.int .i64 0,.slice none 0 0,.slice none 0 0]∧tstruct Tryz.prog 138=some [.int .i64 0,.int .i64 0,.int .i64 0,.int .i64 0,.slice none 0 0,.int .i64 0,.int .i64 0,.slice none 0 0,.int .i64 0,.slice none 0 0,.slice none 0 0]∧tfield Tryz.prog 138 0=some (0,3)∧tfield Tryz.prog 138 1=some (1,3)∧tfield Tryz.prog 138 2=some (2,136)∧tfield Tryz.prog 138 3=some (5,136)∧tfield Tryz.prog 138 4=some (8,3)∧tfield Tryz.prog 138 5=some (9,24)∧tfield Tryz.prog 138 6=some (10,24):=by and_intros<;>kernel_rfl
theorem ft139:tsz Tryz.prog 139=some 1∧tbytes Tryz.prog 139=some 8∧tagg Tryz.prog 139=some false∧tslice Tryz.prog 139=none∧tzero Tryz.prog 139=some [.nilFunc]:=by and_intros<;>kernel_rfl
theorem ft140:tsz Tryz.prog 140=some 1∧tbytes Tryz.prog 140=some 8∧tagg Tryz.prog 140=some false∧tslice Tryz.prog 140=none∧tzero Tryz.prog 140=some [.nilFunc]:=by and_intros<;>kernel_rfl
theorem ft141:tsz Tryz.prog 141=some 1∧tbytes Tryz.prog 141=some 8∧tagg Tryz.prog 141=some false∧tslice Tryz.prog 141=none∧tzero Tryz.prog 141=some [.nilFunc]:=by and_intros<;>kernel_rfl
theorem ft142:tsz Tryz.prog 142=some 1∧tbytes Tryz.prog 142=some 8∧tagg Tryz.prog 142=some false∧tslice Tryz.prog 142=none∧tzero Tryz.prog 142=some [.nilFunc]:=by and_intros<;>kernel_rfl
theorem ft143:tsz Tryz.prog 143=some 1∧tbytes Tryz.prog 143=some 8∧tagg Tryz.prog 143=some false∧tslice Tryz.prog 143=none∧tzero Tryz.prog 143=some [.nilFunc]:=by and_intros<;>kernel_rfl
theorem ft144:tsz Tryz.prog 144=some 1∧tbytes Tryz.prog 144=some 8∧tagg Tryz.prog 144=some false∧tslice Tryz.prog 144=none∧tzero Tryz.prog 144=some [.nilFunc]:=by and_intros<;>kernel_rfl
theorem ft145:tsz Tryz.prog 145=some 1∧tbytes Tryz.prog 145=some 8∧tagg Tryz.prog 145=some false∧tslice Tryz.prog 145=none∧tzero Tryz.prog 145=some [.nilFunc]:=by and_intros<;>kernel_rfl
theorem ft146:tsz Tryz.prog 146=some 1∧tbytes Tryz.prog 146=some 8∧tagg Tryz.prog 146=some false∧tslice Tryz.prog 146=none∧tzero Tryz.prog 146=some [.nilFunc]:=by and_intros<;>kernel_rfl
theorem ft147:tsz Tryz.prog 147=some 1∧tbytes Tryz.prog 147=some 8∧tagg Tryz.prog 147=some false∧tslice Tryz.prog 147=none∧tzero Tryz.prog 147=some [.nilFunc]:=by and_intros<;>kernel_rfl
theorem ft148:tsz Tryz.prog 148=some 1∧tbytes Tryz.prog 148=some 8∧tagg Tryz.prog 148=some false∧tslice Tryz.prog 148=none∧tzero Tryz.prog 148=some [.nilFunc]:=by and_intros<;>kernel_rfl
theorem ft149:tsz Tryz.prog 149=some 1∧tbytes Tryz.prog 149=some 8∧tagg Tryz.prog 149=some false∧tslice Tryz.prog 149=none∧tzero Tryz.prog 149=some [.nilFunc]:=by and_intros<;>kernel_rfl
theorem ft150:tsz Tryz.prog 150=some 1∧tbytes Tryz.prog 150=some 8∧tagg Tryz.prog 150=some false∧tslice Tryz.prog 150=none∧tzero Tryz.prog 150=some [.nilFunc]:=by and_intros<;>kernel_rfl
theorem ft151:tsz Tryz.prog 151=some 1∧tbytes Tryz.prog 151=some 8∧tagg Tryz.prog 151=some false∧tslice Tryz.prog 151=none∧tzero Tryz.prog 151=some [.nilFunc]:=by and_intros<;>kernel_rfl
theorem ft152:tsz Tryz.prog 152=some 1∧tbytes Tryz.prog 152=some 8∧tagg Tryz.prog 152=some false∧tslice Tryz.prog 152=none∧tzero Tryz.prog 152=some [.nilFunc]:=by and_intros<;>kernel_rfl
theorem ft153:tsz Tryz.prog 153=some 1∧tbytes Tryz.prog 153=some 8∧tagg Tryz.prog 153=some false∧tslice Tryz.prog 153=none∧tzero Tryz.prog 153=some [.nilFunc]:=by and_intros<;>kernel_rfl
theorem ft154:tsz Tryz.prog 154=some 1∧tbytes Tryz.prog 154=some 8∧tagg Tryz.prog 154=some false∧tslice Tryz.prog 154=none∧tzero Tryz.prog 154=some [.nilFunc]:=by and_intros<;>kernel_rfl
theorem ft155:tsz Tryz.prog 155=some 1∧tbytes Tryz.prog 155=some 8∧tagg Tryz.prog 155=some false∧tslice Tryz.prog 155=none∧tzero Tryz.prog 155=some [.nilFunc]:=by and_intros<;>kernel_rfl
theorem ft156:tsz Tryz.prog 156=some 1∧tbytes Tryz.prog 156=some 8∧tagg Tryz.prog 156=some false∧tslice Tryz.prog 156=none∧tzero Tryz.prog 156=some [.nilFunc]:=by and_intros<;>kernel_rfl
theorem ft157:tsz Tryz.prog 157=some 1∧tbytes Tryz.prog 157=some 8∧tagg Tryz.prog 157=some false∧tslice Tryz.prog 157=none∧tzero Tryz.prog 157=some [.nilFunc]:=by and_intros<;>kernel_rfl
theorem ft158:tsz Tryz.prog 158=some 1∧tbytes Tryz.prog 158=some 8∧tagg Tryz.prog 158=some false∧tslice Tryz.prog 158=none∧tzero Tryz.prog 158=some [.nilFunc]:=by and_intros<;>kernel_rfl
theorem ft159:tsz Tryz.prog 159=some 1∧tbytes Tryz.prog 159=some 8∧tagg Tryz.prog 159=some false∧tslice Tryz.prog 159=none∧tzero Tryz.prog 159=some [.nilFunc]:=by and_intros<;>kernel_rfl
theorem ft160:tsz Tryz.prog 160=some 1∧tbytes Tryz.prog 160=some 8∧tagg Tryz.prog 160=some false∧tslice Tryz.prog 160=none∧tzero Tryz.prog 160=some [.nilFunc]:=by and_intros<;>kernel_rfl
theorem ft161:tsz Tryz.prog 161=some 1∧tbytes Tryz.prog 161=some 8∧tagg Tryz.prog 161=some false∧tslice Tryz.prog 161=none∧tzero Tryz.prog 161=some [.nilFunc]:=by and_intros<;>kernel_rfl
theorem ft162:tsz Tryz.prog 162=some 1∧tbytes Tryz.prog 162=some 8∧tagg Tryz.prog 162=some false∧tslice Tryz.prog 162=none∧tzero Tryz.prog 162=some [.nilFunc]:=by and_intros<;>kernel_rfl
theorem ft163:tsz Tryz.prog 163=some 1∧tbytes Tryz.prog 163=some 8∧tagg Tryz.prog 163=some false∧tslice Tryz.prog 163=none∧tzero Tryz.prog 163=some [.nilFunc]:=by and_intros<;>kernel_rfl
theorem ft164:tsz Tryz.prog 164=some 1∧tbytes Tryz.prog 164=some 8∧tagg Tryz.prog 164=some false∧tslice Tryz.prog 164=none∧tzero Tryz.prog 164=some [.nilFunc]:=by and_intros<;>kernel_rfl
theorem ft165:tsz Tryz.prog 165=some 1∧tbytes Tryz.prog 165=some 8∧tagg Tryz.prog 165=some false∧tslice Tryz.prog 165=none∧tzero Tryz.prog 165=some [.nilFunc]:=by and_intros<;>kernel_rfl
theorem ft166:tsz Tryz.prog 166=some 1∧tbytes Tryz.prog 166=some 8∧tagg Tryz.prog 166=some false∧tslice Tryz.prog 166=none∧tzero Tryz.prog 166=some [.nilFunc]:=by and_intros<;>kernel_rfl
theorem ft167:tsz Tryz.prog 167=some 1∧tbytes Tryz.prog 167=some 8∧tagg Tryz.prog 167=some false∧tslice Tryz.prog 167=none∧tzero Tryz.prog 167=some [.nilFunc]:=by and_intros<;>kernel_rfl
theorem ft168:tsz Tryz.prog 168=some 1∧tbytes Tryz.prog 168=some 8∧tagg Tryz.prog 168=some false∧tslice Tryz.prog 168=none∧tzero Tryz.prog 168=some [.nilFunc]:=by and_intros<;>kernel_rfl
theorem ft169:tsz Tryz.prog 169=some 1∧tbytes Tryz.prog 169=some 8∧tagg Tryz.prog 169=some false∧tslice Tryz.prog 169=none∧tzero Tryz.prog 169=some [.pointer none]:=by and_intros<;>kernel_rfl
theorem ft170:tsz Tryz.prog 170=some 1∧tbytes Tryz.prog 170=some 8∧tagg Tryz.prog 170=some false∧tslice Tryz.prog 170=none∧tzero Tryz.prog 170=some [.nilFunc]:=by and_intros<;>kernel_rfl
theorem ft171:tsz Tryz.prog 171=some 1∧tbytes Tryz.prog 171=some 8∧tagg Tryz.prog 171=some false∧tslice Tryz.prog 171=none∧tzero Tryz.prog 171=some [.nilFunc]:=by and_intros<;>kernel_rfl
theorem ft172:tsz Tryz.prog 172=some 1∧tbytes Tryz.prog 172=some 8∧tagg Tryz.prog 172=some false∧tslice Tryz.prog 172=none∧tzero Tryz.prog 172=some [.nilFunc]:=by and_intros<;>kernel_rfl
theorem ft173:tsz Tryz.prog 173=some 1∧tbytes Tryz.prog 173=some 8∧tagg Tryz.prog 173=some false∧tslice Tryz.prog 173=none∧tzero Tryz.prog 173=some [.nilFunc]:=by and_intros<;>kernel_rfl
theorem ft174:tsz Tryz.prog 174=some 1∧tbytes Tryz.prog 174=some 8∧tagg Tryz.prog 174=some false∧tslice Tryz.prog 174=none∧tzero Tryz.prog 174=some [.nilFunc]:=by and_intros<;>kernel_rfl
theorem ft175:tsz Tryz.prog 175=some 1∧tbytes Tryz.prog 175=some 8∧tagg Tryz.prog 175=some false∧tslice Tryz.prog 175=none∧tzero Tryz.prog 175=some [.nilFunc]:=by and_intros<;>kernel_rfl
theorem ft176:tsz Tryz.prog 176=some 1∧tbytes Tryz.prog 176=some 8∧tagg Tryz.prog 176=some false∧tslice Tryz.prog 176=none∧tzero Tryz.prog 176=some [.nilFunc]:=by and_intros<;>kernel_rfl
theorem ft177:tsz Tryz.prog 177=some 1∧tbytes Tryz.prog 177=some 8∧tagg Tryz.prog 177=some false∧tslice Tryz.prog 177=none∧tzero Tryz.prog 177=some [.nilFunc]:=by and_intros<;>kernel_rfl
theorem ft178:tsz Tryz.prog 178=some 1∧tbytes Tryz.prog 178=some 8∧tagg Tryz.prog 178=some false∧tslice Tryz.prog 178=none∧tzero Tryz.prog 178=some [.nilFunc]:=by and_intros<;>kernel_rfl
theorem ft179:tsz Tryz.prog 179=some 1∧tbytes Tryz.prog 179=some 8∧tagg Tryz.prog 179=some false∧tslice Tryz.prog 179=none∧tzero Tryz.prog 179=some [.nilFunc]:=by and_intros<;>kernel_rfl
theorem ft180:tsz Tryz.prog 180=some 1∧tbytes Tryz.prog 180=some 8∧tagg Tryz.prog 180=some false∧tslice Tryz.prog 180=none∧tzero Tryz.prog 180=some [.nilFunc]:=by and_intros<;>kernel_rfl
theorem ft181:tsz Tryz.prog 181=some 1∧tbytes Tryz.prog 181=some 8∧tagg Tryz.prog 181=some false∧tslice Tryz.prog 181=none∧tzero Tryz.prog 181=some [.nilFunc]:=by and_intros<;>kernel_rfl
theorem ft182:tsz Tryz.prog 182=some 1∧tbytes Tryz.prog 182=some 8∧tagg Tryz.prog 182=some false∧tslice Tryz.prog 182=none∧tzero Tryz.prog 182=some [.nilFunc]:=by and_intros<;>kernel_rfl
theorem ft184:tsz Tryz.prog 184=some 1∧tbytes Tryz.prog 184=some 8∧tagg Tryz.prog 184=some false∧tslice Tryz.prog 184=none∧tzero Tryz.prog 184=some [.nilFunc]:=by and_intros<;>kernel_rfl
theorem ft185:tsz Tryz.prog 185=some 1∧tbytes Tryz.prog 185=some 8∧tagg Tryz.prog 185=some false∧tslice Tryz.prog 185=none∧tzero Tryz.prog 185=some [.nilFunc]:=by and_intros<;>kernel_rfl
theorem ft186:tsz Tryz.prog 186=some 1∧tbytes Tryz.prog 186=some 0∧tagg Tryz.prog 186=some false∧tslice Tryz.prog 186=none:=by and_intros<;>kernel_rfl
theorem ft188:tsz Tryz.prog 188=some 1∧tbytes Tryz.prog 188=some 8∧tagg Tryz.prog 188=some false∧tslice Tryz.prog 188=none∧tzero Tryz.prog 188=some [.nilFunc]:=by and_intros<;>kernel_rfl
theorem ft189:tsz Tryz.prog 189=some 1∧tbytes Tryz.prog 189=some 8∧tagg Tryz.prog 189=some false∧tslice Tryz.prog 189=none∧tzero Tryz.prog 189=some [.nilFunc]:=by and_intros<;>kernel_rfl
theorem ft190:tsz Tryz.prog 190=some 1∧tbytes Tryz.prog 190=some 8∧tagg Tryz.prog 190=some false∧tslice Tryz.prog 190=none∧tzero Tryz.prog 190=some [.nilFunc]:=by and_intros<;>kernel_rfl
theorem ft191:tsz Tryz.prog 191=some 1∧tbytes Tryz.prog 191=some 8∧tagg Tryz.prog 191=some false∧tslice Tryz.prog 191=none∧tzero Tryz.prog 191=some [.nilFunc]:=by and_intros<;>kernel_rfl
theorem ft192:tsz Tryz.prog 192=some 1∧tbytes Tryz.prog 192=some 8∧tagg Tryz.prog 192=some false∧tslice Tryz.prog 192=none∧tzero Tryz.prog 192=some [.nilFunc]:=by and_intros<;>kernel_rfl
theorem ft193:tsz Tryz.prog 193=some 1∧tbytes Tryz.prog 193=some 8∧tagg Tryz.prog 193=some false∧tslice Tryz.prog 193=none∧tzero Tryz.prog 193=some [.nilFunc]:=by and_intros<;>kernel_rfl
theorem ft194:tsz Tryz.prog 194=some 1∧tbytes Tryz.prog 194=some 24∧tagg Tryz.prog 194=some false∧tslice Tryz.prog 194=some 9∧tzero Tryz.prog 194=some [.slice none 0 0]:=by and_intros<;>kernel_rfl
theorem ft195:tsz Tryz.prog 195=some 1∧tbytes Tryz.prog 195=some 8∧tagg Tryz.prog 195=some false∧tslice Tryz.prog 195=none∧tzero Tryz.prog 195=some [.nilFunc]:=by and_intros<;>kernel_rfl
theorem ft196:tsz Tryz.prog 196=some 1∧tbytes Tryz.prog 196=some 8∧tagg Tryz.prog 196=some false∧tslice Tryz.prog 196=none∧tzero Tryz.prog 196=some [.nilFunc]:=by and_intros<;>kernel_rfl
theorem ft197:tsz Tryz.prog 197=some 4∧tbytes Tryz.prog 197=some 96∧tagg Tryz.prog 197=some true∧tslice Tryz.prog 197=none∧tzero Tryz.prog 197=some [.slice none 0 0,.slice none 0 0,.slice none 0 0,.slice none 0 0]∧tstruct Tryz.prog 197=some [.slice none 0 0,.slice none 0 0,.slice none 0 0,.slice none 0 0]∧tfield Tryz.prog 197 0=some (0,26)∧tfield Tryz.prog 197 1=some (3,24):=by and_intros<;>kernel_rfl
theorem ft198:tsz Tryz.prog 198=some 4∧tbytes Tryz.prog 198=some 96∧tagg Tryz.prog 198=some true∧tslice Tryz.prog 198=none∧tzero Tryz.prog 198=some [.slice none 0 0,.slice none 0 0,.slice none 0 0,.slice none 0 0]∧tstruct Tryz.prog 198=some [.slice none 0 0,.slice none 0 0,.slice none 0 0,.slice none 0 0]∧tfield Tryz.prog 198 0=some (0,26)∧tfield Tryz.prog 198 1=some (3,24):=by and_intros<;>kernel_rfl
theorem ft199:tsz Tryz.prog 199=some 1∧tbytes Tryz.prog 199=some 8∧tagg Tryz.prog 199=some false∧tslice Tryz.prog 199=none∧tzero Tryz.prog 199=some [.nilFunc]:=by and_intros<;>kernel_rfl
theorem ft200:tsz Tryz.prog 200=some 1∧tbytes Tryz.prog 200=some 8∧tagg Tryz.prog 200=some false∧tslice Tryz.prog 200=none∧tzero Tryz.prog 200=some [.nilFunc]:=by and_intros<;>kernel_rfl
theorem ft201:tsz Tryz.prog 201=some 1∧tbytes Tryz.prog 201=some 8∧tagg Tryz.prog 201=some false∧tslice Tryz.prog 201=none∧tzero Tryz.prog 201=some [.nilFunc]:=by and_intros<;>kernel_rfl
theorem ft202:tsz Tryz.prog 202=some 1∧tbytes Tryz.prog 202=some 8∧tagg Tryz.prog 202=some false∧tslice Tryz.prog 202=none∧tzero Tryz.prog 202=some [.nilFunc]:=by and_intros<;>kernel_rfl
theorem ft203:tsz Tryz.prog 203=some 1∧tbytes Tryz.prog 203=some 8∧tagg Tryz.prog 203=some false∧tslice Tryz.prog 203=none∧tzero Tryz.prog 203=some [.nilFunc]:=by and_intros<;>kernel_rfl
theorem ft204:tsz Tryz.prog 204=some 1∧tbytes Tryz.prog 204=some 8∧tagg Tryz.prog 204=some false∧tslice Tryz.prog 204=none∧tzero Tryz.prog 204=some [.nilFunc]:=by and_intros<;>kernel_rfl
theorem ft205:tsz Tryz.prog 205=some 1∧tbytes Tryz.prog 205=some 8∧tagg Tryz.prog 205=some false∧tslice Tryz.prog 205=none∧tzero Tryz.prog 205=some [.nilFunc]:=by and_intros<;>kernel_rfl
theorem ft206:tsz Tryz.prog 206=some 1∧tbytes Tryz.prog 206=some 8∧tagg Tryz.prog 206=some false∧tslice Tryz.prog 206=none∧tzero Tryz.prog 206=some [.nilFunc]:=by and_intros<;>kernel_rfl
theorem ft207:tsz Tryz.prog 207=some 1∧tbytes Tryz.prog 207=some 8∧tagg Tryz.prog 207=some false∧tslice Tryz.prog 207=none∧tzero Tryz.prog 207=some [.nilFunc]:=by and_intros<;>kernel_rfl
theorem ft208:tsz Tryz.prog 208=some 1∧tbytes Tryz.prog 208=some 8∧tagg Tryz.prog 208=some false∧tslice Tryz.prog 208=none∧tzero Tryz.prog 208=some [.nilFunc]:=by and_intros<;>kernel_rfl
theorem ft209:tsz Tryz.prog 209=some 1∧tbytes Tryz.prog 209=some 0∧tagg Tryz.prog 209=some false∧tslice Tryz.prog 209=none:=by and_intros<;>kernel_rfl
theorem ft210:tsz Tryz.prog 210=some 1∧tbytes Tryz.prog 210=some 8∧tagg Tryz.prog 210=some false∧tslice Tryz.prog 210=none∧tzero Tryz.prog 210=some [.nilFunc]:=by and_intros<;>kernel_rfl
theorem ft211:tsz Tryz.prog 211=some 1∧tbytes Tryz.prog 211=some 0∧tagg Tryz.prog 211=some false∧tslice Tryz.prog 211=none:=by and_intros<;>kernel_rfl
theorem ft212:tsz Tryz.prog 212=some 1∧tbytes Tryz.prog 212=some 8∧tagg Tryz.prog 212=some false∧tslice Tryz.prog 212=none∧tzero Tryz.prog 212=some [.nilFunc]:=by and_intros<;>kernel_rfl
theorem ft213:tsz Tryz.prog 213=some 1∧tbytes Tryz.prog 213=some 8∧tagg Tryz.prog 213=some false∧tslice Tryz.prog 213=none∧tzero Tryz.prog 213=some [.nilFunc]:=by and_intros<;>kernel_rfl
theorem ft214:tsz Tryz.prog 214=some 1∧tbytes Tryz.prog 214=some 8∧tagg Tryz.prog 214=some false∧tslice Tryz.prog 214=none∧tzero Tryz.prog 214=some [.nilFunc]:=by and_intros<;>kernel_rfl
theorem ft216:tsz Tryz.prog 216=some 1∧tbytes Tryz.prog 216=some 8∧tagg Tryz.prog 216=some false∧tslice Tryz.prog 216=none∧tzero Tryz.prog 216=some [.nilFunc]:=by and_intros<;>kernel_rfl
theorem ft217:tsz Tryz.prog 217=some 1∧tbytes Tryz.prog 217=some 8∧tagg Tryz.prog 217=some false∧tslice Tryz.prog 217=none∧tzero Tryz.prog 217=some [.nilFunc]:=by and_intros<;>kernel_rfl
theorem ft219:tsz Tryz.prog 219=some 1∧tbytes Tryz.prog 219=some 8∧tagg Tryz.prog 219=some false∧tslice Tryz.prog 219=none∧tzero Tryz.prog 219=some [.nilFunc]:=by and_intros<;>kernel_rfl
theorem ft220:tsz Tryz.prog 220=some 1∧tbytes Tryz.prog 220=some 8∧tagg Tryz.prog 220=some false∧tslice Tryz.prog 220=none∧tzero Tryz.prog 220=some [.nilFunc]:=by and_intros<;>kernel_rfl
theorem ft221:tsz Tryz.prog 221=some 1∧tbytes Tryz.prog 221=some 8∧tagg Tryz.prog 221=some false∧tslice Tryz.prog 221=none∧tzero Tryz.prog 221=some [.nilFunc]:=by and_intros<;>kernel_rfl
theorem ft222:tsz Tryz.prog 222=some 1∧tbytes Tryz.prog 222=some 8∧tagg Tryz.prog 222=some false∧tslice Tryz.prog 222=none∧tzero Tryz.prog 222=some [.nilFunc]:=by and_intros<;>kernel_rfl
theorem ft223:tsz Tryz.prog 223=some 1∧tbytes Tryz.prog 223=some 8∧tagg Tryz.prog 223=some false∧tslice Tryz.prog 223=none∧tzero Tryz.prog 223=some [.nilFunc]:=by and_intros<;>kernel_rfl
theorem ft224:tsz Tryz.prog 224=some 1∧tbytes Tryz.prog 224=some 8∧tagg Tryz.prog 224=some false∧tslice Tryz.prog 224=none∧tzero Tryz.prog 224=some [.nilFunc]:=by and_intros<;>kernel_rfl
theorem ft225:tsz Tryz.prog 225=some 1∧tbytes Tryz.prog 225=some 0∧tagg Tryz.prog 225=some false∧tslice Tryz.prog 225=none:=by and_intros<;>kernel_rfl
theorem ft226:tsz Tryz.prog 226=some 1∧tbytes Tryz.prog 226=some 8∧tagg Tryz.prog 226=some false∧tslice Tryz.prog 226=none∧tzero Tryz.prog 226=some [.nilFunc]:=by and_intros<;>kernel_rfl
theorem ft227:tsz Tryz.prog 227=some 1∧tbytes Tryz.prog 227=some 8∧tagg Tryz.prog 227=some false∧tslice Tryz.prog 227=none∧tzero Tryz.prog 227=some [.nilFunc]:=by and_intros<;>kernel_rfl
theorem ft228:tsz Tryz.prog 228=some 1∧tbytes Tryz.prog 228=some 8∧tagg Tryz.prog 228=some false∧tslice Tryz.prog 228=none∧tzero Tryz.prog 228=some [.nilFunc]:=by and_intros<;>kernel_rfl
theorem ft230:tsz Tryz.prog 230=some 1∧tbytes Tryz.prog 230=some 8∧tagg Tryz.prog 230=some false∧tslice Tryz.prog 230=none∧tzero Tryz.prog 230=some [.nilFunc]:=by and_intros<;>kernel_rfl
theorem ft231:tsz Tryz.prog 231=some 1∧tbytes Tryz.prog 231=some 8∧tagg Tryz.prog 231=some false∧tslice Tryz.prog 231=none∧tzero Tryz.prog 231=some [.nilFunc]:=by and_intros<;>kernel_rfl
theorem ft232:tsz Tryz.prog 232=some 1∧tbytes Tryz.prog 232=some 8∧tagg Tryz.prog 232=some false∧tslice Tryz.prog 232=none∧tzero Tryz.prog 232=some [.nilFunc]:=by and_intros<;>kernel_rfl
theorem ft233:tsz Tryz.prog 233=some 1∧tbytes Tryz.prog 233=some 8∧tagg Tryz.prog 233=some false∧tslice Tryz.prog 233=none∧tzero Tryz.prog 233=some [.nilFunc]:=by and_intros<;>kernel_rfl
theorem ft234:tsz Tryz.prog 234=some 1∧tbytes Tryz.prog 234=some 8∧tagg Tryz.prog 234=some false∧tslice Tryz.prog 234=none∧tzero Tryz.prog 234=some [.nilFunc]:=by and_intros<;>kernel_rfl
theorem ft235:tsz Tryz.prog 235=some 1∧tbytes Tryz.prog 235=some 8∧tagg Tryz.prog 235=some false∧tslice Tryz.prog 235=none∧tzero Tryz.prog 235=some [.nilFunc]:=by and_intros<;>kernel_rfl
theorem ft236:tsz Tryz.prog 236=some 4∧tbytes Tryz.prog 236=some 40∧tagg Tryz.prog 236=some true∧tslice Tryz.prog 236=none∧tzero Tryz.prog 236=some [.pointer none,.pointer none,.pointer none,.string .empty]∧tstruct Tryz.prog 236=some [.pointer none,.pointer none,.pointer none,.string .empty]∧tfield Tryz.prog 236 0=some (0,17)∧tfield Tryz.prog 236 1=some (1,17)∧tfield Tryz.prog 236 2=some (2,17)∧tfield Tryz.prog 236 3=some (3,9):=by and_intros<;>kernel_rfl
theorem ft237:tsz Tryz.prog 237=some 4∧tbytes Tryz.prog 237=some 40∧tagg Tryz.prog 237=some true∧tslice Tryz.prog 237=none∧tzero Tryz.prog 237=some [.pointer none,.pointer none,.pointer none,.string .empty]∧tstruct Tryz.prog 237=some [.pointer none,.pointer none,.pointer none,.string .empty]∧tfield Tryz.prog 237 0=some (0,17)∧tfield Tryz.prog 237 1=some (1,17)∧tfield Tryz.prog 237 2=some (2,17)∧tfield Tryz.prog 237 3=some (3,9):=by and_intros<;>kernel_rfl
theorem ft238:tsz Tryz.prog 238=some 0∧tbytes Tryz.prog 238=some 0∧tagg Tryz.prog 238=some true∧tslice Tryz.prog 238=none∧tzero Tryz.prog 238=some []:=by and_intros<;>kernel_rfl
theorem ft239:tsz Tryz.prog 239=some 0∧tbytes Tryz.prog 239=some 0∧tagg Tryz.prog 239=some true∧tslice Tryz.prog 239=none∧tzero Tryz.prog 239=some []∧tstruct Tryz.prog 239=some []:=by and_intros<;>kernel_rfl
theorem ft240:tsz Tryz.prog 240=some 0∧tbytes Tryz.prog 240=some 0∧tagg Tryz.prog 240=some true∧tslice Tryz.prog 240=none∧tzero Tryz.prog 240=some []∧tstruct Tryz.prog 240=some []:=by and_intros<;>kernel_rfl
theorem ft249:tsz Tryz.prog 249=some 11∧tbytes Tryz.prog 249=some 48∧tagg Tryz.prog 249=some true∧tslice Tryz.prog 249=none∧tzero Tryz.prog 249=some [.int .u64 0,.int .u64 0,.int .u32 0,.int .u8 0,.int .u8 0,.int .u8 0,.int .u8 0,.nilFunc,.pointer none,.int .i32 0,.int .i32 0]∧tstruct Tryz.prog 249=some [.int .u64 0,.int .u64 0,.int .u32 0,.int .u8 0,.int .u8 0,.int .u8 0,.int .u8 0,.nilFunc,.pointer none,.int .i32 0,.int .i32 0]∧tfield Tryz.prog 249 0=some (0,12)∧tfield Tryz.prog 249 1=some (1,12)∧tfield Tryz.prog 249 2=some (2,241)∧tfield Tryz.prog 249 3=some (3,242)∧tfield Tryz.prog 249 4=some (4,5)∧tfield Tryz.prog 249 5=some (5,5)∧tfield Tryz.prog 249 6=some (6,243)∧tfield Tryz.prog 249 7=some (7,244)∧tfield Tryz.prog 249 8=some (8,245)∧tfield Tryz.prog 249 9=some (9,246)∧tfield Tryz.prog 249 10=some (10,247):=by and_intros<;>kernel_rfl
theorem ok4:fnOK Tryz.prog 4=true:=by kernel_rfl
theorem ok7:fnOK Tryz.prog 7=true:=by kernel_rfl
theorem ok8:fnOK Tryz.prog 8=true:=by kernel_rfl
theorem ok11:fnOK Tryz.prog 11=true:=by kernel_rfl
theorem ok13:fnOK Tryz.prog 13=true:=by kernel_rfl
theorem ok15:fnOK Tryz.prog 15=true:=by kernel_rfl
theorem ok16:fnOK Tryz.prog 16=true:=by kernel_rfl
theorem ok17:fnOK Tryz.prog 17=true:=by kernel_rfl
theorem ok18:fnOK Tryz.prog 18=true:=by kernel_rfl
theorem ok19:fnOK Tryz.prog 19=true:=by kernel_rfl
theorem ok20:fnOK Tryz.prog 20=true:=by kernel_rfl
theorem ok21:fnOK Tryz.prog 21=true:=by kernel_rfl
theorem ok28:fnOK Tryz.prog 28=true:=by kernel_rfl
theorem ok29:fnOK Tryz.prog 29=true:=by kernel_rfl
theorem ok30:fnOK Tryz.prog 30=true:=by kernel_rfl
theorem ok32:fnOK Tryz.prog 32=true:=by kernel_rfl
theorem ok33:fnOK Tryz.prog 33=true:=by kernel_rfl
theorem ok34:fnOK Tryz.prog 34=true:=by kernel_rfl
theorem ok35:fnOK Tryz.prog 35=true:=by kernel_rfl
theorem ok37:fnOK Tryz.prog 37=true:=by kernel_rfl
theorem ok38:fnOK Tryz.prog 38=true:=by kernel_rfl
theorem ok39:fnOK Tryz.prog 39=true:=by kernel_rfl
theorem ok40:fnOK Tryz.prog 40=true:=by kernel_rfl
theorem ok41:fnOK Tryz.prog 41=true:=by kernel_rfl
theorem ok43:fnOK Tryz.prog 43=true:=by kernel_rfl
theorem ok44:fnOK Tryz.prog 44=true:=by kernel_rfl
theorem ok45:fnOK Tryz.prog 45=true:=by kernel_rfl
theorem ok46:fnOK Tryz.prog 46=true:=by kernel_rfl
theorem ok49:fnOK Tryz.prog 49=true:=by kernel_rfl
theorem ok50:fnOK Tryz.prog 50=true:=by kernel_rfl
theorem ok52:fnOK Tryz.prog 52=true:=by kernel_rfl
theorem ok53:fnOK Tryz.prog 53=true:=by kernel_rfl
theorem ok54:fnOK Tryz.prog 54=true:=by kernel_rfl
theorem ok55:fnOK Tryz.prog 55=true:=by kernel_rfl
theorem ok56:fnOK Tryz.prog 56=true:=by kernel_rfl
theorem ok60:fnOK Tryz.prog 60=true:=by kernel_rfl
theorem ok61:fnOK Tryz.prog 61=true:=by kernel_rfl
theorem ok62:fnOK Tryz.prog 62=true:=by kernel_rfl
theorem ok63:fnOK Tryz.prog 63=true:=by kernel_rfl
theorem ok64:fnOK Tryz.prog 64=true:=by kernel_rfl
theorem ok65:fnOK Tryz.prog 65=true:=by kernel_rfl
theorem ok66:fnOK Tryz.prog 66=true:=by kernel_rfl
theorem ok67:fnOK Tryz.prog 67=true:=by kernel_rfl
theorem ok68:fnOK Tryz.prog 68=true:=by kernel_rfl
theorem ok69:fnOK Tryz.prog 69=true:=by kernel_rfl
theorem ok70:fnOK Tryz.prog 70=true:=by kernel_rfl
theorem ok71:fnOK Tryz.prog 71=true:=by kernel_rfl
theorem ok73:fnOK Tryz.prog 73=true:=by kernel_rfl
theorem ok83:fnOK Tryz.prog 83=true:=by kernel_rfl
theorem ok85:fnOK Tryz.prog 85=true:=by kernel_rfl
theorem ok86:fnOK Tryz.prog 86=true:=by kernel_rfl
theorem ok87:fnOK Tryz.prog 87=true:=by kernel_rfl
theorem ok88:fnOK Tryz.prog 88=true:=by kernel_rfl
theorem ok89:fnOK Tryz.prog 89=true:=by kernel_rfl
theorem ok90:fnOK Tryz.prog 90=true:=by kernel_rfl
theorem ok91:fnOK Tryz.prog 91=true:=by kernel_rfl
theorem ok92:fnOK Tryz.prog 92=true:=by kernel_rfl
theorem ok93:fnOK Tryz.prog 93=true:=by kernel_rfl
theorem ok94:fnOK Tryz.prog 94=true:=by kernel_rfl
theorem ok95:fnOK Tryz.prog 95=true:=by kernel_rfl
theorem ok96:fnOK Tryz.prog 96=true:=by kernel_rfl
theorem ok97:fnOK Tryz.prog 97=true:=by kernel_rfl
theorem ok98:fnOK Tryz.prog 98=true:=by kernel_rfl
theorem ok101:fnOK Tryz.prog 101=true:=by kernel_rfl
theorem ok102:fnOK Tryz.prog 102=true:=by kernel_rfl
theorem ok103:fnOK Tryz.prog 103=true:=by kernel_rfl
theorem ok104:fnOK Tryz.prog 104=true:=by kernel_rfl
theorem ok105:fnOK Tryz.prog 105=true:=by kernel_rfl
theorem ok106:fnOK Tryz.prog 106=true:=by kernel_rfl
theorem ok107:fnOK Tryz.prog 107=true:=by kernel_rfl
theorem ok109:fnOK Tryz.prog 109=true:=by kernel_rfl
theorem ok110:fnOK Tryz.prog 110=true:=by kernel_rfl
theorem ok111:fnOK Tryz.prog 111=true:=by kernel_rfl
theorem ok112:fnOK Tryz.prog 112=true:=by kernel_rfl
theorem ok113:fnOK Tryz.prog 113=true:=by kernel_rfl
theorem ok114:fnOK Tryz.prog 114=true:=by kernel_rfl
theorem ok115:fnOK Tryz.prog 115=true:=by kernel_rfl
theorem ok116:fnOK Tryz.prog 116=true:=by kernel_rfl
theorem ok117:fnOK Tryz.prog 117=true:=by kernel_rfl
theorem ok120:fnOK Tryz.prog 120=true:=by kernel_rfl
theorem ok126:fnOK Tryz.prog 126=true:=by kernel_rfl
theorem ok127:fnOK Tryz.prog 127=true:=by kernel_rfl
theorem ok128:fnOK Tryz.prog 128=true:=by kernel_rfl
theorem ok129:fnOK Tryz.prog 129=true:=by kernel_rfl
theorem ok130:fnOK Tryz.prog 130=true:=by kernel_rfl
theorem ok131:fnOK Tryz.prog 131=true:=by kernel_rfl
theorem ok132:fnOK Tryz.prog 132=true:=by kernel_rfl
theorem ok133:fnOK Tryz.prog 133=true:=by kernel_rfl
theorem ok134:fnOK Tryz.prog 134=true:=by kernel_rfl
theorem ok135:fnOK Tryz.prog 135=true:=by kernel_rfl
theorem ok136:fnOK Tryz.prog 136=true:=by kernel_rfl
theorem ok137:fnOK Tryz.prog 137=true:=by kernel_rfl
theorem ok138:fnOK Tryz.prog 138=true:=by kernel_rfl
theorem ok139:fnOK Tryz.prog 139=true:=by kernel_rfl
theorem ok140:fnOK Tryz.prog 140=true:=by kernel_rfl
theorem ok141:fnOK Tryz.prog 141=true:=by kernel_rfl
theorem ok142:fnOK Tryz.prog 142=true:=by kernel_rfl
theorem ok144:fnOK Tryz.prog 144=true:=by kernel_rfl
theorem ok145:fnOK Tryz.prog 145=true:=by kernel_rfl
theorem ok146:fnOK Tryz.prog 146=true:=by kernel_rfl
theorem ok147:fnOK Tryz.prog 147=true:=by kernel_rfl
theorem ok148:fnOK Tryz.prog 148=true:=by kernel_rfl
theorem ok149:fnOK Tryz.prog 149=true:=by kernel_rfl
theorem ok150:fnOK Tryz.prog 150=true:=by kernel_rfl
theorem ok156:fnOK Tryz.prog 156=true:=by kernel_rfl
theorem ok157:fnOK Tryz.prog 157=true:=by kernel_rfl
theorem ok158:fnOK Tryz.prog 158=true:=by kernel_rfl
theorem ok159:fnOK Tryz.prog 159=true:=by kernel_rfl
theorem ok160:fnOK Tryz.prog 160=true:=by kernel_rfl
theorem ok161:fnOK Tryz.prog 161=true:=by kernel_rfl
theorem ok162:fnOK Tryz.prog 162=true:=by kernel_rfl
theorem ok163:fnOK Tryz.prog 163=true:=by kernel_rfl
theorem ok164:fnOK Tryz.prog 164=true:=by kernel_rfl
theorem ok165:fnOK Tryz.prog 165=true:=by kernel_rfl
theorem ok172:fnOK Tryz.prog 172=true:=by kernel_rfl
theorem ok173:fnOK Tryz.prog 173=true:=by kernel_rfl
theorem ok174:fnOK Tryz.prog 174=true:=by kernel_rfl
theorem ok175:fnOK Tryz.prog 175=true:=by kernel_rfl
theorem ok176:fnOK Tryz.prog 176=true:=by kernel_rfl
theorem ok177:fnOK Tryz.prog 177=true:=by kernel_rfl
theorem ok178:fnOK Tryz.prog 178=true:=by kernel_rfl
theorem ok179:fnOK Tryz.prog 179=true:=by kernel_rfl
theorem ok180:fnOK Tryz.prog 180=true:=by kernel_rfl
theorem ok195:fnOK Tryz.prog 195=true:=by kernel_rfl
theorem ok196:fnOK Tryz.prog 196=true:=by kernel_rfl
theorem ok197:fnOK Tryz.prog 197=true:=by kernel_rfl
theorem ok198:fnOK Tryz.prog 198=true:=by kernel_rfl
theorem ok199:fnOK Tryz.prog 199=true:=by kernel_rfl
theorem ok206:fnOK Tryz.prog 206=true:=by kernel_rfl
theorem ok207:fnOK Tryz.prog 207=true:=by kernel_rfl
attribute [go_sem] ft0 ft1 ft2 ft3 ft4 ft5 ft6 ft7 ft8 ft9 ft10 ft11 ft12 ft13
 ft14 ft15 ft16 ft17 ft18 ft19 ft20 ft21 ft22 ft23 ft24 ft25 ft26 ft27
 ft28 ft29 ft30 ft31 ft32 ft33 ft34 ft35 ft36 ft37 ft38 ft39 ft40 ft41
 ft42 ft43 ft44 ft45 ft46 ft47 ft48 ft49 ft50 ft51 ft52 ft53 ft54 ft55
 ft56 ft57 ft58 ft59 ft60 ft61 ft62 ft63 ft64 ft65 ft66 ft67 ft68 ft69
 ft70 ft71 ft72 ft73 ft74 ft75 ft76 ft77 ft78 ft79 ft80 ft81 ft82 ft83
 ft84 ft85 ft86 ft87 ft88 ft89 ft90 ft91 ft92 ft93 ft94 ft95 ft96 ft97
 ft98 ft99 ft100 ft101 ft102 ft103 ft104 ft105 ft106 ft107 ft108 ft109 ft110 ft111
 ft112 ft113 ft114 ft115 ft116 ft117 ft118 ft119 ft120 ft121 ft122 ft123 ft124 ft125
 ft126 ft127 ft128 ft129 ft130 ft131 ft132 ft133 ft134 ft135 ft136 ft137 ft138 ft139
 ft140 ft141 ft142 ft143 ft144 ft145 ft146 ft147 ft148 ft149 ft150 ft151 ft152 ft153
 ft154 ft155 ft156 ft157 ft158 ft159 ft160 ft161 ft162 ft163 ft164 ft165 ft166 ft167
 ft168 ft169 ft170 ft171 ft172 ft173 ft174 ft175 ft176 ft177 ft178 ft179 ft180 ft181
 ft182 ft184 ft185 ft186 ft188 ft189 ft190 ft191 ft192 ft193 ft194 ft195 ft196 ft197
 ft198 ft199 ft200 ft201 ft202 ft203 ft204 ft205 ft206 ft207 ft208 ft209 ft210 ft211
 ft212 ft213 ft214 ft216 ft217 ft219 ft220 ft221 ft222 ft223 ft224 ft225 ft226 ft227
 ft228 ft230 ft231 ft232 ft233 ft234 ft235 ft236 ft237 ft238 ft239 ft240 ft249 Tryz.f4
 Tryz.f7 Tryz.f8 Tryz.f11 Tryz.f13 Tryz.f15 Tryz.f16 Tryz.f17 Tryz.f18 Tryz.f19 Tryz.f20 Tryz.f21 Tryz.f28 Tryz.f29 Tryz.f30
 Tryz.f32 Tryz.f33 Tryz.f34 Tryz.f35 Tryz.f37 Tryz.f38 Tryz.f39 Tryz.f40 Tryz.f41 Tryz.f43 Tryz.f44 Tryz.f45 Tryz.f46 Tryz.f49
 Tryz.f50 Tryz.f52 Tryz.f53 Tryz.f54 Tryz.f55 Tryz.f56 Tryz.f60 Tryz.f61 Tryz.f62 Tryz.f63 Tryz.f64 Tryz.f65 Tryz.f66 Tryz.f67
 Tryz.f68 Tryz.f69 Tryz.f70 Tryz.f71 Tryz.f73 Tryz.f83 Tryz.f85 Tryz.f86 Tryz.f87 Tryz.f88 Tryz.f89 Tryz.f90 Tryz.f91 Tryz.f92
 Tryz.f93 Tryz.f94 Tryz.f95 Tryz.f96 Tryz.f97 Tryz.f98 Tryz.f101 Tryz.f102 Tryz.f103 Tryz.f104 Tryz.f105 Tryz.f106 Tryz.f107 Tryz.f109
 Tryz.f110 Tryz.f111 Tryz.f112 Tryz.f113 Tryz.f114 Tryz.f115 Tryz.f116 Tryz.f117 Tryz.f120 Tryz.f126 Tryz.f127 Tryz.f128 Tryz.f129 Tryz.f130
 Tryz.f131 Tryz.f132 Tryz.f133 Tryz.f134 Tryz.f135 Tryz.f136 Tryz.f137 Tryz.f138 Tryz.f139 Tryz.f140 Tryz.f141 Tryz.f142 Tryz.f144 Tryz.f145
 Tryz.f146 Tryz.f147 Tryz.f148 Tryz.f149 Tryz.f150 Tryz.f156 Tryz.f157 Tryz.f158 Tryz.f159 Tryz.f160 Tryz.f161 Tryz.f162 Tryz.f163 Tryz.f164
 Tryz.f165 Tryz.f172 Tryz.f173 Tryz.f174 Tryz.f175 Tryz.f176 Tryz.f177 Tryz.f178 Tryz.f179 Tryz.f180 Tryz.f195 Tryz.f196 Tryz.f197 Tryz.f198
 Tryz.f199 Tryz.f206 Tryz.f207
end Go.Proofs.YtbknljofedfpjaaGreat.CtF
