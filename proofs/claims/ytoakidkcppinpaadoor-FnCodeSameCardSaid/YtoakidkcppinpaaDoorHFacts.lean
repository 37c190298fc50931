/- Contracts of functions of the program, one behind the other, as plain data: what each call returns and which blocks it leaves. -/
import Derived.Test.YtoakidkcppinpaaDoorChecked
import Derived.KernelRfl
import Derived.Test.YtoakidkcppinpaaDoorHAj
set_option linter.unusedVariables false
set_option linter.unusedSimpArgs false
set_option linter.unusedSectionVars false
set_option maxHeartbeats 16000000
set_option maxRecDepth 100000
namespace Go.Proofs.YtoakidkcppinpaaDoor.CtF
open Go Go.CT
theorem mo:Tryd.prog.follows .mixedOrders=true:=by kernel_rfl
theorem drvZ [Yn] {K:Bool} {m nt:Nat} {f:FuncId} {R:D→List (Option (List C))→Prop} {r:Option Rg} {k:List Item} {S:Ms} {fn:Func} (hfn:Tryd.prog.funcs[f]? = some fn) (h:drv K Tryd.prog m f nt R fn.results.toList 12 r k S):XK K Tryd.prog m f nt R r k S :=
 drv_sound hfn mo rfl 12 r k S h
theorem drvL [Yn] {K:Bool} {m nt:Nat} {f:FuncId} {R:D→List (Option (List C))→Prop} {k:List Item} {S:Ms} {fn:Func} (hfn:Tryd.prog.funcs[f]? = some fn) (h:drv K Tryd.prog m f nt R fn.results.toList 12 none k S):Go K Tryd.prog m f nt R k S :=
 drv_sound hfn mo rfl 12 none k S h
theorem dcZ [Yn] {f : FuncId} {R : D → List (Option (List C)) → Prop} {args : List D} {h : List (Option (List C))} {fn : Func} {c : Code} (hf : Tryd.prog.funcs[f]? = some fn)
 (hg:drv false Tryd.prog h.length f fn.ntmps R fn.results.toList 12 none [.code c] ⟨ofArgs 0 args,hpL h,h.length⟩) (hb:fn.body=some c:=by rfl) (hn:args.length≤fn.ntmps:=by simp):DC Tryd.prog f args h R :=
 dc_of_go hf hb hn (drv_sound hf mo rfl 12 none _ _ hg)
theorem ft0:tsz Tryd.prog 0=some 1∧tbytes Tryd.prog 0=some 0∧tagg Tryd.prog 0=some false∧tslice Tryd.prog 0=none:=by and_intros<;>kernel_rfl
theorem ft1:tsz Tryd.prog 1=some 1∧tbytes Tryd.prog 1=some 8∧tagg Tryd.prog 1=some false∧tslice Tryd.prog 1=none∧tzero Tryd.prog 1=some [.nilFunc]:=by and_intros<;>kernel_rfl
theorem ft2:tsz Tryd.prog 2=some 1∧tbytes Tryd.prog 2=some 8∧tagg Tryd.prog 2=some false∧tslice Tryd.prog 2=none∧Tryd.prog.underlying 2=some (.int .i64)∧tzero Tryd.prog 2=some [.int .i64 0]:=by and_intros<;>kernel_rfl
theorem ft3:tsz Tryd.prog 3=some 1∧tbytes Tryd.prog 3=some 8∧tagg Tryd.prog 3=some false∧tslice Tryd.prog 3=none∧Tryd.prog.underlying 3=some (.int .i64)∧tzero Tryd.prog 3=some [.int .i64 0]:=by and_intros<;>kernel_rfl
theorem ft4:tsz Tryd.prog 4=some 1∧tbytes Tryd.prog 4=some 1∧tagg Tryd.prog 4=some false∧tbool Tryd.prog 4=true∧tslice Tryd.prog 4=none∧tzero Tryd.prog 4=some [.bool false]:=by and_intros<;>kernel_rfl
theorem ft5:tsz Tryd.prog 5=some 1∧tbytes Tryd.prog 5=some 1∧tagg Tryd.prog 5=some false∧tslice Tryd.prog 5=none∧Tryd.prog.underlying 5=some (.int .u8)∧tzero Tryd.prog 5=some [.int .u8 0]:=by and_intros<;>kernel_rfl
theorem ft6:tsz Tryd.prog 6=some 1∧tbytes Tryd.prog 6=some 1∧tagg Tryd.prog 6=some false∧tslice Tryd.prog 6=none∧Tryd.prog.underlying 6=some (.int .u8)∧tzero Tryd.prog 6=some [.int .u8 0]:=by and_intros<;>kernel_rfl
theorem ft7:tsz Tryd.prog 7=some 4∧tbytes Tryd.prog 7=some 24∧tagg Tryd.prog 7=some true∧tslice Tryd.prog 7=none∧tzero Tryd.prog 7=some [.int .i64 0,.int .i64 0,.bool false,.int .u8 0]∧tstruct Tryd.prog 7=some [.int .i64 0,.int .i64 0,.bool false,.int .u8 0]∧tfield Tryd.prog 7 0=some (0,2)∧tfield Tryd.prog 7 1=some (1,3)∧tfield Tryd.prog 7 2=some (2,4)∧tfield Tryd.prog 7 3=some (3,6):=by and_intros<;>kernel_rfl
theorem ft8:tsz Tryd.prog 8=some 4∧tbytes Tryd.prog 8=some 24∧tagg Tryd.prog 8=some true∧tslice Tryd.prog 8=none∧tzero Tryd.prog 8=some [.int .i64 0,.int .i64 0,.bool false,.int .u8 0]∧tstruct Tryd.prog 8=some [.int .i64 0,.int .i64 0,.bool false,.int .u8 0]∧tfield Tryd.prog 8 0=some (0,2)∧tfield Tryd.prog 8 1=some (1,3)∧tfield Tryd.prog 8 2=some (2,4)∧tfield Tryd.prog 8 3=some (3,6):=by and_intros<;>kernel_rfl
theorem ft9:tsz Tryd.prog 9=some 1∧tbytes Tryd.prog 9=some 16∧tagg Tryd.prog 9=some false∧tstring Tryd.prog 9=true∧tslice Tryd.prog 9=none∧tzero Tryd.prog 9=some [.string .empty]:=by and_intros<;>kernel_rfl
theorem ft10:tsz Tryd.prog 10=some 1∧tbytes Tryd.prog 10=some 16∧tagg Tryd.prog 10=some false∧tstring Tryd.prog 10=true∧tslice Tryd.prog 10=none∧tzero Tryd.prog 10=some [.string .empty]:=by and_intros<;>kernel_rfl
theorem ft11:tsz Tryd.prog 11=some 1∧tbytes Tryd.prog 11=some 16∧tagg Tryd.prog 11=some false∧tstring Tryd.prog 11=true∧tslice Tryd.prog 11=none∧tzero Tryd.prog 11=some [.string .empty]:=by and_intros<;>kernel_rfl
theorem ft12:tsz Tryd.prog 12=some 1∧tbytes Tryd.prog 12=some 8∧tagg Tryd.prog 12=some false∧tslice Tryd.prog 12=none∧Tryd.prog.underlying 12=some (.int .u64)∧tzero Tryd.prog 12=some [.int .u64 0]:=by and_intros<;>kernel_rfl
theorem ft13:tsz Tryd.prog 13=some 2∧tbytes Tryd.prog 13=some 24∧tagg Tryd.prog 13=some true∧tslice Tryd.prog 13=none∧tzero Tryd.prog 13=some [.string .empty,.int .u64 0]∧tstruct Tryd.prog 13=some [.string .empty,.int .u64 0]∧tfield Tryd.prog 13 0=some (0,9)∧tfield Tryd.prog 13 1=some (1,12):=by and_intros<;>kernel_rfl
theorem ft14:tsz Tryd.prog 14=some 2∧tbytes Tryd.prog 14=some 24∧tagg Tryd.prog 14=some true∧tslice Tryd.prog 14=none∧tzero Tryd.prog 14=some [.string .empty,.int .u64 0]∧tstruct Tryd.prog 14=some [.string .empty,.int .u64 0]∧tfield Tryd.prog 14 0=some (0,9)∧tfield Tryd.prog 14 1=some (1,12):=by and_intros<;>kernel_rfl
theorem ft22:tsz Tryd.prog 22=some 1∧tbytes Tryd.prog 22=some 24∧tagg Tryd.prog 22=some false∧tslice Tryd.prog 22=some 3∧tzero Tryd.prog 22=some [.slice none 0 0]:=by and_intros<;>kernel_rfl
theorem ft28:tsz Tryd.prog 28=some 1∧tbytes Tryd.prog 28=some 24∧tagg Tryd.prog 28=some false∧tslice Tryd.prog 28=some 44∧tzero Tryd.prog 28=some [.slice none 0 0]:=by and_intros<;>kernel_rfl
theorem ft29:tsz Tryd.prog 29=some 3∧tbytes Tryd.prog 29=some 72∧tagg Tryd.prog 29=some true∧tslice Tryd.prog 29=none∧tzero Tryd.prog 29=some [.slice none 0 0,.slice none 0 0,.slice none 0 0]∧tstruct Tryd.prog 29=some [.slice none 0 0,.slice none 0 0,.slice none 0 0]∧tfield Tryd.prog 29 0=some (0,22)∧tfield Tryd.prog 29 1=some (1,22)∧tfield Tryd.prog 29 2=some (2,28):=by and_intros<;>kernel_rfl
theorem ft30:tsz Tryd.prog 30=some 3∧tbytes Tryd.prog 30=some 72∧tagg Tryd.prog 30=some true∧tslice Tryd.prog 30=none∧tzero Tryd.prog 30=some [.slice none 0 0,.slice none 0 0,.slice none 0 0]∧tstruct Tryd.prog 30=some [.slice none 0 0,.slice none 0 0,.slice none 0 0]∧tfield Tryd.prog 30 0=some (0,22)∧tfield Tryd.prog 30 1=some (1,22)∧tfield Tryd.prog 30 2=some (2,28):=by and_intros<;>kernel_rfl
theorem ft34:tsz Tryd.prog 34=some 1∧tbytes Tryd.prog 34=some 24∧tagg Tryd.prog 34=some false∧tslice Tryd.prog 34=some 5∧tzero Tryd.prog 34=some [.slice none 0 0]:=by and_intros<;>kernel_rfl
theorem ft35:tsz Tryd.prog 35=some 1∧tbytes Tryd.prog 35=some 0∧tagg Tryd.prog 35=some false∧tslice Tryd.prog 35=none:=by and_intros<;>kernel_rfl
theorem ft43:tsz Tryd.prog 43=some 5∧tbytes Tryd.prog 43=some 40∧tagg Tryd.prog 43=some true∧tslice Tryd.prog 43=none∧tzero Tryd.prog 43=some [.int .i64 0,.int .i64 0,.int .i64 0,.int .i64 0,.int .i64 0]∧tstruct Tryd.prog 43=some [.int .i64 0,.int .i64 0,.int .i64 0,.int .i64 0,.int .i64 0]∧tints Tryd.prog 43=some 5∧tfield Tryd.prog 43 0=some (0,3)∧tfield Tryd.prog 43 1=some (1,3)∧tfield Tryd.prog 43 2=some (2,3)∧tfield Tryd.prog 43 3=some (3,3)∧tfield Tryd.prog 43 4=some (4,3):=by and_intros<;>kernel_rfl
theorem ft44:tsz Tryd.prog 44=some 5∧tbytes Tryd.prog 44=some 40∧tagg Tryd.prog 44=some true∧tslice Tryd.prog 44=none∧tzero Tryd.prog 44=some [.int .i64 0,.int .i64 0,.int .i64 0,.int .i64 0,.int .i64 0]∧tstruct Tryd.prog 44=some [.int .i64 0,.int .i64 0,.int .i64 0,.int .i64 0,.int .i64 0]∧tints Tryd.prog 44=some 5∧tfield Tryd.prog 44 0=some (0,3)∧tfield Tryd.prog 44 1=some (1,3)∧tfield Tryd.prog 44 2=some (2,3)∧tfield Tryd.prog 44 3=some (3,3)∧tfield Tryd.prog 44 4=some (4,3):=by and_intros<;>kernel_rfl
theorem ft50:tsz Tryd.prog 50=some 1∧tbytes Tryd.prog 50=some 8∧tagg Tryd.prog 50=some false∧tslice Tryd.prog 50=none∧tzero Tryd.prog 50=some [.pointer none]:=by and_intros<;>kernel_rfl
theorem ft56:tsz Tryd.prog 56=some 1∧tbytes Tryd.prog 56=some 24∧tagg Tryd.prog 56=some false∧tslice Tryd.prog 56=some 95∧tzero Tryd.prog 56=some [.slice none 0 0]:=by and_intros<;>kernel_rfl
theorem ft57:tsz Tryd.prog 57=some 3∧tbytes Tryd.prog 57=some 72∧tagg Tryd.prog 57=some true∧tslice Tryd.prog 57=none∧tzero Tryd.prog 57=some [.slice none 0 0,.slice none 0 0,.slice none 0 0]∧tstruct Tryd.prog 57=some [.slice none 0 0,.slice none 0 0,.slice none 0 0]∧tfield Tryd.prog 57 0=some (0,22)∧tfield Tryd.prog 57 1=some (1,22)∧tfield Tryd.prog 57 2=some (2,56):=by and_intros<;>kernel_rfl
theorem ft58:tsz Tryd.prog 58=some 3∧tbytes Tryd.prog 58=some 72∧tagg Tryd.prog 58=some true∧tslice Tryd.prog 58=none∧tzero Tryd.prog 58=some [.slice none 0 0,.slice none 0 0,.slice none 0 0]∧tstruct Tryd.prog 58=some [.slice none 0 0,.slice none 0 0,.slice none 0 0]∧tfield Tryd.prog 58 0=some (0,22)∧tfield Tryd.prog 58 1=some (1,22)∧tfield Tryd.prog 58 2=some (2,56):=by and_intros<;>kernel_rfl
theorem ft61:tsz Tryd.prog 61=some 1∧tbytes Tryd.prog 61=some 8∧tagg Tryd.prog 61=some false∧tslice Tryd.prog 61=none∧tzero Tryd.prog 61=some [.nilFunc]:=by and_intros<;>kernel_rfl
theorem ft62:tsz Tryd.prog 62=some 1∧tbytes Tryd.prog 62=some 24∧tagg Tryd.prog 62=some false∧tslice Tryd.prog 62=some 9∧tzero Tryd.prog 62=some [.slice none 0 0]:=by and_intros<;>kernel_rfl
theorem ft70:tsz Tryd.prog 70=some 1∧tbytes Tryd.prog 70=some 8∧tagg Tryd.prog 70=some false∧tslice Tryd.prog 70=none∧tzero Tryd.prog 70=some [.nilFunc]:=by and_intros<;>kernel_rfl
theorem ft72:tsz Tryd.prog 72=some 2∧tbytes Tryd.prog 72=some 32∧tagg Tryd.prog 72=some true∧tslice Tryd.prog 72=none∧tzero Tryd.prog 72=some [.slice none 0 0,.int .i64 0]∧tstruct Tryd.prog 72=some [.slice none 0 0,.int .i64 0]∧tfield Tryd.prog 72 0=some (0,34)∧tfield Tryd.prog 72 1=some (1,3):=by and_intros<;>kernel_rfl
theorem ft73:tsz Tryd.prog 73=some 2∧tbytes Tryd.prog 73=some 32∧tagg Tryd.prog 73=some true∧tslice Tryd.prog 73=none∧tzero Tryd.prog 73=some [.slice none 0 0,.int .i64 0]∧tstruct Tryd.prog 73=some [.slice none 0 0,.int .i64 0]∧tfield Tryd.prog 73 0=some (0,34)∧tfield Tryd.prog 73 1=some (1,3):=by and_intros<;>kernel_rfl
theorem ft82:tsz Tryd.prog 82=some 1∧tbytes Tryd.prog 82=some 8∧tagg Tryd.prog 82=some false∧tslice Tryd.prog 82=none∧tzero Tryd.prog 82=some [.pointer none]:=by and_intros<;>kernel_rfl
theorem ft83:tsz Tryd.prog 83=some 2∧tbytes Tryd.prog 83=some 32∧tagg Tryd.prog 83=some true∧tslice Tryd.prog 83=none∧tzero Tryd.prog 83=some [.pointer none,.slice none 0 0]∧tstruct Tryd.prog 83=some [.pointer none,.slice none 0 0]∧tfield Tryd.prog 83 0=some (0,82)∧tfield Tryd.prog 83 1=some (1,34):=by and_intros<;>kernel_rfl
theorem ft84:tsz Tryd.prog 84=some 2∧tbytes Tryd.prog 84=some 32∧tagg Tryd.prog 84=some true∧tslice Tryd.prog 84=none∧tzero Tryd.prog 84=some [.pointer none,.slice none 0 0]∧tstruct Tryd.prog 84=some [.pointer none,.slice none 0 0]∧tfield Tryd.prog 84 0=some (0,82)∧tfield Tryd.prog 84 1=some (1,34):=by and_intros<;>kernel_rfl
theorem ft85:tsz Tryd.prog 85=some 1∧tbytes Tryd.prog 85=some 16∧tagg Tryd.prog 85=some false∧tslice Tryd.prog 85=none∧tzero Tryd.prog 85=some [.nilIface]:=by and_intros<;>kernel_rfl
theorem ft86:tsz Tryd.prog 86=some 1∧tbytes Tryd.prog 86=some 16∧tagg Tryd.prog 86=some false∧tslice Tryd.prog 86=none∧tzero Tryd.prog 86=some [.nilIface]:=by and_intros<;>kernel_rfl
theorem ft88:tsz Tryd.prog 88=some 1∧tbytes Tryd.prog 88=some 0∧tagg Tryd.prog 88=some false∧tslice Tryd.prog 88=none:=by and_intros<;>kernel_rfl
theorem ft91:tsz Tryd.prog 91=some 1∧tbytes Tryd.prog 91=some 24∧tagg Tryd.prog 91=some false∧tslice Tryd.prog 91=some 93∧tzero Tryd.prog 91=some [.slice none 0 0]:=by and_intros<;>kernel_rfl
theorem ft92:tsz Tryd.prog 92=some 3∧tbytes Tryd.prog 92=some 40∧tagg Tryd.prog 92=some true∧tslice Tryd.prog 92=none∧tzero Tryd.prog 92=some [.int .i64 0,.int .i64 0,.slice none 0 0]∧tstruct Tryd.prog 92=some [.int .i64 0,.int .i64 0,.slice none 0 0]∧tfield Tryd.prog 92 0=some (0,3)∧tfield Tryd.prog 92 1=some (1,3)∧tfield Tryd.prog 92 2=some (2,91):=by and_intros<;>kernel_rfl
theorem ft93:tsz Tryd.prog 93=some 3∧tbytes Tryd.prog 93=some 40∧tagg Tryd.prog 93=some true∧tslice Tryd.prog 93=none∧tzero Tryd.prog 93=some [.int .i64 0,.int .i64 0,.slice none 0 0]∧tstruct Tryd.prog 93=some [.int .i64 0,.int .i64 0,.slice none 0 0]∧tfield Tryd.prog 93 0=some (0,3)∧tfield Tryd.prog 93 1=some (1,3)∧tfield Tryd.prog 93 2=some (2,91):=by and_intros<;>kernel_rfl
theorem ft94:tsz Tryd.prog 94=some 11∧tbytes Tryd.prog 94=some 152∧tagg Tryd.prog 94=some true∧tslice Tryd.prog 94=none∧tzero Tryd.prog 94=some [.int .i64 0,.int .i64 0,.int .i64 0,.int .i64 0,.slice none 0 0,.int .i64 0,.int .i64 0,.slice none 0 0,.int .i64 0,.slice none 0 0,.slice none 0 0]∧tstruct Tryd.prog 94=some [.int .i64 0,.int .i64 0,.int .i64 0,.int .i64 0,.slice none 0 0,.int .i64 0,.int .i64 0,.slice none 0 0,.int .i64 0,.slice none 0 0,.slice none 0 0]∧tfield Tryd.prog 94 0=some (0,3)∧tfield Tryd.prog 94 1=some (1,3)∧tfield Tryd.prog 94 2=some (2,93)∧tfield Tryd.prog 94 3=some (5,93)∧tfield Tryd.prog 94 4=some (8,3)∧tfield Tryd.prog 94 5=some (9,56)∧tfield Tryd.prog 94 6=some (10,56):=by and_intros<;>kernel_rfl
theorem ft95:tsz Tryd.prog 95=some 11∧tbytes Tryd.prog 95=some 152∧tagg Tryd.prog 95=some true∧tslice Tryd.prog 95=none∧tzero Tryd.prog 95=some [.int .i64 0,.int .i64 0,.int .i64 0,.int .i64 0,.slice none 0 0,.int .i64 0,.int .i64 0,.slice none 0 0,.int .i64 0,.slice none 0 0,.slice none 0 0]∧tstruct Tryd.prog 95=some [.int .i64 0,.int .i64 0,.int .i64 0,.int .i64 0,.slice none 0 0,.int .i64 0,.int .i64 0,.slice none 0 0,.int .i64 0,.slice none 0 0,.slice none 0 0]∧tfield Tryd.prog 95 0=some (0,3)∧tfield Tryd.prog 95 1=some (1,3)∧tfield Tryd.prog 95 2=some (2,93)∧tfield Tryd.prog 95 3=some (5,93)∧tfield Tryd.prog 95 4=some (8,3)∧tfield Tryd.prog 95 5=some (9,56)∧tfield Tryd.prog 95 6=some (10,56):=by and_intros<;>kernel_rfl
theorem ft103:tsz Tryd.prog 103=some 1∧tbytes Tryd.prog 103=some 8∧tagg Tryd.prog 103=some false∧tslice Tryd.prog 103=none∧tzero Tryd.prog 103=some [.pointer none]:=by and_intros<;>kernel_rfl
theorem ok4:fnOK Tryd.prog 4=true:=by kernel_rfl
theorem ok8:fnOK Tryd.prog 8=true:=by kernel_rfl
theorem ok10:fnOK Tryd.prog 10=true:=by kernel_rfl
theorem ok11:fnOK Tryd.prog 11=true:=by kernel_rfl
theorem ok12:fnOK Tryd.prog 12=true:=by kernel_rfl
theorem ok20:fnOK Tryd.prog 20=true:=by kernel_rfl
theorem ok21:fnOK Tryd.prog 21=true:=by kernel_rfl
theorem ok24:fnOK Tryd.prog 24=true:=by kernel_rfl
theorem ok25:fnOK Tryd.prog 25=true:=by kernel_rfl
theorem ok26:fnOK Tryd.prog 26=true:=by kernel_rfl
theorem ok27:fnOK Tryd.prog 27=true:=by kernel_rfl
theorem ok28:fnOK Tryd.prog 28=true:=by kernel_rfl
theorem ok29:fnOK Tryd.prog 29=true:=by kernel_rfl
theorem ok30:fnOK Tryd.prog 30=true:=by kernel_rfl
theorem ok31:fnOK Tryd.prog 31=true:=by kernel_rfl
theorem ok34:fnOK Tryd.prog 34=true:=by kernel_rfl
theorem ok36:fnOK Tryd.prog 36=true:=by kernel_rfl
theorem ok40:fnOK Tryd.prog 40=true:=by kernel_rfl
theorem ok41:fnOK Tryd.prog 41=true:=by kernel_rfl
theorem ok42:fnOK Tryd.prog 42=true:=by kernel_rfl
theorem ok43:fnOK Tryd.prog 43=true:=by kernel_rfl
theorem ok44:fnOK Tryd.prog 44=true:=by kernel_rfl
theorem ok45:fnOK Tryd.prog 45=true:=by kernel_rfl
theorem ok46:fnOK Tryd.prog 46=true:=by kernel_rfl
theorem ok48:fnOK Tryd.prog 48=true:=by kernel_rfl
theorem ok49:fnOK Tryd.prog 49=true:=by kernel_rfl
theorem ok50:fnOK Tryd.prog 50=true:=by kernel_rfl
theorem ok52:fnOK Tryd.prog 52=true:=by kernel_rfl
theorem ok53:fnOK Tryd.prog 53=true:=by kernel_rfl
theorem ok54:fnOK Tryd.prog 54=true:=by kernel_rfl
theorem ok55:fnOK Tryd.prog 55=true:=by kernel_rfl
theorem ok56:fnOK Tryd.prog 56=true:=by kernel_rfl
theorem ok57:fnOK Tryd.prog 57=true:=by kernel_rfl
theorem ok59:fnOK Tryd.prog 59=true:=by kernel_rfl
theorem ok60:fnOK Tryd.prog 60=true:=by kernel_rfl
theorem ok61:fnOK Tryd.prog 61=true:=by kernel_rfl
theorem ok62:fnOK Tryd.prog 62=true:=by kernel_rfl
theorem ok63:fnOK Tryd.prog 63=true:=by kernel_rfl
theorem ok64:fnOK Tryd.prog 64=true:=by kernel_rfl
theorem ok65:fnOK Tryd.prog 65=true:=by kernel_rfl
theorem ok66:fnOK Tryd.prog 66=true:=by kernel_rfl
theorem ok67:fnOK Tryd.prog 67=true:=by kernel_rfl
theorem ok68:fnOK Tryd.prog 68=true:=by kernel_rfl
theorem ok69:fnOK Tryd.prog 69=true:=by kernel_rfl
theorem ok70:fnOK Tryd.prog 70=true:=by kernel_rfl
theorem ok71:fnOK Tryd.prog 71=true:=by kernel_rfl
theorem ok72:fnOK Tryd.prog 72=true:=by kernel_rfl
theorem ok73:fnOK Tryd.prog 73=true:=by kernel_rfl
theorem ok76:fnOK Tryd.prog 76=true:=by kernel_rfl
theorem ok77:fnOK Tryd.prog 77=true:=by kernel_rfl
theorem ok78:fnOK Tryd.prog 78=true:=by kernel_rfl
theorem ok80:fnOK Tryd.prog 80=true:=by kernel_rfl
theorem ok81:fnOK Tryd.prog 81=true:=by kernel_rfl
theorem ok82:fnOK Tryd.prog 82=true:=by kernel_rfl
theorem ok83:fnOK Tryd.prog 83=true:=by kernel_rfl
theorem ok88:fnOK Tryd.prog 88=true:=by kernel_rfl
theorem ok89:fnOK Tryd.prog 89=true:=by kernel_rfl
theorem ok90:fnOK Tryd.prog 90=true:=by kernel_rfl
theorem ok91:fnOK Tryd.prog 91=true:=by kernel_rfl
theorem ok97:fnOK Tryd.prog 97=true:=by kernel_rfl
attribute [go_sem] ft0 ft1 ft2 ft3 ft4 ft5 ft6 ft7 ft8 ft9 ft10 ft11 ft12 ft13
 ft14 ft22
 ft28 ft29 ft30 ft34 ft35
 ft43 ft44 ft50
 ft56 ft57 ft58 ft61 ft62
 ft70 ft72 ft73 ft82 ft83
 ft84 ft85 ft86 ft88 ft91 ft92 ft93 ft94 ft95
 ft103
 Tryd.f4 Tryd.f8 Tryd.f10 Tryd.f11 Tryd.f12 Tryd.f20
 Tryd.f21 Tryd.f24 Tryd.f25 Tryd.f26 Tryd.f27 Tryd.f28 Tryd.f29 Tryd.f30 Tryd.f31 Tryd.f34 Tryd.f36 Tryd.f40 Tryd.f41 Tryd.f42
 Tryd.f43 Tryd.f44 Tryd.f45 Tryd.f46 Tryd.f48 Tryd.f49 Tryd.f50 Tryd.f52 Tryd.f53 Tryd.f54 Tryd.f55 Tryd.f56 Tryd.f57 Tryd.f59
 Tryd.f60 Tryd.f61 Tryd.f62 Tryd.f63 Tryd.f64 Tryd.f65 Tryd.f66 Tryd.f67 Tryd.f68 Tryd.f70 Tryd.f71 Tryd.f72 Tryd.f73 Tryd.f76
 Tryd.f77 Tryd.f78 Tryd.f80 Tryd.f81 Tryd.f82 Tryd.f83 Tryd.f88 Tryd.f89 Tryd.f90 Tryd.f91 Tryd.f97
end Go.Proofs.YtoakidkcppinpaaDoor.CtF
