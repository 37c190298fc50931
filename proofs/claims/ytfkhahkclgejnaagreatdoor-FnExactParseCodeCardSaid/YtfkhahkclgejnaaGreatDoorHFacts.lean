/- Contracts of functions of the program, one behind the other, as plain data: what each call returns and which blocks it leaves. -/
import Derived.Test.YtfkhahkclgejnaaGreatDoorChecked
import Derived.KernelRfl
import Derived.Test.YtfkhahkclgejnaaGreatDoorHAj
set_option linter.unusedVariables false
set_option linter.unusedSimpArgs false
set_option linter.unusedSectionVars false
set_option maxHeartbeats 16000000
set_option maxRecDepth 100000
namespace Go.Proofs.YtfkhahkclgejnaaGreatDoor.CtF
open Go Go.CT
theorem mo:Tryz.prog.follows .mixedOrders=true:=by kernel_rfl
theorem drvZ [Yn] {K:Bool} {m nt:Nat} {f:FuncId} {R:D→List (Option (List C))→Prop} {r:Option Rg} {k:List Item} {S:Ms} {fn:Func} (hfn:Tryz.prog.funcs[f]? = some fn) (h:drv K Tryz.prog m f nt R fn.results.toList 12 r k S):XK K Tryz.prog m f nt R r k S :=
 drv_sound hfn mo rfl 12 r k S h
theorem drvL [Yn] {K:Bool} {m nt:Nat} {f:FuncId} {R:D→List (Option (List C))→Prop} {k:List Item} {S:Ms} {fn:Func} (hfn:Tryz.prog.funcs[f]? = some fn) (h:drv K Tryz.prog m f nt R fn.results.toList 12 none k S):Go K Tryz.prog m f nt R k S :=
 drv_sound hfn mo rfl 12 none k S h
theorem dcZ [Yn] {f : FuncId} {R : D → List (Option (List C)) → Prop} {args : List D} {h : List (Option (List C))} {fn : Func} {c : Code} (hf : Tryz.prog.funcs[f]? = some fn)
 (hg:drv false Tryz.prog h.length f fn.ntmps R fn.results.toList 12 none [.code c] ⟨ofArgs 0 args,hpL h,h.length⟩) (hb:fn.body=some c:=by rfl) (hn:args.length≤fn.ntmps:=by simp):DC Tryz.prog f args h R :=
 dc_of_go hf hb hn (drv_sound hf mo rfl 12 none _ _ hg)
theorem ft0:tsz Tryz.prog 0=some 1∧tbytes Tryz.prog 0=some 0∧tagg Tryz.prog 0=some false∧tslice Tryz.prog 0=none:=by and_intros<;>kernel_rfl
theorem ft1:tsz Tryz.prog 1=some 1∧tbytes Tryz.prog 1=some 8∧tagg Tryz.prog 1=some false∧tslice Tryz.prog 1=none∧tzero Tryz.prog 1=some [.nilFunc]:=by and_intros<;>kernel_rfl
theorem ft2:tsz Tryz.prog 2=some 1∧tbytes Tryz.prog 2=some 8∧tagg Tryz.prog 2=some false∧tslice Tryz.prog 2=none∧Tryz.prog.underlying 2=some (.int .i64)∧tzero Tryz.prog 2=some [.int .i64 0]:=by and_intros<;>kernel_rfl
theorem ft3:tsz Tryz.prog 3=some 1∧tbytes Tryz.prog 3=some 8∧tagg Tryz.prog 3=some false∧tslice Tryz.prog 3=none∧Tryz.prog.underlying 3=some (.int .i64)∧tzero Tryz.prog 3=some [.int .i64 0]:=by and_intros<;>kernel_rfl
theorem ft4:tsz Tryz.prog 4=some 1∧tbytes Tryz.prog 4=some 1∧tagg Tryz.prog 4=some false∧tbool Tryz.prog 4=true∧tslice Tryz.prog 4=none∧tzero Tryz.prog 4=some [.bool false]:=by and_intros<;>kernel_rfl
theorem ft5:tsz Tryz.prog 5=some 1∧tbytes Tryz.prog 5=some 1∧tagg Tryz.prog 5=some false∧tslice Tryz.prog 5=none∧Tryz.prog.underlying 5=some (.int .u8)∧tzero Tryz.prog 5=some [.int .u8 0]:=by and_intros<;>kernel_rfl
theorem ft6:tsz Tryz.prog 6=some 1∧tbytes Tryz.prog 6=some 1∧tagg Tryz.prog 6=some false∧tslice Tryz.prog 6=none∧Tryz.prog.underlying 6=some (.int .u8)∧tzero Tryz.prog 6=some [.int .u8 0]:=by and_intros<;>kernel_rfl
theorem ft7:tsz Tryz.prog 7=some 4∧tbytes Tryz.prog 7=some 24∧tagg Tryz.prog 7=some true∧tslice Tryz.prog 7=none∧tzero Tryz.prog 7=some [.int .i64 0,.int .i64 0,.bool false,.int .u8 0]∧tstruct Tryz.prog 7=some [.int .i64 0,.int .i64 0,.bool false,.int .u8 0]∧tfield Tryz.prog 7 0=some (0,2)∧tfield Tryz.prog 7 1=some (1,3)∧tfield Tryz.prog 7 2=some (2,4)∧tfield Tryz.prog 7 3=some (3,6):=by and_intros<;>kernel_rfl
theorem ft8:tsz Tryz.prog 8=some 4∧tbytes Tryz.prog 8=some 24∧tagg Tryz.prog 8=some true∧tslice Tryz.prog 8=none∧tzero Tryz.prog 8=some [.int .i64 0,.int .i64 0,.bool false,.int .u8 0]∧tstruct Tryz.prog 8=some [.int .i64 0,.int .i64 0,.bool false,.int .u8 0]∧tfield Tryz.prog 8 0=some (0,2)∧tfield Tryz.prog 8 1=some (1,3)∧tfield Tryz.prog 8 2=some (2,4)∧tfield Tryz.prog 8 3=some (3,6):=by and_intros<;>kernel_rfl
theorem ft9:tsz Tryz.prog 9=some 1∧tbytes Tryz.prog 9=some 16∧tagg Tryz.prog 9=some false∧tstring Tryz.prog 9=true∧tslice Tryz.prog 9=none∧tzero Tryz.prog 9=some [.string .empty]:=by and_intros<;>kernel_rfl
theorem ft10:tsz Tryz.prog 10=some 1∧tbytes Tryz.prog 10=some 16∧tagg Tryz.prog 10=some false∧tstring Tryz.prog 10=true∧tslice Tryz.prog 10=none∧tzero Tryz.prog 10=some [.string .empty]:=by and_intros<;>kernel_rfl
theorem ft11:tsz Tryz.prog 11=some 1∧tbytes Tryz.prog 11=some 16∧tagg Tryz.prog 11=some false∧tstring Tryz.prog 11=true∧tslice Tryz.prog 11=none∧tzero Tryz.prog 11=some [.string .empty]:=by and_intros<;>kernel_rfl
theorem ft12:tsz Tryz.prog 12=some 1∧tbytes Tryz.prog 12=some 8∧tagg Tryz.prog 12=some false∧tslice Tryz.prog 12=none∧Tryz.prog.underlying 12=some (.int .u64)∧tzero Tryz.prog 12=some [.int .u64 0]:=by and_intros<;>kernel_rfl
theorem ft13:tsz Tryz.prog 13=some 2∧tbytes Tryz.prog 13=some 24∧tagg Tryz.prog 13=some true∧tslice Tryz.prog 13=none∧tzero Tryz.prog 13=some [.string .empty,.int .u64 0]∧tstruct Tryz.prog 13=some [.string .empty,.int .u64 0]∧tfield Tryz.prog 13 0=some (0,9)∧tfield Tryz.prog 13 1=some (1,12):=by and_intros<;>kernel_rfl
theorem ft14:tsz Tryz.prog 14=some 2∧tbytes Tryz.prog 14=some 24∧tagg Tryz.prog 14=some true∧tslice Tryz.prog 14=none∧tzero Tryz.prog 14=some [.string .empty,.int .u64 0]∧tstruct Tryz.prog 14=some [.string .empty,.int .u64 0]∧tfield Tryz.prog 14 0=some (0,9)∧tfield Tryz.prog 14 1=some (1,12):=by and_intros<;>kernel_rfl
theorem ft22:tsz Tryz.prog 22=some 1∧tbytes Tryz.prog 22=some 24∧tagg Tryz.prog 22=some false∧tslice Tryz.prog 22=some 3∧tzero Tryz.prog 22=some [.slice none 0 0]:=by and_intros<;>kernel_rfl
theorem ft23:tsz Tryz.prog 23=some 1∧tbytes Tryz.prog 23=some 24∧tagg Tryz.prog 23=some false∧tslice Tryz.prog 23=some 42∧tzero Tryz.prog 23=some [.slice none 0 0]:=by and_intros<;>kernel_rfl
theorem ft24:tsz Tryz.prog 24=some 3∧tbytes Tryz.prog 24=some 72∧tagg Tryz.prog 24=some true∧tslice Tryz.prog 24=none∧tzero Tryz.prog 24=some [.slice none 0 0,.slice none 0 0,.slice none 0 0]∧tstruct Tryz.prog 24=some [.slice none 0 0,.slice none 0 0,.slice none 0 0]∧tfield Tryz.prog 24 0=some (0,22)∧tfield Tryz.prog 24 1=some (1,22)∧tfield Tryz.prog 24 2=some (2,23):=by and_intros<;>kernel_rfl
theorem ft25:tsz Tryz.prog 25=some 3∧tbytes Tryz.prog 25=some 72∧tagg Tryz.prog 25=some true∧tslice Tryz.prog 25=none∧tzero Tryz.prog 25=some [.slice none 0 0,.slice none 0 0,.slice none 0 0]∧tstruct Tryz.prog 25=some [.slice none 0 0,.slice none 0 0,.slice none 0 0]∧tfield Tryz.prog 25 0=some (0,22)∧tfield Tryz.prog 25 1=some (1,22)∧tfield Tryz.prog 25 2=some (2,23):=by and_intros<;>kernel_rfl
theorem ft26:tsz Tryz.prog 26=some 1∧tbytes Tryz.prog 26=some 0∧tagg Tryz.prog 26=some false∧tslice Tryz.prog 26=none:=by and_intros<;>kernel_rfl
theorem ft31:tsz Tryz.prog 31=some 1∧tbytes Tryz.prog 31=some 24∧tagg Tryz.prog 31=some false∧tslice Tryz.prog 31=some 5∧tzero Tryz.prog 31=some [.slice none 0 0]:=by and_intros<;>kernel_rfl
theorem ft37:tsz Tryz.prog 37=some 1∧tbytes Tryz.prog 37=some 24∧tagg Tryz.prog 37=some false∧tslice Tryz.prog 37=some 9∧tzero Tryz.prog 37=some [.slice none 0 0]:=by and_intros<;>kernel_rfl
theorem ft39:tsz Tryz.prog 39=some 1∧tbytes Tryz.prog 39=some 0∧tagg Tryz.prog 39=some false∧tslice Tryz.prog 39=none:=by and_intros<;>kernel_rfl
theorem ft41:tsz Tryz.prog 41=some 5∧tbytes Tryz.prog 41=some 40∧tagg Tryz.prog 41=some true∧tslice Tryz.prog 41=none∧tzero Tryz.prog 41=some [.int .i64 0,.int .i64 0,.int .i64 0,.int .i64 0,.int .i64 0]∧tstruct Tryz.prog 41=some [.int .i64 0,.int .i64 0,.int .i64 0,.int .i64 0,.int .i64 0]∧tints Tryz.prog 41=some 5∧tfield Tryz.prog 41 0=some (0,3)∧tfield Tryz.prog 41 1=some (1,3)∧tfield Tryz.prog 41 2=some (2,3)∧tfield Tryz.prog 41 3=some (3,3)∧tfield Tryz.prog 41 4=some (4,3):=by and_intros<;>kernel_rfl
theorem ft42:tsz Tryz.prog 42=some 5∧tbytes Tryz.prog 42=some 40∧tagg Tryz.prog 42=some true∧tslice Tryz.prog 42=none∧tzero Tryz.prog 42=some [.int .i64 0,.int .i64 0,.int .i64 0,.int .i64 0,.int .i64 0]∧tstruct Tryz.prog 42=some [.int .i64 0,.int .i64 0,.int .i64 0,.int .i64 0,.int .i64 0]∧tints Tryz.prog 42=some 5∧tfield Tryz.prog 42 0=some (0,3)∧tfield Tryz.prog 42 1=some (1,3)∧tfield Tryz.prog 42 2=some (2,3)∧tfield Tryz.prog 42 3=some (3,3)∧tfield Tryz.prog 42 4=some (4,3):=by and_intros<;>kernel_rfl
theorem ft43:tsz Tryz.prog 43=some 1∧tbytes Tryz.prog 43=some 0∧tagg Tryz.prog 43=some false∧tslice Tryz.prog 43=none:=by and_intros<;>kernel_rfl
theorem ft46:tsz Tryz.prog 46=some 1∧tbytes Tryz.prog 46=some 0∧tagg Tryz.prog 46=some false∧tslice Tryz.prog 46=none:=by and_intros<;>kernel_rfl
theorem ft48:tsz Tryz.prog 48=some 1∧tbytes Tryz.prog 48=some 0∧tagg Tryz.prog 48=some false∧tslice Tryz.prog 48=none:=by and_intros<;>kernel_rfl
theorem ft52:tsz Tryz.prog 52=some 1∧tbytes Tryz.prog 52=some 16∧tagg Tryz.prog 52=some false∧tslice Tryz.prog 52=none∧tzero Tryz.prog 52=some [.nilIface]:=by and_intros<;>kernel_rfl
theorem ft53:tsz Tryz.prog 53=some 1∧tbytes Tryz.prog 53=some 16∧tagg Tryz.prog 53=some false∧tslice Tryz.prog 53=none∧tzero Tryz.prog 53=some [.nilIface]:=by and_intros<;>kernel_rfl
theorem ft54:tsz Tryz.prog 54=some 1∧tbytes Tryz.prog 54=some 0∧tagg Tryz.prog 54=some false∧tslice Tryz.prog 54=none:=by and_intros<;>kernel_rfl
theorem ft66:tsz Tryz.prog 66=some 1∧tbytes Tryz.prog 66=some 8∧tagg Tryz.prog 66=some false∧tslice Tryz.prog 66=none∧tzero Tryz.prog 66=some [.nilFunc]:=by and_intros<;>kernel_rfl
theorem ft68:tsz Tryz.prog 68=some 1∧tbytes Tryz.prog 68=some 24∧tagg Tryz.prog 68=some false∧tslice Tryz.prog 68=some 119∧tzero Tryz.prog 68=some [.slice none 0 0]:=by and_intros<;>kernel_rfl
theorem ft69:tsz Tryz.prog 69=some 3∧tbytes Tryz.prog 69=some 72∧tagg Tryz.prog 69=some true∧tslice Tryz.prog 69=none∧tzero Tryz.prog 69=some [.slice none 0 0,.slice none 0 0,.slice none 0 0]∧tstruct Tryz.prog 69=some [.slice none 0 0,.slice none 0 0,.slice none 0 0]∧tfield Tryz.prog 69 0=some (0,22)∧tfield Tryz.prog 69 1=some (1,22)∧tfield Tryz.prog 69 2=some (2,68):=by and_intros<;>kernel_rfl
theorem ft70:tsz Tryz.prog 70=some 3∧tbytes Tryz.prog 70=some 72∧tagg Tryz.prog 70=some true∧tslice Tryz.prog 70=none∧tzero Tryz.prog 70=some [.slice none 0 0,.slice none 0 0,.slice none 0 0]∧tstruct Tryz.prog 70=some [.slice none 0 0,.slice none 0 0,.slice none 0 0]∧tfield Tryz.prog 70 0=some (0,22)∧tfield Tryz.prog 70 1=some (1,22)∧tfield Tryz.prog 70 2=some (2,68):=by and_intros<;>kernel_rfl
theorem ft73:tsz Tryz.prog 73=some 1∧tbytes Tryz.prog 73=some 8∧tagg Tryz.prog 73=some false∧tslice Tryz.prog 73=none∧tzero Tryz.prog 73=some [.pointer none]:=by and_intros<;>kernel_rfl
theorem ft78:tsz Tryz.prog 78=some 1∧tbytes Tryz.prog 78=some 0∧tagg Tryz.prog 78=some false∧tslice Tryz.prog 78=none:=by and_intros<;>kernel_rfl
theorem ft85:tsz Tryz.prog 85=some 1∧tbytes Tryz.prog 85=some 8∧tagg Tryz.prog 85=some false∧tslice Tryz.prog 85=none∧tzero Tryz.prog 85=some [.nilFunc]:=by and_intros<;>kernel_rfl
theorem ft93:tsz Tryz.prog 93=some 2∧tbytes Tryz.prog 93=some 32∧tagg Tryz.prog 93=some true∧tslice Tryz.prog 93=none∧tzero Tryz.prog 93=some [.slice none 0 0,.int .i64 0]∧tstruct Tryz.prog 93=some [.slice none 0 0,.int .i64 0]∧tfield Tryz.prog 93 0=some (0,31)∧tfield Tryz.prog 93 1=some (1,3):=by and_intros<;>kernel_rfl
theorem ft94:tsz Tryz.prog 94=some 2∧tbytes Tryz.prog 94=some 32∧tagg Tryz.prog 94=some true∧tslice Tryz.prog 94=none∧tzero Tryz.prog 94=some [.slice none 0 0,.int .i64 0]∧tstruct Tryz.prog 94=some [.slice none 0 0,.int .i64 0]∧tfield Tryz.prog 94 0=some (0,31)∧tfield Tryz.prog 94 1=some (1,3):=by and_intros<;>kernel_rfl
theorem ft109:tsz Tryz.prog 109=some 1∧tbytes Tryz.prog 109=some 8∧tagg Tryz.prog 109=some false∧tslice Tryz.prog 109=none∧tzero Tryz.prog 109=some [.pointer none]:=by and_intros<;>kernel_rfl
theorem ft110:tsz Tryz.prog 110=some 2∧tbytes Tryz.prog 110=some 32∧tagg Tryz.prog 110=some true∧tslice Tryz.prog 110=none∧tzero Tryz.prog 110=some [.pointer none,.slice none 0 0]∧tstruct Tryz.prog 110=some [.pointer none,.slice none 0 0]∧tfield Tryz.prog 110 0=some (0,109)∧tfield Tryz.prog 110 1=some (1,31):=by and_intros<;>kernel_rfl
theorem ft111:tsz Tryz.prog 111=some 2∧tbytes Tryz.prog 111=some 32∧tagg Tryz.prog 111=some true∧tslice Tryz.prog 111=none∧tzero Tryz.prog 111=some [.pointer none,.slice none 0 0]∧tstruct Tryz.prog 111=some [.pointer none,.slice none 0 0]∧tfield Tryz.prog 111 0=some (0,109)∧tfield Tryz.prog 111 1=some (1,31):=by and_intros<;>kernel_rfl
theorem ft115:tsz Tryz.prog 115=some 1∧tbytes Tryz.prog 115=some 24∧tagg Tryz.prog 115=some false∧tslice Tryz.prog 115=some 117∧tzero Tryz.prog 115=some [.slice none 0 0]:=by and_intros<;>kernel_rfl
theorem ft116:tsz Tryz.prog 116=some 3∧tbytes Tryz.prog 116=some 40∧tagg Tryz.prog 116=some true∧tslice Tryz.prog 116=none∧tzero Tryz.prog 116=some [.int .i64 0,.int .i64 0,.slice none 0 0]∧tstruct Tryz.prog 116=some [.int .i64 0,.int .i64 0,.slice none 0 0]∧tfield Tryz.prog 116 0=some (0,3)∧tfield Tryz.prog 116 1=some (1,3)∧tfield Tryz.prog 116 2=some (2,115):=by and_intros<;>kernel_rfl
theorem ft117:tsz Tryz.prog 117=some 3∧tbytes Tryz.prog 117=some 40∧tagg Tryz.prog 117=some true∧tslice Tryz.prog 117=none∧tzero Tryz.prog 117=some [.int .i64 0,.int .i64 0,.slice none 0 0]∧tstruct Tryz.prog 117=some [.int .i64 0,.int .i64 0,.slice none 0 0]∧tfield Tryz.prog 117 0=some (0,3)∧tfield Tryz.prog 117 1=some (1,3)∧tfield Tryz.prog 117 2=some (2,115):=by and_intros<;>kernel_rfl
theorem ft118:tsz Tryz.prog 118=some 11∧tbytes Tryz.prog 118=some 152∧tagg Tryz.prog 118=some true∧tslice Tryz.prog 118=none∧tzero Tryz.prog 118=some [.int .i64 0,.int .i64 0,.int .i64 0,.int .i64 0,.slice none 0 0,.int .i64 0,.int .i64 0,.slice none 0 0,.int .i64 0,.slice none 0 0,.slice none 0 0]∧tstruct Tryz.prog 118=some [.int .i64 0,.int .i64 0,.int .i64 0,.int .i64 0,.slice none 0 0,.int .i64 0,.int .i64 0,.slice none 0 0,.int .i64 0,.slice none 0 0,.slice none 0 0]∧tfield Tryz.prog 118 0=some (0,3)∧tfield Tryz.prog 118 1=some (1,3)∧tfield Tryz.prog 118 2=some (2,117)∧tfield Tryz.prog 118 3=some (5,117)∧tfield Tryz.prog 118 4=some (8,3)∧tfield Tryz.prog 118 5=some (9,68)∧tfield Tryz.prog 118 6=some (10,68):=by and_intros<;>kernel_rfl
theorem ft119:tsz Tryz.prog 119=some 11∧tbytes Tryz.prog 119=some 152∧tagg Tryz.prog 119=some true∧tslice Tryz.prog 119=none∧tzero Tryz.prog 119=some [.int .i64 0,.int .i64 0,.int .i64 0,.int .i64 0,.slice none 0 0,.int .i64 0,.int .i64 0,.slice none 0 0,.int .i64 0,.slice none 0 0,.slice none 0 0]∧tstruct Tryz.prog 119=some [.int .i64 0,.int .i64 0,.int .i64 0,.int .i64 0,.slice none 0 0,.int .i64 0,.int .i64 0,.slice none 0 0,.int .i64 0,.slice none 0 0,.slice none 0 0]∧tfield Tryz.prog 119 0=some (0,3)∧tfield Tryz.prog 119 1=some (1,3)∧tfield Tryz.prog 119 2=some (2,117)∧tfield Tryz.prog 119 3=some (5,117)∧tfield Tryz.prog 119 4=some (8,3)∧tfield Tryz.prog 119 5=some (9,68)∧tfield Tryz.prog 119 6=some (10,68):=by and_intros<;>kernel_rfl
theorem ft144:tsz Tryz.prog 144=some 1∧tbytes Tryz.prog 144=some 8∧tagg Tryz.prog 144=some false∧tslice Tryz.prog 144=none∧tzero Tryz.prog 144=some [.pointer none]:=by and_intros<;>kernel_rfl
theorem ok3:fnOK Tryz.prog 3=true:=by kernel_rfl
theorem ok5:fnOK Tryz.prog 5=true:=by kernel_rfl
theorem ok6:fnOK Tryz.prog 6=true:=by kernel_rfl
theorem ok7:fnOK Tryz.prog 7=true:=by kernel_rfl
theorem ok8:fnOK Tryz.prog 8=true:=by kernel_rfl
theorem ok9:fnOK Tryz.prog 9=true:=by kernel_rfl
theorem ok12:fnOK Tryz.prog 12=true:=by kernel_rfl
theorem ok13:fnOK Tryz.prog 13=true:=by kernel_rfl
theorem ok14:fnOK Tryz.prog 14=true:=by kernel_rfl
theorem ok17:fnOK Tryz.prog 17=true:=by kernel_rfl
theorem ok18:fnOK Tryz.prog 18=true:=by kernel_rfl
theorem ok19:fnOK Tryz.prog 19=true:=by kernel_rfl
theorem ok20:fnOK Tryz.prog 20=true:=by kernel_rfl
theorem ok21:fnOK Tryz.prog 21=true:=by kernel_rfl
theorem ok22:fnOK Tryz.prog 22=true:=by kernel_rfl
theorem ok23:fnOK Tryz.prog 23=true:=by kernel_rfl
theorem ok24:fnOK Tryz.prog 24=true:=by kernel_rfl
theorem ok25:fnOK Tryz.prog 25=true:=by kernel_rfl
theorem ok26:fnOK Tryz.prog 26=true:=by kernel_rfl
theorem ok27:fnOK Tryz.prog 27=true:=by kernel_rfl
theorem ok28:fnOK Tryz.prog 28=true:=by kernel_rfl
theorem ok29:fnOK Tryz.prog 29=true:=by kernel_rfl
theorem ok30:fnOK Tryz.prog 30=true:=by kernel_rfl
theorem ok31:fnOK Tryz.prog 31=true:=by kernel_rfl
theorem ok32:fnOK Tryz.prog 32=true:=by kernel_rfl
theorem ok33:fnOK Tryz.prog 33=true:=by kernel_rfl
theorem ok34:fnOK Tryz.prog 34=true:=by kernel_rfl
theorem ok36:fnOK Tryz.prog 36=true:=by kernel_rfl
theorem ok37:fnOK Tryz.prog 37=true:=by kernel_rfl
theorem ok38:fnOK Tryz.prog 38=true:=by kernel_rfl
theorem ok39:fnOK Tryz.prog 39=true:=by kernel_rfl
theorem ok40:fnOK Tryz.prog 40=true:=by kernel_rfl
theorem ok41:fnOK Tryz.prog 41=true:=by kernel_rfl
theorem ok42:fnOK Tryz.prog 42=true:=by kernel_rfl
theorem ok43:fnOK Tryz.prog 43=true:=by kernel_rfl
theorem ok44:fnOK Tryz.prog 44=true:=by kernel_rfl
theorem ok45:fnOK Tryz.prog 45=true:=by kernel_rfl
theorem ok51:fnOK Tryz.prog 51=true:=by kernel_rfl
theorem ok52:fnOK Tryz.prog 52=true:=by kernel_rfl
theorem ok53:fnOK Tryz.prog 53=true:=by kernel_rfl
theorem ok57:fnOK Tryz.prog 57=true:=by kernel_rfl
theorem ok60:fnOK Tryz.prog 60=true:=by kernel_rfl
theorem ok61:fnOK Tryz.prog 61=true:=by kernel_rfl
theorem ok62:fnOK Tryz.prog 62=true:=by kernel_rfl
theorem ok64:fnOK Tryz.prog 64=true:=by kernel_rfl
theorem ok65:fnOK Tryz.prog 65=true:=by kernel_rfl
theorem ok66:fnOK Tryz.prog 66=true:=by kernel_rfl
theorem ok67:fnOK Tryz.prog 67=true:=by kernel_rfl
theorem ok68:fnOK Tryz.prog 68=true:=by kernel_rfl
theorem ok69:fnOK Tryz.prog 69=true:=by kernel_rfl
theorem ok70:fnOK Tryz.prog 70=true:=by kernel_rfl
theorem ok71:fnOK Tryz.prog 71=true:=by kernel_rfl
theorem ok72:fnOK Tryz.prog 72=true:=by kernel_rfl
theorem ok73:fnOK Tryz.prog 73=true:=by kernel_rfl
theorem ok74:fnOK Tryz.prog 74=true:=by kernel_rfl
theorem ok77:fnOK Tryz.prog 77=true:=by kernel_rfl
theorem ok90:fnOK Tryz.prog 90=true:=by kernel_rfl
theorem ok92:fnOK Tryz.prog 92=true:=by kernel_rfl
theorem ok93:fnOK Tryz.prog 93=true:=by kernel_rfl
theorem ok94:fnOK Tryz.prog 94=true:=by kernel_rfl
theorem ok95:fnOK Tryz.prog 95=true:=by kernel_rfl
theorem ok96:fnOK Tryz.prog 96=true:=by kernel_rfl
theorem ok110:fnOK Tryz.prog 110=true:=by kernel_rfl
theorem ok111:fnOK Tryz.prog 111=true:=by kernel_rfl
theorem ok112:fnOK Tryz.prog 112=true:=by kernel_rfl
attribute [go_sem] ft0 ft1 ft2 ft3 ft4 ft5 ft6 ft7 ft8 ft9 ft10 ft11 ft12 ft13
 ft14 ft22 ft23 ft24 ft25 ft26
 ft31 ft37 ft39 ft41
 ft42 ft43 ft46 ft48 ft52 ft53 ft54
 ft66 ft68 ft69
 ft70 ft73 ft78
 ft85 ft93 ft94
 ft109 ft110 ft111
 ft115 ft116 ft117 ft118 ft119
 ft144
 Tryz.f3 Tryz.f5 Tryz.f6 Tryz.f7 Tryz.f8 Tryz.f9 Tryz.f12 Tryz.f13 Tryz.f14 Tryz.f17 Tryz.f18 Tryz.f19 Tryz.f23 Tryz.f25
 Tryz.f27 Tryz.f28 Tryz.f29 Tryz.f30 Tryz.f31 Tryz.f32 Tryz.f33 Tryz.f34 Tryz.f36 Tryz.f37 Tryz.f38 Tryz.f39 Tryz.f40 Tryz.f41
 Tryz.f42 Tryz.f43 Tryz.f44 Tryz.f45 Tryz.f51 Tryz.f52 Tryz.f53 Tryz.f60 Tryz.f61 Tryz.f62 Tryz.f64 Tryz.f65 Tryz.f66 Tryz.f67
 Tryz.f68 Tryz.f69 Tryz.f70 Tryz.f71 Tryz.f72 Tryz.f73 Tryz.f74 Tryz.f77 Tryz.f90 Tryz.f92 Tryz.f93 Tryz.f94 Tryz.f95 Tryz.f96
 Tryz.f111 Tryz.f112
end Go.Proofs.YtfkhahkclgejnaaGreatDoor.CtF
