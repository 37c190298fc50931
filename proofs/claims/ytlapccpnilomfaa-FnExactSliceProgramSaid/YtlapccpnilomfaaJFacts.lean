/- Contracts of functions of the program, one behind the other, as plain data: what each call returns and which blocks it leaves. -/
import Derived.Test.YtlapccpnilomfaaChecked
import Derived.KernelRfl
import Derived.Test.YtlapccpnilomfaaJAn
set_option linter.unusedVariables false
set_option linter.unusedSimpArgs false
set_option linter.unusedSectionVars false
set_option maxHeartbeats 16000000
set_option maxRecDepth 100000
namespace Go.Proofs.Ytlapccpnilomfaa.CtF
open Go Go.CT
theorem mo:Try.prog.follows .mixedOrders=true:=by kernel_rfl
theorem drvZ [Yn] {K:Bool} {m nt:Nat} {f:FuncId} {R:D→List (Option (List C))→Prop} {r:Option Rg} {k:List Item} {S:Ms} {fn:Func} (hfn:Try.prog.funcs[f]? = some fn) (h:drv K Try.prog m f nt R fn.results.toList 12 r k S):XK K Try.prog m f nt R r k S :=
 drv_sound hfn mo rfl 12 r k S h
theorem drvL [Yn] {K:Bool} {m nt:Nat} {f:FuncId} {R:D→List (Option (List C))→Prop} {k:List Item} {S:Ms} {fn:Func} (hfn:Try.prog.funcs[f]? = some fn) (h:drv K Try.prog m f nt R fn.results.toList 12 none k S):Go K Try.prog m f nt R k S :=
 drv_sound hfn mo rfl 12 none k S h
theorem dcZ [Yn] {f : FuncId} {R : D → List (Option (List C)) → Prop} {args : List D} {h : List (Option (List C))} {fn : Func} {c : Code} (hf : Try.prog.funcs[f]? = some fn)
 (hg:drv false Try.prog h.length f fn.ntmps R fn.results.toList 12 none [.code c] ⟨ofArgs 0 args,hpL h,h.length⟩) (hb:fn.body=some c:=by rfl) (hn:args.length≤fn.ntmps:=by simp):DC Try.prog f args h R :=
 dc_of_go hf hb hn (drv_sound hf mo rfl 12 none _ _ hg)
theorem ft0:tsz Try.prog 0=some 1∧tbytes Try.prog 0=some 0∧tagg Try.prog 0=some false∧tslice Try.prog 0=none:=by and_intros<;>kernel_rfl
theorem ft1:tsz Try.prog 1=some 1∧tbytes Try.prog 1=some 8∧tagg Try.prog 1=some false∧tslice Try.prog 1=none∧tzero Try.prog 1=some [.nilFunc]:=by and_intros<;>kernel_rfl
theorem ft2:tsz Try.prog 2=some 1∧tbytes Try.prog 2=some 8∧tagg Try.prog 2=some false∧tslice Try.prog 2=none∧Try.prog.underlying 2=some (.int .i64)∧tzero Try.prog 2=some [.int .i64 0]:=by and_intros<;>kernel_rfl
theorem ft3:tsz Try.prog 3=some 1∧tbytes Try.prog 3=some 8∧tagg Try.prog 3=some false∧tslice Try.prog 3=none∧Try.prog.underlying 3=some (.int .i64)∧tzero Try.prog 3=some [.int .i64 0]:=by and_intros<;>kernel_rfl
theorem ft4:tsz Try.prog 4=some 1∧tbytes Try.prog 4=some 1∧tagg Try.prog 4=some false∧tbool Try.prog 4=true∧tslice Try.prog 4=none∧tzero Try.prog 4=some [.bool false]:=by and_intros<;>kernel_rfl
theorem ft5:tsz Try.prog 5=some 1∧tbytes Try.prog 5=some 1∧tagg Try.prog 5=some false∧tslice Try.prog 5=none∧Try.prog.underlying 5=some (.int .u8)∧tzero Try.prog 5=some [.int .u8 0]:=by and_intros<;>kernel_rfl
theorem ft6:tsz Try.prog 6=some 1∧tbytes Try.prog 6=some 1∧tagg Try.prog 6=some false∧tslice Try.prog 6=none∧Try.prog.underlying 6=some (.int .u8)∧tzero Try.prog 6=some [.int .u8 0]:=by and_intros<;>kernel_rfl
theorem ft7:tsz Try.prog 7=some 4∧tbytes Try.prog 7=some 24∧tagg Try.prog 7=some true∧tslice Try.prog 7=none∧tzero Try.prog 7=some [.int .i64 0,.int .i64 0,.bool false,.int .u8 0]∧tstruct Try.prog 7=some [.int .i64 0,.int .i64 0,.bool false,.int .u8 0]∧tfield Try.prog 7 0=some (0,2)∧tfield Try.prog 7 1=some (1,3)∧tfield Try.prog 7 2=some (2,4)∧tfield Try.prog 7 3=some (3,6):=by and_intros<;>kernel_rfl
theorem ft8:tsz Try.prog 8=some 4∧tbytes Try.prog 8=some 24∧tagg Try.prog 8=some true∧tslice Try.prog 8=none∧tzero Try.prog 8=some [.int .i64 0,.int .i64 0,.bool false,.int .u8 0]∧tstruct Try.prog 8=some [.int .i64 0,.int .i64 0,.bool false,.int .u8 0]∧tfield Try.prog 8 0=some (0,2)∧tfield Try.prog 8 1=some (1,3)∧tfield Try.prog 8 2=some (2,4)∧tfield Try.prog 8 3=some (3,6):=by and_intros<;>kernel_rfl
theorem ft9:tsz Try.prog 9=some 1∧tbytes Try.prog 9=some 16∧tagg Try.prog 9=some false∧tstring Try.prog 9=true∧tslice Try.prog 9=none∧tzero Try.prog 9=some [.string .empty]:=by and_intros<;>kernel_rfl
theorem ft10:tsz Try.prog 10=some 1∧tbytes Try.prog 10=some 16∧tagg Try.prog 10=some false∧tstring Try.prog 10=true∧tslice Try.prog 10=none∧tzero Try.prog 10=some [.string .empty]:=by and_intros<;>kernel_rfl
theorem ft22:tsz Try.prog 22=some 1∧tbytes Try.prog 22=some 24∧tagg Try.prog 22=some false∧tslice Try.prog 22=some 3∧tzero Try.prog 22=some [.slice none 0 0]:=by and_intros<;>kernel_rfl
theorem ft23:tsz Try.prog 23=some 1∧tbytes Try.prog 23=some 24∧tagg Try.prog 23=some false∧tslice Try.prog 23=some 61∧tzero Try.prog 23=some [.slice none 0 0]:=by and_intros<;>kernel_rfl
theorem ft24:tsz Try.prog 24=some 3∧tbytes Try.prog 24=some 72∧tagg Try.prog 24=some true∧tslice Try.prog 24=none∧tzero Try.prog 24=some [.slice none 0 0,.slice none 0 0,.slice none 0 0]∧tstruct Try.prog 24=some [.slice none 0 0,.slice none 0 0,.slice none 0 0]∧tfield Try.prog 24 0=some (0,22)∧tfield Try.prog 24 1=some (1,22)∧tfield Try.prog 24 2=some (2,23):=by and_intros<;>kernel_rfl
theorem ft25:tsz Try.prog 25=some 3∧tbytes Try.prog 25=some 72∧tagg Try.prog 25=some true∧tslice Try.prog 25=none∧tzero Try.prog 25=some [.slice none 0 0,.slice none 0 0,.slice none 0 0]∧tstruct Try.prog 25=some [.slice none 0 0,.slice none 0 0,.slice none 0 0]∧tfield Try.prog 25 0=some (0,22)∧tfield Try.prog 25 1=some (1,22)∧tfield Try.prog 25 2=some (2,23):=by and_intros<;>kernel_rfl
theorem ft26:tsz Try.prog 26=some 1∧tbytes Try.prog 26=some 24∧tagg Try.prog 26=some false∧tslice Try.prog 26=some 4∧tzero Try.prog 26=some [.slice none 0 0]:=by and_intros<;>kernel_rfl
theorem ft28:tsz Try.prog 28=some 1∧tbytes Try.prog 28=some 24∧tagg Try.prog 28=some false∧tslice Try.prog 28=some 67∧tzero Try.prog 28=some [.slice none 0 0]:=by and_intros<;>kernel_rfl
theorem ft29:tsz Try.prog 29=some 3∧tbytes Try.prog 29=some 72∧tagg Try.prog 29=some true∧tslice Try.prog 29=none∧tzero Try.prog 29=some [.slice none 0 0,.slice none 0 0,.slice none 0 0]∧tstruct Try.prog 29=some [.slice none 0 0,.slice none 0 0,.slice none 0 0]∧tfield Try.prog 29 0=some (0,22)∧tfield Try.prog 29 1=some (1,22)∧tfield Try.prog 29 2=some (2,28):=by and_intros<;>kernel_rfl
theorem ft30:tsz Try.prog 30=some 3∧tbytes Try.prog 30=some 72∧tagg Try.prog 30=some true∧tslice Try.prog 30=none∧tzero Try.prog 30=some [.slice none 0 0,.slice none 0 0,.slice none 0 0]∧tstruct Try.prog 30=some [.slice none 0 0,.slice none 0 0,.slice none 0 0]∧tfield Try.prog 30 0=some (0,22)∧tfield Try.prog 30 1=some (1,22)∧tfield Try.prog 30 2=some (2,28):=by and_intros<;>kernel_rfl
theorem ft31:tsz Try.prog 31=some 1∧tbytes Try.prog 31=some 0∧tagg Try.prog 31=some false∧tslice Try.prog 31=none:=by and_intros<;>kernel_rfl
theorem ft50:tsz Try.prog 50=some 1∧tbytes Try.prog 50=some 0∧tagg Try.prog 50=some false∧tslice Try.prog 50=none:=by and_intros<;>kernel_rfl
theorem ft57:tsz Try.prog 57=some 1∧tbytes Try.prog 57=some 24∧tagg Try.prog 57=some false∧tslice Try.prog 57=some 59∧tzero Try.prog 57=some [.slice none 0 0]:=by and_intros<;>kernel_rfl
theorem ft58:tsz Try.prog 58=some 3∧tbytes Try.prog 58=some 40∧tagg Try.prog 58=some true∧tslice Try.prog 58=none∧tzero Try.prog 58=some [.int .i64 0,.int .i64 0,.slice none 0 0]∧tstruct Try.prog 58=some [.int .i64 0,.int .i64 0,.slice none 0 0]∧tfield Try.prog 58 0=some (0,3)∧tfield Try.prog 58 1=some (1,3)∧tfield Try.prog 58 2=some (2,57):=by and_intros<;>kernel_rfl
theorem ft59:tsz Try.prog 59=some 3∧tbytes Try.prog 59=some 40∧tagg Try.prog 59=some true∧tslice Try.prog 59=none∧tzero Try.prog 59=some [.int .i64 0,.int .i64 0,.slice none 0 0]∧tstruct Try.prog 59=some [.int .i64 0,.int .i64 0,.slice none 0 0]∧tfield Try.prog 59 0=some (0,3)∧tfield Try.prog 59 1=some (1,3)∧tfield Try.prog 59 2=some (2,57):=by and_intros<;>kernel_rfl
theorem ft60:tsz Try.prog 60=some 11∧tbytes Try.prog 60=some 152∧tagg Try.prog 60=some true∧tslice Try.prog 60=none∧tzero Try.prog 60=some [.int .i64 0,.int .i64 0,.int .i64 0,.int .i64 0,.slice none 0 0,.int .i64 0,.int .i64 0,.slice none 0 0,.int .i64 0,.slice none 0 0,.slice none 0 0]∧tstruct Try.prog 60=some [.int .i64 0,.int .i64 0,.int .i64 0,.int .i64 0,.slice none 0 0,.int .i64 0,.int .i64 0,.slice none 0 0,.int .i64 0,.slice none 0 0,.slice none 0 0]∧tfield Try.prog 60 0=some (0,3)∧tfield Try.prog 60 1=some (1,3)∧tfield Try.prog 60 2=some (2,59)∧tfield Try.prog 60 3=some (5,59)∧tfield Try.prog 60 4=some (8,3)∧tfield Try.prog 60 5=some (9,23)∧tfield Try.prog 60 6=some (10,23):=by and_intros<;>kernel_rfl
theorem ft61:tsz Try.prog 61=some 11∧tbytes Try.prog 61=some 152∧tagg Try.prog 61=some true∧tslice Try.prog 61=none∧tzero Try.prog 61=some [.int .i64 0,.int .i64 0,.int .i64 0,.int .i64 0,.slice none 0 0,.int .i64 0,.int .i64 0,.slice none 0 0,.int .i64 0,.slice none 0 0,.slice none 0 0]∧tstruct Try.prog 61=some [.int .i64 0,.int .i64 0,.int .i64 0,.int .i64 0,.slice none 0 0,.int .i64 0,.int .i64 0,.slice none 0 0,.int .i64 0,.slice none 0 0,.slice none 0 0]∧tfield Try.prog 61 0=some (0,3)∧tfield Try.prog 61 1=some (1,3)∧tfield Try.prog 61 2=some (2,59)∧tfield Try.prog 61 3=some (5,59)∧tfield Try.prog 61 4=some (8,3)∧tfield Try.prog 61 5=some (9,23)∧tfield Try.prog 61 6=some (10,23):=by and_intros<;>kernel_rfl
theorem ft63:tsz Try.prog 63=some 1∧tbytes Try.prog 63=some 24∧tagg Try.prog 63=some false∧tslice Try.prog 63=some 65∧tzero Try.prog 63=some [.slice none 0 0]:=by and_intros<;>kernel_rfl
theorem ft64:tsz Try.prog 64=some 3∧tbytes Try.prog 64=some 40∧tagg Try.prog 64=some true∧tslice Try.prog 64=none∧tzero Try.prog 64=some [.int .i64 0,.int .i64 0,.slice none 0 0]∧tstruct Try.prog 64=some [.int .i64 0,.int .i64 0,.slice none 0 0]∧tfield Try.prog 64 0=some (0,3)∧tfield Try.prog 64 1=some (1,3)∧tfield Try.prog 64 2=some (2,63):=by and_intros<;>kernel_rfl
theorem ft65:tsz Try.prog 65=some 3∧tbytes Try.prog 65=some 40∧tagg Try.prog 65=some true∧tslice Try.prog 65=none∧tzero Try.prog 65=some [.int .i64 0,.int .i64 0,.slice none 0 0]∧tstruct Try.prog 65=some [.int .i64 0,.int .i64 0,.slice none 0 0]∧tfield Try.prog 65 0=some (0,3)∧tfield Try.prog 65 1=some (1,3)∧tfield Try.prog 65 2=some (2,63):=by and_intros<;>kernel_rfl
theorem ft66:tsz Try.prog 66=some 11∧tbytes Try.prog 66=some 152∧tagg Try.prog 66=some true∧tslice Try.prog 66=none∧tzero Try.prog 66=some [.int .i64 0,.int .i64 0,.int .i64 0,.int .i64 0,.slice none 0 0,.int .i64 0,.int .i64 0,.slice none 0 0,.int .i64 0,.slice none 0 0,.slice none 0 0]∧tstruct Try.prog 66=some [.int .i64 0,.int .i64 0,.int .i64 0,.int .i64 0,.slice none 0 0,.int .i64 0,.int .i64 0,.slice none 0 0,.int .i64 0,.slice none 0 0,.slice none 0 0]∧tfield Try.prog 66 0=some (0,3)∧tfield Try.prog 66 1=some (1,3)∧tfield Try.prog 66 2=some (2,65)∧tfield Try.prog 66 3=some (5,65)∧tfield Try.prog 66 4=some (8,3)∧tfield Try.prog 66 5=some (9,28)∧tfield Try.prog 66 6=some (10,28):=by and_intros<;>kernel_rfl
theorem ft67:tsz Try.prog 67=some 11∧tbytes Try.prog 67=some 152∧tagg Try.prog 67=some true∧tslice Try.prog 67=none∧tzero Try.prog 67=some [.int .i64 0,.int .i64 0,.int .i64 0,.int .i64 0,.slice none 0 0,.int .i64 0,.int .i64 0,.slice none 0 0,.int .i64 0,.slice none 0 0,.slice none 0 0]∧tstruct Try.prog 67=some [.int .i64 0,.int .i64 0,.int .i64 0,.int .i64 0,.slice none 0 0,.int .i64 0,.int .i64 0,.slice none 0 0,.int .i64 0,.slice none 0 0,.slice none 0 0]∧tfield Try.prog 67 0=some (0,3)∧tfield Try.prog 67 1=some (1,3)∧tfield Try.prog 67 2=some (2,65)∧tfield Try.prog 67 3=some (5,65)∧tfield Try.prog 67 4=some (8,3)∧tfield Try.prog 67 5=some (9,28)∧tfield Try.prog 67 6=some (10,28):=by and_intros<;>kernel_rfl
theorem ft72:tsz Try.prog 72=some 1∧tbytes Try.prog 72=some 8∧tagg Try.prog 72=some false∧tslice Try.prog 72=none∧tzero Try.prog 72=some [.pointer none]:=by and_intros<;>kernel_rfl
theorem ft78:tsz Try.prog 78=some 1∧tbytes Try.prog 78=some 8∧tagg Try.prog 78=some false∧tslice Try.prog 78=none∧tzero Try.prog 78=some [.nilFunc]:=by and_intros<;>kernel_rfl
theorem ok3:fnOK Try.prog 3=true:=by kernel_rfl
theorem ok4:fnOK Try.prog 4=true:=by kernel_rfl
theorem ok5:fnOK Try.prog 5=true:=by kernel_rfl
theorem ok6:fnOK Try.prog 6=true:=by kernel_rfl
theorem ok7:fnOK Try.prog 7=true:=by kernel_rfl
theorem ok8:fnOK Try.prog 8=true:=by kernel_rfl
theorem ok9:fnOK Try.prog 9=true:=by kernel_rfl
theorem ok10:fnOK Try.prog 10=true:=by kernel_rfl
theorem ok11:fnOK Try.prog 11=true:=by kernel_rfl
theorem ok12:fnOK Try.prog 12=true:=by kernel_rfl
theorem ok13:fnOK Try.prog 13=true:=by kernel_rfl
theorem ok14:fnOK Try.prog 14=true:=by kernel_rfl
theorem ok15:fnOK Try.prog 15=true:=by kernel_rfl
theorem ok16:fnOK Try.prog 16=true:=by kernel_rfl
theorem ok17:fnOK Try.prog 17=true:=by kernel_rfl
theorem ok18:fnOK Try.prog 18=true:=by kernel_rfl
theorem ok19:fnOK Try.prog 19=true:=by kernel_rfl
theorem ok20:fnOK Try.prog 20=true:=by kernel_rfl
theorem ok21:fnOK Try.prog 21=true:=by kernel_rfl
theorem ok22:fnOK Try.prog 22=true:=by kernel_rfl
theorem ok23:fnOK Try.prog 23=true:=by kernel_rfl
theorem ok24:fnOK Try.prog 24=true:=by kernel_rfl
theorem ok25:fnOK Try.prog 25=true:=by kernel_rfl
theorem ok26:fnOK Try.prog 26=true:=by kernel_rfl
theorem ok27:fnOK Try.prog 27=true:=by kernel_rfl
theorem ok28:fnOK Try.prog 28=true:=by kernel_rfl
theorem ok29:fnOK Try.prog 29=true:=by kernel_rfl
theorem ok30:fnOK Try.prog 30=true:=by kernel_rfl
theorem ok31:fnOK Try.prog 31=true:=by kernel_rfl
theorem ok32:fnOK Try.prog 32=true:=by kernel_rfl
theorem ok33:fnOK Try.prog 33=true:=by kernel_rfl
theorem ok34:fnOK Try.prog 34=true:=by kernel_rfl
theorem ok35:fnOK Try.prog 35=true:=by kernel_rfl
theorem ok36:fnOK Try.prog 36=true:=by kernel_rfl
theorem ok37:fnOK Try.prog 37=true:=by kernel_rfl
theorem ok38:fnOK Try.prog 38=true:=by kernel_rfl
theorem ok39:fnOK Try.prog 39=true:=by kernel_rfl
theorem ok40:fnOK Try.prog 40=true:=by kernel_rfl
theorem ok41:fnOK Try.prog 41=true:=by kernel_rfl
theorem ok42:fnOK Try.prog 42=true:=by kernel_rfl
theorem ok43:fnOK Try.prog 43=true:=by kernel_rfl
theorem ok44:fnOK Try.prog 44=true:=by kernel_rfl
theorem ok45:fnOK Try.prog 45=true:=by kernel_rfl
theorem ok46:fnOK Try.prog 46=true:=by kernel_rfl
theorem ok47:fnOK Try.prog 47=true:=by kernel_rfl
theorem ok48:fnOK Try.prog 48=true:=by kernel_rfl
theorem ok49:fnOK Try.prog 49=true:=by kernel_rfl
theorem ok50:fnOK Try.prog 50=true:=by kernel_rfl
theorem ok51:fnOK Try.prog 51=true:=by kernel_rfl
theorem ok52:fnOK Try.prog 52=true:=by kernel_rfl
theorem ok53:fnOK Try.prog 53=true:=by kernel_rfl
theorem ok54:fnOK Try.prog 54=true:=by kernel_rfl
theorem ok55:fnOK Try.prog 55=true:=by kernel_rfl
theorem ok56:fnOK Try.prog 56=true:=by kernel_rfl
theorem ok57:fnOK Try.prog 57=true:=by kernel_rfl
theorem ok58:fnOK Try.prog 58=true:=by kernel_rfl
theorem ok59:fnOK Try.prog 59=true:=by kernel_rfl
theorem ok60:fnOK Try.prog 60=true:=by kernel_rfl
theorem ok61:fnOK Try.prog 61=true:=by kernel_rfl
theorem ok62:fnOK Try.prog 62=true:=by kernel_rfl
theorem ok63:fnOK Try.prog 63=true:=by kernel_rfl
theorem ok64:fnOK Try.prog 64=true:=by kernel_rfl
theorem ok65:fnOK Try.prog 65=true:=by kernel_rfl
theorem ok66:fnOK Try.prog 66=true:=by kernel_rfl
theorem ok67:fnOK Try.prog 67=true:=by kernel_rfl
theorem ok68:fnOK Try.prog 68=true:=by kernel_rfl
theorem ok69:fnOK Try.prog 69=true:=by kernel_rfl
theorem ok70:fnOK Try.prog 70=true:=by kernel_rfl
theorem ok71:fnOK Try.prog 71=true:=by kernel_rfl
theorem ok72:fnOK Try.prog 72=true:=by kernel_rfl
theorem ok73:fnOK Try.prog 73=true:=by kernel_rfl
theorem ok74:fnOK Try.prog 74=true:=by kernel_rfl
theorem ok75:fnOK Try.prog 75=true:=by kernel_rfl
theorem ok76:fnOK Try.prog 76=true:=by kernel_rfl
theorem ok77:fnOK Try.prog 77=true:=by kernel_rfl
attribute [go_sem] ft0 ft1 ft2 ft3 ft4 ft5 ft6 ft7 ft8 ft9 ft10
 ft22 ft23 ft24 ft25 ft26
 ft28 ft29 ft30 ft31
 ft50
 ft57 ft58 ft59 ft60 ft61 ft63 ft64 ft65 ft66 ft67
 ft72 ft78
 Try.f3 Try.f4 Try.f5 Try.f6 Try.f7 Try.f8 Try.f9 Try.f10 Try.f11 Try.f12 Try.f13 Try.f14 Try.f15 Try.f16
 Try.f17 Try.f18 Try.f19 Try.f20 Try.f21 Try.f22 Try.f23 Try.f24 Try.f25 Try.f26 Try.f27 Try.f28 Try.f29 Try.f30
 Try.f31 Try.f32 Try.f33 Try.f34 Try.f35 Try.f36 Try.f37 Try.f38 Try.f39 Try.f40 Try.f41 Try.f42 Try.f43 Try.f44
 Try.f45 Try.f46 Try.f47 Try.f48 Try.f49 Try.f50 Try.f51 Try.f52 Try.f53 Try.f54 Try.f55 Try.f56 Try.f57 Try.f58
 Try.f59 Try.f60 Try.f61 Try.f62 Try.f63 Try.f64 Try.f65 Try.f66 Try.f67 Try.f68 Try.f69 Try.f70 Try.f71 Try.f72
 Try.f73 Try.f74 Try.f75 Try.f76 Try.f77
end Go.Proofs.Ytlapccpnilomfaa.CtF
