/- Contracts of functions of the program, one behind the other, as plain data: what each call returns and which blocks it leaves. -/
import Derived.Test.YtoakidkcppinpaaGreatChecked
import Derived.KernelRfl
import Derived.Test.YtoakidkcppinpaaGreatDAi
set_option linter.unusedVariables false
set_option linter.unusedSimpArgs false
set_option linter.unusedSectionVars false
set_option maxHeartbeats 16000000
set_option maxRecDepth 100000
namespace Go.Proofs.YtoakidkcppinpaaGreat.CtF
open Go Go.CT
theorem mo:Tryz.prog.follows .mixedOrders=true:=by kernel_rfl
theorem drvZ [Yn] {K:Bool} {m nt:Nat} {f:FuncId} {R:D→List (Option (List C))→Prop} {r:Option Rg} {k:List Item} {S:Ms} {fn:Func} (hfn:Tryz.prog.funcs[f]? = some fn) (h:drv K Tryz.prog m f nt R fn.results.toList 12 r k S):XK K Tryz.prog m f nt R r k S :=
 drv_sound hfn mo rfl 12 r k S h
theorem drvL [Yn] {K:Bool} {m nt:Nat} {f:FuncId} {R:D→List (Option (List C))→Prop} {k:List Item} {S:Ms} {fn:Func} (hfn:Tryz.prog.funcs[f]? = some fn) (h:drv K Tryz.prog m f nt R fn.results.toList 12 none k S):Go K Tryz.prog m f nt R k S :=
 drv_sound hfn mo rfl 12 none k S h
theorem dcZ [Yn] {f : FuncId} {R : D → List (Option (List C)) → Prop} {args : List D} {h : List (Option (List C))} {fn : Func} {c : Code} (hf : Tryz.prog.funcs[f]? = some fn)
 (hg:drv false Tryz.prog h.length f fn.ntmps R fn.results.toList 12 none [.code c] ⟨ofArgs 0 args,hpL h,h.length⟩) (hb:fn.body=some c:=by rfl) (hn:args.length≤fn.ntmps:=by simp):DC Tryz.prog f args h R :=
 dc_of_go hf hb hn (drv_sound hf mo rfl 12 none _ _ hg)
theorem ft0:tsz Tryz.prog 0=some 1∧tbytes Tryz.prog 0=some 0∧tagg Tryz.prog 0=some false∧tslice Tryz.prog 0=none:=by and_intros<;>kernel_rfl
theorem ft1:tsz Tryz.prog 1=some 1∧tbytes Tryz.prog 1=some 8∧tagg Tryz.prog 1=some false∧tslice Tryz.prog 1=none∧tzero Tryz.prog 1=some [.nilFunc]:=by and_intros<;>kernel_rfl
theorem ft2:tsz Tryz.prog 2=some 1∧tbytes Tryz.prog 2=some 8∧tagg Tryz.prog 2=some false∧tslice Tryz.prog 2=none∧Tryz.prog.underlying 2=some (.int .i64)∧tzero Tryz.prog 2=some [.int .i64 0]:=by and_intros<;>kernel_rfl
theorem ft3:tsz Tryz.prog 3=some 1∧tbytes Tryz.prog 3=some 8∧tagg Tryz.prog 3=some false∧tslice Tryz.prog 3=none∧Tryz.prog.underlying 3=some (.int .i64)∧tzero Tryz.prog 3=some [.int .i64 0]:=by and_intros<;>kernel_rfl
theorem ft4:tsz Tryz.prog 4=some 1∧tbytes Tryz.prog 4=some 1∧tagg Tryz.prog 4=some false∧tbool Tryz.prog 4=true∧tslice Tryz.prog 4=none∧tzero Tryz.prog 4=some [.bool false]:=by and_intros<;>kernel_rfl
theorem ft5:tsz Tryz.prog 5=some 1∧tbytes Tryz.prog 5=some 1∧tagg Tryz.prog 5=some false∧tslice Tryz.prog 5=none∧Tryz.prog.underlying 5=some (.int .u8)∧tzero Tryz.prog 5=some [.int .u8 0]:=by and_intros<;>kernel_rfl
theorem ft6:tsz Tryz.prog 6=some 1∧tbytes Tryz.prog 6=some 1∧tagg Tryz.prog 6=some false∧tslice Tryz.prog 6=none∧Tryz.prog.underlying 6=some (.int .u8)∧tzero Tryz.prog 6=some [.int .u8 0]:=by and_intros<;>kernel_rfl
theorem ft7:tsz Tryz.prog 7=some 4∧tbytes Tryz.prog 7=some 24∧tagg Tryz.prog 7=some true∧tslice Tryz.prog 7=none∧tzero Tryz.prog 7=some [.int .i64 0,.int .i64 0,.bool false,.int .u8 0]∧tstruct Tryz.prog 7=some [.int .i64 0,.int .i64 0,.bool false,.int .u8 0]∧tfield Tryz.prog 7 0=some (0,2)∧tfield Tryz.prog 7 1=some (1,3)∧tfield Tryz.prog 7 2=some (2,4)∧tfield Tryz.prog 7 3=some (3,6):=by and_intros<;>kernel_rfl
theorem ft8:tsz Tryz.prog 8=some 4∧tbytes Tryz.prog 8=some 24∧tagg Tryz.prog 8=some true∧tslice Tryz.prog 8=none∧tzero Tryz.prog 8=some [.int .i64 0,.int .i64 0,.bool false,.int .u8 0]∧tstruct Tryz.prog 8=some [.int .i64 0,.int .i64 0,.bool false,.int .u8 0]∧tfield Tryz.prog 8 0=some (0,2)∧tfield Tryz.prog 8 1=some (1,3)∧tfield Tryz.prog 8 2=some (2,4)∧tfield Tryz.prog 8 3=some (3,6):=by and_intros<;>kernel_rfl
theorem ft9:tsz Tryz.prog 9=some 1∧tbytes Tryz.prog 9=some 16∧tagg Tryz.prog 9=some false∧tstring Tryz.prog 9=true∧tslice Tryz.prog 9=none∧tzero Tryz.prog 9=some [.string .empty]:=by and_intros<;>kernel_rfl
theorem ft10:tsz Tryz.prog 10=some 1∧tbytes Tryz.prog 10=some 16∧tagg Tryz.prog 10=some false∧tstring Tryz.prog 10=true∧tslice Tryz.prog 10=none∧tzero Tryz.prog 10=some [.string .empty]:=by and_intros<;>kernel_rfl
theorem ft11:tsz Tryz.prog 11=some 1∧tbytes Tryz.prog 11=some 16∧tagg Tryz.prog 11=some false∧tstring Tryz.prog 11=true∧tslice Tryz.prog 11=none∧tzero Tryz.prog 11=some [.string .empty]:=by and_intros<;>kernel_rfl
theorem ft12:tsz Tryz.prog 12=some 1∧tbytes Tryz.prog 12=some 8∧tagg Tryz.prog 12=some false∧tslice Tryz.prog 12=none∧Tryz.prog.underlying 12=some (.int .u64)∧tzero Tryz.prog 12=some [.int .u64 0]:=by and_intros<;>kernel_rfl
theorem ft13:tsz Tryz.prog 13=some 2∧tbytes Tryz.prog 13=some 24∧tagg Tryz.prog 13=some true∧tslice Tryz.prog 13=none∧tzero Tryz.prog 13=some [.string .empty,.int .u64 0]∧tstruct Tryz.prog 13=some [.string .empty,.int .u64 0]∧tfield Tryz.prog 13 0=some (0,9)∧tfield Tryz.prog 13 1=some (1,12):=by and_intros<;>kernel_rfl
theorem ft14:tsz Tryz.prog 14=some 2∧tbytes Tryz.prog 14=some 24∧tagg Tryz.prog 14=some true∧tslice Tryz.prog 14=none∧tzero Tryz.prog 14=some [.string .empty,.int .u64 0]∧tstruct Tryz.prog 14=some [.string .empty,.int .u64 0]∧tfield Tryz.prog 14 0=some (0,9)∧tfield Tryz.prog 14 1=some (1,12):=by and_intros<;>kernel_rfl
theorem ft22:tsz Tryz.prog 22=some 1∧tbytes Tryz.prog 22=some 24∧tagg Tryz.prog 22=some false∧tslice Tryz.prog 22=some 5∧tzero Tryz.prog 22=some [.slice none 0 0]:=by and_intros<;>kernel_rfl
theorem ft23:tsz Tryz.prog 23=some 1∧tbytes Tryz.prog 23=some 24∧tagg Tryz.prog 23=some false∧tslice Tryz.prog 23=some 3∧tzero Tryz.prog 23=some [.slice none 0 0]:=by and_intros<;>kernel_rfl
theorem ft24:tsz Tryz.prog 24=some 1∧tbytes Tryz.prog 24=some 24∧tagg Tryz.prog 24=some false∧tslice Tryz.prog 24=some 79∧tzero Tryz.prog 24=some [.slice none 0 0]:=by and_intros<;>kernel_rfl
theorem ft25:tsz Tryz.prog 25=some 3∧tbytes Tryz.prog 25=some 72∧tagg Tryz.prog 25=some true∧tslice Tryz.prog 25=none∧tzero Tryz.prog 25=some [.slice none 0 0,.slice none 0 0,.slice none 0 0]∧tstruct Tryz.prog 25=some [.slice none 0 0,.slice none 0 0,.slice none 0 0]∧tfield Tryz.prog 25 0=some (0,23)∧tfield Tryz.prog 25 1=some (1,23)∧tfield Tryz.prog 25 2=some (2,24):=by and_intros<;>kernel_rfl
theorem ft26:tsz Tryz.prog 26=some 3∧tbytes Tryz.prog 26=some 72∧tagg Tryz.prog 26=some true∧tslice Tryz.prog 26=none∧tzero Tryz.prog 26=some [.slice none 0 0,.slice none 0 0,.slice none 0 0]∧tstruct Tryz.prog 26=some [.slice none 0 0,.slice none 0 0,.slice none 0 0]∧tfield Tryz.prog 26 0=some (0,23)∧tfield Tryz.prog 26 1=some (1,23)∧tfield Tryz.prog 26 2=some (2,24):=by and_intros<;>kernel_rfl
theorem ft27:tsz Tryz.prog 27=some 1∧tbytes Tryz.prog 27=some 24∧tagg Tryz.prog 27=some false∧tslice Tryz.prog 27=some 37∧tzero Tryz.prog 27=some [.slice none 0 0]:=by and_intros<;>kernel_rfl
theorem ft28:tsz Tryz.prog 28=some 1∧tbytes Tryz.prog 28=some 0∧tagg Tryz.prog 28=some false∧tslice Tryz.prog 28=none:=by and_intros<;>kernel_rfl
theorem ft30:tsz Tryz.prog 30=some 1∧tbytes Tryz.prog 30=some 0∧tagg Tryz.prog 30=some false∧tslice Tryz.prog 30=none:=by and_intros<;>kernel_rfl
theorem ft32:tsz Tryz.prog 32=some 1∧tbytes Tryz.prog 32=some 24∧tagg Tryz.prog 32=some false∧tslice Tryz.prog 32=some 113∧tzero Tryz.prog 32=some [.slice none 0 0]:=by and_intros<;>kernel_rfl
theorem ft33:tsz Tryz.prog 33=some 3∧tbytes Tryz.prog 33=some 72∧tagg Tryz.prog 33=some true∧tslice Tryz.prog 33=none∧tzero Tryz.prog 33=some [.slice none 0 0,.slice none 0 0,.slice none 0 0]∧tstruct Tryz.prog 33=some [.slice none 0 0,.slice none 0 0,.slice none 0 0]∧tfield Tryz.prog 33 0=some (0,23)∧tfield Tryz.prog 33 1=some (1,23)∧tfield Tryz.prog 33 2=some (2,32):=by and_intros<;>kernel_rfl
theorem ft34:tsz Tryz.prog 34=some 3∧tbytes Tryz.prog 34=some 72∧tagg Tryz.prog 34=some true∧tslice Tryz.prog 34=none∧tzero Tryz.prog 34=some [.slice none 0 0,.slice none 0 0,.slice none 0 0]∧tstruct Tryz.prog 34=some [.slice none 0 0,.slice none 0 0,.slice none 0 0]∧tfield Tryz.prog 34 0=some (0,23)∧tfield Tryz.prog 34 1=some (1,23)∧tfield Tryz.prog 34 2=some (2,32):=by and_intros<;>kernel_rfl
theorem ft35:tsz Tryz.prog 35=some 1∧tbytes Tryz.prog 35=some 24∧tagg Tryz.prog 35=some false∧tslice Tryz.prog 35=some 23∧tzero Tryz.prog 35=some [.slice none 0 0]:=by and_intros<;>kernel_rfl
theorem ft36:tsz Tryz.prog 36=some 2∧tbytes Tryz.prog 36=some 48∧tagg Tryz.prog 36=some true∧tslice Tryz.prog 36=none∧tzero Tryz.prog 36=some [.slice none 0 0,.slice none 0 0]∧tstruct Tryz.prog 36=some [.slice none 0 0,.slice none 0 0]∧tfield Tryz.prog 36 0=some (0,23)∧tfield Tryz.prog 36 1=some (1,35):=by and_intros<;>kernel_rfl
theorem ft37:tsz Tryz.prog 37=some 2∧tbytes Tryz.prog 37=some 48∧tagg Tryz.prog 37=some true∧tslice Tryz.prog 37=none∧tzero Tryz.prog 37=some [.slice none 0 0,.slice none 0 0]∧tstruct Tryz.prog 37=some [.slice none 0 0,.slice none 0 0]∧tfield Tryz.prog 37 0=some (0,23)∧tfield Tryz.prog 37 1=some (1,35):=by and_intros<;>kernel_rfl
theorem ft38:tsz Tryz.prog 38=some 1∧tbytes Tryz.prog 38=some 0∧tagg Tryz.prog 38=some false∧tslice Tryz.prog 38=none:=by and_intros<;>kernel_rfl
theorem ft40:tsz Tryz.prog 40=some 1∧tbytes Tryz.prog 40=some 24∧tagg Tryz.prog 40=some false∧tslice Tryz.prog 40=some 76∧tzero Tryz.prog 40=some [.slice none 0 0]:=by and_intros<;>kernel_rfl
theorem ft41:tsz Tryz.prog 41=some 1∧tbytes Tryz.prog 41=some 0∧tagg Tryz.prog 41=some false∧tslice Tryz.prog 41=none:=by and_intros<;>kernel_rfl
theorem ft43:tsz Tryz.prog 43=some 1∧tbytes Tryz.prog 43=some 0∧tagg Tryz.prog 43=some false∧tslice Tryz.prog 43=none:=by and_intros<;>kernel_rfl
theorem ft49:tsz Tryz.prog 49=some 1∧tbytes Tryz.prog 49=some 8∧tagg Tryz.prog 49=some false∧tslice Tryz.prog 49=none∧tzero Tryz.prog 49=some [.pointer none]:=by and_intros<;>kernel_rfl
theorem ft59:tsz Tryz.prog 59=some 1∧tbytes Tryz.prog 59=some 24∧tagg Tryz.prog 59=some false∧tslice Tryz.prog 59=some 40∧tzero Tryz.prog 59=some [.slice none 0 0]:=by and_intros<;>kernel_rfl
theorem ft60:tsz Tryz.prog 60=some 1∧tbytes Tryz.prog 60=some 24∧tagg Tryz.prog 60=some false∧tslice Tryz.prog 60=some 4∧tzero Tryz.prog 60=some [.slice none 0 0]:=by and_intros<;>kernel_rfl
theorem ft62:tsz Tryz.prog 62=some 1∧tbytes Tryz.prog 62=some 8∧tagg Tryz.prog 62=some false∧tslice Tryz.prog 62=none∧tzero Tryz.prog 62=some [.nilFunc]:=by and_intros<;>kernel_rfl
theorem ft65:tsz Tryz.prog 65=some 1∧tbytes Tryz.prog 65=some 8∧tagg Tryz.prog 65=some false∧tslice Tryz.prog 65=none∧tzero Tryz.prog 65=some [.pointer none]:=by and_intros<;>kernel_rfl
theorem ft66:tsz Tryz.prog 66=some 1∧tbytes Tryz.prog 66=some 0∧tagg Tryz.prog 66=some false∧tslice Tryz.prog 66=none:=by and_intros<;>kernel_rfl
theorem ft68:tsz Tryz.prog 68=some 4∧tbytes Tryz.prog 68=some 80∧tagg Tryz.prog 68=some true∧tslice Tryz.prog 68=none∧tzero Tryz.prog 68=some [.int .i64 0,.slice none 0 0,.slice none 0 0,.slice none 0 0]∧tstruct Tryz.prog 68=some [.int .i64 0,.slice none 0 0,.slice none 0 0,.slice none 0 0]∧tfield Tryz.prog 68 0=some (0,3)∧tfield Tryz.prog 68 1=some (1,23)∧tfield Tryz.prog 68 2=some (2,37):=by and_intros<;>kernel_rfl
theorem ft69:tsz Tryz.prog 69=some 4∧tbytes Tryz.prog 69=some 80∧tagg Tryz.prog 69=some true∧tslice Tryz.prog 69=none∧tzero Tryz.prog 69=some [.int .i64 0,.slice none 0 0,.slice none 0 0,.slice none 0 0]∧tstruct Tryz.prog 69=some [.int .i64 0,.slice none 0 0,.slice none 0 0,.slice none 0 0]∧tfield Tryz.prog 69 0=some (0,3)∧tfield Tryz.prog 69 1=some (1,23)∧tfield Tryz.prog 69 2=some (2,37):=by and_intros<;>kernel_rfl
theorem ft71:tsz Tryz.prog 71=some 1∧tbytes Tryz.prog 71=some 24∧tagg Tryz.prog 71=some false∧tslice Tryz.prog 71=some 60∧tzero Tryz.prog 71=some [.slice none 0 0]:=by and_intros<;>kernel_rfl
theorem ft73:tsz Tryz.prog 73=some 1∧tbytes Tryz.prog 73=some 8∧tagg Tryz.prog 73=some false∧tslice Tryz.prog 73=none∧tzero Tryz.prog 73=some [.nilFunc]:=by and_intros<;>kernel_rfl
theorem ft75:tsz Tryz.prog 75=some 2∧tbytes Tryz.prog 75=some 16∧tagg Tryz.prog 75=some true∧tslice Tryz.prog 75=none∧tzero Tryz.prog 75=some [.int .i64 0,.int .i64 0]∧tstruct Tryz.prog 75=some [.int .i64 0,.int .i64 0]∧tints Tryz.prog 75=some 2∧tfield Tryz.prog 75 0=some (0,3)∧tfield Tryz.prog 75 1=some (1,3):=by and_intros<;>kernel_rfl
theorem ft76:tsz Tryz.prog 76=some 2∧tbytes Tryz.prog 76=some 16∧tagg Tryz.prog 76=some true∧tslice Tryz.prog 76=none∧tzero Tryz.prog 76=some [.int .i64 0,.int .i64 0]∧tstruct Tryz.prog 76=some [.int .i64 0,.int .i64 0]∧tints Tryz.prog 76=some 2∧tfield Tryz.prog 76 0=some (0,3)∧tfield Tryz.prog 76 1=some (1,3):=by and_intros<;>kernel_rfl
theorem ft78:tsz Tryz.prog 78=some 5∧tbytes Tryz.prog 78=some 40∧tagg Tryz.prog 78=some true∧tslice Tryz.prog 78=none∧tzero Tryz.prog 78=some [.int .i64 0,.int .i64 0,.int .i64 0,.int .i64 0,.int .i64 0]∧tstruct Tryz.prog 78=some [.int .i64 0,.int .i64 0,.int .i64 0,.int .i64 0,.int .i64 0]∧tints Tryz.prog 78=some 5∧tfield Tryz.prog 78 0=some (0,3)∧tfield Tryz.prog 78 1=some (1,3)∧tfield Tryz.prog 78 2=some (2,3)∧tfield Tryz.prog 78 3=some (3,3)∧tfield Tryz.prog 78 4=some (4,3):=by and_intros<;>kernel_rfl
theorem ft79:tsz Tryz.prog 79=some 5∧tbytes Tryz.prog 79=some 40∧tagg Tryz.prog 79=some true∧tslice Tryz.prog 79=none∧tzero Tryz.prog 79=some [.int .i64 0,.int .i64 0,.int .i64 0,.int .i64 0,.int .i64 0]∧tstruct Tryz.prog 79=some [.int .i64 0,.int .i64 0,.int .i64 0,.int .i64 0,.int .i64 0]∧tints Tryz.prog 79=some 5∧tfield Tryz.prog 79 0=some (0,3)∧tfield Tryz.prog 79 1=some (1,3)∧tfield Tryz.prog 79 2=some (2,3)∧tfield Tryz.prog 79 3=some (3,3)∧tfield Tryz.prog 79 4=some (4,3):=by and_intros<;>kernel_rfl
theorem ft80:tsz Tryz.prog 80=some 1∧tbytes Tryz.prog 80=some 8∧tagg Tryz.prog 80=some false∧tslice Tryz.prog 80=none∧tzero Tryz.prog 80=some [.nilFunc]:=by and_intros<;>kernel_rfl
theorem ft81:tsz Tryz.prog 81=some 2∧tbytes Tryz.prog 81=some 32∧tagg Tryz.prog 81=some true∧tslice Tryz.prog 81=none∧tzero Tryz.prog 81=some [.slice none 0 0,.int .i64 0]∧tstruct Tryz.prog 81=some [.slice none 0 0,.int .i64 0]∧tfield Tryz.prog 81 0=some (0,22)∧tfield Tryz.prog 81 1=some (1,3):=by and_intros<;>kernel_rfl
theorem ft82:tsz Tryz.prog 82=some 2∧tbytes Tryz.prog 82=some 32∧tagg Tryz.prog 82=some true∧tslice Tryz.prog 82=none∧tzero Tryz.prog 82=some [.slice none 0 0,.int .i64 0]∧tstruct Tryz.prog 82=some [.slice none 0 0,.int .i64 0]∧tfield Tryz.prog 82 0=some (0,22)∧tfield Tryz.prog 82 1=some (1,3):=by and_intros<;>kernel_rfl
theorem ft83:tsz Tryz.prog 83=some 1∧tbytes Tryz.prog 83=some 0∧tagg Tryz.prog 83=some false∧tslice Tryz.prog 83=none:=by and_intros<;>kernel_rfl
theorem ft90:tsz Tryz.prog 90=some 1∧tbytes Tryz.prog 90=some 8∧tagg Tryz.prog 90=some false∧tslice Tryz.prog 90=none∧tzero Tryz.prog 90=some [.nilFunc]:=by and_intros<;>kernel_rfl
theorem ft94:tsz Tryz.prog 94=some 1∧tbytes Tryz.prog 94=some 0∧tagg Tryz.prog 94=some false∧tslice Tryz.prog 94=none:=by and_intros<;>kernel_rfl
theorem ft97:tsz Tryz.prog 97=some 1∧tbytes Tryz.prog 97=some 8∧tagg Tryz.prog 97=some false∧tslice Tryz.prog 97=none∧tzero Tryz.prog 97=some [.nilFunc]:=by and_intros<;>kernel_rfl
theorem ft104:tsz Tryz.prog 104=some 3∧tbytes Tryz.prog 104=some 56∧tagg Tryz.prog 104=some true∧tslice Tryz.prog 104=none∧tzero Tryz.prog 104=some [.slice none 0 0,.slice none 0 0,.int .i64 0]∧tstruct Tryz.prog 104=some [.slice none 0 0,.slice none 0 0,.int .i64 0]∧tfield Tryz.prog 104 0=some (0,24)∧tfield Tryz.prog 104 1=some (1,23)∧tfield Tryz.prog 104 2=some (2,3):=by and_intros<;>kernel_rfl
theorem ft105:tsz Tryz.prog 105=some 3∧tbytes Tryz.prog 105=some 56∧tagg Tryz.prog 105=some true∧tslice Tryz.prog 105=none∧tzero Tryz.prog 105=some [.slice none 0 0,.slice none 0 0,.int .i64 0]∧tstruct Tryz.prog 105=some [.slice none 0 0,.slice none 0 0,.int .i64 0]∧tfield Tryz.prog 105 0=some (0,24)∧tfield Tryz.prog 105 1=some (1,23)∧tfield Tryz.prog 105 2=some (2,3):=by and_intros<;>kernel_rfl
theorem ft106:tsz Tryz.prog 106=some 1∧tbytes Tryz.prog 106=some 0∧tagg Tryz.prog 106=some false∧tslice Tryz.prog 106=none:=by and_intros<;>kernel_rfl
theorem ft109:tsz Tryz.prog 109=some 1∧tbytes Tryz.prog 109=some 24∧tagg Tryz.prog 109=some false∧tslice Tryz.prog 109=some 111∧tzero Tryz.prog 109=some [.slice none 0 0]:=by and_intros<;>kernel_rfl
theorem ft110:tsz Tryz.prog 110=some 3∧tbytes Tryz.prog 110=some 40∧tagg Tryz.prog 110=some true∧tslice Tryz.prog 110=none∧tzero Tryz.prog 110=some [.int .i64 0,.int .i64 0,.slice none 0 0]∧tstruct Tryz.prog 110=some [.int .i64 0,.int .i64 0,.slice none 0 0]∧tfield Tryz.prog 110 0=some (0,3)∧tfield Tryz.prog 110 1=some (1,3)∧tfield Tryz.prog 110 2=some (2,109):=by and_intros<;>kernel_rfl
theorem ft111:tsz Tryz.prog 111=some 3∧tbytes Tryz.prog 111=some 40∧tagg Tryz.prog 111=some true∧tslice Tryz.prog 111=none∧tzero Tryz.prog 111=some [.int .i64 0,.int .i64 0,.slice none 0 0]∧tstruct Tryz.prog 111=some [.int .i64 0,.int .i64 0,.slice none 0 0]∧tfield Tryz.prog 111 0=some (0,3)∧tfield Tryz.prog 111 1=some (1,3)∧tfield Tryz.prog 111 2=some (2,109):=by and_intros<;>kernel_rfl
theorem ft112:tsz Tryz.prog 112=some 11∧tbytes Tryz.prog 112=some 152∧tagg Tryz.prog 112=some true∧tslice Tryz.prog 112=none∧tzero Tryz.prog 112=some [.int .i64 0,.int .i64 0,.int .i64 0,.int .i64 0,.slice none 0 0,.int .i64 0,.int .i64 0,.slice none 0 0,.int .i64 0,.slice none 0 0,.slice none 0 0]∧tstruct Tryz.prog 112=some [.int .i64 0,.int .i64 0,.int .i64 0,.int .i64 0,.slice none 0 0,.int .i64 0,.int .i64 0,.slice none 0 0,.int .i64 0,.slice none 0 0,.slice none 0 0]∧tfield Tryz.prog 112 0=some (0,3)∧tfield Tryz.prog 112 1=some (1,3)∧tfield Tryz.prog 112 2=some (2,111)∧tfield Tryz.prog 112 3=some (5,111)∧tfield Tryz.prog 112 4=some (8,3)∧tfield Tryz.prog 112 5=some (9,32)∧tfield Tryz.prog 112 6=some (10,32):=by and_intros<;>kernel_rfl
theorem ft113:tsz Tryz.prog 113=some 11∧tbytes Tryz.prog 113=some 152∧tagg Tryz.prog 113=some true∧tslice Tryz.prog 113=none∧tzero Tryz.prog 113=some [.int .i64 0,.int .i64 0,.int .i64 0,.int .i64 0,.slice none 0 0,.int .i64 0,.int .i64 0,.slice none 0 0,.int .i64 0,.slice none 0 0,.slice none 0 0]∧tstruct Tryz.prog 113=some [.int .i64 0,.int .i64 0,.int .i64 0,.int .i64 0,.slice none 0 0,.int .i64 0,.int .i64 0,.slice none 0 0,.int .i64 0,.slice none 0 0,.slice none 0 0]∧tfield Tryz.prog 113 0=some (0,3)∧tfield Tryz.prog 113 1=some (1,3)∧tfield Tryz.prog 113 2=some (2,111)∧tfield Tryz.prog 113 3=some (5,111)∧tfield Tryz.prog 113 4=some (8,3)∧tfield Tryz.prog 113 5=some (9,32)∧tfield Tryz.prog 113 6=some (10,32):=by and_intros<;>kernel_rfl
theorem ft114:tsz Tryz.prog 114=some 1∧tbytes Tryz.prog 114=some 0∧tagg Tryz.prog 114=some false∧tslice Tryz.prog 114=none:=by and_intros<;>kernel_rfl
theorem ft120:tsz Tryz.prog 120=some 1∧tbytes Tryz.prog 120=some 0∧tagg Tryz.prog 120=some false∧tslice Tryz.prog 120=none:=by and_intros<;>kernel_rfl
theorem ft123:tsz Tryz.prog 123=some 1∧tbytes Tryz.prog 123=some 8∧tagg Tryz.prog 123=some false∧tslice Tryz.prog 123=none∧tzero Tryz.prog 123=some [.pointer none]:=by and_intros<;>kernel_rfl
theorem ft138:tsz Tryz.prog 138=some 4∧tbytes Tryz.prog 138=some 96∧tagg Tryz.prog 138=some true∧tslice Tryz.prog 138=none∧tzero Tryz.prog 138=some [.slice none 0 0,.slice none 0 0,.slice none 0 0,.slice none 0 0]∧tstruct Tryz.prog 138=some [.slice none 0 0,.slice none 0 0,.slice none 0 0,.slice none 0 0]∧tfield Tryz.prog 138 0=some (0,34)∧tfield Tryz.prog 138 1=some (3,32):=by and_intros<;>kernel_rfl
theorem ft139:tsz Tryz.prog 139=some 4∧tbytes Tryz.prog 139=some 96∧tagg Tryz.prog 139=some true∧tslice Tryz.prog 139=none∧tzero Tryz.prog 139=some [.slice none 0 0,.slice none 0 0,.slice none 0 0,.slice none 0 0]∧tstruct Tryz.prog 139=some [.slice none 0 0,.slice none 0 0,.slice none 0 0,.slice none 0 0]∧tfield Tryz.prog 139 0=some (0,34)∧tfield Tryz.prog 139 1=some (3,32):=by and_intros<;>kernel_rfl
theorem ft150:tsz Tryz.prog 150=some 1∧tbytes Tryz.prog 150=some 24∧tagg Tryz.prog 150=some false∧tslice Tryz.prog 150=some 9∧tzero Tryz.prog 150=some [.slice none 0 0]:=by and_intros<;>kernel_rfl
theorem ft156:tsz Tryz.prog 156=some 1∧tbytes Tryz.prog 156=some 0∧tagg Tryz.prog 156=some false∧tslice Tryz.prog 156=none:=by and_intros<;>kernel_rfl
theorem ft158:tsz Tryz.prog 158=some 1∧tbytes Tryz.prog 158=some 0∧tagg Tryz.prog 158=some false∧tslice Tryz.prog 158=none:=by and_intros<;>kernel_rfl
theorem ft177:tsz Tryz.prog 177=some 1∧tbytes Tryz.prog 177=some 0∧tagg Tryz.prog 177=some false∧tslice Tryz.prog 177=none:=by and_intros<;>kernel_rfl
theorem ok3:fnOK Tryz.prog 3=true:=by kernel_rfl
theorem ok4:fnOK Tryz.prog 4=true:=by kernel_rfl
theorem ok5:fnOK Tryz.prog 5=true:=by kernel_rfl
theorem ok6:fnOK Tryz.prog 6=true:=by kernel_rfl
theorem ok7:fnOK Tryz.prog 7=true:=by kernel_rfl
theorem ok8:fnOK Tryz.prog 8=true:=by kernel_rfl
theorem ok9:fnOK Tryz.prog 9=true:=by kernel_rfl
theorem ok10:fnOK Tryz.prog 10=true:=by kernel_rfl
theorem ok11:fnOK Tryz.prog 11=true:=by kernel_rfl
theorem ok12:fnOK Tryz.prog 12=true:=by kernel_rfl
theorem ok13:fnOK Tryz.prog 13=true:=by kernel_rfl
theorem ok14:fnOK Tryz.prog 14=true:=by kernel_rfl
theorem ok15:fnOK Tryz.prog 15=true:=by kernel_rfl
theorem ok16:fnOK Tryz.prog 16=true:=by kernel_rfl
theorem ok17:fnOK Tryz.prog 17=true:=by kernel_rfl
theorem ok18:fnOK Tryz.prog 18=true:=by kernel_rfl
theorem ok19:fnOK Tryz.prog 19=true:=by kernel_rfl
theorem ok20:fnOK Tryz.prog 20=true:=by kernel_rfl
theorem ok21:fnOK Tryz.prog 21=true:=by kernel_rfl
theorem ok22:fnOK Tryz.prog 22=true:=by kernel_rfl
theorem ok23:fnOK Tryz.prog 23=true:=by kernel_rfl
theorem ok24:fnOK Tryz.prog 24=true:=by kernel_rfl
theorem ok25:fnOK Tryz.prog 25=true:=by kernel_rfl
theorem ok26:fnOK Tryz.prog 26=true:=by kernel_rfl
theorem ok27:fnOK Tryz.prog 27=true:=by kernel_rfl
theorem ok28:fnOK Tryz.prog 28=true:=by kernel_rfl
theorem ok29:fnOK Tryz.prog 29=true:=by kernel_rfl
theorem ok30:fnOK Tryz.prog 30=true:=by kernel_rfl
theorem ok31:fnOK Tryz.prog 31=true:=by kernel_rfl
theorem ok32:fnOK Tryz.prog 32=true:=by kernel_rfl
theorem ok33:fnOK Tryz.prog 33=true:=by kernel_rfl
theorem ok34:fnOK Tryz.prog 34=true:=by kernel_rfl
theorem ok35:fnOK Tryz.prog 35=true:=by kernel_rfl
theorem ok36:fnOK Tryz.prog 36=true:=by kernel_rfl
theorem ok37:fnOK Tryz.prog 37=true:=by kernel_rfl
theorem ok38:fnOK Tryz.prog 38=true:=by kernel_rfl
theorem ok39:fnOK Tryz.prog 39=true:=by kernel_rfl
theorem ok40:fnOK Tryz.prog 40=true:=by kernel_rfl
theorem ok41:fnOK Tryz.prog 41=true:=by kernel_rfl
theorem ok42:fnOK Tryz.prog 42=true:=by kernel_rfl
theorem ok43:fnOK Tryz.prog 43=true:=by kernel_rfl
theorem ok44:fnOK Tryz.prog 44=true:=by kernel_rfl
theorem ok45:fnOK Tryz.prog 45=true:=by kernel_rfl
theorem ok46:fnOK Tryz.prog 46=true:=by kernel_rfl
theorem ok47:fnOK Tryz.prog 47=true:=by kernel_rfl
theorem ok48:fnOK Tryz.prog 48=true:=by kernel_rfl
theorem ok49:fnOK Tryz.prog 49=true:=by kernel_rfl
theorem ok50:fnOK Tryz.prog 50=true:=by kernel_rfl
theorem ok51:fnOK Tryz.prog 51=true:=by kernel_rfl
theorem ok52:fnOK Tryz.prog 52=true:=by kernel_rfl
theorem ok53:fnOK Tryz.prog 53=true:=by kernel_rfl
theorem ok54:fnOK Tryz.prog 54=true:=by kernel_rfl
theorem ok55:fnOK Tryz.prog 55=true:=by kernel_rfl
theorem ok56:fnOK Tryz.prog 56=true:=by kernel_rfl
theorem ok57:fnOK Tryz.prog 57=true:=by kernel_rfl
theorem ok58:fnOK Tryz.prog 58=true:=by kernel_rfl
theorem ok59:fnOK Tryz.prog 59=true:=by kernel_rfl
theorem ok60:fnOK Tryz.prog 60=true:=by kernel_rfl
theorem ok61:fnOK Tryz.prog 61=true:=by kernel_rfl
theorem ok62:fnOK Tryz.prog 62=true:=by kernel_rfl
theorem ok63:fnOK Tryz.prog 63=true:=by kernel_rfl
theorem ok64:fnOK Tryz.prog 64=true:=by kernel_rfl
theorem ok65:fnOK Tryz.prog 65=true:=by kernel_rfl
theorem ok66:fnOK Tryz.prog 66=true:=by kernel_rfl
theorem ok67:fnOK Tryz.prog 67=true:=by kernel_rfl
theorem ok68:fnOK Tryz.prog 68=true:=by kernel_rfl
theorem ok69:fnOK Tryz.prog 69=true:=by kernel_rfl
theorem ok70:fnOK Tryz.prog 70=true:=by kernel_rfl
theorem ok71:fnOK Tryz.prog 71=true:=by kernel_rfl
theorem ok72:fnOK Tryz.prog 72=true:=by kernel_rfl
theorem ok73:fnOK Tryz.prog 73=true:=by kernel_rfl
theorem ok74:fnOK Tryz.prog 74=true:=by kernel_rfl
theorem ok75:fnOK Tryz.prog 75=true:=by kernel_rfl
theorem ok76:fnOK Tryz.prog 76=true:=by kernel_rfl
theorem ok77:fnOK Tryz.prog 77=true:=by kernel_rfl
theorem ok78:fnOK Tryz.prog 78=true:=by kernel_rfl
theorem ok79:fnOK Tryz.prog 79=true:=by kernel_rfl
theorem ok80:fnOK Tryz.prog 80=true:=by kernel_rfl
theorem ok81:fnOK Tryz.prog 81=true:=by kernel_rfl
theorem ok82:fnOK Tryz.prog 82=true:=by kernel_rfl
theorem ok83:fnOK Tryz.prog 83=true:=by kernel_rfl
theorem ok84:fnOK Tryz.prog 84=true:=by kernel_rfl
theorem ok85:fnOK Tryz.prog 85=true:=by kernel_rfl
theorem ok86:fnOK Tryz.prog 86=true:=by kernel_rfl
theorem ok87:fnOK Tryz.prog 87=true:=by kernel_rfl
theorem ok88:fnOK Tryz.prog 88=true:=by kernel_rfl
theorem ok89:fnOK Tryz.prog 89=true:=by kernel_rfl
theorem ok90:fnOK Tryz.prog 90=true:=by kernel_rfl
theorem ok91:fnOK Tryz.prog 91=true:=by kernel_rfl
theorem ok92:fnOK Tryz.prog 92=true:=by kernel_rfl
theorem ok93:fnOK Tryz.prog 93=true:=by kernel_rfl
theorem ok94:fnOK Tryz.prog 94=true:=by kernel_rfl
theorem ok95:fnOK Tryz.prog 95=true:=by kernel_rfl
theorem ok96:fnOK Tryz.prog 96=true:=by kernel_rfl
theorem ok97:fnOK Tryz.prog 97=true:=by kernel_rfl
theorem ok98:fnOK Tryz.prog 98=true:=by kernel_rfl
theorem ok99:fnOK Tryz.prog 99=true:=by kernel_rfl
theorem ok100:fnOK Tryz.prog 100=true:=by kernel_rfl
theorem ok101:fnOK Tryz.prog 101=true:=by kernel_rfl
theorem ok102:fnOK Tryz.prog 102=true:=by kernel_rfl
theorem ok103:fnOK Tryz.prog 103=true:=by kernel_rfl
theorem ok104:fnOK Tryz.prog 104=true:=by kernel_rfl
theorem ok105:fnOK Tryz.prog 105=true:=by kernel_rfl
theorem ok106:fnOK Tryz.prog 106=true:=by kernel_rfl
theorem ok107:fnOK Tryz.prog 107=true:=by kernel_rfl
theorem ok108:fnOK Tryz.prog 108=true:=by kernel_rfl
theorem ok109:fnOK Tryz.prog 109=true:=by kernel_rfl
theorem ok110:fnOK Tryz.prog 110=true:=by kernel_rfl
theorem ok111:fnOK Tryz.prog 111=true:=by kernel_rfl
theorem ok112:fnOK Tryz.prog 112=true:=by kernel_rfl
theorem ok113:fnOK Tryz.prog 113=true:=by kernel_rfl
theorem ok114:fnOK Tryz.prog 114=true:=by kernel_rfl
theorem ok115:fnOK Tryz.prog 115=true:=by kernel_rfl
theorem ok116:fnOK Tryz.prog 116=true:=by kernel_rfl
theorem ok117:fnOK Tryz.prog 117=true:=by kernel_rfl
theorem ok118:fnOK Tryz.prog 118=true:=by kernel_rfl
theorem ok119:fnOK Tryz.prog 119=true:=by kernel_rfl
theorem ok120:fnOK Tryz.prog 120=true:=by kernel_rfl
theorem ok121:fnOK Tryz.prog 121=true:=by kernel_rfl
theorem ok122:fnOK Tryz.prog 122=true:=by kernel_rfl
theorem ok123:fnOK Tryz.prog 123=true:=by kernel_rfl
theorem ok124:fnOK Tryz.prog 124=true:=by kernel_rfl
theorem ok125:fnOK Tryz.prog 125=true:=by kernel_rfl
theorem ok126:fnOK Tryz.prog 126=true:=by kernel_rfl
theorem ok127:fnOK Tryz.prog 127=true:=by kernel_rfl
theorem ok128:fnOK Tryz.prog 128=true:=by kernel_rfl
theorem ok129:fnOK Tryz.prog 129=true:=by kernel_rfl
theorem ok130:fnOK Tryz.prog 130=true:=by kernel_rfl
theorem ok131:fnOK Tryz.prog 131=true:=by kernel_rfl
theorem ok132:fnOK Tryz.prog 132=true:=by kernel_rfl
theorem ok133:fnOK Tryz.prog 133=true:=by kernel_rfl
theorem ok134:fnOK Tryz.prog 134=true:=by kernel_rfl
theorem ok135:fnOK Tryz.prog 135=true:=by kernel_rfl
theorem ok136:fnOK Tryz.prog 136=true:=by kernel_rfl
theorem ok137:fnOK Tryz.prog 137=true:=by kernel_rfl
theorem ok138:fnOK Tryz.prog 138=true:=by kernel_rfl
theorem ok139:fnOK Tryz.prog 139=true:=by kernel_rfl
theorem ok140:fnOK Tryz.prog 140=true:=by kernel_rfl
theorem ok141:fnOK Tryz.prog 141=true:=by kernel_rfl
theorem ok142:fnOK Tryz.prog 142=true:=by kernel_rfl
theorem ok143:fnOK Tryz.prog 143=true:=by kernel_rfl
theorem ok144:fnOK Tryz.prog 144=true:=by kernel_rfl
theorem ok145:fnOK Tryz.prog 145=true:=by kernel_rfl
theorem ok146:fnOK Tryz.prog 146=true:=by kernel_rfl
theorem ok147:fnOK Tryz.prog 147=true:=by kernel_rfl
theorem ok148:fnOK Tryz.prog 148=true:=by kernel_rfl
theorem ok149:fnOK Tryz.prog 149=true:=by kernel_rfl
theorem ok150:fnOK Tryz.prog 150=true:=by kernel_rfl
theorem ok151:fnOK Tryz.prog 151=true:=by kernel_rfl
theorem ok152:fnOK Tryz.prog 152=true:=by kernel_rfl
theorem ok153:fnOK Tryz.prog 153=true:=by kernel_rfl
theorem ok154:fnOK Tryz.prog 154=true:=by kernel_rfl
theorem ok155:fnOK Tryz.prog 155=true:=by kernel_rfl
theorem ok156:fnOK Tryz.prog 156=true:=by kernel_rfl
theorem ok157:fnOK Tryz.prog 157=true:=by kernel_rfl
theorem ok158:fnOK Tryz.prog 158=true:=by kernel_rfl
theorem ok159:fnOK Tryz.prog 159=true:=by kernel_rfl
theorem ok160:fnOK Tryz.prog 160=true:=by kernel_rfl
theorem ok161:fnOK Tryz.prog 161=true:=by kernel_rfl
attribute [go_sem] ft0 ft1 ft2 ft3 ft4 ft5 ft6 ft7 ft8 ft9 ft10 ft11 ft12 ft13
 ft14 ft22 ft23 ft24 ft25 ft26 ft27
 ft28 ft30 ft32 ft33 ft34 ft35 ft36 ft37 ft38 ft40 ft41
 ft43 ft49
 ft59 ft60 ft62 ft65 ft66 ft68 ft69
 ft71 ft73 ft75 ft76 ft78 ft79 ft80 ft81 ft82 ft83
 ft90 ft94 ft97
 ft104 ft105 ft106 ft109 ft110 ft111
 ft112 ft113 ft114 ft120 ft123
 ft138 ft139
 ft150
 ft156 ft158
 ft177
 Tryz.f3 Tryz.f4 Tryz.f5 Tryz.f6 Tryz.f7 Tryz.f8 Tryz.f9 Tryz.f10 Tryz.f11 Tryz.f12 Tryz.f13 Tryz.f14 Tryz.f15 Tryz.f16
 Tryz.f17 Tryz.f18 Tryz.f19 Tryz.f20 Tryz.f21 Tryz.f22 Tryz.f23 Tryz.f24 Tryz.f25 Tryz.f26 Tryz.f27 Tryz.f28 Tryz.f29 Tryz.f30
 Tryz.f31 Tryz.f32 Tryz.f33 Tryz.f34 Tryz.f35 Tryz.f36 Tryz.f37 Tryz.f38 Tryz.f39 Tryz.f40 Tryz.f41 Tryz.f42 Tryz.f43 Tryz.f44
 Tryz.f45 Tryz.f46 Tryz.f47 Tryz.f48 Tryz.f49 Tryz.f50 Tryz.f51 Tryz.f52 Tryz.f53 Tryz.f54 Tryz.f55 Tryz.f56 Tryz.f57 Tryz.f58
 Tryz.f59 Tryz.f60 Tryz.f61 Tryz.f62 Tryz.f63 Tryz.f64 Tryz.f65 Tryz.f66 Tryz.f67 Tryz.f68 Tryz.f69 Tryz.f70 Tryz.f71 Tryz.f72
 Tryz.f73 Tryz.f74 Tryz.f75 Tryz.f76 Tryz.f77 Tryz.f78 Tryz.f79 Tryz.f80 Tryz.f81 Tryz.f82 Tryz.f83 Tryz.f84 Tryz.f85 Tryz.f86
 Tryz.f87 Tryz.f88 Tryz.f89 Tryz.f90 Tryz.f91 Tryz.f92 Tryz.f93 Tryz.f94 Tryz.f95 Tryz.f96 Tryz.f97 Tryz.f98 Tryz.f99 Tryz.f100
 Tryz.f101 Tryz.f102 Tryz.f103 Tryz.f104 Tryz.f105 Tryz.f106 Tryz.f107 Tryz.f108 Tryz.f109 Tryz.f110 Tryz.f111 Tryz.f112 Tryz.f113 Tryz.f114
 Tryz.f115 Tryz.f116 Tryz.f117 Tryz.f118 Tryz.f119 Tryz.f120 Tryz.f121 Tryz.f122 Tryz.f123 Tryz.f124 Tryz.f125 Tryz.f126 Tryz.f127 Tryz.f128
 Tryz.f129 Tryz.f130 Tryz.f131 Tryz.f132 Tryz.f133 Tryz.f134 Tryz.f135 Tryz.f136 Tryz.f137 Tryz.f138 Tryz.f139 Tryz.f140 Tryz.f141 Tryz.f142
 Tryz.f143 Tryz.f144 Tryz.f145 Tryz.f146 Tryz.f147 Tryz.f148 Tryz.f149 Tryz.f150 Tryz.f151 Tryz.f152 Tryz.f153 Tryz.f154 Tryz.f155 Tryz.f156
 Tryz.f157 Tryz.f158 Tryz.f159 Tryz.f160 Tryz.f161
end Go.Proofs.YtoakidkcppinpaaGreat.CtF
