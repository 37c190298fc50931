/- Contracts of functions of the program, one behind the other, as plain data: what each call returns and which blocks it leaves. -/
import Derived.Test.YtmjkgjkkpaephaaGreatChecked
import Derived.KernelRfl
import Derived.Test.YtmjkgjkkpaephaaGreatXAi
set_option linter.unusedVariables false
set_option linter.unusedSimpArgs false
set_option maxHeartbeats 16000000
set_option maxRecDepth 100000
namespace Go.Proofs.YtmjkgjkkpaephaaGreat.CtF
open Go Go.CT
theorem mo:Tryz.prog.follows .mixedOrders=true:=by kernel_rfl
theorem drvZ {m nt:Nat} {f:FuncId} {R:D→List (Option (List C))→Prop} {r:Option Rg} {k:List Item} {S:Ms} {fn:Func} (hfn:Tryz.prog.funcs[f]? = some fn) (h:drv Tryz.prog m f nt R fn.results.toList 12 r k S):XK Tryz.prog m f nt R r k S :=
 drv_sound hfn mo rfl 12 r k S h
theorem drvL {m nt:Nat} {f:FuncId} {R:D→List (Option (List C))→Prop} {k:List Item} {S:Ms} {fn:Func} (hfn:Tryz.prog.funcs[f]? = some fn) (h:drv Tryz.prog m f nt R fn.results.toList 12 none k S):Go Tryz.prog m f nt R k S :=
 drv_sound hfn mo rfl 12 none k S h
theorem dcZ {f : FuncId} {R : D → List (Option (List C)) → Prop} {args : List D} {h : List (Option (List C))} {fn : Func} {c : Code} (hf : Tryz.prog.funcs[f]? = some fn)
 (hg:drv Tryz.prog h.length f fn.ntmps R fn.results.toList 12 none [.code c] ⟨ofArgs 0 args,hpL h,h.length⟩) (hb:fn.body=some c:=by rfl) (hn:args.length≤fn.ntmps:=by simp):DC Tryz.prog f args h R :=
 dc_of_go hf hb hn (drv_sound hf mo rfl 12 none _ _ hg)
theorem ft0:tsz Tryz.prog 0=some 1∧tbytes Tryz.prog 0=some 0∧tagg Tryz.prog 0=some false∧tslice Tryz.prog 0=none:=by and_intros<;>kernel_rfl
theorem ft1:tsz Tryz.prog 1=some 1∧tbytes Tryz.prog 1=some 8∧tagg Tryz.prog 1=some false∧tslice Tryz.prog 1=none∧tzero Tryz.prog 1=some [.nilFunc]:=by and_intros<;>kernel_rfl
theorem ft2:tsz Tryz.prog 2=some 1∧tbytes Tryz.prog 2=some 8∧tagg Tryz.prog 2=some false∧tslice Tryz.prog 2=none∧Tryz.prog.underlying 2=some (.int .i64)∧tzero Tryz.prog 2=some [.int .i64 0]:=by and_intros<;>kernel_rfl
theorem ft3:tsz Tryz.prog 3=some 1∧tbytes Tryz.prog 3=some 8∧tagg Tryz.prog 3=some false∧tslice Tryz.prog 3=none∧Tryz.prog.underlying 3=some (.int .i64)∧tzero Tryz.prog 3=some [.int .i64 0]:=by and_intros<;>kernel_rfl
theorem ft4:tsz Tryz.prog 4=some 1∧tbytes Tryz.prog 4=some 1∧tagg Tryz.prog 4=some false∧tbool Tryz.prog 4=true∧tslice Tryz.prog 4=none∧tzero Tryz.prog 4=some [.bool false]:=by and_intros<;>kernel_rfl
theorem ft5:tsz Tryz.prog 5=some 1∧tbytes Tryz.prog 5=some 1∧tagg Tryz.prog 5=some false∧tslice Tryz.prog 5=none∧Tryz.prog.underlying 5=some (.int .u8)∧tzero Tryz.prog 5=some [.int .u8 0]:=by and_intros<;>kernel_rfl
theorem ft6:tsz Tryz.prog 6=some 1∧tbytes Tryz.prog 6=some 1∧tagg Tryz.prog 6=some false∧tslice Tryz.prog 6=none∧Tryz.prog.underlying 6=some (.int .u8)∧tzero Tryz.prog 6=some [.int .u8 0]:=by and_intros<;>kernel_rfl
theorem ft7:tsz Tryz.prog 7=some 4∧tbytes Tryz.prog 7=some 24∧tagg Tryz.prog 7=some true∧tslice Tryz.prog 7=none∧tzero Tryz.prog 7=some [.int .i64 0,.int .i64 0,.bool false,.int .u8 0]∧tstruct Tryz.prog 7=some [.int .i64 0,.int .i64 0,.bool false,.int .u8 0]∧tfield Tryz.prog 7 0=some (0,2)∧tfield Tryz.prog 7 1=some (1,3)∧tfield Tryz.prog 7 2=some (2,4)∧tfield Tryz.prog 7 3=some (3,6):=by and_intros<;>kernel_rfl
theorem ft8:tsz Tryz.prog 8=some 4∧tbytes Tryz.prog 8=some 24∧tagg Tryz.prog 8=some true∧tslice Tryz.prog 8=none∧tzero Tryz.prog 8=some [.int .i64 0,.int .i64 0,.bool false,.int .u8 0]∧tstruct Tryz.prog 8=some [.int .i64 0,.int .i64 0,.bool false,.int .u8 0]∧tfield Tryz.prog 8 0=some (0,2)∧tfield Tryz.prog 8 1=some (1,3)∧tfield Tryz.prog 8 2=some (2,4)∧tfield Tryz.prog 8 3=some (3,6):=by and_intros<;>kernel_rfl
theorem ft9:tsz Tryz.prog 9=some 1∧tbytes Tryz.prog 9=some 16∧tagg Tryz.prog 9=some false∧tstring Tryz.prog 9=true∧tslice Tryz.prog 9=none∧tzero Tryz.prog 9=some [.string .empty]:=by and_intros<;>kernel_rfl
theorem ft10:tsz Tryz.prog 10=some 1∧tbytes Tryz.prog 10=some 16∧tagg Tryz.prog 10=some false∧tstring Tryz.prog 10=true∧tslice Tryz.prog 10=none∧tzero Tryz.prog 10=some [.string .empty]:=by and_intros<;>kernel_rfl
theorem ft11:tsz Tryz.prog 11=some 1∧tbytes Tryz.prog 11=some 16∧tagg Tryz.prog 11=some false∧tstring Tryz.prog 11=true∧tslice Tryz.prog 11=none∧tzero Tryz.prog 11=some [.string .empty]:=by and_intros<;>kernel_rfl
theorem ft12:tsz Tryz.prog 12=some 1∧tbytes Tryz.prog 12=some 8∧tagg Tryz.prog 12=some false∧tslice Tryz.prog 12=none∧Tryz.prog.underlying 12=some (.int .u64)∧tzero Tryz.prog 12=some [.int .u64 0]:=by and_intros<;>kernel_rfl
theorem ft13:tsz Tryz.prog 13=some 2∧tbytes Tryz.prog 13=some 24∧tagg Tryz.prog 13=some true∧tslice Tryz.prog 13=none∧tzero Tryz.prog 13=some [.string .empty,.int .u64 0]∧tstruct Tryz.prog 13=some [.string .empty,.int .u64 0]∧tfield Tryz.prog 13 0=some (0,9)∧tfield Tryz.prog 13 1=some (1,12):=by and_intros<;>kernel_rfl
theorem ft14:tsz Tryz.prog 14=some 2∧tbytes Tryz.prog 14=some 24∧tagg Tryz.prog 14=some true∧tslice Tryz.prog 14=none∧tzero Tryz.prog 14=some [.string .empty,.int .u64 0]∧tstruct Tryz.prog 14=some [.string .empty,.int .u64 0]∧tfield Tryz.prog 14 0=some (0,9)∧tfield Tryz.prog 14 1=some (1,12):=by and_intros<;>kernel_rfl
theorem ft22:tsz Tryz.prog 22=some 1∧tbytes Tryz.prog 22=some 24∧tagg Tryz.prog 22=some false∧tslice Tryz.prog 22=some 3∧tzero Tryz.prog 22=some [.slice none 0 0]:=by and_intros<;>kernel_rfl
theorem ft23:tsz Tryz.prog 23=some 1∧tbytes Tryz.prog 23=some 24∧tagg Tryz.prog 23=some false∧tslice Tryz.prog 23=some 121∧tzero Tryz.prog 23=some [.slice none 0 0]:=by and_intros<;>kernel_rfl
theorem ft24:tsz Tryz.prog 24=some 3∧tbytes Tryz.prog 24=some 72∧tagg Tryz.prog 24=some true∧tslice Tryz.prog 24=none∧tzero Tryz.prog 24=some [.slice none 0 0,.slice none 0 0,.slice none 0 0]∧tstruct Tryz.prog 24=some [.slice none 0 0,.slice none 0 0,.slice none 0 0]∧tfield Tryz.prog 24 0=some (0,22)∧tfield Tryz.prog 24 1=some (1,22)∧tfield Tryz.prog 24 2=some (2,23):=by and_intros<;>kernel_rfl
theorem ft25:tsz Tryz.prog 25=some 3∧tbytes Tryz.prog 25=some 72∧tagg Tryz.prog 25=some true∧tslice Tryz.prog 25=none∧tzero Tryz.prog 25=some [.slice none 0 0,.slice none 0 0,.slice none 0 0]∧tstruct Tryz.prog 25=some [.slice none 0 0,.slice none 0 0,.slice none 0 0]∧tfield Tryz.prog 25 0=some (0,22)∧tfield Tryz.prog 25 1=some (1,22)∧tfield Tryz.prog 25 2=some (2,23):=by and_intros<;>kernel_rfl
theorem ft26:tsz Tryz.prog 26=some 1∧tbytes Tryz.prog 26=some 24∧tagg Tryz.prog 26=some false∧tslice Tryz.prog 26=some 22∧tzero Tryz.prog 26=some [.slice none 0 0]:=by and_intros<;>kernel_rfl
theorem ft27:tsz Tryz.prog 27=some 2∧tbytes Tryz.prog 27=some 48∧tagg Tryz.prog 27=some true∧tslice Tryz.prog 27=none∧tzero Tryz.prog 27=some [.slice none 0 0,.slice none 0 0]∧tstruct Tryz.prog 27=some [.slice none 0 0,.slice none 0 0]∧tfield Tryz.prog 27 0=some (0,22)∧tfield Tryz.prog 27 1=some (1,26):=by and_intros<;>kernel_rfl
theorem ft28:tsz Tryz.prog 28=some 2∧tbytes Tryz.prog 28=some 48∧tagg Tryz.prog 28=some true∧tslice Tryz.prog 28=none∧tzero Tryz.prog 28=some [.slice none 0 0,.slice none 0 0]∧tstruct Tryz.prog 28=some [.slice none 0 0,.slice none 0 0]∧tfield Tryz.prog 28 0=some (0,22)∧tfield Tryz.prog 28 1=some (1,26):=by and_intros<;>kernel_rfl
theorem ft32:tsz Tryz.prog 32=some 1∧tbytes Tryz.prog 32=some 24∧tagg Tryz.prog 32=some false∧tslice Tryz.prog 32=some 91∧tzero Tryz.prog 32=some [.slice none 0 0]:=by and_intros<;>kernel_rfl
theorem ft33:tsz Tryz.prog 33=some 3∧tbytes Tryz.prog 33=some 72∧tagg Tryz.prog 33=some true∧tslice Tryz.prog 33=none∧tzero Tryz.prog 33=some [.slice none 0 0,.slice none 0 0,.slice none 0 0]∧tstruct Tryz.prog 33=some [.slice none 0 0,.slice none 0 0,.slice none 0 0]∧tfield Tryz.prog 33 0=some (0,22)∧tfield Tryz.prog 33 1=some (1,22)∧tfield Tryz.prog 33 2=some (2,32):=by and_intros<;>kernel_rfl
theorem ft34:tsz Tryz.prog 34=some 3∧tbytes Tryz.prog 34=some 72∧tagg Tryz.prog 34=some true∧tslice Tryz.prog 34=none∧tzero Tryz.prog 34=some [.slice none 0 0,.slice none 0 0,.slice none 0 0]∧tstruct Tryz.prog 34=some [.slice none 0 0,.slice none 0 0,.slice none 0 0]∧tfield Tryz.prog 34 0=some (0,22)∧tfield Tryz.prog 34 1=some (1,22)∧tfield Tryz.prog 34 2=some (2,32):=by and_intros<;>kernel_rfl
theorem ft36:tsz Tryz.prog 36=some 2∧tbytes Tryz.prog 36=some 48∧tagg Tryz.prog 36=some true∧tslice Tryz.prog 36=none∧tzero Tryz.prog 36=some [.slice none 0 0,.slice none 0 0]∧tstruct Tryz.prog 36=some [.slice none 0 0,.slice none 0 0]∧tfield Tryz.prog 36 0=some (0,22)∧tfield Tryz.prog 36 1=some (1,26):=by and_intros<;>kernel_rfl
theorem ft41:tsz Tryz.prog 41=some 1∧tbytes Tryz.prog 41=some 24∧tagg Tryz.prog 41=some false∧tslice Tryz.prog 41=some 5∧tzero Tryz.prog 41=some [.slice none 0 0]:=by and_intros<;>kernel_rfl
theorem ft50:tsz Tryz.prog 50=some 1∧tbytes Tryz.prog 50=some 24∧tagg Tryz.prog 50=some false∧tslice Tryz.prog 50=some 95∧tzero Tryz.prog 50=some [.slice none 0 0]:=by and_intros<;>kernel_rfl
theorem ft51:tsz Tryz.prog 51=some 3∧tbytes Tryz.prog 51=some 72∧tagg Tryz.prog 51=some true∧tslice Tryz.prog 51=none∧tzero Tryz.prog 51=some [.slice none 0 0,.slice none 0 0,.slice none 0 0]∧tstruct Tryz.prog 51=some [.slice none 0 0,.slice none 0 0,.slice none 0 0]∧tfield Tryz.prog 51 0=some (0,22)∧tfield Tryz.prog 51 1=some (1,22)∧tfield Tryz.prog 51 2=some (2,50):=by and_intros<;>kernel_rfl
theorem ft52:tsz Tryz.prog 52=some 3∧tbytes Tryz.prog 52=some 72∧tagg Tryz.prog 52=some true∧tslice Tryz.prog 52=none∧tzero Tryz.prog 52=some [.slice none 0 0,.slice none 0 0,.slice none 0 0]∧tstruct Tryz.prog 52=some [.slice none 0 0,.slice none 0 0,.slice none 0 0]∧tfield Tryz.prog 52 0=some (0,22)∧tfield Tryz.prog 52 1=some (1,22)∧tfield Tryz.prog 52 2=some (2,50):=by and_intros<;>kernel_rfl
theorem ft53:tsz Tryz.prog 53=some 1∧tbytes Tryz.prog 53=some 0∧tagg Tryz.prog 53=some false∧tslice Tryz.prog 53=none:=by and_intros<;>kernel_rfl
theorem ft60:tsz Tryz.prog 60=some 1∧tbytes Tryz.prog 60=some 24∧tagg Tryz.prog 60=some false∧tslice Tryz.prog 60=some 114∧tzero Tryz.prog 60=some [.slice none 0 0]:=by and_intros<;>kernel_rfl
theorem ft61:tsz Tryz.prog 61=some 1∧tbytes Tryz.prog 61=some 0∧tagg Tryz.prog 61=some false∧tslice Tryz.prog 61=none:=by and_intros<;>kernel_rfl
theorem ft69:tsz Tryz.prog 69=some 1∧tbytes Tryz.prog 69=some 0∧tagg Tryz.prog 69=some false∧tslice Tryz.prog 69=none:=by and_intros<;>kernel_rfl
theorem ft77:tsz Tryz.prog 77=some 1∧tbytes Tryz.prog 77=some 8∧tagg Tryz.prog 77=some false∧tslice Tryz.prog 77=none∧tzero Tryz.prog 77=some [.pointer none]:=by and_intros<;>kernel_rfl
theorem ft87:tsz Tryz.prog 87=some 1∧tbytes Tryz.prog 87=some 24∧tagg Tryz.prog 87=some false∧tslice Tryz.prog 87=some 89∧tzero Tryz.prog 87=some [.slice none 0 0]:=by and_intros<;>kernel_rfl
theorem ft88:tsz Tryz.prog 88=some 3∧tbytes Tryz.prog 88=some 40∧tagg Tryz.prog 88=some true∧tslice Tryz.prog 88=none∧tzero Tryz.prog 88=some [.int .i64 0,.int .i64 0,.slice none 0 0]∧tstruct Tryz.prog 88=some [.int .i64 0,.int .i64 0,.slice none 0 0]∧tfield Tryz.prog 88 0=some (0,3)∧tfield Tryz.prog 88 1=some (1,3)∧tfield Tryz.prog 88 2=some (2,87):=by and_intros<;>kernel_rfl
theorem ft89:tsz Tryz.prog 89=some 3∧tbytes Tryz.prog 89=some 40∧tagg Tryz.prog 89=some true∧tslice Tryz.prog 89=none∧tzero Tryz.prog 89=some [.int .i64 0,.int .i64 0,.slice none 0 0]∧tstruct Tryz.prog 89=some [.int .i64 0,.int .i64 0,.slice none 0 0]∧tfield Tryz.prog 89 0=some (0,3)∧tfield Tryz.prog 89 1=some (1,3)∧tfield Tryz.prog 89 2=some (2,87):=by and_intros<;>kernel_rfl
theorem ft90:tsz Tryz.prog 90=some 11∧tbytes Tryz.prog 90=some 152∧tagg Tryz.prog 90=some true∧tslice Tryz.prog 90=none∧tzero Tryz.prog 90=some [.int .i64 0,.int .i64 0,.int .i64 0,.int .i64 0,.slice none 0 0,.int .i64 0,.int .i64 0,.slice none 0 0,.int .i64 0,.slice none 0 0,.slice none 0 0]∧tstruct Tryz.prog 90=some [.int .i64 0,.int .i64 0,.int .i64 0,.int .i64 0,.slice none 0 0,.int .i64 0,.int .i64 0,.slice none 0 0,.int .i64 0,.slice none 0 0,.slice none 0 0]∧tfield Tryz.prog 90 0=some (0,3)∧tfield Tryz.prog 90 1=some (1,3)∧tfield Tryz.prog 90 2=some (2,89)∧tfield Tryz.prog 90 3=some (5,89)∧tfield Tryz.prog 90 4=some (8,3)∧tfield Tryz.prog 90 5=some (9,32)∧tfield Tryz.prog 90 6=some (10,32):=by and_intros<;>kernel_rfl
theorem ft91:tsz Tryz.prog 91=some 11∧tbytes Tryz.prog 91=some 152∧tagg Tryz.prog 91=some true∧tslice Tryz.prog 91=none∧tzero Tryz.prog 91=some [.int .i64 0,.int .i64 0,.int .i64 0,.int .i64 0,.slice none 0 0,.int .i64 0,.int .i64 0,.slice none 0 0,.int .i64 0,.slice none 0 0,.slice none 0 0]∧tstruct Tryz.prog 91=some [.int .i64 0,.int .i64 0,.int .i64 0,.int .i64 0,.slice none 0 0,.int .i64 0,.int .i64 0,.slice none 0 0,.int .i64 0,.slice none 0 0,.slice none 0 0]∧tfield Tryz.prog 91 0=some (0,3)∧tfield Tryz.prog 91 1=some (1,3)∧tfield Tryz.prog 91 2=some (2,89)∧tfield Tryz.prog 91 3=some (5,89)∧tfield Tryz.prog 91 4=some (8,3)∧tfield Tryz.prog 91 5=some (9,32)∧tfield Tryz.prog 91 6=some (10,32):=by and_intros<;>kernel_rfl
theorem ft94:tsz Tryz.prog 94=some 5∧tbytes Tryz.prog 94=some 40∧tagg Tryz.prog 94=some true∧tslice Tryz.prog 94=none∧tzero Tryz.prog 94=some [.int .i64 0,.int .i64 0,.int .i64 0,.int .i64 0,.int .i64 0]∧tstruct Tryz.prog 94=some [.int .i64 0,.int .i64 0,.int .i64 0,.int .i64 0,.int .i64 0]∧tints Tryz.prog 94=some 5∧tfield Tryz.prog 94 0=some (0,3)∧tfield Tryz.prog 94 1=some (1,3)∧tfield Tryz.prog 94 2=some (2,3)∧tfield Tryz.prog 94 3=some (3,3)∧tfield Tryz.prog 94 4=some (4,3):=by and_intros<;>kernel_rfl
theorem ft95:tsz Tryz.prog 95=some 5∧tbytes Tryz.prog 95=some 40∧tagg Tryz.prog 95=some true∧tslice Tryz.prog 95=none∧tzero Tryz.prog 95=some [.int .i64 0,.int .i64 0,.int .i64 0,.int .i64 0,.int .i64 0]∧tstruct Tryz.prog 95=some [.int .i64 0,.int .i64 0,.int .i64 0,.int .i64 0,.int .i64 0]∧tints Tryz.prog 95=some 5∧tfield Tryz.prog 95 0=some (0,3)∧tfield Tryz.prog 95 1=some (1,3)∧tfield Tryz.prog 95 2=some (2,3)∧tfield Tryz.prog 95 3=some (3,3)∧tfield Tryz.prog 95 4=some (4,3):=by and_intros<;>kernel_rfl
theorem ft103:tsz Tryz.prog 103=some 1∧tbytes Tryz.prog 103=some 8∧tagg Tryz.prog 103=some false∧tslice Tryz.prog 103=none∧tzero Tryz.prog 103=some [.pointer none]:=by and_intros<;>kernel_rfl
theorem ft104:tsz Tryz.prog 104=some 1∧tbytes Tryz.prog 104=some 0∧tagg Tryz.prog 104=some false∧tslice Tryz.prog 104=none:=by and_intros<;>kernel_rfl
theorem ft106:tsz Tryz.prog 106=some 4∧tbytes Tryz.prog 106=some 80∧tagg Tryz.prog 106=some true∧tslice Tryz.prog 106=none∧tzero Tryz.prog 106=some [.int .i64 0,.slice none 0 0,.slice none 0 0,.slice none 0 0]∧tstruct Tryz.prog 106=some [.int .i64 0,.slice none 0 0,.slice none 0 0,.slice none 0 0]∧tfield Tryz.prog 106 0=some (0,3)∧tfield Tryz.prog 106 1=some (1,22)∧tfield Tryz.prog 106 2=some (2,36):=by and_intros<;>kernel_rfl
theorem ft107:tsz Tryz.prog 107=some 4∧tbytes Tryz.prog 107=some 80∧tagg Tryz.prog 107=some true∧tslice Tryz.prog 107=none∧tzero Tryz.prog 107=some [.int .i64 0,.slice none 0 0,.slice none 0 0,.slice none 0 0]∧tstruct Tryz.prog 107=some [.int .i64 0,.slice none 0 0,.slice none 0 0,.slice none 0 0]∧tfield Tryz.prog 107 0=some (0,3)∧tfield Tryz.prog 107 1=some (1,22)∧tfield Tryz.prog 107 2=some (2,36):=by and_intros<;>kernel_rfl
theorem ft113:tsz Tryz.prog 113=some 2∧tbytes Tryz.prog 113=some 16∧tagg Tryz.prog 113=some true∧tslice Tryz.prog 113=none∧tzero Tryz.prog 113=some [.int .i64 0,.int .i64 0]∧tstruct Tryz.prog 113=some [.int .i64 0,.int .i64 0]∧tints Tryz.prog 113=some 2∧tfield Tryz.prog 113 0=some (0,3)∧tfield Tryz.prog 113 1=some (1,3):=by and_intros<;>kernel_rfl
theorem ft114:tsz Tryz.prog 114=some 2∧tbytes Tryz.prog 114=some 16∧tagg Tryz.prog 114=some true∧tslice Tryz.prog 114=none∧tzero Tryz.prog 114=some [.int .i64 0,.int .i64 0]∧tstruct Tryz.prog 114=some [.int .i64 0,.int .i64 0]∧tints Tryz.prog 114=some 2∧tfield Tryz.prog 114 0=some (0,3)∧tfield Tryz.prog 114 1=some (1,3):=by and_intros<;>kernel_rfl
theorem ft117:tsz Tryz.prog 117=some 1∧tbytes Tryz.prog 117=some 24∧tagg Tryz.prog 117=some false∧tslice Tryz.prog 117=some 119∧tzero Tryz.prog 117=some [.slice none 0 0]:=by and_intros<;>kernel_rfl
theorem ft118:tsz Tryz.prog 118=some 3∧tbytes Tryz.prog 118=some 40∧tagg Tryz.prog 118=some true∧tslice Tryz.prog 118=none∧tzero Tryz.prog 118=some [.int .i64 0,.int .i64 0,.slice none 0 0]∧tstruct Tryz.prog 118=some [.int .i64 0,.int .i64 0,.slice none 0 0]∧tfield Tryz.prog 118 0=some (0,3)∧tfield Tryz.prog 118 1=some (1,3)∧tfield Tryz.prog 118 2=some (2,117):=by and_intros<;>kernel_rfl
theorem ft119:tsz Tryz.prog 119=some 3∧tbytes Tryz.prog 119=some 40∧tagg Tryz.prog 119=some true∧tslice Tryz.prog 119=none∧tzero Tryz.prog 119=some [.int .i64 0,.int .i64 0,.slice none 0 0]∧tstruct Tryz.prog 119=some [.int .i64 0,.int .i64 0,.slice none 0 0]∧tfield Tryz.prog 119 0=some (0,3)∧tfield Tryz.prog 119 1=some (1,3)∧tfield Tryz.prog 119 2=some (2,117):=by and_intros<;>kernel_rfl
theorem ft120:tsz Tryz.prog 120=some 11∧tbytes Tryz.prog 120=some 152∧tagg Tryz.prog 120=some true∧tslice Tryz.prog 120=none∧tzero Tryz.prog 120=some [.int .i64 0,.int .i64 0,.int .i64 0,.int .i64 0,.slice none 0 0,.int .i64 0,.int .i64 0,.slice none 0 0,.int .i64 0,.slice none 0 0,.slice none 0 0]∧tstruct Tryz.prog 120=some [.int .i64 0,.int .i64 0,.int .i64 0,.int .i64 0,.slice none 0 0,.int .i64 0,.int .i64 0,.slice none 0 0,.int .i64 0,.slice none 0 0,.slice none 0 0]∧tfield Tryz.prog 120 0=some (0,3)∧tfield Tryz.prog 120 1=some (1,3)∧tfield Tryz.prog 120 2=some (2,119)∧tfield Tryz.prog 120 3=some (5,119)∧tfield Tryz.prog 120 4=some (8,3)∧tfield Tryz.prog 120 5=some (9,23)∧tfield Tryz.prog 120 6=some (10,23):=by and_intros<;>kernel_rfl
theorem ft121:tsz Tryz.prog 121=some 11∧tbytes Tryz.prog 121=some 152∧tagg Tryz.prog 121=some true∧tslice Tryz.prog 121=none∧tzero Tryz.prog 121=some [.int .i64 0,.int .i64 0,.int .i64 0,.int .i64 0,.slice none 0 0,.int .i64 0,.int .i64 0,.slice none 0 0,.int .i64 0,.slice none 0 0,.slice none 0 0]∧tstruct Tryz.prog 121=some [.int .i64 0,.int .i64 0,.int .i64 0,.int .i64 0,.slice none 0 0,.int .i64 0,.int .i64 0,.slice none 0 0,.int .i64 0,.slice none 0 0,.slice none 0 0]∧tfield Tryz.prog 121 0=some (0,3)∧tfield Tryz.prog 121 1=some (1,3)∧tfield Tryz.prog 121 2=some (2,119)∧tfield Tryz.prog 121 3=some (5,119)∧tfield Tryz.prog 121 4=some (8,3)∧tfield Tryz.prog 121 5=some (9,23)∧tfield Tryz.prog 121 6=some (10,23):=by and_intros<;>kernel_rfl
theorem ft122:tsz Tryz.prog 122=some 3∧tbytes Tryz.prog 122=some 56∧tagg Tryz.prog 122=some true∧tslice Tryz.prog 122=none∧tzero Tryz.prog 122=some [.slice none 0 0,.slice none 0 0,.int .i64 0]∧tstruct Tryz.prog 122=some [.slice none 0 0,.slice none 0 0,.int .i64 0]∧tfield Tryz.prog 122 0=some (0,50)∧tfield Tryz.prog 122 1=some (1,22)∧tfield Tryz.prog 122 2=some (2,3):=by and_intros<;>kernel_rfl
theorem ft123:tsz Tryz.prog 123=some 3∧tbytes Tryz.prog 123=some 56∧tagg Tryz.prog 123=some true∧tslice Tryz.prog 123=none∧tzero Tryz.prog 123=some [.slice none 0 0,.slice none 0 0,.int .i64 0]∧tstruct Tryz.prog 123=some [.slice none 0 0,.slice none 0 0,.int .i64 0]∧tfield Tryz.prog 123 0=some (0,50)∧tfield Tryz.prog 123 1=some (1,22)∧tfield Tryz.prog 123 2=some (2,3):=by and_intros<;>kernel_rfl
theorem ft124:tsz Tryz.prog 124=some 1∧tbytes Tryz.prog 124=some 0∧tagg Tryz.prog 124=some false∧tslice Tryz.prog 124=none:=by and_intros<;>kernel_rfl
theorem ft129:tsz Tryz.prog 129=some 1∧tbytes Tryz.prog 129=some 8∧tagg Tryz.prog 129=some false∧tslice Tryz.prog 129=none∧tzero Tryz.prog 129=some [.pointer none]:=by and_intros<;>kernel_rfl
theorem ft130:tsz Tryz.prog 130=some 1∧tbytes Tryz.prog 130=some 0∧tagg Tryz.prog 130=some false∧tslice Tryz.prog 130=none:=by and_intros<;>kernel_rfl
theorem ft132:tsz Tryz.prog 132=some 4∧tbytes Tryz.prog 132=some 64∧tagg Tryz.prog 132=some true∧tslice Tryz.prog 132=none∧tzero Tryz.prog 132=some [.slice none 0 0,.slice none 0 0,.int .i64 0,.int .i64 0]∧tstruct Tryz.prog 132=some [.slice none 0 0,.slice none 0 0,.int .i64 0,.int .i64 0]∧tfield Tryz.prog 132 0=some (0,50)∧tfield Tryz.prog 132 1=some (1,22)∧tfield Tryz.prog 132 2=some (2,3)∧tfield Tryz.prog 132 3=some (3,3):=by and_intros<;>kernel_rfl
theorem ft133:tsz Tryz.prog 133=some 4∧tbytes Tryz.prog 133=some 64∧tagg Tryz.prog 133=some true∧tslice Tryz.prog 133=none∧tzero Tryz.prog 133=some [.slice none 0 0,.slice none 0 0,.int .i64 0,.int .i64 0]∧tstruct Tryz.prog 133=some [.slice none 0 0,.slice none 0 0,.int .i64 0,.int .i64 0]∧tfield Tryz.prog 133 0=some (0,50)∧tfield Tryz.prog 133 1=some (1,22)∧tfield Tryz.prog 133 2=some (2,3)∧tfield Tryz.prog 133 3=some (3,3):=by and_intros<;>kernel_rfl
theorem ft135:tsz Tryz.prog 135=some 2∧tbytes Tryz.prog 135=some 32∧tagg Tryz.prog 135=some true∧tslice Tryz.prog 135=none∧tzero Tryz.prog 135=some [.slice none 0 0,.int .i64 0]∧tstruct Tryz.prog 135=some [.slice none 0 0,.int .i64 0]∧tfield Tryz.prog 135 0=some (0,41)∧tfield Tryz.prog 135 1=some (1,3):=by and_intros<;>kernel_rfl
theorem ft136:tsz Tryz.prog 136=some 2∧tbytes Tryz.prog 136=some 32∧tagg Tryz.prog 136=some true∧tslice Tryz.prog 136=none∧tzero Tryz.prog 136=some [.slice none 0 0,.int .i64 0]∧tstruct Tryz.prog 136=some [.slice none 0 0,.int .i64 0]∧tfield Tryz.prog 136 0=some (0,41)∧tfield Tryz.prog 136 1=some (1,3):=by and_intros<;>kernel_rfl
theorem ft142:tsz Tryz.prog 142=some 1∧tbytes Tryz.prog 142=some 8∧tagg Tryz.prog 142=some false∧tslice Tryz.prog 142=none∧tzero Tryz.prog 142=some [.nilFunc]:=by and_intros<;>kernel_rfl
theorem ft146:tsz Tryz.prog 146=some 1∧tbytes Tryz.prog 146=some 8∧tagg Tryz.prog 146=some false∧tslice Tryz.prog 146=none∧tzero Tryz.prog 146=some [.pointer none]:=by and_intros<;>kernel_rfl
theorem ft153:tsz Tryz.prog 153=some 1∧tbytes Tryz.prog 153=some 8∧tagg Tryz.prog 153=some false∧tslice Tryz.prog 153=none∧tzero Tryz.prog 153=some [.nilFunc]:=by and_intros<;>kernel_rfl
theorem ft155:tsz Tryz.prog 155=some 1∧tbytes Tryz.prog 155=some 0∧tagg Tryz.prog 155=some false∧tslice Tryz.prog 155=none:=by and_intros<;>kernel_rfl
theorem ft158:tsz Tryz.prog 158=some 1∧tbytes Tryz.prog 158=some 8∧tagg Tryz.prog 158=some false∧tslice Tryz.prog 158=none∧tzero Tryz.prog 158=some [.nilFunc]:=by and_intros<;>kernel_rfl
theorem ft205:tsz Tryz.prog 205=some 1∧tbytes Tryz.prog 205=some 0∧tagg Tryz.prog 205=some false∧tslice Tryz.prog 205=none:=by and_intros<;>kernel_rfl
theorem ft220:tsz Tryz.prog 220=some 1∧tbytes Tryz.prog 220=some 8∧tagg Tryz.prog 220=some false∧tslice Tryz.prog 220=none∧tzero Tryz.prog 220=some [.nilFunc]:=by and_intros<;>kernel_rfl
theorem ft234:tsz Tryz.prog 234=some 1∧tbytes Tryz.prog 234=some 24∧tagg Tryz.prog 234=some false∧tslice Tryz.prog 234=some 9∧tzero Tryz.prog 234=some [.slice none 0 0]:=by and_intros<;>kernel_rfl
theorem ok3:fnOK Tryz.prog 3=true:=by kernel_rfl
theorem ok6:fnOK Tryz.prog 6=true:=by kernel_rfl
theorem ok7:fnOK Tryz.prog 7=true:=by kernel_rfl
theorem ok8:fnOK Tryz.prog 8=true:=by kernel_rfl
theorem ok9:fnOK Tryz.prog 9=true:=by kernel_rfl
theorem ok10:fnOK Tryz.prog 10=true:=by kernel_rfl
theorem ok11:fnOK Tryz.prog 11=true:=by kernel_rfl
theorem ok12:fnOK Tryz.prog 12=true:=by kernel_rfl
theorem ok13:fnOK Tryz.prog 13=true:=by kernel_rfl
theorem ok24:fnOK Tryz.prog 24=true:=by kernel_rfl
theorem ok29:fnOK Tryz.prog 29=true:=by kernel_rfl
theorem ok30:fnOK Tryz.prog 30=true:=by kernel_rfl
theorem ok31:fnOK Tryz.prog 31=true:=by kernel_rfl
theorem ok32:fnOK Tryz.prog 32=true:=by kernel_rfl
theorem ok33:fnOK Tryz.prog 33=true:=by kernel_rfl
theorem ok34:fnOK Tryz.prog 34=true:=by kernel_rfl
theorem ok35:fnOK Tryz.prog 35=true:=by kernel_rfl
theorem ok36:fnOK Tryz.prog 36=true:=by kernel_rfl
theorem ok37:fnOK Tryz.prog 37=true:=by kernel_rfl
theorem ok38:fnOK Tryz.prog 38=true:=by kernel_rfl
theorem ok39:fnOK Tryz.prog 39=true:=by kernel_rfl
theorem ok40:fnOK Tryz.prog 40=true:=by kernel_rfl
theorem ok41:fnOK Tryz.prog 41=true:=by kernel_rfl
theorem ok42:fnOK Tryz.prog 42=true:=by kernel_rfl
theorem ok43:fnOK Tryz.prog 43=true:=by kernel_rfl
theorem ok53:fnOK Tryz.prog 53=true:=by kernel_rfl
theorem ok60:fnOK Tryz.prog 60=true:=by kernel_rfl
theorem ok64:fnOK Tryz.prog 64=true:=by kernel_rfl
theorem ok65:fnOK Tryz.prog 65=true:=by kernel_rfl
theorem ok66:fnOK Tryz.prog 66=true:=by kernel_rfl
theorem ok71:fnOK Tryz.prog 71=true:=by kernel_rfl
theorem ok72:fnOK Tryz.prog 72=true:=by kernel_rfl
theorem ok73:fnOK Tryz.prog 73=true:=by kernel_rfl
theorem ok74:fnOK Tryz.prog 74=true:=by kernel_rfl
theorem ok75:fnOK Tryz.prog 75=true:=by kernel_rfl
theorem ok76:fnOK Tryz.prog 76=true:=by kernel_rfl
theorem ok77:fnOK Tryz.prog 77=true:=by kernel_rfl
theorem ok78:fnOK Tryz.prog 78=true:=by kernel_rfl
theorem ok79:fnOK Tryz.prog 79=true:=by kernel_rfl
theorem ok81:fnOK Tryz.prog 81=true:=by kernel_rfl
theorem ok87:fnOK Tryz.prog 87=true:=by kernel_rfl
theorem ok93:fnOK Tryz.prog 93=true:=by kernel_rfl
theorem ok94:fnOK Tryz.prog 94=true:=by kernel_rfl
theorem ok97:fnOK Tryz.prog 97=true:=by kernel_rfl
theorem ok100:fnOK Tryz.prog 100=true:=by kernel_rfl
theorem ok101:fnOK Tryz.prog 101=true:=by kernel_rfl
theorem ok102:fnOK Tryz.prog 102=true:=by kernel_rfl
theorem ok103:fnOK Tryz.prog 103=true:=by kernel_rfl
theorem ok104:fnOK Tryz.prog 104=true:=by kernel_rfl
theorem ok105:fnOK Tryz.prog 105=true:=by kernel_rfl
theorem ok106:fnOK Tryz.prog 106=true:=by kernel_rfl
theorem ok109:fnOK Tryz.prog 109=true:=by kernel_rfl
theorem ok110:fnOK Tryz.prog 110=true:=by kernel_rfl
theorem ok111:fnOK Tryz.prog 111=true:=by kernel_rfl
theorem ok112:fnOK Tryz.prog 112=true:=by kernel_rfl
theorem ok113:fnOK Tryz.prog 113=true:=by kernel_rfl
theorem ok114:fnOK Tryz.prog 114=true:=by kernel_rfl
theorem ok115:fnOK Tryz.prog 115=true:=by kernel_rfl
theorem ok116:fnOK Tryz.prog 116=true:=by kernel_rfl
theorem ok117:fnOK Tryz.prog 117=true:=by kernel_rfl
theorem ok118:fnOK Tryz.prog 118=true:=by kernel_rfl
theorem ok119:fnOK Tryz.prog 119=true:=by kernel_rfl
theorem ok120:fnOK Tryz.prog 120=true:=by kernel_rfl
theorem ok121:fnOK Tryz.prog 121=true:=by kernel_rfl
theorem ok129:fnOK Tryz.prog 129=true:=by kernel_rfl
theorem ok131:fnOK Tryz.prog 131=true:=by kernel_rfl
theorem ok132:fnOK Tryz.prog 132=true:=by kernel_rfl
theorem ok133:fnOK Tryz.prog 133=true:=by kernel_rfl
theorem ok146:fnOK Tryz.prog 146=true:=by kernel_rfl
theorem ok147:fnOK Tryz.prog 147=true:=by kernel_rfl
theorem ok148:fnOK Tryz.prog 148=true:=by kernel_rfl
theorem ok160:fnOK Tryz.prog 160=true:=by kernel_rfl
theorem ok161:fnOK Tryz.prog 161=true:=by kernel_rfl
theorem ok162:fnOK Tryz.prog 162=true:=by kernel_rfl
theorem ok163:fnOK Tryz.prog 163=true:=by kernel_rfl
theorem ok164:fnOK Tryz.prog 164=true:=by kernel_rfl
theorem ok165:fnOK Tryz.prog 165=true:=by kernel_rfl
theorem ok166:fnOK Tryz.prog 166=true:=by kernel_rfl
theorem ok167:fnOK Tryz.prog 167=true:=by kernel_rfl
theorem ok168:fnOK Tryz.prog 168=true:=by kernel_rfl
theorem ok169:fnOK Tryz.prog 169=true:=by kernel_rfl
theorem ok170:fnOK Tryz.prog 170=true:=by kernel_rfl
theorem ok171:fnOK Tryz.prog 171=true:=by kernel_rfl
theorem ok172:fnOK Tryz.prog 172=true:=by kernel_rfl
theorem ok173:fnOK Tryz.prog 173=true:=by kernel_rfl
theorem ok174:fnOK Tryz.prog 174=true:=by kernel_rfl
theorem ok175:fnOK Tryz.prog 175=true:=by kernel_rfl
theorem ok180:fnOK Tryz.prog 180=true:=by kernel_rfl
theorem ok181:fnOK Tryz.prog 181=true:=by kernel_rfl
theorem ok182:fnOK Tryz.prog 182=true:=by kernel_rfl
theorem ok183:fnOK Tryz.prog 183=true:=by kernel_rfl
theorem ok189:fnOK Tryz.prog 189=true:=by kernel_rfl
theorem ok190:fnOK Tryz.prog 190=true:=by kernel_rfl
theorem ok191:fnOK Tryz.prog 191=true:=by kernel_rfl
theorem ok192:fnOK Tryz.prog 192=true:=by kernel_rfl
theorem ok193:fnOK Tryz.prog 193=true:=by kernel_rfl
theorem ok194:fnOK Tryz.prog 194=true:=by kernel_rfl
theorem ok195:fnOK Tryz.prog 195=true:=by kernel_rfl
theorem ok196:fnOK Tryz.prog 196=true:=by kernel_rfl
theorem ok197:fnOK Tryz.prog 197=true:=by kernel_rfl
theorem ok198:fnOK Tryz.prog 198=true:=by kernel_rfl
theorem ok199:fnOK Tryz.prog 199=true:=by kernel_rfl
theorem ok200:fnOK Tryz.prog 200=true:=by kernel_rfl
theorem ok201:fnOK Tryz.prog 201=true:=by kernel_rfl
theorem ok205:fnOK Tryz.prog 205=true:=by kernel_rfl
theorem ok207:fnOK Tryz.prog 207=true:=by kernel_rfl
theorem ok208:fnOK Tryz.prog 208=true:=by kernel_rfl
theorem ok209:fnOK Tryz.prog 209=true:=by kernel_rfl
theorem ok210:fnOK Tryz.prog 210=true:=by kernel_rfl
theorem ok211:fnOK Tryz.prog 211=true:=by kernel_rfl
theorem ok212:fnOK Tryz.prog 212=true:=by kernel_rfl
theorem ok213:fnOK Tryz.prog 213=true:=by kernel_rfl
theorem ok214:fnOK Tryz.prog 214=true:=by kernel_rfl
theorem ok217:fnOK Tryz.prog 217=true:=by kernel_rfl
theorem ok221:fnOK Tryz.prog 221=true:=by kernel_rfl
theorem ok222:fnOK Tryz.prog 222=true:=by kernel_rfl
theorem ok223:fnOK Tryz.prog 223=true:=by kernel_rfl
theorem ok224:fnOK Tryz.prog 224=true:=by kernel_rfl
theorem ok225:fnOK Tryz.prog 225=true:=by kernel_rfl
attribute [go_sem] ft0 ft1 ft2 ft3 ft4 ft5 ft6 ft7 ft8 ft9 ft10 ft11 ft12 ft13
 ft14 ft22 ft23 ft24 ft25 ft26 ft27
 ft28 ft32 ft33 ft34 ft36 ft41
 ft50 ft51 ft52 ft53
 ft60 ft61 ft69
 ft77
 ft87 ft88 ft89 ft90 ft91 ft94 ft95
 ft103 ft104 ft106 ft107
 ft113 ft114 ft117 ft118 ft119 ft120 ft121 ft122 ft123 ft124
 ft129 ft130 ft132 ft133 ft135 ft136
 ft142 ft146 ft153
 ft155 ft158
 ft205
 ft220
 ft234
 Tryz.f3 Tryz.f6 Tryz.f7 Tryz.f8 Tryz.f9 Tryz.f10 Tryz.f11 Tryz.f12 Tryz.f13 Tryz.f24
 Tryz.f29 Tryz.f30 Tryz.f31 Tryz.f32 Tryz.f33 Tryz.f34 Tryz.f35 Tryz.f36 Tryz.f37 Tryz.f38 Tryz.f39 Tryz.f40 Tryz.f41 Tryz.f42
 Tryz.f43 Tryz.f53 Tryz.f60 Tryz.f64 Tryz.f65 Tryz.f66 Tryz.f71 Tryz.f72 Tryz.f73 Tryz.f74 Tryz.f75 Tryz.f76 Tryz.f77 Tryz.f78
 Tryz.f79 Tryz.f81 Tryz.f87 Tryz.f93 Tryz.f94 Tryz.f97 Tryz.f100 Tryz.f101 Tryz.f102 Tryz.f103 Tryz.f104 Tryz.f105 Tryz.f106 Tryz.f109
 Tryz.f110 Tryz.f111 Tryz.f112 Tryz.f113 Tryz.f114 Tryz.f115 Tryz.f116 Tryz.f117 Tryz.f118 Tryz.f119 Tryz.f120 Tryz.f121 Tryz.f129 Tryz.f131
 Tryz.f132 Tryz.f133 Tryz.f146 Tryz.f147 Tryz.f148 Tryz.f160 Tryz.f161 Tryz.f162 Tryz.f163 Tryz.f164 Tryz.f165 Tryz.f166 Tryz.f167 Tryz.f168
 Tryz.f169 Tryz.f170 Tryz.f171 Tryz.f172 Tryz.f173 Tryz.f174 Tryz.f175 Tryz.f180 Tryz.f181 Tryz.f182 Tryz.f183 Tryz.f189 Tryz.f190 Tryz.f191
 Tryz.f192 Tryz.f193 Tryz.f194 Tryz.f195 Tryz.f196 Tryz.f197 Tryz.f198 Tryz.f199 Tryz.f200 Tryz.f201 Tryz.f205 Tryz.f207 Tryz.f208 Tryz.f209
 Tryz.f210 Tryz.f211 Tryz.f212 Tryz.f213 Tryz.f214 Tryz.f217 Tryz.f221 Tryz.f222 Tryz.f223 Tryz.f224 Tryz.f225
end Go.Proofs.YtmjkgjkkpaephaaGreat.CtF
