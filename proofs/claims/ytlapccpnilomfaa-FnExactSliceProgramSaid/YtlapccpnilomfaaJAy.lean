/- Contracts of functions of the program, one behind the other, as plain data: what each call returns and which blocks it leaves. -/
import Derived.Test.YtlapccpnilomfaaJAx
import Derived.Test.YtlapccpnilomfaaJAw
import Derived.Test.YtlapccpnilomfaaJAv
set_option linter.unusedVariables false
set_option linter.unusedSimpArgs false
set_option linter.unusedSectionVars false
set_option maxHeartbeats 16000000
set_option maxRecDepth 100000
namespace Go.Proofs.Ytlapccpnilomfaa.CtD
open Go Go.CT CtF CtR
variable [Yn]
def TXB (t:TypeId):Prop:=t ∈ ([4,26]:List TypeId)
theorem celXB:Try.prog.cellsOf 4=1:=by kernel_rfl
theorem clXB:Cl Try.prog TXB:=⟨fun t ht=>by
 simp only [TXB,List.mem_cons,List.not_mem_nil,or_false] at ht
 rcases ht with rfl | rfl
 ·exact .inr (.inl Try.underlying4)
 ·exact .inr (.inr (.inl ⟨_,Try.underlying26,by simp [TXB],of_decide_eq_true (by kernel_rfl),of_decide_eq_true (by kernel_rfl)⟩))⟩
theorem sh_bool {ks:List C} (h:Sh Try.prog 4 ks):∃ b:Bool,ks=[BC b]∧True:=by
 cases h with
 | int hu hn=>rw [Try.underlying4] at hu;cases hu
 | bool hu=>exact ⟨_,rfl,trivial⟩
 | sl hu hm hx=>rw [Try.underlying4] at hu;cases hu
 | st hu hl hx=>rw [Try.underlying4] at hu;cases hu
theorem sh_bools {ks:List C} (h:Sh Try.prog 26 ks):∃ l:List Bool,ks=[boolsD l]∧l.length≤mx:=by
 obtain ⟨l,rfl,hl,_⟩:=h.rows_of (f:=fun b:Bool=>[BC b]) (Q:=fun _=>True) Try.underlying26 fun r hr=>sh_bool hr
 exact ⟨l,by rw [celXB];rfl,hl⟩
theorem rd_of_slice {I:Nat→Prop} {w:World} {s:Sg} {a:Option Addr} {n c:Nat} {k:C} (h:RCl I w (Value.slice a n c).cells.toList [k]):RD I w s (.slice a n c) (.c k) :=
 .c _ _ ((h.2 0 (.slice a n c) k (by simp [Value.cells]) rfl).mono (fun _ h=>h) (fun _ _=>rfl) (Shp.refl _) (Sg0.le _))
omit [Yn] in
theorem lawXS (p:Pg) (hp:PgB p) (ws:List Bool) (hw:ws.length≤mx):LW Try.prog 3 [.agg p.cells,.c (boolsD ws)]:=by
 letI:Yn:=⟨0,fun _=>none⟩
 by_cases h:szP p≤1048576∧ws.length≤1048576
 ·exact CtT.lawA p ws h.1 h.2
 ·exact lawXSBig p hp ws hw h
end Go.Proofs.Ytlapccpnilomfaa.CtD
