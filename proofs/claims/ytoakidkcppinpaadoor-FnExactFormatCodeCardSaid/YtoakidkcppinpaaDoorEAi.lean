/- From what a claim's frame tells to a contract's words, and back. -/
import Derived.WalkKit
import Derived.ProofKit
import Derived.SizedLaws
import Derived.Test.YtoakidkcppinpaaDoorEAh
set_option linter.unusedVariables false
set_option linter.unusedSimpArgs false
set_option linter.unusedSectionVars false
set_option maxHeartbeats 16000000
set_option maxRecDepth 100000
namespace Go.CT
variable [Yn]
open Go.RowKit
def ints (xs:List Int):D := .c (.isl 1 (xs.map fun n=>[.v (.int .i64 n)]))
def Fits (k:IntKind) (xs:List Int):Prop:=∀ n ∈ xs,InK k n
theorem fits_of_wf {k:IntKind} {n:Int} (h:(Lit.int k n).wf=true):InK k n:=by
  simp only [Lit.wf,Bool.and_eq_true,decide_eq_true_eq] at h
  obtain ⟨h1,h2⟩:=h
  cases k<;>simp [IntKind.min,IntKind.max,IntKind.signed,IntKind.bits] at h1 h2<;>simp only [InK]<;>omega
theorem DC.below {P : Program} {F : FuncId} {args : List D} {w : World} {vs : Array Value} (h : DC P F args [] (fun d h' => d = DB true ∧ h' = [])) (hvs : ∀ s, RDs (fun b => b < w.heap.size) w s vs args) (h0 : Yn.n = w.heap.size := by rfl) (h1 : ∀ b, w.heap[b]? = Yn.o b := by intro _; rfl) :
    Calls P F vs w fun e w'=>e = .returned (.bool true)∧Below w.heap.size w w':=by
  refine (h (fun b=>b<w.heap.size) w (fun _=>none) vs ⟨fun _ _=>rfl,fun k cs hk=>by simp [hpL] at hk,fun k k' b cs cs' hk=>by simp [hpL] at hk,fun b hb=>hb,⟨by omega,fun b ⟨k,cs,hk,_⟩=>by simp [hpL] at hk,fun b _=>h1 b⟩,fun b hb hn=>absurd hb (by omega)⟩ (hvs _)).mono fun e w' ⟨v,I',s',d,h',he,⟨hd,_⟩,hrd,_,hE,_⟩=>?_
  subst hd
  obtain ⟨rfl,_⟩:=rd_scalar hrd
  exact ⟨he,hE.os,hE.tape,hE.output,hE.size,fun k hk=>hE.same k hk fun ⟨j,cs,hj,_⟩=>by simp [hpL] at hj⟩
theorem RDs.one {I:Nat→Prop} {w:World} {s:Sg} {v:Value} {d:D} (h:RD I w s v d):RDs I w s #[v] [d] :=
  ⟨rfl, fun j hj _ => by have : j = 0 := by simpa using hj
                         subst this;exact h⟩
theorem RDs.two {I:Nat→Prop} {w:World} {s:Sg} {v v':Value} {d d':D} (h:RD I w s v d) (h':RD I w s v' d'):RDs I w s #[v,v'] [d,d'] :=
  ⟨rfl,fun j hj _=>by
    match j,hj with
    | 0,_=>exact h
    | 1,_=>exact h'⟩
end Go.CT
