/- Contracts of functions of the program, one behind the other, as plain data: what each call returns and which blocks it leaves. -/
import Derived.Test.YtddanjifhdaebaaEFacts
import Derived.Test.YtddanjifhdaebaaEAw
import Derived.Test.YtddanjifhdaebaaTG1
import Derived.Test.YtddanjifhdaebaaEAl
import Derived.Test.YtddanjifhdaebaaEAm
import Derived.Test.YtddanjifhdaebaaEAn
import Derived.Test.YtddanjifhdaebaaEAo
import Derived.Test.YtddanjifhdaebaaEAp
import Derived.Test.YtddanjifhdaebaaEAq
import Derived.Test.YtddanjifhdaebaaEAk
set_option linter.unusedVariables false
set_option linter.unusedSimpArgs false
set_option linter.unusedSectionVars false
set_option maxHeartbeats 16000000
set_option maxRecDepth 100000
namespace Go.Proofs.Ytddanjifhdaebaa.CtD
open Go Go.CT CtF CtR
variable [Yn]
def st0 (w:Nat):List Nat:=(List.range w).map fun i=>2 ^ i
theorem st0_len (w:Nat):(st0 w).length=w:=by simp [st0]
theorem st0_succ {w i:Nat} (h:i<w):rowsC w ((st0 w).take (i+1))=rowsC w ((st0 w).take i)++[boolsD (bl w (2 ^ i))] :=
  rowsC_succ w (st0 w) i (2 ^ i) (by simp [st0,h])
theorem bl_one {w i:Nat} (h:i<w):(boolsC (bl w 0)).set i (.v (.bool true))=boolsC (bl w (2 ^ i)):=by
  rw [boolsC_set]
  congr 1
  refine bl_ext (by simp [bl_len]) fun j hj=>?_
  rw [List.getD_eq_getElem?_getD,List.getElem?_set]
  by_cases e:i=j
  · subst e;simp [bl_len,h]
  · rw [if_neg e,← bl_zero,List.getElem?_replicate,if_pos hj,Nat.testBit_two_pow];simp [e]
theorem startS {w : Nat} (p : Pg) (hw : p.vars.length + p.arrays.length = w) (hw14 : w ≤ 14) (w0 : 0 < w) : DC Try.prog 83 [.agg p.cells] []
    (fun r h=>r = .agg (p.cells++[rowsD w (startD w).sets,.msl 0 1 0 w,.msl 1 1 0 w])∧h=[some (boolsC (bl w 0)),some (boolsC (bl w 0))]):=by
  have hmx:=mx_eq
  have hce:=cellsS p (by omega) (by omega)
  rw [hw] at hce
  obtain ⟨vs,ar,bd⟩:=p
  have hw:vs.length+ar.length=w:=hw
  generalize hR:(fun (r:D) (h:List (Option (List C)))=>r = .agg _∧h=_)=R
  have hz:boolsC (List.replicate w false)=boolsC (bl w 0):=by rw [bl_zero]
  refine dcZ Try.func83 ?_
  simp only [go_sem]
  iterate 4 ((try (refine drvZ Try.func83 ?_;simp only [go_sem,boolsC_rep,bl_zero]));((with_reducible and_intros)<;>try exact sd);(try first | refine XK.p hce ok85 ?_ | refine XK.gp hce ok85 ?_))
  refine Go.loopQ (fun i : Nat => [(2, .c (.ptr 64 0)), (3, DI .i64 w), (4, .c (.ptr 704 0)), (5, DI .i64 i)])
    (fun i=>[(64,some [.v (.slice none 0 0),.v (.slice none 0 0),.v (.slice none 0 0),.v (.slice none 0 0),.v (.slice none 0 0),.v (.slice none 0 0)]),(448,some (boolsC (bl w 0))),(576,some (boolsC (bl w 0))),(704,some (Pg.cells ⟨vs,ar,bd⟩++[.msl 800 1 0 i,.msl 448 1 0 w,.msl 576 1 0 w])),(800,some (rowsC w ((st0 w).take i)))])
    4096 (fun i=>i≤w) (fun i=>w - i) ?_ 0 (fun j=>if j=800 then none else some j) [] _ (Nat.zero_le _) ?_
  · intro i hi again
    have hcl:=rowsC_len w ((st0 w).take i)
    rw [List.length_take,st0_len,Nat.min_eq_left hi] at hcl
    rcases Nat.lt_or_ge i w with hlt | hge
    · have hbo:=bl_one hlt
      have hsn:=st0_succ hlt
      have hbl:=bl_len w 0
      have hbc:=boolsC_len (bl w 0)
      rw [hbl] at hbc
      refine drvL Try.func83 ?_
      simp only [go_sem,hlt,boolsC_rep,bl_zero]
      iterate 3 ((try (refine drvZ Try.func83 ?_;simp only [go_sem,hlt,boolsC_rep,bl_zero,hbo,hcl,hbc]));((with_reducible and_intros)<;>try exact sd))
      refine again (i+1) (fun j=>if j=800 then some 4992 else some j) [4352] _ hlt (by omega) ?_
      rw [hsn]
      simp only [go_sem,TmOK,DM,DMs,CM,CMs,forall_eq,exists_eq_left,Mq,HpOK,LowOK]
      repeat' with_reducible apply And.intro
      all_goals first | exact CMs.kf (boolsC_kf _) | (simp;done) | exact CMs.app (CMs.kf (rowsC_kf _ _)) ⟨cm_bools (by simp) rfl,by simp [CMs]⟩ | skip
    · have hn:¬ i<w:=by omega
      obtain rfl:w=i:=by omega
      rw [List.take_of_length_le (by rw [st0_len];omega)]
      refine drvL Try.func83 ?_
      simp only [go_sem,hn]
      iterate 2 ((try (refine drvZ Try.func83 ?_;simp only [go_sem,hn]));((with_reducible and_intros)<;>try exact sd))
      refine RetOb.ofQ (fun j=>if j=0 then some 448 else if j=1 then some 576 else none) [800] (.agg (Pg.cells ⟨vs,ar,bd⟩++[rowsD w (startD w).sets,.msl 0 1 0 w,.msl 1 1 0 w])) [some (boolsC (bl w 0)),some (boolsC (bl w 0))] ?_ (by rw [← hR];exact ⟨rfl,rfl⟩) (by simp)
      simp only [enumL,DM,DMs,HpOK,LowOK,hOf,upd,hpL,Pg.cells,isI,I64,List.cons_append,List.nil_append,CMs]
      repeat' with_reducible apply And.intro
      all_goals first | exact cm_rows (by simp) rfl (st0_len w) | exact CM.kf rfl | exact CMs.kf (boolsC_kf _) | (simp [CM,upd];done) | (simp;exact CMs.kf (boolsC_kf _)) | skip
  · simp only [go_sem,TmOK,DM,DMs,CM,CMs,forall_eq,exists_eq_left,Mq,HpOK,LowOK]
    simp
    repeat' with_reducible apply And.intro
    all_goals first | exact CMs.kf (boolsC_kf _) | (simp [rowsC,CMs];done) | skip
theorem depP_eq (p:Pg) {w:Nat} (hw:p.vars.length+p.arrays.length=w):foldD p.vars.length 5 0 p.body (startD w)=depP p:=by rw [← hw];rfl
theorem traceDependsSO (p:Pg) {w:Nat} (hw:p.vars.length+p.arrays.length=w) (hw14:w≤14) (w0:0<w) (hown:DC Try.prog 81 [.agg p.cells] [] (fun r h=>r = .agg p.cells∧h=[])) (hsz:lsize 5 p.body≤1099511627776) (hok:progOK p=true):DC Try.prog 31 [.agg p.cells] [] (fun r h=>r = .c (.msl 0 1 0 w)∧h=[some (boolsC (bl w (depP p).tr))]):=by
  have hmx:=mx_eq
  have hv:=programValidS p (by omega) (by omega) hsz
  rw [hok] at hv
  have hst:=startS p hw hw14 w0
  have hbk:=blockD p hw hw14 w0 5 p.body (startD w) 0 (start_ok hw14) (Nat.two_pow_pos w) (body_of hok).1 (by have:=(body_of hok).2;omega)
  rw [depP_eq p hw] at hbk
  have hce:=cellsS p (by omega) (by omega)
  rw [hw] at hce
  generalize depP p=X at *
  obtain ⟨xs,xt,xr⟩:=X
  obtain ⟨vs,ar,bd⟩:=p
  generalize hR:(fun (r:D) (h:List (Option (List C)))=>r = .c (.msl 0 1 0 w)∧h=[some (boolsC (bl w xt))])=R
  simp only at hbk
  refine dcZ Try.func31 ?_
  simp only [go_sem]
  iterate 6 ((try (refine drvZ Try.func31 ?_;simp only [go_sem]));((with_reducible and_intros)<;>try exact sd);(try first | refine XK.p hown ok81 ?_ | refine XK.gp hown ok81 ?_ | refine XK.p hv ok82 ?_ | refine XK.gp hv ok82 ?_))
  refine XK.callG [] hst ok83 (fun i' x h=>by simp at h) (hbT ()) (fun d h' ⟨_,e⟩=>by subst e;simp) ?_
  rintro _ _ ⟨rfl,rfl⟩ _
  iterate 4 ((try (refine drvZ Try.func31 ?_;simp only [go_sem,boolsC_ren,rowsD,boolsC_rep,bl_zero]));((with_reducible and_intros)<;>try exact sd);(try first | refine XK.p hce ok85 ?_ | refine XK.gp hce ok85 ?_))
  refine XK.callG [576,577,1088] hbk ok84 (hhpG (by simp [HH,upd,hOf,boolsC_ren,startD])) (hbT ()) (fun d h' ⟨_,e⟩=>by subst e;simp) ?_ (fun _=>⟨by kernel_rfl,_,_,⟨rfl,rfl⟩,by simp⟩)
  rintro _ _ ⟨rfl,rfl⟩ _
  iterate 3 ((try (refine drvZ Try.func31 ?_;simp only [go_sem,boolsC_ren,rowsD]));((with_reducible and_intros)<;>try exact sd))
  rw [← hR]
  exact boolsKeep (k:=576) (by simp [upd]) (bl_len _ _)
theorem releaseDependsSO (p:Pg) {w:Nat} (hw:p.vars.length+p.arrays.length=w) (hw14:w≤14) (w0:0<w) (hown:DC Try.prog 81 [.agg p.cells] [] (fun r h=>r = .agg p.cells∧h=[])) (hsz:lsize 5 p.body≤1099511627776) (hok:progOK p=true):DC Try.prog 23 [.agg p.cells] [] (fun r h=>r = .c (.msl 0 1 0 w)∧h=[some (boolsC (bl w (depP p).re))]):=by
  have hmx:=mx_eq
  have hv:=programValidS p (by omega) (by omega) hsz
  rw [hok] at hv
  have hst:=startS p hw hw14 w0
  have hbk:=blockD p hw hw14 w0 5 p.body (startD w) 0 (start_ok hw14) (Nat.two_pow_pos w) (body_of hok).1 (by have:=(body_of hok).2;omega)
  rw [depP_eq p hw] at hbk
  have hce:=cellsS p (by omega) (by omega)
  rw [hw] at hce
  generalize depP p=X at *
  obtain ⟨xs,xt,xr⟩:=X
  obtain ⟨vs,ar,bd⟩:=p
  generalize hR:(fun (r:D) (h:List (Option (List C)))=>r = .c (.msl 0 1 0 w)∧h=[some (boolsC (bl w xr))])=R
  simp only at hbk
  refine dcZ Try.func23 ?_
  simp only [go_sem]
  iterate 6 ((try (refine drvZ Try.func23 ?_;simp only [go_sem]));((with_reducible and_intros)<;>try exact sd);(try first | refine XK.p hown ok81 ?_ | refine XK.gp hown ok81 ?_ | refine XK.p hv ok82 ?_ | refine XK.gp hv ok82 ?_))
  refine XK.callG [] hst ok83 (fun i' x h=>by simp at h) (hbT ()) (fun d h' ⟨_,e⟩=>by subst e;simp) ?_
  rintro _ _ ⟨rfl,rfl⟩ _
  iterate 4 ((try (refine drvZ Try.func23 ?_;simp only [go_sem,boolsC_ren,rowsD,boolsC_rep,bl_zero]));((with_reducible and_intros)<;>try exact sd);(try first | refine XK.p hce ok85 ?_ | refine XK.gp hce ok85 ?_))
  refine XK.callG [576,577,1088] hbk ok84 (hhpG (by simp [HH,upd,hOf,boolsC_ren,startD])) (hbT ()) (fun d h' ⟨_,e⟩=>by subst e;simp) ?_ (fun _=>⟨by kernel_rfl,_,_,⟨rfl,rfl⟩,by simp⟩)
  rintro _ _ ⟨rfl,rfl⟩ _
  iterate 3 ((try (refine drvZ Try.func23 ?_;simp only [go_sem,boolsC_ren,rowsD]));((with_reducible and_intros)<;>try exact sd))
  rw [← hR]
  exact boolsKeep (k:=577) (by simp [upd]) (bl_len _ _)
theorem dependsOnSG (p:Pg) {w:Nat} (hw:p.vars.length+p.arrays.length=w) (hw14:w≤14) (w0:0<w) (hown:DC Try.prog 81 [.agg p.cells] [] (fun r h=>r = .agg p.cells∧h=[])) (hsz:lsize 5 p.body≤1099511627776) (hok:progOK p=true):DC Try.prog 33 [.agg p.cells] [] (fun r h=>r = .c (rowsD w (depP p).sets)∧h=[]):=by
  have hmx:=mx_eq
  have hv:=programValidS p (by omega) (by omega) hsz
  rw [hok] at hv
  have hst:=startS p hw hw14 w0
  have hbk:=blockD p hw hw14 w0 5 p.body (startD w) 0 (start_ok hw14) (Nat.two_pow_pos w) (body_of hok).1 (by have:=(body_of hok).2;omega)
  rw [depP_eq p hw] at hbk
  have hce:=cellsS p (by omega) (by omega)
  rw [hw] at hce
  generalize depP p=X at *
  obtain ⟨xs,xt,xr⟩:=X
  obtain ⟨vs,ar,bd⟩:=p
  generalize hR:(fun (r:D) (h:List (Option (List C)))=>r = .c _∧h=[])=R
  simp only at hbk
  refine dcZ Try.func33 ?_
  simp only [go_sem]
  iterate 6 ((try (refine drvZ Try.func33 ?_;simp only [go_sem]));((with_reducible and_intros)<;>try exact sd);(try first | refine XK.p hown ok81 ?_ | refine XK.gp hown ok81 ?_ | refine XK.p hv ok82 ?_ | refine XK.gp hv ok82 ?_))
  refine XK.callG [] hst ok83 (fun i' x h=>by simp at h) (hbT ()) (fun d h' ⟨_,e⟩=>by subst e;simp) ?_
  rintro _ _ ⟨rfl,rfl⟩ _
  iterate 4 ((try (refine drvZ Try.func33 ?_;simp only [go_sem,boolsC_ren,rowsD,boolsC_rep,bl_zero]));((with_reducible and_intros)<;>try exact sd);(try first | refine XK.p hce ok85 ?_ | refine XK.gp hce ok85 ?_))
  refine XK.callG [576,577,1088] hbk ok84 (hhpG (by simp [HH,upd,hOf,boolsC_ren,startD])) (hbT ()) (fun d h' ⟨_,e⟩=>by subst e;simp) ?_ (fun _=>⟨by kernel_rfl,_,_,⟨rfl,rfl⟩,by simp⟩)
  rintro _ _ ⟨rfl,rfl⟩ _
  iterate 3 ((try (refine drvZ Try.func33 ?_;simp only [go_sem,boolsC_ren,rowsD]));((with_reducible and_intros)<;>try exact sd))
  exact RetOb.plain (d := .c (rowsD w xs)) (by rw [← hR];exact ⟨rfl,rfl⟩) rfl
theorem traceDependsS0G (p:Pg) (hown:DC Try.prog 81 [.agg p.cells] [] (fun r h=>r = .agg p.cells∧h=[])) (hnv:p.vars.length≤2000000) (hna:p.arrays.length≤2000000) (hsz:lsize 5 p.body≤1099511627776) (hok:progOK p=false):DC Try.prog 31 [.agg p.cells] [] (fun r h=>r = .c (.isl 1 [])∧h=[]):=by
  have hmx:=mx_eq
  have hv:=programValidS p (by omega) (by omega) hsz
  rw [hok] at hv
  obtain ⟨vs,ar,bd⟩:=p
  generalize hR:(fun (r:D) (h:List (Option (List C)))=>r = .c (.isl 1 [])∧h=[])=R
  refine dcZ Try.func31 ?_
  simp only [go_sem]
  iterate 6 ((try (refine drvZ Try.func31 ?_;simp only [go_sem]));((with_reducible and_intros)<;>try exact sd);(try first | refine XK.p hown ok81 ?_ | refine XK.gp hown ok81 ?_ | refine XK.p hv ok82 ?_ | refine XK.gp hv ok82 ?_))
  refine RetOb.frozen (R:=R) (sz:=1) (xs:=[]) (by rw [← hR];exact ⟨rfl,rfl⟩) ?_ rfl (by simp) (by simp)
  simp [upd]
theorem releaseDependsS0G (p:Pg) (hown:DC Try.prog 81 [.agg p.cells] [] (fun r h=>r = .agg p.cells∧h=[])) (hnv:p.vars.length≤2000000) (hna:p.arrays.length≤2000000) (hsz:lsize 5 p.body≤1099511627776) (hok:progOK p=false):DC Try.prog 23 [.agg p.cells] [] (fun r h=>r = .c (.isl 1 [])∧h=[]):=by
  have hmx:=mx_eq
  have hv:=programValidS p (by omega) (by omega) hsz
  rw [hok] at hv
  obtain ⟨vs,ar,bd⟩:=p
  generalize hR:(fun (r:D) (h:List (Option (List C)))=>r = .c (.isl 1 [])∧h=[])=R
  refine dcZ Try.func23 ?_
  simp only [go_sem]
  iterate 6 ((try (refine drvZ Try.func23 ?_;simp only [go_sem]));((with_reducible and_intros)<;>try exact sd);(try first | refine XK.p hown ok81 ?_ | refine XK.gp hown ok81 ?_ | refine XK.p hv ok82 ?_ | refine XK.gp hv ok82 ?_))
  refine RetOb.frozen (R:=R) (sz:=1) (xs:=[]) (by rw [← hR];exact ⟨rfl,rfl⟩) ?_ rfl (by simp) (by simp)
  simp [upd]
theorem dependsOnS0G (p:Pg) (hown:DC Try.prog 81 [.agg p.cells] [] (fun r h=>r = .agg p.cells∧h=[])) (hnv:p.vars.length≤2000000) (hna:p.arrays.length≤2000000) (hsz:lsize 5 p.body≤1099511627776) (hok:progOK p=false):DC Try.prog 33 [.agg p.cells] [] (fun r h=>r = .c (.isl 1 [])∧h=[]):=by
  have hmx:=mx_eq
  have hv:=programValidS p (by omega) (by omega) hsz
  rw [hok] at hv
  obtain ⟨vs,ar,bd⟩:=p
  generalize hR:(fun (r:D) (h:List (Option (List C)))=>r = .c (.isl 1 [])∧h=[])=R
  refine dcZ Try.func33 ?_
  simp only [go_sem]
  iterate 6 ((try (refine drvZ Try.func33 ?_;simp only [go_sem]));((with_reducible and_intros)<;>try exact sd);(try first | refine XK.p hown ok81 ?_ | refine XK.gp hown ok81 ?_ | refine XK.p hv ok82 ?_ | refine XK.gp hv ok82 ?_))
  refine RetOb.frozen (R:=R) (sz:=1) (xs:=[]) (by rw [← hR];exact ⟨rfl,rfl⟩) ?_ rfl (by simp) (by simp)
  simp [upd]
theorem traceDependsI0 (p:Pg) (hl:p.vars.length≤mx) (hl2:p.arrays.length≤mx) (hok:progOK p=false):DC Try.prog 32 [.agg p.cells] [] (fun r h=>r = .c (.isl 1 [])∧h=[]):=by
  have hmx:=mx_eq
  have hv:=programValidI p hl hl2
  rw [hok] at hv
  obtain ⟨vs,ar,bd⟩:=p
  generalize hR:(fun (r:D) (h:List (Option (List C)))=>r = .c (.isl 1 [])∧h=[])=R
  refine dcZ Try.func32 ?_
  simp only [go_sem]
  iterate 4 ((try (refine drvZ Try.func32 ?_;simp only [go_sem]));((with_reducible and_intros)<;>try exact sd);(try first | refine XK.p hv ok87 ?_ | refine XK.gp hv ok87 ?_))
  refine RetOb.ofQ (fun j=>none) [] (.c (.isl 1 [])) [] ?_ (by rw [← hR];exact ⟨rfl,rfl⟩) (by simp)
  simp [enumL,DM,CM,HpOK,LowOK]
theorem releaseDependsI0 (p:Pg) (hl:p.vars.length≤mx) (hl2:p.arrays.length≤mx) (hok:progOK p=false):DC Try.prog 25 [.agg p.cells] [] (fun r h=>r = .c (.isl 1 [])∧h=[]):=by
  have hmx:=mx_eq
  have hv:=programValidI p hl hl2
  rw [hok] at hv
  obtain ⟨vs,ar,bd⟩:=p
  generalize hR:(fun (r:D) (h:List (Option (List C)))=>r = .c (.isl 1 [])∧h=[])=R
  refine dcZ Try.func25 ?_
  simp only [go_sem]
  iterate 4 ((try (refine drvZ Try.func25 ?_;simp only [go_sem]));((with_reducible and_intros)<;>try exact sd);(try first | refine XK.p hv ok87 ?_ | refine XK.gp hv ok87 ?_))
  refine RetOb.ofQ (fun j=>none) [] (.c (.isl 1 [])) [] ?_ (by rw [← hR];exact ⟨rfl,rfl⟩) (by simp)
  simp [enumL,DM,CM,HpOK,LowOK]
end Go.Proofs.Ytddanjifhdaebaa.CtD
namespace Go.Proofs.Ytddanjifhdaebaa.CtR
variable [Go.CT.Yn]
open Go Go.CT CtF
def hiC (β:Nat) (vs ar:List Int) (i:Nat):Bool:=if i<vs.length then (nth vs (i:Nat)).toNat.testBit β else (nth ar ((i - vs.length:Nat):Int)).toNat.testBit β
end Go.Proofs.Ytddanjifhdaebaa.CtR
namespace Go.Proofs.Ytddanjifhdaebaa.CtL
variable [Go.CT.Yn]
open Go Go.CT CtF CtR
def e0:Ex := .mk 0 0 []
open Go Go.CT CtF CtR
open Go Go.CT CtF CtR
open Go Go.CT CtF CtR
def Ext (p:Pg) (vs:List Int):Prop:=∃ w,vs=p.vars++w
theorem Ext.more {p:Pg} {vs ws:List Int} (h:Ext p vs) (h2:∃ w,ws=vs++w):Ext p ws:=by
  obtain ⟨a,rfl⟩:=h
  obtain ⟨b,rfl⟩:=h2
  exact ⟨a++b,by simp⟩
theorem Ext.le {p:Pg} {vs:List Int} (h:Ext p vs):p.vars.length≤vs.length:=by
  obtain ⟨a,rfl⟩:=h
  simp
open Go Go.CT CtF CtR
open Go Go.CT CtF CtR
def Sub (a b:Nat):Prop:=∀ β,a.testBit β=true→b.testBit β=true
theorem Sub.refl (a:Nat):Sub a a:=fun _ h=>h
theorem Sub.trans {a b c:Nat} (h:Sub a b) (g:Sub b c):Sub a c:=fun β x=>g β (h β x)
theorem Sub.zero (a:Nat):Sub 0 a:=fun β h=>by simp at h
theorem Sub.or {a b c:Nat}:Sub (a ||| b) c ↔ Sub a c∧Sub b c:=by
  constructor
  · exact fun h=>⟨fun β x=>h β (by simp [x]),fun β x=>h β (by simp [x])⟩
  · rintro ⟨h1,h2⟩ β x
    rw [Nat.testBit_or,Bool.or_eq_true] at x
    exact x.elim (h1 β) (h2 β)
theorem Sub.left (a b:Nat):Sub a (a ||| b):=fun β h=>by simp [h]
theorem Sub.right (a b:Nat):Sub b (a ||| b):=fun β h=>by simp [h]
theorem Sub.l {a b c:Nat} (h:Sub a b):Sub a (b ||| c):=h.trans (Sub.left _ _)
theorem Sub.r {a b c:Nat} (h:Sub a c):Sub a (b ||| c):=h.trans (Sub.right _ _)
open Go Go.CT CtF CtR
open Go Go.CT CtF CtR
open Go Go.CT CtF CtR
open Go Go.CT CtF CtR
end Go.Proofs.Ytddanjifhdaebaa.CtL
namespace Go.Proofs.Ytddanjifhdaebaa.CtD
open Go Go.CT CtF CtR
variable [Yn]
theorem growD (n:Nat) (hn:n≤1000):DC Try.prog 157 [.c (.v (.slice none 0 0)),DI .i64 n] [] (fun r h=>r = .c (.msl 0 1 0 0)∧h=[some []]):=fun I w s vs H hv=>by
  obtain ⟨hsz,hall⟩:=hv
  simp only [List.length_cons,List.length_nil] at hsz
  have h0:=hall 0 (by omega) (by simp)
  have h1:=hall 1 (by omega) (by simp)
  have e0:vs[0]'(by omega) = .slice none 0 0:=(rd_scalar h0).1
  have e1:vs[1]'(by omega) = .int .i64 n:=(rd_scalar h1).1
  have hvs:vs=#[.slice none 0 0,.int .i64 (n:Int)]:=by
    apply Array.ext
    · simp [hsz]
    · intro i g1 g2
      match i,g1,g2 with
      | 0,_,_=>simpa using e0
      | 1,_,_=>simpa using e1
      | i+2,g1,_=>omega
  subst hvs
  have hup:hpL [some []]=upd (hpL []) 0 (some (some [])):=by
    funext k
    match k with
    | 0=>rfl
    | k+1=>simp [hpL,upd]
  rcases Nat.eq_zero_or_pos n with rfl | hpos
  · refine (CtG.grow_nil0 w).mono ?_
    rintro e w' ⟨rfl,rfl⟩
    have hk:∀ k,hpL [some []] k ≠ none→k=0:=fun k h=>by
      match k with
      | 0=>rfl
      | k+1=>exact absurd rfl h
    have hno:∀ k b,upd s 0 (some none) k=some (some b)→k ≠ 0:=fun k b h e=>by subst e;rw [upd_same] at h;cases h
    refine ⟨_,I,upd s 0 (some none),_,[some []],rfl,⟨rfl,rfl⟩,.c _ _ (.msl0 _ _ _ _ (upd_same _ _ _)),⟨fun k h=>?_,fun k cs h=>?_,fun k k' b cs cs' h1 h2 h3 h4=>?_,H.imm,⟨H.yng.1,fun b ⟨k,cs,h1,h2⟩=>absurd (hk k (by rw [h1];simp)) (hno k b h2)⟩,H.wri⟩,
      ⟨rfl,rfl,rfl,Nat.le_refl _,fun _ _ _=>rfl,Shp.refl _,fun k hk=>by simp at hk,fun _ h=>h,fun _ h => .inl h,fun b ⟨k,cs,h1,h2⟩=>absurd (hk k (by rw [h1];simp)) (hno k b h2)⟩,by simp⟩
    · have:k ≠ 0:=by rintro rfl;simp [hpL] at h
      rw [upd_ne _ _ this];exact H.top k (by simp [hpL])
    · obtain rfl:=hk k (by rw [h];simp)
      simp [hpL] at h
      exact .inl ⟨upd_same _ _ _,h⟩
    · exact absurd (hk k (by rw [h1];simp)) (hno k b h3)
  · refine (CtG.grow_nil n hpos hn w).mono ?_
    rintro e w' ⟨rfl,rfl⟩
    have hG:=grownCap_ge w n 0 3
    have hmx:=mx_eq
    obtain ⟨s',hle,H2,E2,R2⟩:=grow_sound (m:=0) H none (by simp) 0 rfl (Nat.le_refl _) 3 [] [] ⟨rfl,fun j h=>by simp at h⟩ (Builtin.zeroCells #[.int .i64 0] n++Builtin.zeroCells #[.int .i64 0] (grownCap w n 0 3 - n)) 1 0 (grownCap w n 0 3) ⟨Nat.zero_le _,Nat.zero_le _⟩ (by simp [size_zeroCells];omega)
    refine ⟨_,I,s',_,_,rfl,⟨rfl,rfl⟩,R2,?_,?_,by simp⟩
    · rw [hup];exact H2
    · rw [hup];exact E2
theorem CMs_rows2 {hT hS:Hp} {r:Nat→Option Nat} {fz:List Nat} (L:List (List Int)):CMs hT r hS fz (L.map isI) (L.map isI)=True:=eq_true (CMs.kf (fun c hc=>by obtain ⟨a,_,rfl⟩:=List.mem_map.1 hc;rfl))
theorem concatD (L:List (List Int)) (hL:L.length≤1000) (hz:L.flatten.length≤1000):DC Try.prog 102 [.c (.msl 0 1 0 L.length)] [some (L.map isI)] (fun r h=>r = .c (isI L.flatten)∧h=[some (L.map isI)]):=by
  have hmx:=mx_eq
  have hTs:∀ i x,L[i]? = some x→(L.take (i+1)).flatten=(L.take i).flatten++x:=fun i x hx=>by rw [List.take_add_one,hx];simp
  have hTl:∀ i,(L.take i).flatten.length≤L.flatten.length:=fun i=>by
    have:L.flatten=(L.take i).flatten++(L.drop i).flatten:=by rw [← List.flatten_append,List.take_append_drop]
    rw [this,List.length_append];omega
  generalize hR:(fun (r:D) (h:List (Option (List C)))=>r = .c (isI L.flatten)∧h=[some (L.map isI)])=R
  have hgr:=growD L.flatten.length hz
  refine dcZ Try.func102 ?_
  simp only [go_sem]
  iterate 2 ((try (refine drvZ Try.func102 ?_;simp only [go_sem]));((with_reducible and_intros)<;>try exact sd))
  refine Go.loopQ (fun i : Nat => [(0, .c (.msl 0 1 0 L.length)), (3, DI .i64 (L.take i).flatten.length), (9, .c (.msl 0 1 0 L.length)), (10, DI .i64 L.length), (11, DI .i64 i)]) (fun i => [(0, some (L.map isI))])
    4096 (fun i=>i≤L.length) (fun i=>L.length - i) ?_ 0 some [] _ (Nat.zero_le _) ?_
  · intro i hi again
    have hli:=hTl i
    rcases Nat.lt_or_ge i L.length with hlt | hge
    · obtain ⟨x,hx⟩:∃ x,L[i]? = some x:=⟨L[i],by simp [hlt]⟩
      have hs:=hTs i x hx
      have hl2:=hTl (i+1)
      rw [hs,List.length_append] at hl2
      generalize (L.take i).flatten=T at *
      have hneg:(((T.length:Int)+(x.length:Int))<0)=False:=eq_false (by omega)
      refine drvL Try.func102 ?_
      simp only [go_sem,hx,hlt]
      iterate 4 ((try (refine drvZ Try.func102 ?_;simp only [go_sem,hx,hlt,isI,hneg]));((with_reducible and_intros)<;>try exact sd))
      refine again (i+1) some [] _ hlt (by omega) ?_
      simp only [go_sem,TmOK,DM,DMs,CM,CMs,forall_eq,exists_eq_left,Mq,HpOK,LowOK,hs,List.length_append]
      simp [CMs_rows2]
    · have hn:¬ i<L.length:=by omega
      obtain rfl:i=L.length:=by omega
      rw [List.take_length]
      refine drvL Try.func102 ?_
      simp only [go_sem,hn]
      iterate 2 ((try (refine drvZ Try.func102 ?_;simp only [go_sem,hn]));((with_reducible and_intros)<;>try exact sd))
      refine XK.callG [] hgr ok157 (fun i' x h=>by simp at h) (hbT ()) (fun d h' ⟨_,e⟩=>by subst e;simp) ?_
      rintro _ _ ⟨rfl,rfl⟩ _
      iterate 3 ((try (refine drvZ Try.func102 ?_;simp only [go_sem,renCs]));((with_reducible and_intros)<;>try exact sd))
      refine Go.loopQ (fun i : Nat => [(6, .c (.msl 5 1 0 (L.take i).flatten.length)), (25, .c (.msl 0 1 0 L.length)), (26, DI .i64 L.length), (27, DI .i64 i)]) (fun i => [(0, some (L.map isI)), (5, some ((L.take i).flatten.map I64))])
        8192 (fun i=>i≤L.length) (fun i=>L.length - i) ?_ 0 (fun j=>if j=5 then some 4224 else some j) [] _ (Nat.zero_le _) ?_
      · intro i hi again
        have hli:=hTl i
        rcases Nat.lt_or_ge i L.length with hlt | hge
        · obtain ⟨x,hx⟩:∃ x,L[i]? = some x:=⟨L[i],by simp [hlt]⟩
          have hs:=hTs i x hx
          have hl2:=hTl (i+1)
          rw [hs,List.length_append] at hl2
          generalize (L.take i).flatten=T at *
          refine drvL Try.func102 ?_
          simp only [go_sem,hx,hlt]
          iterate 4 ((try (refine drvZ Try.func102 ?_;simp only [go_sem,hx,hlt,isI,flat_I']));((with_reducible and_intros)<;>try exact sd))
          refine again (i+1) (fun j=>if j=5 then some 8576 else some j) [] _ hlt (by omega) ?_
          rw [hs]
          simp only [go_sem,TmOK,DM,DMs,CM,CMs,forall_eq,exists_eq_left,Mq,HpOK,LowOK,List.length_append]
          simp [-List.map_append,CMs_I,CMs_rows2]
          rw [List.map_append];exact CMs.app (CMs.kf (kf_I T)) (CMs.kf (kf_I x))
        · have hn:¬ i<L.length:=by omega
          obtain rfl:i=L.length:=by omega
          rw [List.take_length]
          clear hTs hTl hz hgr again
          generalize L.flatten=W at *
          refine drvL Try.func102 ?_
          simp only [go_sem,hn]
          iterate 2 ((try (refine drvZ Try.func102 ?_;simp only [go_sem,hn]));((with_reducible and_intros)<;>try exact sd))
          refine RetOb.ofQ (fun j=>some j) [5] (.c (isI W)) [some (L.map isI)] ?_ (by rw [← hR];exact ⟨rfl,rfl⟩) (by simp)
          simp [enumL,hOf,DM,CM,CMs,HpOK,LowOK,upd,CMs_rows2]
          simp [isI,CM,flat_I,kf,upd]
      · simp only [go_sem,TmOK,DM,DMs,CM,CMs,forall_eq,exists_eq_left,Mq,HpOK,LowOK]
        simp [CMs_rows2,CMs]
  · simp only [go_sem,TmOK,DM,DMs,CM,CMs,forall_eq,exists_eq_left,Mq,HpOK,LowOK]
    simp [CMs_rows2]
end Go.Proofs.Ytddanjifhdaebaa.CtD
namespace Go.Proofs.Ytddanjifhdaebaa.CtR
variable [Go.CT.Yn]
open Go Go.CT CtF
def smk (f : Nat → Bool) : Nat → Nat
  | 0=>0
  | n+1=>smk f n ||| (if f n then 2 ^ n else 0)
theorem smk_bit (f : Nat → Bool) : ∀ n k, (smk f n).testBit k = (decide (k < n) && f k)
  | 0,k=>by simp [smk]
  | n+1,k=>by
    rw [smk,Nat.testBit_or,smk_bit f n k]
    rcases Nat.lt_trichotomy k n with h | h | h
    · cases hf:f n<;>simp [Nat.testBit_two_pow,show n ≠ k by omega,h,show k<n+1 by omega]
    · subst h;cases hf:f k<;>simp [Nat.testBit_two_pow]
    · cases hf:f n<;>simp [Nat.testBit_two_pow,show n ≠ k by omega,show ¬ k<n by omega,show ¬ k<n+1 by omega]
theorem smk_lt (f:Nat→Bool) (n:Nat):smk f n<2 ^ n:=Nat.lt_pow_two_of_testBit _ fun i hi=>by
  rw [smk_bit];simp;intro h;omega
def soB (f : Nat → Bool) (N : Nat) : Nat → Bool
  | 0=>false
  | n+1=>soB f N n || (N.testBit n && f n)
theorem soB_iff (f : Nat → Bool) (N : Nat) : ∀ n, soB f N n = true ↔ ∃ k, k < n ∧ N.testBit k = true ∧ f k = true
  | 0=>by simp [soB]
  | n+1=>by
    rw [soB,Bool.or_eq_true,soB_iff f N n,Bool.and_eq_true]
    constructor
    · rintro (⟨k,h,h1⟩ | h)
      · exact ⟨k,by omega,h1⟩
      · exact ⟨n,by omega,h⟩
    · rintro ⟨k,h,h1⟩
      by_cases e:k=n
      · subst e;exact .inr h1
      · exact .inl ⟨k,by omega,h1⟩
theorem soB_and (f:Nat→Bool) (N w:Nat):decide (((N &&& smk f w:Nat):Int) ≠ 0)=soB f N w:=by
  rw [Bool.eq_iff_iff,decide_eq_true_iff,soB_iff]
  constructor
  · intro h
    refine Classical.byContradiction fun hc=>h ?_
    have:N &&& smk f w=0:=Nat.eq_of_testBit_eq fun k=>by
      rw [Nat.testBit_and,smk_bit,Nat.zero_testBit]
      by_cases h1:k<w
      · cases h2:N.testBit k
        · simp
        · cases h3:f k
          · simp
          · exact absurd ⟨k,h1,h2,h3⟩ hc
      · simp [h1]
    rw [this];rfl
  · rintro ⟨k,h1,h2,h3⟩ h
    have h0:N &&& smk f w=0:=by omega
    have:=congrArg (Nat.testBit · k) h0
    simp [Nat.testBit_and,smk_bit,h1,h2,h3] at this
end Go.Proofs.Ytddanjifhdaebaa.CtR
namespace Go.Proofs.Ytddanjifhdaebaa.CtD
open Go Go.CT CtF CtR
variable [Yn]
def soL (p:Pg) (w:Nat):List Bool:=(depP p).sets.map fun N=>soB (hiC 0 p.vars p.arrays) N w
theorem soL_len {p:Pg} {w:Nat} (hw:p.vars.length+p.arrays.length=w) (hw14:w≤14):(soL p w).length=w:=by
  simp [soL,(depP_ok p hw hw14).len]
theorem hi_cell {vs ar:List Int} (h:lab3 vs) (h2:lab3 ar) {i:Nat} (hi:i<vs.length+ar.length):∃ T:Nat,T≤3∧(vs++ar)[i]? = some (T:Int)∧hiC 0 vs ar i=secL T:=by
  by_cases hv:i<vs.length
  · have hx:vs[i]? = some vs[i]:=by simp [hv]
    have hl:=h vs[i] (List.getElem_mem hv)
    refine ⟨vs[i].toNat,by omega,by rw [List.getElem?_append_left hv,hx];congr 1;omega,?_⟩
    unfold hiC secL
    rw [if_pos hv]
    unfold nth
    simp [List.getD_eq_getElem?_getD,hx]
  · have hj:i - vs.length<ar.length:=by omega
    have hx:ar[i - vs.length]? = some ar[i - vs.length]:=by simp [hj]
    have hl:=h2 ar[i - vs.length] (List.getElem_mem hj)
    refine ⟨ar[i - vs.length].toNat,by omega,by rw [List.getElem?_append_right (by omega),hx];congr 1;omega,?_⟩
    unfold hiC secL
    rw [if_neg hv]
    unfold nth
    simp [List.getD_eq_getElem?_getD,hx]
theorem secretOutputsIO (p : Pg) {w : Nat} (hw : p.vars.length + p.arrays.length = w) (hw14 : w ≤ 14) (w0 : 0 < w) (hok : progOK p = true) : DC Try.prog 43 [.agg p.cells] []
    (fun r h=>r = .c (.msl 0 1 0 w)∧h=[some (boolsC (soL p w))]):=by
  have hmx:=mx_eq
  have hv:=programValidI p (by omega) (by omega)
  rw [hok] at hv
  have han:=analysedI p hw hw14 w0 (body_of hok).1 (by have:=(body_of hok).2;omega)
  have hX:=depP_ok p hw hw14
  have hcc:=concatD [p.vars,p.arrays] (by simp) (by simp;omega)
  have hlab:=labs_of hok
  have hand:=soB_and (hiC 0 p.vars p.arrays)
  have hcell:=fun i (h:i<p.vars.length+p.arrays.length)=>hi_cell hlab.1 hlab.2 h
  have hso:soL p w=(depP p).sets.map fun N=>soB (hiC 0 p.vars p.arrays) N w:=rfl
  generalize soL p w=so at *
  generalize depP p=X at *
  obtain ⟨xs,xt,xr⟩:=X
  obtain ⟨vs,ar,bd⟩:=p
  have hxl:xs.length=w:=hX.len
  have hrow:∀ a ∈ xs,a<2 ^ w:=hX.row
  have hnl:=nI_len xs
  simp only at hand hcell hso hw
  generalize hiC 0 vs ar=f at *
  have hsl:so.length=w:=by rw [hso,List.length_map,hxl]
  simp only [List.flatten_cons,List.flatten_nil,List.append_nil,List.map_cons,List.map_nil,List.length_cons,List.length_nil] at hcc
  generalize hvl:vs++ar=vl at *
  have hvll:vl.length=w:=by rw [← hvl,List.length_append];exact hw
  generalize hR:(fun (r:D) (h:List (Option (List C)))=>r = .c (.msl 0 1 0 w)∧h=[some (boolsC so)])=R
  refine dcZ Try.func43 ?_
  simp only [go_sem]
  iterate 6 ((try (refine drvZ Try.func43 ?_;simp only [go_sem]));((with_reducible and_intros)<;>try exact sd);(try first | refine XK.p hv ok87 ?_ | refine XK.gp hv ok87 ?_))
  refine XK.callG [640] hcc ok102 (hhpG (by simp [HH,upd,hpL,renCs,renC,isI])) (hbT ()) (fun d h' ⟨_,e⟩=>by subst e;simp) ?_ (fun _=>⟨by kernel_rfl,_,_,⟨rfl,rfl⟩,by simp⟩)
  rintro _ _ ⟨rfl,rfl⟩ _
  iterate 2 ((try (refine drvZ Try.func43 ?_;simp only [go_sem,renCs,renC]));((with_reducible and_intros)<;>try exact sd))
  refine Go.loopQ (fun i:Nat=>[(1,.c (.ptr 0 0)),(3,DI .i64 (smk f i)),(19,.c (isI vl)),(20,DI .i64 w),(21,DI .i64 i)]) (fun _=>[(0,some (Pg.cells ⟨vs,ar,bd⟩))]) 4096 (fun i=>i≤w) (fun i=>w - i) ?_ 0 some [] _ (Nat.zero_le _) ?_
  · intro i hi again
    rcases Nat.lt_or_ge i w with hlt | hge
    · obtain ⟨T,hT,hxv,hhi⟩:=hcell i (by omega)
      have hls:=labelSecretI T hT
      have hac:smk f (i+1)=smk f i ||| (if f i then 2 ^ i else 0):=rfl
      have hal:smk f i<16384:=Nat.lt_of_lt_of_le (smk_lt f i) (Nat.pow_le_pow_right (by decide) (show i≤14 by omega))
      have hp14:2 ^ i<16384:=Nat.lt_of_lt_of_le (Nat.pow_lt_pow_right (by decide) (show i<14 by omega)) (by decide)
      have hpp:(0:Int)<2 ^ i:=Int.pow_pos (by decide)
      have hbits:((IntKind.i64).bits:Int)=64:=rfl
      have hcast:(2:Int) ^ i=((2 ^ i:Nat):Int):=by rw [Int.natCast_pow];rfl
      have hp14i:(2:Int) ^ i<16384:=by rw [hcast];omega
      have h1:((2:Int) ^ i).toNat=2 ^ i:=by rw [hcast];rfl
      rw [hhi] at hac
      generalize secL T=b at *
      generalize smk f i=ac at *
      have htr:=truth b
      refine drvL Try.func43 ?_
      simp only [go_sem,hlt,hvll,hxv]
      iterate 3 ((try (refine drvZ Try.func43 ?_;simp only [go_sem,hlt,hvll,hxv]));((with_reducible and_intros)<;>try exact sd);(try first | refine XK.p hls ok77 ?_ | refine XK.gp hls ok77 ?_))
      refine XK.plain htr ok96 ?_ (hbT ())
      cases b with
      | true =>
        simp only [if_true] at hac
        iterate 3 ((try (refine drvZ Try.func43 ?_;simp only [go_sem,hbits,if_true,Int.one_mul,h1]));((with_reducible and_intros)<;>try exact sd))
        refine again (i+1) some [] _ hlt (by omega) ?_
        simp only [go_sem,TmOK,DM,DMs,CM,CMs,forall_eq,exists_eq_left,Mq,HpOK,LowOK,hac]
        try simp
      | false =>
        simp only [Bool.false_eq_true,if_false,Nat.or_zero] at hac
        iterate 3 ((try (refine drvZ Try.func43 ?_;simp only [go_sem,hbits,Bool.false_eq_true,if_false,Int.zero_mul,Nat.or_zero]));((with_reducible and_intros)<;>try exact sd))
        refine again (i+1) some [] _ hlt (by omega) ?_
        simp only [go_sem,TmOK,DM,DMs,CM,CMs,forall_eq,exists_eq_left,Mq,HpOK,LowOK,hac]
        try simp
    · have hn:¬ i<w:=by omega
      obtain rfl:i=w:=by omega
      clear again
      have hsm:smk f i<16384:=Nat.lt_of_lt_of_le (smk_lt f i) (Nat.pow_le_pow_right (by decide) hw14)
      have hand:=fun N=>hand N i
      generalize smk f i=M at *
      refine drvL Try.func43 ?_
      simp only [go_sem,hn]
      ((try (refine drvZ Try.func43 ?_;simp only [go_sem,hn]));((with_reducible and_intros)<;>try exact sd))
      refine XK.callG [] han ok88 (fun i' x h=>by simp at h) (hbT ()) (fun d h' ⟨_,e⟩=>by subst e;simp) ?_
      rintro _ _ ⟨rfl,rfl⟩ _
      iterate 5 ((try (refine drvZ Try.func43 ?_;simp only [go_sem,renCs_I,dpB_ren]));((with_reducible and_intros)<;>try exact sd))
      refine Go.loopQ (fun j : Nat => [(1, .c (.ptr 0 0)), (3, DI .i64 M), (8, .c (.msl 64 1 0 j)), (39, .c (.msl 4225 1 0 i)), (40, DI .i64 i), (41, DI .i64 j)])
        (fun j=>[(0,some (Pg.cells ⟨vs,ar,bd⟩)),(64,some (boolsC (so.take j))),(4225,some ((nI xs).map I64))]) 8192 (fun j=>j≤i) (fun j=>i - j) ?_ 0 (fun j=>if j=64 then none else some j) [] _ (Nat.zero_le _) ?_
      · intro j hj again
        have hcl:=boolsC_len (so.take j)
        rw [List.length_take,hsl,Nat.min_eq_left hj] at hcl
        rcases Nat.lt_or_ge j i with hlt | hge
        · have hx:(nI xs)[j]? = some ((dat xs j:Nat):Int):=nI_at (by omega)
          have hsx:so[j]? = some (soB f (dat xs j) i):=by rw [hso,List.getElem?_map,dat_get (by omega)];rfl
          have hsn:boolsC (so.take (j+1))=boolsC (so.take j)++[.v (.bool (soB f (dat xs j) i))]:=by rw [List.take_add_one,hsx];simp [boolsC,BC]
          have hq:=dat_lt hrow j
          have hq2:dat xs j<16384:=Nat.lt_of_lt_of_le hq (Nat.pow_le_pow_right (by decide) hw14)
          have hand:(((dat xs j &&& M:Nat):Int) != 0)=soB f (dat xs j) i:=by rw [← hand (dat xs j),Bool.eq_iff_iff];simp
          generalize soB f (dat xs j) i=g at *
          have hz:=andZ_small (dat xs j) M (by omega)
          generalize dat xs j=q at *
          rw [← hz] at hand
          refine drvL Try.func43 ?_
          simp only [go_sem,hlt,hx]
          iterate 3 ((try (refine drvZ Try.func43 ?_;simp only [go_sem,hlt,hx,hcl]));((with_reducible and_intros)<;>try exact sd))
          refine again (j+1) (fun t=>if t=64 then some 8832 else some t) [] _ hlt (by omega) ?_
          simp only [go_sem,TmOK,DM,DMs,CM,CMs,forall_eq,exists_eq_left,Mq,HpOK,LowOK,hsn,hand,dpB_eq]
          simp
          refine ⟨?_,CMs.kf (kf_I _)⟩
          rw [← hsn]
          exact CMs.kf (boolsC_kf _)
        · have hn:¬ j<i:=by omega
          obtain rfl:j=i:=by omega
          refine drvL Try.func43 ?_
          simp only [go_sem,hn]
          iterate 2 ((try (refine drvZ Try.func43 ?_;simp only [go_sem,hn]));((with_reducible and_intros)<;>try exact sd))
          rw [List.take_of_length_le (by omega)]
          rw [← hR]
          exact boolsKeep (by simp [hOf,upd]) hsl
      · simp only [go_sem,TmOK,DM,DMs,CM,CMs,forall_eq,exists_eq_left,Mq,HpOK,LowOK,dpB_eq]
        simp [boolsC]
        exact CMs.kf (kf_I _)
  · simp only [go_sem,TmOK,DM,DMs,CM,CMs,forall_eq,exists_eq_left,Mq,HpOK,LowOK,smk,hvll]
    try simp
theorem secretOutputsI0 (p:Pg) (hl:p.vars.length≤mx) (hl2:p.arrays.length≤mx) (hok:progOK p=false):DC Try.prog 43 [.agg p.cells] [] (fun r h=>r = .c (.isl 1 [])∧h=[]):=by
  have hmx:=mx_eq
  have hv:=programValidI p hl hl2
  rw [hok] at hv
  obtain ⟨vs,ar,bd⟩:=p
  generalize hR:(fun (r:D) (h:List (Option (List C)))=>r = .c (.isl 1 [])∧h=[])=R
  refine dcZ Try.func43 ?_
  simp only [go_sem]
  iterate 4 ((try (refine drvZ Try.func43 ?_;simp only [go_sem]));((with_reducible and_intros)<;>try exact sd);(try first | refine XK.p hv ok87 ?_ | refine XK.gp hv ok87 ?_))
  refine RetOb.ofQ (fun j=>none) [] (.c (.isl 1 [])) [] ?_ (by rw [← hR];exact ⟨rfl,rfl⟩) (by simp)
  simp [enumL,DM,CM,HpOK,LowOK]
theorem secretOutputsSO (p : Pg) {w : Nat} (hw : p.vars.length + p.arrays.length = w) (hw14 : w ≤ 14) (w0 : 0 < w) (hown : DC Try.prog 81 [.agg p.cells] [] (fun r h => r = .agg p.cells ∧ h = [])) (hsz : lsize 5 p.body ≤ 1099511627776) (hok : progOK p = true) : DC Try.prog 42 [.agg p.cells] []
    (fun r h=>r = .c (.msl 0 1 0 w)∧h=[some (boolsC (soL p w))]):=by
  have hmx:=mx_eq
  have hds:=dependsOnSG p hw hw14 w0 hown hsz hok
  have hX:=depP_ok p hw hw14
  have hlab:=labs_of hok
  have hcell:=fun i (h:i<p.vars.length+p.arrays.length)=>hi_cell hlab.1 hlab.2 h
  have hso:soL p w=(depP p).sets.map fun N=>soB (hiC 0 p.vars p.arrays) N w:=rfl
  generalize soL p w=so at *
  generalize depP p=X at *
  obtain ⟨xs,xt,xr⟩:=X
  obtain ⟨vs,ar,bd⟩:=p
  have hxl:xs.length=w:=hX.len
  simp only at hcell hso hw hds
  generalize hiC 0 vs ar=f at *
  have hsl:so.length=w:=by rw [hso,List.length_map,hxl]
  generalize hR:(fun (r:D) (h:List (Option (List C)))=>r = .c (.msl 0 1 0 w)∧h=[some (boolsC so)])=R
  refine dcZ Try.func42 ?_
  simp only [go_sem]
  iterate 6 ((try (refine drvZ Try.func42 ?_;simp only [go_sem]));((with_reducible and_intros)<;>try exact sd);(try first | refine XK.p hds ok33 ?_ | refine XK.gp hds ok33 ?_))
  refine Go.loopQ (fun i:Nat=>[(1,.c (.ptr 0 0)),(3,.c (.msl 128 1 0 i)),(4,.c (rowsD w xs)),(5,DI .i64 i)]) (fun i=>[(0,some (Pg.cells ⟨vs,ar,bd⟩)),(128,some (boolsC (so.take i)))]) 4096 (fun i=>i≤w) (fun i=>w - i) ?_ 0 some [] _ (Nat.zero_le _) ?_
  · intro i hi again
    have hcl:=boolsC_len (so.take i)
    rw [List.length_take,hsl,Nat.min_eq_left hi] at hcl
    rcases Nat.lt_or_ge i w with hlt | hge
    · have hry:(xs.map fun N=>[boolsD (bl w N)])[i]? = some [.isl 1 ((bl w (dat xs i)).map fun b=>[BC b])]:=rows_at (by omega)
      have hyl:=bl_len w (dat xs i)
      have hsx:so[i]? = some (soB f (dat xs i) w):=by rw [hso,List.getElem?_map,dat_get (by omega)];rfl
      have hsn:boolsC (so.take (i+1))=boolsC (so.take i)++[.v (.bool (soB f (dat xs i) w))]:=by rw [List.take_add_one,hsx];simp [boolsC,BC]
      have hbt:∀ k,k<w→(bl w (dat xs i))[k]? = some ((dat xs i).testBit k):=fun k hk=>by simp [bl,hk]
      generalize dat xs i=q at *
      refine drvL Try.func42 ?_
      simp only [go_sem,rowsD,hxl,hlt]
      ((try (refine drvZ Try.func42 ?_;simp only [go_sem,rowsD,hxl,hlt]));((with_reducible and_intros)<;>try exact sd))
      refine Go.loopQ (fun k:Nat=>[(1,.c (.ptr 0 0)),(3,.c (.msl 128 1 0 i)),(4,.c (rowsD w xs)),(5,DI .i64 i),(6,DB (soB f q k)),(7,DI .i64 k)]) (fun k=>[(0,some (Pg.cells ⟨vs,ar,bd⟩)),(128,some (boolsC (so.take i)))]) 8192 (fun k=>k≤w) (fun k=>w - k) ?_ 0 some [] _ (Nat.zero_le _) ?_
      · intro k hk again2
        rcases Nat.lt_or_ge k w with hkl | hkge
        · obtain ⟨T,hT,hxv,hhi⟩:=hcell k (by omega)
          have hls:=labelSecretS T hT
          have hac:soB f q (k+1)=(soB f q k || (q.testBit k && f k)):=rfl
          have hbt:=hbt k hkl
          rw [hhi] at hac
          generalize secL T=s at *
          generalize soB f q k=a at *
          generalize q.testBit k=b1 at *
          by_cases hv:k<vs.length
          · rw [List.getElem?_append_left hv] at hxv
            cases a<;>cases b1
            all_goals
              simp only [Bool.true_or,Bool.false_or,Bool.true_and,Bool.false_and] at hac
              refine drvL Try.func42 ?_
              simp only [go_sem,rowsD,hxl,hkl,hlt,hry,hyl,hv]
              iterate 8 ((try (refine drvZ Try.func42 ?_;simp only [go_sem,rowsD,hxl,hkl,hlt,hry,hyl,hv,hxv,hbt]));((with_reducible and_intros)<;>try exact sd);(try first | refine XK.p hls ok101 ?_ | refine XK.gp hls ok101 ?_ | refine XK.gs (DB false) ?_))
              refine again2 (k+1) some [] _ hkl (by omega) ?_
              simp only [go_sem,TmOK,DM,DMs,CM,CMs,forall_eq,exists_eq_left,Mq,HpOK,LowOK,rowsD,hac]
              try simp
              try exact CMs.kf (boolsC_kf _)
          · rw [List.getElem?_append_right (by omega)] at hxv
            have hix:((k:Int) - (vs.length:Int))=((k - vs.length:Nat):Int):=by omega
            have hka:k - vs.length<ar.length:=by omega
            cases a<;>cases b1
            all_goals
              simp only [Bool.true_or,Bool.false_or,Bool.true_and,Bool.false_and] at hac
              refine drvL Try.func42 ?_
              simp only [go_sem,rowsD,hxl,hkl,hlt,hry,hyl,hv]
              iterate 8 ((try (refine drvZ Try.func42 ?_;simp only [go_sem,rowsD,hxl,hkl,hlt,hry,hyl,hv,hxv,hbt,hix,hka]));((with_reducible and_intros)<;>try exact sd);(try first | refine XK.p hls ok101 ?_ | refine XK.gp hls ok101 ?_ | refine XK.gs (DB false) ?_))
              refine again2 (k+1) some [] _ hkl (by omega) ?_
              simp only [go_sem,TmOK,DM,DMs,CM,CMs,forall_eq,exists_eq_left,Mq,HpOK,LowOK,rowsD,hac]
              try simp
              try exact CMs.kf (boolsC_kf _)
        · have hkn:¬ k<w:=by omega
          obtain rfl:w=k:=by omega
          refine drvL Try.func42 ?_
          simp only [go_sem,rowsD,hxl,hkn,hlt,hry,hyl]
          iterate 4 ((try (refine drvZ Try.func42 ?_;simp only [go_sem,rowsD,hxl,hkn,hlt,hry,hyl,hcl]));((with_reducible and_intros)<;>try exact sd))
          refine again (i+1) (fun t=>if t=128 then some 8832 else some t) [] _ hlt (by omega) ?_
          simp only [go_sem,TmOK,DM,DMs,CM,CMs,forall_eq,exists_eq_left,Mq,HpOK,LowOK,rowsD,hsn]
          try simp
          try (rw [← hsn];exact CMs.kf (boolsC_kf _))
      · simp only [go_sem,TmOK,DM,DMs,CM,CMs,forall_eq,exists_eq_left,Mq,HpOK,LowOK,rowsD,soB]
        try simp
        try exact CMs.kf (boolsC_kf _)
    · have hn:¬ i<w:=by omega
      obtain rfl:w=i:=by omega
      refine drvL Try.func42 ?_
      simp only [go_sem,rowsD,hxl,hn]
      iterate 3 ((try (refine drvZ Try.func42 ?_;simp only [go_sem,rowsD,hxl,hn]));((with_reducible and_intros)<;>try exact sd))
      rw [List.take_of_length_le (by omega)]
      rw [← hR]
      exact boolsKeep (by simp [hOf,upd]) hsl
  · simp only [go_sem,TmOK,DM,DMs,CM,CMs,forall_eq,exists_eq_left,Mq,HpOK,LowOK,rowsD]
    try simp [boolsC,CMs]
theorem secretOutputsS0G (p:Pg) (hown:DC Try.prog 81 [.agg p.cells] [] (fun r h=>r = .agg p.cells∧h=[])) (hsz:lsize 5 p.body≤1099511627776) (hnv:p.vars.length≤2000000) (hna:p.arrays.length≤2000000) (hok:progOK p=false):DC Try.prog 42 [.agg p.cells] [] (fun r h=>r = .c (.isl 1 [])∧h=[]):=by
  have hmx:=mx_eq
  have hds:=dependsOnS0G p hown hnv hna hsz hok
  obtain ⟨vs,ar,bd⟩:=p
  generalize hR:(fun (r:D) (h:List (Option (List C)))=>r = .c (.isl 1 [])∧h=[])=R
  refine dcZ Try.func42 ?_
  simp only [go_sem]
  iterate 6 ((try (refine drvZ Try.func42 ?_;simp only [go_sem,Int.natCast_zero]));((with_reducible and_intros)<;>try exact sd);(try first | refine XK.p hds ok33 ?_ | refine XK.gp hds ok33 ?_))
  refine Go.loopQ (fun _:Nat=>[(1,.c (.ptr 0 0)),(3,.c (.msl 128 1 0 0)),(4,.c (.isl 1 [])),(5,DI .i64 0)]) (fun _=>[(0,some (Pg.cells ⟨vs,ar,bd⟩)),(128,some [])]) 4096 (fun _=>True) (fun _=>0) ?_ 0 some [] _ trivial ?_
  · intro _ _ again
    refine drvL Try.func42 ?_
    simp only [go_sem,Int.natCast_zero]
    iterate 3 ((try (refine drvZ Try.func42 ?_;simp only [go_sem,Int.natCast_zero]));((with_reducible and_intros)<;>try exact sd))
    refine RetOb.frozen (R:=R) (sz:=1) (xs:=[]) (by rw [← hR];exact ⟨rfl,rfl⟩) ?_ rfl (by simp) (by simp)
    simp [upd]
  · simp only [go_sem,TmOK,DM,DMs,CM,CMs,forall_eq,exists_eq_left,Mq,HpOK,LowOK]
    try simp
end Go.Proofs.Ytddanjifhdaebaa.CtD
namespace Go.Proofs.Ytddanjifhdaebaa.CtL
variable [Go.CT.Yn]
open Go Go.CT CtF CtR
open Go Go.CT CtF CtR
structure In where
  op:Int
  a:Int
  b:Int
  c:Int
  d:Int
def halt:In:=⟨13,0,0,0,0⟩
def stp (X:List Ev):Nat:=X.countP fun e=>e.kind == 5
open Go Go.CT CtF CtR
open Go Go.CT CtF CtR
open Go Go.CT CtF CtR
def kindsOf (op:Int):List Nat :=
  if op=1 then [1,2,0,0] else if op=2 then [1,3,0,0] else if op=3 then [3,1,0,0] else if op=4 then [1,4,1,0] else if op=5 then [4,1,1,0]
  else if op=6 then [1,5,1,1] else if op=7 then [1,1,1,1] else if op=8 then [6,0,0,0] else if op=9 then [1,6,0,0] else if op=10 then [1,6,0,0]
  else if op=11 then [1,0,0,0] else [0,0,0,0]
end Go.Proofs.Ytddanjifhdaebaa.CtL
namespace Go.Proofs.Ytddanjifhdaebaa.CtD
open Go Go.CT CtF CtR
variable [Yn]
open CtL (In)
open CtL (In)
open CtL (In)
open CtL (In)
open CtL (In halt)
open CtL (In kindsOf)
def ltr (k:Nat):UInt8:=if k=0 then 45 else if k=1 then 114 else if k=2 then 110 else if k=3 then 118 else if k=4 then 97 else if k=5 then 111 else 105
def shp (op:Int):ByteArray:=⟨#[ltr ((kindsOf op).getD 0 0),ltr ((kindsOf op).getD 1 0),ltr ((kindsOf op).getD 2 0),ltr ((kindsOf op).getD 3 0)]⟩
open CtL (In kindsOf halt)
open CtL (In)
open CtL (In)
end Go.Proofs.Ytddanjifhdaebaa.CtD
