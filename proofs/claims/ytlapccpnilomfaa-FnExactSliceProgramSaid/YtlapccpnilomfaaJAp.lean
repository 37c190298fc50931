/- Contracts of functions of the program, one behind the other, as plain data: what each call returns and which blocks it leaves. -/
import Derived.Test.YtlapccpnilomfaaJFacts
set_option linter.unusedVariables false
set_option linter.unusedSimpArgs false
set_option linter.unusedSectionVars false
set_option maxHeartbeats 16000000
set_option maxRecDepth 100000
namespace Go.Proofs.Ytlapccpnilomfaa.CtR
open Go Go.CT CtF
variable [Yn]
def arity (k:Int):Int:=if k=1∨k=2 then 0 else if k=3 then 1 else if 4≤k∧k≤10 then 2 else if k=11 then 3 else -1
theorem l2Arity (k:Int):DC Try.prog 75 [DI .i64 k] [] (fun d h=>d=DI .i64 (arity k)∧h=[]):=by
 refine dc_of_go Try.func75 rfl (by simp) ?_
 refine drv_sound (n:=100) (rs:=_) Try.func75 mo rfl none _ _ ?_
 simp only [go_sem]
 repeat' (first | with_reducible apply And.intro | with_reducible intro _)
 all_goals first | omega | skip
 all_goals refine RetOb.plain (d:=DI .i64 _) ⟨?_,rfl⟩ rfl
 all_goals (unfold arity;simp only [DI];congr 3;repeat' split)<;>omega
theorem truth (b:Bool):DC Try.prog 25 [DB b] [] (fun d h=>d=DI .i64 (if b then 1 else 0)∧h=[]):=by
 refine dc_of_go Try.func25 rfl (by simp) ?_
 refine drv_sound (n:=100) (rs:=_) Try.func25 mo rfl none _ _ ?_
 simp only [go_sem]
 repeat' (first | with_reducible apply And.intro | with_reducible intro _)
 all_goals refine RetOb.plain (d:=DI .i64 _) ⟨?_,rfl⟩ rfl
 all_goals simp_all [DI]
theorem within (n lo hi:Int):DC Try.prog 54 [DI .i64 n,DI .i64 lo,DI .i64 hi] [] (fun d h=>d=DB (decide (lo≤n) && decide (n≤hi))∧h=[]):=by
 refine dc_of_go Try.func54 rfl (by simp) ?_
 refine drv_sound (n:=100) (rs:=_) Try.func54 mo rfl none _ _ ?_
 simp only [go_sem,Pg.cells,Ex.cells,isI,I64]
 repeat' (first | with_reducible apply And.intro | with_reducible intro _)
 all_goals first | omega | skip
 all_goals refine RetOb.plain (d:=DB _) ⟨?_,rfl⟩ rfl
 all_goals simp [DB]
theorem labelValidS (n:Int):DC Try.prog 51 [DI .i64 n] [] (fun d h=>d=DB (decide (0≤n) && decide (n≤3))∧h=[]):=by
 refine dc_of_go Try.func51 rfl (by simp) ?_
 refine drv_sound (n:=100) (rs:=_) Try.func51 mo rfl none _ _ ?_
 simp only [go_sem,Pg.cells,Ex.cells,isI,I64]
 repeat' (first | with_reducible apply And.intro | with_reducible intro _)
 all_goals first | omega | skip
 all_goals refine RetOb.plain (d:=DB _) ⟨?_,rfl⟩ rfl
 all_goals simp [DB]
def limit (p:Pg) (k:Int):Int:=if k=1 then 256 else if k=2 then p.vars.length else if k=3 then p.arrays.length else 1
def atom (e:Ex):Bool:=e.kind == 1 || e.kind == 2
theorem l2Limit (p:Pg) (k:Int):DC Try.prog 76 [.agg p.cells,DI .i64 k] [] (fun d h=>d=DI .i64 (limit p k)∧h=[]):=by
 refine dc_of_go Try.func76 rfl (by simp) ?_
 refine drv_sound (n:=100) (rs:=_) Try.func76 mo rfl none _ _ ?_
 simp only [go_sem,Pg.cells,Ex.cells,isI,I64]
 repeat' (first | with_reducible apply And.intro | with_reducible intro _)
 all_goals first | omega | skip
 all_goals refine RetOb.plain (d:=DI .i64 _) ⟨?_,rfl⟩ rfl
 all_goals (unfold limit;simp_all [DI])
theorem l2Atom (e:Ex):DC Try.prog 61 [.agg e.cells] [] (fun d h=>d=DB (atom e)∧h=[]):=by
 refine dc_of_go Try.func61 rfl (by simp) ?_
 refine drv_sound (n:=100) (rs:=_) Try.func61 mo rfl none _ _ ?_
 obtain ⟨k,v,ks⟩:=e
 simp only [go_sem,Pg.cells,Ex.cells,isI,I64]
 repeat' (first | with_reducible apply And.intro | with_reducible intro _)
 all_goals first | omega | skip
 all_goals refine RetOb.plain (d:=DB _) ⟨?_,rfl⟩ rfl
 all_goals simp [DB,atom,Ex.kind]
theorem labelValidI (n:Int):DC Try.prog 65 [DI .i64 n] [] (fun d h=>d=DB (decide (0≤n) && decide (n≤3))∧h=[]):=by
 refine dc_of_go Try.func65 rfl (by simp) ?_
 refine drv_sound (n:=100) (rs:=_) Try.func65 mo rfl none _ _ ?_
 simp only [go_sem]
 refine XK.plain (within n 0 3) ok54 ?_
 refine drv_sound (n:=100) (rs:=_) Try.func65 mo rfl (some _) _ _ ?_
 simp only [go_sem]
 exact RetOb.plain (d:=DB _) ⟨rfl,rfl⟩ rfl
theorem areLabels1 (n:Int):DC Try.prog 64 [DI .i64 n] [] (fun d h=>d=DB (!(decide (0≤n) && decide (n≤3)))∧h=[]):=by
 refine dc_of_go Try.func64 rfl (by simp) ?_
 refine drv_sound (n:=100) (rs:=_) Try.func64 mo rfl none _ _ ?_
 simp only [go_sem]
 refine XK.plain (labelValidI n) ok65 ?_
 refine drv_sound (n:=100) (rs:=_) Try.func64 mo rfl (some _) _ _ ?_
 simp only [go_sem]
 exact RetOb.plain (d:=DB _) ⟨rfl,rfl⟩ rfl
def none0 (e:Ex):Bool:=e.kind == 0 && e.value == 0 && e.kids.isEmpty
theorem l2None (e:Ex):DC Try.prog 70 [.agg e.cells] [] (fun d h=>d=DB (none0 e)∧h=[]):=by
 refine dc_of_go Try.func70 rfl (by simp) ?_
 refine drv_sound (n:=100) (rs:=_) Try.func70 mo rfl none _ _ ?_
 obtain ⟨k,v,ks⟩:=e
 simp only [go_sem,Pg.cells,Ex.cells,isI,I64]
 repeat' (first | with_reducible apply And.intro | with_reducible intro _)
 all_goals first | kernel_rfl | omega | skip
 all_goals refine RetOb.plain (d:=DB _) ⟨?_,rfl⟩ rfl
 all_goals (cases ks<;>simp [DB,none0,Ex.kind,Ex.value,Ex.kids,Ex.cellsL]<;>omega)
theorem isNone (e:Ex):DC Try.prog 68 [.agg e.cells] [] (fun d h=>d=DB (none0 e)∧h=[]):=by
 refine dc_of_go Try.func68 rfl (by simp) ?_
 refine drv_sound (n:=100) (rs:=_) Try.func68 mo rfl none _ _ ?_
 obtain ⟨k,v,ks⟩:=e
 simp only [go_sem,Pg.cells,Ex.cells,isI,I64]
 repeat' (first | with_reducible apply And.intro | with_reducible intro _)
 all_goals first | kernel_rfl | omega | skip
 all_goals refine RetOb.plain (d:=DB _) ⟨?_,rfl⟩ rfl
 all_goals (cases ks<;>simp [DB,none0,Ex.kind,Ex.value,Ex.kids,Ex.cellsL]<;>omega)
theorem isPlain (e:Ex):DC Try.prog 67 [.agg e.cells] [] (fun d h=>d=DB (atom e)∧h=[]):=by
 refine dc_of_go Try.func67 rfl (by simp) ?_
 refine drv_sound (n:=100) (rs:=_) Try.func67 mo rfl none _ _ ?_
 obtain ⟨k,v,ks⟩:=e
 simp only [go_sem,Pg.cells,Ex.cells,isI,I64]
 repeat' (first | with_reducible apply And.intro | with_reducible intro _)
 all_goals first | kernel_rfl | omega | skip
 all_goals refine RetOb.plain (d:=DB _) ⟨?_,rfl⟩ rfl
 all_goals simp [DB,atom,Ex.kind]
theorem operandsI (k:Int):DC Try.prog 77 [DI .i64 k] [] (fun d h=>d=DI .i64 (arity k)∧h=[]):=by
 refine dc_of_go Try.func77 rfl (by simp) ?_
 refine drv_sound (n:=100) (rs:=_) Try.func77 mo rfl none _ _ ?_
 simp only [go_sem]
 refine ⟨fun h=>?_,fun h=>⟨fun h3=>?_,fun h3=>?_⟩⟩
 ·refine RetOb.plain (d:=DI .i64 _) ⟨?_,rfl⟩ rfl
  unfold arity;simp only [DI];congr 3;repeat' split
  all_goals omega
 ·refine RetOb.plain (d:=DI .i64 _) ⟨?_,rfl⟩ rfl
  unfold arity;simp only [DI];congr 3;repeat' split
  all_goals omega
 ·refine XK.plain (within k 4 10) ok54 ?_
  refine drv_sound (n:=100) (rs:=_) Try.func77 mo rfl (some _) _ _ ?_
  simp only [go_sem]
  repeat' (first | with_reducible apply And.intro | with_reducible intro _)
  all_goals refine RetOb.plain (d:=DI .i64 _) ⟨?_,rfl⟩ rfl
  all_goals (unfold arity;simp only [DI];congr 3;repeat' split)<;>simp_all<;>omega
def idxF (q : Int → Bool) : List Int → Int → Int
 | [],_ => -1
 | x :: r,i=>if q x then i else idxF q r (i+1)
theorem indexFunc (g : Nat) (q : Int → Bool) (xs : List Int) (hl : xs.length ≤ mx) (hok : fnOK Try.prog g = true) (hg : ∀ n ∈ xs, DC Try.prog g [DI .i64 n] [] (fun d h => d = DB (q n) ∧ h = [])) :
 DC Try.prog 73 [ints xs,.c (.clo g [])] [] (fun d h=>d=DI .i64 (idxF q xs 0)∧h=[]):=by
 have hmx:=mx_eq
 refine dc_of_go Try.func73 rfl (by simp) ?_
 refine drv_sound (n:=100) (rs:=_) Try.func73 mo rfl none _ _ ?_
 simp only [go_sem,ints]
 refine Go.loopL (fun i:Nat=>[(0,ints xs),(1,.c (.clo g [])),(7,DI .i64 xs.length),(8,DI .i64 i)]) (fun _=>[]) 1024 (fun i=>i≤xs.length∧idxF q (xs.drop i) i=idxF q xs 0) (fun i=>xs.length - i) ?_ 0 some [] _ ⟨Nat.zero_le _,rfl⟩ ?_
 ·intro i hi again
  refine drv_sound (n:=100) (rs:=_) Try.func73 mo rfl none _ _ ?_
  rcases Nat.lt_or_ge i xs.length with hlt | hge
  ·obtain ⟨x,hx⟩:∃ x,xs[i]? = some x:=⟨xs[i],by simp [hlt]⟩
   have hmem:x ∈ xs:=List.mem_of_getElem? hx
   have hdrop:xs.drop i=x :: xs.drop (i+1):=by
    obtain ⟨_,e⟩:=List.getElem?_eq_some_iff.1 hx
    rw [List.drop_eq_getElem_cons hlt,e]
   have hI:=hi.2
   rw [hdrop] at hI
   simp only [go_sem,ints,hx]
   refine ⟨fun _=>?_,fun h=>by omega⟩
   refine XK.plain (hg x hmem) hok ?_
   refine drv_sound (n:=100) (rs:=_) Try.func73 mo rfl (some _) _ _ ?_
   simp only [go_sem,ints]
   refine ⟨fun hq=>?_,fun hq=>⟨by simp only [InK];omega,?_⟩⟩
   ·refine RetOb.plain (d:=DI .i64 _) ⟨?_,rfl⟩ rfl
    rw [← hI];simp [idxF,hq,DI]
   ·refine again (i+1) some [] _ ⟨by omega,?_⟩ (by omega) (Mt.slots ?_)
    ·rw [← hI];simp [idxF,hq]
    ·simp only [go_sem,TmOK,DM,DMs,CM,CMs,forall_eq,exists_eq_left,ints]
  ·simp only [go_sem,ints]
   refine ⟨fun h=>by omega,fun _=>?_⟩
   refine RetOb.plain (d:=DI .i64 _) ⟨?_,rfl⟩ rfl
   rw [← hi.2,List.drop_of_length_le hge];rfl
 ·refine Mt.slots ?_
  simp only [go_sem,TmOK,DM,DMs,CM,CMs,forall_eq,exists_eq_left,ints]
theorem idxF_any (q : Int → Bool) : ∀ (xs : List Int) (i : Int), 0 ≤ i → decide (0 ≤ idxF q xs i) = xs.any q
 | [],i,_=>by simp [idxF]
 | x :: r,i,h=>by
  unfold idxF
  by_cases hq:q x=true
  ·simp [hq,h]
  ·simp only [hq,Bool.false_eq_true,if_false,List.any_cons,Bool.not_eq_true] at *
   rw [idxF_any q r (i+1) (by omega)];simp [hq]
theorem containsFunc (g : Nat) (q : Int → Bool) (xs : List Int) (hl : xs.length ≤ mx) (hok : fnOK Try.prog g = true) (hg : ∀ n ∈ xs, DC Try.prog g [DI .i64 n] [] (fun d h => d = DB (q n) ∧ h = [])) :
 DC Try.prog 63 [ints xs,.c (.clo g [])] [] (fun d h=>d=DB (xs.any q)∧h=[]):=by
 refine dc_of_go Try.func63 rfl (by simp) ?_
 refine drv_sound (n:=100) (rs:=_) Try.func63 mo rfl none _ _ ?_
 simp only [go_sem,ints]
 refine XK.plain (indexFunc g q xs hl hok hg) ok73 ?_
 refine drv_sound (n:=100) (rs:=_) Try.func63 mo rfl (some _) _ _ ?_
 simp only [go_sem,ints]
 refine RetOb.plain (d:=DB _) ⟨?_,rfl⟩ rfl
 simp only [DB];rw [idxF_any q xs 0 (by omega)]
def labs (xs:List Int):Bool:=xs.all fun n=>decide (0≤n) && decide (n≤3)
theorem areLabels (xs:List Int) (hl:xs.length≤mx):DC Try.prog 55 [ints xs] [] (fun d h=>d=DB (labs xs)∧h=[]):=by
 refine dc_of_go Try.func55 rfl (by simp) ?_
 refine drv_sound (n:=100) (rs:=_) Try.func55 mo rfl none _ _ ?_
 simp only [go_sem,ints]
 refine XK.plain (containsFunc 64 _ xs hl ok64 fun n _=>areLabels1 n) ok63 ?_
 refine drv_sound (n:=100) (rs:=_) Try.func55 mo rfl (some _) _ _ ?_
 simp only [go_sem,ints]
 refine RetOb.plain (d:=DB _) ⟨?_,rfl⟩ rfl
 simp [DB,labs,List.all_eq_not_any_not]
def headsOK (vs ar:List Int):Bool:=decide (1≤(vs.length:Int)) && decide ((vs.length:Int)≤12) && decide ((ar.length:Int)≤2) && labs vs && labs ar
theorem declared (vs ar:List Int) (hl:vs.length≤mx) (hl2:ar.length≤mx):DC Try.prog 42 [ints vs,ints ar] [] (fun d h=>d=DB (headsOK vs ar)∧h=[]):=by
 have hmx:=mx_eq
 refine dc_of_go Try.func42 rfl (by simp) ?_
 refine drv_sound (n:=100) (rs:=_) Try.func42 mo rfl none _ _ ?_
 simp only [go_sem,ints]
 refine XK.plain (within vs.length 1 12) ok54 ?_
 refine drv_sound (n:=100) (rs:=_) Try.func42 mo rfl (some _) _ _ ?_
 simp only [go_sem,ints]
 refine XK.gplain 8 true ((decide (1≤(vs.length:Int)) && decide ((vs.length:Int)≤12)) && decide ((ar.length:Int)≤2)) (fun _=>areLabels vs hl) ok55 ?_ (hok:=by intro hx;simp [okP,getCall,Call.operands,evT,upd,peelB,DB,DI,cst,one] at hx ⊢;first | done | exact hx | (simp_all;done) | omega)
 refine drv_sound (n:=100) (rs:=_) Try.func42 mo rfl (some _) _ _ ?_
 simp only [go_sem,ints]
 refine XK.gplain 12 true (((decide (1≤(vs.length:Int)) && decide ((vs.length:Int)≤12)) && decide ((ar.length:Int)≤2)) && labs vs) (fun _=>areLabels ar hl2) ok55 ?_ (hok:=by intro hx;simp [okP,getCall,Call.operands,evT,upd,peelB,DB,DI,cst,one] at hx ⊢;first | done | exact hx | (simp_all;done) | omega)
 refine drv_sound (n:=100) (rs:=_) Try.func42 mo rfl (some _) _ _ ?_
 simp only [go_sem,ints]
 exact RetOb.plain (d:=DB _) ⟨by simp [DB,headsOK],rfl⟩ rfl
theorem notlab (x:Int) (hq:0≤x→3<x):(decide (0≤x) && decide (x≤3))=false:=by
 by_cases h:0≤x
 ·have:=hq h;simp;omega
 ·simp [h]
theorem l2Heads (p:Pg) (hl:p.vars.length≤mx) (hl2:p.arrays.length≤mx):DC Try.prog 36 [.agg p.cells] [] (fun d h=>d=DB (headsOK p.vars p.arrays)∧h=[]):=by
 have hmx:=mx_eq
 obtain ⟨vs,ar,bd⟩:=p
 simp only at hl hl2
 have stepL:∀ (xs:List Int) (i:Nat) (x:Int),xs[i]? = some x→labs (xs.drop i)=((decide (0≤x) && decide (x≤3)) && labs (xs.drop (i+1))):=fun xs i x hx=>by
  obtain ⟨hlt,e⟩:=List.getElem?_eq_some_iff.1 hx
  rw [List.drop_eq_getElem_cons hlt,e];simp [labs]
 have ret:∀ (b:Bool) (hp:Hp),b=headsOK vs ar→RetOb 0 (fun d h=>d=DB (headsOK vs ar)∧h=[]) (DB b) hp:=fun b hp h=>RetOb.plain (d:=DB _) ⟨by rw [h],rfl⟩ rfl
 refine dc_of_go Try.func36 rfl (by simp) ?_
 refine drv_sound (n:=100) (rs:=_) Try.func36 mo rfl none _ _ ?_
 simp only [go_sem,Pg.cells,isI,I64]
 have inv:∀ (q:Bool) (fz:List Nat) (tl:List (Nat × D)) (S:Ms),TmOK (hOf [(0,some [.isl 1 (vs.map fun n=>[.v (.int .i64 n)]),.isl 1 (ar.map fun n=>[.v (.int .i64 n)]),.isl 11 (St1.cellsL bd)])]) some S.hp fz S.tm tl→0 ∉ fz→S.hp 0=some (some [.isl 1 (vs.map fun n=>[.v (.int .i64 n)]),.isl 1 (ar.map fun n=>[.v (.int .i64 n)]),.isl 11 (St1.cellsL bd)])→Mt 0 some fz tl [(0,some [.isl 1 (vs.map fun n=>[.v (.int .i64 n)]),.isl 1 (ar.map fun n=>[.v (.int .i64 n)]),.isl 11 (St1.cellsL bd)])] S :=
  fun q fz tl S h1 h2 h3=>Mt.one h1 h2 h3 (by simp [kf])
 refine Go.loopL (fun i:Nat=>[(1,.c (.ptr 0 0)),(3,DI .i64 i)]) (fun _=>[(0,some [.isl 1 (vs.map fun n=>[.v (.int .i64 n)]),.isl 1 (ar.map fun n=>[.v (.int .i64 n)]),.isl 11 (St1.cellsL bd)])]) 1024 (fun i=>i≤vs.length∧labs (vs.drop i)=labs vs) (fun i=>vs.length - i) ?_ 0 some [] _ ⟨Nat.zero_le _,rfl⟩ ?_
 ·intro i hi again
  refine drv_sound (n:=100) (rs:=_) Try.func36 mo rfl none _ _ ?_
  rcases Nat.lt_or_ge i vs.length with hlt | hge
  ·obtain ⟨x,hx⟩:∃ x,vs[i]? = some x:=⟨vs[i],by simp [hlt]⟩
   have hI:=hi.2
   rw [stepL vs i x hx] at hI
   simp only [go_sem,hx,hlt]
   refine XK.plain (labelValidS x) ok51 ?_ (hbT ())
   refine drv_sound (n:=100) (rs:=_) Try.func36 mo rfl (some _) _ _ ?_
   simp only [go_sem]
   refine ⟨fun hq=>ret _ _ ?_,fun hq=>⟨by simp only [InK];omega,?_⟩⟩
   ·rw [notlab x hq] at hI;simp [headsOK,← hI]
   ·refine again (i+1) some [] _ ⟨by omega,?_⟩ (by omega) (inv true _ _ _ ?_ (by simp) (by rfl))
    ·rw [← hI];simp [hq.1,hq.2]
    ·simp only [go_sem,TmOK,DM,DMs,CM,CMs,forall_eq,exists_eq_left]
  ·have hn:¬ i<vs.length:=by omega
   simp only [go_sem,hn]
   have hlv:labs vs=true:=by rw [← hi.2,List.drop_of_length_le hge];rfl
   refine Go.loopL (fun i:Nat=>[(1,.c (.ptr 0 0)),(4,DI .i64 i)]) (fun _=>[(0,some [.isl 1 (vs.map fun n=>[.v (.int .i64 n)]),.isl 1 (ar.map fun n=>[.v (.int .i64 n)]),.isl 11 (St1.cellsL bd)])]) 2048 (fun i=>i≤ar.length∧labs (ar.drop i)=labs ar) (fun i=>ar.length - i) ?_ 0 some [] _ ⟨Nat.zero_le _,rfl⟩ ?_
   ·intro i hi again
    refine drv_sound (n:=100) (rs:=_) Try.func36 mo rfl none _ _ ?_
    rcases Nat.lt_or_ge i ar.length with hlt | hge
    ·obtain ⟨x,hx⟩:∃ x,ar[i]? = some x:=⟨ar[i],by simp [hlt]⟩
     have hI:=hi.2
     rw [stepL ar i x hx] at hI
     simp only [go_sem,hx,hlt]
     refine XK.plain (labelValidS x) ok51 ?_ (hbT ())
     refine drv_sound (n:=100) (rs:=_) Try.func36 mo rfl (some _) _ _ ?_
     simp only [go_sem]
     refine ⟨fun hq=>ret _ _ ?_,fun hq=>⟨by simp only [InK];omega,?_⟩⟩
     ·rw [notlab x hq] at hI;simp [headsOK,← hI]
     ·refine again (i+1) some [] _ ⟨by omega,?_⟩ (by omega) (inv true _ _ _ ?_ (by simp) (by rfl))
      ·rw [← hI];simp [hq.1,hq.2]
      ·simp only [go_sem,TmOK,DM,DMs,CM,CMs,forall_eq,exists_eq_left]
    ·have hn:¬ i<ar.length:=by omega
     have hla:labs ar=true:=by rw [← hi.2,List.drop_of_length_le hge];rfl
     simp only [go_sem,hn]
     refine ret _ _ ?_
     simp [headsOK,hlv,hla]
     first | done | omega
   ·refine inv true _ _ _ ?_ (by simp) (by rfl)
    simp only [go_sem,TmOK,DM,DMs,CM,CMs,forall_eq,exists_eq_left]
 ·refine inv true _ _ _ ?_ (by simp) (by rfl)
  simp only [go_sem,TmOK,DM,DMs,CM,CMs,forall_eq,exists_eq_left]
def headAtom : List Ex → Bool
 | []=>false
 | a :: _=>atom a
def fitsE (p:Pg) (k v:Int) (n:Nat):Bool:=decide ((n:Int)=arity k) && decide (0≤v) && decide (v<limit p k)
def shape (p : Pg) : Nat → Ex → Bool
 | 0,_=>false
 | d+1,.mk k v ks=>fitsE p k v ks.length && ks.all (shape p d) && (!(k == 3) || headAtom ks)
theorem arity_le (k:Int):arity k≤3:=by
 unfold arity;repeat' split
 all_goals omega
theorem fitsE_false {p:Pg} {k v:Int} {n:Nat} (h:¬ ((n:Int)=arity k)∨v<0∨limit p k≤v):fitsE p k v n=false:=by
 rw [Bool.eq_false_iff];simp [fitsE];omega
theorem fitsE_true {p:Pg} {k v:Int} {n:Nat} (h:(n:Int)=arity k) (h2:0≤v) (h3:v<limit p k):fitsE p k v n=true:=by
 simp [fitsE];omega
theorem l2Shape (p:Pg) (hl:p.vars.length≤mx) (hl2:p.arrays.length≤mx):∀ (d:Nat) (e:Ex),d≤5→DC Try.prog 71 [.agg p.cells,.agg e.cells,DI .i64 d] [] (fun r h=>r=DB (shape p d e)∧h=[]):=by
 have hmx:=mx_eq
 intro d
 induction d using Nat.strongRecOn with
 | _ d ih =>
  intro e hd
  obtain ⟨k,v,ks⟩:=e
  obtain ⟨vs,ar,bd⟩:=p
  refine dc_of_go Try.func71 rfl (by simp) ?_
  refine drv_sound (n:=100) (rs:=_) Try.func71 mo rfl none _ _ ?_
  simp only [go_sem]
  repeat refine And.intro (by kernel_rfl) ?_
  refine XK.gplain 2 false (!(decide ((d:Int)<1))) (fun _=>l2Arity k) ok75 ?_ (hbT ()) (fun _=>by kernel_rfl) (hok:=by intro hx;simp [okP,getCall,Call.operands,evT,upd,peelB,DB,DI,cst,one] at hx ⊢;first | done | exact hx | (simp_all;done) | omega)
  refine drv_sound (n:=100) (rs:=_) Try.func71 mo rfl (some _) _ _ ?_
  simp only [go_sem]
  repeat refine And.intro (by kernel_rfl) ?_
  refine XK.gplain 16 false (!((decide ((d:Int)<1) || ((ks.length:Int) != arity k)) || decide (v<0))) (fun _=>l2Limit ⟨vs,ar,bd⟩ k) ok76 ?_ (hbT ()) (fun _=>by kernel_rfl) (hok:=by intro hx;simp [okP,getCall,Call.operands,evT,upd,peelB,DB,DI,cst,one] at hx ⊢;first | done | exact hx | (simp_all;done) | omega)
  refine drv_sound (n:=100) (rs:=_) Try.func71 mo rfl (some _) _ _ ?_
  simp only [go_sem]
  refine And.intro (by kernel_rfl) (And.intro (by kernel_rfl) ⟨fun hno=>RetOb.plain (d:=DB false) ⟨?_,rfl⟩ rfl,fun hyes=>?_⟩)
  ·cases d with
   | zero=>rfl
   | succ d =>
    simp only [shape]
    rw [fitsE_false (by omega)]
    rfl
  obtain ⟨d',rfl⟩:∃ d',d=d' + 1:=⟨d - 1,by omega⟩
  have ks3:ks.length≤3:=by have:=arity_le k;omega
  have hfit:=fitsE_true (p:=⟨vs,ar,bd⟩) (v:=v) hyes.1.1.2 hyes.1.2 hyes.2
  refine Go.loopL (fun i:Nat=>[(2,DI .i64 ((d' + 1:Nat):Int)),(3,.c (.ptr 0 0)),(4,.c (.ptr 64 0)),(7,DI .i64 i)]) (fun _=>[(0,some (Pg.cells ⟨vs,ar,bd⟩)),(64,some (Ex.cells (.mk k v ks)))]) 1024 (fun i=>i≤ks.length∧ks.all (shape ⟨vs,ar,bd⟩ d')=(ks.drop i).all (shape ⟨vs,ar,bd⟩ d')) (fun i=>ks.length - i) ?_ 0 some [] _ ⟨Nat.zero_le _,rfl⟩ ?_
  ·intro i hi again
   refine drv_sound (n:=100) (rs:=_) Try.func71 mo rfl none _ _ ?_
   rcases Nat.lt_or_ge i ks.length with hlt | hge
   ·obtain ⟨⟨k',v',ks'⟩,hx⟩:∃ x,ks[i]? = some x:=⟨ks[i],by simp [hlt]⟩
    have hI:=hi.2
    obtain ⟨_,he⟩:=List.getElem?_eq_some_iff.1 hx
    rw [List.drop_eq_getElem_cons hlt,he,List.all_cons] at hI
    simp only [go_sem,hx,hlt]
    (with_reducible and_intros)<;>try exact sd
    refine XK.plain (ih d' (by omega) (.mk k' v' ks') (by omega)) ok71 ?_ (hbT ()) (fun _=>by kernel_rfl)
    refine drv_sound (n:=100) (rs:=_) Try.func71 mo rfl (some _) _ _ ?_
    simp only [go_sem]
    refine And.intro (by kernel_rfl) ⟨fun hno=>RetOb.plain (d:=DB false) ⟨?_,rfl⟩ rfl,fun hyes=>⟨by simp only [InK];omega,?_⟩⟩
    ·rw [hno] at hI
     simp [DB,shape,hI]
    ·refine again (i+1) some [] _ ⟨by omega,?_⟩ (by omega) ?_
     ·rw [hI,hyes];rfl
     ·simp only [go_sem,TmOK,DM,DMs,CM,CMs,forall_eq,exists_eq_left,Mt,HpOK,LowOK]
      simp
   ·have hn:¬ i<ks.length:=by omega
    have hall:ks.all (shape ⟨vs,ar,bd⟩ d')=true:=by rw [hi.2,List.drop_of_length_le hge];rfl
    have ret:∀ (hp:Hp) (b:Bool),b=(!(k == 3) || headAtom ks)→RetOb 0 (fun d h=>d=DB (shape ⟨vs,ar,bd⟩ (d' + 1) (.mk k v ks))∧h=[]) (DB b) hp:=fun hp b hb=>RetOb.plain (d:=DB _) ⟨by simp [shape,hfit,hall,hb],rfl⟩ rfl
    rcases ks with _ | ⟨⟨k',v',ks'⟩,r⟩
    ·have hk3:k ≠ 3:=by rintro rfl;have:=hyes.1.1.2;simp [arity] at this
     have hb3:(k != 3)=true:=by simp [hk3]
     have hc3:(k == 3)=false:=by simp [hk3]
     have hi0:((i:Int)<0)=False:=by simp
     simp only [go_sem,hi0,hk3,hb3,hc3,Ex.cellsL]
     refine XK.gskip 3 false (DB false) ?_ (hbT ())
     refine drv_sound (n:=100) (rs:=_) Try.func71 mo rfl (some _) _ _ ?_
     simp only [go_sem]
     refine ret _ _ ?_
     simp [hk3]
    ·have hi0:((i:Int)<(r.length:Int)+1)=False:=by simp at hn;simp;omega
     simp only [go_sem,hi0,Ex.cellsL]
     refine XK.gplain 3 false (!(k != 3)) (fun _=>l2Atom (.mk k' v' ks')) ok61 ?_ (hbT ()) (hok:=by intro hx;simp [okP,getCall,Call.operands,evT,upd,peelB,DB,DI] at hx ⊢;first | done | exact hx | (simp_all;done) | omega)
     refine drv_sound (n:=100) (rs:=_) Try.func71 mo rfl (some _) _ _ ?_
     simp only [go_sem]
     refine ret _ _ ?_
     simp [headAtom,bne]
  ·simp only [go_sem,TmOK,DM,DMs,CM,CMs,forall_eq,exists_eq_left,Mt,HpOK,LowOK]
   simp
def cnt : Nat → Ex → Nat
 | 0,_=>1
 | d+1,.mk _ _ ks=>1+(ks.map (cnt d)).sum
theorem sum_le {α : Type} (f : α → Nat) (B : Nat) : ∀ l : List α, (∀ x ∈ l, f x ≤ B) → (l.map f).sum ≤ l.length * B
 | [],_=>by simp
 | a :: r,h=>by
  have h1:=h a (by simp)
  have h2:=sum_le f B r fun x hx=>h x (by simp [hx])
  simp only [List.map_cons,List.sum_cons,List.length_cons,Nat.add_mul]
  omega
theorem shape_succ {p:Pg} {d:Nat} {k v:Int} {ks:List Ex} (h:shape p (d+1) (.mk k v ks)=true):fitsE p k v ks.length=true∧(∀ x ∈ ks,shape p d x=true)∧(k=3→headAtom ks=true):=by
 simp only [shape,Bool.and_eq_true,List.all_eq_true,Bool.or_eq_true] at h
 refine ⟨h.1.1,h.1.2,fun hk=>?_⟩
 rcases h.2 with h2 | h2
 ·simp [hk] at h2
 ·exact h2
theorem fits_len {p:Pg} {k v:Int} {n:Nat} (h:fitsE p k v n=true):n≤3∧(n:Int)=arity k∧0≤v∧v<limit p k:=by
 simp [fitsE] at h
 have:=arity_le k
 omega
theorem cnt_le (p : Pg) : ∀ (d : Nat) (e : Ex), shape p d e = true → cnt d e ≤ 4 ^ d
 | 0,_,h=>by simp [shape] at h
 | d+1,.mk k v ks,h=>by
  obtain ⟨h1,h2,_⟩:=shape_succ h
  have h3:=(fits_len h1).1
  have:=sum_le (cnt d) (4 ^ d) ks fun x hx=>cnt_le p d x (h2 x hx)
  have h4:ks.length * 4 ^ d≤3 * 4 ^ d:=Nat.mul_le_mul_right _ h3
  have h5:1≤4 ^ d:=Nat.pow_pos (by decide)
  simp only [cnt,Nat.pow_succ]
  omega
def tsum {α:Type} (f:α→Nat) (ks:List α) (i:Nat):Nat:=((ks.take i).map f).sum
theorem tsum_le {α:Type} (f:α→Nat) (ks:List α) (i:Nat):tsum f ks i≤(ks.map f).sum:=by
 conv=>rhs;rw [← List.take_append_drop i ks,List.map_append,List.sum_append]
 unfold tsum;omega
theorem tsum_succ {α:Type} (f:α→Nat) (ks:List α) (i:Nat) (x:α) (hx:ks[i]? = some x):tsum f ks (i+1)=tsum f ks i+f x:=by
 unfold tsum;rw [List.take_add_one,hx];simp
theorem tsum_zero {α:Type} (f:α→Nat) (ks:List α):tsum f ks 0=0:=rfl
theorem tsum_all {α:Type} (f:α→Nat) (ks:List α) {i:Nat} (h:ks.length≤i):tsum f ks i=(ks.map f).sum:=by
 unfold tsum;rw [List.take_of_length_le h]
theorem pow5 {d:Nat} (h:d≤5):4 ^ d≤1024:=Nat.le_trans (Nat.pow_le_pow_right (by omega) h) (by decide)
theorem l2Count (p:Pg):∀ (d:Nat) (e:Ex),d≤5→shape p d e=true→DC Try.prog 72 [.agg e.cells,DI .i64 d] [] (fun r h=>r=DI .i64 (cnt d e)∧h=[]):=by
 intro d
 induction d using Nat.strongRecOn with
 | _ d ih =>
  intro e hd hsh
  obtain ⟨k,v,ks⟩:=e
  obtain ⟨d',rfl⟩:∃ d',d=d' + 1:=by
   cases d with
   | zero=>simp [shape] at hsh
   | succ d'=>exact ⟨d',rfl⟩
  have hpos:((0:Int)<(d':Int)+1)=True:=by simp
  have hcle:=cnt_le p _ _ hsh
  have h5:=pow5 hd
  obtain ⟨h1,h2,_⟩:=shape_succ hsh
  have hlen:=(fits_len h1).1
  simp only [cnt] at hcle
  refine dc_of_go Try.func72 rfl (by simp) ?_
  refine drv_sound (n:=100) (rs:=_) Try.func72 mo rfl none _ _ ?_
  simp only [go_sem]
  refine Go.loopL (fun i:Nat=>[(1,DI .i64 ((d' + 1:Nat):Int)),(2,.c (.ptr 0 0)),(5,DI .i64 (1+tsum (cnt d') ks i:Nat)),(6,DI .i64 i)]) (fun _=>[(0,some (Ex.cells (.mk k v ks)))]) 1024 (fun i=>i≤ks.length) (fun i=>ks.length - i) ?_ 0 some [] _ (Nat.zero_le _) ?_
  ·intro i hi again
   refine drv_sound (n:=100) (rs:=_) Try.func72 mo rfl none _ _ ?_
   have ht:=tsum_le (cnt d') ks i
   rcases Nat.lt_or_ge i ks.length with hlt | hge
   ·obtain ⟨⟨k',v',ks'⟩,hx⟩:∃ x,ks[i]? = some x:=⟨ks[i],by simp [hlt]⟩
    have hs:=tsum_succ (cnt d') ks i _ hx
    have ht2:=tsum_le (cnt d') ks (i+1)
    simp only [go_sem,hx,hlt,hpos]
    (with_reducible and_intros)<;>try exact sd
    refine XK.plain (ih d' (by omega) (.mk k' v' ks') (by omega) (h2 _ (List.mem_of_getElem? hx))) ok72 ?_ (hbT ())
    refine drv_sound (n:=100) (rs:=_) Try.func72 mo rfl (some _) _ _ ?_
    simp only [go_sem]
    (with_reducible and_intros)<;>try exact sd
    refine again (i+1) some [] _ (by omega) (by omega) ?_
    simp only [go_sem,TmOK,DM,DMs,CM,CMs,forall_eq,exists_eq_left,Mt,HpOK,LowOK,hs]
    simp
    omega
   ·have hn:¬ i<ks.length:=by omega
    simp only [go_sem,hn]
    refine RetOb.plain (d:=DI .i64 _) ⟨?_,rfl⟩ rfl
    simp [DI,cnt,tsum_all _ _ hge]
  ·simp only [go_sem,TmOK,DM,DMs,CM,CMs,forall_eq,exists_eq_left,Mt,HpOK,LowOK,tsum_zero]
   simp
def right (p:Pg) (e:Ex):Bool:=shape p 5 e && decide ((cnt 5 e:Int)≤15)
theorem l2Right (p:Pg) (e:Ex) (hl:p.vars.length≤mx) (hl2:p.arrays.length≤mx):DC Try.prog 60 [.agg p.cells,.agg e.cells] [] (fun r h=>r=DB (right p e)∧h=[]):=by
 obtain ⟨k,v,ks⟩:=e
 obtain ⟨vs,ar,bd⟩:=p
 refine dc_of_go Try.func60 rfl (by simp) ?_
 refine drv_sound (n:=100) (rs:=_) Try.func60 mo rfl none _ _ ?_
 simp only [go_sem]
 refine XK.plain (l2Shape ⟨vs,ar,bd⟩ hl hl2 5 (.mk k v ks) (by omega)) ok71 ?_ (hbT ())
 refine drv_sound (n:=100) (rs:=_) Try.func60 mo rfl (some _) _ _ ?_
 simp only [go_sem]
 refine XK.gplain 3 true (shape ⟨vs,ar,bd⟩ 5 (.mk k v ks)) (fun h=>l2Count ⟨vs,ar,bd⟩ 5 (.mk k v ks) (by omega) h) ok72 ?_ (hbT ()) (hok:=by intro hx;simp [okP,getCall,Call.operands,evT,upd,peelB,DB,DI,cst,one] at hx ⊢;first | done | exact hx | (simp_all;done) | omega)
 refine drv_sound (n:=100) (rs:=_) Try.func60 mo rfl (some _) _ _ ?_
 simp only [go_sem]
 refine RetOb.plain (d:=DB _) ⟨?_,rfl⟩ rfl
 simp [right,DB]
def highI (p:Pg) (k:Int):Int:=if k=1 then 255 else if k=2 then (p.vars.length:Int) - 1 else if k=3 then (p.arrays.length:Int) - 1 else 0
theorem highI_eq (p:Pg) (k:Int):highI p k=limit p k - 1:=by
 unfold highI limit;repeat' split
 all_goals omega
def okE (p:Pg) (d:Nat) (e:Ex) (c:Nat):Bool:=shape p d e && decide (c+cnt d e≤15)
def scanR (p:Pg) (d:Nat) (e:Ex) (c:Nat) (r:D) (h:List (Option (List C))):Prop:=∃ c':Nat,r=DB (okE p d e c)∧h=[some [I64 c']]∧c'≤16∧(okE p d e c=true→c'=c+cnt d e)
theorem okE_kid {p:Pg} {d c i:Nat} {k v:Int} {ks:List Ex} {x:Ex} (hx:ks[i]? = some x) (h:okE p d x (c+1+tsum (cnt d) ks i)=false):false=okE p (d+1) (.mk k v ks) c:=by
 symm
 rw [Bool.eq_false_iff] at h ⊢
 intro h2
 apply h
 simp only [okE,Bool.and_eq_true,decide_eq_true_eq] at h2 ⊢
 refine ⟨(shape_succ h2.1).2.1 x (List.mem_of_getElem? hx),?_⟩
 have h3:=tsum_succ (cnt d) ks i x hx
 have h4:=tsum_le (cnt d) ks (i+1)
 have h5:=h2.2
 simp only [cnt] at h5
 omega
theorem okE_all {p:Pg} {d c:Nat} {k v:Int} {ks:List Ex} (h1:fitsE p k v ks.length=true) (h2:∀ x ∈ ks,shape p d x=true) (h3:k=3→headAtom ks=true) (h4:c+1+tsum (cnt d) ks ks.length≤15):true=okE p (d+1) (.mk k v ks) c∧c+1+tsum (cnt d) ks ks.length=c+cnt (d+1) (.mk k v ks):=by
 rw [tsum_all _ _ (Nat.le_refl _)] at h4 ⊢
 have hs:shape p (d+1) (.mk k v ks)=true:=by
  simp only [shape,Bool.and_eq_true,List.all_eq_true,Bool.or_eq_true]
  refine ⟨⟨h1,h2⟩,?_⟩
  by_cases hk:k=3
  ·exact .inr (h3 hk)
  ·exact .inl (by simp [hk])
 have hc:c+cnt (d+1) (.mk k v ks)≤15:=by simp only [cnt];omega
 refine ⟨by simp [okE,hs,hc],by simp only [cnt];omega⟩
theorem take_succ_mem {α:Type} {ks:List α} {i:Nat} {x:α} (hx:ks[i]? = some x) {q:α→Prop} (h:∀ y ∈ ks.take i,q y) (h2:q x):∀ y ∈ ks.take (i+1),q y:=by
 intro y hy
 rw [List.take_add_one,hx] at hy
 rcases List.mem_append.1 hy with h3 | h3
 ·exact h y h3
 ·simp at h3;rw [h3];exact h2
theorem okE_false_of_val {p:Pg} {d c:Nat} {k v:Int} {ks:List Ex} (h:0≤v→highI p k<v):false=okE p d (.mk k v ks) c:=by
 symm
 rw [Bool.eq_false_iff]
 intro h2
 cases d with
 | zero=>simp [okE,shape] at h2
 | succ d =>
  simp only [okE,Bool.and_eq_true] at h2
  have:=fits_len (shape_succ h2.1).1
  rw [highI_eq] at h
  omega
theorem fitsE_true2 {p:Pg} {k v:Int} {n:Nat} (h:(n:Int)=arity k) (h2:0≤v) (h3:v≤highI p k):fitsE p k v n=true:=by
 rw [highI_eq] at h3;exact fitsE_true h h2 (by omega)
theorem okE_false_of_atom {p:Pg} {d c:Nat} {v:Int} {ks:List Ex} (h:headAtom ks=false):false=okE p d (.mk 3 v ks) c:=by
 symm
 rw [Bool.eq_false_iff]
 intro h2
 cases d with
 | zero=>simp [okE,shape] at h2
 | succ d =>
  simp only [okE,Bool.and_eq_true] at h2
  have:=(shape_succ h2.1).2.2 rfl
  rw [h] at this;cases this
theorem headAtom_of {ks:List Ex} {x:Ex} (h:ks[0]? = some x):headAtom ks=atom x:=by
 cases ks with
 | nil=>simp at h
 | cons a r=>simp at h;rw [h];rfl
theorem scan (p:Pg) (hl:p.vars.length≤mx) (hl2:p.arrays.length≤mx):∀ (d:Nat) (e:Ex) (deep:Int) (c:Nat),1≤deep→deep+d=6→c≤15→DC Try.prog 74 [.agg p.cells,.agg e.cells,DI .i64 deep,.c (.ptr 0 0)] [some [I64 c]] (scanR p d e c):=by
 have hmx:=mx_eq
 intro d
 induction d using Nat.strongRecOn with
 | _ d ih =>
  intro e deep c hdeep hsum hc
  obtain ⟨k,v,ks⟩:=e
  obtain ⟨vs,ar,bd⟩:=p
  have hl:vs.length≤mx:=hl
  have hl2:ar.length≤mx:=hl2
  have ret:∀ (b:Bool) (c':Nat) (hp:Hp),b=okE ⟨vs,ar,bd⟩ d (.mk k v ks) c→hp 0=some (some [I64 c'])→c'≤16→(b=true→c'=c+cnt d (.mk k v ks))→RetOb 1 (scanR ⟨vs,ar,bd⟩ d (.mk k v ks) c) (DB b) hp :=
   fun b c' hp hb hhp h16 ht=>RetOb.keep1 (d:=DB b) (cs:=[I64 c']) ⟨c',by rw [hb],rfl,h16,by rw [← hb];exact ht⟩ hhp (by simp [kf]) rfl
  refine dc_of_go Try.func74 rfl (by simp) ?_
  refine drv_sound (n:=100) (rs:=_) Try.func74 mo rfl none _ _ ?_
  simp only [go_sem]
  (with_reducible and_intros)<;>try exact sd
  refine XK.gplain 8 false (!((decide (15<(c:Int)+1)) || decide (5<deep))) (fun _=>operandsI k) ok77 ?_ (hbT ()) (fun _=>by kernel_rfl) (hm:=by simp only [wkey];decide) (hok:=by intro hx;simp [okP,getCall,Call.operands,evT,upd,peelB,DB,DI,cst,one] at hx ⊢;first | done | exact hx | (simp_all;done) | omega)
  have hno:((15<(c:Int)+1∨5<deep)∨¬ arity k=ks.length)→false=okE ⟨vs,ar,bd⟩ d (.mk k v ks) c:=by
   intro hno
   symm
   simp only [okE]
   rw [Bool.and_eq_false_iff]
   rcases hno with (h | h) | h
   ·right
    have:1≤cnt d (.mk k v ks):=by cases d<;>simp [cnt]
    simp;omega
   ·left
    obtain rfl:d=0:=by omega
    rfl
   ·left
    cases d with
    | zero=>rfl
    | succ d =>
     simp only [shape]
     rw [fitsE_false (by omega)]
     rfl
  by_cases hk3:k=3
  ·subst hk3
   by_cases ha:arity 3=ks.length
   ·obtain ⟨⟨k1,v1,ks1⟩,h0⟩:∃ x,ks[0]? = some x:=⟨ks[0]'(by simp [arity] at ha;omega),List.getElem?_eq_getElem _⟩
    refine drv_sound (n:=100) (rs:=_) Try.func74 mo rfl (some _) _ _ ?_
    simp only [go_sem,h0]
    refine And.intro (by kernel_rfl) (And.intro (by kernel_rfl) (And.intro (by kernel_rfl) (And.intro (by kernel_rfl) (And.intro (by kernel_rfl) ⟨fun h=>ret _ (c+1) _ (hno h) (by simp [I64,upd_same]) (by omega) (by simp),fun hyes=>?_⟩))))
    have ks3:ks.length≤3:=by have:=arity_le 3;omega
    (with_reducible and_intros)<;>try exact sd
    refine XK.plain (within v 0 _) ok54 ?_ (hbT ()) (hm:=by simp only [wkey];decide)
    refine drv_sound (n:=100) (rs:=_) Try.func74 mo rfl (some _) _ _ ?_
    simp only [go_sem,h0]
    refine XK.gplain 9 true (decide (0≤v) && decide (v≤(ar.length:Int) - 1)) (fun _=>isPlain (.mk k1 v1 ks1)) ok67 ?_ (hbT ()) (hm:=by simp only [wkey];decide) (hok:=by intro hx;simp [okP,getCall,Call.operands,evT,upd,peelB,DB,DI,cst,one] at hx ⊢;first | done | exact hx | (simp_all;done) | omega)
    refine drv_sound (n:=100) (rs:=_) Try.func74 mo rfl (some _) _ _ ?_
    simp only [go_sem,h0]
    refine ⟨fun hf=>ret _ (c+1) _ ?_ (by simp [I64,upd_same]) (by omega) (by simp),fun hv=>?_⟩
    ·by_cases hvv:0≤v∧v≤(ar.length:Int) - 1
     ·exact okE_false_of_atom (by rw [headAtom_of h0];exact hf.elim (fun h=>absurd (h hvv.1) (by omega)) id)
     ·exact okE_false_of_val (by unfold highI;(try dsimp only);(repeat' split)<;>omega)
    obtain ⟨d',rfl⟩:∃ d',d=d' + 1:=⟨d - 1,by omega⟩
    refine Go.loopL (fun i:Nat=>[(2,DI .i64 deep),(3,.c (.ptr 0 0)),(4,.c (.ptr 1 0)),(69,.c (.isl 3 (Ex.cellsL ks))),(70,DI .i64 ks.length),(71,DI .i64 i)]) (fun i=>[(0,some [I64 (c+1+tsum (cnt d') ks i:Nat)]),(1,some (Pg.cells ⟨vs,ar,bd⟩))]) 65536 (fun i=>i≤ks.length∧(∀ x ∈ ks.take i,shape ⟨vs,ar,bd⟩ d' x=true)∧c+1+tsum (cnt d') ks i≤15) (fun i=>ks.length - i) ?_ 0 some [] _ ⟨Nat.zero_le _,by simp,by simp only [tsum_zero];omega⟩ ?_
    ·intro i ⟨hi,hall,hcnt⟩ again
     refine drv_sound (n:=100) (rs:=_) Try.func74 mo rfl none _ _ ?_
     rcases Nat.lt_or_ge i ks.length with hlt | hge
     ·obtain ⟨⟨k',v',ks'⟩,hx⟩:∃ x,ks[i]? = some x:=⟨ks[i],by simp [hlt]⟩
      simp only [go_sem,hx,hlt]
      (with_reducible and_intros)<;>try exact sd
      refine XK.callG [0] (ih d' (by omega) (.mk k' v' ks') (deep+1) (c+1+tsum (cnt d') ks i) (by omega) (by omega) (by omega)) ok74 (hhp_one rfl) (hbT ()) (fun d h' ⟨c',_,e,_⟩=>by subst e;simp) ?_
      rintro d h' ⟨c',rfl,rfl,hc16,htr⟩ _
      refine drv_sound (n:=100) (rs:=_) Try.func74 mo rfl (some _) _ _ ?_
      simp only [go_sem]
      refine ⟨fun hf=>ret _ c' _ (okE_kid hx hf) (by simp [I64,upd_same]) hc16 (by simp),fun hf=>⟨by simp only [InK];omega,?_⟩⟩
      have he:=htr hf
      have hs:=tsum_succ (cnt d') ks i _ hx
      simp only [okE,Bool.and_eq_true,decide_eq_true_eq] at hf
      refine again (i+1) some [] _ ⟨by omega,take_succ_mem hx hall hf.1,by omega⟩ (by omega) ?_
      rw [show c'=c+1+tsum (cnt d') ks (i+1) from by omega]
      simp only [go_sem,TmOK,DM,DMs,CM,CMs,forall_eq,exists_eq_left,Mt,HpOK,LowOK]
      simp
     ·have hn:¬ i<ks.length:=by omega
      obtain rfl:i=ks.length:=by omega
      simp only [go_sem,hn]
      obtain ⟨e1,e2⟩:=okE_all (k:=3) (v:=v) (fitsE_true2 hyes.2.symm (by omega) (by unfold highI;(try dsimp only);(repeat' split)<;>omega)) (fun x hx=>hall x (by rw [List.take_length];exact hx)) (fun _=>by rw [headAtom_of h0];exact hv.2) hcnt
      refine ret _ _ _ e1 (by first | rfl | simp [I64,upd_same]) (by omega) (fun _=>e2)
    ·simp only [go_sem,TmOK,DM,DMs,CM,CMs,forall_eq,exists_eq_left,Mt,HpOK,LowOK,tsum_zero]
     simp
   ·have hne:(arity 3=(ks.length:Int))=False:=eq_false ha
    have hne2:(arity 3 != (ks.length:Int))=true:=by simp [ha]
    refine drv_sound (n:=100) (rs:=_) Try.func74 mo rfl (some _) _ _ ?_
    simp only [go_sem,hne,hne2,Bool.or_true]
    (with_reducible and_intros)<;>try exact sd
    all_goals first | exact ret _ (c+1) _ (hno (.inr ha)) (by simp [I64,upd_same]) (by omega) (by simp) | skip
  ·have hb3:(k == 3)=false:=by simp [hk3]
   rcases h0:ks[0]? with _ | ⟨k1,v1,ks1⟩
   all_goals
    refine drv_sound (n:=100) (rs:=_) Try.func74 mo rfl (some _) _ _ ?_
    simp only [go_sem,h0,hk3,hb3]
    refine And.intro (by kernel_rfl) (And.intro (by kernel_rfl) (And.intro (by kernel_rfl) (And.intro (by kernel_rfl) (And.intro (by kernel_rfl) ⟨fun h=>ret _ (c+1) _ (hno h) (by simp [I64,upd_same]) (by omega) (by simp),fun hyes=>⟨fun hk=>?_,fun hk=>⟨fun hk=>⟨by simp only [InK];omega,?_⟩,fun hk=>?_⟩⟩⟩))))
    all_goals
     have ks3:ks.length≤3:=by have:=arity_le k;omega
     refine XK.plain (within v 0 _) ok54 ?_ (hbT ()) (hm:=by simp only [wkey];decide)
     refine drv_sound (n:=100) (rs:=_) Try.func74 mo rfl (some _) _ _ ?_
     simp only [go_sem,h0,hk3,hb3]
     refine XK.gskip 9 true (DB false) ?_ (hbT ()) (hm:=by simp only [wkey];decide)
     refine drv_sound (n:=100) (rs:=_) Try.func74 mo rfl (some _) _ _ ?_
     simp only [go_sem,h0,hk3,hb3]
     refine ⟨fun h=>h.2,fun hf=>ret _ (c+1) _ (okE_false_of_val (by unfold highI;(try dsimp only);(repeat' split)<;>omega)) (by simp [I64,upd_same]) (by omega) (by simp),fun hv=>?_⟩
     obtain ⟨d',rfl⟩:∃ d',d=d' + 1:=⟨d - 1,by omega⟩
     refine Go.loopL (fun i:Nat=>[(2,DI .i64 deep),(3,.c (.ptr 0 0)),(4,.c (.ptr 1 0)),(69,.c (.isl 3 (Ex.cellsL ks))),(70,DI .i64 ks.length),(71,DI .i64 i)]) (fun i=>[(0,some [I64 (c+1+tsum (cnt d') ks i:Nat)]),(1,some (Pg.cells ⟨vs,ar,bd⟩))]) 65536 (fun i=>i≤ks.length∧(∀ x ∈ ks.take i,shape ⟨vs,ar,bd⟩ d' x=true)∧c+1+tsum (cnt d') ks i≤15) (fun i=>ks.length - i) ?_ 0 some [] _ ⟨Nat.zero_le _,by simp,by simp only [tsum_zero];omega⟩ ?_
     ·intro i ⟨hi,hall,hcnt⟩ again
      refine drv_sound (n:=100) (rs:=_) Try.func74 mo rfl none _ _ ?_
      rcases Nat.lt_or_ge i ks.length with hlt | hge
      ·obtain ⟨⟨k',v',ks'⟩,hx⟩:∃ x,ks[i]? = some x:=⟨ks[i],by simp [hlt]⟩
       simp only [go_sem,hx,hlt]
       (with_reducible and_intros)<;>try exact sd
       refine XK.callG [0] (ih d' (by omega) (.mk k' v' ks') (deep+1) (c+1+tsum (cnt d') ks i) (by omega) (by omega) (by omega)) ok74 (hhp_one rfl) (hbT ()) (fun d h' ⟨c',_,e,_⟩=>by subst e;simp) ?_
       rintro d h' ⟨c',rfl,rfl,hc16,htr⟩ _
       refine drv_sound (n:=100) (rs:=_) Try.func74 mo rfl (some _) _ _ ?_
       simp only [go_sem]
       refine ⟨fun hf=>ret _ c' _ (okE_kid hx hf) (by simp [I64,upd_same]) hc16 (by simp),fun hf=>⟨by simp only [InK];omega,?_⟩⟩
       have he:=htr hf
       have hs:=tsum_succ (cnt d') ks i _ hx
       simp only [okE,Bool.and_eq_true,decide_eq_true_eq] at hf
       refine again (i+1) some [] _ ⟨by omega,take_succ_mem hx hall hf.1,by omega⟩ (by omega) ?_
       rw [show c'=c+1+tsum (cnt d') ks (i+1) from by omega]
       simp only [go_sem,TmOK,DM,DMs,CM,CMs,forall_eq,exists_eq_left,Mt,HpOK,LowOK]
       simp
      ·have hn:¬ i<ks.length:=by omega
       obtain rfl:i=ks.length:=by omega
       simp only [go_sem,hn]
       obtain ⟨e1,e2⟩:=okE_all (k:=k) (v:=v) (fitsE_true2 hyes.2.symm (by omega) (by unfold highI;(try dsimp only);(repeat' split)<;>omega)) (fun x hx=>hall x (by rw [List.take_length];exact hx)) (by intro h;exact absurd h hk3) hcnt
       refine ret _ _ _ e1 (by first | rfl | simp [I64,upd_same]) (by omega) (fun _=>e2)
     ·simp only [go_sem,TmOK,DM,DMs,CM,CMs,forall_eq,exists_eq_left,Mt,HpOK,LowOK,tsum_zero]
      simp
theorem expr (p:Pg) (e:Ex) (hl:p.vars.length≤mx) (hl2:p.arrays.length≤mx):DC Try.prog 66 [.agg p.cells,.agg e.cells] [] (fun r h=>r=DB (right p e)∧h=[]):=by
 obtain ⟨k,v,ks⟩:=e
 obtain ⟨vs,ar,bd⟩:=p
 refine dc_of_go Try.func66 rfl (by simp) ?_
 refine drv_sound (n:=100) (rs:=_) Try.func66 mo rfl none _ _ ?_
 simp only [go_sem]
 refine XK.callG [192] (scan ⟨vs,ar,bd⟩ hl hl2 5 (.mk k v ks) 1 0 (by omega) (by omega) (by omega)) ok74 (hhp_one rfl) (hbT ()) (fun d h' ⟨c',_,e,_⟩=>by subst e;simp) ?_
 rintro d h' ⟨c',rfl,rfl,hc16,htr⟩ _
 refine drv_sound (n:=100) (rs:=_) Try.func66 mo rfl (some _) _ _ ?_
 simp only [go_sem]
 refine RetOb.plain (d:=DB _) ⟨?_,rfl⟩ rfl
 have:decide (0+cnt 5 (.mk k v ks)≤15)=decide ((cnt 5 (.mk k v ks):Int)≤15):=decide_eq_decide.2 (by omega)
 simp only [right,DB,okE,this]
def blk (k:Int):Bool:=k == 3 || k == 4
def parts (k t:Int) (ix v:Ex) (c:Int) (bn en:Nat):Bool :=
 !(!(blk k) && (decide (0<(bn:Int)) || decide (0<(en:Int))) || blk k && t != 0) &&
 (if k=4 then (en:Int) == 0 && decide (1≤c) && decide (c≤3) && none0 ix && none0 v else c == 0 && (k == 2 || none0 ix))
theorem l2Parts (s:St1):DC Try.prog 59 [.agg s.cells] [] (fun r h=>r=DB (parts s.kind s.target s.index s.value s.count s.body.length s.els.length)∧h=[]):=by
 obtain ⟨k,t,⟨ik,iv,iks⟩,⟨vk,vv,vks⟩,c,b,e⟩:=s
 generalize hB:parts _ _ _ _ _ _ _=B
 simp only [St1.kind,St1.target,St1.index,St1.value,St1.count,St1.body,St1.els] at hB
 refine dc_of_go Try.func59 rfl (by simp) ?_
 refine drv_sound (n:=100) (rs:=_) Try.func59 mo rfl none _ _ ?_
 simp only [go_sem]
 refine ⟨fun h=>⟨h,fun h2=>⟨h,h2⟩⟩,fun h=>⟨h,fun h2=>⟨h,h2⟩⟩,fun hno=>RetOb.plain (d:=DB false) ⟨?_,rfl⟩ rfl,fun hyes=>⟨fun hk=>?_,fun hk=>?_⟩⟩
 ·rw [← hB]
  simp only [DB];congr 3
  unfold parts blk
  grind
 ·refine XK.gplain 14 true ((((e.length:Int) == 0) && decide (1≤c)) && decide (c≤3)) (fun _=>l2None (.mk ik iv iks)) ok70 ?_
  refine drv_sound (n:=100) (rs:=_) Try.func59 mo rfl (some _) _ _ ?_
  simp only [go_sem]
  refine XK.gplain 19 true (((((e.length:Int) == 0) && decide (1≤c)) && decide (c≤3)) && none0 (.mk ik iv iks)) (fun _=>l2None (.mk vk vv vks)) ok70 ?_
  refine drv_sound (n:=100) (rs:=_) Try.func59 mo rfl (some _) _ _ ?_
  simp only [go_sem]
  refine RetOb.plain (d:=DB _) ⟨?_,rfl⟩ rfl
  rw [← hB]
  simp only [DB];congr 3
  unfold parts blk
  grind
 ·refine XK.gplain 7 false ((c == 0) && (!(k == 2))) (fun _=>l2None (.mk ik iv iks)) ok70 ?_
  refine drv_sound (n:=100) (rs:=_) Try.func59 mo rfl (some _) _ _ ?_
  simp only [go_sem]
  refine ⟨fun h=>⟨h,fun h2=>⟨h,h2⟩⟩,?_⟩
  refine RetOb.plain (d:=DB _) ⟨?_,rfl⟩ rfl
  rw [← hB]
  simp only [DB];congr 3
  unfold parts blk
  grind
def headOK (p:Pg) (k t:Int) (ix v:Ex) (c:Int) (bn en:Nat):Bool :=
 parts k t ix v c bn en && (if k = 1 ∨ k = 5 then decide (0 ≤ t) && decide (t < p.vars.length) && right p v
  else if k=2 then decide (0≤t) && decide (t<p.arrays.length) && right p ix && atom ix && right p v
  else if k=3 then right p v else k == 4)
def stmtOK (p : Pg) : Nat → St1 → Bool
 | 0,_=>false
 | d+1,.mk k t ix v c b e=>headOK p k t ix v c b.length e.length && b.all (stmtOK p d) && e.all (stmtOK p d)
def tsize : Nat → St1 → Nat
 | 0,_=>0
 | d+1,.mk _ _ _ _ _ b e=>1+(b.map (tsize d)).sum+(e.map (tsize d)).sum
def lsize (d:Nat) (l:List St1):Nat:=(l.map (tsize d)).sum
theorem tsize_pos {d:Nat} (s:St1):1≤tsize (d+1) s:=by cases s;simp [tsize];omega
theorem len_le_sum {α : Type} (f : α → Nat) : ∀ l : List α, (∀ x ∈ l, 1 ≤ f x) → l.length ≤ (l.map f).sum
 | [],_=>by simp
 | a :: r,h=>by
  have h1:=h a (by simp)
  have h2:=len_le_sum f r fun x hx=>h x (by simp [hx])
  simp only [List.map_cons,List.sum_cons,List.length_cons]
  omega
theorem len_le_lsize {d:Nat} (l:List St1):l.length≤lsize (d+1) l:=len_le_sum _ l fun x _=>tsize_pos x
theorem mem_le_sum {α : Type} (f : α → Nat) {x : α} : ∀ {l : List α}, x ∈ l → f x ≤ (l.map f).sum
 | a :: r,h=>by
  simp only [List.map_cons,List.sum_cons]
  rcases List.mem_cons.1 h with rfl | h
  ·omega
  ·have:=mem_le_sum f h;omega
theorem mem_le_lsize {d:Nat} {l:List St1} {s:St1} (h:s ∈ l):tsize d s≤lsize d l:=mem_le_sum _ h
theorem l2BlockOf (p : Pg) (d : Nat) (hd : d ≤ 5)
 (ih:∀ s,tsize d s≤1099511627776→DC Try.prog 52 [.agg p.cells,.agg s.cells,DI .i64 d] [] (fun r h=>r=DB (stmtOK p d s)∧h=[])) (l:List St1) (hl:lsize d l≤1099511627776) :
 DC Try.prog 37 [.agg p.cells,.c (.isl 11 (St1.cellsL l)),DI .i64 d] [] (fun r h=>r=DB (l.all (stmtOK p d))∧h=[]):=by
 obtain ⟨vs,ar,bd⟩:=p
 generalize hB:l.all (stmtOK ⟨vs,ar,bd⟩ d)=B
 refine dc_of_go Try.func37 rfl (by simp) ?_
 refine drv_sound (n:=100) (rs:=_) Try.func37 mo rfl none _ _ ?_
 simp only [go_sem]
 refine Go.loopL (fun i:Nat=>[(1,.c (.isl 11 (St1.cellsL l))),(2,DI .i64 d),(3,.c (.ptr 0 0)),(7,DI .i64 i)]) (fun _=>[(0,some (Pg.cells ⟨vs,ar,bd⟩))]) 1024 (fun i=>i≤l.length∧B=(l.drop i).all (stmtOK ⟨vs,ar,bd⟩ d)) (fun i=>l.length - i) ?_ 0 some [] _ ⟨Nat.zero_le _,hB.symm⟩ ?_
 ·intro i hi again
  refine drv_sound (n:=100) (rs:=_) Try.func37 mo rfl none _ _ ?_
  rcases Nat.lt_or_ge i l.length with hlt | hge
  ·obtain ⟨⟨k,t,⟨ik,iv,iks⟩,⟨vk,vv,vks⟩,c,b,e⟩,hx⟩:∃ x,l[i]? = some x:=⟨l[i],by simp [hlt]⟩
   have hI:=hi.2
   obtain ⟨_,he⟩:=List.getElem?_eq_some_iff.1 hx
   have hmem:=List.mem_of_getElem? hx
   rw [List.drop_eq_getElem_cons hlt,he,List.all_cons] at hI
   simp only [go_sem,hx,hlt]
   (with_reducible and_intros)<;>try exact sd
   refine XK.plain (ih _ (Nat.le_trans (mem_le_lsize hmem) hl)) ok52 ?_ (hbT ()) (fun _=>by kernel_rfl)
   refine drv_sound (n:=100) (rs:=_) Try.func37 mo rfl (some _) _ _ ?_
   simp only [go_sem]
   refine And.intro (by kernel_rfl) ⟨fun hno=>RetOb.plain (d:=DB false) ⟨?_,rfl⟩ rfl,fun hyes=>⟨?_,?_⟩⟩
   ·rw [hno] at hI;rw [hI];rfl
   ·cases d with
    | zero=>simp [stmtOK] at hyes
    | succ d=>have:=len_le_lsize (d:=d) l;simp only [InK];omega
   ·refine again (i+1) some [] _ ⟨by omega,?_⟩ (by omega) ?_
    ·rw [hI,hyes];rfl
    ·simp only [go_sem,TmOK,DM,DMs,CM,CMs,forall_eq,exists_eq_left,Mt,HpOK,LowOK]
     simp
  ·have hn:¬ i<l.length:=by omega
   simp only [go_sem,hn]
   refine RetOb.plain (d:=DB true) ⟨?_,rfl⟩ rfl
   rw [hi.2,List.drop_of_length_le hge];rfl
 ·simp only [go_sem,TmOK,DM,DMs,CM,CMs,forall_eq,exists_eq_left,Mt,HpOK,LowOK]
  simp
end Go.Proofs.Ytlapccpnilomfaa.CtR
