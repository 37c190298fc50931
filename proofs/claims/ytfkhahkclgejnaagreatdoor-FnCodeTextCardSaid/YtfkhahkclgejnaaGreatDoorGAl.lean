/- Contracts of functions of the program, one behind the other, as plain data: what each call returns and which blocks it leaves. -/
import Derived.Test.YtfkhahkclgejnaaGreatDoorGFacts
import Derived.Test.YtfkhahkclgejnaaGreatDoorGXy
set_option linter.unusedVariables false
set_option linter.unusedSimpArgs false
set_option linter.unusedSectionVars false
set_option maxHeartbeats 16000000
set_option maxRecDepth 100000
namespace Go.Proofs.YtfkhahkclgejnaaGreatDoor.CtR
open Go Go.CT CtF
variable [Yn]
def arity (k:Int):Int:=if k=1∨k=2 then 0 else if k=3 then 1 else if 4≤k∧k≤10 then 2 else if k=11 then 3 else -1
theorem l2Arity (k:Int):DC Tryz.prog 134 [DI .i64 k] [] (fun d h=>d=DI .i64 (arity k)∧h=[]):=by
 refine dc_of_go Tryz.func134 rfl (by simp) ?_
 refine drv_sound (n:=100) (rs:=_) Tryz.func134 mo rfl none _ _ ?_
 simp only [go_sem]
 repeat' (first | with_reducible apply And.intro | with_reducible intro _)
 all_goals first | omega | skip
 all_goals refine RetOb.plain (d:=DI .i64 _) ⟨?_,rfl⟩ rfl
 all_goals (unfold arity;simp only [DI];congr 3;repeat' split)<;>omega
theorem within (n lo hi:Int):DC Tryz.prog 39 [DI .i64 n,DI .i64 lo,DI .i64 hi] [] (fun d h=>d=DB (decide (lo≤n) && decide (n≤hi))∧h=[]):=by
 refine dc_of_go Tryz.func39 rfl (by simp) ?_
 refine drv_sound (n:=100) (rs:=_) Tryz.func39 mo rfl none _ _ ?_
 simp only [go_sem,Pg.cells,Ex.cells,isI,I64]
 repeat' (first | with_reducible apply And.intro | with_reducible intro _)
 all_goals first | omega | skip
 all_goals refine RetOb.plain (d:=DB _) ⟨?_,rfl⟩ rfl
 all_goals simp [DB]
theorem labelValidS (n:Int):DC Tryz.prog 64 [DI .i64 n] [] (fun d h=>d=DB (decide (0≤n) && decide (n≤3))∧h=[]):=by
 refine dc_of_go Tryz.func64 rfl (by simp) ?_
 refine drv_sound (n:=100) (rs:=_) Tryz.func64 mo rfl none _ _ ?_
 simp only [go_sem,Pg.cells,Ex.cells,isI,I64]
 repeat' (first | with_reducible apply And.intro | with_reducible intro _)
 all_goals first | omega | skip
 all_goals refine RetOb.plain (d:=DB _) ⟨?_,rfl⟩ rfl
 all_goals simp [DB]
def limit (p:Pg) (k:Int):Int:=if k=1 then 256 else if k=2 then p.vars.length else if k=3 then p.arrays.length else 1
def atom (e:Ex):Bool:=e.kind == 1 || e.kind == 2
theorem l2Limit (p:Pg) (k:Int):DC Tryz.prog 143 [.agg p.cells,DI .i64 k] [] (fun d h=>d=DI .i64 (limit p k)∧h=[]):=by
 refine dc_of_go Tryz.func143 rfl (by simp) ?_
 refine drv_sound (n:=100) (rs:=_) Tryz.func143 mo rfl none _ _ ?_
 simp only [go_sem,Pg.cells,Ex.cells,isI,I64]
 repeat' (first | with_reducible apply And.intro | with_reducible intro _)
 all_goals first | omega | skip
 all_goals refine RetOb.plain (d:=DI .i64 _) ⟨?_,rfl⟩ rfl
 all_goals (unfold limit;simp_all [DI])
theorem l2Atom (e:Ex):DC Tryz.prog 129 [.agg e.cells] [] (fun d h=>d=DB (atom e)∧h=[]):=by
 refine dc_of_go Tryz.func129 rfl (by simp) ?_
 refine drv_sound (n:=100) (rs:=_) Tryz.func129 mo rfl none _ _ ?_
 obtain ⟨k,v,ks⟩:=e
 simp only [go_sem,Pg.cells,Ex.cells,isI,I64]
 repeat' (first | with_reducible apply And.intro | with_reducible intro _)
 all_goals first | omega | skip
 all_goals refine RetOb.plain (d:=DB _) ⟨?_,rfl⟩ rfl
 all_goals simp [DB,atom,Ex.kind]
theorem labelValidI (n:Int):DC Tryz.prog 96 [DI .i64 n] [] (fun d h=>d=DB (decide (0≤n) && decide (n≤3))∧h=[]):=by
 refine dc_of_go Tryz.func96 rfl (by simp) ?_
 refine drv_sound (n:=100) (rs:=_) Tryz.func96 mo rfl none _ _ ?_
 simp only [go_sem]
 refine XK.plain (within n 0 3) ok39 ?_
 refine drv_sound (n:=100) (rs:=_) Tryz.func96 mo rfl (some _) _ _ ?_
 simp only [go_sem]
 exact RetOb.plain (d:=DB _) ⟨rfl,rfl⟩ rfl
theorem areLabels1 (n:Int):DC Tryz.prog 95 [DI .i64 n] [] (fun d h=>d=DB (!(decide (0≤n) && decide (n≤3)))∧h=[]):=by
 refine dc_of_go Tryz.func95 rfl (by simp) ?_
 refine drv_sound (n:=100) (rs:=_) Tryz.func95 mo rfl none _ _ ?_
 simp only [go_sem]
 refine XK.plain (labelValidI n) ok96 ?_
 refine drv_sound (n:=100) (rs:=_) Tryz.func95 mo rfl (some _) _ _ ?_
 simp only [go_sem]
 exact RetOb.plain (d:=DB _) ⟨rfl,rfl⟩ rfl
def none0 (e:Ex):Bool:=e.kind == 0 && e.value == 0 && e.kids.isEmpty
theorem l2None (e:Ex):DC Tryz.prog 137 [.agg e.cells] [] (fun d h=>d=DB (none0 e)∧h=[]):=by
 refine dc_of_go Tryz.func137 rfl (by simp) ?_
 refine drv_sound (n:=100) (rs:=_) Tryz.func137 mo rfl none _ _ ?_
 obtain ⟨k,v,ks⟩:=e
 simp only [go_sem,Pg.cells,Ex.cells,isI,I64]
 repeat' (first | with_reducible apply And.intro | with_reducible intro _)
 all_goals first | kernel_rfl | omega | skip
 all_goals refine RetOb.plain (d:=DB _) ⟨?_,rfl⟩ rfl
 all_goals (cases ks<;>simp [DB,none0,Ex.kind,Ex.value,Ex.kids,Ex.cellsL]<;>omega)
def idxF (q : Int → Bool) : List Int → Int → Int
 | [],_ => -1
 | x :: r,i=>if q x then i else idxF q r (i+1)
theorem indexFunc (g : Nat) (q : Int → Bool) (xs : List Int) (hl : xs.length ≤ mx) (hok : fnOK Tryz.prog g = true) (hg : ∀ n ∈ xs, DC Tryz.prog g [DI .i64 n] [] (fun d h => d = DB (q n) ∧ h = [])) :
 DC Tryz.prog 112 [ints xs,.c (.clo g [])] [] (fun d h=>d=DI .i64 (idxF q xs 0)∧h=[]):=by
 have hmx:=mx_eq
 refine dc_of_go Tryz.func112 rfl (by simp) ?_
 refine drv_sound (n:=100) (rs:=_) Tryz.func112 mo rfl none _ _ ?_
 simp only [go_sem,ints]
 refine Go.loopL (fun i:Nat=>[(0,ints xs),(1,.c (.clo g [])),(7,DI .i64 xs.length),(8,DI .i64 i)]) (fun _=>[]) 1024 (fun i=>i≤xs.length∧idxF q (xs.drop i) i=idxF q xs 0) (fun i=>xs.length - i) ?_ 0 some [] _ ⟨Nat.zero_le _,rfl⟩ ?_
 ·intro i hi again
  refine drv_sound (n:=100) (rs:=_) Tryz.func112 mo rfl none _ _ ?_
  rcases Nat.lt_or_ge i xs.length with hlt | hge
  ·obtain ⟨x,hx⟩:∃ x,xs[i]? = some x:=⟨xs[i],by simp [hlt]⟩
   have hmem:x ∈ xs:=List.mem_of_getElem? hx
   have hdrop:xs.drop i=x :: xs.drop (i+1):=by
    obtain ⟨_,e⟩:=List.getElem?_eq_some_iff.1 hx
    rw [List.drop_eq_getElem_cons hlt,e]
   have hI:=hi.2
   rw [hdrop] at hI
   simp only [go_sem,ints,hx]
   refine ⟨fun _=>?_,fun h=>by omega⟩
   refine XK.plain (hg x hmem) hok ?_
   refine drv_sound (n:=100) (rs:=_) Tryz.func112 mo rfl (some _) _ _ ?_
   simp only [go_sem,ints]
   refine ⟨fun hq=>?_,fun hq=>⟨by simp only [InK];omega,?_⟩⟩
   ·refine RetOb.plain (d:=DI .i64 _) ⟨?_,rfl⟩ rfl
    rw [← hI];simp [idxF,hq,DI]
   ·refine again (i+1) some [] _ ⟨by omega,?_⟩ (by omega) (Mt.slots ?_)
    ·rw [← hI];simp [idxF,hq]
    ·simp only [go_sem,TmOK,DM,DMs,CM,CMs,forall_eq,exists_eq_left,ints]
  ·simp only [go_sem,ints]
   refine ⟨fun h=>by omega,fun _=>?_⟩
   refine RetOb.plain (d:=DI .i64 _) ⟨?_,rfl⟩ rfl
   rw [← hi.2,List.drop_of_length_le hge];rfl
 ·refine Mt.slots ?_
  simp only [go_sem,TmOK,DM,DMs,CM,CMs,forall_eq,exists_eq_left,ints]
theorem idxF_any (q : Int → Bool) : ∀ (xs : List Int) (i : Int), 0 ≤ i → decide (0 ≤ idxF q xs i) = xs.any q
 | [],i,_=>by simp [idxF]
 | x :: r,i,h=>by
  unfold idxF
  by_cases hq:q x=true
  ·simp [hq,h]
  ·simp only [hq,Bool.false_eq_true,if_false,List.any_cons,Bool.not_eq_true] at *
   rw [idxF_any q r (i+1) (by omega)];simp [hq]
theorem containsFunc (g : Nat) (q : Int → Bool) (xs : List Int) (hl : xs.length ≤ mx) (hok : fnOK Tryz.prog g = true) (hg : ∀ n ∈ xs, DC Tryz.prog g [DI .i64 n] [] (fun d h => d = DB (q n) ∧ h = [])) :
 DC Tryz.prog 94 [ints xs,.c (.clo g [])] [] (fun d h=>d=DB (xs.any q)∧h=[]):=by
 refine dc_of_go Tryz.func94 rfl (by simp) ?_
 refine drv_sound (n:=100) (rs:=_) Tryz.func94 mo rfl none _ _ ?_
 simp only [go_sem,ints]
 refine XK.plain (indexFunc g q xs hl hok hg) ok112 ?_
 refine drv_sound (n:=100) (rs:=_) Tryz.func94 mo rfl (some _) _ _ ?_
 simp only [go_sem,ints]
 refine RetOb.plain (d:=DB _) ⟨?_,rfl⟩ rfl
 simp only [DB];rw [idxF_any q xs 0 (by omega)]
def labs (xs:List Int):Bool:=xs.all fun n=>decide (0≤n) && decide (n≤3)
theorem areLabels (xs:List Int) (hl:xs.length≤mx):DC Tryz.prog 68 [ints xs] [] (fun d h=>d=DB (labs xs)∧h=[]):=by
 refine dc_of_go Tryz.func68 rfl (by simp) ?_
 refine drv_sound (n:=100) (rs:=_) Tryz.func68 mo rfl none _ _ ?_
 simp only [go_sem,ints]
 refine XK.plain (containsFunc 95 _ xs hl ok95 fun n _=>areLabels1 n) ok94 ?_
 refine drv_sound (n:=100) (rs:=_) Tryz.func68 mo rfl (some _) _ _ ?_
 simp only [go_sem,ints]
 refine RetOb.plain (d:=DB _) ⟨?_,rfl⟩ rfl
 simp [DB,labs,List.all_eq_not_any_not]
def headsOK (vs ar:List Int):Bool:=decide (1≤(vs.length:Int)) && decide ((vs.length:Int)≤12) && decide ((ar.length:Int)≤2) && labs vs && labs ar
theorem declared (vs ar:List Int) (hl:vs.length≤mx) (hl2:ar.length≤mx):DC Tryz.prog 38 [ints vs,ints ar] [] (fun d h=>d=DB (headsOK vs ar)∧h=[]):=by
 have hmx:=mx_eq
 refine dc_of_go Tryz.func38 rfl (by simp) ?_
 refine drv_sound (n:=100) (rs:=_) Tryz.func38 mo rfl none _ _ ?_
 simp only [go_sem,ints]
 refine XK.plain (within vs.length 1 12) ok39 ?_
 refine drv_sound (n:=100) (rs:=_) Tryz.func38 mo rfl (some _) _ _ ?_
 simp only [go_sem,ints]
 refine XK.gplain 8 true ((decide (1≤(vs.length:Int)) && decide ((vs.length:Int)≤12)) && decide ((ar.length:Int)≤2)) (fun _=>areLabels vs hl) ok68 ?_ (hok:=by intro hx;simp [okP,getCall,Call.operands,evT,upd,peelB,DB,DI,cst,one] at hx ⊢;first | done | exact hx | (simp_all;done) | omega)
 refine drv_sound (n:=100) (rs:=_) Tryz.func38 mo rfl (some _) _ _ ?_
 simp only [go_sem,ints]
 refine XK.gplain 12 true (((decide (1≤(vs.length:Int)) && decide ((vs.length:Int)≤12)) && decide ((ar.length:Int)≤2)) && labs vs) (fun _=>areLabels ar hl2) ok68 ?_ (hok:=by intro hx;simp [okP,getCall,Call.operands,evT,upd,peelB,DB,DI,cst,one] at hx ⊢;first | done | exact hx | (simp_all;done) | omega)
 refine drv_sound (n:=100) (rs:=_) Tryz.func38 mo rfl (some _) _ _ ?_
 simp only [go_sem,ints]
 exact RetOb.plain (d:=DB _) ⟨by simp [DB,headsOK],rfl⟩ rfl
theorem notlab (x:Int) (hq:0≤x→3<x):(decide (0≤x) && decide (x≤3))=false:=by
 by_cases h:0≤x
 ·have:=hq h;simp;omega
 ·simp [h]
theorem l2Heads (p:Pg) (hl:p.vars.length≤mx) (hl2:p.arrays.length≤mx):DC Tryz.prog 43 [.agg p.cells] [] (fun d h=>d=DB (headsOK p.vars p.arrays)∧h=[]):=by
 have hmx:=mx_eq
 obtain ⟨vs,ar,bd⟩:=p
 simp only at hl hl2
 have stepL:∀ (xs:List Int) (i:Nat) (x:Int),xs[i]? = some x→labs (xs.drop i)=((decide (0≤x) && decide (x≤3)) && labs (xs.drop (i+1))):=fun xs i x hx=>by
  obtain ⟨hlt,e⟩:=List.getElem?_eq_some_iff.1 hx
  rw [List.drop_eq_getElem_cons hlt,e];simp [labs]
 have ret:∀ (b:Bool) (hp:Hp),b=headsOK vs ar→RetOb 0 (fun d h=>d=DB (headsOK vs ar)∧h=[]) (DB b) hp:=fun b hp h=>RetOb.plain (d:=DB _) ⟨by rw [h],rfl⟩ rfl
 refine dc_of_go Tryz.func43 rfl (by simp) ?_
 refine drv_sound (n:=100) (rs:=_) Tryz.func43 mo rfl none _ _ ?_
 simp only [go_sem,Pg.cells,isI,I64]
 have inv:∀ (q:Bool) (fz:List Nat) (tl:List (Nat × D)) (S:Ms),TmOK (hOf [(0,some [.isl 1 (vs.map fun n=>[.v (.int .i64 n)]),.isl 1 (ar.map fun n=>[.v (.int .i64 n)]),.isl 11 (St1.cellsL bd)])]) some S.hp fz S.tm tl→0 ∉ fz→S.hp 0=some (some [.isl 1 (vs.map fun n=>[.v (.int .i64 n)]),.isl 1 (ar.map fun n=>[.v (.int .i64 n)]),.isl 11 (St1.cellsL bd)])→Mt 0 some fz tl [(0,some [.isl 1 (vs.map fun n=>[.v (.int .i64 n)]),.isl 1 (ar.map fun n=>[.v (.int .i64 n)]),.isl 11 (St1.cellsL bd)])] S :=
  fun q fz tl S h1 h2 h3=>Mt.one h1 h2 h3 (by simp [kf])
 refine Go.loopL (fun i:Nat=>[(1,.c (.ptr 0 0)),(3,DI .i64 i)]) (fun _=>[(0,some [.isl 1 (vs.map fun n=>[.v (.int .i64 n)]),.isl 1 (ar.map fun n=>[.v (.int .i64 n)]),.isl 11 (St1.cellsL bd)])]) 1024 (fun i=>i≤vs.length∧labs (vs.drop i)=labs vs) (fun i=>vs.length - i) ?_ 0 some [] _ ⟨Nat.zero_le _,rfl⟩ ?_
 ·intro i hi again
  refine drv_sound (n:=100) (rs:=_) Tryz.func43 mo rfl none _ _ ?_
  rcases Nat.lt_or_ge i vs.length with hlt | hge
  ·obtain ⟨x,hx⟩:∃ x,vs[i]? = some x:=⟨vs[i],by simp [hlt]⟩
   have hI:=hi.2
   rw [stepL vs i x hx] at hI
   simp only [go_sem,hx,hlt]
   refine XK.plain (labelValidS x) ok64 ?_ (hbT ())
   refine drv_sound (n:=100) (rs:=_) Tryz.func43 mo rfl (some _) _ _ ?_
   simp only [go_sem]
   refine ⟨fun hq=>ret _ _ ?_,fun hq=>⟨by simp only [InK];omega,?_⟩⟩
   ·rw [notlab x hq] at hI;simp [headsOK,← hI]
   ·refine again (i+1) some [] _ ⟨by omega,?_⟩ (by omega) (inv true _ _ _ ?_ (by simp) (by rfl))
    ·rw [← hI];simp [hq.1,hq.2]
    ·simp only [go_sem,TmOK,DM,DMs,CM,CMs,forall_eq,exists_eq_left]
  ·have hn:¬ i<vs.length:=by omega
   simp only [go_sem,hn]
   have hlv:labs vs=true:=by rw [← hi.2,List.drop_of_length_le hge];rfl
   refine Go.loopL (fun i:Nat=>[(1,.c (.ptr 0 0)),(4,DI .i64 i)]) (fun _=>[(0,some [.isl 1 (vs.map fun n=>[.v (.int .i64 n)]),.isl 1 (ar.map fun n=>[.v (.int .i64 n)]),.isl 11 (St1.cellsL bd)])]) 2048 (fun i=>i≤ar.length∧labs (ar.drop i)=labs ar) (fun i=>ar.length - i) ?_ 0 some [] _ ⟨Nat.zero_le _,rfl⟩ ?_
   ·intro i hi again
    refine drv_sound (n:=100) (rs:=_) Tryz.func43 mo rfl none _ _ ?_
    rcases Nat.lt_or_ge i ar.length with hlt | hge
    ·obtain ⟨x,hx⟩:∃ x,ar[i]? = some x:=⟨ar[i],by simp [hlt]⟩
     have hI:=hi.2
     rw [stepL ar i x hx] at hI
     simp only [go_sem,hx,hlt]
     refine XK.plain (labelValidS x) ok64 ?_ (hbT ())
     refine drv_sound (n:=100) (rs:=_) Tryz.func43 mo rfl (some _) _ _ ?_
     simp only [go_sem]
     refine ⟨fun hq=>ret _ _ ?_,fun hq=>⟨by simp only [InK];omega,?_⟩⟩
     ·rw [notlab x hq] at hI;simp [headsOK,← hI]
     ·refine again (i+1) some [] _ ⟨by omega,?_⟩ (by omega) (inv true _ _ _ ?_ (by simp) (by rfl))
      ·rw [← hI];simp [hq.1,hq.2]
      ·simp only [go_sem,TmOK,DM,DMs,CM,CMs,forall_eq,exists_eq_left]
    ·have hn:¬ i<ar.length:=by omega
     have hla:labs ar=true:=by rw [← hi.2,List.drop_of_length_le hge];rfl
     simp only [go_sem,hn]
     refine ret _ _ ?_
     simp [headsOK,hlv,hla]
     first | done | omega
   ·refine inv true _ _ _ ?_ (by simp) (by rfl)
    simp only [go_sem,TmOK,DM,DMs,CM,CMs,forall_eq,exists_eq_left]
 ·refine inv true _ _ _ ?_ (by simp) (by rfl)
  simp only [go_sem,TmOK,DM,DMs,CM,CMs,forall_eq,exists_eq_left]
def headAtom : List Ex → Bool
 | []=>false
 | a :: _=>atom a
def fitsE (p:Pg) (k v:Int) (n:Nat):Bool:=decide ((n:Int)=arity k) && decide (0≤v) && decide (v<limit p k)
def shape (p : Pg) : Nat → Ex → Bool
 | 0,_=>false
 | d+1,.mk k v ks=>fitsE p k v ks.length && ks.all (shape p d) && (!(k == 3) || headAtom ks)
theorem arity_le (k:Int):arity k≤3:=by
 unfold arity;repeat' split
 all_goals omega
theorem fitsE_false {p:Pg} {k v:Int} {n:Nat} (h:¬ ((n:Int)=arity k)∨v<0∨limit p k≤v):fitsE p k v n=false:=by
 rw [Bool.eq_false_iff];simp [fitsE];omega
theorem fitsE_true {p:Pg} {k v:Int} {n:Nat} (h:(n:Int)=arity k) (h2:0≤v) (h3:v<limit p k):fitsE p k v n=true:=by
 simp [fitsE];omega
theorem l2Shape (p:Pg) (hl:p.vars.length≤mx) (hl2:p.arrays.length≤mx):∀ (d:Nat) (e:Ex),d≤5→DC Tryz.prog 135 [.agg p.cells,.agg e.cells,DI .i64 d] [] (fun r h=>r=DB (shape p d e)∧h=[]):=by
 have hmx:=mx_eq
 intro d
 induction d using Nat.strongRecOn with
 | _ d ih =>
  intro e hd
  obtain ⟨k,v,ks⟩:=e
  obtain ⟨vs,ar,bd⟩:=p
  refine dc_of_go Tryz.func135 rfl (by simp) ?_
  refine drv_sound (n:=100) (rs:=_) Tryz.func135 mo rfl none _ _ ?_
  simp only [go_sem]
  repeat refine And.intro (by kernel_rfl) ?_
  refine XK.gplain 2 false (!(decide ((d:Int)<1))) (fun _=>l2Arity k) ok134 ?_ (hbT ()) (fun _=>by kernel_rfl) (hok:=by intro hx;simp [okP,getCall,Call.operands,evT,upd,peelB,DB,DI,cst,one] at hx ⊢;first | done | exact hx | (simp_all;done) | omega)
  refine drv_sound (n:=100) (rs:=_) Tryz.func135 mo rfl (some _) _ _ ?_
  simp only [go_sem]
  repeat refine And.intro (by kernel_rfl) ?_
  refine XK.gplain 16 false (!((decide ((d:Int)<1) || ((ks.length:Int) != arity k)) || decide (v<0))) (fun _=>l2Limit ⟨vs,ar,bd⟩ k) ok143 ?_ (hbT ()) (fun _=>by kernel_rfl) (hok:=by intro hx;simp [okP,getCall,Call.operands,evT,upd,peelB,DB,DI,cst,one] at hx ⊢;first | done | exact hx | (simp_all;done) | omega)
  refine drv_sound (n:=100) (rs:=_) Tryz.func135 mo rfl (some _) _ _ ?_
  simp only [go_sem]
  refine And.intro (by kernel_rfl) (And.intro (by kernel_rfl) ⟨fun hno=>RetOb.plain (d:=DB false) ⟨?_,rfl⟩ rfl,fun hyes=>?_⟩)
  ·cases d with
   | zero=>rfl
   | succ d =>
    simp only [shape]
    rw [fitsE_false (by omega)]
    rfl
  obtain ⟨d',rfl⟩:∃ d',d=d' + 1:=⟨d - 1,by omega⟩
  have ks3:ks.length≤3:=by have:=arity_le k;omega
  have hfit:=fitsE_true (p:=⟨vs,ar,bd⟩) (v:=v) hyes.1.1.2 hyes.1.2 hyes.2
  refine Go.loopL (fun i:Nat=>[(2,DI .i64 ((d' + 1:Nat):Int)),(3,.c (.ptr 0 0)),(4,.c (.ptr 64 0)),(7,DI .i64 i)]) (fun _=>[(0,some (Pg.cells ⟨vs,ar,bd⟩)),(64,some (Ex.cells (.mk k v ks)))]) 1024 (fun i=>i≤ks.length∧ks.all (shape ⟨vs,ar,bd⟩ d')=(ks.drop i).all (shape ⟨vs,ar,bd⟩ d')) (fun i=>ks.length - i) ?_ 0 some [] _ ⟨Nat.zero_le _,rfl⟩ ?_
  ·intro i hi again
   refine drv_sound (n:=100) (rs:=_) Tryz.func135 mo rfl none _ _ ?_
   rcases Nat.lt_or_ge i ks.length with hlt | hge
   ·obtain ⟨⟨k',v',ks'⟩,hx⟩:∃ x,ks[i]? = some x:=⟨ks[i],by simp [hlt]⟩
    have hI:=hi.2
    obtain ⟨_,he⟩:=List.getElem?_eq_some_iff.1 hx
    rw [List.drop_eq_getElem_cons hlt,he,List.all_cons] at hI
    simp only [go_sem,hx,hlt]
    (with_reducible and_intros)<;>try exact sd
    refine XK.plain (ih d' (by omega) (.mk k' v' ks') (by omega)) ok135 ?_ (hbT ()) (fun _=>by kernel_rfl)
    refine drv_sound (n:=100) (rs:=_) Tryz.func135 mo rfl (some _) _ _ ?_
    simp only [go_sem]
    refine And.intro (by kernel_rfl) ⟨fun hno=>RetOb.plain (d:=DB false) ⟨?_,rfl⟩ rfl,fun hyes=>⟨by simp only [InK];omega,?_⟩⟩
    ·rw [hno] at hI
     simp [DB,shape,hI]
    ·refine again (i+1) some [] _ ⟨by omega,?_⟩ (by omega) ?_
     ·rw [hI,hyes];rfl
     ·simp only [go_sem,TmOK,DM,DMs,CM,CMs,forall_eq,exists_eq_left,Mt,HpOK,LowOK]
      simp
   ·have hn:¬ i<ks.length:=by omega
    have hall:ks.all (shape ⟨vs,ar,bd⟩ d')=true:=by rw [hi.2,List.drop_of_length_le hge];rfl
    have ret:∀ (hp:Hp) (b:Bool),b=(!(k == 3) || headAtom ks)→RetOb 0 (fun d h=>d=DB (shape ⟨vs,ar,bd⟩ (d' + 1) (.mk k v ks))∧h=[]) (DB b) hp:=fun hp b hb=>RetOb.plain (d:=DB _) ⟨by simp [shape,hfit,hall,hb],rfl⟩ rfl
    rcases ks with _ | ⟨⟨k',v',ks'⟩,r⟩
    ·have hk3:k ≠ 3:=by rintro rfl;have:=hyes.1.1.2;simp [arity] at this
     have hb3:(k != 3)=true:=by simp [hk3]
     have hc3:(k == 3)=false:=by simp [hk3]
     have hi0:((i:Int)<0)=False:=by simp
     simp only [go_sem,hi0,hk3,hb3,hc3,Ex.cellsL]
     refine XK.gskip 3 false (DB false) ?_ (hbT ())
     refine drv_sound (n:=100) (rs:=_) Tryz.func135 mo rfl (some _) _ _ ?_
     simp only [go_sem]
     refine ret _ _ ?_
     simp [hk3]
    ·have hi0:((i:Int)<(r.length:Int)+1)=False:=by simp at hn;simp;omega
     simp only [go_sem,hi0,Ex.cellsL]
     refine XK.gplain 3 false (!(k != 3)) (fun _=>l2Atom (.mk k' v' ks')) ok129 ?_ (hbT ()) (hok:=by intro hx;simp [okP,getCall,Call.operands,evT,upd,peelB,DB,DI] at hx ⊢;first | done | exact hx | (simp_all;done) | omega)
     refine drv_sound (n:=100) (rs:=_) Tryz.func135 mo rfl (some _) _ _ ?_
     simp only [go_sem]
     refine ret _ _ ?_
     simp [headAtom,bne]
  ·simp only [go_sem,TmOK,DM,DMs,CM,CMs,forall_eq,exists_eq_left,Mt,HpOK,LowOK]
   simp
def cnt : Nat → Ex → Nat
 | 0,_=>1
 | d+1,.mk _ _ ks=>1+(ks.map (cnt d)).sum
theorem sum_le {α : Type} (f : α → Nat) (B : Nat) : ∀ l : List α, (∀ x ∈ l, f x ≤ B) → (l.map f).sum ≤ l.length * B
 | [],_=>by simp
 | a :: r,h=>by
  have h1:=h a (by simp)
  have h2:=sum_le f B r fun x hx=>h x (by simp [hx])
  simp only [List.map_cons,List.sum_cons,List.length_cons,Nat.add_mul]
  omega
theorem shape_succ {p:Pg} {d:Nat} {k v:Int} {ks:List Ex} (h:shape p (d+1) (.mk k v ks)=true):fitsE p k v ks.length=true∧(∀ x ∈ ks,shape p d x=true)∧(k=3→headAtom ks=true):=by
 simp only [shape,Bool.and_eq_true,List.all_eq_true,Bool.or_eq_true] at h
 refine ⟨h.1.1,h.1.2,fun hk=>?_⟩
 rcases h.2 with h2 | h2
 ·simp [hk] at h2
 ·exact h2
theorem fits_len {p:Pg} {k v:Int} {n:Nat} (h:fitsE p k v n=true):n≤3∧(n:Int)=arity k∧0≤v∧v<limit p k:=by
 simp [fitsE] at h
 have:=arity_le k
 omega
theorem cnt_le (p : Pg) : ∀ (d : Nat) (e : Ex), shape p d e = true → cnt d e ≤ 4 ^ d
 | 0,_,h=>by simp [shape] at h
 | d+1,.mk k v ks,h=>by
  obtain ⟨h1,h2,_⟩:=shape_succ h
  have h3:=(fits_len h1).1
  have:=sum_le (cnt d) (4 ^ d) ks fun x hx=>cnt_le p d x (h2 x hx)
  have h4:ks.length * 4 ^ d≤3 * 4 ^ d:=Nat.mul_le_mul_right _ h3
  have h5:1≤4 ^ d:=Nat.pow_pos (by decide)
  simp only [cnt,Nat.pow_succ]
  omega
def tsum {α:Type} (f:α→Nat) (ks:List α) (i:Nat):Nat:=((ks.take i).map f).sum
theorem tsum_le {α:Type} (f:α→Nat) (ks:List α) (i:Nat):tsum f ks i≤(ks.map f).sum:=by
 conv=>rhs;rw [← List.take_append_drop i ks,List.map_append,List.sum_append]
 unfold tsum;omega
theorem tsum_succ {α:Type} (f:α→Nat) (ks:List α) (i:Nat) (x:α) (hx:ks[i]? = some x):tsum f ks (i+1)=tsum f ks i+f x:=by
 unfold tsum;rw [List.take_add_one,hx];simp
theorem tsum_zero {α:Type} (f:α→Nat) (ks:List α):tsum f ks 0=0:=rfl
theorem tsum_all {α:Type} (f:α→Nat) (ks:List α) {i:Nat} (h:ks.length≤i):tsum f ks i=(ks.map f).sum:=by
 unfold tsum;rw [List.take_of_length_le h]
theorem pow5 {d:Nat} (h:d≤5):4 ^ d≤1024:=Nat.le_trans (Nat.pow_le_pow_right (by omega) h) (by decide)
theorem l2Count (p:Pg):∀ (d:Nat) (e:Ex),d≤5→shape p d e=true→DC Tryz.prog 136 [.agg e.cells,DI .i64 d] [] (fun r h=>r=DI .i64 (cnt d e)∧h=[]):=by
 intro d
 induction d using Nat.strongRecOn with
 | _ d ih =>
  intro e hd hsh
  obtain ⟨k,v,ks⟩:=e
  obtain ⟨d',rfl⟩:∃ d',d=d' + 1:=by
   cases d with
   | zero=>simp [shape] at hsh
   | succ d'=>exact ⟨d',rfl⟩
  have hpos:((0:Int)<(d':Int)+1)=True:=by simp
  have hcle:=cnt_le p _ _ hsh
  have h5:=pow5 hd
  obtain ⟨h1,h2,_⟩:=shape_succ hsh
  have hlen:=(fits_len h1).1
  simp only [cnt] at hcle
  refine dc_of_go Tryz.func136 rfl (by simp) ?_
  refine drv_sound (n:=100) (rs:=_) Tryz.func136 mo rfl none _ _ ?_
  simp only [go_sem]
  refine Go.loopL (fun i:Nat=>[(1,DI .i64 ((d' + 1:Nat):Int)),(2,.c (.ptr 0 0)),(5,DI .i64 (1+tsum (cnt d') ks i:Nat)),(6,DI .i64 i)]) (fun _=>[(0,some (Ex.cells (.mk k v ks)))]) 1024 (fun i=>i≤ks.length) (fun i=>ks.length - i) ?_ 0 some [] _ (Nat.zero_le _) ?_
  ·intro i hi again
   refine drv_sound (n:=100) (rs:=_) Tryz.func136 mo rfl none _ _ ?_
   have ht:=tsum_le (cnt d') ks i
   rcases Nat.lt_or_ge i ks.length with hlt | hge
   ·obtain ⟨⟨k',v',ks'⟩,hx⟩:∃ x,ks[i]? = some x:=⟨ks[i],by simp [hlt]⟩
    have hs:=tsum_succ (cnt d') ks i _ hx
    have ht2:=tsum_le (cnt d') ks (i+1)
    simp only [go_sem,hx,hlt,hpos]
    (with_reducible and_intros)<;>try exact sd
    refine XK.plain (ih d' (by omega) (.mk k' v' ks') (by omega) (h2 _ (List.mem_of_getElem? hx))) ok136 ?_ (hbT ())
    refine drv_sound (n:=100) (rs:=_) Tryz.func136 mo rfl (some _) _ _ ?_
    simp only [go_sem]
    (with_reducible and_intros)<;>try exact sd
    refine again (i+1) some [] _ (by omega) (by omega) ?_
    simp only [go_sem,TmOK,DM,DMs,CM,CMs,forall_eq,exists_eq_left,Mt,HpOK,LowOK,hs]
    simp
    omega
   ·have hn:¬ i<ks.length:=by omega
    simp only [go_sem,hn]
    refine RetOb.plain (d:=DI .i64 _) ⟨?_,rfl⟩ rfl
    simp [DI,cnt,tsum_all _ _ hge]
  ·simp only [go_sem,TmOK,DM,DMs,CM,CMs,forall_eq,exists_eq_left,Mt,HpOK,LowOK,tsum_zero]
   simp
def right (p:Pg) (e:Ex):Bool:=shape p 5 e && decide ((cnt 5 e:Int)≤15)
theorem l2Right (p:Pg) (e:Ex) (hl:p.vars.length≤mx) (hl2:p.arrays.length≤mx):DC Tryz.prog 127 [.agg p.cells,.agg e.cells] [] (fun r h=>r=DB (right p e)∧h=[]):=by
 obtain ⟨k,v,ks⟩:=e
 obtain ⟨vs,ar,bd⟩:=p
 refine dc_of_go Tryz.func127 rfl (by simp) ?_
 refine drv_sound (n:=100) (rs:=_) Tryz.func127 mo rfl none _ _ ?_
 simp only [go_sem]
 refine XK.plain (l2Shape ⟨vs,ar,bd⟩ hl hl2 5 (.mk k v ks) (by omega)) ok135 ?_ (hbT ())
 refine drv_sound (n:=100) (rs:=_) Tryz.func127 mo rfl (some _) _ _ ?_
 simp only [go_sem]
 refine XK.gplain 3 true (shape ⟨vs,ar,bd⟩ 5 (.mk k v ks)) (fun h=>l2Count ⟨vs,ar,bd⟩ 5 (.mk k v ks) (by omega) h) ok136 ?_ (hbT ()) (hok:=by intro hx;simp [okP,getCall,Call.operands,evT,upd,peelB,DB,DI,cst,one] at hx ⊢;first | done | exact hx | (simp_all;done) | omega)
 refine drv_sound (n:=100) (rs:=_) Tryz.func127 mo rfl (some _) _ _ ?_
 simp only [go_sem]
 refine RetOb.plain (d:=DB _) ⟨?_,rfl⟩ rfl
 simp [right,DB]
def blk (k:Int):Bool:=k == 3 || k == 4
def parts (k t:Int) (ix v:Ex) (c:Int) (bn en:Nat):Bool :=
 !(!(blk k) && (decide (0<(bn:Int)) || decide (0<(en:Int))) || blk k && t != 0) &&
 (if k=4 then (en:Int) == 0 && decide (1≤c) && decide (c≤3) && none0 ix && none0 v else c == 0 && (k == 2 || none0 ix))
theorem l2Parts (s:St1):DC Tryz.prog 128 [.agg s.cells] [] (fun r h=>r=DB (parts s.kind s.target s.index s.value s.count s.body.length s.els.length)∧h=[]):=by
 obtain ⟨k,t,⟨ik,iv,iks⟩,⟨vk,vv,vks⟩,c,b,e⟩:=s
 generalize hB:parts _ _ _ _ _ _ _=B
 simp only [St1.kind,St1.target,St1.index,St1.value,St1.count,St1.body,St1.els] at hB
 refine dc_of_go Tryz.func128 rfl (by simp) ?_
 refine drv_sound (n:=100) (rs:=_) Tryz.func128 mo rfl none _ _ ?_
 simp only [go_sem]
 refine ⟨fun h=>⟨h,fun h2=>⟨h,h2⟩⟩,fun h=>⟨h,fun h2=>⟨h,h2⟩⟩,fun hno=>RetOb.plain (d:=DB false) ⟨?_,rfl⟩ rfl,fun hyes=>⟨fun hk=>?_,fun hk=>?_⟩⟩
 ·rw [← hB]
  simp only [DB];congr 3
  unfold parts blk
  grind
 ·refine XK.gplain 14 true ((((e.length:Int) == 0) && decide (1≤c)) && decide (c≤3)) (fun _=>l2None (.mk ik iv iks)) ok137 ?_
  refine drv_sound (n:=100) (rs:=_) Tryz.func128 mo rfl (some _) _ _ ?_
  simp only [go_sem]
  refine XK.gplain 19 true (((((e.length:Int) == 0) && decide (1≤c)) && decide (c≤3)) && none0 (.mk ik iv iks)) (fun _=>l2None (.mk vk vv vks)) ok137 ?_
  refine drv_sound (n:=100) (rs:=_) Tryz.func128 mo rfl (some _) _ _ ?_
  simp only [go_sem]
  refine RetOb.plain (d:=DB _) ⟨?_,rfl⟩ rfl
  rw [← hB]
  simp only [DB];congr 3
  unfold parts blk
  grind
 ·refine XK.gplain 7 false ((c == 0) && (!(k == 2))) (fun _=>l2None (.mk ik iv iks)) ok137 ?_
  refine drv_sound (n:=100) (rs:=_) Tryz.func128 mo rfl (some _) _ _ ?_
  simp only [go_sem]
  refine ⟨fun h=>⟨h,fun h2=>⟨h,h2⟩⟩,?_⟩
  refine RetOb.plain (d:=DB _) ⟨?_,rfl⟩ rfl
  rw [← hB]
  simp only [DB];congr 3
  unfold parts blk
  grind
def headOK (p:Pg) (k t:Int) (ix v:Ex) (c:Int) (bn en:Nat):Bool :=
 parts k t ix v c bn en && (if k = 1 ∨ k = 5 then decide (0 ≤ t) && decide (t < p.vars.length) && right p v
  else if k=2 then decide (0≤t) && decide (t<p.arrays.length) && right p ix && atom ix && right p v
  else if k=3 then right p v else k == 4)
def stmtOK (p : Pg) : Nat → St1 → Bool
 | 0,_=>false
 | d+1,.mk k t ix v c b e=>headOK p k t ix v c b.length e.length && b.all (stmtOK p d) && e.all (stmtOK p d)
def tsize : Nat → St1 → Nat
 | 0,_=>0
 | d+1,.mk _ _ _ _ _ b e=>1+(b.map (tsize d)).sum+(e.map (tsize d)).sum
def lsize (d:Nat) (l:List St1):Nat:=(l.map (tsize d)).sum
theorem tsize_pos {d:Nat} (s:St1):1≤tsize (d+1) s:=by cases s;simp [tsize];omega
theorem len_le_sum {α : Type} (f : α → Nat) : ∀ l : List α, (∀ x ∈ l, 1 ≤ f x) → l.length ≤ (l.map f).sum
 | [],_=>by simp
 | a :: r,h=>by
  have h1:=h a (by simp)
  have h2:=len_le_sum f r fun x hx=>h x (by simp [hx])
  simp only [List.map_cons,List.sum_cons,List.length_cons]
  omega
theorem len_le_lsize {d:Nat} (l:List St1):l.length≤lsize (d+1) l:=len_le_sum _ l fun x _=>tsize_pos x
theorem mem_le_sum {α : Type} (f : α → Nat) {x : α} : ∀ {l : List α}, x ∈ l → f x ≤ (l.map f).sum
 | a :: r,h=>by
  simp only [List.map_cons,List.sum_cons]
  rcases List.mem_cons.1 h with rfl | h
  ·omega
  ·have:=mem_le_sum f h;omega
theorem mem_le_lsize {d:Nat} {l:List St1} {s:St1} (h:s ∈ l):tsize d s≤lsize d l:=mem_le_sum _ h
theorem l2BlockOf (p : Pg) (d : Nat) (hd : d ≤ 5)
 (ih:∀ s,tsize d s≤1099511627776→DC Tryz.prog 124 [.agg p.cells,.agg s.cells,DI .i64 d] [] (fun r h=>r=DB (stmtOK p d s)∧h=[])) (l:List St1) (hl:lsize d l≤1099511627776) :
 DC Tryz.prog 114 [.agg p.cells,.c (.isl 11 (St1.cellsL l)),DI .i64 d] [] (fun r h=>r=DB (l.all (stmtOK p d))∧h=[]):=by
 obtain ⟨vs,ar,bd⟩:=p
 generalize hB:l.all (stmtOK ⟨vs,ar,bd⟩ d)=B
 refine dc_of_go Tryz.func114 rfl (by simp) ?_
 refine drv_sound (n:=100) (rs:=_) Tryz.func114 mo rfl none _ _ ?_
 simp only [go_sem]
 refine Go.loopL (fun i:Nat=>[(1,.c (.isl 11 (St1.cellsL l))),(2,DI .i64 d),(3,.c (.ptr 0 0)),(7,DI .i64 i)]) (fun _=>[(0,some (Pg.cells ⟨vs,ar,bd⟩))]) 1024 (fun i=>i≤l.length∧B=(l.drop i).all (stmtOK ⟨vs,ar,bd⟩ d)) (fun i=>l.length - i) ?_ 0 some [] _ ⟨Nat.zero_le _,hB.symm⟩ ?_
 ·intro i hi again
  refine drv_sound (n:=100) (rs:=_) Tryz.func114 mo rfl none _ _ ?_
  rcases Nat.lt_or_ge i l.length with hlt | hge
  ·obtain ⟨⟨k,t,⟨ik,iv,iks⟩,⟨vk,vv,vks⟩,c,b,e⟩,hx⟩:∃ x,l[i]? = some x:=⟨l[i],by simp [hlt]⟩
   have hI:=hi.2
   obtain ⟨_,he⟩:=List.getElem?_eq_some_iff.1 hx
   have hmem:=List.mem_of_getElem? hx
   rw [List.drop_eq_getElem_cons hlt,he,List.all_cons] at hI
   simp only [go_sem,hx,hlt]
   (with_reducible and_intros)<;>try exact sd
   refine XK.plain (ih _ (Nat.le_trans (mem_le_lsize hmem) hl)) ok124 ?_ (hbT ()) (fun _=>by kernel_rfl)
   refine drv_sound (n:=100) (rs:=_) Tryz.func114 mo rfl (some _) _ _ ?_
   simp only [go_sem]
   refine And.intro (by kernel_rfl) ⟨fun hno=>RetOb.plain (d:=DB false) ⟨?_,rfl⟩ rfl,fun hyes=>⟨?_,?_⟩⟩
   ·rw [hno] at hI;rw [hI];rfl
   ·cases d with
    | zero=>simp [stmtOK] at hyes
    | succ d=>have:=len_le_lsize (d:=d) l;simp only [InK];omega
   ·refine again (i+1) some [] _ ⟨by omega,?_⟩ (by omega) ?_
    ·rw [hI,hyes];rfl
    ·simp only [go_sem,TmOK,DM,DMs,CM,CMs,forall_eq,exists_eq_left,Mt,HpOK,LowOK]
     simp
  ·have hn:¬ i<l.length:=by omega
   simp only [go_sem,hn]
   refine RetOb.plain (d:=DB true) ⟨?_,rfl⟩ rfl
   rw [hi.2,List.drop_of_length_le hge];rfl
 ·simp only [go_sem,TmOK,DM,DMs,CM,CMs,forall_eq,exists_eq_left,Mt,HpOK,LowOK]
  simp
theorem l2Stmt0 (p:Pg) (s:St1):DC Tryz.prog 124 [.agg p.cells,.agg s.cells,DI .i64 (0:Nat)] [] (fun r h=>r=DB (stmtOK p 0 s)∧h=[]):=by
 obtain ⟨vs,ar,bd⟩:=p
 obtain ⟨k,t,⟨ik,iv,iks⟩,⟨vk,vv,vks⟩,c,b,e⟩:=s
 refine dc_of_go Tryz.func124 rfl (by simp) ?_
 refine drv_sound (n:=100) (rs:=_) Tryz.func124 mo rfl none _ _ ?_
 simp only [go_sem]
 refine XK.gskip 2 false (DB false) ?_
 refine drv_sound (n:=100) (rs:=_) Tryz.func124 mo rfl (some _) _ _ ?_
 simp only [go_sem]
 exact RetOb.plain (d:=DB false) ⟨rfl,rfl⟩ rfl
theorem l2StmtOf (p : Pg) (hl : p.vars.length ≤ mx) (hl2 : p.arrays.length ≤ mx) (d : Nat) (hd : d + 1 ≤ 5)
 (ih:∀ l,lsize d l≤1099511627776→DC Tryz.prog 114 [.agg p.cells,.c (.isl 11 (St1.cellsL l)),DI .i64 d] [] (fun r h=>r=DB (l.all (stmtOK p d))∧h=[]))
 (s:St1) (hs:tsize (d+1) s≤1099511627776) :
 DC Tryz.prog 124 [.agg p.cells,.agg s.cells,DI .i64 (d+1:Nat)] [] (fun r h=>r=DB (stmtOK p (d+1) s)∧h=[]):=by
 obtain ⟨vs,ar,bd⟩:=p
 obtain ⟨k,t,⟨ik,iv,iks⟩,⟨vk,vv,vks⟩,c,b,e⟩:=s
 have hsb:lsize d b≤1099511627776:=by simp only [tsize] at hs;unfold lsize;omega
 have hse:lsize d e≤1099511627776:=by simp only [tsize] at hs;unfold lsize;omega
 have hd1:((d:Int)+1<1)=False:=eq_false (by omega)
 generalize hB:stmtOK _ _ _=B
 simp only [stmtOK,headOK] at hB
 have hp:=l2Parts (.mk k t (.mk ik iv iks) (.mk vk vv vks) c b e)
 simp only [St1.kind,St1.target,St1.index,St1.value,St1.count,St1.body,St1.els] at hp
 generalize hP:parts _ _ _ _ _ _ _=PB at hp hB
 have hr:=fun x=>l2Right ⟨vs,ar,bd⟩ x hl hl2
 refine dc_of_go Tryz.func124 rfl (by simp) ?_
 refine drv_sound (n:=100) (rs:=_) Tryz.func124 mo rfl none _ _ ?_
 simp only [go_sem]
 refine XK.gplain 2 false (!(decide ((d:Int)+1<1))) (fun _=>hp) ok128 ?_ (hok:=by intro hx;simp [okP,getCall,Call.operands,evT,upd,peelB,DB,DI,cst,one] at hx ⊢;first | done | exact hx | (simp_all;done) | omega)
 have hyes:PB=false∨PB=true:=by cases PB<;>simp
 rcases hyes with hno | hyes
 ·subst hno
  refine drv_sound (n:=100) (rs:=_) Tryz.func124 mo rfl (some _) _ _ ?_
  simp only [go_sem,hd1]
  refine RetOb.plain (d:=DB false) ⟨?_,rfl⟩ rfl
  rw [← hB];rfl
 subst hyes
 have hB':=hB
 rcases (by omega:k=1∨k=5∨k=2∨k=3∨k=4∨(k ≠ 1∧k ≠ 5∧k ≠ 2∧k ≠ 3∧k ≠ 4)) with hk | hk | hk | hk | hk | ⟨h1,h5,h2,h3,h4⟩
 iterate 2
  ·subst hk
   refine drv_sound (n:=100) (rs:=_) Tryz.func124 mo rfl (some _) _ _ ?_
   simp only [go_sem,hd1]
   refine XK.gplain 11 true (decide (0≤t) && decide (t<vs.length)) (fun _=>hr (.mk vk vv vks)) ok127 ?_ (hbT ())
   refine drv_sound (n:=100) (rs:=_) Tryz.func124 mo rfl (some _) _ _ ?_
   simp only [go_sem]
   refine RetOb.plain (d:=DB _) ⟨?_,rfl⟩ rfl
   rw [← hB]
   simp only [DB];congr 3
   have hbe:parts _ t (.mk ik iv iks) (.mk vk vv vks) c b.length e.length=true:=hP
   simp [parts,blk] at hbe
   have hb0:b=[]:=by cases b<;>simp_all
   have he0:e=[]:=by cases e<;>simp_all
   subst hb0 he0
   simp
 ·subst hk
  refine drv_sound (n:=100) (rs:=_) Tryz.func124 mo rfl (some _) _ _ ?_
  simp only [go_sem,hd1]
  refine XK.gplain 11 true (decide (0≤t) && decide (t<ar.length)) (fun _=>hr (.mk ik iv iks)) ok127 ?_ (hbT ())
  refine drv_sound (n:=100) (rs:=_) Tryz.func124 mo rfl (some _) _ _ ?_
  simp only [go_sem]
  refine XK.gplain 17 true (decide (0≤t) && decide (t<ar.length) && right ⟨vs,ar,bd⟩ (.mk ik iv iks)) (fun _=>l2Atom (.mk ik iv iks)) ok129 ?_ (hbT ())
  refine drv_sound (n:=100) (rs:=_) Tryz.func124 mo rfl (some _) _ _ ?_
  simp only [go_sem]
  refine XK.gplain 22 true (decide (0≤t) && decide (t<ar.length) && right ⟨vs,ar,bd⟩ (.mk ik iv iks) && atom (.mk ik iv iks)) (fun _=>hr (.mk vk vv vks)) ok127 ?_ (hbT ())
  refine drv_sound (n:=100) (rs:=_) Tryz.func124 mo rfl (some _) _ _ ?_
  simp only [go_sem]
  refine RetOb.plain (d:=DB _) ⟨?_,rfl⟩ rfl
  rw [← hB]
  simp only [DB];congr 3
  have hbe:parts _ t (.mk ik iv iks) (.mk vk vv vks) c b.length e.length=true:=hP
  simp [parts,blk] at hbe
  have hb0:b=[]:=by cases b<;>simp_all
  have he0:e=[]:=by cases e<;>simp_all
  subst hb0 he0
  simp
 ·subst hk
  refine drv_sound (n:=100) (rs:=_) Tryz.func124 mo rfl (some _) _ _ ?_
  simp only [go_sem,hd1]
  refine XK.plain (hr (.mk vk vv vks)) ok127 ?_ (hbT ())
  refine drv_sound (n:=100) (rs:=_) Tryz.func124 mo rfl (some _) _ _ ?_
  simp only [go_sem]
  refine ⟨fun h=>⟨h,by simp only [InK];omega⟩,?_⟩
  refine XK.gplain 4 true (right ⟨vs,ar,bd⟩ (.mk vk vv vks)) (fun _=>ih b hsb) ok114 ?_ (hbT ())
  refine drv_sound (n:=100) (rs:=_) Tryz.func124 mo rfl (some _) _ _ ?_
  simp only [go_sem]
  refine ⟨fun h=>⟨h,by simp only [InK];omega⟩,?_⟩
  refine XK.gplain 12 true (right ⟨vs,ar,bd⟩ (.mk vk vv vks) && b.all (stmtOK ⟨vs,ar,bd⟩ d)) (fun _=>ih e hse) ok114 ?_ (hbT ())
  refine drv_sound (n:=100) (rs:=_) Tryz.func124 mo rfl (some _) _ _ ?_
  simp only [go_sem]
  refine RetOb.plain (d:=DB _) ⟨?_,rfl⟩ rfl
  rw [← hB]
  simp [DB]
 ·subst hk
  refine drv_sound (n:=100) (rs:=_) Tryz.func124 mo rfl (some _) _ _ ?_
  simp only [go_sem,hd1]
  (with_reducible and_intros)<;>try exact sd
  refine XK.plain (ih b hsb) ok114 ?_ (hbT ())
  refine drv_sound (n:=100) (rs:=_) Tryz.func124 mo rfl (some _) _ _ ?_
  simp only [go_sem]
  refine RetOb.plain (d:=DB _) ⟨?_,rfl⟩ rfl
  rw [← hB]
  have hbe:parts _ t (.mk ik iv iks) (.mk vk vv vks) c b.length e.length=true:=hP
  simp [parts,blk] at hbe
  have he0:e=[]:=by cases e<;>simp_all
  subst he0
  simp [DB]
 ·have e1:(k == 1)=false:=by simp [h1]
  have e2:(k == 2)=false:=by simp [h2]
  have e3:(k == 3)=false:=by simp [h3]
  have e4:(k == 4)=false:=by simp [h4]
  have e5:(k == 5)=false:=by simp [h5]
  refine drv_sound (n:=100) (rs:=_) Tryz.func124 mo rfl (some _) _ _ ?_
  simp only [go_sem,hd1,e1,e2,e3,e4,e5,h1,h2,h3,h4,h5]
  refine RetOb.plain (d:=DB false) ⟨?_,rfl⟩ rfl
  rw [← hB]
  simp [DB,h1,h2,h3,h4,h5]
theorem l2Both (p : Pg) (hl : p.vars.length ≤ mx) (hl2 : p.arrays.length ≤ mx) : ∀ d : Nat, d ≤ 5 → ∀ l, lsize d l ≤ 1099511627776 → DC Tryz.prog 114 [.agg p.cells, .c (.isl 11 (St1.cellsL l)), DI .i64 d] [] (fun r h => r = DB (l.all (stmtOK p d)) ∧ h = [])
 | 0,h5,l,h=>l2BlockOf p 0 h5 (fun s _=>l2Stmt0 p s) l h
 | d+1,h5,l,h=>l2BlockOf p (d+1) h5 (fun s hs=>l2StmtOf p hl hl2 d h5 (fun l' h'=>l2Both p hl hl2 d (by omega) l' h') s hs) l h
def subs (d:Nat) (s:St1):Nat:=lsize d s.body+lsize d s.els
theorem tsize_subs (d:Nat) (s:St1):tsize (d+1) s=1+subs d s:=by cases s;simp [tsize,subs,lsize,St1.body,St1.els];omega
theorem lsize_subs (d:Nat) (l:List St1):lsize (d+1) l=l.length+(l.map (subs d)).sum:=by
 unfold lsize
 induction l with
 | nil=>rfl
 | cons a r ih=>simp only [List.map_cons,List.sum_cons,List.length_cons,tsize_subs,ih];omega
theorem lsize_zero (l:List St1):lsize 0 l=0:=by
 unfold lsize
 induction l with
 | nil=>rfl
 | cons a r ih=>simp only [List.map_cons,List.sum_cons,ih];rfl
theorem subs_zero (s:St1):subs 0 s=0:=by simp [subs,lsize_zero]
theorem tsum_subs_zero (l:List St1) (i:Nat):tsum (subs 0) l i=0:=by
 unfold tsum
 induction (l.take i) with
 | nil=>rfl
 | cons a r ih=>rw [List.map_cons,List.sum_cons,subs_zero,ih]
theorem l2Size:∀ (d:Nat),d+1≤5→∀ l,lsize (d+1) l≤1099511627776→DC Tryz.prog 115 [.c (.isl 11 (St1.cellsL l)),DI .i64 (d+1:Nat)] [] (fun r h=>r=DI .i64 (lsize (d+1) l)∧h=[]):=by
 intro d
 induction d using Nat.strongRecOn with
 | _ d ih =>
  intro hd l hl
  have hls:=lsize_subs d l
  refine dc_of_go Tryz.func115 rfl (by simp) ?_
  refine drv_sound (n:=100) (rs:=_) Tryz.func115 mo rfl none _ _ ?_
  simp only [go_sem]
  refine Go.loopL (fun i:Nat=>[(0,.c (.isl 11 (St1.cellsL l))),(1,DI .i64 (d+1:Nat)),(5,DI .i64 (l.length+tsum (subs d) l i:Nat)),(6,DI .i64 i)]) (fun _=>[]) 1024 (fun i=>i≤l.length) (fun i=>l.length - i) ?_ 0 some [] _ (Nat.zero_le _) ?_
  ·intro i hi again
   have ht:=tsum_le (subs d) l i
   have ret:∀ (n:Nat) (hp:Hp),n=lsize (d+1) l→RetOb 0 (fun r h=>r=DI .i64 (lsize (d+1) l)∧h=[]) (DI .i64 n) hp:=fun n hp h=>RetOb.plain (d:=DI .i64 _) ⟨by rw [h],rfl⟩ rfl
   refine drv_sound (n:=100) (rs:=_) Tryz.func115 mo rfl none _ _ ?_
   rcases Nat.lt_or_ge i l.length with hlt | hge
   ·cases d with
    | zero =>
     simp only [go_sem,hlt,Int.natCast_zero]
     refine ret _ _ ?_
     rw [hls,tsum_subs_zero]
     rw [← tsum_all (subs 0) l (Nat.le_refl _),tsum_subs_zero]
    | succ d =>
     obtain ⟨⟨k,t,⟨ik,iv,iks⟩,⟨vk,vv,vks⟩,c,b,e⟩,hx⟩:∃ x,l[i]? = some x:=⟨l[i],by simp [hlt]⟩
     have hd1:(1<((d:Int)+1)+1)=True:=eq_true (by omega)
     have hs:=tsum_succ (subs (d+1)) l i _ hx
     have ht2:=tsum_le (subs (d+1)) l (i+1)
     simp only [subs,St1.body,St1.els] at hs
     simp only [go_sem,hx,hlt,hd1]
     (with_reducible and_intros)<;>try exact sd
     refine XK.plain (ih d (by omega) (by omega) b (by omega)) ok115 ?_ (hbT ()) (fun _=>by kernel_rfl)
     refine drv_sound (n:=100) (rs:=_) Tryz.func115 mo rfl (some _) _ _ ?_
     simp only [go_sem,hx]
     (with_reducible and_intros)<;>try exact sd
     refine XK.plain (ih d (by omega) (by omega) e (by omega)) ok115 ?_ (hbT ()) (fun _=>by kernel_rfl)
     refine drv_sound (n:=100) (rs:=_) Tryz.func115 mo rfl (some _) _ _ ?_
     simp only [go_sem,hx]
     (with_reducible and_intros)<;>try exact sd
     refine again (i+1) some [] _ (by omega) (by omega) (Mt.slots ?_)
     simp only [go_sem,TmOK,DM,DMs,CM,CMs,forall_eq,exists_eq_left,hs]
     congr 1;omega
   ·have hn:¬ i<l.length:=by omega
    simp only [go_sem,hn]
    refine ret _ _ ?_
    rw [hls,tsum_all _ _ hge]
  ·refine Mt.slots ?_
   simp only [go_sem,TmOK,DM,DMs,CM,CMs,forall_eq,exists_eq_left]
   rfl
def progOK (p:Pg):Bool:=headsOK p.vars p.arrays && p.body.all (stmtOK p 5) && decide ((lsize 5 p.body:Int)≤60)
theorem programValidS (p:Pg) (hl:p.vars.length≤mx) (hl2:p.arrays.length≤mx) (hb:lsize 5 p.body≤1099511627776):DC Tryz.prog 98 [.agg p.cells] [] (fun r h=>r=DB (progOK p)∧h=[]):=by
 obtain ⟨vs,ar,bd⟩:=p
 refine dc_of_go Tryz.func98 rfl (by simp) ?_
 refine drv_sound (n:=100) (rs:=_) Tryz.func98 mo rfl none _ _ ?_
 simp only [go_sem]
 refine XK.plain (l2Heads ⟨vs,ar,bd⟩ hl hl2) ok43 ?_ (hbT ())
 refine drv_sound (n:=100) (rs:=_) Tryz.func98 mo rfl (some _) _ _ ?_
 simp only [go_sem]
 refine XK.gplain 2 true (headsOK vs ar) (fun _=>l2Both ⟨vs,ar,bd⟩ hl hl2 5 (by omega) bd hb) ok114 ?_ (hbT ()) (hok:=by intro hx;simp [okP,getCall,Call.operands,evT,upd,peelB,DB,DI,cst,one] at hx ⊢;first | done | exact hx | (simp_all;done) | omega)
 refine drv_sound (n:=100) (rs:=_) Tryz.func98 mo rfl (some _) _ _ ?_
 simp only [go_sem]
 refine XK.gplain 8 true (headsOK vs ar && bd.all (stmtOK ⟨vs,ar,bd⟩ 5)) (fun _=>l2Size 4 (by omega) bd hb) ok115 ?_ (hbT ()) (hok:=by intro hx;simp [okP,getCall,Call.operands,evT,upd,peelB,DB,DI,cst,one] at hx ⊢;first | done | exact hx | (simp_all;done) | omega)
 refine drv_sound (n:=100) (rs:=_) Tryz.func98 mo rfl (some _) _ _ ?_
 simp only [go_sem]
 refine RetOb.plain (d:=DB _) ⟨?_,rfl⟩ rfl
 simp [DB,progOK]
theorem kf_I (xs:List Int):∀ c ∈ xs.map I64,kf c=true:=by
 intro c hc;obtain ⟨x,_,rfl⟩:=List.mem_map.1 hc;rfl
theorem flat_I (xs:List Int):(xs.map fun n=>[I64 n]).flatten=xs.map I64:=flat1 _ _
def hdr (b b' na:Nat):List C:=[C.msl b 1 0 4,.msl b' 1 0 4].take na
def blk0 (arr:List (List Int)):List C:=((arr[0]?).getD []).map I64
def blk1 (arr:List (List Int)):List C:=((arr[1]?).getD []).map I64
theorem CMs_I {hT hS:Hp} {r:Nat→Option Nat} {fz:List Nat} (xs:List Int):CMs hT r hS fz (xs.map I64) (xs.map I64)=True:=eq_true (CMs.kf (kf_I xs))
theorem flat_I' (xs:List Int):(xs.map fun n=>[C.v (.int .i64 n)]).flatten=xs.map I64:=flat1 _ _
theorem renCs_I (r:Nat→Nat) (xs:List Int):renCs r (xs.map I64)=xs.map I64:=by
 induction xs with
 | nil=>rfl
 | cons a t ih=>simp only [List.map_cons,renCs,ih];rfl
def trC (tr:List Ev):List C:=(tr.map Ev.cells).flatten
theorem trC_kf (tr:List Ev):∀ c ∈ trC tr,kf c=true:=by
 unfold trC
 induction tr with
 | nil=>simp
 | cons a t ih =>
  intro c hc
  rw [List.map_cons,List.flatten_cons,List.mem_append] at hc
  rcases hc with hc | hc
  ·simp only [Ev.cells,List.mem_cons,List.not_mem_nil,or_false] at hc
   rcases hc with rfl | rfl<;>rfl
  ·exact ih c hc
theorem CMs_tr {hT hS:Hp} {r:Nat→Option Nat} {fz:List Nat} (tr:List Ev):CMs hT r hS fz (trC tr) (trC tr)=True:=eq_true (CMs.kf (trC_kf tr))
structure MemFits (p : Pg) (m : Mm) : Prop where
 nv:m.vals.length=p.vars.length
 na:m.arrays.length=p.arrays.length
 nv12:1≤p.vars.length∧p.vars.length≤12
 na2:p.arrays.length≤2
 val:∀ x ∈ m.vals,0≤x∧x≤255
 arr:∀ a ∈ m.arrays,a.length=4∧∀ x ∈ a,0≤x∧x≤255
theorem kf_app {a b:List C} (h1:∀ c ∈ a,kf c=true) (h2:∀ c ∈ b,kf c=true):∀ c ∈ a++b,kf c=true:=fun c hc=>(List.mem_append.1 hc).elim (h1 c) (h2 c)
end Go.Proofs.YtfkhahkclgejnaaGreatDoor.CtR
