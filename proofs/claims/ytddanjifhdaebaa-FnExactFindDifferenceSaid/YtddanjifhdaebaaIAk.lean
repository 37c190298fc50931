/- Contracts of functions of the program, one behind the other, as plain data: what each call returns and which blocks it leaves. -/
import Derived.Test.YtddanjifhdaebaaIFacts
import Derived.Test.YtddanjifhdaebaaIAi
set_option linter.unusedVariables false
set_option linter.unusedSimpArgs false
set_option linter.unusedSectionVars false
set_option maxHeartbeats 16000000
set_option maxRecDepth 100000
namespace Go.Proofs.Ytddanjifhdaebaa.CtR
open Go Go.CT CtF
variable [Yn]
def arity (k:Int):Int:=if k=1∨k=2 then 0 else if k=3 then 1 else if 4≤k∧k≤10 then 2 else if k=11 then 3 else -1
theorem truth (b:Bool):DC Try.prog 96 [DB b] [] (fun d h=>d=DI .i64 (if b then 1 else 0)∧h=[]):=by
 refine dc_of_go Try.func96 rfl (by simp) ?_
 refine drv_sound (n:=100) (rs:=_) Try.func96 mo rfl none _ _ ?_
 simp only [go_sem]
 repeat' (first | with_reducible apply And.intro | with_reducible intro _)
 all_goals refine RetOb.plain (d:=DI .i64 _) ⟨?_,rfl⟩ rfl
 all_goals simp_all [DI]
theorem within (n lo hi:Int):DC Try.prog 119 [DI .i64 n,DI .i64 lo,DI .i64 hi] [] (fun d h=>d=DB (decide (lo≤n) && decide (n≤hi))∧h=[]):=by
 refine dc_of_go Try.func119 rfl (by simp) ?_
 refine drv_sound (n:=100) (rs:=_) Try.func119 mo rfl none _ _ ?_
 simp only [go_sem,Pg.cells,Ex.cells,isI,I64]
 repeat' (first | with_reducible apply And.intro | with_reducible intro _)
 all_goals first | omega | skip
 all_goals refine RetOb.plain (d:=DB _) ⟨?_,rfl⟩ rfl
 all_goals simp [DB]
theorem labelValidS (n:Int):DC Try.prog 156 [DI .i64 n] [] (fun d h=>d=DB (decide (0≤n) && decide (n≤3))∧h=[]):=by
 refine dc_of_go Try.func156 rfl (by simp) ?_
 refine drv_sound (n:=100) (rs:=_) Try.func156 mo rfl none _ _ ?_
 simp only [go_sem,Pg.cells,Ex.cells,isI,I64]
 repeat' (first | with_reducible apply And.intro | with_reducible intro _)
 all_goals first | omega | skip
 all_goals refine RetOb.plain (d:=DB _) ⟨?_,rfl⟩ rfl
 all_goals simp [DB]
def limit (p:Pg) (k:Int):Int:=if k=1 then 256 else if k=2 then p.vars.length else if k=3 then p.arrays.length else 1
def atom (e:Ex):Bool:=e.kind == 1 || e.kind == 2
theorem labelValidI (n:Int):DC Try.prog 133 [DI .i64 n] [] (fun d h=>d=DB (decide (0≤n) && decide (n≤3))∧h=[]):=by
 refine dc_of_go Try.func133 rfl (by simp) ?_
 refine drv_sound (n:=100) (rs:=_) Try.func133 mo rfl none _ _ ?_
 simp only [go_sem]
 refine XK.plain (within n 0 3) ok119 ?_
 refine drv_sound (n:=100) (rs:=_) Try.func133 mo rfl (some _) _ _ ?_
 simp only [go_sem]
 exact RetOb.plain (d:=DB _) ⟨rfl,rfl⟩ rfl
theorem areLabels1 (n:Int):DC Try.prog 208 [DI .i64 n] [] (fun d h=>d=DB (!(decide (0≤n) && decide (n≤3)))∧h=[]):=by
 refine dc_of_go Try.func208 rfl (by simp) ?_
 refine drv_sound (n:=100) (rs:=_) Try.func208 mo rfl none _ _ ?_
 simp only [go_sem]
 refine XK.plain (labelValidI n) ok133 ?_
 refine drv_sound (n:=100) (rs:=_) Try.func208 mo rfl (some _) _ _ ?_
 simp only [go_sem]
 exact RetOb.plain (d:=DB _) ⟨rfl,rfl⟩ rfl
theorem areValues1 (n:Int):DC Try.prog 216 [DI .i64 n] [] (fun d h=>d=DB (!(decide (0≤n) && decide (n≤255)))∧h=[]):=by
 refine dc_of_go Try.func216 rfl (by simp) ?_
 refine drv_sound (n:=100) (rs:=_) Try.func216 mo rfl none _ _ ?_
 simp only [go_sem]
 refine XK.plain (within n 0 255) ok119 ?_
 refine drv_sound (n:=100) (rs:=_) Try.func216 mo rfl (some _) _ _ ?_
 simp only [go_sem]
 exact RetOb.plain (d:=DB _) ⟨rfl,rfl⟩ rfl
def none0 (e:Ex):Bool:=e.kind == 0 && e.value == 0 && e.kids.isEmpty
theorem l3Bool (b:Bool):DC Try.prog 166 [DB b] [] (fun d h=>d=DI .i64 (if b then 1 else 0)∧h=[]):=by
 refine dc_of_go Try.func166 rfl (by simp) ?_
 refine drv_sound (n:=100) (rs:=_) Try.func166 mo rfl none _ _ ?_
 simp only [go_sem,Pg.cells,Ex.cells,isI,I64]
 repeat' (first | with_reducible apply And.intro | with_reducible intro _)
 all_goals first | omega | skip
 all_goals refine RetOb.plain (d:=DI .i64 _) ⟨?_,rfl⟩ rfl
 all_goals simp_all [DI]
theorem l3Address (a i:Int) (ha:0≤a∧a≤255) (hi:0≤i∧i≤255):DC Try.prog 165 [DI .i64 a,DI .i64 i] [] (fun d h=>d=DI .i64 (a * 4+i % 4)∧h=[]):=by
 refine dc_of_go Try.func165 rfl (by simp) ?_
 refine drv_sound (n:=100) (rs:=_) Try.func165 mo rfl none _ _ ?_
 simp only [go_sem,Pg.cells,Ex.cells,isI,I64]
 repeat' (first | with_reducible apply And.intro | with_reducible intro _)
 all_goals first | omega | (simp only [InK];omega) | skip
 all_goals refine RetOb.plain (d:=DI .i64 _) ⟨?_,rfl⟩ rfl
 all_goals simp [DI]
theorem address (a i:Int) (ha:0≤a∧a≤255) (hi:0≤i∧i≤255):DC Try.prog 171 [DI .i64 a,DI .i64 i] [] (fun d h=>d=DI .i64 (a * 4+i % 4)∧h=[]):=by
 refine dc_of_go Try.func171 rfl (by simp) ?_
 refine drv_sound (n:=100) (rs:=_) Try.func171 mo rfl none _ _ ?_
 simp only [go_sem,Pg.cells,Ex.cells,isI,I64]
 repeat' (first | with_reducible apply And.intro | with_reducible intro _)
 all_goals first | omega | (simp only [InK];omega) | skip
 all_goals refine RetOb.plain (d:=DI .i64 _) ⟨?_,rfl⟩ rfl
 all_goals simp [DI]
theorem isNone (e:Ex):DC Try.prog 211 [.agg e.cells] [] (fun d h=>d=DB (none0 e)∧h=[]):=by
 refine dc_of_go Try.func211 rfl (by simp) ?_
 refine drv_sound (n:=100) (rs:=_) Try.func211 mo rfl none _ _ ?_
 obtain ⟨k,v,ks⟩:=e
 simp only [go_sem,Pg.cells,Ex.cells,isI,I64]
 repeat' (first | with_reducible apply And.intro | with_reducible intro _)
 all_goals first | kernel_rfl | omega | skip
 all_goals refine RetOb.plain (d:=DB _) ⟨?_,rfl⟩ rfl
 all_goals (cases ks<;>simp [DB,none0,Ex.kind,Ex.value,Ex.kids,Ex.cellsL]<;>omega)
def bin (k a b:Int):Int:=if k=4 then (a+b) % 256 else if k=5 then (a - b+256) % 256 else if k=6 then a * b % 256 else if k=7 then ((a.toNat &&& b.toNat:Nat):Int) else
 if k=8 then ((a.toNat ^^^ b.toNat:Nat):Int) else if k=9 then (if a=b then 1 else 0) else if a<b then 1 else 0
theorem l3Bin (k a b:Int) (ha:0≤a∧a≤255) (hb:0≤b∧b≤255):DC Try.prog 189 [DI .i64 k,DI .i64 a,DI .i64 b] [] (fun d h=>d=DI .i64 (bin k a b)∧h=[]):=by
 have hm0:0≤a * b:=Int.mul_nonneg ha.1 hb.1
 have hm1:a * b≤255 * 255:=Int.mul_le_mul ha.2 hb.2 hb.1 (by decide)
 have hz:=andZ_nn (k := .i64) (a:=a) (b:=b) ha.1 hb.1 (by simp only [InK];omega) (by simp only [InK];omega)
 refine dc_of_go Try.func189 rfl (by simp) ?_
 refine drv_sound (n:=200) (rs:=_) Try.func189 mo rfl none _ _ ?_
 simp only [go_sem,hz]
 repeat' (first | with_reducible apply And.intro | with_reducible intro _)
 all_goals first | (simp only [InK];omega) | omega | skip
 all_goals first
  | (refine RetOb.plain (d:=DI .i64 _) ⟨?_,rfl⟩ rfl;simp_all [bin,DI];done)
  | (refine XK.plain (l3Bool _) ok166 ?_
     refine drv_sound (n:=100) (rs:=_) Try.func189 mo rfl (some _) _ _ ?_
     simp only [go_sem,hz]
     refine RetOb.plain (d:=DI .i64 _) ⟨?_,rfl⟩ rfl
     simp_all [bin,DI])
theorem operate (k a b:Int) (ha:0≤a∧a≤255) (hb:0≤b∧b≤255):DC Try.prog 193 [DI .i64 k,DI .i64 a,DI .i64 b] [] (fun d h=>d=DI .i64 (bin k a b)∧h=[]):=by
 have hm0:0≤a * b:=Int.mul_nonneg ha.1 hb.1
 have hm1:a * b≤255 * 255:=Int.mul_le_mul ha.2 hb.2 hb.1 (by decide)
 have hz:=andZ_nn (k := .i64) (a:=a) (b:=b) ha.1 hb.1 (by simp only [InK];omega) (by simp only [InK];omega)
 refine dc_of_go Try.func193 rfl (by simp) ?_
 refine drv_sound (n:=200) (rs:=_) Try.func193 mo rfl none _ _ ?_
 simp only [go_sem,hz]
 repeat' (first | with_reducible apply And.intro | with_reducible intro _)
 all_goals first | (simp only [InK];omega) | omega | skip
 all_goals first
  | (refine RetOb.plain (d:=DI .i64 _) ⟨?_,rfl⟩ rfl;simp_all [bin,DI];done)
  | (refine XK.plain (truth _) ok96 ?_
     refine drv_sound (n:=100) (rs:=_) Try.func193 mo rfl (some _) _ _ ?_
     simp only [go_sem,hz]
     refine RetOb.plain (d:=DI .i64 _) ⟨?_,rfl⟩ rfl
     simp_all [bin,DI])
def idxF (q : Int → Bool) : List Int → Int → Int
 | [],_ => -1
 | x :: r,i=>if q x then i else idxF q r (i+1)
theorem indexFunc (g : Nat) (q : Int → Bool) (xs : List Int) (hl : xs.length ≤ mx) (hok : fnOK Try.prog g = true) (hg : ∀ n ∈ xs, DC Try.prog g [DI .i64 n] [] (fun d h => d = DB (q n) ∧ h = [])) :
 DC Try.prog 225 [ints xs,.c (.clo g [])] [] (fun d h=>d=DI .i64 (idxF q xs 0)∧h=[]):=by
 have hmx:=mx_eq
 refine dc_of_go Try.func225 rfl (by simp) ?_
 refine drv_sound (n:=100) (rs:=_) Try.func225 mo rfl none _ _ ?_
 simp only [go_sem,ints]
 refine Go.loopL (fun i:Nat=>[(0,ints xs),(1,.c (.clo g [])),(7,DI .i64 xs.length),(8,DI .i64 i)]) (fun _=>[]) 1024 (fun i=>i≤xs.length∧idxF q (xs.drop i) i=idxF q xs 0) (fun i=>xs.length - i) ?_ 0 some [] _ ⟨Nat.zero_le _,rfl⟩ ?_
 ·intro i hi again
  refine drv_sound (n:=100) (rs:=_) Try.func225 mo rfl none _ _ ?_
  rcases Nat.lt_or_ge i xs.length with hlt | hge
  ·obtain ⟨x,hx⟩:∃ x,xs[i]? = some x:=⟨xs[i],by simp [hlt]⟩
   have hmem:x ∈ xs:=List.mem_of_getElem? hx
   have hdrop:xs.drop i=x :: xs.drop (i+1):=by
    obtain ⟨_,e⟩:=List.getElem?_eq_some_iff.1 hx
    rw [List.drop_eq_getElem_cons hlt,e]
   have hI:=hi.2
   rw [hdrop] at hI
   simp only [go_sem,ints,hx]
   refine ⟨fun _=>?_,fun h=>by omega⟩
   refine XK.plain (hg x hmem) hok ?_
   refine drv_sound (n:=100) (rs:=_) Try.func225 mo rfl (some _) _ _ ?_
   simp only [go_sem,ints]
   refine ⟨fun hq=>?_,fun hq=>⟨by simp only [InK];omega,?_⟩⟩
   ·refine RetOb.plain (d:=DI .i64 _) ⟨?_,rfl⟩ rfl
    rw [← hI];simp [idxF,hq,DI]
   ·refine again (i+1) some [] _ ⟨by omega,?_⟩ (by omega) (Mt.slots ?_)
    ·rw [← hI];simp [idxF,hq]
    ·simp only [go_sem,TmOK,DM,DMs,CM,CMs,forall_eq,exists_eq_left,ints]
  ·simp only [go_sem,ints]
   refine ⟨fun h=>by omega,fun _=>?_⟩
   refine RetOb.plain (d:=DI .i64 _) ⟨?_,rfl⟩ rfl
   rw [← hi.2,List.drop_of_length_le hge];rfl
 ·refine Mt.slots ?_
  simp only [go_sem,TmOK,DM,DMs,CM,CMs,forall_eq,exists_eq_left,ints]
theorem idxF_any (q : Int → Bool) : ∀ (xs : List Int) (i : Int), 0 ≤ i → decide (0 ≤ idxF q xs i) = xs.any q
 | [],i,_=>by simp [idxF]
 | x :: r,i,h=>by
  unfold idxF
  by_cases hq:q x=true
  ·simp [hq,h]
  ·simp only [hq,Bool.false_eq_true,if_false,List.any_cons,Bool.not_eq_true] at *
   rw [idxF_any q r (i+1) (by omega)];simp [hq]
theorem containsFunc (g : Nat) (q : Int → Bool) (xs : List Int) (hl : xs.length ≤ mx) (hok : fnOK Try.prog g = true) (hg : ∀ n ∈ xs, DC Try.prog g [DI .i64 n] [] (fun d h => d = DB (q n) ∧ h = [])) :
 DC Try.prog 207 [ints xs,.c (.clo g [])] [] (fun d h=>d=DB (xs.any q)∧h=[]):=by
 refine dc_of_go Try.func207 rfl (by simp) ?_
 refine drv_sound (n:=100) (rs:=_) Try.func207 mo rfl none _ _ ?_
 simp only [go_sem,ints]
 refine XK.plain (indexFunc g q xs hl hok hg) ok225 ?_
 refine drv_sound (n:=100) (rs:=_) Try.func207 mo rfl (some _) _ _ ?_
 simp only [go_sem,ints]
 refine RetOb.plain (d:=DB _) ⟨?_,rfl⟩ rfl
 simp only [DB];rw [idxF_any q xs 0 (by omega)]
def vals01 (xs:List Int):Bool:=xs.all fun n=>decide (0≤n) && decide (n≤255)
theorem areValues (xs:List Int) (hl:xs.length≤mx):DC Try.prog 190 [ints xs] [] (fun d h=>d=DB (vals01 xs)∧h=[]):=by
 refine dc_of_go Try.func190 rfl (by simp) ?_
 refine drv_sound (n:=100) (rs:=_) Try.func190 mo rfl none _ _ ?_
 simp only [go_sem,ints]
 refine XK.plain (containsFunc 216 _ xs hl ok216 fun n _=>areValues1 n) ok207 ?_
 refine drv_sound (n:=100) (rs:=_) Try.func190 mo rfl (some _) _ _ ?_
 simp only [go_sem,ints]
 refine RetOb.plain (d:=DB _) ⟨?_,rfl⟩ rfl
 simp [DB,vals01,List.all_eq_not_any_not]
theorem l3Values (xs:List Int) (hl:xs.length≤mx):DC Try.prog 130 [ints xs] [] (fun d h=>d=DB (vals01 xs)∧h=[]):=by
 have hmx:=mx_eq
 refine dc_of_go Try.func130 rfl (by simp) ?_
 refine drv_sound (n:=100) (rs:=_) Try.func130 mo rfl none _ _ ?_
 simp only [go_sem,ints]
 refine Go.loopL (fun i:Nat=>[(0,ints xs),(3,DI .i64 i)]) (fun _=>[]) 1024 (fun i=>i≤xs.length∧vals01 (xs.drop i)=vals01 xs) (fun i=>xs.length - i) ?_ 0 some [] _ ⟨Nat.zero_le _,rfl⟩ ?_
 ·intro i hi again
  refine drv_sound (n:=100) (rs:=_) Try.func130 mo rfl none _ _ ?_
  rcases Nat.lt_or_ge i xs.length with hlt | hge
  ·obtain ⟨x,hx⟩:∃ x,xs[i]? = some x:=⟨xs[i],by simp [hlt]⟩
   have hdrop:xs.drop i=x :: xs.drop (i+1):=by
    obtain ⟨_,e⟩:=List.getElem?_eq_some_iff.1 hx
    rw [List.drop_eq_getElem_cons hlt,e]
   have hI:=hi.2
   rw [hdrop] at hI
   simp only [go_sem,ints,hx]
   refine ⟨fun _=>⟨fun h=>?_,fun h=>⟨by simp only [InK];omega,?_⟩⟩,fun h=>by omega⟩
   ·refine RetOb.plain (d:=DB _) ⟨?_,rfl⟩ rfl
    rw [← hI];simp only [DB,vals01,List.all_cons];congr 3
    have:(decide (0≤x) && decide (x≤255))=false:=by
     rw [Bool.and_eq_false_iff];simp only [decide_eq_false_iff_not];omega
    simp [this]
   ·refine again (i+1) some [] _ ⟨by omega,?_⟩ (by omega) (Mt.slots ?_)
    ·rw [← hI];simp [vals01,h.1,h.2]
    ·simp only [go_sem,TmOK,DM,DMs,CM,CMs,forall_eq,exists_eq_left,ints]
  ·simp only [go_sem,ints]
   refine ⟨fun h=>by omega,fun _=>?_⟩
   refine RetOb.plain (d:=DB _) ⟨?_,rfl⟩ rfl
   rw [← hi.2,List.drop_of_length_le hge];rfl
 ·refine Mt.slots ?_
  simp only [go_sem,TmOK,DM,DMs,CM,CMs,forall_eq,exists_eq_left,ints]
def labs (xs:List Int):Bool:=xs.all fun n=>decide (0≤n) && decide (n≤3)
theorem areLabels (xs:List Int) (hl:xs.length≤mx):DC Try.prog 181 [ints xs] [] (fun d h=>d=DB (labs xs)∧h=[]):=by
 refine dc_of_go Try.func181 rfl (by simp) ?_
 refine drv_sound (n:=100) (rs:=_) Try.func181 mo rfl none _ _ ?_
 simp only [go_sem,ints]
 refine XK.plain (containsFunc 208 _ xs hl ok208 fun n _=>areLabels1 n) ok207 ?_
 refine drv_sound (n:=100) (rs:=_) Try.func181 mo rfl (some _) _ _ ?_
 simp only [go_sem,ints]
 refine RetOb.plain (d:=DB _) ⟨?_,rfl⟩ rfl
 simp [DB,labs,List.all_eq_not_any_not]
def headsOK (vs ar:List Int):Bool:=decide (1≤(vs.length:Int)) && decide ((vs.length:Int)≤12) && decide ((ar.length:Int)≤2) && labs vs && labs ar
theorem declared (vs ar:List Int) (hl:vs.length≤mx) (hl2:ar.length≤mx):DC Try.prog 145 [ints vs,ints ar] [] (fun d h=>d=DB (headsOK vs ar)∧h=[]):=by
 have hmx:=mx_eq
 refine dc_of_go Try.func145 rfl (by simp) ?_
 refine drv_sound (n:=100) (rs:=_) Try.func145 mo rfl none _ _ ?_
 simp only [go_sem,ints]
 refine XK.plain (within vs.length 1 12) ok119 ?_
 refine drv_sound (n:=100) (rs:=_) Try.func145 mo rfl (some _) _ _ ?_
 simp only [go_sem,ints]
 refine XK.gplain 8 true ((decide (1≤(vs.length:Int)) && decide ((vs.length:Int)≤12)) && decide ((ar.length:Int)≤2)) (fun _=>areLabels vs hl) ok181 ?_ (hok:=by intro hx;simp [okP,getCall,Call.operands,evT,upd,peelB,DB,DI,cst,one] at hx ⊢;first | done | exact hx | (simp_all;done) | omega)
 refine drv_sound (n:=100) (rs:=_) Try.func145 mo rfl (some _) _ _ ?_
 simp only [go_sem,ints]
 refine XK.gplain 12 true (((decide (1≤(vs.length:Int)) && decide ((vs.length:Int)≤12)) && decide ((ar.length:Int)≤2)) && labs vs) (fun _=>areLabels ar hl2) ok181 ?_ (hok:=by intro hx;simp [okP,getCall,Call.operands,evT,upd,peelB,DB,DI,cst,one] at hx ⊢;first | done | exact hx | (simp_all;done) | omega)
 refine drv_sound (n:=100) (rs:=_) Try.func145 mo rfl (some _) _ _ ?_
 simp only [go_sem,ints]
 exact RetOb.plain (d:=DB _) ⟨by simp [DB,headsOK],rfl⟩ rfl
theorem notlab (x:Int) (hq:0≤x→3<x):(decide (0≤x) && decide (x≤3))=false:=by
 by_cases h:0≤x
 ·have:=hq h;simp;omega
 ·simp [h]
theorem l2Heads (p:Pg) (hl:p.vars.length≤mx) (hl2:p.arrays.length≤mx):DC Try.prog 139 [.agg p.cells] [] (fun d h=>d=DB (headsOK p.vars p.arrays)∧h=[]):=by
 have hmx:=mx_eq
 obtain ⟨vs,ar,bd⟩:=p
 simp only at hl hl2
 have stepL:∀ (xs:List Int) (i:Nat) (x:Int),xs[i]? = some x→labs (xs.drop i)=((decide (0≤x) && decide (x≤3)) && labs (xs.drop (i+1))):=fun xs i x hx=>by
  obtain ⟨hlt,e⟩:=List.getElem?_eq_some_iff.1 hx
  rw [List.drop_eq_getElem_cons hlt,e];simp [labs]
 have ret:∀ (b:Bool) (hp:Hp),b=headsOK vs ar→RetOb 0 (fun d h=>d=DB (headsOK vs ar)∧h=[]) (DB b) hp:=fun b hp h=>RetOb.plain (d:=DB _) ⟨by rw [h],rfl⟩ rfl
 refine dc_of_go Try.func139 rfl (by simp) ?_
 refine drv_sound (n:=100) (rs:=_) Try.func139 mo rfl none _ _ ?_
 simp only [go_sem,Pg.cells,isI,I64]
 have inv:∀ (q:Bool) (fz:List Nat) (tl:List (Nat × D)) (S:Ms),TmOK (hOf [(0,some [.isl 1 (vs.map fun n=>[.v (.int .i64 n)]),.isl 1 (ar.map fun n=>[.v (.int .i64 n)]),.isl 11 (St1.cellsL bd)])]) some S.hp fz S.tm tl→0 ∉ fz→S.hp 0=some (some [.isl 1 (vs.map fun n=>[.v (.int .i64 n)]),.isl 1 (ar.map fun n=>[.v (.int .i64 n)]),.isl 11 (St1.cellsL bd)])→Mt 0 some fz tl [(0,some [.isl 1 (vs.map fun n=>[.v (.int .i64 n)]),.isl 1 (ar.map fun n=>[.v (.int .i64 n)]),.isl 11 (St1.cellsL bd)])] S :=
  fun q fz tl S h1 h2 h3=>Mt.one h1 h2 h3 (by simp [kf])
 refine Go.loopL (fun i:Nat=>[(1,.c (.ptr 0 0)),(3,DI .i64 i)]) (fun _=>[(0,some [.isl 1 (vs.map fun n=>[.v (.int .i64 n)]),.isl 1 (ar.map fun n=>[.v (.int .i64 n)]),.isl 11 (St1.cellsL bd)])]) 1024 (fun i=>i≤vs.length∧labs (vs.drop i)=labs vs) (fun i=>vs.length - i) ?_ 0 some [] _ ⟨Nat.zero_le _,rfl⟩ ?_
 ·intro i hi again
  refine drv_sound (n:=100) (rs:=_) Try.func139 mo rfl none _ _ ?_
  rcases Nat.lt_or_ge i vs.length with hlt | hge
  ·obtain ⟨x,hx⟩:∃ x,vs[i]? = some x:=⟨vs[i],by simp [hlt]⟩
   have hI:=hi.2
   rw [stepL vs i x hx] at hI
   simp only [go_sem,hx,hlt]
   refine XK.plain (labelValidS x) ok156 ?_ (hbT ())
   refine drv_sound (n:=100) (rs:=_) Try.func139 mo rfl (some _) _ _ ?_
   simp only [go_sem]
   refine ⟨fun hq=>ret _ _ ?_,fun hq=>⟨by simp only [InK];omega,?_⟩⟩
   ·rw [notlab x hq] at hI;simp [headsOK,← hI]
   ·refine again (i+1) some [] _ ⟨by omega,?_⟩ (by omega) (inv true _ _ _ ?_ (by simp) (by rfl))
    ·rw [← hI];simp [hq.1,hq.2]
    ·simp only [go_sem,TmOK,DM,DMs,CM,CMs,forall_eq,exists_eq_left]
  ·have hn:¬ i<vs.length:=by omega
   simp only [go_sem,hn]
   have hlv:labs vs=true:=by rw [← hi.2,List.drop_of_length_le hge];rfl
   refine Go.loopL (fun i:Nat=>[(1,.c (.ptr 0 0)),(4,DI .i64 i)]) (fun _=>[(0,some [.isl 1 (vs.map fun n=>[.v (.int .i64 n)]),.isl 1 (ar.map fun n=>[.v (.int .i64 n)]),.isl 11 (St1.cellsL bd)])]) 2048 (fun i=>i≤ar.length∧labs (ar.drop i)=labs ar) (fun i=>ar.length - i) ?_ 0 some [] _ ⟨Nat.zero_le _,rfl⟩ ?_
   ·intro i hi again
    refine drv_sound (n:=100) (rs:=_) Try.func139 mo rfl none _ _ ?_
    rcases Nat.lt_or_ge i ar.length with hlt | hge
    ·obtain ⟨x,hx⟩:∃ x,ar[i]? = some x:=⟨ar[i],by simp [hlt]⟩
     have hI:=hi.2
     rw [stepL ar i x hx] at hI
     simp only [go_sem,hx,hlt]
     refine XK.plain (labelValidS x) ok156 ?_ (hbT ())
     refine drv_sound (n:=100) (rs:=_) Try.func139 mo rfl (some _) _ _ ?_
     simp only [go_sem]
     refine ⟨fun hq=>ret _ _ ?_,fun hq=>⟨by simp only [InK];omega,?_⟩⟩
     ·rw [notlab x hq] at hI;simp [headsOK,← hI]
     ·refine again (i+1) some [] _ ⟨by omega,?_⟩ (by omega) (inv true _ _ _ ?_ (by simp) (by rfl))
      ·rw [← hI];simp [hq.1,hq.2]
      ·simp only [go_sem,TmOK,DM,DMs,CM,CMs,forall_eq,exists_eq_left]
    ·have hn:¬ i<ar.length:=by omega
     have hla:labs ar=true:=by rw [← hi.2,List.drop_of_length_le hge];rfl
     simp only [go_sem,hn]
     refine ret _ _ ?_
     simp [headsOK,hlv,hla]
     first | done | omega
   ·refine inv true _ _ _ ?_ (by simp) (by rfl)
    simp only [go_sem,TmOK,DM,DMs,CM,CMs,forall_eq,exists_eq_left]
 ·refine inv true _ _ _ ?_ (by simp) (by rfl)
  simp only [go_sem,TmOK,DM,DMs,CM,CMs,forall_eq,exists_eq_left]
def headAtom : List Ex → Bool
 | []=>false
 | a :: _=>atom a
def fitsE (p:Pg) (k v:Int) (n:Nat):Bool:=decide ((n:Int)=arity k) && decide (0≤v) && decide (v<limit p k)
def shape (p : Pg) : Nat → Ex → Bool
 | 0,_=>false
 | d+1,.mk k v ks=>fitsE p k v ks.length && ks.all (shape p d) && (!(k == 3) || headAtom ks)
def cnt : Nat → Ex → Nat
 | 0,_=>1
 | d+1,.mk _ _ ks=>1+(ks.map (cnt d)).sum
def right (p:Pg) (e:Ex):Bool:=shape p 5 e && decide ((cnt 5 e:Int)≤15)
def blk (k:Int):Bool:=k == 3 || k == 4
def parts (k t:Int) (ix v:Ex) (c:Int) (bn en:Nat):Bool :=
 !(!(blk k) && (decide (0<(bn:Int)) || decide (0<(en:Int))) || blk k && t != 0) &&
 (if k=4 then (en:Int) == 0 && decide (1≤c) && decide (c≤3) && none0 ix && none0 v else c == 0 && (k == 2 || none0 ix))
def headOK (p:Pg) (k t:Int) (ix v:Ex) (c:Int) (bn en:Nat):Bool :=
 parts k t ix v c bn en && (if k = 1 ∨ k = 5 then decide (0 ≤ t) && decide (t < p.vars.length) && right p v
  else if k=2 then decide (0≤t) && decide (t<p.arrays.length) && right p ix && atom ix && right p v
  else if k=3 then right p v else k == 4)
def stmtOK (p : Pg) : Nat → St1 → Bool
 | 0,_=>false
 | d+1,.mk k t ix v c b e=>headOK p k t ix v c b.length e.length && b.all (stmtOK p d) && e.all (stmtOK p d)
def tsize : Nat → St1 → Nat
 | 0,_=>0
 | d+1,.mk _ _ _ _ _ b e=>1+(b.map (tsize d)).sum+(e.map (tsize d)).sum
def lsize (d:Nat) (l:List St1):Nat:=(l.map (tsize d)).sum
def okB (p:Pg) (d:Nat) (l:List St1) (c:Nat):Bool:=l.all (stmtOK p d) && decide (c+lsize d l≤60)
def arrOK (a:List Int):Bool:=decide ((a.length:Int)=4) && vals01 a
def memOK (vs ar:List Int) (m:Mm):Bool:=decide ((m.vals.length:Int)=vs.length) && decide ((m.arrays.length:Int)=ar.length) && vals01 m.vals && m.arrays.all arrOK
theorem isMemory1 (a:List Int):DC Try.prog 192 [ints a] [] (fun r h=>r=DB (!arrOK a)∧h=[]):=by
 have hmx:=mx_eq
 refine dc_of_go Try.func192 rfl (by simp) ?_
 refine drv_sound (n:=100) (rs:=_) Try.func192 mo rfl none _ _ ?_
 simp only [go_sem,ints]
 refine XK.gplain 3 false (!((a.length:Int) != 4)) (fun h=>areValues a (by simp at h;omega)) ok190 ?_ (hok:=by intro hx;simp [okP,getCall,Call.operands,evT,upd,peelB,DB,DI,cst,one] at hx ⊢;first | done | exact hx | (simp_all;done) | omega)
 refine drv_sound (n:=100) (rs:=_) Try.func192 mo rfl (some _) _ _ ?_
 simp only [go_sem,ints]
 refine RetOb.plain (d:=DB _) ⟨?_,rfl⟩ rfl
 simp only [DB];congr 3;unfold arrOK;grind
def idxA (q : List Int → Bool) : List (List Int) → Int → Int
 | [],_ => -1
 | x :: r,i=>if q x then i else idxA q r (i+1)
theorem idxA_any (q : List Int → Bool) : ∀ (xs : List (List Int)) (i : Int), 0 ≤ i → decide (0 ≤ idxA q xs i) = xs.any q
 | [],i,_=>by simp [idxA]
 | x :: r,i,h=>by
  unfold idxA
  by_cases hq:q x=true
  ·simp [hq,h]
  ·simp only [hq,Bool.false_eq_true,if_false,List.any_cons,Bool.not_eq_true] at *
   rw [idxA_any q r (i+1) (by omega)];simp [hq]
theorem indexFuncA (g : Nat) (q : List Int → Bool) (xs : List (List Int)) (hl : xs.length ≤ mx) (hok : fnOK Try.prog g = true) (hg : ∀ n ∈ xs, DC Try.prog g [ints n] [] (fun d h => d = DB (q n) ∧ h = [])) :
 DC Try.prog 217 [.c (.isl 1 (xs.map fun a=>[isI a])),.c (.clo g [])] [] (fun d h=>d=DI .i64 (idxA q xs 0)∧h=[]):=by
 have hmx:=mx_eq
 refine dc_of_go Try.func217 rfl (by simp) ?_
 refine drv_sound (n:=100) (rs:=_) Try.func217 mo rfl none _ _ ?_
 simp only [go_sem,isI,I64]
 refine Go.loopL (fun i:Nat=>[(0,.c (.isl 1 (xs.map fun a=>[isI a]))),(1,.c (.clo g [])),(7,DI .i64 xs.length),(8,DI .i64 i)]) (fun _=>[]) 1024 (fun i=>i≤xs.length∧idxA q (xs.drop i) i=idxA q xs 0) (fun i=>xs.length - i) ?_ 0 some [] _ ⟨Nat.zero_le _,rfl⟩ ?_
 ·intro i hi again
  refine drv_sound (n:=100) (rs:=_) Try.func217 mo rfl none _ _ ?_
  rcases Nat.lt_or_ge i xs.length with hlt | hge
  ·obtain ⟨x,hx⟩:∃ x,xs[i]? = some x:=⟨xs[i],by simp [hlt]⟩
   have hmem:x ∈ xs:=List.mem_of_getElem? hx
   have hdrop:xs.drop i=x :: xs.drop (i+1):=by
    obtain ⟨_,e⟩:=List.getElem?_eq_some_iff.1 hx
    rw [List.drop_eq_getElem_cons hlt,e]
   have hI:=hi.2
   rw [hdrop] at hI
   simp only [go_sem,isI,I64,hx,hlt]
   refine XK.plain (hg x hmem) hok ?_
   refine drv_sound (n:=100) (rs:=_) Try.func217 mo rfl (some _) _ _ ?_
   simp only [go_sem,isI,I64]
   refine ⟨fun hq=>?_,fun hq=>⟨by simp only [InK];omega,?_⟩⟩
   ·refine RetOb.plain (d:=DI .i64 _) ⟨?_,rfl⟩ rfl
    rw [← hI];simp [idxA,hq,DI]
   ·refine again (i+1) some [] _ ⟨by omega,?_⟩ (by omega) (Mt.slots ?_)
    ·rw [← hI];simp [idxA,hq]
    ·simp only [go_sem,TmOK,DM,DMs,CM,CMs,forall_eq,exists_eq_left,isI,I64]
  ·have hn:¬ i<xs.length:=by omega
   simp only [go_sem,isI,I64,hn]
   refine RetOb.plain (d:=DI .i64 _) ⟨?_,rfl⟩ rfl
   rw [← hi.2,List.drop_of_length_le hge];rfl
 ·refine Mt.slots ?_
  simp only [go_sem,TmOK,DM,DMs,CM,CMs,forall_eq,exists_eq_left,isI,I64]
theorem containsFuncA (g : Nat) (q : List Int → Bool) (xs : List (List Int)) (hl : xs.length ≤ mx) (hok : fnOK Try.prog g = true) (hg : ∀ n ∈ xs, DC Try.prog g [ints n] [] (fun d h => d = DB (q n) ∧ h = [])) :
 DC Try.prog 191 [.c (.isl 1 (xs.map fun a=>[isI a])),.c (.clo g [])] [] (fun d h=>d=DB (xs.any q)∧h=[]):=by
 refine dc_of_go Try.func191 rfl (by simp) ?_
 refine drv_sound (n:=100) (rs:=_) Try.func191 mo rfl none _ _ ?_
 simp only [go_sem,isI,I64]
 refine XK.plain (indexFuncA g q xs hl hok hg) ok217 ?_
 refine drv_sound (n:=100) (rs:=_) Try.func191 mo rfl (some _) _ _ ?_
 simp only [go_sem,isI,I64]
 refine RetOb.plain (d:=DB _) ⟨?_,rfl⟩ rfl
 simp only [DB];rw [idxA_any q xs 0 (by omega)]
theorem isMemory (vs ar:List Int) (m:Mm) (hl:vs.length≤mx) (hl2:ar.length≤mx):DC Try.prog 167 [ints vs,ints ar,.agg m.cells] [] (fun r h=>r=DB (memOK vs ar m)∧h=[]):=by
 obtain ⟨va,arr⟩:=m
 have hmx:=mx_eq
 refine dc_of_go Try.func167 rfl (by simp) ?_
 refine drv_sound (n:=100) (rs:=_) Try.func167 mo rfl none _ _ ?_
 simp only [go_sem,ints,Mm.cells,isI,I64]
 refine XK.gplain 14 false (!(((va.length:Int) != vs.length) || ((arr.length:Int) != ar.length))) (fun h=>areValues va (by simp at h;omega)) ok190 ?_ (hbT ()) (hok:=by intro hx;simp [okP,getCall,Call.operands,evT,upd,peelB,DB,DI,cst,one] at hx ⊢;first | done | exact hx | (simp_all;done) | omega)
 refine drv_sound (n:=100) (rs:=_) Try.func167 mo rfl (some _) _ _ ?_
 simp only [go_sem,ints,isI,I64]
 refine ⟨fun hno=>RetOb.plain (d:=DB false) ⟨?_,rfl⟩ rfl,fun hyes=>?_⟩
 ·simp only [DB];congr 3;unfold memOK;grind
 ·refine XK.plain (containsFuncA 192 (fun a => !arrOK a) arr (by omega) ok192 fun a _=>isMemory1 a) ok191 ?_ (hbT ())
  refine drv_sound (n:=100) (rs:=_) Try.func167 mo rfl (some _) _ _ ?_
  simp only [go_sem,ints,isI,I64]
  refine RetOb.plain (d:=DB _) ⟨?_,rfl⟩ rfl
  simp only [DB];congr 3;unfold memOK;rw [List.all_eq_not_any_not];grind
theorem l3Fits (p:Pg) (m:Mm) (hl:p.vars.length≤mx) (hl2:p.arrays.length≤mx):DC Try.prog 70 [.agg p.cells,.agg m.cells] [] (fun r h=>r=DB (memOK p.vars p.arrays m)∧h=[]):=by
 obtain ⟨vs,ar,bd⟩:=p
 obtain ⟨va,arr⟩:=m
 have hl:vs.length≤mx:=hl
 have hl2:ar.length≤mx:=hl2
 have hmx:=mx_eq
 generalize hB:memOK _ _ _=B
 unfold memOK at hB
 dsimp only at hB
 have ret:∀ (b:Bool) (hp:Hp),b=B→RetOb 0 (fun r h=>r=DB B∧h=[]) (DB b) hp:=fun b hp h=>RetOb.plain (d:=DB _) ⟨by rw [h],rfl⟩ rfl
 refine dc_of_go Try.func70 rfl (by simp) ?_
 refine drv_sound (n:=100) (rs:=_) Try.func70 mo rfl none _ _ ?_
 simp only [go_sem,Mm.cells]
 refine XK.gplain 16 false (!(((va.length:Int) != vs.length) || ((arr.length:Int) != ar.length))) (fun h=>l3Values va (by simp at h;omega)) ok130 ?_ (hbT ()) (hok:=by intro hx;simp [okP,getCall,Call.operands,evT,upd,peelB,DB,DI,cst,one] at hx ⊢;first | done | exact hx | (simp_all;done) | omega)
 refine drv_sound (n:=100) (rs:=_) Try.func70 mo rfl (some _) _ _ ?_
 simp only [go_sem]
 refine ⟨fun hno=>ret _ _ ?_,fun hyes=>?_⟩
 ·rw [← hB];grind
 have hBB:B=arr.all arrOK:=by rw [← hB];grind
 have inv:∀ (tl:List (Nat × D)) (S:Ms),TmOK (hOf [(64,some (Mm.cells ⟨va,arr⟩))]) some S.hp [] S.tm tl→S.hp 64=some (some (Mm.cells ⟨va,arr⟩))→Mt 0 some [] tl [(64,some (Mm.cells ⟨va,arr⟩))] S :=
  fun tl S h1 h3=>Mt.one h1 (by simp) h3 (by simp [kf,Mm.cells,isI])
 refine Go.loopL (fun i:Nat=>[(3,.c (.ptr 64 0)),(5,DI .i64 i)]) (fun _=>[(64,some (Mm.cells ⟨va,arr⟩))]) 4096 (fun i=>i≤arr.length∧B=(arr.drop i).all arrOK) (fun i=>arr.length - i) ?_ 0 some [] _ ⟨Nat.zero_le _,hBB⟩ ?_
 ·intro i hi again
  refine drv_sound (n:=100) (rs:=_) Try.func70 mo rfl none _ _ ?_
  rcases Nat.lt_or_ge i arr.length with hlt | hge
  ·obtain ⟨x,hx⟩:∃ x,arr[i]? = some x:=⟨arr[i],by simp [hlt]⟩
   have hI:=hi.2
   obtain ⟨_,he⟩:=List.getElem?_eq_some_iff.1 hx
   rw [List.drop_eq_getElem_cons hlt,he,List.all_cons] at hI
   simp only [go_sem,Mm.cells,hx,hlt]
   refine XK.gplain 7 false (!((x.length:Int) != 4)) (fun h=>l3Values x (by simp at h;omega)) ok130 ?_ (hbT ()) (hok:=by intro hx;simp [okP,getCall,Call.operands,evT,upd,peelB,DB,DI,cst,one] at hx ⊢;first | done | exact hx | (simp_all;done) | omega)
   refine drv_sound (n:=100) (rs:=_) Try.func70 mo rfl (some _) _ _ ?_
   simp only [go_sem,Mm.cells]
   refine ⟨fun hno=>ret _ _ ?_,fun hyes=>⟨by simp only [InK];omega,?_⟩⟩
   ·rw [hI];unfold arrOK;grind
   ·refine again (i+1) some [] _ ⟨by omega,?_⟩ (by omega) (inv _ _ ?_ (by rfl))
    ·rw [hI];unfold arrOK;grind
    ·simp only [go_sem,TmOK,DM,DMs,CM,CMs,forall_eq,exists_eq_left,Mm.cells]
  ·have hn:¬ i<arr.length:=by omega
   simp only [go_sem,Mm.cells,hn]
   refine ret _ _ ?_
   rw [hi.2,List.drop_of_length_le hge];rfl
 ·refine inv _ _ ?_ (by rfl)
  simp only [go_sem,TmOK,DM,DMs,CM,CMs,forall_eq,exists_eq_left,Mm.cells]
theorem kf_I (xs:List Int):∀ c ∈ xs.map I64,kf c=true:=by
 intro c hc;obtain ⟨x,_,rfl⟩:=List.mem_map.1 hc;rfl
theorem kf_A (xs:List (List Int)):∀ c ∈ xs.map isI,kf c=true:=by
 intro c hc;obtain ⟨x,_,rfl⟩:=List.mem_map.1 hc;rfl
theorem flat_I (xs:List Int):(xs.map fun n=>[I64 n]).flatten=xs.map I64:=flat1 _ _
theorem flat_A (xs:List (List Int)):(xs.map fun n=>[isI n]).flatten=xs.map isI:=flat1 _ _
theorem RetOb.new1 {R:D→List (Option (List C))→Prop} {sz n k:Nat} {cs:List C} {hp:Hp} (hR:R (.c (.msl 0 sz 0 n)) [some cs]) (hb:hp k=some (some cs)) (hkf:∀ c ∈ cs,kf c=true):RetOb 0 R (.c (.msl k sz 0 n)) hp :=
 RetOb.of (fun j=>if j=0 then some k else none) [] (.c (.msl 0 sz 0 n)) [some cs] (subH_one rfl hb hkf) (by simp [DM,CM,hpL]) hR (by simp)
theorem RetOb.newNil {R:D→List (Option (List C))→Prop} {sz:Nat} {hp:Hp} (hR:R (.c (.msl 0 sz 0 0)) [some []]):RetOb 0 R (.c (.v (.slice none 0 0))) hp :=
 RetOb.of (fun j=>none) [] (.c (.msl 0 sz 0 0)) [some []] ⟨fun k cs h=>by
  match k with
  | 0=>simp [hpL] at h;exact .inr ⟨rfl,h⟩
  | k+1=>simp [hpL] at h,fun k k' cs cs' j _ _ h=>by simp at h,fun k h=>by omega⟩ (by simp [DM,CM,hpL]) hR (by simp)
theorem cloneI (xs:List Int) (hl:xs.length≤1000000):DC Try.prog 98 [ints xs] [] (fun d h=>d = .c (.msl 0 1 0 xs.length)∧h=[some (xs.map I64)]):=by
 have hmx:=mx_eq
 cases xs with
 | nil =>
  refine DC.isl0 fun a c=>?_
  refine dc_of_go Try.func98 rfl (by simp) ?_
  refine drv_sound (n:=100) (rs:=_) Try.func98 mo rfl none _ _ ?_
  cases a with
  | none =>
   simp only [go_sem,ints,isI,I64]
   exact RetOb.newNil ⟨rfl,rfl⟩
  | some a =>
   simp only [go_sem,ints,isI,I64]
   refine ⟨fun k e=>by cases e;rfl,RetOb.new1 ⟨rfl,rfl⟩ (upd_same _ _ _) (by simp)⟩
 | cons a r =>
  have hr:r.length+1≤1000000:=hl
  have hf:=congrArg List.length (flat_I (a :: r))
  simp only [List.map_cons,List.length_cons,List.length_map,isI,I64] at hf
  refine dc_of_go Try.func98 rfl (by simp) ?_
  refine drv_sound (n:=100) (rs:=_) Try.func98 mo rfl none _ _ ?_
  simp only [go_sem,ints,isI,I64]
  refine ⟨⟨fun k e=>by cases e;rfl,by first | exact hf | simpa using hf,by omega,by omega⟩,RetOb.new1 ⟨rfl,rfl⟩ ?_ (kf_I (a :: r))⟩
  rw [← flat_I]
  exact upd_same _ _ _
theorem cloneA (xs:List (List Int)) (hl:xs.length≤1000000):DC Try.prog 168 [.c (.isl 1 (xs.map fun a=>[isI a]))] [] (fun d h=>d = .c (.msl 0 1 0 xs.length)∧h=[some (xs.map isI)]):=by
 have hmx:=mx_eq
 cases xs with
 | nil =>
  refine DC.isl0 fun a c=>?_
  refine dc_of_go Try.func168 rfl (by simp) ?_
  refine drv_sound (n:=100) (rs:=_) Try.func168 mo rfl none _ _ ?_
  cases a with
  | none =>
   simp only [go_sem,ints,isI,I64]
   exact RetOb.newNil ⟨rfl,rfl⟩
  | some a =>
   simp only [go_sem,ints,isI,I64]
   refine ⟨fun k e=>by cases e;rfl,RetOb.new1 ⟨rfl,rfl⟩ (upd_same _ _ _) (by simp)⟩
 | cons a r =>
  have hr:r.length+1≤1000000:=hl
  have hf:=congrArg List.length (flat_A (a :: r))
  simp only [List.map_cons,List.length_cons,List.length_map,isI,I64] at hf
  refine dc_of_go Try.func168 rfl (by simp) ?_
  refine drv_sound (n:=100) (rs:=_) Try.func168 mo rfl none _ _ ?_
  simp only [go_sem,ints,isI,I64]
  refine ⟨⟨fun k e=>by cases e;rfl,by first | exact hf | simpa using hf,by omega,by omega⟩,RetOb.new1 ⟨rfl,rfl⟩ ?_ (kf_A (a :: r))⟩
  rw [← flat_A]
  exact upd_same _ _ _
def hdr (b b' na:Nat):List C:=[C.msl b 1 0 4,.msl b' 1 0 4].take na
def blk0 (arr:List (List Int)):List C:=((arr[0]?).getD []).map I64
def blk1 (arr:List (List Int)):List C:=((arr[1]?).getD []).map I64
def memB (b:Nat) (m:Mm):List (Option (List C)):=[some (m.vals.map I64),some (hdr b (b+1) m.arrays.length),some (blk0 m.arrays),some (blk1 m.arrays)]
theorem CMs_I {hT hS:Hp} {r:Nat→Option Nat} {fz:List Nat} (xs:List Int):CMs hT r hS fz (xs.map I64) (xs.map I64)=True:=eq_true (CMs.kf (kf_I xs))
theorem flat_I' (xs:List Int):(xs.map fun n=>[C.v (.int .i64 n)]).flatten=xs.map I64:=flat1 _ _
theorem l3Copy (m:Mm) (hv:m.vals.length≤1000) (ha:m.arrays.length≤2) (h4:∀ a ∈ m.arrays,a.length=4):DC Try.prog 116 [.agg m.cells] [] (fun d h=>d = .agg [.msl 0 1 0 m.vals.length,.msl 1 1 0 m.arrays.length]∧h=memB 2 m):=by
 have hmx:=mx_eq
 obtain ⟨va,arr⟩:=m
 have hv:va.length≤1000:=hv
 match arr,ha,h4 with
 | [],_,_ =>
  refine dc_of_go Try.func116 rfl (by simp) ?_
  refine drv_sound (n:=100) (rs:=_) Try.func116 mo rfl none _ _ ?_
  simp only [go_sem,Mm.cells,isI,I64,flat_I']
  refine ⟨⟨fun k e=>by cases e;rfl,by omega,by omega⟩,?_⟩
  refine Go.loop ?_
  refine drv_sound (n:=100) (rs:=_) Try.func116 mo rfl none _ _ ?_
  simp only [go_sem,Mm.cells,isI,I64,flat_I',Int.reduceLT]
  refine RetOb.ofQ (fun j=>if j=0 then some 320 else none) [] (.agg [.msl 0 1 0 va.length,.msl 1 1 0 0]) (memB 2 ⟨va,[]⟩) ?_ ⟨rfl,rfl⟩ (by simp)
  simp [memB,enumL,hOf,hdr,blk0,blk1,DM,CM,CMs,HpOK,LowOK,upd,CMs_I,isI]
 | [a],_,h4 =>
  have h4a:a.length=4:=h4 a (by simp)
  refine dc_of_go Try.func116 rfl (by simp) ?_
  refine drv_sound (n:=100) (rs:=_) Try.func116 mo rfl none _ _ ?_
  simp only [go_sem,Mm.cells,isI,I64,flat_I']
  refine ⟨⟨fun k e=>by cases e;rfl,by omega,by omega⟩,?_⟩
  refine Go.loop ?_
  refine drv_sound (n:=100) (rs:=_) Try.func116 mo rfl none _ _ ?_
  simp only [go_sem,Mm.cells,isI,I64,flat_I',Int.reduceLT]
  (with_reducible and_intros)<;>try exact sd
  refine Go.inLoop ?_
  refine drv_sound (n:=100) (rs:=_) Try.func116 mo rfl none _ _ ?_
  simp only [go_sem,Mm.cells,isI,I64,flat_I',Int.reduceLT]
  refine RetOb.ofQ (fun j=>if j=0 then some 320 else if j=1 then some 1600 else if j=2 then some 1472 else none) [] (.agg [.msl 0 1 0 va.length,.msl 1 1 0 1]) (memB 2 ⟨va,[a]⟩) ?_ ⟨rfl,rfl⟩ (by simp)
  simp [memB,enumL,hOf,hdr,blk0,blk1,DM,CM,CMs,HpOK,LowOK,upd,CMs_I,isI,h4a]
 | [a,b],_,h4 =>
  have h4a:a.length=4:=h4 a (by simp)
  have h4b:b.length=4:=h4 b (by simp)
  refine dc_of_go Try.func116 rfl (by simp) ?_
  refine drv_sound (n:=100) (rs:=_) Try.func116 mo rfl none _ _ ?_
  simp only [go_sem,Mm.cells,isI,I64,flat_I']
  refine ⟨⟨fun k e=>by cases e;rfl,by omega,by omega⟩,?_⟩
  refine Go.loop ?_
  refine drv_sound (n:=100) (rs:=_) Try.func116 mo rfl none _ _ ?_
  simp only [go_sem,Mm.cells,isI,I64,flat_I',Int.reduceLT]
  (with_reducible and_intros)<;>try exact sd
  refine Go.inLoop ?_
  refine drv_sound (n:=100) (rs:=_) Try.func116 mo rfl none _ _ ?_
  simp only [go_sem,Mm.cells,isI,I64,flat_I',Int.reduceLT]
  (with_reducible and_intros)<;>try exact sd
  refine Go.inLoop ?_
  refine drv_sound (n:=100) (rs:=_) Try.func116 mo rfl none _ _ ?_
  simp only [go_sem,Mm.cells,isI,I64,flat_I',Int.reduceLT]
  refine RetOb.ofQ (fun j=>if j=0 then some 320 else if j=1 then some 2944 else if j=2 then some 1472 else if j=3 then some 2816 else none) [] (.agg [.msl 0 1 0 va.length,.msl 1 1 0 2]) (memB 2 ⟨va,[a,b]⟩) ?_ ⟨rfl,rfl⟩ (by simp)
  simp [memB,enumL,hOf,hdr,blk0,blk1,DM,CM,CMs,HpOK,LowOK,upd,CMs_I,isI,h4a,h4b]
theorem renCs_I (r:Nat→Nat) (xs:List Int):renCs r (xs.map I64)=xs.map I64:=by
 induction xs with
 | nil=>rfl
 | cons a t ih=>simp only [List.map_cons,renCs,ih];rfl
theorem renCs_hdr (r:Nat→Nat) (b b' n:Nat):renCs r (hdr b b' n)=hdr (r b) (r b') n:=by
 unfold hdr
 match n with
 | 0=>rfl
 | 1=>rfl
 | n+2=>simp [renCs,renC]
theorem CMs_hdr {hT hS:Hp} {r:Nat→Option Nat} {fz:List Nat} (b b' j j' n:Nat) (h1:r b=some j) (h2:r b'=some j') (h3:hT b ≠ none) (h4:hT b' ≠ none):CMs hT r hS fz (hdr b b' n) (hdr j j' n)=True:=by
 apply eq_true
 unfold hdr
 match n with
 | 0=>simp [CMs]
 | 1=>simp [CMs,CM,h1,h3]
 | n+2=>simp [CMs,CM,h1,h2,h3,h4]
def trC (tr:List Ev):List C:=(tr.map Ev.cells).flatten
theorem trC_len (tr:List Ev):(trC tr).length=tr.length * 2:=by
 unfold trC
 induction tr with
 | nil=>rfl
 | cons a r ih=>simp only [List.map_cons,List.flatten_cons,List.length_append,ih,Ev.cells,List.length_cons,List.length_nil];omega
theorem trC_app (tr tr':List Ev):trC (tr++tr')=trC tr++trC tr':=by simp [trC]
theorem renCs_tr (r:Nat→Nat) (tr:List Ev):renCs r (trC tr)=trC tr:=by
 unfold trC
 induction tr with
 | nil=>rfl
 | cons a t ih=>simp only [List.map_cons,List.flatten_cons,Ev.cells,List.cons_append,List.nil_append,renCs,renC,ih]
theorem trC_kf (tr:List Ev):∀ c ∈ trC tr,kf c=true:=by
 unfold trC
 induction tr with
 | nil=>simp
 | cons a t ih =>
  intro c hc
  rw [List.map_cons,List.flatten_cons,List.mem_append] at hc
  rcases hc with hc | hc
  ·simp only [Ev.cells,List.mem_cons,List.not_mem_nil,or_false] at hc
   rcases hc with rfl | rfl<;>rfl
  ·exact ih c hc
theorem CMs_tr {hT hS:Hp} {r:Nat→Option Nat} {fz:List Nat} (tr:List Ev):CMs hT r hS fz (trC tr) (trC tr)=True:=eq_true (CMs.kf (trC_kf tr))
theorem own (m:Mm) (hv:m.vals.length≤1000) (ha:m.arrays.length≤2) (h4:∀ a ∈ m.arrays,a.length=4):DC Try.prog 120 [.agg m.cells] [] (fun d h=>d = .agg [.msl 0 1 0 m.vals.length,.msl 1 1 0 m.arrays.length]∧h=memB 2 m):=by
 have hmx:=mx_eq
 obtain ⟨va,arr⟩:=m
 have hv:va.length≤1000:=hv
 have ha2:arr.length≤2:=ha
 refine dc_of_go Try.func120 rfl (by simp) ?_
 refine drv_sound (n:=100) (rs:=_) Try.func120 mo rfl none _ _ ?_
 simp only [go_sem,Mm.cells,isI,I64,Int.reduceLT,renCs_I]
 (with_reducible and_intros)<;>try exact sd
 refine XK.callG [] (cloneI va (by omega)) ok98 (fun i' x h=>by simp at h) (hbT ()) (fun d h' ⟨_,e⟩=>by subst e;simp) ?_ (fun _=>⟨by kernel_rfl,_,_,⟨rfl,rfl⟩,Nat.zero_le _⟩)
 rintro _ _ ⟨rfl,rfl⟩ _
 refine drv_sound (n:=100) (rs:=_) Try.func120 mo rfl (some _) _ _ ?_
 simp only [go_sem,Mm.cells,isI,I64,Int.reduceLT,renCs_I]
 (with_reducible and_intros)<;>try exact sd
 refine XK.callG [] (cloneA arr (by omega)) ok168 (fun i' x h=>by simp at h) (hbT ()) (fun d h' ⟨_,e⟩=>by subst e;simp) ?_ (fun _=>⟨by kernel_rfl,_,_,⟨rfl,rfl⟩,Nat.zero_le _⟩)
 rintro _ _ ⟨rfl,rfl⟩ _
 refine drv_sound (n:=100) (rs:=_) Try.func120 mo rfl (some _) _ _ ?_
 simp only [go_sem,Mm.cells,isI,I64,Int.reduceLT,renCs_I]
 (with_reducible and_intros)<;>try exact sd
 match arr,ha,h4 with
 | [],_,_ =>
  refine Go.loop ?_
  refine drv_sound (n:=100) (rs:=_) Try.func120 mo rfl none _ _ ?_
  simp only [go_sem,Mm.cells,isI,I64,Int.reduceLT,renCs_I]
  refine RetOb.ofQ (fun j=>if j=0 then some 256 else if j=1 then some 448 else none) [] (.agg [.msl 0 1 0 va.length,.msl 1 1 0 0]) (memB 2 ⟨va,[]⟩) ?_ ⟨rfl,rfl⟩ (by simp)
  simp [memB,enumL,hOf,hdr,blk0,blk1,DM,CM,CMs,HpOK,LowOK,upd,CMs_I,isI]
 | [a],_,h4 =>
  have h4a:a.length=4:=h4 a (by simp)
  refine Go.loop ?_
  refine drv_sound (n:=100) (rs:=_) Try.func120 mo rfl none _ _ ?_
  simp only [go_sem,Mm.cells,isI,I64,Int.reduceLT,renCs_I]
  (with_reducible and_intros)<;>try exact sd
  refine XK.callG [] (cloneI a (by omega)) ok98 (fun i' x h=>by simp at h) (hbT ()) (fun d h' ⟨_,e⟩=>by subst e;simp) ?_ (fun _=>⟨by kernel_rfl,_,_,⟨rfl,rfl⟩,Nat.zero_le _⟩)
  rintro _ _ ⟨rfl,rfl⟩ _
  refine drv_sound (n:=100) (rs:=_) Try.func120 mo rfl (some _) _ _ ?_
  simp only [go_sem,Mm.cells,isI,I64,Int.reduceLT,renCs_I]
  (with_reducible and_intros)<;>try exact sd
  refine Go.inLoop ?_
  refine drv_sound (n:=100) (rs:=_) Try.func120 mo rfl none _ _ ?_
  simp only [go_sem,Mm.cells,isI,I64,Int.reduceLT,renCs_I]
  refine RetOb.ofQ (fun j=>if j=0 then some 256 else if j=1 then some 448 else if j=2 then some 1664 else none) [] (.agg [.msl 0 1 0 va.length,.msl 1 1 0 1]) (memB 2 ⟨va,[a]⟩) ?_ ⟨rfl,rfl⟩ (by simp)
  simp [memB,enumL,hOf,hdr,blk0,blk1,DM,CM,CMs,HpOK,LowOK,upd,CMs_I,isI,h4a]
 | [a,b],_,h4 =>
  have h4a:a.length=4:=h4 a (by simp)
  have h4b:b.length=4:=h4 b (by simp)
  refine Go.loop ?_
  refine drv_sound (n:=100) (rs:=_) Try.func120 mo rfl none _ _ ?_
  simp only [go_sem,Mm.cells,isI,I64,Int.reduceLT,renCs_I]
  (with_reducible and_intros)<;>try exact sd
  refine XK.callG [] (cloneI a (by omega)) ok98 (fun i' x h=>by simp at h) (hbT ()) (fun d h' ⟨_,e⟩=>by subst e;simp) ?_ (fun _=>⟨by kernel_rfl,_,_,⟨rfl,rfl⟩,Nat.zero_le _⟩)
  rintro _ _ ⟨rfl,rfl⟩ _
  refine drv_sound (n:=100) (rs:=_) Try.func120 mo rfl (some _) _ _ ?_
  simp only [go_sem,Mm.cells,isI,I64,Int.reduceLT,renCs_I]
  (with_reducible and_intros)<;>try exact sd
  refine Go.inLoop ?_
  refine drv_sound (n:=100) (rs:=_) Try.func120 mo rfl none _ _ ?_
  simp only [go_sem,Mm.cells,isI,I64,Int.reduceLT,renCs_I]
  (with_reducible and_intros)<;>try exact sd
  refine XK.callG [] (cloneI b (by omega)) ok98 (fun i' x h=>by simp at h) (hbT ()) (fun d h' ⟨_,e⟩=>by subst e;simp) ?_ (fun _=>⟨by kernel_rfl,_,_,⟨rfl,rfl⟩,Nat.zero_le _⟩)
  rintro _ _ ⟨rfl,rfl⟩ _
  refine drv_sound (n:=100) (rs:=_) Try.func120 mo rfl (some _) _ _ ?_
  simp only [go_sem,Mm.cells,isI,I64,Int.reduceLT,renCs_I]
  (with_reducible and_intros)<;>try exact sd
  refine Go.inLoop ?_
  refine drv_sound (n:=100) (rs:=_) Try.func120 mo rfl none _ _ ?_
  simp only [go_sem,Mm.cells,isI,I64,Int.reduceLT,renCs_I]
  refine RetOb.ofQ (fun j=>if j=0 then some 256 else if j=1 then some 448 else if j=2 then some 1664 else if j=3 then some 2624 else none) [] (.agg [.msl 0 1 0 va.length,.msl 1 1 0 2]) (memB 2 ⟨va,[a,b]⟩) ?_ ⟨rfl,rfl⟩ (by simp)
  simp [memB,enumL,hOf,hdr,blk0,blk1,DM,CM,CMs,HpOK,LowOK,upd,CMs_I,isI,h4a,h4b]
def nth (l:List Int) (i:Int):Int:=l.getD i.toNat 0
def arrAt (m:Mm) (v:Int):List Int:=m.arrays.getD v.toNat []
theorem bin_range {k a b:Int} (ha:0≤a∧a≤255) (hb:0≤b∧b≤255):0≤bin k a b∧bin k a b≤255:=by
 have h1:a.toNat &&& b.toNat≤a.toNat:=Nat.and_le_left
 have h2:a.toNat ^^^ b.toNat<2 ^ 8:=Nat.xor_lt_two_pow (by omega) (by omega)
 unfold bin
 repeat' split
 all_goals omega
structure MemFits (p : Pg) (m : Mm) : Prop where
 nv:m.vals.length=p.vars.length
 na:m.arrays.length=p.arrays.length
 nv12:1≤p.vars.length∧p.vars.length≤12
 na2:p.arrays.length≤2
 val:∀ x ∈ m.vals,0≤x∧x≤255
 arr:∀ a ∈ m.arrays,a.length=4∧∀ x ∈ a,0≤x∧x≤255
theorem nth_mem {l:List Int} {i:Int} (h:0≤i) (h2:i<l.length):l[i.toNat]? = some (nth l i)∧nth l i ∈ l:=by
 have h3:i.toNat<l.length:=by omega
 have e:l[i.toNat]? = some l[i.toNat]:=List.getElem?_eq_getElem h3
 have e2:nth l i=l[i.toNat]:=by simp [nth,List.getD,e]
 rw [e2]
 exact ⟨e,List.getElem_mem h3⟩
theorem arrAt_mem {m:Mm} {v:Int} (h:0≤v) (h2:v<m.arrays.length):m.arrays[v.toNat]? = some (arrAt m v)∧arrAt m v ∈ m.arrays:=by
 have h3:v.toNat<m.arrays.length:=by omega
 have e:m.arrays[v.toNat]? = some m.arrays[v.toNat]:=List.getElem?_eq_getElem h3
 have e2:arrAt m v=m.arrays[v.toNat]:=by simp [arrAt,List.getD,e]
 rw [e2]
 exact ⟨e,List.getElem_mem h3⟩
end Go.Proofs.Ytddanjifhdaebaa.CtR
