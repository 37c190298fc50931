/- Contracts of functions of the program, one behind the other, as plain data: what each call returns and which blocks it leaves. -/
import Derived.Test.YtoakidkcppinpaaGreatDFacts
set_option linter.unusedVariables false
set_option linter.unusedSimpArgs false
set_option linter.unusedSectionVars false
set_option maxHeartbeats 16000000
set_option maxRecDepth 100000
namespace Go.Proofs.YtoakidkcppinpaaGreat.CtR
open Go Go.CT CtF
variable [Yn]
def arity (k:Int):Int:=if k=1∨k=2 then 0 else if k=3 then 1 else if 4≤k∧k≤10 then 2 else if k=11 then 3 else -1
theorem l2Arity (k:Int):DC Tryz.prog 151 [DI .i64 k] [] (fun d h=>d=DI .i64 (arity k)∧h=[]):=by
 refine dc_of_go Tryz.func151 rfl (by simp) ?_
 refine drv_sound (n:=100) (rs:=_) Tryz.func151 mo rfl none _ _ ?_
 simp only [go_sem]
 repeat' (first | with_reducible apply And.intro | with_reducible intro _)
 all_goals first | omega | skip
 all_goals refine RetOb.plain (d:=DI .i64 _) ⟨?_,rfl⟩ rfl
 all_goals (unfold arity;simp only [DI];congr 3;repeat' split)<;>omega
theorem truth (b:Bool):DC Tryz.prog 138 [DB b] [] (fun d h=>d=DI .i64 (if b then 1 else 0)∧h=[]):=by
 refine dc_of_go Tryz.func138 rfl (by simp) ?_
 refine drv_sound (n:=100) (rs:=_) Tryz.func138 mo rfl none _ _ ?_
 simp only [go_sem]
 repeat' (first | with_reducible apply And.intro | with_reducible intro _)
 all_goals refine RetOb.plain (d:=DI .i64 _) ⟨?_,rfl⟩ rfl
 all_goals simp_all [DI]
theorem within (n lo hi:Int):DC Tryz.prog 60 [DI .i64 n,DI .i64 lo,DI .i64 hi] [] (fun d h=>d=DB (decide (lo≤n) && decide (n≤hi))∧h=[]):=by
 refine dc_of_go Tryz.func60 rfl (by simp) ?_
 refine drv_sound (n:=100) (rs:=_) Tryz.func60 mo rfl none _ _ ?_
 simp only [go_sem,Pg.cells,Ex.cells,isI,I64]
 repeat' (first | with_reducible apply And.intro | with_reducible intro _)
 all_goals first | omega | skip
 all_goals refine RetOb.plain (d:=DB _) ⟨?_,rfl⟩ rfl
 all_goals simp [DB]
theorem labelValidS (n:Int):DC Tryz.prog 101 [DI .i64 n] [] (fun d h=>d=DB (decide (0≤n) && decide (n≤3))∧h=[]):=by
 refine dc_of_go Tryz.func101 rfl (by simp) ?_
 refine drv_sound (n:=100) (rs:=_) Tryz.func101 mo rfl none _ _ ?_
 simp only [go_sem,Pg.cells,Ex.cells,isI,I64]
 repeat' (first | with_reducible apply And.intro | with_reducible intro _)
 all_goals first | omega | skip
 all_goals refine RetOb.plain (d:=DB _) ⟨?_,rfl⟩ rfl
 all_goals simp [DB]
def limit (p:Pg) (k:Int):Int:=if k=1 then 256 else if k=2 then p.vars.length else if k=3 then p.arrays.length else 1
def atom (e:Ex):Bool:=e.kind == 1 || e.kind == 2
theorem l2Limit (p:Pg) (k:Int):DC Tryz.prog 160 [.agg p.cells,DI .i64 k] [] (fun d h=>d=DI .i64 (limit p k)∧h=[]):=by
 refine dc_of_go Tryz.func160 rfl (by simp) ?_
 refine drv_sound (n:=100) (rs:=_) Tryz.func160 mo rfl none _ _ ?_
 simp only [go_sem,Pg.cells,Ex.cells,isI,I64]
 repeat' (first | with_reducible apply And.intro | with_reducible intro _)
 all_goals first | omega | skip
 all_goals refine RetOb.plain (d:=DI .i64 _) ⟨?_,rfl⟩ rfl
 all_goals (unfold limit;simp_all [DI])
theorem l2Atom (e:Ex):DC Tryz.prog 143 [.agg e.cells] [] (fun d h=>d=DB (atom e)∧h=[]):=by
 refine dc_of_go Tryz.func143 rfl (by simp) ?_
 refine drv_sound (n:=100) (rs:=_) Tryz.func143 mo rfl none _ _ ?_
 obtain ⟨k,v,ks⟩:=e
 simp only [go_sem,Pg.cells,Ex.cells,isI,I64]
 repeat' (first | with_reducible apply And.intro | with_reducible intro _)
 all_goals first | omega | skip
 all_goals refine RetOb.plain (d:=DB _) ⟨?_,rfl⟩ rfl
 all_goals simp [DB,atom,Ex.kind]
theorem labelValidI (n:Int):DC Tryz.prog 48 [DI .i64 n] [] (fun d h=>d=DB (decide (0≤n) && decide (n≤3))∧h=[]):=by
 refine dc_of_go Tryz.func48 rfl (by simp) ?_
 refine drv_sound (n:=100) (rs:=_) Tryz.func48 mo rfl none _ _ ?_
 simp only [go_sem]
 refine XK.plain (within n 0 3) ok60 ?_
 refine drv_sound (n:=100) (rs:=_) Tryz.func48 mo rfl (some _) _ _ ?_
 simp only [go_sem]
 exact RetOb.plain (d:=DB _) ⟨rfl,rfl⟩ rfl
theorem areLabels1 (n:Int):DC Tryz.prog 113 [DI .i64 n] [] (fun d h=>d=DB (!(decide (0≤n) && decide (n≤3)))∧h=[]):=by
 refine dc_of_go Tryz.func113 rfl (by simp) ?_
 refine drv_sound (n:=100) (rs:=_) Tryz.func113 mo rfl none _ _ ?_
 simp only [go_sem]
 refine XK.plain (labelValidI n) ok48 ?_
 refine drv_sound (n:=100) (rs:=_) Tryz.func113 mo rfl (some _) _ _ ?_
 simp only [go_sem]
 exact RetOb.plain (d:=DB _) ⟨rfl,rfl⟩ rfl
theorem areValues1 (n:Int):DC Tryz.prog 109 [DI .i64 n] [] (fun d h=>d=DB (!(decide (0≤n) && decide (n≤255)))∧h=[]):=by
 refine dc_of_go Tryz.func109 rfl (by simp) ?_
 refine drv_sound (n:=100) (rs:=_) Tryz.func109 mo rfl none _ _ ?_
 simp only [go_sem]
 refine XK.plain (within n 0 255) ok60 ?_
 refine drv_sound (n:=100) (rs:=_) Tryz.func109 mo rfl (some _) _ _ ?_
 simp only [go_sem]
 exact RetOb.plain (d:=DB _) ⟨rfl,rfl⟩ rfl
def none0 (e:Ex):Bool:=e.kind == 0 && e.value == 0 && e.kids.isEmpty
theorem l3Bool (b:Bool):DC Tryz.prog 133 [DB b] [] (fun d h=>d=DI .i64 (if b then 1 else 0)∧h=[]):=by
 refine dc_of_go Tryz.func133 rfl (by simp) ?_
 refine drv_sound (n:=100) (rs:=_) Tryz.func133 mo rfl none _ _ ?_
 simp only [go_sem,Pg.cells,Ex.cells,isI,I64]
 repeat' (first | with_reducible apply And.intro | with_reducible intro _)
 all_goals first | omega | skip
 all_goals refine RetOb.plain (d:=DI .i64 _) ⟨?_,rfl⟩ rfl
 all_goals simp_all [DI]
theorem l3Address (a i:Int) (ha:0≤a∧a≤255) (hi:0≤i∧i≤255):DC Tryz.prog 104 [DI .i64 a,DI .i64 i] [] (fun d h=>d=DI .i64 (a * 4+i % 4)∧h=[]):=by
 refine dc_of_go Tryz.func104 rfl (by simp) ?_
 refine drv_sound (n:=100) (rs:=_) Tryz.func104 mo rfl none _ _ ?_
 simp only [go_sem,Pg.cells,Ex.cells,isI,I64]
 repeat' (first | with_reducible apply And.intro | with_reducible intro _)
 all_goals first | omega | (simp only [InK];omega) | skip
 all_goals refine RetOb.plain (d:=DI .i64 _) ⟨?_,rfl⟩ rfl
 all_goals simp [DI]
theorem address (a i:Int) (ha:0≤a∧a≤255) (hi:0≤i∧i≤255):DC Tryz.prog 111 [DI .i64 a,DI .i64 i] [] (fun d h=>d=DI .i64 (a * 4+i % 4)∧h=[]):=by
 refine dc_of_go Tryz.func111 rfl (by simp) ?_
 refine drv_sound (n:=100) (rs:=_) Tryz.func111 mo rfl none _ _ ?_
 simp only [go_sem,Pg.cells,Ex.cells,isI,I64]
 repeat' (first | with_reducible apply And.intro | with_reducible intro _)
 all_goals first | omega | (simp only [InK];omega) | skip
 all_goals refine RetOb.plain (d:=DI .i64 _) ⟨?_,rfl⟩ rfl
 all_goals simp [DI]
theorem l2None (e:Ex):DC Tryz.prog 154 [.agg e.cells] [] (fun d h=>d=DB (none0 e)∧h=[]):=by
 refine dc_of_go Tryz.func154 rfl (by simp) ?_
 refine drv_sound (n:=100) (rs:=_) Tryz.func154 mo rfl none _ _ ?_
 obtain ⟨k,v,ks⟩:=e
 simp only [go_sem,Pg.cells,Ex.cells,isI,I64]
 repeat' (first | with_reducible apply And.intro | with_reducible intro _)
 all_goals first | kernel_rfl | omega | skip
 all_goals refine RetOb.plain (d:=DB _) ⟨?_,rfl⟩ rfl
 all_goals (cases ks<;>simp [DB,none0,Ex.kind,Ex.value,Ex.kids,Ex.cellsL]<;>omega)
theorem isNone (e:Ex):DC Tryz.prog 136 [.agg e.cells] [] (fun d h=>d=DB (none0 e)∧h=[]):=by
 refine dc_of_go Tryz.func136 rfl (by simp) ?_
 refine drv_sound (n:=100) (rs:=_) Tryz.func136 mo rfl none _ _ ?_
 obtain ⟨k,v,ks⟩:=e
 simp only [go_sem,Pg.cells,Ex.cells,isI,I64]
 repeat' (first | with_reducible apply And.intro | with_reducible intro _)
 all_goals first | kernel_rfl | omega | skip
 all_goals refine RetOb.plain (d:=DB _) ⟨?_,rfl⟩ rfl
 all_goals (cases ks<;>simp [DB,none0,Ex.kind,Ex.value,Ex.kids,Ex.cellsL]<;>omega)
theorem isPlain (e:Ex):DC Tryz.prog 135 [.agg e.cells] [] (fun d h=>d=DB (atom e)∧h=[]):=by
 refine dc_of_go Tryz.func135 rfl (by simp) ?_
 refine drv_sound (n:=100) (rs:=_) Tryz.func135 mo rfl none _ _ ?_
 obtain ⟨k,v,ks⟩:=e
 simp only [go_sem,Pg.cells,Ex.cells,isI,I64]
 repeat' (first | with_reducible apply And.intro | with_reducible intro _)
 all_goals first | kernel_rfl | omega | skip
 all_goals refine RetOb.plain (d:=DB _) ⟨?_,rfl⟩ rfl
 all_goals simp [DB,atom,Ex.kind]
theorem operandsI (k:Int):DC Tryz.prog 159 [DI .i64 k] [] (fun d h=>d=DI .i64 (arity k)∧h=[]):=by
 refine dc_of_go Tryz.func159 rfl (by simp) ?_
 refine drv_sound (n:=100) (rs:=_) Tryz.func159 mo rfl none _ _ ?_
 simp only [go_sem]
 refine ⟨fun h=>?_,fun h=>⟨fun h3=>?_,fun h3=>?_⟩⟩
 ·refine RetOb.plain (d:=DI .i64 _) ⟨?_,rfl⟩ rfl
  unfold arity;simp only [DI];congr 3;repeat' split
  all_goals omega
 ·refine RetOb.plain (d:=DI .i64 _) ⟨?_,rfl⟩ rfl
  unfold arity;simp only [DI];congr 3;repeat' split
  all_goals omega
 ·refine XK.plain (within k 4 10) ok60 ?_
  refine drv_sound (n:=100) (rs:=_) Tryz.func159 mo rfl (some _) _ _ ?_
  simp only [go_sem]
  repeat' (first | with_reducible apply And.intro | with_reducible intro _)
  all_goals refine RetOb.plain (d:=DI .i64 _) ⟨?_,rfl⟩ rfl
  all_goals (unfold arity;simp only [DI];congr 3;repeat' split)<;>simp_all<;>omega
def bin (k a b:Int):Int:=if k=4 then (a+b) % 256 else if k=5 then (a - b+256) % 256 else if k=6 then a * b % 256 else if k=7 then ((a.toNat &&& b.toNat:Nat):Int) else
 if k=8 then ((a.toNat ^^^ b.toNat:Nat):Int) else if k=9 then (if a=b then 1 else 0) else if a<b then 1 else 0
theorem l3Bin (k a b:Int) (ha:0≤a∧a≤255) (hb:0≤b∧b≤255):DC Tryz.prog 105 [DI .i64 k,DI .i64 a,DI .i64 b] [] (fun d h=>d=DI .i64 (bin k a b)∧h=[]):=by
 have hm0:0≤a * b:=Int.mul_nonneg ha.1 hb.1
 have hm1:a * b≤255 * 255:=Int.mul_le_mul ha.2 hb.2 hb.1 (by decide)
 have hz:=andZ_nn (k := .i64) (a:=a) (b:=b) ha.1 hb.1 (by simp only [InK];omega) (by simp only [InK];omega)
 refine dc_of_go Tryz.func105 rfl (by simp) ?_
 refine drv_sound (n:=200) (rs:=_) Tryz.func105 mo rfl none _ _ ?_
 simp only [go_sem,hz]
 repeat' (first | with_reducible apply And.intro | with_reducible intro _)
 all_goals first | (simp only [InK];omega) | omega | skip
 all_goals first
  | (refine RetOb.plain (d:=DI .i64 _) ⟨?_,rfl⟩ rfl;simp_all [bin,DI];done)
  | (refine XK.plain (l3Bool _) ok133 ?_
     refine drv_sound (n:=100) (rs:=_) Tryz.func105 mo rfl (some _) _ _ ?_
     simp only [go_sem,hz]
     refine RetOb.plain (d:=DI .i64 _) ⟨?_,rfl⟩ rfl
     simp_all [bin,DI])
theorem operate (k a b:Int) (ha:0≤a∧a≤255) (hb:0≤b∧b≤255):DC Tryz.prog 112 [DI .i64 k,DI .i64 a,DI .i64 b] [] (fun d h=>d=DI .i64 (bin k a b)∧h=[]):=by
 have hm0:0≤a * b:=Int.mul_nonneg ha.1 hb.1
 have hm1:a * b≤255 * 255:=Int.mul_le_mul ha.2 hb.2 hb.1 (by decide)
 have hz:=andZ_nn (k := .i64) (a:=a) (b:=b) ha.1 hb.1 (by simp only [InK];omega) (by simp only [InK];omega)
 refine dc_of_go Tryz.func112 rfl (by simp) ?_
 refine drv_sound (n:=200) (rs:=_) Tryz.func112 mo rfl none _ _ ?_
 simp only [go_sem,hz]
 repeat' (first | with_reducible apply And.intro | with_reducible intro _)
 all_goals first | (simp only [InK];omega) | omega | skip
 all_goals first
  | (refine RetOb.plain (d:=DI .i64 _) ⟨?_,rfl⟩ rfl;simp_all [bin,DI];done)
  | (refine XK.plain (truth _) ok138 ?_
     refine drv_sound (n:=100) (rs:=_) Tryz.func112 mo rfl (some _) _ _ ?_
     simp only [go_sem,hz]
     refine RetOb.plain (d:=DI .i64 _) ⟨?_,rfl⟩ rfl
     simp_all [bin,DI])
def idxF (q : Int → Bool) : List Int → Int → Int
 | [],_ => -1
 | x :: r,i=>if q x then i else idxF q r (i+1)
theorem indexFunc (g : Nat) (q : Int → Bool) (xs : List Int) (hl : xs.length ≤ mx) (hok : fnOK Tryz.prog g = true) (hg : ∀ n ∈ xs, DC Tryz.prog g [DI .i64 n] [] (fun d h => d = DB (q n) ∧ h = [])) :
 DC Tryz.prog 137 [ints xs,.c (.clo g [])] [] (fun d h=>d=DI .i64 (idxF q xs 0)∧h=[]):=by
 have hmx:=mx_eq
 refine dc_of_go Tryz.func137 rfl (by simp) ?_
 refine drv_sound (n:=100) (rs:=_) Tryz.func137 mo rfl none _ _ ?_
 simp only [go_sem,ints]
 refine Go.loopL (fun i:Nat=>[(0,ints xs),(1,.c (.clo g [])),(7,DI .i64 xs.length),(8,DI .i64 i)]) (fun _=>[]) 1024 (fun i=>i≤xs.length∧idxF q (xs.drop i) i=idxF q xs 0) (fun i=>xs.length - i) ?_ 0 some [] _ ⟨Nat.zero_le _,rfl⟩ ?_
 ·intro i hi again
  refine drv_sound (n:=100) (rs:=_) Tryz.func137 mo rfl none _ _ ?_
  rcases Nat.lt_or_ge i xs.length with hlt | hge
  ·obtain ⟨x,hx⟩:∃ x,xs[i]? = some x:=⟨xs[i],by simp [hlt]⟩
   have hmem:x ∈ xs:=List.mem_of_getElem? hx
   have hdrop:xs.drop i=x :: xs.drop (i+1):=by
    obtain ⟨_,e⟩:=List.getElem?_eq_some_iff.1 hx
    rw [List.drop_eq_getElem_cons hlt,e]
   have hI:=hi.2
   rw [hdrop] at hI
   simp only [go_sem,ints,hx]
   refine ⟨fun _=>?_,fun h=>by omega⟩
   refine XK.plain (hg x hmem) hok ?_
   refine drv_sound (n:=100) (rs:=_) Tryz.func137 mo rfl (some _) _ _ ?_
   simp only [go_sem,ints]
   refine ⟨fun hq=>?_,fun hq=>⟨by simp only [InK];omega,?_⟩⟩
   ·refine RetOb.plain (d:=DI .i64 _) ⟨?_,rfl⟩ rfl
    rw [← hI];simp [idxF,hq,DI]
   ·refine again (i+1) some [] _ ⟨by omega,?_⟩ (by omega) (Mt.slots ?_)
    ·rw [← hI];simp [idxF,hq]
    ·simp only [go_sem,TmOK,DM,DMs,CM,CMs,forall_eq,exists_eq_left,ints]
  ·simp only [go_sem,ints]
   refine ⟨fun h=>by omega,fun _=>?_⟩
   refine RetOb.plain (d:=DI .i64 _) ⟨?_,rfl⟩ rfl
   rw [← hi.2,List.drop_of_length_le hge];rfl
 ·refine Mt.slots ?_
  simp only [go_sem,TmOK,DM,DMs,CM,CMs,forall_eq,exists_eq_left,ints]
theorem idxF_any (q : Int → Bool) : ∀ (xs : List Int) (i : Int), 0 ≤ i → decide (0 ≤ idxF q xs i) = xs.any q
 | [],i,_=>by simp [idxF]
 | x :: r,i,h=>by
  unfold idxF
  by_cases hq:q x=true
  ·simp [hq,h]
  ·simp only [hq,Bool.false_eq_true,if_false,List.any_cons,Bool.not_eq_true] at *
   rw [idxF_any q r (i+1) (by omega)];simp [hq]
theorem containsFunc (g : Nat) (q : Int → Bool) (xs : List Int) (hl : xs.length ≤ mx) (hok : fnOK Tryz.prog g = true) (hg : ∀ n ∈ xs, DC Tryz.prog g [DI .i64 n] [] (fun d h => d = DB (q n) ∧ h = [])) :
 DC Tryz.prog 108 [ints xs,.c (.clo g [])] [] (fun d h=>d=DB (xs.any q)∧h=[]):=by
 refine dc_of_go Tryz.func108 rfl (by simp) ?_
 refine drv_sound (n:=100) (rs:=_) Tryz.func108 mo rfl none _ _ ?_
 simp only [go_sem,ints]
 refine XK.plain (indexFunc g q xs hl hok hg) ok137 ?_
 refine drv_sound (n:=100) (rs:=_) Tryz.func108 mo rfl (some _) _ _ ?_
 simp only [go_sem,ints]
 refine RetOb.plain (d:=DB _) ⟨?_,rfl⟩ rfl
 simp only [DB];rw [idxF_any q xs 0 (by omega)]
def vals01 (xs:List Int):Bool:=xs.all fun n=>decide (0≤n) && decide (n≤255)
theorem areValues (xs:List Int) (hl:xs.length≤mx):DC Tryz.prog 80 [ints xs] [] (fun d h=>d=DB (vals01 xs)∧h=[]):=by
 refine dc_of_go Tryz.func80 rfl (by simp) ?_
 refine drv_sound (n:=100) (rs:=_) Tryz.func80 mo rfl none _ _ ?_
 simp only [go_sem,ints]
 refine XK.plain (containsFunc 109 _ xs hl ok109 fun n _=>areValues1 n) ok108 ?_
 refine drv_sound (n:=100) (rs:=_) Tryz.func80 mo rfl (some _) _ _ ?_
 simp only [go_sem,ints]
 refine RetOb.plain (d:=DB _) ⟨?_,rfl⟩ rfl
 simp [DB,vals01,List.all_eq_not_any_not]
theorem l3Values (xs:List Int) (hl:xs.length≤mx):DC Tryz.prog 51 [ints xs] [] (fun d h=>d=DB (vals01 xs)∧h=[]):=by
 have hmx:=mx_eq
 refine dc_of_go Tryz.func51 rfl (by simp) ?_
 refine drv_sound (n:=100) (rs:=_) Tryz.func51 mo rfl none _ _ ?_
 simp only [go_sem,ints]
 refine Go.loopL (fun i:Nat=>[(0,ints xs),(3,DI .i64 i)]) (fun _=>[]) 1024 (fun i=>i≤xs.length∧vals01 (xs.drop i)=vals01 xs) (fun i=>xs.length - i) ?_ 0 some [] _ ⟨Nat.zero_le _,rfl⟩ ?_
 ·intro i hi again
  refine drv_sound (n:=100) (rs:=_) Tryz.func51 mo rfl none _ _ ?_
  rcases Nat.lt_or_ge i xs.length with hlt | hge
  ·obtain ⟨x,hx⟩:∃ x,xs[i]? = some x:=⟨xs[i],by simp [hlt]⟩
   have hdrop:xs.drop i=x :: xs.drop (i+1):=by
    obtain ⟨_,e⟩:=List.getElem?_eq_some_iff.1 hx
    rw [List.drop_eq_getElem_cons hlt,e]
   have hI:=hi.2
   rw [hdrop] at hI
   simp only [go_sem,ints,hx]
   refine ⟨fun _=>⟨fun h=>?_,fun h=>⟨by simp only [InK];omega,?_⟩⟩,fun h=>by omega⟩
   ·refine RetOb.plain (d:=DB _) ⟨?_,rfl⟩ rfl
    rw [← hI];simp only [DB,vals01,List.all_cons];congr 3
    have:(decide (0≤x) && decide (x≤255))=false:=by
     rw [Bool.and_eq_false_iff];simp only [decide_eq_false_iff_not];omega
    simp [this]
   ·refine again (i+1) some [] _ ⟨by omega,?_⟩ (by omega) (Mt.slots ?_)
    ·rw [← hI];simp [vals01,h.1,h.2]
    ·simp only [go_sem,TmOK,DM,DMs,CM,CMs,forall_eq,exists_eq_left,ints]
  ·simp only [go_sem,ints]
   refine ⟨fun h=>by omega,fun _=>?_⟩
   refine RetOb.plain (d:=DB _) ⟨?_,rfl⟩ rfl
   rw [← hi.2,List.drop_of_length_le hge];rfl
 ·refine Mt.slots ?_
  simp only [go_sem,TmOK,DM,DMs,CM,CMs,forall_eq,exists_eq_left,ints]
def labs (xs:List Int):Bool:=xs.all fun n=>decide (0≤n) && decide (n≤3)
theorem areLabels (xs:List Int) (hl:xs.length≤mx):DC Tryz.prog 85 [ints xs] [] (fun d h=>d=DB (labs xs)∧h=[]):=by
 refine dc_of_go Tryz.func85 rfl (by simp) ?_
 refine drv_sound (n:=100) (rs:=_) Tryz.func85 mo rfl none _ _ ?_
 simp only [go_sem,ints]
 refine XK.plain (containsFunc 113 _ xs hl ok113 fun n _=>areLabels1 n) ok108 ?_
 refine drv_sound (n:=100) (rs:=_) Tryz.func85 mo rfl (some _) _ _ ?_
 simp only [go_sem,ints]
 refine RetOb.plain (d:=DB _) ⟨?_,rfl⟩ rfl
 simp [DB,labs,List.all_eq_not_any_not]
def headsOK (vs ar:List Int):Bool:=decide (1≤(vs.length:Int)) && decide ((vs.length:Int)≤12) && decide ((ar.length:Int)≤2) && labs vs && labs ar
theorem declared (vs ar:List Int) (hl:vs.length≤mx) (hl2:ar.length≤mx):DC Tryz.prog 59 [ints vs,ints ar] [] (fun d h=>d=DB (headsOK vs ar)∧h=[]):=by
 have hmx:=mx_eq
 refine dc_of_go Tryz.func59 rfl (by simp) ?_
 refine drv_sound (n:=100) (rs:=_) Tryz.func59 mo rfl none _ _ ?_
 simp only [go_sem,ints]
 refine XK.plain (within vs.length 1 12) ok60 ?_
 refine drv_sound (n:=100) (rs:=_) Tryz.func59 mo rfl (some _) _ _ ?_
 simp only [go_sem,ints]
 refine XK.gplain 8 true ((decide (1≤(vs.length:Int)) && decide ((vs.length:Int)≤12)) && decide ((ar.length:Int)≤2)) (fun _=>areLabels vs hl) ok85 ?_ (hok:=by intro hx;simp [okP,getCall,Call.operands,evT,upd,peelB,DB,DI,cst,one] at hx ⊢;first | done | exact hx | (simp_all;done) | omega)
 refine drv_sound (n:=100) (rs:=_) Tryz.func59 mo rfl (some _) _ _ ?_
 simp only [go_sem,ints]
 refine XK.gplain 12 true (((decide (1≤(vs.length:Int)) && decide ((vs.length:Int)≤12)) && decide ((ar.length:Int)≤2)) && labs vs) (fun _=>areLabels ar hl2) ok85 ?_ (hok:=by intro hx;simp [okP,getCall,Call.operands,evT,upd,peelB,DB,DI,cst,one] at hx ⊢;first | done | exact hx | (simp_all;done) | omega)
 refine drv_sound (n:=100) (rs:=_) Tryz.func59 mo rfl (some _) _ _ ?_
 simp only [go_sem,ints]
 exact RetOb.plain (d:=DB _) ⟨by simp [DB,headsOK],rfl⟩ rfl
theorem notlab (x:Int) (hq:0≤x→3<x):(decide (0≤x) && decide (x≤3))=false:=by
 by_cases h:0≤x
 ·have:=hq h;simp;omega
 ·simp [h]
theorem l2Heads (p:Pg) (hl:p.vars.length≤mx) (hl2:p.arrays.length≤mx):DC Tryz.prog 76 [.agg p.cells] [] (fun d h=>d=DB (headsOK p.vars p.arrays)∧h=[]):=by
 have hmx:=mx_eq
 obtain ⟨vs,ar,bd⟩:=p
 simp only at hl hl2
 have stepL:∀ (xs:List Int) (i:Nat) (x:Int),xs[i]? = some x→labs (xs.drop i)=((decide (0≤x) && decide (x≤3)) && labs (xs.drop (i+1))):=fun xs i x hx=>by
  obtain ⟨hlt,e⟩:=List.getElem?_eq_some_iff.1 hx
  rw [List.drop_eq_getElem_cons hlt,e];simp [labs]
 have ret:∀ (b:Bool) (hp:Hp),b=headsOK vs ar→RetOb 0 (fun d h=>d=DB (headsOK vs ar)∧h=[]) (DB b) hp:=fun b hp h=>RetOb.plain (d:=DB _) ⟨by rw [h],rfl⟩ rfl
 refine dc_of_go Tryz.func76 rfl (by simp) ?_
 refine drv_sound (n:=100) (rs:=_) Tryz.func76 mo rfl none _ _ ?_
 simp only [go_sem,Pg.cells,isI,I64]
 have inv:∀ (q:Bool) (fz:List Nat) (tl:List (Nat × D)) (S:Ms),TmOK (hOf [(0,some [.isl 1 (vs.map fun n=>[.v (.int .i64 n)]),.isl 1 (ar.map fun n=>[.v (.int .i64 n)]),.isl 11 (St1.cellsL bd)])]) some S.hp fz S.tm tl→0 ∉ fz→S.hp 0=some (some [.isl 1 (vs.map fun n=>[.v (.int .i64 n)]),.isl 1 (ar.map fun n=>[.v (.int .i64 n)]),.isl 11 (St1.cellsL bd)])→Mt 0 some fz tl [(0,some [.isl 1 (vs.map fun n=>[.v (.int .i64 n)]),.isl 1 (ar.map fun n=>[.v (.int .i64 n)]),.isl 11 (St1.cellsL bd)])] S :=
  fun q fz tl S h1 h2 h3=>Mt.one h1 h2 h3 (by simp [kf])
 refine Go.loopL (fun i:Nat=>[(1,.c (.ptr 0 0)),(3,DI .i64 i)]) (fun _=>[(0,some [.isl 1 (vs.map fun n=>[.v (.int .i64 n)]),.isl 1 (ar.map fun n=>[.v (.int .i64 n)]),.isl 11 (St1.cellsL bd)])]) 1024 (fun i=>i≤vs.length∧labs (vs.drop i)=labs vs) (fun i=>vs.length - i) ?_ 0 some [] _ ⟨Nat.zero_le _,rfl⟩ ?_
 ·intro i hi again
  refine drv_sound (n:=100) (rs:=_) Tryz.func76 mo rfl none _ _ ?_
  rcases Nat.lt_or_ge i vs.length with hlt | hge
  ·obtain ⟨x,hx⟩:∃ x,vs[i]? = some x:=⟨vs[i],by simp [hlt]⟩
   have hI:=hi.2
   rw [stepL vs i x hx] at hI
   simp only [go_sem,hx,hlt]
   refine XK.plain (labelValidS x) ok101 ?_ (hbT ())
   refine drv_sound (n:=100) (rs:=_) Tryz.func76 mo rfl (some _) _ _ ?_
   simp only [go_sem]
   refine ⟨fun hq=>ret _ _ ?_,fun hq=>⟨by simp only [InK];omega,?_⟩⟩
   ·rw [notlab x hq] at hI;simp [headsOK,← hI]
   ·refine again (i+1) some [] _ ⟨by omega,?_⟩ (by omega) (inv true _ _ _ ?_ (by simp) (by rfl))
    ·rw [← hI];simp [hq.1,hq.2]
    ·simp only [go_sem,TmOK,DM,DMs,CM,CMs,forall_eq,exists_eq_left]
  ·have hn:¬ i<vs.length:=by omega
   simp only [go_sem,hn]
   have hlv:labs vs=true:=by rw [← hi.2,List.drop_of_length_le hge];rfl
   refine Go.loopL (fun i:Nat=>[(1,.c (.ptr 0 0)),(4,DI .i64 i)]) (fun _=>[(0,some [.isl 1 (vs.map fun n=>[.v (.int .i64 n)]),.isl 1 (ar.map fun n=>[.v (.int .i64 n)]),.isl 11 (St1.cellsL bd)])]) 2048 (fun i=>i≤ar.length∧labs (ar.drop i)=labs ar) (fun i=>ar.length - i) ?_ 0 some [] _ ⟨Nat.zero_le _,rfl⟩ ?_
   ·intro i hi again
    refine drv_sound (n:=100) (rs:=_) Tryz.func76 mo rfl none _ _ ?_
    rcases Nat.lt_or_ge i ar.length with hlt | hge
    ·obtain ⟨x,hx⟩:∃ x,ar[i]? = some x:=⟨ar[i],by simp [hlt]⟩
     have hI:=hi.2
     rw [stepL ar i x hx] at hI
     simp only [go_sem,hx,hlt]
     refine XK.plain (labelValidS x) ok101 ?_ (hbT ())
     refine drv_sound (n:=100) (rs:=_) Tryz.func76 mo rfl (some _) _ _ ?_
     simp only [go_sem]
     refine ⟨fun hq=>ret _ _ ?_,fun hq=>⟨by simp only [InK];omega,?_⟩⟩
     ·rw [notlab x hq] at hI;simp [headsOK,← hI]
     ·refine again (i+1) some [] _ ⟨by omega,?_⟩ (by omega) (inv true _ _ _ ?_ (by simp) (by rfl))
      ·rw [← hI];simp [hq.1,hq.2]
      ·simp only [go_sem,TmOK,DM,DMs,CM,CMs,forall_eq,exists_eq_left]
    ·have hn:¬ i<ar.length:=by omega
     have hla:labs ar=true:=by rw [← hi.2,List.drop_of_length_le hge];rfl
     simp only [go_sem,hn]
     refine ret _ _ ?_
     simp [headsOK,hlv,hla]
     first | done | omega
   ·refine inv true _ _ _ ?_ (by simp) (by rfl)
    simp only [go_sem,TmOK,DM,DMs,CM,CMs,forall_eq,exists_eq_left]
 ·refine inv true _ _ _ ?_ (by simp) (by rfl)
  simp only [go_sem,TmOK,DM,DMs,CM,CMs,forall_eq,exists_eq_left]
def headAtom : List Ex → Bool
 | []=>false
 | a :: _=>atom a
def fitsE (p:Pg) (k v:Int) (n:Nat):Bool:=decide ((n:Int)=arity k) && decide (0≤v) && decide (v<limit p k)
def shape (p : Pg) : Nat → Ex → Bool
 | 0,_=>false
 | d+1,.mk k v ks=>fitsE p k v ks.length && ks.all (shape p d) && (!(k == 3) || headAtom ks)
theorem arity_le (k:Int):arity k≤3:=by
 unfold arity;repeat' split
 all_goals omega
theorem fitsE_false {p:Pg} {k v:Int} {n:Nat} (h:¬ ((n:Int)=arity k)∨v<0∨limit p k≤v):fitsE p k v n=false:=by
 rw [Bool.eq_false_iff];simp [fitsE];omega
theorem fitsE_true {p:Pg} {k v:Int} {n:Nat} (h:(n:Int)=arity k) (h2:0≤v) (h3:v<limit p k):fitsE p k v n=true:=by
 simp [fitsE];omega
theorem l2Shape (p:Pg) (hl:p.vars.length≤mx) (hl2:p.arrays.length≤mx):∀ (d:Nat) (e:Ex),d≤5→DC Tryz.prog 152 [.agg p.cells,.agg e.cells,DI .i64 d] [] (fun r h=>r=DB (shape p d e)∧h=[]):=by
 have hmx:=mx_eq
 intro d
 induction d using Nat.strongRecOn with
 | _ d ih =>
  intro e hd
  obtain ⟨k,v,ks⟩:=e
  obtain ⟨vs,ar,bd⟩:=p
  refine dc_of_go Tryz.func152 rfl (by simp) ?_
  refine drv_sound (n:=100) (rs:=_) Tryz.func152 mo rfl none _ _ ?_
  simp only [go_sem]
  repeat refine And.intro (by kernel_rfl) ?_
  refine XK.gplain 2 false (!(decide ((d:Int)<1))) (fun _=>l2Arity k) ok151 ?_ (hbT ()) (fun _=>by kernel_rfl) (hok:=by intro hx;simp [okP,getCall,Call.operands,evT,upd,peelB,DB,DI,cst,one] at hx ⊢;first | done | exact hx | (simp_all;done) | omega)
  refine drv_sound (n:=100) (rs:=_) Tryz.func152 mo rfl (some _) _ _ ?_
  simp only [go_sem]
  repeat refine And.intro (by kernel_rfl) ?_
  refine XK.gplain 16 false (!((decide ((d:Int)<1) || ((ks.length:Int) != arity k)) || decide (v<0))) (fun _=>l2Limit ⟨vs,ar,bd⟩ k) ok160 ?_ (hbT ()) (fun _=>by kernel_rfl) (hok:=by intro hx;simp [okP,getCall,Call.operands,evT,upd,peelB,DB,DI,cst,one] at hx ⊢;first | done | exact hx | (simp_all;done) | omega)
  refine drv_sound (n:=100) (rs:=_) Tryz.func152 mo rfl (some _) _ _ ?_
  simp only [go_sem]
  refine And.intro (by kernel_rfl) (And.intro (by kernel_rfl) ⟨fun hno=>RetOb.plain (d:=DB false) ⟨?_,rfl⟩ rfl,fun hyes=>?_⟩)
  ·cases d with
   | zero=>rfl
   | succ d =>
    simp only [shape]
    rw [fitsE_false (by omega)]
    rfl
  obtain ⟨d',rfl⟩:∃ d',d=d' + 1:=⟨d - 1,by omega⟩
  have ks3:ks.length≤3:=by have:=arity_le k;omega
  have hfit:=fitsE_true (p:=⟨vs,ar,bd⟩) (v:=v) hyes.1.1.2 hyes.1.2 hyes.2
  refine Go.loopL (fun i:Nat=>[(2,DI .i64 ((d' + 1:Nat):Int)),(3,.c (.ptr 0 0)),(4,.c (.ptr 64 0)),(7,DI .i64 i)]) (fun _=>[(0,some (Pg.cells ⟨vs,ar,bd⟩)),(64,some (Ex.cells (.mk k v ks)))]) 1024 (fun i=>i≤ks.length∧ks.all (shape ⟨vs,ar,bd⟩ d')=(ks.drop i).all (shape ⟨vs,ar,bd⟩ d')) (fun i=>ks.length - i) ?_ 0 some [] _ ⟨Nat.zero_le _,rfl⟩ ?_
  ·intro i hi again
   refine drv_sound (n:=100) (rs:=_) Tryz.func152 mo rfl none _ _ ?_
   rcases Nat.lt_or_ge i ks.length with hlt | hge
   ·obtain ⟨⟨k',v',ks'⟩,hx⟩:∃ x,ks[i]? = some x:=⟨ks[i],by simp [hlt]⟩
    have hI:=hi.2
    obtain ⟨_,he⟩:=List.getElem?_eq_some_iff.1 hx
    rw [List.drop_eq_getElem_cons hlt,he,List.all_cons] at hI
    simp only [go_sem,hx,hlt]
    (with_reducible and_intros)<;>try exact sd
    refine XK.plain (ih d' (by omega) (.mk k' v' ks') (by omega)) ok152 ?_ (hbT ()) (fun _=>by kernel_rfl)
    refine drv_sound (n:=100) (rs:=_) Tryz.func152 mo rfl (some _) _ _ ?_
    simp only [go_sem]
    refine And.intro (by kernel_rfl) ⟨fun hno=>RetOb.plain (d:=DB false) ⟨?_,rfl⟩ rfl,fun hyes=>⟨by simp only [InK];omega,?_⟩⟩
    ·rw [hno] at hI
     simp [DB,shape,hI]
    ·refine again (i+1) some [] _ ⟨by omega,?_⟩ (by omega) ?_
     ·rw [hI,hyes];rfl
     ·simp only [go_sem,TmOK,DM,DMs,CM,CMs,forall_eq,exists_eq_left,Mt,HpOK,LowOK]
      simp
   ·have hn:¬ i<ks.length:=by omega
    have hall:ks.all (shape ⟨vs,ar,bd⟩ d')=true:=by rw [hi.2,List.drop_of_length_le hge];rfl
    have ret:∀ (hp:Hp) (b:Bool),b=(!(k == 3) || headAtom ks)→RetOb 0 (fun d h=>d=DB (shape ⟨vs,ar,bd⟩ (d' + 1) (.mk k v ks))∧h=[]) (DB b) hp:=fun hp b hb=>RetOb.plain (d:=DB _) ⟨by simp [shape,hfit,hall,hb],rfl⟩ rfl
    rcases ks with _ | ⟨⟨k',v',ks'⟩,r⟩
    ·have hk3:k ≠ 3:=by rintro rfl;have:=hyes.1.1.2;simp [arity] at this
     have hb3:(k != 3)=true:=by simp [hk3]
     have hc3:(k == 3)=false:=by simp [hk3]
     have hi0:((i:Int)<0)=False:=by simp
     simp only [go_sem,hi0,hk3,hb3,hc3,Ex.cellsL]
     refine XK.gskip 3 false (DB false) ?_ (hbT ())
     refine drv_sound (n:=100) (rs:=_) Tryz.func152 mo rfl (some _) _ _ ?_
     simp only [go_sem]
     refine ret _ _ ?_
     simp [hk3]
    ·have hi0:((i:Int)<(r.length:Int)+1)=False:=by simp at hn;simp;omega
     simp only [go_sem,hi0,Ex.cellsL]
     refine XK.gplain 3 false (!(k != 3)) (fun _=>l2Atom (.mk k' v' ks')) ok143 ?_ (hbT ()) (hok:=by intro hx;simp [okP,getCall,Call.operands,evT,upd,peelB,DB,DI] at hx ⊢;first | done | exact hx | (simp_all;done) | omega)
     refine drv_sound (n:=100) (rs:=_) Tryz.func152 mo rfl (some _) _ _ ?_
     simp only [go_sem]
     refine ret _ _ ?_
     simp [headAtom,bne]
  ·simp only [go_sem,TmOK,DM,DMs,CM,CMs,forall_eq,exists_eq_left,Mt,HpOK,LowOK]
   simp
def cnt : Nat → Ex → Nat
 | 0,_=>1
 | d+1,.mk _ _ ks=>1+(ks.map (cnt d)).sum
theorem sum_le {α : Type} (f : α → Nat) (B : Nat) : ∀ l : List α, (∀ x ∈ l, f x ≤ B) → (l.map f).sum ≤ l.length * B
 | [],_=>by simp
 | a :: r,h=>by
  have h1:=h a (by simp)
  have h2:=sum_le f B r fun x hx=>h x (by simp [hx])
  simp only [List.map_cons,List.sum_cons,List.length_cons,Nat.add_mul]
  omega
theorem shape_succ {p:Pg} {d:Nat} {k v:Int} {ks:List Ex} (h:shape p (d+1) (.mk k v ks)=true):fitsE p k v ks.length=true∧(∀ x ∈ ks,shape p d x=true)∧(k=3→headAtom ks=true):=by
 simp only [shape,Bool.and_eq_true,List.all_eq_true,Bool.or_eq_true] at h
 refine ⟨h.1.1,h.1.2,fun hk=>?_⟩
 rcases h.2 with h2 | h2
 ·simp [hk] at h2
 ·exact h2
theorem fits_len {p:Pg} {k v:Int} {n:Nat} (h:fitsE p k v n=true):n≤3∧(n:Int)=arity k∧0≤v∧v<limit p k:=by
 simp [fitsE] at h
 have:=arity_le k
 omega
theorem cnt_le (p : Pg) : ∀ (d : Nat) (e : Ex), shape p d e = true → cnt d e ≤ 4 ^ d
 | 0,_,h=>by simp [shape] at h
 | d+1,.mk k v ks,h=>by
  obtain ⟨h1,h2,_⟩:=shape_succ h
  have h3:=(fits_len h1).1
  have:=sum_le (cnt d) (4 ^ d) ks fun x hx=>cnt_le p d x (h2 x hx)
  have h4:ks.length * 4 ^ d≤3 * 4 ^ d:=Nat.mul_le_mul_right _ h3
  have h5:1≤4 ^ d:=Nat.pow_pos (by decide)
  simp only [cnt,Nat.pow_succ]
  omega
def tsum {α:Type} (f:α→Nat) (ks:List α) (i:Nat):Nat:=((ks.take i).map f).sum
theorem tsum_le {α:Type} (f:α→Nat) (ks:List α) (i:Nat):tsum f ks i≤(ks.map f).sum:=by
 conv=>rhs;rw [← List.take_append_drop i ks,List.map_append,List.sum_append]
 unfold tsum;omega
theorem tsum_succ {α:Type} (f:α→Nat) (ks:List α) (i:Nat) (x:α) (hx:ks[i]? = some x):tsum f ks (i+1)=tsum f ks i+f x:=by
 unfold tsum;rw [List.take_add_one,hx];simp
theorem tsum_zero {α:Type} (f:α→Nat) (ks:List α):tsum f ks 0=0:=rfl
theorem tsum_all {α:Type} (f:α→Nat) (ks:List α) {i:Nat} (h:ks.length≤i):tsum f ks i=(ks.map f).sum:=by
 unfold tsum;rw [List.take_of_length_le h]
theorem pow5 {d:Nat} (h:d≤5):4 ^ d≤1024:=Nat.le_trans (Nat.pow_le_pow_right (by omega) h) (by decide)
theorem l2Count (p:Pg):∀ (d:Nat) (e:Ex),d≤5→shape p d e=true→DC Tryz.prog 153 [.agg e.cells,DI .i64 d] [] (fun r h=>r=DI .i64 (cnt d e)∧h=[]):=by
 intro d
 induction d using Nat.strongRecOn with
 | _ d ih =>
  intro e hd hsh
  obtain ⟨k,v,ks⟩:=e
  obtain ⟨d',rfl⟩:∃ d',d=d' + 1:=by
   cases d with
   | zero=>simp [shape] at hsh
   | succ d'=>exact ⟨d',rfl⟩
  have hpos:((0:Int)<(d':Int)+1)=True:=by simp
  have hcle:=cnt_le p _ _ hsh
  have h5:=pow5 hd
  obtain ⟨h1,h2,_⟩:=shape_succ hsh
  have hlen:=(fits_len h1).1
  simp only [cnt] at hcle
  refine dc_of_go Tryz.func153 rfl (by simp) ?_
  refine drv_sound (n:=100) (rs:=_) Tryz.func153 mo rfl none _ _ ?_
  simp only [go_sem]
  refine Go.loopL (fun i:Nat=>[(1,DI .i64 ((d' + 1:Nat):Int)),(2,.c (.ptr 0 0)),(5,DI .i64 (1+tsum (cnt d') ks i:Nat)),(6,DI .i64 i)]) (fun _=>[(0,some (Ex.cells (.mk k v ks)))]) 1024 (fun i=>i≤ks.length) (fun i=>ks.length - i) ?_ 0 some [] _ (Nat.zero_le _) ?_
  ·intro i hi again
   refine drv_sound (n:=100) (rs:=_) Tryz.func153 mo rfl none _ _ ?_
   have ht:=tsum_le (cnt d') ks i
   rcases Nat.lt_or_ge i ks.length with hlt | hge
   ·obtain ⟨⟨k',v',ks'⟩,hx⟩:∃ x,ks[i]? = some x:=⟨ks[i],by simp [hlt]⟩
    have hs:=tsum_succ (cnt d') ks i _ hx
    have ht2:=tsum_le (cnt d') ks (i+1)
    simp only [go_sem,hx,hlt,hpos]
    (with_reducible and_intros)<;>try exact sd
    refine XK.plain (ih d' (by omega) (.mk k' v' ks') (by omega) (h2 _ (List.mem_of_getElem? hx))) ok153 ?_ (hbT ())
    refine drv_sound (n:=100) (rs:=_) Tryz.func153 mo rfl (some _) _ _ ?_
    simp only [go_sem]
    (with_reducible and_intros)<;>try exact sd
    refine again (i+1) some [] _ (by omega) (by omega) ?_
    simp only [go_sem,TmOK,DM,DMs,CM,CMs,forall_eq,exists_eq_left,Mt,HpOK,LowOK,hs]
    simp
    omega
   ·have hn:¬ i<ks.length:=by omega
    simp only [go_sem,hn]
    refine RetOb.plain (d:=DI .i64 _) ⟨?_,rfl⟩ rfl
    simp [DI,cnt,tsum_all _ _ hge]
  ·simp only [go_sem,TmOK,DM,DMs,CM,CMs,forall_eq,exists_eq_left,Mt,HpOK,LowOK,tsum_zero]
   simp
def right (p:Pg) (e:Ex):Bool:=shape p 5 e && decide ((cnt 5 e:Int)≤15)
theorem l2Right (p:Pg) (e:Ex) (hl:p.vars.length≤mx) (hl2:p.arrays.length≤mx):DC Tryz.prog 141 [.agg p.cells,.agg e.cells] [] (fun r h=>r=DB (right p e)∧h=[]):=by
 obtain ⟨k,v,ks⟩:=e
 obtain ⟨vs,ar,bd⟩:=p
 refine dc_of_go Tryz.func141 rfl (by simp) ?_
 refine drv_sound (n:=100) (rs:=_) Tryz.func141 mo rfl none _ _ ?_
 simp only [go_sem]
 refine XK.plain (l2Shape ⟨vs,ar,bd⟩ hl hl2 5 (.mk k v ks) (by omega)) ok152 ?_ (hbT ())
 refine drv_sound (n:=100) (rs:=_) Tryz.func141 mo rfl (some _) _ _ ?_
 simp only [go_sem]
 refine XK.gplain 3 true (shape ⟨vs,ar,bd⟩ 5 (.mk k v ks)) (fun h=>l2Count ⟨vs,ar,bd⟩ 5 (.mk k v ks) (by omega) h) ok153 ?_ (hbT ()) (hok:=by intro hx;simp [okP,getCall,Call.operands,evT,upd,peelB,DB,DI,cst,one] at hx ⊢;first | done | exact hx | (simp_all;done) | omega)
 refine drv_sound (n:=100) (rs:=_) Tryz.func141 mo rfl (some _) _ _ ?_
 simp only [go_sem]
 refine RetOb.plain (d:=DB _) ⟨?_,rfl⟩ rfl
 simp [right,DB]
def highI (p:Pg) (k:Int):Int:=if k=1 then 255 else if k=2 then (p.vars.length:Int) - 1 else if k=3 then (p.arrays.length:Int) - 1 else 0
theorem highI_eq (p:Pg) (k:Int):highI p k=limit p k - 1:=by
 unfold highI limit;repeat' split
 all_goals omega
def okE (p:Pg) (d:Nat) (e:Ex) (c:Nat):Bool:=shape p d e && decide (c+cnt d e≤15)
def scanR (p:Pg) (d:Nat) (e:Ex) (c:Nat) (r:D) (h:List (Option (List C))):Prop:=∃ c':Nat,r=DB (okE p d e c)∧h=[some [I64 c']]∧c'≤16∧(okE p d e c=true→c'=c+cnt d e)
theorem okE_kid {p:Pg} {d c i:Nat} {k v:Int} {ks:List Ex} {x:Ex} (hx:ks[i]? = some x) (h:okE p d x (c+1+tsum (cnt d) ks i)=false):false=okE p (d+1) (.mk k v ks) c:=by
 symm
 rw [Bool.eq_false_iff] at h ⊢
 intro h2
 apply h
 simp only [okE,Bool.and_eq_true,decide_eq_true_eq] at h2 ⊢
 refine ⟨(shape_succ h2.1).2.1 x (List.mem_of_getElem? hx),?_⟩
 have h3:=tsum_succ (cnt d) ks i x hx
 have h4:=tsum_le (cnt d) ks (i+1)
 have h5:=h2.2
 simp only [cnt] at h5
 omega
theorem okE_all {p:Pg} {d c:Nat} {k v:Int} {ks:List Ex} (h1:fitsE p k v ks.length=true) (h2:∀ x ∈ ks,shape p d x=true) (h3:k=3→headAtom ks=true) (h4:c+1+tsum (cnt d) ks ks.length≤15):true=okE p (d+1) (.mk k v ks) c∧c+1+tsum (cnt d) ks ks.length=c+cnt (d+1) (.mk k v ks):=by
 rw [tsum_all _ _ (Nat.le_refl _)] at h4 ⊢
 have hs:shape p (d+1) (.mk k v ks)=true:=by
  simp only [shape,Bool.and_eq_true,List.all_eq_true,Bool.or_eq_true]
  refine ⟨⟨h1,h2⟩,?_⟩
  by_cases hk:k=3
  ·exact .inr (h3 hk)
  ·exact .inl (by simp [hk])
 have hc:c+cnt (d+1) (.mk k v ks)≤15:=by simp only [cnt];omega
 refine ⟨by simp [okE,hs,hc],by simp only [cnt];omega⟩
theorem take_succ_mem {α:Type} {ks:List α} {i:Nat} {x:α} (hx:ks[i]? = some x) {q:α→Prop} (h:∀ y ∈ ks.take i,q y) (h2:q x):∀ y ∈ ks.take (i+1),q y:=by
 intro y hy
 rw [List.take_add_one,hx] at hy
 rcases List.mem_append.1 hy with h3 | h3
 ·exact h y h3
 ·simp at h3;rw [h3];exact h2
theorem okE_false_of_val {p:Pg} {d c:Nat} {k v:Int} {ks:List Ex} (h:0≤v→highI p k<v):false=okE p d (.mk k v ks) c:=by
 symm
 rw [Bool.eq_false_iff]
 intro h2
 cases d with
 | zero=>simp [okE,shape] at h2
 | succ d =>
  simp only [okE,Bool.and_eq_true] at h2
  have:=fits_len (shape_succ h2.1).1
  rw [highI_eq] at h
  omega
theorem fitsE_true2 {p:Pg} {k v:Int} {n:Nat} (h:(n:Int)=arity k) (h2:0≤v) (h3:v≤highI p k):fitsE p k v n=true:=by
 rw [highI_eq] at h3;exact fitsE_true h h2 (by omega)
theorem okE_false_of_atom {p:Pg} {d c:Nat} {v:Int} {ks:List Ex} (h:headAtom ks=false):false=okE p d (.mk 3 v ks) c:=by
 symm
 rw [Bool.eq_false_iff]
 intro h2
 cases d with
 | zero=>simp [okE,shape] at h2
 | succ d =>
  simp only [okE,Bool.and_eq_true] at h2
  have:=(shape_succ h2.1).2.2 rfl
  rw [h] at this;cases this
theorem headAtom_of {ks:List Ex} {x:Ex} (h:ks[0]? = some x):headAtom ks=atom x:=by
 cases ks with
 | nil=>simp at h
 | cons a r=>simp at h;rw [h];rfl
theorem scan (p:Pg) (hl:p.vars.length≤mx) (hl2:p.arrays.length≤mx):∀ (d:Nat) (e:Ex) (deep:Int) (c:Nat),1≤deep→deep+d=6→c≤15→DC Tryz.prog 150 [.agg p.cells,.agg e.cells,DI .i64 deep,.c (.ptr 0 0)] [some [I64 c]] (scanR p d e c):=by
 have hmx:=mx_eq
 intro d
 induction d using Nat.strongRecOn with
 | _ d ih =>
  intro e deep c hdeep hsum hc
  obtain ⟨k,v,ks⟩:=e
  obtain ⟨vs,ar,bd⟩:=p
  have hl:vs.length≤mx:=hl
  have hl2:ar.length≤mx:=hl2
  have ret:∀ (b:Bool) (c':Nat) (hp:Hp),b=okE ⟨vs,ar,bd⟩ d (.mk k v ks) c→hp 0=some (some [I64 c'])→c'≤16→(b=true→c'=c+cnt d (.mk k v ks))→RetOb 1 (scanR ⟨vs,ar,bd⟩ d (.mk k v ks) c) (DB b) hp :=
   fun b c' hp hb hhp h16 ht=>RetOb.keep1 (d:=DB b) (cs:=[I64 c']) ⟨c',by rw [hb],rfl,h16,by rw [← hb];exact ht⟩ hhp (by simp [kf]) rfl
  refine dc_of_go Tryz.func150 rfl (by simp) ?_
  refine drv_sound (n:=100) (rs:=_) Tryz.func150 mo rfl none _ _ ?_
  simp only [go_sem]
  (with_reducible and_intros)<;>try exact sd
  refine XK.gplain 8 false (!((decide (15<(c:Int)+1)) || decide (5<deep))) (fun _=>operandsI k) ok159 ?_ (hbT ()) (fun _=>by kernel_rfl) (hm:=by simp only [wkey];decide) (hok:=by intro hx;simp [okP,getCall,Call.operands,evT,upd,peelB,DB,DI,cst,one] at hx ⊢;first | done | exact hx | (simp_all;done) | omega)
  have hno:((15<(c:Int)+1∨5<deep)∨¬ arity k=ks.length)→false=okE ⟨vs,ar,bd⟩ d (.mk k v ks) c:=by
   intro hno
   symm
   simp only [okE]
   rw [Bool.and_eq_false_iff]
   rcases hno with (h | h) | h
   ·right
    have:1≤cnt d (.mk k v ks):=by cases d<;>simp [cnt]
    simp;omega
   ·left
    obtain rfl:d=0:=by omega
    rfl
   ·left
    cases d with
    | zero=>rfl
    | succ d =>
     simp only [shape]
     rw [fitsE_false (by omega)]
     rfl
  by_cases hk3:k=3
  ·subst hk3
   by_cases ha:arity 3=ks.length
   ·obtain ⟨⟨k1,v1,ks1⟩,h0⟩:∃ x,ks[0]? = some x:=⟨ks[0]'(by simp [arity] at ha;omega),List.getElem?_eq_getElem _⟩
    refine drv_sound (n:=100) (rs:=_) Tryz.func150 mo rfl (some _) _ _ ?_
    simp only [go_sem,h0]
    refine And.intro (by kernel_rfl) (And.intro (by kernel_rfl) (And.intro (by kernel_rfl) (And.intro (by kernel_rfl) (And.intro (by kernel_rfl) ⟨fun h=>ret _ (c+1) _ (hno h) (by simp [I64,upd_same]) (by omega) (by simp),fun hyes=>?_⟩))))
    have ks3:ks.length≤3:=by have:=arity_le 3;omega
    (with_reducible and_intros)<;>try exact sd
    refine XK.plain (within v 0 _) ok60 ?_ (hbT ()) (hm:=by simp only [wkey];decide)
    refine drv_sound (n:=100) (rs:=_) Tryz.func150 mo rfl (some _) _ _ ?_
    simp only [go_sem,h0]
    refine XK.gplain 9 true (decide (0≤v) && decide (v≤(ar.length:Int) - 1)) (fun _=>isPlain (.mk k1 v1 ks1)) ok135 ?_ (hbT ()) (hm:=by simp only [wkey];decide) (hok:=by intro hx;simp [okP,getCall,Call.operands,evT,upd,peelB,DB,DI,cst,one] at hx ⊢;first | done | exact hx | (simp_all;done) | omega)
    refine drv_sound (n:=100) (rs:=_) Tryz.func150 mo rfl (some _) _ _ ?_
    simp only [go_sem,h0]
    refine ⟨fun hf=>ret _ (c+1) _ ?_ (by simp [I64,upd_same]) (by omega) (by simp),fun hv=>?_⟩
    ·by_cases hvv:0≤v∧v≤(ar.length:Int) - 1
     ·exact okE_false_of_atom (by rw [headAtom_of h0];exact hf.elim (fun h=>absurd (h hvv.1) (by omega)) id)
     ·exact okE_false_of_val (by unfold highI;(try dsimp only);(repeat' split)<;>omega)
    obtain ⟨d',rfl⟩:∃ d',d=d' + 1:=⟨d - 1,by omega⟩
    refine Go.loopL (fun i:Nat=>[(2,DI .i64 deep),(3,.c (.ptr 0 0)),(4,.c (.ptr 1 0)),(69,.c (.isl 3 (Ex.cellsL ks))),(70,DI .i64 ks.length),(71,DI .i64 i)]) (fun i=>[(0,some [I64 (c+1+tsum (cnt d') ks i:Nat)]),(1,some (Pg.cells ⟨vs,ar,bd⟩))]) 65536 (fun i=>i≤ks.length∧(∀ x ∈ ks.take i,shape ⟨vs,ar,bd⟩ d' x=true)∧c+1+tsum (cnt d') ks i≤15) (fun i=>ks.length - i) ?_ 0 some [] _ ⟨Nat.zero_le _,by simp,by simp only [tsum_zero];omega⟩ ?_
    ·intro i ⟨hi,hall,hcnt⟩ again
     refine drv_sound (n:=100) (rs:=_) Tryz.func150 mo rfl none _ _ ?_
     rcases Nat.lt_or_ge i ks.length with hlt | hge
     ·obtain ⟨⟨k',v',ks'⟩,hx⟩:∃ x,ks[i]? = some x:=⟨ks[i],by simp [hlt]⟩
      simp only [go_sem,hx,hlt]
      (with_reducible and_intros)<;>try exact sd
      refine XK.callG [0] (ih d' (by omega) (.mk k' v' ks') (deep+1) (c+1+tsum (cnt d') ks i) (by omega) (by omega) (by omega)) ok150 (hhp_one rfl) (hbT ()) (fun d h' ⟨c',_,e,_⟩=>by subst e;simp) ?_
      rintro d h' ⟨c',rfl,rfl,hc16,htr⟩ _
      refine drv_sound (n:=100) (rs:=_) Tryz.func150 mo rfl (some _) _ _ ?_
      simp only [go_sem]
      refine ⟨fun hf=>ret _ c' _ (okE_kid hx hf) (by simp [I64,upd_same]) hc16 (by simp),fun hf=>⟨by simp only [InK];omega,?_⟩⟩
      have he:=htr hf
      have hs:=tsum_succ (cnt d') ks i _ hx
      simp only [okE,Bool.and_eq_true,decide_eq_true_eq] at hf
      refine again (i+1) some [] _ ⟨by omega,take_succ_mem hx hall hf.1,by omega⟩ (by omega) ?_
      rw [show c'=c+1+tsum (cnt d') ks (i+1) from by omega]
      simp only [go_sem,TmOK,DM,DMs,CM,CMs,forall_eq,exists_eq_left,Mt,HpOK,LowOK]
      simp
     ·have hn:¬ i<ks.length:=by omega
      obtain rfl:i=ks.length:=by omega
      simp only [go_sem,hn]
      obtain ⟨e1,e2⟩:=okE_all (k:=3) (v:=v) (fitsE_true2 hyes.2.symm (by omega) (by unfold highI;(try dsimp only);(repeat' split)<;>omega)) (fun x hx=>hall x (by rw [List.take_length];exact hx)) (fun _=>by rw [headAtom_of h0];exact hv.2) hcnt
      refine ret _ _ _ e1 (by first | rfl | simp [I64,upd_same]) (by omega) (fun _=>e2)
    ·simp only [go_sem,TmOK,DM,DMs,CM,CMs,forall_eq,exists_eq_left,Mt,HpOK,LowOK,tsum_zero]
     simp
   ·have hne:(arity 3=(ks.length:Int))=False:=eq_false ha
    have hne2:(arity 3 != (ks.length:Int))=true:=by simp [ha]
    refine drv_sound (n:=100) (rs:=_) Tryz.func150 mo rfl (some _) _ _ ?_
    simp only [go_sem,hne,hne2,Bool.or_true]
    (with_reducible and_intros)<;>try exact sd
    all_goals first | exact ret _ (c+1) _ (hno (.inr ha)) (by simp [I64,upd_same]) (by omega) (by simp) | skip
  ·have hb3:(k == 3)=false:=by simp [hk3]
   rcases h0:ks[0]? with _ | ⟨k1,v1,ks1⟩
   all_goals
    refine drv_sound (n:=100) (rs:=_) Tryz.func150 mo rfl (some _) _ _ ?_
    simp only [go_sem,h0,hk3,hb3]
    refine And.intro (by kernel_rfl) (And.intro (by kernel_rfl) (And.intro (by kernel_rfl) (And.intro (by kernel_rfl) (And.intro (by kernel_rfl) ⟨fun h=>ret _ (c+1) _ (hno h) (by simp [I64,upd_same]) (by omega) (by simp),fun hyes=>⟨fun hk=>?_,fun hk=>⟨fun hk=>⟨by simp only [InK];omega,?_⟩,fun hk=>?_⟩⟩⟩))))
    all_goals
     have ks3:ks.length≤3:=by have:=arity_le k;omega
     refine XK.plain (within v 0 _) ok60 ?_ (hbT ()) (hm:=by simp only [wkey];decide)
     refine drv_sound (n:=100) (rs:=_) Tryz.func150 mo rfl (some _) _ _ ?_
     simp only [go_sem,h0,hk3,hb3]
     refine XK.gskip 9 true (DB false) ?_ (hbT ()) (hm:=by simp only [wkey];decide)
     refine drv_sound (n:=100) (rs:=_) Tryz.func150 mo rfl (some _) _ _ ?_
     simp only [go_sem,h0,hk3,hb3]
     refine ⟨fun h=>h.2,fun hf=>ret _ (c+1) _ (okE_false_of_val (by unfold highI;(try dsimp only);(repeat' split)<;>omega)) (by simp [I64,upd_same]) (by omega) (by simp),fun hv=>?_⟩
     obtain ⟨d',rfl⟩:∃ d',d=d' + 1:=⟨d - 1,by omega⟩
     refine Go.loopL (fun i:Nat=>[(2,DI .i64 deep),(3,.c (.ptr 0 0)),(4,.c (.ptr 1 0)),(69,.c (.isl 3 (Ex.cellsL ks))),(70,DI .i64 ks.length),(71,DI .i64 i)]) (fun i=>[(0,some [I64 (c+1+tsum (cnt d') ks i:Nat)]),(1,some (Pg.cells ⟨vs,ar,bd⟩))]) 65536 (fun i=>i≤ks.length∧(∀ x ∈ ks.take i,shape ⟨vs,ar,bd⟩ d' x=true)∧c+1+tsum (cnt d') ks i≤15) (fun i=>ks.length - i) ?_ 0 some [] _ ⟨Nat.zero_le _,by simp,by simp only [tsum_zero];omega⟩ ?_
     ·intro i ⟨hi,hall,hcnt⟩ again
      refine drv_sound (n:=100) (rs:=_) Tryz.func150 mo rfl none _ _ ?_
      rcases Nat.lt_or_ge i ks.length with hlt | hge
      ·obtain ⟨⟨k',v',ks'⟩,hx⟩:∃ x,ks[i]? = some x:=⟨ks[i],by simp [hlt]⟩
       simp only [go_sem,hx,hlt]
       (with_reducible and_intros)<;>try exact sd
       refine XK.callG [0] (ih d' (by omega) (.mk k' v' ks') (deep+1) (c+1+tsum (cnt d') ks i) (by omega) (by omega) (by omega)) ok150 (hhp_one rfl) (hbT ()) (fun d h' ⟨c',_,e,_⟩=>by subst e;simp) ?_
       rintro d h' ⟨c',rfl,rfl,hc16,htr⟩ _
       refine drv_sound (n:=100) (rs:=_) Tryz.func150 mo rfl (some _) _ _ ?_
       simp only [go_sem]
       refine ⟨fun hf=>ret _ c' _ (okE_kid hx hf) (by simp [I64,upd_same]) hc16 (by simp),fun hf=>⟨by simp only [InK];omega,?_⟩⟩
       have he:=htr hf
       have hs:=tsum_succ (cnt d') ks i _ hx
       simp only [okE,Bool.and_eq_true,decide_eq_true_eq] at hf
       refine again (i+1) some [] _ ⟨by omega,take_succ_mem hx hall hf.1,by omega⟩ (by omega) ?_
       rw [show c'=c+1+tsum (cnt d') ks (i+1) from by omega]
       simp only [go_sem,TmOK,DM,DMs,CM,CMs,forall_eq,exists_eq_left,Mt,HpOK,LowOK]
       simp
      ·have hn:¬ i<ks.length:=by omega
       obtain rfl:i=ks.length:=by omega
       simp only [go_sem,hn]
       obtain ⟨e1,e2⟩:=okE_all (k:=k) (v:=v) (fitsE_true2 hyes.2.symm (by omega) (by unfold highI;(try dsimp only);(repeat' split)<;>omega)) (fun x hx=>hall x (by rw [List.take_length];exact hx)) (by intro h;exact absurd h hk3) hcnt
       refine ret _ _ _ e1 (by first | rfl | simp [I64,upd_same]) (by omega) (fun _=>e2)
     ·simp only [go_sem,TmOK,DM,DMs,CM,CMs,forall_eq,exists_eq_left,Mt,HpOK,LowOK,tsum_zero]
      simp
theorem expr (p:Pg) (e:Ex) (hl:p.vars.length≤mx) (hl2:p.arrays.length≤mx):DC Tryz.prog 134 [.agg p.cells,.agg e.cells] [] (fun r h=>r=DB (right p e)∧h=[]):=by
 obtain ⟨k,v,ks⟩:=e
 obtain ⟨vs,ar,bd⟩:=p
 refine dc_of_go Tryz.func134 rfl (by simp) ?_
 refine drv_sound (n:=100) (rs:=_) Tryz.func134 mo rfl none _ _ ?_
 simp only [go_sem]
 refine XK.callG [192] (scan ⟨vs,ar,bd⟩ hl hl2 5 (.mk k v ks) 1 0 (by omega) (by omega) (by omega)) ok150 (hhp_one rfl) (hbT ()) (fun d h' ⟨c',_,e,_⟩=>by subst e;simp) ?_
 rintro d h' ⟨c',rfl,rfl,hc16,htr⟩ _
 refine drv_sound (n:=100) (rs:=_) Tryz.func134 mo rfl (some _) _ _ ?_
 simp only [go_sem]
 refine RetOb.plain (d:=DB _) ⟨?_,rfl⟩ rfl
 have:decide (0+cnt 5 (.mk k v ks)≤15)=decide ((cnt 5 (.mk k v ks):Int)≤15):=decide_eq_decide.2 (by omega)
 simp only [right,DB,okE,this]
end Go.Proofs.YtoakidkcppinpaaGreat.CtR
