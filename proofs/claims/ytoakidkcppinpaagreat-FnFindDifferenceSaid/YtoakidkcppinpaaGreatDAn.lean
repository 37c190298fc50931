/- Contracts of functions of the program, one behind the other, as plain data: what each call returns and which blocks it leaves. -/
import Derived.Test.YtoakidkcppinpaaGreatDFacts
import Derived.Test.YtoakidkcppinpaaGreatDAl
import Derived.Test.YtoakidkcppinpaaGreatDAm
import Derived.Test.YtoakidkcppinpaaGreatDAi
set_option linter.unusedVariables false
set_option linter.unusedSimpArgs false
set_option linter.unusedSectionVars false
set_option maxHeartbeats 16000000
set_option maxRecDepth 100000
namespace Go.Proofs.YtoakidkcppinpaaGreat.CtR
open Go Go.CT CtF
variable [Yn]
theorem stmt0 (p:Pg) (s:St1) (n:Nat) (hn:n≤60):DC Tryz.prog 107 [.agg p.cells,.agg s.cells,DI .i64 6,.c (.ptr 0 0)] [some [I64 n]] (stmtR p 0 s n):=by
 obtain ⟨vs,ar,bd⟩:=p
 obtain ⟨k,t,⟨ik,iv,iks⟩,⟨vk,vv,vks⟩,c,b,e⟩:=s
 refine dc_of_go Tryz.func107 rfl (by simp) ?_
 refine drv_sound (n:=100) (rs:=_) Tryz.func107 mo rfl none _ _ ?_
 simp only [go_sem,Bool.or_true]
 refine ⟨by simp only [InK];omega,?_⟩
 exact RetOb.keep1 (d:=DB false) (cs:=[I64 (n+1:Nat)]) ⟨n+1,by simp [okS,stmtOK],rfl,by omega,by simp [okS,stmtOK]⟩ (by simp [I64,upd_same]) (by simp [kf]) rfl
theorem stmts (p:Pg) (hl:p.vars.length≤mx) (hl2:p.arrays.length≤mx):∀ (d:Nat) (deep:Int),1≤deep→deep+d=6→∀ (l:List St1) (c:Nat),c≤60 →
 DC Tryz.prog 79 [.agg p.cells,.c (.isl 11 (St1.cellsL l)),DI .i64 deep,.c (.ptr 0 0)] [some [I64 c]] (stmtsR p d l c)
 | 0,deep,h1,h,l,c,hc=>stmtsOf p 0 deep h (fun s c hc=>by
  obtain rfl:deep=6:=by omega
  exact stmt0 p s c hc) l c hc
 | d+1,deep,h1,h,l,c,hc=>stmtsOf p (d+1) deep h (fun s c hc=>stmtOf p hl hl2 d deep h1 h (fun l c hc=>stmts p hl hl2 d (deep+1) (by omega) (by omega) l c hc) s c hc) l c hc
theorem programValidI (p:Pg) (hl:p.vars.length≤mx) (hl2:p.arrays.length≤mx):DC Tryz.prog 54 [.agg p.cells] [] (fun r h=>r=DB (progOK p)∧h=[]):=by
 obtain ⟨vs,ar,bd⟩:=p
 have hcast:decide ((lsize 5 bd:Int)≤60)=decide (0+lsize 5 bd≤60):=decide_eq_decide.2 (by omega)
 refine dc_of_go Tryz.func54 rfl (by simp) ?_
 refine drv_sound (n:=100) (rs:=_) Tryz.func54 mo rfl none _ _ ?_
 simp only [go_sem]
 refine XK.plain (declared vs ar hl hl2) ok59 ?_ (hbT ())
 cases hh:headsOK vs ar with
 | false =>
  refine drv_sound (n:=100) (rs:=_) Tryz.func54 mo rfl (some _) _ _ ?_
  simp only [go_sem,hh]
  refine XK.gskip 5 true (DB false) ?_ (hbT ())
  refine drv_sound (n:=100) (rs:=_) Tryz.func54 mo rfl (some _) _ _ ?_
  simp only [go_sem]
  refine RetOb.plain (d:=DB false) ⟨?_,rfl⟩ rfl
  simp [progOK,hh]
 | true =>
  refine drv_sound (n:=100) (rs:=_) Tryz.func54 mo rfl (some _) _ _ ?_
  simp only [go_sem,hh]
  refine XK.callT 5 true [128] (stmts ⟨vs,ar,bd⟩ hl hl2 5 1 (by omega) (by omega) bd 0 (by omega)) ok79 (hhp_one rfl) (hbT ()) (fun d h' ⟨c',_,e,_⟩=>by subst e;simp) ?_
  rintro _ h' ⟨c1,rfl,rfl,hc61,htr⟩ _
  refine drv_sound (n:=100) (rs:=_) Tryz.func54 mo rfl (some _) _ _ ?_
  simp only [go_sem]
  refine RetOb.plain (d:=DB _) ⟨?_,rfl⟩ rfl
  simp only [progOK,hh,hcast,okB,Bool.true_and]
def arrOK (a:List Int):Bool:=decide ((a.length:Int)=4) && vals01 a
def memOK (vs ar:List Int) (m:Mm):Bool:=decide ((m.vals.length:Int)=vs.length) && decide ((m.arrays.length:Int)=ar.length) && vals01 m.vals && m.arrays.all arrOK
theorem isMemory1 (a:List Int):DC Tryz.prog 82 [ints a] [] (fun r h=>r=DB (!arrOK a)∧h=[]):=by
 have hmx:=mx_eq
 refine dc_of_go Tryz.func82 rfl (by simp) ?_
 refine drv_sound (n:=100) (rs:=_) Tryz.func82 mo rfl none _ _ ?_
 simp only [go_sem,ints]
 refine XK.gplain 3 false (!((a.length:Int) != 4)) (fun h=>areValues a (by simp at h;omega)) ok80 ?_ (hok:=by intro hx;simp [okP,getCall,Call.operands,evT,upd,peelB,DB,DI,cst,one] at hx ⊢;first | done | exact hx | (simp_all;done) | omega)
 refine drv_sound (n:=100) (rs:=_) Tryz.func82 mo rfl (some _) _ _ ?_
 simp only [go_sem,ints]
 refine RetOb.plain (d:=DB _) ⟨?_,rfl⟩ rfl
 simp only [DB];congr 3;unfold arrOK;grind
def idxA (q : List Int → Bool) : List (List Int) → Int → Int
 | [],_ => -1
 | x :: r,i=>if q x then i else idxA q r (i+1)
theorem idxA_any (q : List Int → Bool) : ∀ (xs : List (List Int)) (i : Int), 0 ≤ i → decide (0 ≤ idxA q xs i) = xs.any q
 | [],i,_=>by simp [idxA]
 | x :: r,i,h=>by
  unfold idxA
  by_cases hq:q x=true
  ·simp [hq,h]
  ·simp only [hq,Bool.false_eq_true,if_false,List.any_cons,Bool.not_eq_true] at *
   rw [idxA_any q r (i+1) (by omega)];simp [hq]
theorem indexFuncA (g : Nat) (q : List Int → Bool) (xs : List (List Int)) (hl : xs.length ≤ mx) (hok : fnOK Tryz.prog g = true) (hg : ∀ n ∈ xs, DC Tryz.prog g [ints n] [] (fun d h => d = DB (q n) ∧ h = [])) :
 DC Tryz.prog 110 [.c (.isl 1 (xs.map fun a=>[isI a])),.c (.clo g [])] [] (fun d h=>d=DI .i64 (idxA q xs 0)∧h=[]):=by
 have hmx:=mx_eq
 refine dc_of_go Tryz.func110 rfl (by simp) ?_
 refine drv_sound (n:=100) (rs:=_) Tryz.func110 mo rfl none _ _ ?_
 simp only [go_sem,isI,I64]
 refine Go.loopL (fun i:Nat=>[(0,.c (.isl 1 (xs.map fun a=>[isI a]))),(1,.c (.clo g [])),(7,DI .i64 xs.length),(8,DI .i64 i)]) (fun _=>[]) 1024 (fun i=>i≤xs.length∧idxA q (xs.drop i) i=idxA q xs 0) (fun i=>xs.length - i) ?_ 0 some [] _ ⟨Nat.zero_le _,rfl⟩ ?_
 ·intro i hi again
  refine drv_sound (n:=100) (rs:=_) Tryz.func110 mo rfl none _ _ ?_
  rcases Nat.lt_or_ge i xs.length with hlt | hge
  ·obtain ⟨x,hx⟩:∃ x,xs[i]? = some x:=⟨xs[i],by simp [hlt]⟩
   have hmem:x ∈ xs:=List.mem_of_getElem? hx
   have hdrop:xs.drop i=x :: xs.drop (i+1):=by
    obtain ⟨_,e⟩:=List.getElem?_eq_some_iff.1 hx
    rw [List.drop_eq_getElem_cons hlt,e]
   have hI:=hi.2
   rw [hdrop] at hI
   simp only [go_sem,isI,I64,hx,hlt]
   refine XK.plain (hg x hmem) hok ?_
   refine drv_sound (n:=100) (rs:=_) Tryz.func110 mo rfl (some _) _ _ ?_
   simp only [go_sem,isI,I64]
   refine ⟨fun hq=>?_,fun hq=>⟨by simp only [InK];omega,?_⟩⟩
   ·refine RetOb.plain (d:=DI .i64 _) ⟨?_,rfl⟩ rfl
    rw [← hI];simp [idxA,hq,DI]
   ·refine again (i+1) some [] _ ⟨by omega,?_⟩ (by omega) (Mt.slots ?_)
    ·rw [← hI];simp [idxA,hq]
    ·simp only [go_sem,TmOK,DM,DMs,CM,CMs,forall_eq,exists_eq_left,isI,I64]
  ·have hn:¬ i<xs.length:=by omega
   simp only [go_sem,isI,I64,hn]
   refine RetOb.plain (d:=DI .i64 _) ⟨?_,rfl⟩ rfl
   rw [← hi.2,List.drop_of_length_le hge];rfl
 ·refine Mt.slots ?_
  simp only [go_sem,TmOK,DM,DMs,CM,CMs,forall_eq,exists_eq_left,isI,I64]
theorem containsFuncA (g : Nat) (q : List Int → Bool) (xs : List (List Int)) (hl : xs.length ≤ mx) (hok : fnOK Tryz.prog g = true) (hg : ∀ n ∈ xs, DC Tryz.prog g [ints n] [] (fun d h => d = DB (q n) ∧ h = [])) :
 DC Tryz.prog 81 [.c (.isl 1 (xs.map fun a=>[isI a])),.c (.clo g [])] [] (fun d h=>d=DB (xs.any q)∧h=[]):=by
 refine dc_of_go Tryz.func81 rfl (by simp) ?_
 refine drv_sound (n:=100) (rs:=_) Tryz.func81 mo rfl none _ _ ?_
 simp only [go_sem,isI,I64]
 refine XK.plain (indexFuncA g q xs hl hok hg) ok110 ?_
 refine drv_sound (n:=100) (rs:=_) Tryz.func81 mo rfl (some _) _ _ ?_
 simp only [go_sem,isI,I64]
 refine RetOb.plain (d:=DB _) ⟨?_,rfl⟩ rfl
 simp only [DB];rw [idxA_any q xs 0 (by omega)]
theorem isMemory (vs ar:List Int) (m:Mm) (hl:vs.length≤mx) (hl2:ar.length≤mx):DC Tryz.prog 55 [ints vs,ints ar,.agg m.cells] [] (fun r h=>r=DB (memOK vs ar m)∧h=[]):=by
 obtain ⟨va,arr⟩:=m
 have hmx:=mx_eq
 refine dc_of_go Tryz.func55 rfl (by simp) ?_
 refine drv_sound (n:=100) (rs:=_) Tryz.func55 mo rfl none _ _ ?_
 simp only [go_sem,ints,Mm.cells,isI,I64]
 refine XK.gplain 14 false (!(((va.length:Int) != vs.length) || ((arr.length:Int) != ar.length))) (fun h=>areValues va (by simp at h;omega)) ok80 ?_ (hbT ()) (hok:=by intro hx;simp [okP,getCall,Call.operands,evT,upd,peelB,DB,DI,cst,one] at hx ⊢;first | done | exact hx | (simp_all;done) | omega)
 refine drv_sound (n:=100) (rs:=_) Tryz.func55 mo rfl (some _) _ _ ?_
 simp only [go_sem,ints,isI,I64]
 refine ⟨fun hno=>RetOb.plain (d:=DB false) ⟨?_,rfl⟩ rfl,fun hyes=>?_⟩
 ·simp only [DB];congr 3;unfold memOK;grind
 ·refine XK.plain (containsFuncA 82 (fun a => !arrOK a) arr (by omega) ok82 fun a _=>isMemory1 a) ok81 ?_ (hbT ())
  refine drv_sound (n:=100) (rs:=_) Tryz.func55 mo rfl (some _) _ _ ?_
  simp only [go_sem,ints,isI,I64]
  refine RetOb.plain (d:=DB _) ⟨?_,rfl⟩ rfl
  simp only [DB];congr 3;unfold memOK;rw [List.all_eq_not_any_not];grind
theorem memoryValidI (p:Pg) (m:Mm) (hl:p.vars.length≤mx) (hl2:p.arrays.length≤mx):DC Tryz.prog 30 [.agg p.cells,.agg m.cells] [] (fun r h=>r=DB (progOK p && memOK p.vars p.arrays m)∧h=[]):=by
 obtain ⟨vs,ar,bd⟩:=p
 obtain ⟨va,arr⟩:=m
 refine dc_of_go Tryz.func30 rfl (by simp) ?_
 refine drv_sound (n:=100) (rs:=_) Tryz.func30 mo rfl none _ _ ?_
 simp only [go_sem,Mm.cells]
 refine XK.plain (programValidI ⟨vs,ar,bd⟩ hl hl2) ok54 ?_ (hbT ())
 refine drv_sound (n:=100) (rs:=_) Tryz.func30 mo rfl (some _) _ _ ?_
 simp only [go_sem,Mm.cells]
 refine XK.gplain 2 true (progOK ⟨vs,ar,bd⟩) (fun h=>isMemory vs ar ⟨va,arr⟩ hl hl2) ok55 ?_ (hbT ()) (hok:=by intro hx;simp [okP,getCall,Call.operands,evT,upd,peelB,DB,DI,cst,one] at hx ⊢;first | done | exact hx | (simp_all;done) | omega)
 refine drv_sound (n:=100) (rs:=_) Tryz.func30 mo rfl (some _) _ _ ?_
 simp only [go_sem,Mm.cells]
 exact RetOb.plain (d:=DB _) ⟨rfl,rfl⟩ rfl
theorem l3Fits (p:Pg) (m:Mm) (hl:p.vars.length≤mx) (hl2:p.arrays.length≤mx):DC Tryz.prog 26 [.agg p.cells,.agg m.cells] [] (fun r h=>r=DB (memOK p.vars p.arrays m)∧h=[]):=by
 obtain ⟨vs,ar,bd⟩:=p
 obtain ⟨va,arr⟩:=m
 have hl:vs.length≤mx:=hl
 have hl2:ar.length≤mx:=hl2
 have hmx:=mx_eq
 generalize hB:memOK _ _ _=B
 unfold memOK at hB
 dsimp only at hB
 have ret:∀ (b:Bool) (hp:Hp),b=B→RetOb 0 (fun r h=>r=DB B∧h=[]) (DB b) hp:=fun b hp h=>RetOb.plain (d:=DB _) ⟨by rw [h],rfl⟩ rfl
 refine dc_of_go Tryz.func26 rfl (by simp) ?_
 refine drv_sound (n:=100) (rs:=_) Tryz.func26 mo rfl none _ _ ?_
 simp only [go_sem,Mm.cells]
 refine XK.gplain 16 false (!(((va.length:Int) != vs.length) || ((arr.length:Int) != ar.length))) (fun h=>l3Values va (by simp at h;omega)) ok51 ?_ (hbT ()) (hok:=by intro hx;simp [okP,getCall,Call.operands,evT,upd,peelB,DB,DI,cst,one] at hx ⊢;first | done | exact hx | (simp_all;done) | omega)
 refine drv_sound (n:=100) (rs:=_) Tryz.func26 mo rfl (some _) _ _ ?_
 simp only [go_sem]
 refine ⟨fun hno=>ret _ _ ?_,fun hyes=>?_⟩
 ·rw [← hB];grind
 have hBB:B=arr.all arrOK:=by rw [← hB];grind
 have inv:∀ (tl:List (Nat × D)) (S:Ms),TmOK (hOf [(64,some (Mm.cells ⟨va,arr⟩))]) some S.hp [] S.tm tl→S.hp 64=some (some (Mm.cells ⟨va,arr⟩))→Mt 0 some [] tl [(64,some (Mm.cells ⟨va,arr⟩))] S :=
  fun tl S h1 h3=>Mt.one h1 (by simp) h3 (by simp [kf,Mm.cells,isI])
 refine Go.loopL (fun i:Nat=>[(3,.c (.ptr 64 0)),(5,DI .i64 i)]) (fun _=>[(64,some (Mm.cells ⟨va,arr⟩))]) 4096 (fun i=>i≤arr.length∧B=(arr.drop i).all arrOK) (fun i=>arr.length - i) ?_ 0 some [] _ ⟨Nat.zero_le _,hBB⟩ ?_
 ·intro i hi again
  refine drv_sound (n:=100) (rs:=_) Tryz.func26 mo rfl none _ _ ?_
  rcases Nat.lt_or_ge i arr.length with hlt | hge
  ·obtain ⟨x,hx⟩:∃ x,arr[i]? = some x:=⟨arr[i],by simp [hlt]⟩
   have hI:=hi.2
   obtain ⟨_,he⟩:=List.getElem?_eq_some_iff.1 hx
   rw [List.drop_eq_getElem_cons hlt,he,List.all_cons] at hI
   simp only [go_sem,Mm.cells,hx,hlt]
   refine XK.gplain 7 false (!((x.length:Int) != 4)) (fun h=>l3Values x (by simp at h;omega)) ok51 ?_ (hbT ()) (hok:=by intro hx;simp [okP,getCall,Call.operands,evT,upd,peelB,DB,DI,cst,one] at hx ⊢;first | done | exact hx | (simp_all;done) | omega)
   refine drv_sound (n:=100) (rs:=_) Tryz.func26 mo rfl (some _) _ _ ?_
   simp only [go_sem,Mm.cells]
   refine ⟨fun hno=>ret _ _ ?_,fun hyes=>⟨by simp only [InK];omega,?_⟩⟩
   ·rw [hI];unfold arrOK;grind
   ·refine again (i+1) some [] _ ⟨by omega,?_⟩ (by omega) (inv _ _ ?_ (by rfl))
    ·rw [hI];unfold arrOK;grind
    ·simp only [go_sem,TmOK,DM,DMs,CM,CMs,forall_eq,exists_eq_left,Mm.cells]
  ·have hn:¬ i<arr.length:=by omega
   simp only [go_sem,Mm.cells,hn]
   refine ret _ _ ?_
   rw [hi.2,List.drop_of_length_le hge];rfl
 ·refine inv _ _ ?_ (by rfl)
  simp only [go_sem,TmOK,DM,DMs,CM,CMs,forall_eq,exists_eq_left,Mm.cells]
theorem kf_I (xs:List Int):∀ c ∈ xs.map I64,kf c=true:=by
 intro c hc;obtain ⟨x,_,rfl⟩:=List.mem_map.1 hc;rfl
theorem kf_A (xs:List (List Int)):∀ c ∈ xs.map isI,kf c=true:=by
 intro c hc;obtain ⟨x,_,rfl⟩:=List.mem_map.1 hc;rfl
theorem flat_I (xs:List Int):(xs.map fun n=>[I64 n]).flatten=xs.map I64:=flat1 _ _
theorem flat_A (xs:List (List Int)):(xs.map fun n=>[isI n]).flatten=xs.map isI:=flat1 _ _
theorem RetOb.new1 {R:D→List (Option (List C))→Prop} {sz n k:Nat} {cs:List C} {hp:Hp} (hR:R (.c (.msl 0 sz 0 n)) [some cs]) (hb:hp k=some (some cs)) (hkf:∀ c ∈ cs,kf c=true):RetOb 0 R (.c (.msl k sz 0 n)) hp :=
 RetOb.of (fun j=>if j=0 then some k else none) [] (.c (.msl 0 sz 0 n)) [some cs] (subH_one rfl hb hkf) (by simp [DM,CM,hpL]) hR (by simp)
theorem RetOb.newNil {R:D→List (Option (List C))→Prop} {sz:Nat} {hp:Hp} (hR:R (.c (.msl 0 sz 0 0)) [some []]):RetOb 0 R (.c (.v (.slice none 0 0))) hp :=
 RetOb.of (fun j=>none) [] (.c (.msl 0 sz 0 0)) [some []] ⟨fun k cs h=>by
  match k with
  | 0=>simp [hpL] at h;exact .inr ⟨rfl,h⟩
  | k+1=>simp [hpL] at h,fun k k' cs cs' j _ _ h=>by simp at h,fun k h=>by omega⟩ (by simp [DM,CM,hpL]) hR (by simp)
theorem cloneI (xs:List Int) (hl:xs.length≤1000000):DC Tryz.prog 74 [ints xs] [] (fun d h=>d = .c (.msl 0 1 0 xs.length)∧h=[some (xs.map I64)]):=by
 have hmx:=mx_eq
 cases xs with
 | nil =>
  refine DC.isl0 fun a c=>?_
  refine dc_of_go Tryz.func74 rfl (by simp) ?_
  refine drv_sound (n:=100) (rs:=_) Tryz.func74 mo rfl none _ _ ?_
  cases a with
  | none =>
   simp only [go_sem,ints,isI,I64]
   exact RetOb.newNil ⟨rfl,rfl⟩
  | some a =>
   simp only [go_sem,ints,isI,I64]
   refine ⟨fun k e=>by cases e;rfl,RetOb.new1 ⟨rfl,rfl⟩ (upd_same _ _ _) (by simp)⟩
 | cons a r =>
  have hr:r.length+1≤1000000:=hl
  have hf:=congrArg List.length (flat_I (a :: r))
  simp only [List.map_cons,List.length_cons,List.length_map,isI,I64] at hf
  refine dc_of_go Tryz.func74 rfl (by simp) ?_
  refine drv_sound (n:=100) (rs:=_) Tryz.func74 mo rfl none _ _ ?_
  simp only [go_sem,ints,isI,I64]
  refine ⟨⟨fun k e=>by cases e;rfl,by first | exact hf | simpa using hf,by omega,by omega⟩,RetOb.new1 ⟨rfl,rfl⟩ ?_ (kf_I (a :: r))⟩
  rw [← flat_I]
  exact upd_same _ _ _
theorem cloneA (xs:List (List Int)) (hl:xs.length≤1000000):DC Tryz.prog 75 [.c (.isl 1 (xs.map fun a=>[isI a]))] [] (fun d h=>d = .c (.msl 0 1 0 xs.length)∧h=[some (xs.map isI)]):=by
 have hmx:=mx_eq
 cases xs with
 | nil =>
  refine DC.isl0 fun a c=>?_
  refine dc_of_go Tryz.func75 rfl (by simp) ?_
  refine drv_sound (n:=100) (rs:=_) Tryz.func75 mo rfl none _ _ ?_
  cases a with
  | none =>
   simp only [go_sem,ints,isI,I64]
   exact RetOb.newNil ⟨rfl,rfl⟩
  | some a =>
   simp only [go_sem,ints,isI,I64]
   refine ⟨fun k e=>by cases e;rfl,RetOb.new1 ⟨rfl,rfl⟩ (upd_same _ _ _) (by simp)⟩
 | cons a r =>
  have hr:r.length+1≤1000000:=hl
  have hf:=congrArg List.length (flat_A (a :: r))
  simp only [List.map_cons,List.length_cons,List.length_map,isI,I64] at hf
  refine dc_of_go Tryz.func75 rfl (by simp) ?_
  refine drv_sound (n:=100) (rs:=_) Tryz.func75 mo rfl none _ _ ?_
  simp only [go_sem,ints,isI,I64]
  refine ⟨⟨fun k e=>by cases e;rfl,by first | exact hf | simpa using hf,by omega,by omega⟩,RetOb.new1 ⟨rfl,rfl⟩ ?_ (kf_A (a :: r))⟩
  rw [← flat_A]
  exact upd_same _ _ _
def hdr (b b' na:Nat):List C:=[C.msl b 1 0 4,.msl b' 1 0 4].take na
def blk0 (arr:List (List Int)):List C:=((arr[0]?).getD []).map I64
def blk1 (arr:List (List Int)):List C:=((arr[1]?).getD []).map I64
def memB (b:Nat) (m:Mm):List (Option (List C)):=[some (m.vals.map I64),some (hdr b (b+1) m.arrays.length),some (blk0 m.arrays),some (blk1 m.arrays)]
theorem CMs_I {hT hS:Hp} {r:Nat→Option Nat} {fz:List Nat} (xs:List Int):CMs hT r hS fz (xs.map I64) (xs.map I64)=True:=eq_true (CMs.kf (kf_I xs))
theorem flat_I' (xs:List Int):(xs.map fun n=>[C.v (.int .i64 n)]).flatten=xs.map I64:=flat1 _ _
theorem l3Copy (m:Mm) (hv:m.vals.length≤1000) (ha:m.arrays.length≤2) (h4:∀ a ∈ m.arrays,a.length=4):DC Tryz.prog 46 [.agg m.cells] [] (fun d h=>d = .agg [.msl 0 1 0 m.vals.length,.msl 1 1 0 m.arrays.length]∧h=memB 2 m):=by
 have hmx:=mx_eq
 obtain ⟨va,arr⟩:=m
 have hv:va.length≤1000:=hv
 match arr,ha,h4 with
 | [],_,_ =>
  refine dc_of_go Tryz.func46 rfl (by simp) ?_
  refine drv_sound (n:=100) (rs:=_) Tryz.func46 mo rfl none _ _ ?_
  simp only [go_sem,Mm.cells,isI,I64,flat_I']
  refine ⟨⟨fun k e=>by cases e;rfl,by omega,by omega⟩,?_⟩
  refine Go.loop ?_
  refine drv_sound (n:=100) (rs:=_) Tryz.func46 mo rfl none _ _ ?_
  simp only [go_sem,Mm.cells,isI,I64,flat_I',Int.reduceLT]
  refine RetOb.ofQ (fun j=>if j=0 then some 320 else none) [] (.agg [.msl 0 1 0 va.length,.msl 1 1 0 0]) (memB 2 ⟨va,[]⟩) ?_ ⟨rfl,rfl⟩ (by simp)
  simp [memB,enumL,hOf,hdr,blk0,blk1,DM,CM,CMs,HpOK,LowOK,upd,CMs_I,isI]
 | [a],_,h4 =>
  have h4a:a.length=4:=h4 a (by simp)
  refine dc_of_go Tryz.func46 rfl (by simp) ?_
  refine drv_sound (n:=100) (rs:=_) Tryz.func46 mo rfl none _ _ ?_
  simp only [go_sem,Mm.cells,isI,I64,flat_I']
  refine ⟨⟨fun k e=>by cases e;rfl,by omega,by omega⟩,?_⟩
  refine Go.loop ?_
  refine drv_sound (n:=100) (rs:=_) Tryz.func46 mo rfl none _ _ ?_
  simp only [go_sem,Mm.cells,isI,I64,flat_I',Int.reduceLT]
  (with_reducible and_intros)<;>try exact sd
  refine Go.inLoop ?_
  refine drv_sound (n:=100) (rs:=_) Tryz.func46 mo rfl none _ _ ?_
  simp only [go_sem,Mm.cells,isI,I64,flat_I',Int.reduceLT]
  refine RetOb.ofQ (fun j=>if j=0 then some 320 else if j=1 then some 1600 else if j=2 then some 1472 else none) [] (.agg [.msl 0 1 0 va.length,.msl 1 1 0 1]) (memB 2 ⟨va,[a]⟩) ?_ ⟨rfl,rfl⟩ (by simp)
  simp [memB,enumL,hOf,hdr,blk0,blk1,DM,CM,CMs,HpOK,LowOK,upd,CMs_I,isI,h4a]
 | [a,b],_,h4 =>
  have h4a:a.length=4:=h4 a (by simp)
  have h4b:b.length=4:=h4 b (by simp)
  refine dc_of_go Tryz.func46 rfl (by simp) ?_
  refine drv_sound (n:=100) (rs:=_) Tryz.func46 mo rfl none _ _ ?_
  simp only [go_sem,Mm.cells,isI,I64,flat_I']
  refine ⟨⟨fun k e=>by cases e;rfl,by omega,by omega⟩,?_⟩
  refine Go.loop ?_
  refine drv_sound (n:=100) (rs:=_) Tryz.func46 mo rfl none _ _ ?_
  simp only [go_sem,Mm.cells,isI,I64,flat_I',Int.reduceLT]
  (with_reducible and_intros)<;>try exact sd
  refine Go.inLoop ?_
  refine drv_sound (n:=100) (rs:=_) Tryz.func46 mo rfl none _ _ ?_
  simp only [go_sem,Mm.cells,isI,I64,flat_I',Int.reduceLT]
  (with_reducible and_intros)<;>try exact sd
  refine Go.inLoop ?_
  refine drv_sound (n:=100) (rs:=_) Tryz.func46 mo rfl none _ _ ?_
  simp only [go_sem,Mm.cells,isI,I64,flat_I',Int.reduceLT]
  refine RetOb.ofQ (fun j=>if j=0 then some 320 else if j=1 then some 2944 else if j=2 then some 1472 else if j=3 then some 2816 else none) [] (.agg [.msl 0 1 0 va.length,.msl 1 1 0 2]) (memB 2 ⟨va,[a,b]⟩) ?_ ⟨rfl,rfl⟩ (by simp)
  simp [memB,enumL,hOf,hdr,blk0,blk1,DM,CM,CMs,HpOK,LowOK,upd,CMs_I,isI,h4a,h4b]
theorem renCs_I (r:Nat→Nat) (xs:List Int):renCs r (xs.map I64)=xs.map I64:=by
 induction xs with
 | nil=>rfl
 | cons a t ih=>simp only [List.map_cons,renCs,ih];rfl
theorem renCs_hdr (r:Nat→Nat) (b b' n:Nat):renCs r (hdr b b' n)=hdr (r b) (r b') n:=by
 unfold hdr
 match n with
 | 0=>rfl
 | 1=>rfl
 | n+2=>simp [renCs,renC]
theorem CMs_hdr {hT hS:Hp} {r:Nat→Option Nat} {fz:List Nat} (b b' j j' n:Nat) (h1:r b=some j) (h2:r b'=some j') (h3:hT b ≠ none) (h4:hT b' ≠ none):CMs hT r hS fz (hdr b b' n) (hdr j j' n)=True:=by
 apply eq_true
 unfold hdr
 match n with
 | 0=>simp [CMs]
 | 1=>simp [CMs,CM,h1,h3]
 | n+2=>simp [CMs,CM,h1,h2,h3,h4]
def trC (tr:List Ev):List C:=(tr.map Ev.cells).flatten
theorem trC_len (tr:List Ev):(trC tr).length=tr.length * 2:=by
 unfold trC
 induction tr with
 | nil=>rfl
 | cons a r ih=>simp only [List.map_cons,List.flatten_cons,List.length_append,ih,Ev.cells,List.length_cons,List.length_nil];omega
theorem trC_app (tr tr':List Ev):trC (tr++tr')=trC tr++trC tr':=by simp [trC]
theorem renCs_tr (r:Nat→Nat) (tr:List Ev):renCs r (trC tr)=trC tr:=by
 unfold trC
 induction tr with
 | nil=>rfl
 | cons a t ih=>simp only [List.map_cons,List.flatten_cons,Ev.cells,List.cons_append,List.nil_append,renCs,renC,ih]
theorem trC_kf (tr:List Ev):∀ c ∈ trC tr,kf c=true:=by
 unfold trC
 induction tr with
 | nil=>simp
 | cons a t ih =>
  intro c hc
  rw [List.map_cons,List.flatten_cons,List.mem_append] at hc
  rcases hc with hc | hc
  ·simp only [Ev.cells,List.mem_cons,List.not_mem_nil,or_false] at hc
   rcases hc with rfl | rfl<;>rfl
  ·exact ih c hc
theorem CMs_tr {hT hS:Hp} {r:Nat→Option Nat} {fz:List Nat} (tr:List Ev):CMs hT r hS fz (trC tr) (trC tr)=True:=eq_true (CMs.kf (trC_kf tr))
theorem own (m:Mm) (hv:m.vals.length≤1000) (ha:m.arrays.length≤2) (h4:∀ a ∈ m.arrays,a.length=4):DC Tryz.prog 47 [.agg m.cells] [] (fun d h=>d = .agg [.msl 0 1 0 m.vals.length,.msl 1 1 0 m.arrays.length]∧h=memB 2 m):=by
 have hmx:=mx_eq
 obtain ⟨va,arr⟩:=m
 have hv:va.length≤1000:=hv
 have ha2:arr.length≤2:=ha
 refine dc_of_go Tryz.func47 rfl (by simp) ?_
 refine drv_sound (n:=100) (rs:=_) Tryz.func47 mo rfl none _ _ ?_
 simp only [go_sem,Mm.cells,isI,I64,Int.reduceLT,renCs_I]
 (with_reducible and_intros)<;>try exact sd
 refine XK.callG [] (cloneI va (by omega)) ok74 (fun i' x h=>by simp at h) (hbT ()) (fun d h' ⟨_,e⟩=>by subst e;simp) ?_ (fun _=>⟨by kernel_rfl,_,_,⟨rfl,rfl⟩,Nat.zero_le _⟩)
 rintro _ _ ⟨rfl,rfl⟩ _
 refine drv_sound (n:=100) (rs:=_) Tryz.func47 mo rfl (some _) _ _ ?_
 simp only [go_sem,Mm.cells,isI,I64,Int.reduceLT,renCs_I]
 (with_reducible and_intros)<;>try exact sd
 refine XK.callG [] (cloneA arr (by omega)) ok75 (fun i' x h=>by simp at h) (hbT ()) (fun d h' ⟨_,e⟩=>by subst e;simp) ?_ (fun _=>⟨by kernel_rfl,_,_,⟨rfl,rfl⟩,Nat.zero_le _⟩)
 rintro _ _ ⟨rfl,rfl⟩ _
 refine drv_sound (n:=100) (rs:=_) Tryz.func47 mo rfl (some _) _ _ ?_
 simp only [go_sem,Mm.cells,isI,I64,Int.reduceLT,renCs_I]
 (with_reducible and_intros)<;>try exact sd
 match arr,ha,h4 with
 | [],_,_ =>
  refine Go.loop ?_
  refine drv_sound (n:=100) (rs:=_) Tryz.func47 mo rfl none _ _ ?_
  simp only [go_sem,Mm.cells,isI,I64,Int.reduceLT,renCs_I]
  refine RetOb.ofQ (fun j=>if j=0 then some 256 else if j=1 then some 448 else none) [] (.agg [.msl 0 1 0 va.length,.msl 1 1 0 0]) (memB 2 ⟨va,[]⟩) ?_ ⟨rfl,rfl⟩ (by simp)
  simp [memB,enumL,hOf,hdr,blk0,blk1,DM,CM,CMs,HpOK,LowOK,upd,CMs_I,isI]
 | [a],_,h4 =>
  have h4a:a.length=4:=h4 a (by simp)
  refine Go.loop ?_
  refine drv_sound (n:=100) (rs:=_) Tryz.func47 mo rfl none _ _ ?_
  simp only [go_sem,Mm.cells,isI,I64,Int.reduceLT,renCs_I]
  (with_reducible and_intros)<;>try exact sd
  refine XK.callG [] (cloneI a (by omega)) ok74 (fun i' x h=>by simp at h) (hbT ()) (fun d h' ⟨_,e⟩=>by subst e;simp) ?_ (fun _=>⟨by kernel_rfl,_,_,⟨rfl,rfl⟩,Nat.zero_le _⟩)
  rintro _ _ ⟨rfl,rfl⟩ _
  refine drv_sound (n:=100) (rs:=_) Tryz.func47 mo rfl (some _) _ _ ?_
  simp only [go_sem,Mm.cells,isI,I64,Int.reduceLT,renCs_I]
  (with_reducible and_intros)<;>try exact sd
  refine Go.inLoop ?_
  refine drv_sound (n:=100) (rs:=_) Tryz.func47 mo rfl none _ _ ?_
  simp only [go_sem,Mm.cells,isI,I64,Int.reduceLT,renCs_I]
  refine RetOb.ofQ (fun j=>if j=0 then some 256 else if j=1 then some 448 else if j=2 then some 1664 else none) [] (.agg [.msl 0 1 0 va.length,.msl 1 1 0 1]) (memB 2 ⟨va,[a]⟩) ?_ ⟨rfl,rfl⟩ (by simp)
  simp [memB,enumL,hOf,hdr,blk0,blk1,DM,CM,CMs,HpOK,LowOK,upd,CMs_I,isI,h4a]
 | [a,b],_,h4 =>
  have h4a:a.length=4:=h4 a (by simp)
  have h4b:b.length=4:=h4 b (by simp)
  refine Go.loop ?_
  refine drv_sound (n:=100) (rs:=_) Tryz.func47 mo rfl none _ _ ?_
  simp only [go_sem,Mm.cells,isI,I64,Int.reduceLT,renCs_I]
  (with_reducible and_intros)<;>try exact sd
  refine XK.callG [] (cloneI a (by omega)) ok74 (fun i' x h=>by simp at h) (hbT ()) (fun d h' ⟨_,e⟩=>by subst e;simp) ?_ (fun _=>⟨by kernel_rfl,_,_,⟨rfl,rfl⟩,Nat.zero_le _⟩)
  rintro _ _ ⟨rfl,rfl⟩ _
  refine drv_sound (n:=100) (rs:=_) Tryz.func47 mo rfl (some _) _ _ ?_
  simp only [go_sem,Mm.cells,isI,I64,Int.reduceLT,renCs_I]
  (with_reducible and_intros)<;>try exact sd
  refine Go.inLoop ?_
  refine drv_sound (n:=100) (rs:=_) Tryz.func47 mo rfl none _ _ ?_
  simp only [go_sem,Mm.cells,isI,I64,Int.reduceLT,renCs_I]
  (with_reducible and_intros)<;>try exact sd
  refine XK.callG [] (cloneI b (by omega)) ok74 (fun i' x h=>by simp at h) (hbT ()) (fun d h' ⟨_,e⟩=>by subst e;simp) ?_ (fun _=>⟨by kernel_rfl,_,_,⟨rfl,rfl⟩,Nat.zero_le _⟩)
  rintro _ _ ⟨rfl,rfl⟩ _
  refine drv_sound (n:=100) (rs:=_) Tryz.func47 mo rfl (some _) _ _ ?_
  simp only [go_sem,Mm.cells,isI,I64,Int.reduceLT,renCs_I]
  (with_reducible and_intros)<;>try exact sd
  refine Go.inLoop ?_
  refine drv_sound (n:=100) (rs:=_) Tryz.func47 mo rfl none _ _ ?_
  simp only [go_sem,Mm.cells,isI,I64,Int.reduceLT,renCs_I]
  refine RetOb.ofQ (fun j=>if j=0 then some 256 else if j=1 then some 448 else if j=2 then some 1664 else if j=3 then some 2624 else none) [] (.agg [.msl 0 1 0 va.length,.msl 1 1 0 2]) (memB 2 ⟨va,[a,b]⟩) ?_ ⟨rfl,rfl⟩ (by simp)
  simp [memB,enumL,hOf,hdr,blk0,blk1,DM,CM,CMs,HpOK,LowOK,upd,CMs_I,isI,h4a,h4b]
def nth (l:List Int) (i:Int):Int:=l.getD i.toNat 0
def arrAt (m:Mm) (v:Int):List Int:=m.arrays.getD v.toNat []
def evalE (m : Mm) : Nat → Ex → Int × List Ev
 | 0,_=>(0,[])
 | d+1,.mk k v ks =>
  let xs:=ks.map fun e=>(evalE m d e).1
  let ev:=(ks.map fun e=>(evalE m d e).2).flatten
  if k=1 then (v,[]) else if k=2 then (nth m.vals v,[])
  else if k=3 then (nth (arrAt m v) (xs.getD 0 0 % 4),ev++[⟨2,v * 4+xs.getD 0 0 % 4⟩])
  else if k=11 then (if xs.getD 0 0 ≠ 0 then xs.getD 1 0 else xs.getD 2 0,ev)
  else (bin k (xs.getD 0 0) (xs.getD 1 0),ev)
def evs (m:Mm) (d:Nat) (ks:List Ex):List Ev:=(ks.map fun e=>(evalE m d e).2).flatten
theorem bin_range {k a b:Int} (ha:0≤a∧a≤255) (hb:0≤b∧b≤255):0≤bin k a b∧bin k a b≤255:=by
 have h1:a.toNat &&& b.toNat≤a.toNat:=Nat.and_le_left
 have h2:a.toNat ^^^ b.toNat<2 ^ 8:=Nat.xor_lt_two_pow (by omega) (by omega)
 unfold bin
 repeat' split
 all_goals omega
structure MemFits (p : Pg) (m : Mm) : Prop where
 nv:m.vals.length=p.vars.length
 na:m.arrays.length=p.arrays.length
 nv12:1≤p.vars.length∧p.vars.length≤12
 na2:p.arrays.length≤2
 val:∀ x ∈ m.vals,0≤x∧x≤255
 arr:∀ a ∈ m.arrays,a.length=4∧∀ x ∈ a,0≤x∧x≤255
theorem nth_mem {l:List Int} {i:Int} (h:0≤i) (h2:i<l.length):l[i.toNat]? = some (nth l i)∧nth l i ∈ l:=by
 have h3:i.toNat<l.length:=by omega
 have e:l[i.toNat]? = some l[i.toNat]:=List.getElem?_eq_getElem h3
 have e2:nth l i=l[i.toNat]:=by simp [nth,List.getD,e]
 rw [e2]
 exact ⟨e,List.getElem_mem h3⟩
theorem arrAt_mem {m:Mm} {v:Int} (h:0≤v) (h2:v<m.arrays.length):m.arrays[v.toNat]? = some (arrAt m v)∧arrAt m v ∈ m.arrays:=by
 have h3:v.toNat<m.arrays.length:=by omega
 have e:m.arrays[v.toNat]? = some m.arrays[v.toNat]:=List.getElem?_eq_getElem h3
 have e2:arrAt m v=m.arrays[v.toNat]:=by simp [arrAt,List.getD,e]
 rw [e2]
 exact ⟨e,List.getElem_mem h3⟩
theorem evalE_range {p : Pg} {m : Mm} (hm : MemFits p m) : ∀ (d : Nat) (e : Ex), shape p d e = true → 0 ≤ (evalE m d e).1 ∧ (evalE m d e).1 ≤ 255
 | 0,_,h=>by simp [shape] at h
 | d+1,.mk k v ks,h=>by
  obtain ⟨h1,h2,h3⟩:=shape_succ h
  obtain ⟨hl3,hla,hv0,hv1⟩:=fits_len h1
  have ih:∀ x ∈ ks,0≤(evalE m d x).1∧(evalE m d x).1≤255:=fun x hx=>evalE_range hm d x (h2 x hx)
  have hg:∀ i,0≤(ks.map fun e=>(evalE m d e).1).getD i 0∧(ks.map fun e=>(evalE m d e).1).getD i 0≤255:=fun i=>by
   rw [List.getD_eq_getElem?_getD,List.getElem?_map]
   cases hx:ks[i]? with
   | none=>simp
   | some x=>simpa using ih x (List.mem_of_getElem? hx)
  simp only [evalE]
  split
  ·rename_i hk
   simp only [limit,if_pos hk] at hv1
   simp only
   omega
  ·split
   ·rename_i hk1 hk
    simp only [limit,if_neg hk1,if_pos hk] at hv1
    have:=(nth_mem (l:=m.vals) hv0 (by rw [hm.nv];exact hv1)).2
    exact hm.val _ this
   ·split
    ·rename_i hk1 hk2 hk
     simp only [limit,if_neg hk1,if_neg hk2,if_pos hk] at hv1
     have ha:=arrAt_mem (m:=m) hv0 (by rw [hm.na];exact hv1)
     have h4:=hm.arr _ ha.2
     exact h4.2 _ (nth_mem (Int.emod_nonneg _ (by decide)) (by rw [h4.1];exact Int.emod_lt_of_pos _ (by decide))).2
    ·split
     ·simp only;split
      ·exact hg 1
      ·exact hg 2
     ·exact bin_range (hg 0) (hg 1)
theorem evs_len_le {m : Mm} {d : Nat} {p : Pg} (ih : ∀ e, shape p d e = true → (evalE m d e).2.length ≤ cnt d e) : ∀ ks : List Ex, (∀ x ∈ ks, shape p d x = true) → (evs m d ks).length ≤ (ks.map (cnt d)).sum
 | [],_=>by simp [evs]
 | a :: r,h=>by
  have h1:=ih a (h a (by simp))
  have h2:=evs_len_le ih r fun x hx=>h x (by simp [hx])
  unfold evs at h2 ⊢
  simp only [List.map_cons,List.flatten_cons,List.length_append,List.sum_cons]
  omega
theorem evalE_len {p : Pg} {m : Mm} : ∀ (d : Nat) (e : Ex), shape p d e = true → (evalE m d e).2.length ≤ cnt d e
 | 0,_,h=>by simp [shape] at h
 | d+1,.mk k v ks,h=>by
  obtain ⟨h1,h2,h3⟩:=shape_succ h
  have:=evs_len_le (fun e he=>evalE_len d e he) ks h2 (m:=m)
  unfold evs at this
  simp only [evalE,cnt]
  split
  ·simp
  ·split
   ·simp
   ·split
    ·simp only [List.length_append,List.length_cons,List.length_nil];omega
    ·split
     ·simp only;omega
     ·simp only;omega
theorem renCs_b0 (r:Nat→Nat) (a:List (List Int)):renCs r (blk0 a)=blk0 a:=renCs_I r _
theorem renCs_b1 (r:Nat→Nat) (a:List (List Int)):renCs r (blk1 a)=blk1 a:=renCs_I r _
theorem CMs_b0 {hT hS:Hp} {r:Nat→Option Nat} {fz:List Nat} (a:List (List Int)):CMs hT r hS fz (blk0 a) (blk0 a)=True:=CMs_I _
theorem CMs_b1 {hT hS:Hp} {r:Nat→Option Nat} {fz:List Nat} (a:List (List Int)):CMs hT r hS fz (blk1 a) (blk1 a)=True:=CMs_I _
theorem kf_app {a b:List C} (h1:∀ c ∈ a,kf c=true) (h2:∀ c ∈ b,kf c=true):∀ c ∈ a++b,kf c=true:=fun c hc=>(List.mem_append.1 hc).elim (h1 c) (h2 c)
def setV (m:Mm) (t x:Int):Mm:=⟨m.vals.set t.toNat x,m.arrays⟩
def setA (m:Mm) (t i x:Int):Mm:=⟨m.vals,m.arrays.set t.toNat ((arrAt m t).set i.toNat x)⟩
def foldR (f : Mm → St1 → Mm × List Ev) : Mm → List St1 → Mm × List Ev
 | m,[]=>(m,[])
 | m,s :: r=>((foldR f (f m s).1 r).1,(f m s).2++(foldR f (f m s).1 r).2)
def iterR (f : Mm → Mm × List Ev) : Nat → Mm → Mm × List Ev
 | 0,m=>(m,[])
 | n+1,m=>((f (iterR f n m).1).1,(iterR f n m).2++(f (iterR f n m).1).2)
def runS : Nat → Mm → St1 → Mm × List Ev
 | 0,m,_=>(m,[])
 | d+1,m,.mk k t ix v c b e =>
  if k=4 then iterR (fun m=>foldR (runS d) m b) c.toNat m
  else if k=1 then (setV m t (evalE m 5 v).1,(evalE m 5 v).2)
  else if k=5 then (setV m t (evalE m 5 v).1,(evalE m 5 v).2++[⟨4,(evalE m 5 v).1⟩])
  else if k=2 then (setA m t ((evalE m 5 ix).1 % 4) (evalE m 5 v).1,(evalE m 5 v).2++[⟨3,t * 4+(evalE m 5 ix).1 % 4⟩])
  else if (evalE m 5 v).1 ≠ 0 then ((foldR (runS d) m b).1,(evalE m 5 v).2++[⟨1,1⟩]++(foldR (runS d) m b).2)
  else ((foldR (runS d) m e).1,(evalE m 5 v).2++[⟨1,0⟩]++(foldR (runS d) m e).2)
def runL (d:Nat) (m:Mm) (l:List St1):Mm × List Ev:=foldR (runS d) m l
theorem set_mem {l:List Int} {i:Nat} {x y:Int} (h:y ∈ l.set i x):y ∈ l∨y=x:=List.mem_or_eq_of_mem_set h
theorem MemFits.setV {p : Pg} {m : Mm} (hm : MemFits p m) {t x : Int} (hx : 0 ≤ x ∧ x ≤ 255) : MemFits p (setV m t x) where
 nv:=by simp [CtR.setV,hm.nv]
 na:=hm.na
 nv12:=hm.nv12
 na2:=hm.na2
 val:=fun y hy=>(set_mem hy).elim (hm.val y) fun h=>by rw [h];exact hx
 arr:=hm.arr
theorem MemFits.setA {p : Pg} {m : Mm} (hm : MemFits p m) {t i x : Int} (ht : 0 ≤ t ∧ t < m.arrays.length) (hx : 0 ≤ x ∧ x ≤ 255) : MemFits p (setA m t i x) where
 nv:=hm.nv
 na:=by simp [CtR.setA,hm.na]
 nv12:=hm.nv12
 na2:=hm.na2
 val:=hm.val
 arr:=fun a ha=>by
  have h4:=hm.arr _ (arrAt_mem ht.1 ht.2).2
  rcases List.mem_or_eq_of_mem_set ha with h | h
  ·exact hm.arr a h
  ·subst h
   exact ⟨by simp [h4.1],fun y hy=>(set_mem hy).elim (h4.2 y) fun h=>by rw [h];exact hx⟩
theorem stmtOK_succ {p : Pg} {d : Nat} {k t : Int} {ix v : Ex} {c : Int} {b e : List St1} (h : stmtOK p (d + 1) (.mk k t ix v c b e) = true) :
 headOK p k t ix v c b.length e.length=true∧(∀ x ∈ b,stmtOK p d x=true)∧(∀ x ∈ e,stmtOK p d x=true):=by
 simp only [stmtOK,Bool.and_eq_true,List.all_eq_true] at h
 exact ⟨h.1.1,h.1.2,h.2⟩
theorem right_shape {p:Pg} {e:Ex} (h:right p e=true):shape p 5 e=true∧cnt 5 e≤15:=by
 simp only [right,Bool.and_eq_true,decide_eq_true_eq] at h
 exact ⟨h.1,by omega⟩
theorem head_kind {p : Pg} {k t : Int} {ix v : Ex} {c : Int} {bn en : Nat} (h : headOK p k t ix v c bn en = true) :
 (k=1∨k=5)∧0≤t∧t<p.vars.length∧right p v=true∨k=2∧0≤t∧t<p.arrays.length∧right p ix=true∧atom ix=true∧right p v=true∨k=3∧right p v=true∨k=4∧1≤c∧c≤3:=by
 unfold headOK parts blk at h
 by_cases h1:k=1∨k=5
 ·left;simp only [if_pos h1] at h;grind
 ·right
  by_cases h2:k=2
  ·left;subst h2;simp at h;grind
  ·right
   by_cases h3:k=3
   ·left;subst h3;simp at h;grind
   ·right
    have h4:k=4:=by grind
    subst h4;simp at h;grind
def wt (d:Nat):Nat:=20 * 3 ^ d
theorem foldR_ok {p : Pg} {f : Mm → St1 → Mm × List Ev} {q : St1 → Bool} {w : St1 → Nat} (hf : ∀ m s, MemFits p m → q s = true → MemFits p (f m s).1 ∧ (f m s).2.length ≤ w s) :
 ∀ (l:List St1) (m:Mm),MemFits p m→(∀ s ∈ l,q s=true)→MemFits p (foldR f m l).1∧(foldR f m l).2.length≤(l.map w).sum
 | [],m,hm,_=>⟨hm,by simp [foldR]⟩
 | a :: r,m,hm,hq=>by
  have h1:=hf m a hm (hq a (by simp))
  have h2:=foldR_ok hf r _ h1.1 fun s hs=>hq s (by simp [hs])
  refine ⟨h2.1,?_⟩
  simp only [foldR,List.length_append,List.map_cons,List.sum_cons]
  omega
theorem iterR_ok {p : Pg} {f : Mm → Mm × List Ev} {w : Nat} (hf : ∀ m, MemFits p m → MemFits p (f m).1 ∧ (f m).2.length ≤ w) : ∀ (n : Nat) (m : Mm), MemFits p m → MemFits p (iterR f n m).1 ∧ (iterR f n m).2.length ≤ n * w
 | 0,m,hm=>⟨hm,by simp [iterR]⟩
 | n+1,m,hm=>by
  have h1:=iterR_ok hf n m hm
  have h2:=hf _ h1.1
  refine ⟨h2.1,?_⟩
  simp only [iterR,List.length_append,Nat.add_mul]
  omega
theorem sum_mul (f : St1 → Nat) (k : Nat) : ∀ l : List St1, (l.map fun s => k * f s).sum = k * (l.map f).sum
 | []=>by simp
 | a :: r=>by simp only [List.map_cons,List.sum_cons,sum_mul f k r,Nat.mul_add]
theorem runS_ok {p : Pg} : ∀ (d : Nat) (m : Mm) (s : St1), MemFits p m → stmtOK p d s = true → MemFits p (runS d m s).1 ∧ (runS d m s).2.length ≤ wt d * tsize d s
 | 0,m,s,_,h=>by simp [stmtOK] at h
 | d+1,m,.mk k t ix v c b e,hm,h=>by
  obtain ⟨hh,hb,he⟩:=stmtOK_succ h
  have fb:=fun m' hm'=>foldR_ok (fun m s hm hs=>runS_ok d m s hm hs) b m' hm' hb
  have fe:=fun m' hm'=>foldR_ok (fun m s hm hs=>runS_ok d m s hm hs) e m' hm' he
  simp only [sum_mul] at fb fe
  have hw:wt (d+1)=3 * wt d:=by unfold wt;rw [Nat.pow_succ];omega
  have hw1:20≤wt d:=by unfold wt;have:0<3 ^ d:=Nat.pow_pos (by decide);omega
  have hts:tsize (d+1) (.mk k t ix v c b e)=1+(b.map (tsize d)).sum+(e.map (tsize d)).sum:=rfl
  have hbig:wt (d+1) * tsize (d+1) (.mk k t ix v c b e)=3 * wt d+3 * (wt d * (b.map (tsize d)).sum)+3 * (wt d * (e.map (tsize d)).sum):=by
   rw [hts,hw,Nat.mul_add,Nat.mul_add,Nat.mul_assoc,Nat.mul_assoc,Nat.mul_assoc];omega
  rw [hbig]
  rcases head_kind hh with ⟨hk,ht0,ht1,hr⟩ | ⟨hk,ht0,ht1,hri,hai,hr⟩ | ⟨hk,hr⟩ | ⟨hk,hc1,hc3⟩
  ·have hs:=right_shape hr
   have he1:=evalE_range hm 5 v hs.1
   have he2:=evalE_len (m:=m) 5 v hs.1
   have hk4:k ≠ 4:=by omega
   rcases hk with hk | hk
   ·subst hk
    simp only [runS,if_neg hk4,if_true]
    exact ⟨hm.setV he1,by omega⟩
   ·subst hk
    simp only [runS,if_neg hk4,if_true,show ¬ ((5:Int)=1) by decide,if_false]
    exact ⟨hm.setV he1,by simp;omega⟩
  ·have hs:=right_shape hr
   have he1:=evalE_range hm 5 v hs.1
   have he2:=evalE_len (m:=m) 5 v hs.1
   subst hk
   simp only [runS,show ¬ ((2:Int)=4) by decide,show ¬ ((2:Int)=1) by decide,show ¬ ((2:Int)=5) by decide,if_false,if_true]
   exact ⟨hm.setA ⟨ht0,by rw [hm.na];exact ht1⟩ he1,by simp;omega⟩
  ·have hs:=right_shape hr
   have he2:=evalE_len (m:=m) 5 v hs.1
   subst hk
   simp only [runS,show ¬ ((3:Int)=4) by decide,show ¬ ((3:Int)=1) by decide,show ¬ ((3:Int)=5) by decide,show ¬ ((3:Int)=2) by decide,if_false]
   have g1:=fb m hm
   have g2:=fe m hm
   split
   ·exact ⟨g1.1,by simp;omega⟩
   ·exact ⟨g2.1,by simp;omega⟩
  ·subst hk
   simp only [runS,if_true]
   have:=iterR_ok (f:=fun m=>foldR (runS d) m b) (fun m hm=>fb m hm) c.toNat m hm
   refine ⟨this.1,Nat.le_trans this.2 ?_⟩
   have hc:c.toNat≤3:=by omega
   have:=Nat.mul_le_mul_right (wt d * (b.map (tsize d)).sum) hc
   omega
theorem runL_ok {p:Pg} {d:Nat} {m:Mm} {l:List St1} (hm:MemFits p m) (h:∀ s ∈ l,stmtOK p d s=true):MemFits p (runL d m l).1∧(runL d m l).2.length≤wt d * lsize d l:=by
 have:=foldR_ok (fun m s hm hs=>runS_ok d m s hm hs) l m hm h
 rw [sum_mul] at this
 exact this
theorem blk0_set0 (m:Mm) (i x:Int) (h:0<m.arrays.length):blk0 (setA m 0 i x).arrays=(blk0 m.arrays).set i.toNat (.v (.int .i64 x)):=by
 have e:m.arrays[0]? = some (arrAt m 0):=(arrAt_mem (m:=m) (v:=0) (by omega) (by omega)).1
 unfold blk0 setA
 simp only [Int.toNat_zero,List.getElem?_set_self h,Option.getD_some,e]
 exact List.map_set
theorem blk1_set0 (m:Mm) (i x:Int):blk1 (setA m 0 i x).arrays=blk1 m.arrays:=by
 unfold blk1 setA
 simp only [Int.toNat_zero]
 rw [List.getElem?_set_ne (by decide)]
theorem blk1_set1 (m:Mm) (i x:Int) (h:1<m.arrays.length):blk1 (setA m 1 i x).arrays=(blk1 m.arrays).set i.toNat (.v (.int .i64 x)):=by
 have e:m.arrays[1]? = some (arrAt m 1):=(arrAt_mem (m:=m) (v:=1) (by omega) (by omega)).1
 unfold blk1 setA
 simp only [show (1:Int).toNat=1 from rfl,List.getElem?_set_self h,Option.getD_some,e]
 exact List.map_set
theorem blk0_set1 (m:Mm) (i x:Int):blk0 (setA m 1 i x).arrays=blk0 m.arrays:=by
 unfold blk0 setA
 simp only [show (1:Int).toNat=1 from rfl]
 rw [List.getElem?_set_ne (by decide)]
theorem memFits_of {p:Pg} {m:Mm} (h:(progOK p && memOK p.vars p.arrays m)=true):MemFits p m:=by
 simp only [progOK,memOK,headsOK,vals01,arrOK,Bool.and_eq_true,decide_eq_true_eq,List.all_eq_true] at h
 obtain ⟨⟨⟨⟨⟨⟨⟨h1,h2⟩,h3⟩,_⟩,_⟩,_⟩,_⟩,⟨⟨g1,g2⟩,g3⟩,g4⟩:=h
 exact ⟨by omega,by omega,by omega,by omega,g3,fun a ha=>⟨by have:=(g4 a ha).1;omega,(g4 a ha).2⟩⟩
theorem body_of {p:Pg} (h:progOK p=true):(∀ s ∈ p.body,stmtOK p 5 s=true)∧lsize 5 p.body≤60:=by
 simp only [progOK,Bool.and_eq_true,decide_eq_true_eq,List.all_eq_true] at h
 exact ⟨h.1.2,by omega⟩
def trD (tr:List Ev):C := .isl 2 (tr.map Ev.cells)
theorem RetOb.step {m : Nat} {R : D → List (Option (List C)) → Prop} {d : D} {hp : Hp} (r : Nat → Option Nat) (fz : List Nat) (d' : D) (hl : List (Nat × Option (List C)))
 (hM:DM (hOf hl) r hp fz d' d∧HpOK (hOf hl) r hp fz hl∧LowOK r (hOf hl) m∧((hl.filterMap fun p=>p.2.map fun _=>p.1).filterMap r).Nodup) (hn:RetOb m R d' (hOf hl)):RetOb m R d hp:=fun I w s v H hv=>by
 have h:Mq m r fz [] hl ⟨fun _=>none,hp,0⟩:=⟨trivial,hM.2.1,hM.2.2.1,hM.2.2.2⟩
 obtain ⟨H',E'⟩:=h.subH.sim H
 obtain ⟨I',s',d2,h2,g1,g2,g3,g4,g5⟩:=hn _ w _ v H' (DM.rd H d' d hM.1 hv)
 exact ⟨I',s',d2,h2,g1,g2,g3,E'.trans g4,g5⟩
theorem RetOb.run {R : D → List (Option (List C)) → Prop} {p : Pg} {m : Mm} {tr : List Ev} {ok : Bool} {hp : Hp} {k0 k1 k2 k3 kt n : Nat} {cs : List C} (hm : MemFits p m) (hR : R (.tup [.agg m.cells, .c (trD tr), DB ok]) [])
 (h0:hp k0=some (some (m.vals.map I64))) (h1:hp k1=some (some (hdr k2 k3 p.arrays.length))) (h2:hp k2=some (some (blk0 m.arrays))) (h3:hp k3=some (some (blk1 m.arrays))) (ht:hp kt=some (some cs)) (hcs:cs=trC tr) (hn:n=tr.length)
 (hne:k0 ≠ k1∧k0 ≠ k2∧k0 ≠ k3∧k1 ≠ k2∧k1 ≠ k3∧k2 ≠ k3∧kt ≠ k0∧kt ≠ k1∧kt ≠ k2∧kt ≠ k3):RetOb 0 R (.tup [.agg [.msl k0 1 0 p.vars.length,.msl k1 1 0 p.arrays.length],.c (.msl kt 2 0 n),DB ok]) hp:=by
 subst hcs hn
 obtain ⟨va,arr⟩:=m
 have hnv:va.length=p.vars.length:=hm.nv
 have hna:arr.length=p.arrays.length:=hm.na
 have hna2:=hm.na2
 have h4:∀ a ∈ arr,a.length=4:=fun a ha=>(hm.arr a ha).1
 obtain ⟨n01,n02,n03,n12,n13,n23,nt0,nt1,nt2,nt3⟩:=hne
 rw [← hnv,← hna]
 rw [← hna] at h1 hna2
 refine RetOb.step (fun j=>if j=0 then some k0 else if j=1 then some k1 else if j=2 then some kt else none) [k2,k3] (.tup [.agg [.msl 0 1 0 va.length,.msl 1 1 0 arr.length],.c (.msl 2 2 0 tr.length),DB ok]) [(0,some (va.map I64)),(1,some (arr.map isI)),(2,some (trC tr))] ?_ ?_
 ·have e3:∀ a:List Int,(a.map fun n=>[C.v (.int .i64 n)]).flatten=a.map I64:=fun a=>flat1 _ a
  match arr,hna2,h4,h1,h2,h3 with
  | [],_,h4,h1,h2,h3=>simp [DM,DMs,CM,CMs,HpOK,LowOK,hOf,upd,h0,ht,CMs_I,CMs_tr,h1,hdr,n01,n02,n03,n12,n13,n23,nt0,nt1,nt2,nt3,Ne.symm n01,Ne.symm nt0,Ne.symm nt1,Ne.symm n23]
  | [a],_,h4,h1,h2,h3 =>
   have ha:=h4 a (by simp)
   simp [DM,DMs,CM,CMs,HpOK,LowOK,hOf,upd,h0,ht,CMs_I,CMs_tr,h1,h2,hdr,n01,n02,n03,n12,n13,n23,nt0,nt1,nt2,nt3,Ne.symm n01,Ne.symm nt0,Ne.symm nt1,Ne.symm n23,e3,isI,ha,blk0,kf]
  | [a,b],_,h4,h1,h2,h3 =>
   have ha:=h4 a (by simp)
   have hb:=h4 b (by simp)
   simp [DM,DMs,CM,CMs,HpOK,LowOK,hOf,upd,h0,ht,CMs_I,CMs_tr,h1,h2,h3,hdr,n01,n02,n03,n12,n13,n23,nt0,nt1,nt2,nt3,Ne.symm n01,Ne.symm nt0,Ne.symm nt1,Ne.symm n23,e3,isI,ha,hb,blk0,blk1,kf]
 ·refine RetOb.ofQ (fun _=>none) [0,1,2] _ [] ⟨?_,trivial,trivial,by simp [enumL]⟩ hR (Nat.zero_le _)
  have e4:∀ l:List (List Int),(l.map fun a=>[C.isl 1 (a.map fun n=>[I64 n])]).flatten=l.map isI:=fun l=>flat1 _ l
  have e5:(tr.map Ev.cells).flatten=trC tr:=rfl
  simp [DM,DMs,CM,CMs,hOf,upd,Mm.cells,isI,trD,flat_I,kf,e5]
  exact ⟨(flat1 isI arr).symm,fun a _=>rfl,fun a _ c hc=>by
   simp only [Ev.cells,List.mem_cons,List.not_mem_nil,or_false] at hc
   rcases hc with rfl | rfl<;>rfl⟩
theorem RetOb.noRun {R:D→List (Option (List C))→Prop} {hp:Hp} {c:C} (hR:R (.tup [.agg (Mm.cells ⟨[],[]⟩),.c (trD []),DB false]) []) (hc:c = .v (.slice none 0 0)∨∃ k,c = .msl k 2 0 0∧hp k=some (some [])):RetOb 0 R (.tup [.agg [.v (.slice none 0 0),.v (.slice none 0 0)],.c c,DB false]) hp:=by
 rcases hc with rfl | ⟨k,rfl,hk⟩
 ·refine RetOb.ofQ (fun _=>none) [] _ [] ⟨?_,trivial,trivial,by simp [enumL]⟩ hR (Nat.zero_le _)
  simp [DM,DMs,CM,CMs,Mm.cells,isI,trD]
 ·refine RetOb.ofQ (fun _=>none) [k] _ [] ⟨?_,trivial,trivial,by simp [enumL]⟩ hR (Nat.zero_le _)
  simp [DM,DMs,CM,CMs,Mm.cells,isI,trD,hk]
theorem equalI (xs ys:List Int) (hl:xs.length≤mx):DC Tryz.prog 35 [ints xs,ints ys] [] (fun r h=>r=DB (decide (xs=ys))∧h=[]):=by
 have hmx:=mx_eq
 have ret:∀ (b:Bool) (hp:Hp),b=decide (xs=ys)→RetOb 0 (fun r h=>r=DB (decide (xs=ys))∧h=[]) (DB b) hp:=fun b hp h=>RetOb.plain (d:=DB _) ⟨by rw [h],rfl⟩ rfl
 by_cases hlen:xs.length=ys.length
 ·have hb:((xs.length:Int) != ys.length)=false:=by simp [hlen]
  have he:((xs.length:Int)=ys.length)=True:=eq_true (by omega)
  refine dc_of_go Tryz.func35 rfl (by simp) ?_
  refine drv_sound (n:=100) (rs:=_) Tryz.func35 mo rfl none _ _ ?_
  simp only [go_sem,ints,hb,he]
  refine Go.loopL (fun i:Nat=>[(0,ints xs),(1,ints ys),(12,DI .i64 xs.length),(13,DI .i64 i)]) (fun _=>[]) 1024 (fun i=>i≤xs.length∧decide (xs=ys)=decide (xs.drop i=ys.drop i)) (fun i=>xs.length - i) ?_ 0 some [] _ ⟨Nat.zero_le _,rfl⟩ ?_
  ·intro i hi again
   refine drv_sound (n:=100) (rs:=_) Tryz.func35 mo rfl none _ _ ?_
   rcases Nat.lt_or_ge i xs.length with hlt | hge
   ·obtain ⟨x,hx⟩:∃ x,xs[i]? = some x:=⟨xs[i],by simp [hlt]⟩
    obtain ⟨y,hy⟩:∃ y,ys[i]? = some y:=⟨ys[i]'(by omega),by simp⟩
    have hI:=hi.2
    obtain ⟨_,ex⟩:=List.getElem?_eq_some_iff.1 hx
    obtain ⟨hyl,ey⟩:=List.getElem?_eq_some_iff.1 hy
    rw [List.drop_eq_getElem_cons hlt,List.drop_eq_getElem_cons hyl,ex,ey] at hI
    simp only [go_sem,ints,hx,hy,hlt]
    (with_reducible and_intros)<;>try exact sd
    ·intro hne;exact ret _ _ (by rw [hI];simp [hne])
    ·intro heq;exact ⟨by simp only [InK];omega,again (i+1) some [] _ ⟨by omega,by rw [hI];simp [heq]⟩ (by omega) (Mt.slots (by
      simp only [go_sem,TmOK,DM,DMs,CM,CMs,forall_eq,exists_eq_left,ints]))⟩
   ·have hn:¬ i<xs.length:=by omega
    simp only [go_sem,ints,hn]
    refine ret _ _ ?_
    rw [hi.2,List.drop_of_length_le hge,List.drop_of_length_le (by omega)];rfl
  ·refine Mt.slots ?_
   simp only [go_sem,TmOK,DM,DMs,CM,CMs,forall_eq,exists_eq_left,ints]
 ·have hb:((xs.length:Int) != ys.length)=true:=by simp;omega
  have he:((xs.length:Int)=ys.length)=False:=eq_false (by omega)
  refine dc_of_go Tryz.func35 rfl (by simp) ?_
  refine drv_sound (n:=100) (rs:=_) Tryz.func35 mo rfl none _ _ ?_
  simp only [go_sem,ints,hb,he]
  refine ret _ _ ?_
  symm;rw [decide_eq_false_iff_not];intro h;exact hlen (by rw [h])
end Go.Proofs.YtoakidkcppinpaaGreat.CtR
