/- Contracts of functions of the program, one behind the other, as plain data: what each call returns and which blocks it leaves. -/
import Derived.Test.YtbknljofedfpjaaGreatYFacts
import Derived.Test.YtbknljofedfpjaaGreatYAk
import Derived.Test.YtbknljofedfpjaaGreatYAl
import Derived.Test.YtbknljofedfpjaaGreatYAi
set_option linter.unusedVariables false
set_option linter.unusedSimpArgs false
set_option linter.unusedSectionVars false
set_option maxHeartbeats 16000000
set_option maxRecDepth 100000
namespace Go.Proofs.YtbknljofedfpjaaGreat.CtR
open Go Go.CT CtF
variable [Yn]
theorem stmt0 (p:Pg) (s:St1) (n:Nat) (hn:n≤60):DC Tryz.prog 159 [.agg p.cells,.agg s.cells,DI .i64 6,.c (.ptr 0 0)] [some [I64 n]] (stmtR p 0 s n):=by
 obtain ⟨vs,ar,bd⟩:=p
 obtain ⟨k,t,⟨ik,iv,iks⟩,⟨vk,vv,vks⟩,c,b,e⟩:=s
 refine dc_of_go Tryz.func159 rfl (by simp) ?_
 refine drv_sound (n:=100) (rs:=_) Tryz.func159 mo rfl none _ _ ?_
 simp only [go_sem,Bool.or_true]
 refine ⟨by simp only [InK];omega,?_⟩
 exact RetOb.keep1 (d:=DB false) (cs:=[I64 (n+1:Nat)]) ⟨n+1,by simp [okS,stmtOK],rfl,by omega,by simp [okS,stmtOK]⟩ (by simp [I64,upd_same]) (by simp [kf]) rfl
theorem stmts (p:Pg) (hl:p.vars.length≤mx) (hl2:p.arrays.length≤mx):∀ (d:Nat) (deep:Int),1≤deep→deep+d=6→∀ (l:List St1) (c:Nat),c≤60 →
 DC Tryz.prog 131 [.agg p.cells,.c (.isl 11 (St1.cellsL l)),DI .i64 deep,.c (.ptr 0 0)] [some [I64 c]] (stmtsR p d l c)
 | 0,deep,h1,h,l,c,hc=>stmtsOf p 0 deep h (fun s c hc=>by
  obtain rfl:deep=6:=by omega
  exact stmt0 p s c hc) l c hc
 | d+1,deep,h1,h,l,c,hc=>stmtsOf p (d+1) deep h (fun s c hc=>stmtOf p hl hl2 d deep h1 h (fun l c hc=>stmts p hl hl2 d (deep+1) (by omega) (by omega) l c hc) s c hc) l c hc
theorem programValidI (p:Pg) (hl:p.vars.length≤mx) (hl2:p.arrays.length≤mx):DC Tryz.prog 89 [.agg p.cells] [] (fun r h=>r=DB (progOK p)∧h=[]):=by
 obtain ⟨vs,ar,bd⟩:=p
 have hcast:decide ((lsize 5 bd:Int)≤60)=decide (0+lsize 5 bd≤60):=decide_eq_decide.2 (by omega)
 refine dc_of_go Tryz.func89 rfl (by simp) ?_
 refine drv_sound (n:=100) (rs:=_) Tryz.func89 mo rfl none _ _ ?_
 simp only [go_sem]
 refine XK.plain (declared vs ar hl hl2) ok94 ?_ (hbT ())
 cases hh:headsOK vs ar with
 | false =>
  refine drv_sound (n:=100) (rs:=_) Tryz.func89 mo rfl (some _) _ _ ?_
  simp only [go_sem,hh]
  refine XK.gskip 5 true (DB false) ?_ (hbT ())
  refine drv_sound (n:=100) (rs:=_) Tryz.func89 mo rfl (some _) _ _ ?_
  simp only [go_sem]
  refine RetOb.plain (d:=DB false) ⟨?_,rfl⟩ rfl
  simp [progOK,hh]
 | true =>
  refine drv_sound (n:=100) (rs:=_) Tryz.func89 mo rfl (some _) _ _ ?_
  simp only [go_sem,hh]
  refine XK.callT 5 true [128] (stmts ⟨vs,ar,bd⟩ hl hl2 5 1 (by omega) (by omega) bd 0 (by omega)) ok131 (hhp_one rfl) (hbT ()) (fun d h' ⟨c',_,e,_⟩=>by subst e;simp) ?_
  rintro _ h' ⟨c1,rfl,rfl,hc61,htr⟩ _
  refine drv_sound (n:=100) (rs:=_) Tryz.func89 mo rfl (some _) _ _ ?_
  simp only [go_sem]
  refine RetOb.plain (d:=DB _) ⟨?_,rfl⟩ rfl
  simp only [progOK,hh,hcast,okB,Bool.true_and]
def arrOK (a:List Int):Bool:=decide ((a.length:Int)=4) && vals01 a
def memOK (vs ar:List Int) (m:Mm):Bool:=decide ((m.vals.length:Int)=vs.length) && decide ((m.arrays.length:Int)=ar.length) && vals01 m.vals && m.arrays.all arrOK
theorem isMemory1 (a:List Int):DC Tryz.prog 146 [ints a] [] (fun r h=>r=DB (!arrOK a)∧h=[]):=by
 have hmx:=mx_eq
 refine dc_of_go Tryz.func146 rfl (by simp) ?_
 refine drv_sound (n:=100) (rs:=_) Tryz.func146 mo rfl none _ _ ?_
 simp only [go_sem,ints]
 refine XK.gplain 3 false (!((a.length:Int) != 4)) (fun h=>areValues a (by simp at h;omega)) ok144 ?_ (hok:=by intro hx;simp [okP,getCall,Call.operands,evT,upd,peelB,DB,DI,cst,one] at hx ⊢;first | done | exact hx | (simp_all;done) | omega)
 refine drv_sound (n:=100) (rs:=_) Tryz.func146 mo rfl (some _) _ _ ?_
 simp only [go_sem,ints]
 refine RetOb.plain (d:=DB _) ⟨?_,rfl⟩ rfl
 simp only [DB];congr 3;unfold arrOK;grind
def idxA (q : List Int → Bool) : List (List Int) → Int → Int
 | [],_ => -1
 | x :: r,i=>if q x then i else idxA q r (i+1)
theorem idxA_any (q : List Int → Bool) : ∀ (xs : List (List Int)) (i : Int), 0 ≤ i → decide (0 ≤ idxA q xs i) = xs.any q
 | [],i,_=>by simp [idxA]
 | x :: r,i,h=>by
  unfold idxA
  by_cases hq:q x=true
  ·simp [hq,h]
  ·simp only [hq,Bool.false_eq_true,if_false,List.any_cons,Bool.not_eq_true] at *
   rw [idxA_any q r (i+1) (by omega)];simp [hq]
theorem indexFuncA (g : Nat) (q : List Int → Bool) (xs : List (List Int)) (hl : xs.length ≤ mx) (hok : fnOK Tryz.prog g = true) (hg : ∀ n ∈ xs, DC Tryz.prog g [ints n] [] (fun d h => d = DB (q n) ∧ h = [])) :
 DC Tryz.prog 164 [.c (.isl 1 (xs.map fun a=>[isI a])),.c (.clo g [])] [] (fun d h=>d=DI .i64 (idxA q xs 0)∧h=[]):=by
 have hmx:=mx_eq
 refine dc_of_go Tryz.func164 rfl (by simp) ?_
 refine drv_sound (n:=100) (rs:=_) Tryz.func164 mo rfl none _ _ ?_
 simp only [go_sem,isI,I64]
 refine Go.loopL (fun i:Nat=>[(0,.c (.isl 1 (xs.map fun a=>[isI a]))),(1,.c (.clo g [])),(7,DI .i64 xs.length),(8,DI .i64 i)]) (fun _=>[]) 1024 (fun i=>i≤xs.length∧idxA q (xs.drop i) i=idxA q xs 0) (fun i=>xs.length - i) ?_ 0 some [] _ ⟨Nat.zero_le _,rfl⟩ ?_
 ·intro i hi again
  refine drv_sound (n:=100) (rs:=_) Tryz.func164 mo rfl none _ _ ?_
  rcases Nat.lt_or_ge i xs.length with hlt | hge
  ·obtain ⟨x,hx⟩:∃ x,xs[i]? = some x:=⟨xs[i],by simp [hlt]⟩
   have hmem:x ∈ xs:=List.mem_of_getElem? hx
   have hdrop:xs.drop i=x :: xs.drop (i+1):=by
    obtain ⟨_,e⟩:=List.getElem?_eq_some_iff.1 hx
    rw [List.drop_eq_getElem_cons hlt,e]
   have hI:=hi.2
   rw [hdrop] at hI
   simp only [go_sem,isI,I64,hx,hlt]
   refine XK.plain (hg x hmem) hok ?_
   refine drv_sound (n:=100) (rs:=_) Tryz.func164 mo rfl (some _) _ _ ?_
   simp only [go_sem,isI,I64]
   refine ⟨fun hq=>?_,fun hq=>⟨by simp only [InK];omega,?_⟩⟩
   ·refine RetOb.plain (d:=DI .i64 _) ⟨?_,rfl⟩ rfl
    rw [← hI];simp [idxA,hq,DI]
   ·refine again (i+1) some [] _ ⟨by omega,?_⟩ (by omega) (Mt.slots ?_)
    ·rw [← hI];simp [idxA,hq]
    ·simp only [go_sem,TmOK,DM,DMs,CM,CMs,forall_eq,exists_eq_left,isI,I64]
  ·have hn:¬ i<xs.length:=by omega
   simp only [go_sem,isI,I64,hn]
   refine RetOb.plain (d:=DI .i64 _) ⟨?_,rfl⟩ rfl
   rw [← hi.2,List.drop_of_length_le hge];rfl
 ·refine Mt.slots ?_
  simp only [go_sem,TmOK,DM,DMs,CM,CMs,forall_eq,exists_eq_left,isI,I64]
theorem containsFuncA (g : Nat) (q : List Int → Bool) (xs : List (List Int)) (hl : xs.length ≤ mx) (hok : fnOK Tryz.prog g = true) (hg : ∀ n ∈ xs, DC Tryz.prog g [ints n] [] (fun d h => d = DB (q n) ∧ h = [])) :
 DC Tryz.prog 145 [.c (.isl 1 (xs.map fun a=>[isI a])),.c (.clo g [])] [] (fun d h=>d=DB (xs.any q)∧h=[]):=by
 refine dc_of_go Tryz.func145 rfl (by simp) ?_
 refine drv_sound (n:=100) (rs:=_) Tryz.func145 mo rfl none _ _ ?_
 simp only [go_sem,isI,I64]
 refine XK.plain (indexFuncA g q xs hl hok hg) ok164 ?_
 refine drv_sound (n:=100) (rs:=_) Tryz.func145 mo rfl (some _) _ _ ?_
 simp only [go_sem,isI,I64]
 refine RetOb.plain (d:=DB _) ⟨?_,rfl⟩ rfl
 simp only [DB];rw [idxA_any q xs 0 (by omega)]
theorem isMemory (vs ar:List Int) (m:Mm) (hl:vs.length≤mx) (hl2:ar.length≤mx):DC Tryz.prog 101 [ints vs,ints ar,.agg m.cells] [] (fun r h=>r=DB (memOK vs ar m)∧h=[]):=by
 obtain ⟨va,arr⟩:=m
 have hmx:=mx_eq
 refine dc_of_go Tryz.func101 rfl (by simp) ?_
 refine drv_sound (n:=100) (rs:=_) Tryz.func101 mo rfl none _ _ ?_
 simp only [go_sem,ints,Mm.cells,isI,I64]
 refine XK.gplain 14 false (!(((va.length:Int) != vs.length) || ((arr.length:Int) != ar.length))) (fun h=>areValues va (by simp at h;omega)) ok144 ?_ (hbT ()) (hok:=by intro hx;simp [okP,getCall,Call.operands,evT,upd,peelB,DB,DI,cst,one] at hx ⊢;first | done | exact hx | (simp_all;done) | omega)
 refine drv_sound (n:=100) (rs:=_) Tryz.func101 mo rfl (some _) _ _ ?_
 simp only [go_sem,ints,isI,I64]
 refine ⟨fun hno=>RetOb.plain (d:=DB false) ⟨?_,rfl⟩ rfl,fun hyes=>?_⟩
 ·simp only [DB];congr 3;unfold memOK;grind
 ·refine XK.plain (containsFuncA 146 (fun a => !arrOK a) arr (by omega) ok146 fun a _=>isMemory1 a) ok145 ?_ (hbT ())
  refine drv_sound (n:=100) (rs:=_) Tryz.func101 mo rfl (some _) _ _ ?_
  simp only [go_sem,ints,isI,I64]
  refine RetOb.plain (d:=DB _) ⟨?_,rfl⟩ rfl
  simp only [DB];congr 3;unfold memOK;rw [List.all_eq_not_any_not];grind
theorem memoryValidI (p:Pg) (m:Mm) (hl:p.vars.length≤mx) (hl2:p.arrays.length≤mx):DC Tryz.prog 52 [.agg p.cells,.agg m.cells] [] (fun r h=>r=DB (progOK p && memOK p.vars p.arrays m)∧h=[]):=by
 obtain ⟨vs,ar,bd⟩:=p
 obtain ⟨va,arr⟩:=m
 refine dc_of_go Tryz.func52 rfl (by simp) ?_
 refine drv_sound (n:=100) (rs:=_) Tryz.func52 mo rfl none _ _ ?_
 simp only [go_sem,Mm.cells]
 refine XK.plain (programValidI ⟨vs,ar,bd⟩ hl hl2) ok89 ?_ (hbT ())
 refine drv_sound (n:=100) (rs:=_) Tryz.func52 mo rfl (some _) _ _ ?_
 simp only [go_sem,Mm.cells]
 refine XK.gplain 2 true (progOK ⟨vs,ar,bd⟩) (fun h=>isMemory vs ar ⟨va,arr⟩ hl hl2) ok101 ?_ (hbT ()) (hok:=by intro hx;simp [okP,getCall,Call.operands,evT,upd,peelB,DB,DI,cst,one] at hx ⊢;first | done | exact hx | (simp_all;done) | omega)
 refine drv_sound (n:=100) (rs:=_) Tryz.func52 mo rfl (some _) _ _ ?_
 simp only [go_sem,Mm.cells]
 exact RetOb.plain (d:=DB _) ⟨rfl,rfl⟩ rfl
theorem kf_I (xs:List Int):∀ c ∈ xs.map I64,kf c=true:=by
 intro c hc;obtain ⟨x,_,rfl⟩:=List.mem_map.1 hc;rfl
theorem kf_A (xs:List (List Int)):∀ c ∈ xs.map isI,kf c=true:=by
 intro c hc;obtain ⟨x,_,rfl⟩:=List.mem_map.1 hc;rfl
theorem flat_I (xs:List Int):(xs.map fun n=>[I64 n]).flatten=xs.map I64:=flat1 _ _
theorem flat_A (xs:List (List Int)):(xs.map fun n=>[isI n]).flatten=xs.map isI:=flat1 _ _
theorem RetOb.new1 {R:D→List (Option (List C))→Prop} {sz n k:Nat} {cs:List C} {hp:Hp} (hR:R (.c (.msl 0 sz 0 n)) [some cs]) (hb:hp k=some (some cs)) (hkf:∀ c ∈ cs,kf c=true):RetOb 0 R (.c (.msl k sz 0 n)) hp :=
 RetOb.of (fun j=>if j=0 then some k else none) [] (.c (.msl 0 sz 0 n)) [some cs] (subH_one rfl hb hkf) (by simp [DM,CM,hpL]) hR (by simp)
theorem RetOb.newNil {R:D→List (Option (List C))→Prop} {sz:Nat} {hp:Hp} (hR:R (.c (.msl 0 sz 0 0)) [some []]):RetOb 0 R (.c (.v (.slice none 0 0))) hp :=
 RetOb.of (fun j=>none) [] (.c (.msl 0 sz 0 0)) [some []] ⟨fun k cs h=>by
  match k with
  | 0=>simp [hpL] at h;exact .inr ⟨rfl,h⟩
  | k+1=>simp [hpL] at h,fun k k' cs cs' j _ _ h=>by simp at h,fun k h=>by omega⟩ (by simp [DM,CM,hpL]) hR (by simp)
theorem cloneI (xs:List Int) (hl:xs.length≤1000000):DC Tryz.prog 33 [ints xs] [] (fun d h=>d = .c (.msl 0 1 0 xs.length)∧h=[some (xs.map I64)]):=by
 have hmx:=mx_eq
 cases xs with
 | nil =>
  refine DC.isl0 fun a c=>?_
  refine dc_of_go Tryz.func33 rfl (by simp) ?_
  refine drv_sound (n:=100) (rs:=_) Tryz.func33 mo rfl none _ _ ?_
  cases a with
  | none =>
   simp only [go_sem,ints,isI,I64]
   exact RetOb.newNil ⟨rfl,rfl⟩
  | some a =>
   simp only [go_sem,ints,isI,I64]
   refine ⟨fun k e=>by cases e;rfl,RetOb.new1 ⟨rfl,rfl⟩ (upd_same _ _ _) (by simp)⟩
 | cons a r =>
  have hr:r.length+1≤1000000:=hl
  have hf:=congrArg List.length (flat_I (a :: r))
  simp only [List.map_cons,List.length_cons,List.length_map,isI,I64] at hf
  refine dc_of_go Tryz.func33 rfl (by simp) ?_
  refine drv_sound (n:=100) (rs:=_) Tryz.func33 mo rfl none _ _ ?_
  simp only [go_sem,ints,isI,I64]
  refine ⟨⟨fun k e=>by cases e;rfl,by first | exact hf | simpa using hf,by omega,by omega⟩,RetOb.new1 ⟨rfl,rfl⟩ ?_ (kf_I (a :: r))⟩
  rw [← flat_I]
  exact upd_same _ _ _
theorem cloneA (xs:List (List Int)) (hl:xs.length≤1000000):DC Tryz.prog 102 [.c (.isl 1 (xs.map fun a=>[isI a]))] [] (fun d h=>d = .c (.msl 0 1 0 xs.length)∧h=[some (xs.map isI)]):=by
 have hmx:=mx_eq
 cases xs with
 | nil =>
  refine DC.isl0 fun a c=>?_
  refine dc_of_go Tryz.func102 rfl (by simp) ?_
  refine drv_sound (n:=100) (rs:=_) Tryz.func102 mo rfl none _ _ ?_
  cases a with
  | none =>
   simp only [go_sem,ints,isI,I64]
   exact RetOb.newNil ⟨rfl,rfl⟩
  | some a =>
   simp only [go_sem,ints,isI,I64]
   refine ⟨fun k e=>by cases e;rfl,RetOb.new1 ⟨rfl,rfl⟩ (upd_same _ _ _) (by simp)⟩
 | cons a r =>
  have hr:r.length+1≤1000000:=hl
  have hf:=congrArg List.length (flat_A (a :: r))
  simp only [List.map_cons,List.length_cons,List.length_map,isI,I64] at hf
  refine dc_of_go Tryz.func102 rfl (by simp) ?_
  refine drv_sound (n:=100) (rs:=_) Tryz.func102 mo rfl none _ _ ?_
  simp only [go_sem,ints,isI,I64]
  refine ⟨⟨fun k e=>by cases e;rfl,by first | exact hf | simpa using hf,by omega,by omega⟩,RetOb.new1 ⟨rfl,rfl⟩ ?_ (kf_A (a :: r))⟩
  rw [← flat_A]
  exact upd_same _ _ _
def hdr (b b' na:Nat):List C:=[C.msl b 1 0 4,.msl b' 1 0 4].take na
def blk0 (arr:List (List Int)):List C:=((arr[0]?).getD []).map I64
def blk1 (arr:List (List Int)):List C:=((arr[1]?).getD []).map I64
def memB (b:Nat) (m:Mm):List (Option (List C)):=[some (m.vals.map I64),some (hdr b (b+1) m.arrays.length),some (blk0 m.arrays),some (blk1 m.arrays)]
theorem CMs_I {hT hS:Hp} {r:Nat→Option Nat} {fz:List Nat} (xs:List Int):CMs hT r hS fz (xs.map I64) (xs.map I64)=True:=eq_true (CMs.kf (kf_I xs))
theorem flat_I' (xs:List Int):(xs.map fun n=>[C.v (.int .i64 n)]).flatten=xs.map I64:=flat1 _ _
theorem l3Copy (m:Mm) (hv:m.vals.length≤1000) (ha:m.arrays.length≤2) (h4:∀ a ∈ m.arrays,a.length=4):DC Tryz.prog 88 [.agg m.cells] [] (fun d h=>d = .agg [.msl 0 1 0 m.vals.length,.msl 1 1 0 m.arrays.length]∧h=memB 2 m):=by
 have hmx:=mx_eq
 obtain ⟨va,arr⟩:=m
 have hv:va.length≤1000:=hv
 match arr,ha,h4 with
 | [],_,_ =>
  refine dc_of_go Tryz.func88 rfl (by simp) ?_
  refine drv_sound (n:=100) (rs:=_) Tryz.func88 mo rfl none _ _ ?_
  simp only [go_sem,Mm.cells,isI,I64,flat_I']
  refine ⟨⟨fun k e=>by cases e;rfl,by omega,by omega⟩,?_⟩
  refine Go.loop ?_
  refine drv_sound (n:=100) (rs:=_) Tryz.func88 mo rfl none _ _ ?_
  simp only [go_sem,Mm.cells,isI,I64,flat_I',Int.reduceLT]
  refine RetOb.ofQ (fun j=>if j=0 then some 320 else none) [] (.agg [.msl 0 1 0 va.length,.msl 1 1 0 0]) (memB 2 ⟨va,[]⟩) ?_ ⟨rfl,rfl⟩ (by simp)
  simp [memB,enumL,hOf,hdr,blk0,blk1,DM,CM,CMs,HpOK,LowOK,upd,CMs_I,isI]
 | [a],_,h4 =>
  have h4a:a.length=4:=h4 a (by simp)
  refine dc_of_go Tryz.func88 rfl (by simp) ?_
  refine drv_sound (n:=100) (rs:=_) Tryz.func88 mo rfl none _ _ ?_
  simp only [go_sem,Mm.cells,isI,I64,flat_I']
  refine ⟨⟨fun k e=>by cases e;rfl,by omega,by omega⟩,?_⟩
  refine Go.loop ?_
  refine drv_sound (n:=100) (rs:=_) Tryz.func88 mo rfl none _ _ ?_
  simp only [go_sem,Mm.cells,isI,I64,flat_I',Int.reduceLT]
  (with_reducible and_intros)<;>try exact sd
  refine Go.inLoop ?_
  refine drv_sound (n:=100) (rs:=_) Tryz.func88 mo rfl none _ _ ?_
  simp only [go_sem,Mm.cells,isI,I64,flat_I',Int.reduceLT]
  refine RetOb.ofQ (fun j=>if j=0 then some 320 else if j=1 then some 1600 else if j=2 then some 1472 else none) [] (.agg [.msl 0 1 0 va.length,.msl 1 1 0 1]) (memB 2 ⟨va,[a]⟩) ?_ ⟨rfl,rfl⟩ (by simp)
  simp [memB,enumL,hOf,hdr,blk0,blk1,DM,CM,CMs,HpOK,LowOK,upd,CMs_I,isI,h4a]
 | [a,b],_,h4 =>
  have h4a:a.length=4:=h4 a (by simp)
  have h4b:b.length=4:=h4 b (by simp)
  refine dc_of_go Tryz.func88 rfl (by simp) ?_
  refine drv_sound (n:=100) (rs:=_) Tryz.func88 mo rfl none _ _ ?_
  simp only [go_sem,Mm.cells,isI,I64,flat_I']
  refine ⟨⟨fun k e=>by cases e;rfl,by omega,by omega⟩,?_⟩
  refine Go.loop ?_
  refine drv_sound (n:=100) (rs:=_) Tryz.func88 mo rfl none _ _ ?_
  simp only [go_sem,Mm.cells,isI,I64,flat_I',Int.reduceLT]
  (with_reducible and_intros)<;>try exact sd
  refine Go.inLoop ?_
  refine drv_sound (n:=100) (rs:=_) Tryz.func88 mo rfl none _ _ ?_
  simp only [go_sem,Mm.cells,isI,I64,flat_I',Int.reduceLT]
  (with_reducible and_intros)<;>try exact sd
  refine Go.inLoop ?_
  refine drv_sound (n:=100) (rs:=_) Tryz.func88 mo rfl none _ _ ?_
  simp only [go_sem,Mm.cells,isI,I64,flat_I',Int.reduceLT]
  refine RetOb.ofQ (fun j=>if j=0 then some 320 else if j=1 then some 2944 else if j=2 then some 1472 else if j=3 then some 2816 else none) [] (.agg [.msl 0 1 0 va.length,.msl 1 1 0 2]) (memB 2 ⟨va,[a,b]⟩) ?_ ⟨rfl,rfl⟩ (by simp)
  simp [memB,enumL,hOf,hdr,blk0,blk1,DM,CM,CMs,HpOK,LowOK,upd,CMs_I,isI,h4a,h4b]
theorem renCs_I (r:Nat→Nat) (xs:List Int):renCs r (xs.map I64)=xs.map I64:=by
 induction xs with
 | nil=>rfl
 | cons a t ih=>simp only [List.map_cons,renCs,ih];rfl
theorem renCs_hdr (r:Nat→Nat) (b b' n:Nat):renCs r (hdr b b' n)=hdr (r b) (r b') n:=by
 unfold hdr
 match n with
 | 0=>rfl
 | 1=>rfl
 | n+2=>simp [renCs,renC]
theorem CMs_hdr {hT hS:Hp} {r:Nat→Option Nat} {fz:List Nat} (b b' j j' n:Nat) (h1:r b=some j) (h2:r b'=some j') (h3:hT b ≠ none) (h4:hT b' ≠ none):CMs hT r hS fz (hdr b b' n) (hdr j j' n)=True:=by
 apply eq_true
 unfold hdr
 match n with
 | 0=>simp [CMs]
 | 1=>simp [CMs,CM,h1,h3]
 | n+2=>simp [CMs,CM,h1,h2,h3,h4]
def trC (tr:List Ev):List C:=(tr.map Ev.cells).flatten
theorem trC_len (tr:List Ev):(trC tr).length=tr.length * 2:=by
 unfold trC
 induction tr with
 | nil=>rfl
 | cons a r ih=>simp only [List.map_cons,List.flatten_cons,List.length_append,ih,Ev.cells,List.length_cons,List.length_nil];omega
theorem trC_app (tr tr':List Ev):trC (tr++tr')=trC tr++trC tr':=by simp [trC]
theorem renCs_tr (r:Nat→Nat) (tr:List Ev):renCs r (trC tr)=trC tr:=by
 unfold trC
 induction tr with
 | nil=>rfl
 | cons a t ih=>simp only [List.map_cons,List.flatten_cons,Ev.cells,List.cons_append,List.nil_append,renCs,renC,ih]
theorem trC_kf (tr:List Ev):∀ c ∈ trC tr,kf c=true:=by
 unfold trC
 induction tr with
 | nil=>simp
 | cons a t ih =>
  intro c hc
  rw [List.map_cons,List.flatten_cons,List.mem_append] at hc
  rcases hc with hc | hc
  ·simp only [Ev.cells,List.mem_cons,List.not_mem_nil,or_false] at hc
   rcases hc with rfl | rfl<;>rfl
  ·exact ih c hc
theorem CMs_tr {hT hS:Hp} {r:Nat→Option Nat} {fz:List Nat} (tr:List Ev):CMs hT r hS fz (trC tr) (trC tr)=True:=eq_true (CMs.kf (trC_kf tr))
theorem own (m:Mm) (hv:m.vals.length≤1000) (ha:m.arrays.length≤2) (h4:∀ a ∈ m.arrays,a.length=4):DC Tryz.prog 53 [.agg m.cells] [] (fun d h=>d = .agg [.msl 0 1 0 m.vals.length,.msl 1 1 0 m.arrays.length]∧h=memB 2 m):=by
 have hmx:=mx_eq
 obtain ⟨va,arr⟩:=m
 have hv:va.length≤1000:=hv
 have ha2:arr.length≤2:=ha
 refine dc_of_go Tryz.func53 rfl (by simp) ?_
 refine drv_sound (n:=100) (rs:=_) Tryz.func53 mo rfl none _ _ ?_
 simp only [go_sem,Mm.cells,isI,I64,Int.reduceLT,renCs_I]
 (with_reducible and_intros)<;>try exact sd
 refine XK.callG [] (cloneI va (by omega)) ok33 (fun i' x h=>by simp at h) (hbT ()) (fun d h' ⟨_,e⟩=>by subst e;simp) ?_ (fun _=>⟨by kernel_rfl,_,_,⟨rfl,rfl⟩,Nat.zero_le _⟩)
 rintro _ _ ⟨rfl,rfl⟩ _
 refine drv_sound (n:=100) (rs:=_) Tryz.func53 mo rfl (some _) _ _ ?_
 simp only [go_sem,Mm.cells,isI,I64,Int.reduceLT,renCs_I]
 (with_reducible and_intros)<;>try exact sd
 refine XK.callG [] (cloneA arr (by omega)) ok102 (fun i' x h=>by simp at h) (hbT ()) (fun d h' ⟨_,e⟩=>by subst e;simp) ?_ (fun _=>⟨by kernel_rfl,_,_,⟨rfl,rfl⟩,Nat.zero_le _⟩)
 rintro _ _ ⟨rfl,rfl⟩ _
 refine drv_sound (n:=100) (rs:=_) Tryz.func53 mo rfl (some _) _ _ ?_
 simp only [go_sem,Mm.cells,isI,I64,Int.reduceLT,renCs_I]
 (with_reducible and_intros)<;>try exact sd
 match arr,ha,h4 with
 | [],_,_ =>
  refine Go.loop ?_
  refine drv_sound (n:=100) (rs:=_) Tryz.func53 mo rfl none _ _ ?_
  simp only [go_sem,Mm.cells,isI,I64,Int.reduceLT,renCs_I]
  refine RetOb.ofQ (fun j=>if j=0 then some 256 else if j=1 then some 448 else none) [] (.agg [.msl 0 1 0 va.length,.msl 1 1 0 0]) (memB 2 ⟨va,[]⟩) ?_ ⟨rfl,rfl⟩ (by simp)
  simp [memB,enumL,hOf,hdr,blk0,blk1,DM,CM,CMs,HpOK,LowOK,upd,CMs_I,isI]
 | [a],_,h4 =>
  have h4a:a.length=4:=h4 a (by simp)
  refine Go.loop ?_
  refine drv_sound (n:=100) (rs:=_) Tryz.func53 mo rfl none _ _ ?_
  simp only [go_sem,Mm.cells,isI,I64,Int.reduceLT,renCs_I]
  (with_reducible and_intros)<;>try exact sd
  refine XK.callG [] (cloneI a (by omega)) ok33 (fun i' x h=>by simp at h) (hbT ()) (fun d h' ⟨_,e⟩=>by subst e;simp) ?_ (fun _=>⟨by kernel_rfl,_,_,⟨rfl,rfl⟩,Nat.zero_le _⟩)
  rintro _ _ ⟨rfl,rfl⟩ _
  refine drv_sound (n:=100) (rs:=_) Tryz.func53 mo rfl (some _) _ _ ?_
  simp only [go_sem,Mm.cells,isI,I64,Int.reduceLT,renCs_I]
  (with_reducible and_intros)<;>try exact sd
  refine Go.inLoop ?_
  refine drv_sound (n:=100) (rs:=_) Tryz.func53 mo rfl none _ _ ?_
  simp only [go_sem,Mm.cells,isI,I64,Int.reduceLT,renCs_I]
  refine RetOb.ofQ (fun j=>if j=0 then some 256 else if j=1 then some 448 else if j=2 then some 1664 else none) [] (.agg [.msl 0 1 0 va.length,.msl 1 1 0 1]) (memB 2 ⟨va,[a]⟩) ?_ ⟨rfl,rfl⟩ (by simp)
  simp [memB,enumL,hOf,hdr,blk0,blk1,DM,CM,CMs,HpOK,LowOK,upd,CMs_I,isI,h4a]
 | [a,b],_,h4 =>
  have h4a:a.length=4:=h4 a (by simp)
  have h4b:b.length=4:=h4 b (by simp)
  refine Go.loop ?_
  refine drv_sound (n:=100) (rs:=_) Tryz.func53 mo rfl none _ _ ?_
  simp only [go_sem,Mm.cells,isI,I64,Int.reduceLT,renCs_I]
  (with_reducible and_intros)<;>try exact sd
  refine XK.callG [] (cloneI a (by omega)) ok33 (fun i' x h=>by simp at h) (hbT ()) (fun d h' ⟨_,e⟩=>by subst e;simp) ?_ (fun _=>⟨by kernel_rfl,_,_,⟨rfl,rfl⟩,Nat.zero_le _⟩)
  rintro _ _ ⟨rfl,rfl⟩ _
  refine drv_sound (n:=100) (rs:=_) Tryz.func53 mo rfl (some _) _ _ ?_
  simp only [go_sem,Mm.cells,isI,I64,Int.reduceLT,renCs_I]
  (with_reducible and_intros)<;>try exact sd
  refine Go.inLoop ?_
  refine drv_sound (n:=100) (rs:=_) Tryz.func53 mo rfl none _ _ ?_
  simp only [go_sem,Mm.cells,isI,I64,Int.reduceLT,renCs_I]
  (with_reducible and_intros)<;>try exact sd
  refine XK.callG [] (cloneI b (by omega)) ok33 (fun i' x h=>by simp at h) (hbT ()) (fun d h' ⟨_,e⟩=>by subst e;simp) ?_ (fun _=>⟨by kernel_rfl,_,_,⟨rfl,rfl⟩,Nat.zero_le _⟩)
  rintro _ _ ⟨rfl,rfl⟩ _
  refine drv_sound (n:=100) (rs:=_) Tryz.func53 mo rfl (some _) _ _ ?_
  simp only [go_sem,Mm.cells,isI,I64,Int.reduceLT,renCs_I]
  (with_reducible and_intros)<;>try exact sd
  refine Go.inLoop ?_
  refine drv_sound (n:=100) (rs:=_) Tryz.func53 mo rfl none _ _ ?_
  simp only [go_sem,Mm.cells,isI,I64,Int.reduceLT,renCs_I]
  refine RetOb.ofQ (fun j=>if j=0 then some 256 else if j=1 then some 448 else if j=2 then some 1664 else if j=3 then some 2624 else none) [] (.agg [.msl 0 1 0 va.length,.msl 1 1 0 2]) (memB 2 ⟨va,[a,b]⟩) ?_ ⟨rfl,rfl⟩ (by simp)
  simp [memB,enumL,hOf,hdr,blk0,blk1,DM,CM,CMs,HpOK,LowOK,upd,CMs_I,isI,h4a,h4b]
def nth (l:List Int) (i:Int):Int:=l.getD i.toNat 0
def arrAt (m:Mm) (v:Int):List Int:=m.arrays.getD v.toNat []
def evalE (m : Mm) : Nat → Ex → Int × List Ev
 | 0,_=>(0,[])
 | d+1,.mk k v ks =>
  let xs:=ks.map fun e=>(evalE m d e).1
  let ev:=(ks.map fun e=>(evalE m d e).2).flatten
  if k=1 then (v,[]) else if k=2 then (nth m.vals v,[])
  else if k=3 then (nth (arrAt m v) (xs.getD 0 0 % 4),ev++[⟨2,v * 4+xs.getD 0 0 % 4⟩])
  else if k=11 then (if xs.getD 0 0 ≠ 0 then xs.getD 1 0 else xs.getD 2 0,ev)
  else (bin k (xs.getD 0 0) (xs.getD 1 0),ev)
def vas (m:Mm) (d:Nat) (ks:List Ex):List Int:=ks.map fun e=>(evalE m d e).1
def evs (m:Mm) (d:Nat) (ks:List Ex):List Ev:=(ks.map fun e=>(evalE m d e).2).flatten
theorem evs_succ (m:Mm) (d:Nat) (ks:List Ex) (i:Nat) (x:Ex) (hx:ks[i]? = some x):evs m d (ks.take (i+1))=evs m d (ks.take i)++(evalE m d x).2:=by
 unfold evs;rw [List.take_add_one,hx];simp
theorem vas_succ (m:Mm) (d:Nat) (ks:List Ex) (i:Nat) (x:Ex) (hx:ks[i]? = some x):vas m d (ks.take (i+1))=vas m d (ks.take i)++[(evalE m d x).1]:=by
 unfold vas;rw [List.take_add_one,hx];simp
theorem vas_len (m:Mm) (d:Nat) (ks:List Ex):(vas m d ks).length=ks.length:=by simp [vas]
theorem bin_range {k a b:Int} (ha:0≤a∧a≤255) (hb:0≤b∧b≤255):0≤bin k a b∧bin k a b≤255:=by
 have h1:a.toNat &&& b.toNat≤a.toNat:=Nat.and_le_left
 have h2:a.toNat ^^^ b.toNat<2 ^ 8:=Nat.xor_lt_two_pow (by omega) (by omega)
 unfold bin
 repeat' split
 all_goals omega
structure MemFits (p : Pg) (m : Mm) : Prop where
 nv:m.vals.length=p.vars.length
 na:m.arrays.length=p.arrays.length
 nv12:1≤p.vars.length∧p.vars.length≤12
 na2:p.arrays.length≤2
 val:∀ x ∈ m.vals,0≤x∧x≤255
 arr:∀ a ∈ m.arrays,a.length=4∧∀ x ∈ a,0≤x∧x≤255
theorem nth_mem {l:List Int} {i:Int} (h:0≤i) (h2:i<l.length):l[i.toNat]? = some (nth l i)∧nth l i ∈ l:=by
 have h3:i.toNat<l.length:=by omega
 have e:l[i.toNat]? = some l[i.toNat]:=List.getElem?_eq_getElem h3
 have e2:nth l i=l[i.toNat]:=by simp [nth,List.getD,e]
 rw [e2]
 exact ⟨e,List.getElem_mem h3⟩
theorem arrAt_mem {m:Mm} {v:Int} (h:0≤v) (h2:v<m.arrays.length):m.arrays[v.toNat]? = some (arrAt m v)∧arrAt m v ∈ m.arrays:=by
 have h3:v.toNat<m.arrays.length:=by omega
 have e:m.arrays[v.toNat]? = some m.arrays[v.toNat]:=List.getElem?_eq_getElem h3
 have e2:arrAt m v=m.arrays[v.toNat]:=by simp [arrAt,List.getD,e]
 rw [e2]
 exact ⟨e,List.getElem_mem h3⟩
theorem evalE_range {p : Pg} {m : Mm} (hm : MemFits p m) : ∀ (d : Nat) (e : Ex), shape p d e = true → 0 ≤ (evalE m d e).1 ∧ (evalE m d e).1 ≤ 255
 | 0,_,h=>by simp [shape] at h
 | d+1,.mk k v ks,h=>by
  obtain ⟨h1,h2,h3⟩:=shape_succ h
  obtain ⟨hl3,hla,hv0,hv1⟩:=fits_len h1
  have ih:∀ x ∈ ks,0≤(evalE m d x).1∧(evalE m d x).1≤255:=fun x hx=>evalE_range hm d x (h2 x hx)
  have hg:∀ i,0≤(ks.map fun e=>(evalE m d e).1).getD i 0∧(ks.map fun e=>(evalE m d e).1).getD i 0≤255:=fun i=>by
   rw [List.getD_eq_getElem?_getD,List.getElem?_map]
   cases hx:ks[i]? with
   | none=>simp
   | some x=>simpa using ih x (List.mem_of_getElem? hx)
  simp only [evalE]
  split
  ·rename_i hk
   simp only [limit,if_pos hk] at hv1
   simp only
   omega
  ·split
   ·rename_i hk1 hk
    simp only [limit,if_neg hk1,if_pos hk] at hv1
    have:=(nth_mem (l:=m.vals) hv0 (by rw [hm.nv];exact hv1)).2
    exact hm.val _ this
   ·split
    ·rename_i hk1 hk2 hk
     simp only [limit,if_neg hk1,if_neg hk2,if_pos hk] at hv1
     have ha:=arrAt_mem (m:=m) hv0 (by rw [hm.na];exact hv1)
     have h4:=hm.arr _ ha.2
     exact h4.2 _ (nth_mem (Int.emod_nonneg _ (by decide)) (by rw [h4.1];exact Int.emod_lt_of_pos _ (by decide))).2
    ·split
     ·simp only;split
      ·exact hg 1
      ·exact hg 2
     ·exact bin_range (hg 0) (hg 1)
theorem evs_len_le {m : Mm} {d : Nat} {p : Pg} (ih : ∀ e, shape p d e = true → (evalE m d e).2.length ≤ cnt d e) : ∀ ks : List Ex, (∀ x ∈ ks, shape p d x = true) → (evs m d ks).length ≤ (ks.map (cnt d)).sum
 | [],_=>by simp [evs]
 | a :: r,h=>by
  have h1:=ih a (h a (by simp))
  have h2:=evs_len_le ih r fun x hx=>h x (by simp [hx])
  unfold evs at h2 ⊢
  simp only [List.map_cons,List.flatten_cons,List.length_append,List.sum_cons]
  omega
theorem evalE_len {p : Pg} {m : Mm} : ∀ (d : Nat) (e : Ex), shape p d e = true → (evalE m d e).2.length ≤ cnt d e
 | 0,_,h=>by simp [shape] at h
 | d+1,.mk k v ks,h=>by
  obtain ⟨h1,h2,h3⟩:=shape_succ h
  have:=evs_len_le (fun e he=>evalE_len d e he) ks h2 (m:=m)
  unfold evs at this
  simp only [evalE,cnt]
  split
  ·simp
  ·split
   ·simp
   ·split
    ·simp only [List.length_append,List.length_cons,List.length_nil];omega
    ·split
     ·simp only;omega
     ·simp only;omega
theorem renCs_b0 (r:Nat→Nat) (a:List (List Int)):renCs r (blk0 a)=blk0 a:=renCs_I r _
theorem renCs_b1 (r:Nat→Nat) (a:List (List Int)):renCs r (blk1 a)=blk1 a:=renCs_I r _
theorem CMs_b0 {hT hS:Hp} {r:Nat→Option Nat} {fz:List Nat} (a:List (List Int)):CMs hT r hS fz (blk0 a) (blk0 a)=True:=CMs_I _
theorem CMs_b1 {hT hS:Hp} {r:Nat→Option Nat} {fz:List Nat} (a:List (List Int)):CMs hT r hS fz (blk1 a) (blk1 a)=True:=CMs_I _
theorem trC_snoc (a:List Ev) (e:Ev):trC (a++[e])=trC a++[.v (.int .i64 e.kind),.v (.int .i64 e.value)]:=by rw [trC_app];simp [trC,Ev.cells]
theorem kf_app {a b:List C} (h1:∀ c ∈ a,kf c=true) (h2:∀ c ∈ b,kf c=true):∀ c ∈ a++b,kf c=true:=fun c hc=>(List.mem_append.1 hc).elim (h1 c) (h2 c)
theorem vas_range {p:Pg} {m:Mm} (hm:MemFits p m) {d:Nat} {ks:List Ex} (h:∀ x ∈ ks,shape p d x=true) (i:Nat):0≤(vas m d ks).getD i 0∧(vas m d ks).getD i 0≤255:=by
 unfold vas
 rw [List.getD_eq_getElem?_getD,List.getElem?_map]
 cases hx:ks[i]? with
 | none=>simp
 | some x=>simpa using evalE_range hm d x (h x (List.mem_of_getElem? hx))
theorem vas_get (m:Mm) (d:Nat) (ks:List Ex) (i:Nat) (h:i<ks.length):(vas m d ks)[i]? = some ((vas m d ks).getD i 0):=by
 rw [List.getD_eq_getElem?_getD]
 have:i<(vas m d ks).length:=by rw [vas_len];exact h
 rw [List.getElem?_eq_getElem this];rfl
theorem blk0_get {p:Pg} {m:Mm} (hm:MemFits p m) (h:0<m.arrays.length) (x:Int):(hdr 2 3 m.arrays.length)[0]? = some (.msl 2 1 0 4)∧(blk0 m.arrays)[(x % 4).toNat]? = some (.v (.int .i64 (nth (arrAt m 0) (x % 4)))):=by
 have ha:=arrAt_mem (m:=m) (v:=0) (by omega) (by omega)
 have h4:=hm.arr _ ha.2
 have hx1:=Int.emod_nonneg x (show (4:Int) ≠ 0 by decide)
 have hx2:=Int.emod_lt_of_pos x (show (0:Int)<4 by decide)
 have hn:=(nth_mem (l:=arrAt m 0) hx1 (by rw [h4.1];exact hx2)).1
 refine ⟨?_,?_⟩
 ·unfold hdr;match m.arrays.length,h with | n+1,_=>rfl
 ·unfold blk0
  have e:m.arrays[0]? = some (arrAt m 0):=ha.1
  rw [e,Option.getD_some,List.getElem?_map,hn];rfl
theorem blk1_get {p:Pg} {m:Mm} (hm:MemFits p m) (h:1<m.arrays.length) (x:Int):(hdr 2 3 m.arrays.length)[1]? = some (.msl 3 1 0 4)∧(blk1 m.arrays)[(x % 4).toNat]? = some (.v (.int .i64 (nth (arrAt m 1) (x % 4)))):=by
 have ha:=arrAt_mem (m:=m) (v:=1) (by omega) (by omega)
 have h4:=hm.arr _ ha.2
 have hx1:=Int.emod_nonneg x (show (4:Int) ≠ 0 by decide)
 have hx2:=Int.emod_lt_of_pos x (show (0:Int)<4 by decide)
 have hn:=(nth_mem (l:=arrAt m 1) hx1 (by rw [h4.1];exact hx2)).1
 refine ⟨?_,?_⟩
 ·unfold hdr;match m.arrays.length,h with | n+2,_=>rfl
 ·unfold blk1
  have e:m.arrays[1]? = some (arrAt m 1):=ha.1
  rw [e,Option.getD_some,List.getElem?_map,hn];rfl
def stI (m:Mm) (tr:List Ev):List (Option (List C)):=[some [.msl 2 1 0 m.vals.length,.msl 3 1 0 m.arrays.length,.msl 1 2 0 tr.length],some (trC tr),some (m.vals.map I64),some (hdr 4 5 m.arrays.length),some (blk0 m.arrays),some (blk1 m.arrays)]
def stI' (m:Mm) (tr:List Ev):List (Option (List C)):=[some [.msl 2 1 0 m.vals.length,.msl 3 1 0 m.arrays.length,.msl 6 2 0 tr.length],none,some (m.vals.map I64),some (hdr 4 5 m.arrays.length),some (blk0 m.arrays),some (blk1 m.arrays),some (trC tr)]
theorem RetOb.stI {R : D → List (Option (List C)) → Prop} {m : Mm} {tr : List Ev} {d : D} {hp : Hp} (kt n : Nat) (cs : List C) (hR : R d (stI' m tr)) (hd : kD d) (e0 : hp 0 = some (some [.msl 2 1 0 m.vals.length, .msl 3 1 0 m.arrays.length, .msl kt 2 0 n]))
 (e2:hp 2=some (some (m.vals.map I64))) (e3:hp 3=some (some (hdr 4 5 m.arrays.length))) (e4:hp 4=some (some (blk0 m.arrays))) (e5:hp 5=some (some (blk1 m.arrays))) (ek:hp kt=some (some cs)) (hk:kt=1∨6≤kt) (hcs:cs=trC tr) (hn:n=tr.length):RetOb 6 R d hp:=by
 subst hcs hn
 refine RetOb.ofQ (fun j=>if j=6 then some kt else some j) [] d (CtR.stI' m tr) ⟨DM.kD hd,?_⟩ hR (by simp [CtR.stI'])
 simp [CtR.stI',enumL,hOf,CM,CMs,HpOK,LowOK,upd,CMs_I,CMs_tr,CMs_hdr,CMs_b0,CMs_b1,e0,e2,e3,e4,e5,ek]
 omega
theorem hhp6 {hp : Hp} {r : Nat → Nat} {k0 k1 k2 k3 k4 k5 : Nat} {h0 h1 h2 h3 h4 h5 : Option (List C)} (e0 : hp k0 = some (h0.map (renCs r))) (e1 : hp k1 = some (h1.map (renCs r))) (e2 : hp k2 = some (h2.map (renCs r))) (e3 : hp k3 = some (h3.map (renCs r))) (e4 : hp k4 = some (h4.map (renCs r))) (e5 : hp k5 = some (h5.map (renCs r))) :
 ∀ i' x,[h0,h1,h2,h3,h4,h5][i']? = some x→hp ([k0,k1,k2,k3,k4,k5].getD i' 0)=some (x.map (renCs r)):=by
 intro i' x hx
 match i',hx with
 | 0,hx=>simp only [List.getElem?_cons_zero,Option.some.injEq] at hx;subst hx;exact e0
 | 1,hx=>simp only [List.getElem?_cons_succ,List.getElem?_cons_zero,Option.some.injEq] at hx;subst hx;exact e1
 | 2,hx=>simp only [List.getElem?_cons_succ,List.getElem?_cons_zero,Option.some.injEq] at hx;subst hx;exact e2
 | 3,hx=>simp only [List.getElem?_cons_succ,List.getElem?_cons_zero,Option.some.injEq] at hx;subst hx;exact e3
 | 4,hx=>simp only [List.getElem?_cons_succ,List.getElem?_cons_zero,Option.some.injEq] at hx;subst hx;exact e4
 | 5,hx=>simp only [List.getElem?_cons_succ,List.getElem?_cons_zero,Option.some.injEq] at hx;subst hx;exact e5
 | i' + 6,hx=>simp at hx
theorem event (m : Mm) (k0 v0 : Int) (tr : List Ev) (htr : tr.length + 1 ≤ 1073741824) :
 DC Tryz.prog 104 [.c (.ptr 0 0),DI .i64 k0,DI .i64 v0] (stI m tr) (fun d h=>d = .tup []∧h=stI' m (tr++[⟨k0,v0⟩])):=by
 have hmx:=mx_eq
 have hl:=trC_len tr
 unfold stI
 refine dc_of_go Tryz.func104 rfl (by simp) ?_
 refine drv_sound (n:=100) (rs:=_) Tryz.func104 mo rfl none _ _ ?_
 simp only [go_sem,isI,I64]
 (with_reducible and_intros)<;>try exact sd
 refine RetOb.ofQ (fun j=>if j=6 then some 582 else some j) [] (.tup []) (stI' m (tr++[⟨k0,v0⟩])) ?_ ⟨rfl,rfl⟩ (by simp [stI'])
 simp [stI',enumL,hOf,DM,DMs,CM,CMs,HpOK,LowOK,upd,CMs_I,CMs_tr,CMs_hdr,CMs_b0,CMs_b1,hpL,trC_snoc]
 exact CMs.kf (kf_app (trC_kf _) (by simp [kf]))
theorem evalI (p : Pg) (m : Mm) (hm : MemFits p m) : ∀ (d : Nat) (e : Ex) (tr : List Ev), shape p d e = true → tr.length + cnt d e ≤ 1073741824 → DC Tryz.prog 103 [.c (.ptr 0 0), .agg e.cells] (stI m tr)
 (fun r h=>r=DI .i64 (evalE m d e).1∧h=stI' m (tr++(evalE m d e).2)):=by
 have hmx:=mx_eq
 intro d
 induction d using Nat.strongRecOn with
 | _ d ih =>
  intro e tr hsh htr
  obtain ⟨k,v,ks⟩:=e
  obtain ⟨d',rfl⟩:∃ d',d=d' + 1:=by
   cases d with
   | zero=>simp [shape] at hsh
   | succ d'=>exact ⟨d',rfl⟩
  obtain ⟨h1,h2,h3⟩:=shape_succ hsh
  obtain ⟨hl3,hla,hv0,hv1⟩:=fits_len h1
  generalize hR:(fun (r:D) (h:List (Option (List C)))=>r=DI .i64 (evalE m (d' + 1) (.mk k v ks)).1∧h=stI' m (tr++(evalE m (d' + 1) (.mk k v ks)).2))=R
  have ret:∀ (x:Int) (kt n:Nat) (cs:List C) (tr':List Ev) (hp:Hp),x=(evalE m (d' + 1) (.mk k v ks)).1→tr'=tr++(evalE m (d' + 1) (.mk k v ks)).2→hp 0=some (some [.msl 2 1 0 m.vals.length,.msl 3 1 0 m.arrays.length,.msl kt 2 0 n]) →
   hp 2=some (some (m.vals.map I64))→hp 3=some (some (hdr 4 5 m.arrays.length))→hp 4=some (some (blk0 m.arrays))→hp 5=some (some (blk1 m.arrays))→hp kt=some (some cs)→(kt=1∨6≤kt)→cs=trC tr'→n=tr'.length→RetOb 6 R (DI .i64 x) hp:=by
   rintro x kt n cs tr' hp rfl rfl e0 e2 e3 e4 e5 ek hk hcs hn
   subst hR
   exact RetOb.stI kt n cs ⟨rfl,rfl⟩ rfl e0 e2 e3 e4 e5 ek hk hcs hn
  unfold stI
  refine dc_of_go Tryz.func103 rfl (by simp) ?_
  refine drv_sound (n:=14) (rs:=_) Tryz.func103 mo rfl none _ _ ?_
  simp only [go_sem]
  refine drv_sound (n:=100) (rs:=_) Tryz.func103 mo rfl _ _ _ ?_
  simp only [go_sem]
  refine Go.loopQ (fun i : Nat => [(0, .c (.ptr 0 0)), (3, .c (.ptr 6 0)), (5, .c (.msl 21 1 0 i)), (9, .c (.isl 3 (Ex.cellsL ks))), (10, DI .i64 ks.length), (11, DI .i64 i)])
   (fun i=>[(0,some [.msl 2 1 0 m.vals.length,.msl 3 1 0 m.arrays.length,.msl 20 2 0 (tr++evs m d' (ks.take i)).length]),(1,none),(2,some (m.vals.map I64)),(3,some (hdr 4 5 m.arrays.length)),(4,some (blk0 m.arrays)),(5,some (blk1 m.arrays)),(6,some (Ex.cells (.mk k v ks))),(20,some (trC (tr++evs m d' (ks.take i)))),(21,some ((vas m d' (ks.take i)).map I64))])
   4096 (fun i=>i≤ks.length) (fun i=>ks.length - i) ?_ 0 (fun j=>if j=20 then some 1 else if j=21 then none else some j) [] _ (Nat.zero_le _) ?_
  ·intro i hi again
   refine drv_sound (n:=100) (rs:=_) Tryz.func103 mo rfl none _ _ ?_
   rcases Nat.lt_or_ge i ks.length with hlt | hge
   ·obtain ⟨⟨k',v',ks'⟩,hx⟩:∃ x,ks[i]? = some x:=⟨ks[i],by simp [hlt]⟩
    simp only [go_sem,hx,hlt]
    (with_reducible and_intros)<;>try exact sd
    have hmem:=List.mem_of_getElem? hx
    have hsk:=h2 _ hmem
    have hcnt:(tr++evs m d' (ks.take i)).length+cnt d' (.mk k' v' ks')≤1073741824:=by
     have g1:=evs_len_le (m:=m) (fun e he=>evalE_len d' e he) (ks.take i) (fun x hx=>h2 x (List.mem_of_mem_take hx))
     have g2:=tsum_succ (cnt d') ks i _ hx
     have g3:=tsum_le (cnt d') ks (i+1)
     unfold tsum at g2 g3
     simp only [cnt] at htr
     rw [List.length_append]
     omega
    refine XK.callG [0,20,2,3,4,5] (ih d' (by omega) (.mk k' v' ks') (tr++evs m d' (ks.take i)) hsk hcnt) ok103 (hhp6 (by simp [hOf,upd,renCs,renC,rk0]) (by simp [hOf,upd,renCs_tr]) (by simp [hOf,upd,renCs_I]) (by simp [hOf,upd,renCs_hdr,rk0]) (by simp [hOf,upd,renCs_b0]) (by simp [hOf,upd,renCs_b1])) (hbT ()) (fun d h' ⟨_,e⟩=>by subst e;simp [stI,stI']) ?_
    rintro _ _ ⟨rfl,rfl⟩ _
    unfold stI'
    refine drv_sound (n:=100) (rs:=_) Tryz.func103 mo rfl (some _) _ _ ?_
    simp only [go_sem,hx,hlt,renCs_I,renCs_hdr,renCs_b0,renCs_b1,renCs_tr]
    have hva:=vas_succ m d' ks i _ hx
    have hev:=evs_succ m d' ks i _ hx
    have hvl:(vas m d' (ks.take i)).length=i:=by rw [vas_len,List.length_take];omega
    (with_reducible and_intros)<;>try exact sd
    refine again (i+1) (fun j=>if j=20 then some 4608 else if j=21 then some 4736 else some j) [] _ hlt (by omega) ?_
    simp only [go_sem,TmOK,DM,DMs,CM,CMs,forall_eq,exists_eq_left,Mq,HpOK,LowOK,CMs_I,CMs_hdr,CMs_b0,CMs_b1,CMs_tr,hva,hev]
    simp [CMs_I,CMs_tr,trC_app]
    exact ⟨CMs.kf (kf_app (trC_kf _) (kf_app (trC_kf _) (trC_kf _))),CMs.kf (kf_app (kf_I _) (kf_I [_]))⟩
   ·have hn:¬ i<ks.length:=by omega
    obtain rfl:i=ks.length:=by omega
    have hr0:=vas_range hm h2 0
    have hr1:=vas_range hm h2 1
    have hvx0:=vas_get m d' ks 0
    have hvx1:=vas_get m d' ks 1
    have hvx2:=vas_get m d' ks 2
    have hlen:=evs_len_le (m:=m) (fun e he=>evalE_len d' e he) ks h2
    have hll:(tr++evs m d' ks).length=tr.length+(evs m d' ks).length:=List.length_append
    have htr2:=htr
    simp only [cnt] at htr2
    by_cases hk1:k=1
    ·subst hk1
     have hks:ks=[]:=by simpa [arity] using hla
     subst hks
     simp only [go_sem,hn,List.take_length,Ex.cellsL]
     exact ret _ _ _ _ (tr++evs m d' []) _ (by simp [evalE]) (by simp [evalE,evs]) rfl rfl rfl rfl rfl rfl (by omega) rfl rfl
    by_cases hk2:k=2
    ·subst hk2
     have hks:ks=[]:=by simpa [arity] using hla
     subst hks
     have hx:=(nth_mem (l:=m.vals) hv0 (by rw [hm.nv];exact hv1)).1
     have hvl:v<m.vals.length:=by rw [hm.nv];exact hv1
     simp only [go_sem,hn,List.take_length,Ex.cellsL,hx]
     (with_reducible and_intros)<;>try exact sd
     exact ret _ _ _ _ (tr++evs m d' []) _ (by simp [evalE]) (by simp [evalE,evs]) rfl rfl rfl rfl rfl rfl (by omega) rfl rfl
    by_cases hk3:k=3
    ·subst hk3
     have hl1:ks.length=1:=by simp [arity] at hla;omega
     have hvx0:=hvx0 (by omega)
     simp only [limit] at hv1
     have hna:=hm.na
     have hv2:v=0∨v=1:=by have:=hm.na2;simp at hv1;omega
     rcases hv2 with hv2 | hv2
     ·subst hv2
      have hnap:0<m.arrays.length:=by simp at hv1;omega
      have ha:=arrAt_mem (m:=m) (v:=0) (by omega) (by omega)
      have hh:(hdr 4 5 m.arrays.length)[0]? = some (.msl 4 1 0 4):=by
       unfold hdr;match m.arrays.length,hnap with | n+1,_=>rfl
      have hb:=(blk0_get hm hnap ((vas m d' ks).getD 0 0)).2
      have hx1:=Int.emod_nonneg ((vas m d' ks).getD 0 0) (show (4:Int) ≠ 0 by decide)
      have hx2:=Int.emod_lt_of_pos ((vas m d' ks).getD 0 0) (show (0:Int)<4 by decide)
      have hev:(evalE m (d' + 1) (.mk 3 0 ks))=(nth (arrAt m 0) ((vas m d' ks).getD 0 0 % 4),evs m d' ks++[⟨2,0 * 4+(vas m d' ks).getD 0 0 % 4⟩]):=rfl
      simp only [Int.zero_mul,Int.zero_add] at hev
      simp only [go_sem,hn,List.take_length,hvx0,hh,hb]
      (with_reducible and_intros)<;>try exact sd
      refine XK.plain (address 0 ((vas m d' ks).getD 0 0) (by omega) hr0) ok105 ?_ (hbT ()) (fun _=>by kernel_rfl) (hm:=by simp only [wkey];decide)
      refine drv_sound (n:=100) (rs:=_) Tryz.func103 mo rfl (some _) _ _ ?_
      simp only [go_sem,hvx0,hh,hb]
      (with_reducible and_intros)<;>try exact sd
      refine XK.callG [0,20,2,3,4,5] (event m 2 ((vas m d' ks).getD 0 0 % 4) (tr++evs m d' ks) (by omega)) ok104 (hhp6 (by simp [hOf,upd,renCs,renC,rk0]) (by simp [hOf,upd,renCs_tr]) (by simp [hOf,upd,renCs_I]) (by simp [hOf,upd,renCs_hdr,rk0]) (by simp [hOf,upd,renCs_b0]) (by simp [hOf,upd,renCs_b1])) (hbT ()) (fun d h' ⟨_,e⟩=>by subst e;simp [stI,stI']) ?_ (fun _=>⟨by kernel_rfl,_,_,⟨rfl,rfl⟩,by simp [stI,stI']⟩)
      rintro _ _ ⟨rfl,rfl⟩ _
      unfold stI'
      refine drv_sound (n:=100) (rs:=_) Tryz.func103 mo rfl (some _) _ _ ?_
      simp only [go_sem,hvx0,hh,hb,renCs_I,renCs_hdr,renCs_b0,renCs_b1,renCs_tr]
      (with_reducible and_intros)<;>try exact sd
      refine ret _ _ _ _ (tr++evs m d' ks++[⟨2,(vas m d' ks).getD 0 0 % 4⟩]) _ (by rw [hev]) (by rw [hev,List.append_assoc]) rfl rfl rfl rfl rfl rfl (by omega) rfl rfl
     ·subst hv2
      have hnap:1<m.arrays.length:=by simp at hv1;omega
      have ha:=arrAt_mem (m:=m) (v:=1) (by omega) (by omega)
      have hh:(hdr 4 5 m.arrays.length)[1]? = some (.msl 5 1 0 4):=by
       unfold hdr;match m.arrays.length,hnap with | n+2,_=>rfl
      have hb:=(blk1_get hm hnap ((vas m d' ks).getD 0 0)).2
      have hx1:=Int.emod_nonneg ((vas m d' ks).getD 0 0) (show (4:Int) ≠ 0 by decide)
      have hx2:=Int.emod_lt_of_pos ((vas m d' ks).getD 0 0) (show (0:Int)<4 by decide)
      have hev:(evalE m (d' + 1) (.mk 3 1 ks))=(nth (arrAt m 1) ((vas m d' ks).getD 0 0 % 4),evs m d' ks++[⟨2,1 * 4+(vas m d' ks).getD 0 0 % 4⟩]):=rfl
      simp only [go_sem,hn,List.take_length,hvx0,hh,hb]
      (with_reducible and_intros)<;>try exact sd
      refine XK.plain (address 1 ((vas m d' ks).getD 0 0) (by omega) hr0) ok105 ?_ (hbT ()) (fun _=>by kernel_rfl) (hm:=by simp only [wkey];decide)
      refine drv_sound (n:=100) (rs:=_) Tryz.func103 mo rfl (some _) _ _ ?_
      simp only [go_sem,hvx0,hh,hb]
      (with_reducible and_intros)<;>try exact sd
      refine XK.callG [0,20,2,3,4,5] (event m 2 (1 * 4+(vas m d' ks).getD 0 0 % 4) (tr++evs m d' ks) (by omega)) ok104 (hhp6 (by simp [hOf,upd,renCs,renC,rk0]) (by simp [hOf,upd,renCs_tr]) (by simp [hOf,upd,renCs_I]) (by simp [hOf,upd,renCs_hdr,rk0]) (by simp [hOf,upd,renCs_b0]) (by simp [hOf,upd,renCs_b1])) (hbT ()) (fun d h' ⟨_,e⟩=>by subst e;simp [stI,stI']) ?_ (fun _=>⟨by kernel_rfl,_,_,⟨rfl,rfl⟩,by simp [stI,stI']⟩)
      rintro _ _ ⟨rfl,rfl⟩ _
      unfold stI'
      refine drv_sound (n:=100) (rs:=_) Tryz.func103 mo rfl (some _) _ _ ?_
      simp only [go_sem,hvx0,hh,hb,renCs_I,renCs_hdr,renCs_b0,renCs_b1,renCs_tr]
      (with_reducible and_intros)<;>try exact sd
      refine ret _ _ _ _ (tr++evs m d' ks++[⟨2,1 * 4+(vas m d' ks).getD 0 0 % 4⟩]) _ (by rw [hev]) (by rw [hev,List.append_assoc]) rfl rfl rfl rfl rfl rfl (by omega) rfl rfl
    have e1:(k == 1)=false:=by simp [hk1]
    have e2:(k == 2)=false:=by simp [hk2]
    have e3:(k == 3)=false:=by simp [hk3]
    by_cases hk11:k=11
    ·subst hk11
     have hl1:ks.length=3:=by simp [arity] at hla;omega
     have hvx0:=hvx0 (by omega)
     have hvx1:=hvx1 (by omega)
     have hvx2:=hvx2 (by omega)
     have hev:(evalE m (d' + 1) (.mk 11 v ks))=(if (vas m d' ks).getD 0 0 ≠ 0 then (vas m d' ks).getD 1 0 else (vas m d' ks).getD 2 0,evs m d' ks):=rfl
     simp only [go_sem,hn,List.take_length,hvx0,hvx1,hvx2]
     refine ⟨by omega,fun h0=>⟨by omega,ret _ _ _ _ (tr++evs m d' ks) _ (by rw [hev];exact (if_pos h0).symm) (by rw [hev]) rfl rfl rfl rfl rfl rfl (by omega) rfl rfl⟩,fun h0=>⟨by omega,ret _ _ _ _ (tr++evs m d' ks) _ (by rw [hev];exact (if_neg fun h=>h h0).symm) (by rw [hev]) rfl rfl rfl rfl rfl rfl (by omega) rfl rfl⟩⟩
    ·have e11:(k == 11)=false:=by simp [hk11]
     have hl1:ks.length=2:=by
      unfold arity at hla
      repeat' split at hla
      all_goals omega
     have hvx0:=hvx0 (by omega)
     have hvx1:=hvx1 (by omega)
     have hev:(evalE m (d' + 1) (.mk k v ks))=(bin k ((vas m d' ks).getD 0 0) ((vas m d' ks).getD 1 0),evs m d' ks):=by
      simp only [evalE,if_neg hk1,if_neg hk2,if_neg hk3,if_neg hk11];rfl
     simp only [go_sem,hn,List.take_length,hk1,hk2,hk3,hk11,e1,e2,e3,e11,hvx0,hvx1]
     (with_reducible and_intros)<;>try exact sd
     refine XK.plain (operate k _ _ hr0 hr1) ok147 ?_ (hbT ()) (fun _=>by kernel_rfl) (hm:=by simp only [wkey];decide)
     refine drv_sound (n:=100) (rs:=_) Tryz.func103 mo rfl (some _) _ _ ?_
     simp only [go_sem]
     (with_reducible and_intros)<;>try exact sd
     exact ret _ _ _ _ (tr++evs m d' ks) _ (by rw [hev]) (by rw [hev]) rfl rfl rfl rfl rfl rfl (by omega) rfl rfl
  ·simp only [go_sem,TmOK,DM,DMs,CM,CMs,forall_eq,exists_eq_left,Mq,HpOK,LowOK,CMs_I,CMs_hdr,CMs_b0,CMs_b1,CMs_tr]
   simp [evs,vas,CMs_tr,CMs]
end Go.Proofs.YtbknljofedfpjaaGreat.CtR
