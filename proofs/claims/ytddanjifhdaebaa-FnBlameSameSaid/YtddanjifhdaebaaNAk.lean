/- Contracts of functions of the program, one behind the other, as plain data: what each call returns and which blocks it leaves. -/
import Derived.Test.YtddanjifhdaebaaNFacts
import Derived.Test.YtddanjifhdaebaaNAj
import Derived.Test.YtddanjifhdaebaaNAi
set_option linter.unusedVariables false
set_option linter.unusedSimpArgs false
set_option linter.unusedSectionVars false
set_option maxHeartbeats 16000000
set_option maxRecDepth 100000
namespace Go.Proofs.Ytddanjifhdaebaa.CtR
open Go Go.CT CtF
variable [Yn]
theorem l2Both (p : Pg) (hl : p.vars.length ≤ mx) (hl2 : p.arrays.length ≤ mx) : ∀ d : Nat, d ≤ 5 → ∀ l, lsize d l ≤ 1099511627776 → DC Try.prog 140 [.agg p.cells, .c (.isl 11 (St1.cellsL l)), DI .i64 d] [] (fun r h => r = DB (l.all (stmtOK p d)) ∧ h = [])
 | 0,h5,l,h=>l2BlockOf p 0 h5 (fun s _=>l2Stmt0 p s) l h
 | d+1,h5,l,h=>l2BlockOf p (d+1) h5 (fun s hs=>l2StmtOf p hl hl2 d h5 (fun l' h'=>l2Both p hl hl2 d (by omega) l' h') s hs) l h
def subs (d:Nat) (s:St1):Nat:=lsize d s.body+lsize d s.els
theorem tsize_subs (d:Nat) (s:St1):tsize (d+1) s=1+subs d s:=by cases s;simp [tsize,subs,lsize,St1.body,St1.els];omega
theorem lsize_subs (d:Nat) (l:List St1):lsize (d+1) l=l.length+(l.map (subs d)).sum:=by
 unfold lsize
 induction l with
 | nil=>rfl
 | cons a r ih=>simp only [List.map_cons,List.sum_cons,List.length_cons,tsize_subs,ih];omega
theorem lsize_zero (l:List St1):lsize 0 l=0:=by
 unfold lsize
 induction l with
 | nil=>rfl
 | cons a r ih=>simp only [List.map_cons,List.sum_cons,ih];rfl
theorem subs_zero (s:St1):subs 0 s=0:=by simp [subs,lsize_zero]
theorem tsum_subs_zero (l:List St1) (i:Nat):tsum (subs 0) l i=0:=by
 unfold tsum
 induction (l.take i) with
 | nil=>rfl
 | cons a r ih=>rw [List.map_cons,List.sum_cons,subs_zero,ih]
theorem l2Size:∀ (d:Nat),d+1≤5→∀ l,lsize (d+1) l≤1099511627776→DC Try.prog 141 [.c (.isl 11 (St1.cellsL l)),DI .i64 (d+1:Nat)] [] (fun r h=>r=DI .i64 (lsize (d+1) l)∧h=[]):=by
 intro d
 induction d using Nat.strongRecOn with
 | _ d ih =>
  intro hd l hl
  have hls:=lsize_subs d l
  refine dc_of_go Try.func141 rfl (by simp) ?_
  refine drv_sound (n:=100) (rs:=_) Try.func141 mo rfl none _ _ ?_
  simp only [go_sem]
  refine Go.loopL (fun i:Nat=>[(0,.c (.isl 11 (St1.cellsL l))),(1,DI .i64 (d+1:Nat)),(5,DI .i64 (l.length+tsum (subs d) l i:Nat)),(6,DI .i64 i)]) (fun _=>[]) 1024 (fun i=>i≤l.length) (fun i=>l.length - i) ?_ 0 some [] _ (Nat.zero_le _) ?_
  ·intro i hi again
   have ht:=tsum_le (subs d) l i
   have ret:∀ (n:Nat) (hp:Hp),n=lsize (d+1) l→RetOb 0 (fun r h=>r=DI .i64 (lsize (d+1) l)∧h=[]) (DI .i64 n) hp:=fun n hp h=>RetOb.plain (d:=DI .i64 _) ⟨by rw [h],rfl⟩ rfl
   refine drv_sound (n:=100) (rs:=_) Try.func141 mo rfl none _ _ ?_
   rcases Nat.lt_or_ge i l.length with hlt | hge
   ·cases d with
    | zero =>
     simp only [go_sem,hlt,Int.natCast_zero]
     refine ret _ _ ?_
     rw [hls,tsum_subs_zero]
     rw [← tsum_all (subs 0) l (Nat.le_refl _),tsum_subs_zero]
    | succ d =>
     obtain ⟨⟨k,t,⟨ik,iv,iks⟩,⟨vk,vv,vks⟩,c,b,e⟩,hx⟩:∃ x,l[i]? = some x:=⟨l[i],by simp [hlt]⟩
     have hd1:(1<((d:Int)+1)+1)=True:=eq_true (by omega)
     have hs:=tsum_succ (subs (d+1)) l i _ hx
     have ht2:=tsum_le (subs (d+1)) l (i+1)
     simp only [subs,St1.body,St1.els] at hs
     simp only [go_sem,hx,hlt,hd1]
     (with_reducible and_intros)<;>try exact sd
     refine XK.plain (ih d (by omega) (by omega) b (by omega)) ok141 ?_ (hbT ()) (fun _=>by kernel_rfl)
     refine drv_sound (n:=100) (rs:=_) Try.func141 mo rfl (some _) _ _ ?_
     simp only [go_sem,hx]
     (with_reducible and_intros)<;>try exact sd
     refine XK.plain (ih d (by omega) (by omega) e (by omega)) ok141 ?_ (hbT ()) (fun _=>by kernel_rfl)
     refine drv_sound (n:=100) (rs:=_) Try.func141 mo rfl (some _) _ _ ?_
     simp only [go_sem,hx]
     (with_reducible and_intros)<;>try exact sd
     refine again (i+1) some [] _ (by omega) (by omega) (Mt.slots ?_)
     simp only [go_sem,TmOK,DM,DMs,CM,CMs,forall_eq,exists_eq_left,hs]
     congr 1;omega
   ·have hn:¬ i<l.length:=by omega
    simp only [go_sem,hn]
    refine ret _ _ ?_
    rw [hls,tsum_all _ _ hge]
  ·refine Mt.slots ?_
   simp only [go_sem,TmOK,DM,DMs,CM,CMs,forall_eq,exists_eq_left]
   rfl
def progOK (p:Pg):Bool:=headsOK p.vars p.arrays && p.body.all (stmtOK p 5) && decide ((lsize 5 p.body:Int)≤60)
theorem programValidS (p:Pg) (hl:p.vars.length≤mx) (hl2:p.arrays.length≤mx) (hb:lsize 5 p.body≤1099511627776):DC Try.prog 82 [.agg p.cells] [] (fun r h=>r=DB (progOK p)∧h=[]):=by
 obtain ⟨vs,ar,bd⟩:=p
 refine dc_of_go Try.func82 rfl (by simp) ?_
 refine drv_sound (n:=100) (rs:=_) Try.func82 mo rfl none _ _ ?_
 simp only [go_sem]
 refine XK.plain (l2Heads ⟨vs,ar,bd⟩ hl hl2) ok139 ?_ (hbT ())
 refine drv_sound (n:=100) (rs:=_) Try.func82 mo rfl (some _) _ _ ?_
 simp only [go_sem]
 refine XK.gplain 2 true (headsOK vs ar) (fun _=>l2Both ⟨vs,ar,bd⟩ hl hl2 5 (by omega) bd hb) ok140 ?_ (hbT ()) (hok:=by intro hx;simp [okP,getCall,Call.operands,evT,upd,peelB,DB,DI,cst,one] at hx ⊢;first | done | exact hx | (simp_all;done) | omega)
 refine drv_sound (n:=100) (rs:=_) Try.func82 mo rfl (some _) _ _ ?_
 simp only [go_sem]
 refine XK.gplain 8 true (headsOK vs ar && bd.all (stmtOK ⟨vs,ar,bd⟩ 5)) (fun _=>l2Size 4 (by omega) bd hb) ok141 ?_ (hbT ()) (hok:=by intro hx;simp [okP,getCall,Call.operands,evT,upd,peelB,DB,DI,cst,one] at hx ⊢;first | done | exact hx | (simp_all;done) | omega)
 refine drv_sound (n:=100) (rs:=_) Try.func82 mo rfl (some _) _ _ ?_
 simp only [go_sem]
 refine RetOb.plain (d:=DB _) ⟨?_,rfl⟩ rfl
 simp [DB,progOK]
def okB (p:Pg) (d:Nat) (l:List St1) (c:Nat):Bool:=l.all (stmtOK p d) && decide (c+lsize d l≤60)
theorem stmtOK_pos {p:Pg} {d:Nat} {s:St1} (h:stmtOK p d s=true):1≤tsize d s:=by
 cases d with
 | zero=>simp [stmtOK] at h
 | succ d=>exact tsize_pos s
def arrOK (a:List Int):Bool:=decide ((a.length:Int)=4) && vals01 a
def memOK (vs ar:List Int) (m:Mm):Bool:=decide ((m.vals.length:Int)=vs.length) && decide ((m.arrays.length:Int)=ar.length) && vals01 m.vals && m.arrays.all arrOK
theorem isMemory1 (a:List Int):DC Try.prog 192 [ints a] [] (fun r h=>r=DB (!arrOK a)∧h=[]):=by
 have hmx:=mx_eq
 refine dc_of_go Try.func192 rfl (by simp) ?_
 refine drv_sound (n:=100) (rs:=_) Try.func192 mo rfl none _ _ ?_
 simp only [go_sem,ints]
 refine XK.gplain 3 false (!((a.length:Int) != 4)) (fun h=>areValues a (by simp at h;omega)) ok190 ?_ (hok:=by intro hx;simp [okP,getCall,Call.operands,evT,upd,peelB,DB,DI,cst,one] at hx ⊢;first | done | exact hx | (simp_all;done) | omega)
 refine drv_sound (n:=100) (rs:=_) Try.func192 mo rfl (some _) _ _ ?_
 simp only [go_sem,ints]
 refine RetOb.plain (d:=DB _) ⟨?_,rfl⟩ rfl
 simp only [DB];congr 3;unfold arrOK;grind
def idxA (q : List Int → Bool) : List (List Int) → Int → Int
 | [],_ => -1
 | x :: r,i=>if q x then i else idxA q r (i+1)
theorem idxA_any (q : List Int → Bool) : ∀ (xs : List (List Int)) (i : Int), 0 ≤ i → decide (0 ≤ idxA q xs i) = xs.any q
 | [],i,_=>by simp [idxA]
 | x :: r,i,h=>by
  unfold idxA
  by_cases hq:q x=true
  ·simp [hq,h]
  ·simp only [hq,Bool.false_eq_true,if_false,List.any_cons,Bool.not_eq_true] at *
   rw [idxA_any q r (i+1) (by omega)];simp [hq]
theorem indexFuncA (g : Nat) (q : List Int → Bool) (xs : List (List Int)) (hl : xs.length ≤ mx) (hok : fnOK Try.prog g = true) (hg : ∀ n ∈ xs, DC Try.prog g [ints n] [] (fun d h => d = DB (q n) ∧ h = [])) :
 DC Try.prog 217 [.c (.isl 1 (xs.map fun a=>[isI a])),.c (.clo g [])] [] (fun d h=>d=DI .i64 (idxA q xs 0)∧h=[]):=by
 have hmx:=mx_eq
 refine dc_of_go Try.func217 rfl (by simp) ?_
 refine drv_sound (n:=100) (rs:=_) Try.func217 mo rfl none _ _ ?_
 simp only [go_sem,isI,I64]
 refine Go.loopL (fun i:Nat=>[(0,.c (.isl 1 (xs.map fun a=>[isI a]))),(1,.c (.clo g [])),(7,DI .i64 xs.length),(8,DI .i64 i)]) (fun _=>[]) 1024 (fun i=>i≤xs.length∧idxA q (xs.drop i) i=idxA q xs 0) (fun i=>xs.length - i) ?_ 0 some [] _ ⟨Nat.zero_le _,rfl⟩ ?_
 ·intro i hi again
  refine drv_sound (n:=100) (rs:=_) Try.func217 mo rfl none _ _ ?_
  rcases Nat.lt_or_ge i xs.length with hlt | hge
  ·obtain ⟨x,hx⟩:∃ x,xs[i]? = some x:=⟨xs[i],by simp [hlt]⟩
   have hmem:x ∈ xs:=List.mem_of_getElem? hx
   have hdrop:xs.drop i=x :: xs.drop (i+1):=by
    obtain ⟨_,e⟩:=List.getElem?_eq_some_iff.1 hx
    rw [List.drop_eq_getElem_cons hlt,e]
   have hI:=hi.2
   rw [hdrop] at hI
   simp only [go_sem,isI,I64,hx,hlt]
   refine XK.plain (hg x hmem) hok ?_
   refine drv_sound (n:=100) (rs:=_) Try.func217 mo rfl (some _) _ _ ?_
   simp only [go_sem,isI,I64]
   refine ⟨fun hq=>?_,fun hq=>⟨by simp only [InK];omega,?_⟩⟩
   ·refine RetOb.plain (d:=DI .i64 _) ⟨?_,rfl⟩ rfl
    rw [← hI];simp [idxA,hq,DI]
   ·refine again (i+1) some [] _ ⟨by omega,?_⟩ (by omega) (Mt.slots ?_)
    ·rw [← hI];simp [idxA,hq]
    ·simp only [go_sem,TmOK,DM,DMs,CM,CMs,forall_eq,exists_eq_left,isI,I64]
  ·have hn:¬ i<xs.length:=by omega
   simp only [go_sem,isI,I64,hn]
   refine RetOb.plain (d:=DI .i64 _) ⟨?_,rfl⟩ rfl
   rw [← hi.2,List.drop_of_length_le hge];rfl
 ·refine Mt.slots ?_
  simp only [go_sem,TmOK,DM,DMs,CM,CMs,forall_eq,exists_eq_left,isI,I64]
theorem containsFuncA (g : Nat) (q : List Int → Bool) (xs : List (List Int)) (hl : xs.length ≤ mx) (hok : fnOK Try.prog g = true) (hg : ∀ n ∈ xs, DC Try.prog g [ints n] [] (fun d h => d = DB (q n) ∧ h = [])) :
 DC Try.prog 191 [.c (.isl 1 (xs.map fun a=>[isI a])),.c (.clo g [])] [] (fun d h=>d=DB (xs.any q)∧h=[]):=by
 refine dc_of_go Try.func191 rfl (by simp) ?_
 refine drv_sound (n:=100) (rs:=_) Try.func191 mo rfl none _ _ ?_
 simp only [go_sem,isI,I64]
 refine XK.plain (indexFuncA g q xs hl hok hg) ok217 ?_
 refine drv_sound (n:=100) (rs:=_) Try.func191 mo rfl (some _) _ _ ?_
 simp only [go_sem,isI,I64]
 refine RetOb.plain (d:=DB _) ⟨?_,rfl⟩ rfl
 simp only [DB];rw [idxA_any q xs 0 (by omega)]
theorem isMemory (vs ar:List Int) (m:Mm) (hl:vs.length≤mx) (hl2:ar.length≤mx):DC Try.prog 167 [ints vs,ints ar,.agg m.cells] [] (fun r h=>r=DB (memOK vs ar m)∧h=[]):=by
 obtain ⟨va,arr⟩:=m
 have hmx:=mx_eq
 refine dc_of_go Try.func167 rfl (by simp) ?_
 refine drv_sound (n:=100) (rs:=_) Try.func167 mo rfl none _ _ ?_
 simp only [go_sem,ints,Mm.cells,isI,I64]
 refine XK.gplain 14 false (!(((va.length:Int) != vs.length) || ((arr.length:Int) != ar.length))) (fun h=>areValues va (by simp at h;omega)) ok190 ?_ (hbT ()) (hok:=by intro hx;simp [okP,getCall,Call.operands,evT,upd,peelB,DB,DI,cst,one] at hx ⊢;first | done | exact hx | (simp_all;done) | omega)
 refine drv_sound (n:=100) (rs:=_) Try.func167 mo rfl (some _) _ _ ?_
 simp only [go_sem,ints,isI,I64]
 refine ⟨fun hno=>RetOb.plain (d:=DB false) ⟨?_,rfl⟩ rfl,fun hyes=>?_⟩
 ·simp only [DB];congr 3;unfold memOK;grind
 ·refine XK.plain (containsFuncA 192 (fun a => !arrOK a) arr (by omega) ok192 fun a _=>isMemory1 a) ok191 ?_ (hbT ())
  refine drv_sound (n:=100) (rs:=_) Try.func167 mo rfl (some _) _ _ ?_
  simp only [go_sem,ints,isI,I64]
  refine RetOb.plain (d:=DB _) ⟨?_,rfl⟩ rfl
  simp only [DB];congr 3;unfold memOK;rw [List.all_eq_not_any_not];grind
theorem l3Fits (p:Pg) (m:Mm) (hl:p.vars.length≤mx) (hl2:p.arrays.length≤mx):DC Try.prog 70 [.agg p.cells,.agg m.cells] [] (fun r h=>r=DB (memOK p.vars p.arrays m)∧h=[]):=by
 obtain ⟨vs,ar,bd⟩:=p
 obtain ⟨va,arr⟩:=m
 have hl:vs.length≤mx:=hl
 have hl2:ar.length≤mx:=hl2
 have hmx:=mx_eq
 generalize hB:memOK _ _ _=B
 unfold memOK at hB
 dsimp only at hB
 have ret:∀ (b:Bool) (hp:Hp),b=B→RetOb 0 (fun r h=>r=DB B∧h=[]) (DB b) hp:=fun b hp h=>RetOb.plain (d:=DB _) ⟨by rw [h],rfl⟩ rfl
 refine dc_of_go Try.func70 rfl (by simp) ?_
 refine drv_sound (n:=100) (rs:=_) Try.func70 mo rfl none _ _ ?_
 simp only [go_sem,Mm.cells]
 refine XK.gplain 16 false (!(((va.length:Int) != vs.length) || ((arr.length:Int) != ar.length))) (fun h=>l3Values va (by simp at h;omega)) ok130 ?_ (hbT ()) (hok:=by intro hx;simp [okP,getCall,Call.operands,evT,upd,peelB,DB,DI,cst,one] at hx ⊢;first | done | exact hx | (simp_all;done) | omega)
 refine drv_sound (n:=100) (rs:=_) Try.func70 mo rfl (some _) _ _ ?_
 simp only [go_sem]
 refine ⟨fun hno=>ret _ _ ?_,fun hyes=>?_⟩
 ·rw [← hB];grind
 have hBB:B=arr.all arrOK:=by rw [← hB];grind
 have inv:∀ (tl:List (Nat × D)) (S:Ms),TmOK (hOf [(64,some (Mm.cells ⟨va,arr⟩))]) some S.hp [] S.tm tl→S.hp 64=some (some (Mm.cells ⟨va,arr⟩))→Mt 0 some [] tl [(64,some (Mm.cells ⟨va,arr⟩))] S :=
  fun tl S h1 h3=>Mt.one h1 (by simp) h3 (by simp [kf,Mm.cells,isI])
 refine Go.loopL (fun i:Nat=>[(3,.c (.ptr 64 0)),(5,DI .i64 i)]) (fun _=>[(64,some (Mm.cells ⟨va,arr⟩))]) 4096 (fun i=>i≤arr.length∧B=(arr.drop i).all arrOK) (fun i=>arr.length - i) ?_ 0 some [] _ ⟨Nat.zero_le _,hBB⟩ ?_
 ·intro i hi again
  refine drv_sound (n:=100) (rs:=_) Try.func70 mo rfl none _ _ ?_
  rcases Nat.lt_or_ge i arr.length with hlt | hge
  ·obtain ⟨x,hx⟩:∃ x,arr[i]? = some x:=⟨arr[i],by simp [hlt]⟩
   have hI:=hi.2
   obtain ⟨_,he⟩:=List.getElem?_eq_some_iff.1 hx
   rw [List.drop_eq_getElem_cons hlt,he,List.all_cons] at hI
   simp only [go_sem,Mm.cells,hx,hlt]
   refine XK.gplain 7 false (!((x.length:Int) != 4)) (fun h=>l3Values x (by simp at h;omega)) ok130 ?_ (hbT ()) (hok:=by intro hx;simp [okP,getCall,Call.operands,evT,upd,peelB,DB,DI,cst,one] at hx ⊢;first | done | exact hx | (simp_all;done) | omega)
   refine drv_sound (n:=100) (rs:=_) Try.func70 mo rfl (some _) _ _ ?_
   simp only [go_sem,Mm.cells]
   refine ⟨fun hno=>ret _ _ ?_,fun hyes=>⟨by simp only [InK];omega,?_⟩⟩
   ·rw [hI];unfold arrOK;grind
   ·refine again (i+1) some [] _ ⟨by omega,?_⟩ (by omega) (inv _ _ ?_ (by rfl))
    ·rw [hI];unfold arrOK;grind
    ·simp only [go_sem,TmOK,DM,DMs,CM,CMs,forall_eq,exists_eq_left,Mm.cells]
  ·have hn:¬ i<arr.length:=by omega
   simp only [go_sem,Mm.cells,hn]
   refine ret _ _ ?_
   rw [hi.2,List.drop_of_length_le hge];rfl
 ·refine inv _ _ ?_ (by rfl)
  simp only [go_sem,TmOK,DM,DMs,CM,CMs,forall_eq,exists_eq_left,Mm.cells]
theorem kf_I (xs:List Int):∀ c ∈ xs.map I64,kf c=true:=by
 intro c hc;obtain ⟨x,_,rfl⟩:=List.mem_map.1 hc;rfl
theorem kf_A (xs:List (List Int)):∀ c ∈ xs.map isI,kf c=true:=by
 intro c hc;obtain ⟨x,_,rfl⟩:=List.mem_map.1 hc;rfl
theorem flat_I (xs:List Int):(xs.map fun n=>[I64 n]).flatten=xs.map I64:=flat1 _ _
theorem flat_A (xs:List (List Int)):(xs.map fun n=>[isI n]).flatten=xs.map isI:=flat1 _ _
theorem RetOb.new1 {R:D→List (Option (List C))→Prop} {sz n k:Nat} {cs:List C} {hp:Hp} (hR:R (.c (.msl 0 sz 0 n)) [some cs]) (hb:hp k=some (some cs)) (hkf:∀ c ∈ cs,kf c=true):RetOb 0 R (.c (.msl k sz 0 n)) hp :=
 RetOb.of (fun j=>if j=0 then some k else none) [] (.c (.msl 0 sz 0 n)) [some cs] (subH_one rfl hb hkf) (by simp [DM,CM,hpL]) hR (by simp)
theorem RetOb.newNil {R:D→List (Option (List C))→Prop} {sz:Nat} {hp:Hp} (hR:R (.c (.msl 0 sz 0 0)) [some []]):RetOb 0 R (.c (.v (.slice none 0 0))) hp :=
 RetOb.of (fun j=>none) [] (.c (.msl 0 sz 0 0)) [some []] ⟨fun k cs h=>by
  match k with
  | 0=>simp [hpL] at h;exact .inr ⟨rfl,h⟩
  | k+1=>simp [hpL] at h,fun k k' cs cs' j _ _ h=>by simp at h,fun k h=>by omega⟩ (by simp [DM,CM,hpL]) hR (by simp)
theorem cloneI (xs:List Int) (hl:xs.length≤1000000):DC Try.prog 98 [ints xs] [] (fun d h=>d = .c (.msl 0 1 0 xs.length)∧h=[some (xs.map I64)]):=by
 have hmx:=mx_eq
 cases xs with
 | nil =>
  refine DC.isl0 fun a c=>?_
  refine dc_of_go Try.func98 rfl (by simp) ?_
  refine drv_sound (n:=100) (rs:=_) Try.func98 mo rfl none _ _ ?_
  cases a with
  | none =>
   simp only [go_sem,ints,isI,I64]
   exact RetOb.newNil ⟨rfl,rfl⟩
  | some a =>
   simp only [go_sem,ints,isI,I64]
   refine ⟨fun k e=>by cases e;rfl,RetOb.new1 ⟨rfl,rfl⟩ (upd_same _ _ _) (by simp)⟩
 | cons a r =>
  have hr:r.length+1≤1000000:=hl
  have hf:=congrArg List.length (flat_I (a :: r))
  simp only [List.map_cons,List.length_cons,List.length_map,isI,I64] at hf
  refine dc_of_go Try.func98 rfl (by simp) ?_
  refine drv_sound (n:=100) (rs:=_) Try.func98 mo rfl none _ _ ?_
  simp only [go_sem,ints,isI,I64]
  refine ⟨⟨fun k e=>by cases e;rfl,by first | exact hf | simpa using hf,by omega,by omega⟩,RetOb.new1 ⟨rfl,rfl⟩ ?_ (kf_I (a :: r))⟩
  rw [← flat_I]
  exact upd_same _ _ _
theorem cloneA (xs:List (List Int)) (hl:xs.length≤1000000):DC Try.prog 168 [.c (.isl 1 (xs.map fun a=>[isI a]))] [] (fun d h=>d = .c (.msl 0 1 0 xs.length)∧h=[some (xs.map isI)]):=by
 have hmx:=mx_eq
 cases xs with
 | nil =>
  refine DC.isl0 fun a c=>?_
  refine dc_of_go Try.func168 rfl (by simp) ?_
  refine drv_sound (n:=100) (rs:=_) Try.func168 mo rfl none _ _ ?_
  cases a with
  | none =>
   simp only [go_sem,ints,isI,I64]
   exact RetOb.newNil ⟨rfl,rfl⟩
  | some a =>
   simp only [go_sem,ints,isI,I64]
   refine ⟨fun k e=>by cases e;rfl,RetOb.new1 ⟨rfl,rfl⟩ (upd_same _ _ _) (by simp)⟩
 | cons a r =>
  have hr:r.length+1≤1000000:=hl
  have hf:=congrArg List.length (flat_A (a :: r))
  simp only [List.map_cons,List.length_cons,List.length_map,isI,I64] at hf
  refine dc_of_go Try.func168 rfl (by simp) ?_
  refine drv_sound (n:=100) (rs:=_) Try.func168 mo rfl none _ _ ?_
  simp only [go_sem,ints,isI,I64]
  refine ⟨⟨fun k e=>by cases e;rfl,by first | exact hf | simpa using hf,by omega,by omega⟩,RetOb.new1 ⟨rfl,rfl⟩ ?_ (kf_A (a :: r))⟩
  rw [← flat_A]
  exact upd_same _ _ _
def hdr (b b' na:Nat):List C:=[C.msl b 1 0 4,.msl b' 1 0 4].take na
def blk0 (arr:List (List Int)):List C:=((arr[0]?).getD []).map I64
def blk1 (arr:List (List Int)):List C:=((arr[1]?).getD []).map I64
def memB (b:Nat) (m:Mm):List (Option (List C)):=[some (m.vals.map I64),some (hdr b (b+1) m.arrays.length),some (blk0 m.arrays),some (blk1 m.arrays)]
theorem CMs_I {hT hS:Hp} {r:Nat→Option Nat} {fz:List Nat} (xs:List Int):CMs hT r hS fz (xs.map I64) (xs.map I64)=True:=eq_true (CMs.kf (kf_I xs))
theorem flat_I' (xs:List Int):(xs.map fun n=>[C.v (.int .i64 n)]).flatten=xs.map I64:=flat1 _ _
theorem l3Copy (m:Mm) (hv:m.vals.length≤1000) (ha:m.arrays.length≤2) (h4:∀ a ∈ m.arrays,a.length=4):DC Try.prog 116 [.agg m.cells] [] (fun d h=>d = .agg [.msl 0 1 0 m.vals.length,.msl 1 1 0 m.arrays.length]∧h=memB 2 m):=by
 have hmx:=mx_eq
 obtain ⟨va,arr⟩:=m
 have hv:va.length≤1000:=hv
 match arr,ha,h4 with
 | [],_,_ =>
  refine dc_of_go Try.func116 rfl (by simp) ?_
  refine drv_sound (n:=100) (rs:=_) Try.func116 mo rfl none _ _ ?_
  simp only [go_sem,Mm.cells,isI,I64,flat_I']
  refine ⟨⟨fun k e=>by cases e;rfl,by omega,by omega⟩,?_⟩
  refine Go.loop ?_
  refine drv_sound (n:=100) (rs:=_) Try.func116 mo rfl none _ _ ?_
  simp only [go_sem,Mm.cells,isI,I64,flat_I',Int.reduceLT]
  refine RetOb.ofQ (fun j=>if j=0 then some 320 else none) [] (.agg [.msl 0 1 0 va.length,.msl 1 1 0 0]) (memB 2 ⟨va,[]⟩) ?_ ⟨rfl,rfl⟩ (by simp)
  simp [memB,enumL,hOf,hdr,blk0,blk1,DM,CM,CMs,HpOK,LowOK,upd,CMs_I,isI]
 | [a],_,h4 =>
  have h4a:a.length=4:=h4 a (by simp)
  refine dc_of_go Try.func116 rfl (by simp) ?_
  refine drv_sound (n:=100) (rs:=_) Try.func116 mo rfl none _ _ ?_
  simp only [go_sem,Mm.cells,isI,I64,flat_I']
  refine ⟨⟨fun k e=>by cases e;rfl,by omega,by omega⟩,?_⟩
  refine Go.loop ?_
  refine drv_sound (n:=100) (rs:=_) Try.func116 mo rfl none _ _ ?_
  simp only [go_sem,Mm.cells,isI,I64,flat_I',Int.reduceLT]
  (with_reducible and_intros)<;>try exact sd
  refine Go.inLoop ?_
  refine drv_sound (n:=100) (rs:=_) Try.func116 mo rfl none _ _ ?_
  simp only [go_sem,Mm.cells,isI,I64,flat_I',Int.reduceLT]
  refine RetOb.ofQ (fun j=>if j=0 then some 320 else if j=1 then some 1600 else if j=2 then some 1472 else none) [] (.agg [.msl 0 1 0 va.length,.msl 1 1 0 1]) (memB 2 ⟨va,[a]⟩) ?_ ⟨rfl,rfl⟩ (by simp)
  simp [memB,enumL,hOf,hdr,blk0,blk1,DM,CM,CMs,HpOK,LowOK,upd,CMs_I,isI,h4a]
 | [a,b],_,h4 =>
  have h4a:a.length=4:=h4 a (by simp)
  have h4b:b.length=4:=h4 b (by simp)
  refine dc_of_go Try.func116 rfl (by simp) ?_
  refine drv_sound (n:=100) (rs:=_) Try.func116 mo rfl none _ _ ?_
  simp only [go_sem,Mm.cells,isI,I64,flat_I']
  refine ⟨⟨fun k e=>by cases e;rfl,by omega,by omega⟩,?_⟩
  refine Go.loop ?_
  refine drv_sound (n:=100) (rs:=_) Try.func116 mo rfl none _ _ ?_
  simp only [go_sem,Mm.cells,isI,I64,flat_I',Int.reduceLT]
  (with_reducible and_intros)<;>try exact sd
  refine Go.inLoop ?_
  refine drv_sound (n:=100) (rs:=_) Try.func116 mo rfl none _ _ ?_
  simp only [go_sem,Mm.cells,isI,I64,flat_I',Int.reduceLT]
  (with_reducible and_intros)<;>try exact sd
  refine Go.inLoop ?_
  refine drv_sound (n:=100) (rs:=_) Try.func116 mo rfl none _ _ ?_
  simp only [go_sem,Mm.cells,isI,I64,flat_I',Int.reduceLT]
  refine RetOb.ofQ (fun j=>if j=0 then some 320 else if j=1 then some 2944 else if j=2 then some 1472 else if j=3 then some 2816 else none) [] (.agg [.msl 0 1 0 va.length,.msl 1 1 0 2]) (memB 2 ⟨va,[a,b]⟩) ?_ ⟨rfl,rfl⟩ (by simp)
  simp [memB,enumL,hOf,hdr,blk0,blk1,DM,CM,CMs,HpOK,LowOK,upd,CMs_I,isI,h4a,h4b]
theorem renCs_I (r:Nat→Nat) (xs:List Int):renCs r (xs.map I64)=xs.map I64:=by
 induction xs with
 | nil=>rfl
 | cons a t ih=>simp only [List.map_cons,renCs,ih];rfl
theorem renCs_hdr (r:Nat→Nat) (b b' n:Nat):renCs r (hdr b b' n)=hdr (r b) (r b') n:=by
 unfold hdr
 match n with
 | 0=>rfl
 | 1=>rfl
 | n+2=>simp [renCs,renC]
theorem CMs_hdr {hT hS:Hp} {r:Nat→Option Nat} {fz:List Nat} (b b' j j' n:Nat) (h1:r b=some j) (h2:r b'=some j') (h3:hT b ≠ none) (h4:hT b' ≠ none):CMs hT r hS fz (hdr b b' n) (hdr j j' n)=True:=by
 apply eq_true
 unfold hdr
 match n with
 | 0=>simp [CMs]
 | 1=>simp [CMs,CM,h1,h3]
 | n+2=>simp [CMs,CM,h1,h2,h3,h4]
def trC (tr:List Ev):List C:=(tr.map Ev.cells).flatten
theorem trC_len (tr:List Ev):(trC tr).length=tr.length * 2:=by
 unfold trC
 induction tr with
 | nil=>rfl
 | cons a r ih=>simp only [List.map_cons,List.flatten_cons,List.length_append,ih,Ev.cells,List.length_cons,List.length_nil];omega
theorem trC_app (tr tr':List Ev):trC (tr++tr')=trC tr++trC tr':=by simp [trC]
theorem renCs_tr (r:Nat→Nat) (tr:List Ev):renCs r (trC tr)=trC tr:=by
 unfold trC
 induction tr with
 | nil=>rfl
 | cons a t ih=>simp only [List.map_cons,List.flatten_cons,Ev.cells,List.cons_append,List.nil_append,renCs,renC,ih]
theorem trC_kf (tr:List Ev):∀ c ∈ trC tr,kf c=true:=by
 unfold trC
 induction tr with
 | nil=>simp
 | cons a t ih =>
  intro c hc
  rw [List.map_cons,List.flatten_cons,List.mem_append] at hc
  rcases hc with hc | hc
  ·simp only [Ev.cells,List.mem_cons,List.not_mem_nil,or_false] at hc
   rcases hc with rfl | rfl<;>rfl
  ·exact ih c hc
theorem CMs_tr {hT hS:Hp} {r:Nat→Option Nat} {fz:List Nat} (tr:List Ev):CMs hT r hS fz (trC tr) (trC tr)=True:=eq_true (CMs.kf (trC_kf tr))
theorem own (m:Mm) (hv:m.vals.length≤1000) (ha:m.arrays.length≤2) (h4:∀ a ∈ m.arrays,a.length=4):DC Try.prog 120 [.agg m.cells] [] (fun d h=>d = .agg [.msl 0 1 0 m.vals.length,.msl 1 1 0 m.arrays.length]∧h=memB 2 m):=by
 have hmx:=mx_eq
 obtain ⟨va,arr⟩:=m
 have hv:va.length≤1000:=hv
 have ha2:arr.length≤2:=ha
 refine dc_of_go Try.func120 rfl (by simp) ?_
 refine drv_sound (n:=100) (rs:=_) Try.func120 mo rfl none _ _ ?_
 simp only [go_sem,Mm.cells,isI,I64,Int.reduceLT,renCs_I]
 (with_reducible and_intros)<;>try exact sd
 refine XK.callG [] (cloneI va (by omega)) ok98 (fun i' x h=>by simp at h) (hbT ()) (fun d h' ⟨_,e⟩=>by subst e;simp) ?_ (fun _=>⟨by kernel_rfl,_,_,⟨rfl,rfl⟩,Nat.zero_le _⟩)
 rintro _ _ ⟨rfl,rfl⟩ _
 refine drv_sound (n:=100) (rs:=_) Try.func120 mo rfl (some _) _ _ ?_
 simp only [go_sem,Mm.cells,isI,I64,Int.reduceLT,renCs_I]
 (with_reducible and_intros)<;>try exact sd
 refine XK.callG [] (cloneA arr (by omega)) ok168 (fun i' x h=>by simp at h) (hbT ()) (fun d h' ⟨_,e⟩=>by subst e;simp) ?_ (fun _=>⟨by kernel_rfl,_,_,⟨rfl,rfl⟩,Nat.zero_le _⟩)
 rintro _ _ ⟨rfl,rfl⟩ _
 refine drv_sound (n:=100) (rs:=_) Try.func120 mo rfl (some _) _ _ ?_
 simp only [go_sem,Mm.cells,isI,I64,Int.reduceLT,renCs_I]
 (with_reducible and_intros)<;>try exact sd
 match arr,ha,h4 with
 | [],_,_ =>
  refine Go.loop ?_
  refine drv_sound (n:=100) (rs:=_) Try.func120 mo rfl none _ _ ?_
  simp only [go_sem,Mm.cells,isI,I64,Int.reduceLT,renCs_I]
  refine RetOb.ofQ (fun j=>if j=0 then some 256 else if j=1 then some 448 else none) [] (.agg [.msl 0 1 0 va.length,.msl 1 1 0 0]) (memB 2 ⟨va,[]⟩) ?_ ⟨rfl,rfl⟩ (by simp)
  simp [memB,enumL,hOf,hdr,blk0,blk1,DM,CM,CMs,HpOK,LowOK,upd,CMs_I,isI]
 | [a],_,h4 =>
  have h4a:a.length=4:=h4 a (by simp)
  refine Go.loop ?_
  refine drv_sound (n:=100) (rs:=_) Try.func120 mo rfl none _ _ ?_
  simp only [go_sem,Mm.cells,isI,I64,Int.reduceLT,renCs_I]
  (with_reducible and_intros)<;>try exact sd
  refine XK.callG [] (cloneI a (by omega)) ok98 (fun i' x h=>by simp at h) (hbT ()) (fun d h' ⟨_,e⟩=>by subst e;simp) ?_ (fun _=>⟨by kernel_rfl,_,_,⟨rfl,rfl⟩,Nat.zero_le _⟩)
  rintro _ _ ⟨rfl,rfl⟩ _
  refine drv_sound (n:=100) (rs:=_) Try.func120 mo rfl (some _) _ _ ?_
  simp only [go_sem,Mm.cells,isI,I64,Int.reduceLT,renCs_I]
  (with_reducible and_intros)<;>try exact sd
  refine Go.inLoop ?_
  refine drv_sound (n:=100) (rs:=_) Try.func120 mo rfl none _ _ ?_
  simp only [go_sem,Mm.cells,isI,I64,Int.reduceLT,renCs_I]
  refine RetOb.ofQ (fun j=>if j=0 then some 256 else if j=1 then some 448 else if j=2 then some 1664 else none) [] (.agg [.msl 0 1 0 va.length,.msl 1 1 0 1]) (memB 2 ⟨va,[a]⟩) ?_ ⟨rfl,rfl⟩ (by simp)
  simp [memB,enumL,hOf,hdr,blk0,blk1,DM,CM,CMs,HpOK,LowOK,upd,CMs_I,isI,h4a]
 | [a,b],_,h4 =>
  have h4a:a.length=4:=h4 a (by simp)
  have h4b:b.length=4:=h4 b (by simp)
  refine Go.loop ?_
  refine drv_sound (n:=100) (rs:=_) Try.func120 mo rfl none _ _ ?_
  simp only [go_sem,Mm.cells,isI,I64,Int.reduceLT,renCs_I]
  (with_reducible and_intros)<;>try exact sd
  refine XK.callG [] (cloneI a (by omega)) ok98 (fun i' x h=>by simp at h) (hbT ()) (fun d h' ⟨_,e⟩=>by subst e;simp) ?_ (fun _=>⟨by kernel_rfl,_,_,⟨rfl,rfl⟩,Nat.zero_le _⟩)
  rintro _ _ ⟨rfl,rfl⟩ _
  refine drv_sound (n:=100) (rs:=_) Try.func120 mo rfl (some _) _ _ ?_
  simp only [go_sem,Mm.cells,isI,I64,Int.reduceLT,renCs_I]
  (with_reducible and_intros)<;>try exact sd
  refine Go.inLoop ?_
  refine drv_sound (n:=100) (rs:=_) Try.func120 mo rfl none _ _ ?_
  simp only [go_sem,Mm.cells,isI,I64,Int.reduceLT,renCs_I]
  (with_reducible and_intros)<;>try exact sd
  refine XK.callG [] (cloneI b (by omega)) ok98 (fun i' x h=>by simp at h) (hbT ()) (fun d h' ⟨_,e⟩=>by subst e;simp) ?_ (fun _=>⟨by kernel_rfl,_,_,⟨rfl,rfl⟩,Nat.zero_le _⟩)
  rintro _ _ ⟨rfl,rfl⟩ _
  refine drv_sound (n:=100) (rs:=_) Try.func120 mo rfl (some _) _ _ ?_
  simp only [go_sem,Mm.cells,isI,I64,Int.reduceLT,renCs_I]
  (with_reducible and_intros)<;>try exact sd
  refine Go.inLoop ?_
  refine drv_sound (n:=100) (rs:=_) Try.func120 mo rfl none _ _ ?_
  simp only [go_sem,Mm.cells,isI,I64,Int.reduceLT,renCs_I]
  refine RetOb.ofQ (fun j=>if j=0 then some 256 else if j=1 then some 448 else if j=2 then some 1664 else if j=3 then some 2624 else none) [] (.agg [.msl 0 1 0 va.length,.msl 1 1 0 2]) (memB 2 ⟨va,[a,b]⟩) ?_ ⟨rfl,rfl⟩ (by simp)
  simp [memB,enumL,hOf,hdr,blk0,blk1,DM,CM,CMs,HpOK,LowOK,upd,CMs_I,isI,h4a,h4b]
def nth (l:List Int) (i:Int):Int:=l.getD i.toNat 0
def arrAt (m:Mm) (v:Int):List Int:=m.arrays.getD v.toNat []
theorem bin_range {k a b:Int} (ha:0≤a∧a≤255) (hb:0≤b∧b≤255):0≤bin k a b∧bin k a b≤255:=by
 have h1:a.toNat &&& b.toNat≤a.toNat:=Nat.and_le_left
 have h2:a.toNat ^^^ b.toNat<2 ^ 8:=Nat.xor_lt_two_pow (by omega) (by omega)
 unfold bin
 repeat' split
 all_goals omega
structure MemFits (p : Pg) (m : Mm) : Prop where
 nv:m.vals.length=p.vars.length
 na:m.arrays.length=p.arrays.length
 nv12:1≤p.vars.length∧p.vars.length≤12
 na2:p.arrays.length≤2
 val:∀ x ∈ m.vals,0≤x∧x≤255
 arr:∀ a ∈ m.arrays,a.length=4∧∀ x ∈ a,0≤x∧x≤255
theorem nth_mem {l:List Int} {i:Int} (h:0≤i) (h2:i<l.length):l[i.toNat]? = some (nth l i)∧nth l i ∈ l:=by
 have h3:i.toNat<l.length:=by omega
 have e:l[i.toNat]? = some l[i.toNat]:=List.getElem?_eq_getElem h3
 have e2:nth l i=l[i.toNat]:=by simp [nth,List.getD,e]
 rw [e2]
 exact ⟨e,List.getElem_mem h3⟩
theorem arrAt_mem {m:Mm} {v:Int} (h:0≤v) (h2:v<m.arrays.length):m.arrays[v.toNat]? = some (arrAt m v)∧arrAt m v ∈ m.arrays:=by
 have h3:v.toNat<m.arrays.length:=by omega
 have e:m.arrays[v.toNat]? = some m.arrays[v.toNat]:=List.getElem?_eq_getElem h3
 have e2:arrAt m v=m.arrays[v.toNat]:=by simp [arrAt,List.getD,e]
 rw [e2]
 exact ⟨e,List.getElem_mem h3⟩
theorem renCs_b0 (r:Nat→Nat) (a:List (List Int)):renCs r (blk0 a)=blk0 a:=renCs_I r _
theorem renCs_b1 (r:Nat→Nat) (a:List (List Int)):renCs r (blk1 a)=blk1 a:=renCs_I r _
theorem CMs_b0 {hT hS:Hp} {r:Nat→Option Nat} {fz:List Nat} (a:List (List Int)):CMs hT r hS fz (blk0 a) (blk0 a)=True:=CMs_I _
theorem CMs_b1 {hT hS:Hp} {r:Nat→Option Nat} {fz:List Nat} (a:List (List Int)):CMs hT r hS fz (blk1 a) (blk1 a)=True:=CMs_I _
theorem kf_app {a b:List C} (h1:∀ c ∈ a,kf c=true) (h2:∀ c ∈ b,kf c=true):∀ c ∈ a++b,kf c=true:=fun c hc=>(List.mem_append.1 hc).elim (h1 c) (h2 c)
def setV (m:Mm) (t x:Int):Mm:=⟨m.vals.set t.toNat x,m.arrays⟩
def setA (m:Mm) (t i x:Int):Mm:=⟨m.vals,m.arrays.set t.toNat ((arrAt m t).set i.toNat x)⟩
theorem set_mem {l:List Int} {i:Nat} {x y:Int} (h:y ∈ l.set i x):y ∈ l∨y=x:=List.mem_or_eq_of_mem_set h
theorem MemFits.setV {p : Pg} {m : Mm} (hm : MemFits p m) {t x : Int} (hx : 0 ≤ x ∧ x ≤ 255) : MemFits p (setV m t x) where
 nv:=by simp [CtR.setV,hm.nv]
 na:=hm.na
 nv12:=hm.nv12
 na2:=hm.na2
 val:=fun y hy=>(set_mem hy).elim (hm.val y) fun h=>by rw [h];exact hx
 arr:=hm.arr
theorem MemFits.setA {p : Pg} {m : Mm} (hm : MemFits p m) {t i x : Int} (ht : 0 ≤ t ∧ t < m.arrays.length) (hx : 0 ≤ x ∧ x ≤ 255) : MemFits p (setA m t i x) where
 nv:=hm.nv
 na:=by simp [CtR.setA,hm.na]
 nv12:=hm.nv12
 na2:=hm.na2
 val:=hm.val
 arr:=fun a ha=>by
  have h4:=hm.arr _ (arrAt_mem ht.1 ht.2).2
  rcases List.mem_or_eq_of_mem_set ha with h | h
  ·exact hm.arr a h
  ·subst h
   exact ⟨by simp [h4.1],fun y hy=>(set_mem hy).elim (h4.2 y) fun h=>by rw [h];exact hx⟩
theorem stmtOK_succ {p : Pg} {d : Nat} {k t : Int} {ix v : Ex} {c : Int} {b e : List St1} (h : stmtOK p (d + 1) (.mk k t ix v c b e) = true) :
 headOK p k t ix v c b.length e.length=true∧(∀ x ∈ b,stmtOK p d x=true)∧(∀ x ∈ e,stmtOK p d x=true):=by
 simp only [stmtOK,Bool.and_eq_true,List.all_eq_true] at h
 exact ⟨h.1.1,h.1.2,h.2⟩
theorem right_shape {p:Pg} {e:Ex} (h:right p e=true):shape p 5 e=true∧cnt 5 e≤15:=by
 simp only [right,Bool.and_eq_true,decide_eq_true_eq] at h
 exact ⟨h.1,by omega⟩
theorem head_kind {p : Pg} {k t : Int} {ix v : Ex} {c : Int} {bn en : Nat} (h : headOK p k t ix v c bn en = true) :
 (k=1∨k=5)∧0≤t∧t<p.vars.length∧right p v=true∨k=2∧0≤t∧t<p.arrays.length∧right p ix=true∧atom ix=true∧right p v=true∨k=3∧right p v=true∨k=4∧1≤c∧c≤3:=by
 unfold headOK parts blk at h
 by_cases h1:k=1∨k=5
 ·left;simp only [if_pos h1] at h;grind
 ·right
  by_cases h2:k=2
  ·left;subst h2;simp at h;grind
  ·right
   by_cases h3:k=3
   ·left;subst h3;simp at h;grind
   ·right
    have h4:k=4:=by grind
    subst h4;simp at h;grind
theorem blk0_set0 (m:Mm) (i x:Int) (h:0<m.arrays.length):blk0 (setA m 0 i x).arrays=(blk0 m.arrays).set i.toNat (.v (.int .i64 x)):=by
 have e:m.arrays[0]? = some (arrAt m 0):=(arrAt_mem (m:=m) (v:=0) (by omega) (by omega)).1
 unfold blk0 setA
 simp only [Int.toNat_zero,List.getElem?_set_self h,Option.getD_some,e]
 exact List.map_set
theorem blk1_set0 (m:Mm) (i x:Int):blk1 (setA m 0 i x).arrays=blk1 m.arrays:=by
 unfold blk1 setA
 simp only [Int.toNat_zero]
 rw [List.getElem?_set_ne (by decide)]
theorem blk1_set1 (m:Mm) (i x:Int) (h:1<m.arrays.length):blk1 (setA m 1 i x).arrays=(blk1 m.arrays).set i.toNat (.v (.int .i64 x)):=by
 have e:m.arrays[1]? = some (arrAt m 1):=(arrAt_mem (m:=m) (v:=1) (by omega) (by omega)).1
 unfold blk1 setA
 simp only [show (1:Int).toNat=1 from rfl,List.getElem?_set_self h,Option.getD_some,e]
 exact List.map_set
theorem blk0_set1 (m:Mm) (i x:Int):blk0 (setA m 1 i x).arrays=blk0 m.arrays:=by
 unfold blk0 setA
 simp only [show (1:Int).toNat=1 from rfl]
 rw [List.getElem?_set_ne (by decide)]
theorem body_of {p:Pg} (h:progOK p=true):(∀ s ∈ p.body,stmtOK p 5 s=true)∧lsize 5 p.body≤60:=by
 simp only [progOK,Bool.and_eq_true,decide_eq_true_eq,List.all_eq_true] at h
 exact ⟨h.1.2,by omega⟩
def trD (tr:List Ev):C := .isl 2 (tr.map Ev.cells)
theorem RetOb.step {m : Nat} {R : D → List (Option (List C)) → Prop} {d : D} {hp : Hp} (r : Nat → Option Nat) (fz : List Nat) (d' : D) (hl : List (Nat × Option (List C)))
 (hM:DM (hOf hl) r hp fz d' d∧HpOK (hOf hl) r hp fz hl∧LowOK r (hOf hl) m∧((hl.filterMap fun p=>p.2.map fun _=>p.1).filterMap r).Nodup) (hn:RetOb m R d' (hOf hl)):RetOb m R d hp:=fun I w s v H hv=>by
 have h:Mq m r fz [] hl ⟨fun _=>none,hp,0⟩:=⟨trivial,hM.2.1,hM.2.2.1,hM.2.2.2⟩
 obtain ⟨H',E'⟩:=h.subH.sim H
 obtain ⟨I',s',d2,h2,g1,g2,g3,g4,g5⟩:=hn _ w _ v H' (DM.rd H d' d hM.1 hv)
 exact ⟨I',s',d2,h2,g1,g2,g3,E'.trans g4,g5⟩
theorem RetOb.run {R : D → List (Option (List C)) → Prop} {p : Pg} {m : Mm} {tr : List Ev} {ok : Bool} {hp : Hp} {k0 k1 k2 k3 kt n : Nat} {cs : List C} (hm : MemFits p m) (hR : R (.tup [.agg m.cells, .c (trD tr), DB ok]) [])
 (h0:hp k0=some (some (m.vals.map I64))) (h1:hp k1=some (some (hdr k2 k3 p.arrays.length))) (h2:hp k2=some (some (blk0 m.arrays))) (h3:hp k3=some (some (blk1 m.arrays))) (ht:hp kt=some (some cs)) (hcs:cs=trC tr) (hn:n=tr.length)
 (hne:k0 ≠ k1∧k0 ≠ k2∧k0 ≠ k3∧k1 ≠ k2∧k1 ≠ k3∧k2 ≠ k3∧kt ≠ k0∧kt ≠ k1∧kt ≠ k2∧kt ≠ k3):RetOb 0 R (.tup [.agg [.msl k0 1 0 p.vars.length,.msl k1 1 0 p.arrays.length],.c (.msl kt 2 0 n),DB ok]) hp:=by
 subst hcs hn
 obtain ⟨va,arr⟩:=m
 have hnv:va.length=p.vars.length:=hm.nv
 have hna:arr.length=p.arrays.length:=hm.na
 have hna2:=hm.na2
 have h4:∀ a ∈ arr,a.length=4:=fun a ha=>(hm.arr a ha).1
 obtain ⟨n01,n02,n03,n12,n13,n23,nt0,nt1,nt2,nt3⟩:=hne
 rw [← hnv,← hna]
 rw [← hna] at h1 hna2
 refine RetOb.step (fun j=>if j=0 then some k0 else if j=1 then some k1 else if j=2 then some kt else none) [k2,k3] (.tup [.agg [.msl 0 1 0 va.length,.msl 1 1 0 arr.length],.c (.msl 2 2 0 tr.length),DB ok]) [(0,some (va.map I64)),(1,some (arr.map isI)),(2,some (trC tr))] ?_ ?_
 ·have e3:∀ a:List Int,(a.map fun n=>[C.v (.int .i64 n)]).flatten=a.map I64:=fun a=>flat1 _ a
  match arr,hna2,h4,h1,h2,h3 with
  | [],_,h4,h1,h2,h3=>simp [DM,DMs,CM,CMs,HpOK,LowOK,hOf,upd,h0,ht,CMs_I,CMs_tr,h1,hdr,n01,n02,n03,n12,n13,n23,nt0,nt1,nt2,nt3,Ne.symm n01,Ne.symm nt0,Ne.symm nt1,Ne.symm n23]
  | [a],_,h4,h1,h2,h3 =>
   have ha:=h4 a (by simp)
   simp [DM,DMs,CM,CMs,HpOK,LowOK,hOf,upd,h0,ht,CMs_I,CMs_tr,h1,h2,hdr,n01,n02,n03,n12,n13,n23,nt0,nt1,nt2,nt3,Ne.symm n01,Ne.symm nt0,Ne.symm nt1,Ne.symm n23,e3,isI,ha,blk0,kf]
  | [a,b],_,h4,h1,h2,h3 =>
   have ha:=h4 a (by simp)
   have hb:=h4 b (by simp)
   simp [DM,DMs,CM,CMs,HpOK,LowOK,hOf,upd,h0,ht,CMs_I,CMs_tr,h1,h2,h3,hdr,n01,n02,n03,n12,n13,n23,nt0,nt1,nt2,nt3,Ne.symm n01,Ne.symm nt0,Ne.symm nt1,Ne.symm n23,e3,isI,ha,hb,blk0,blk1,kf]
 ·refine RetOb.ofQ (fun _=>none) [0,1,2] _ [] ⟨?_,trivial,trivial,by simp [enumL]⟩ hR (Nat.zero_le _)
  have e4:∀ l:List (List Int),(l.map fun a=>[C.isl 1 (a.map fun n=>[I64 n])]).flatten=l.map isI:=fun l=>flat1 _ l
  have e5:(tr.map Ev.cells).flatten=trC tr:=rfl
  simp [DM,DMs,CM,CMs,hOf,upd,Mm.cells,isI,trD,flat_I,kf,e5]
  exact ⟨(flat1 isI arr).symm,fun a _=>rfl,fun a _ c hc=>by
   simp only [Ev.cells,List.mem_cons,List.not_mem_nil,or_false] at hc
   rcases hc with rfl | rfl<;>rfl⟩
theorem RetOb.noRun {R:D→List (Option (List C))→Prop} {hp:Hp} {c:C} (hR:R (.tup [.agg (Mm.cells ⟨[],[]⟩),.c (trD []),DB false]) []) (hc:c = .v (.slice none 0 0)∨∃ k,c = .msl k 2 0 0∧hp k=some (some [])):RetOb 0 R (.tup [.agg [.v (.slice none 0 0),.v (.slice none 0 0)],.c c,DB false]) hp:=by
 rcases hc with rfl | ⟨k,rfl,hk⟩
 ·refine RetOb.ofQ (fun _=>none) [] _ [] ⟨?_,trivial,trivial,by simp [enumL]⟩ hR (Nat.zero_le _)
  simp [DM,DMs,CM,CMs,Mm.cells,isI,trD]
 ·refine RetOb.ofQ (fun _=>none) [k] _ [] ⟨?_,trivial,trivial,by simp [enumL]⟩ hR (Nat.zero_le _)
  simp [DM,DMs,CM,CMs,Mm.cells,isI,trD,hk]
theorem Ev.eq_iff (a b:Ev):a=b ↔ a.kind=b.kind∧a.value=b.value:=by cases a;cases b;simp
def trSame (xs ys:List Ev):Bool:=xs.length == ys.length && (xs.zip ys).all fun q=>q.1.kind == q.2.kind && q.1.value == q.2.value
theorem trSame_iff : ∀ xs ys : List Ev, trSame xs ys = true ↔ xs = ys
 | [],[]=>by simp [trSame]
 | [],b :: r=>by simp [trSame]
 | a :: r,[]=>by simp [trSame]
 | a :: r,b :: r'=>by
  have ih:=trSame_iff r r'
  simp only [trSame,List.length_cons,List.zip_cons_cons,List.all_cons,Bool.and_eq_true,beq_iff_eq] at ih ⊢
  rw [List.cons.injEq,Ev.eq_iff,← ih]
  constructor
  ·rintro ⟨h1,⟨h2,h3⟩,h4⟩;exact ⟨⟨h2,h3⟩,by omega,h4⟩
  ·rintro ⟨⟨h2,h3⟩,h1,h4⟩;exact ⟨by omega,⟨h2,h3⟩,h4⟩
theorem equalEv (xs ys:List Ev) (hl:xs.length≤mx):DC Try.prog 125 [.c (trD xs),.c (trD ys)] [] (fun r h=>r=DB (trSame xs ys)∧h=[]):=by
 have hmx:=mx_eq
 have ret:∀ (b:Bool) (hp:Hp),b=trSame xs ys→RetOb 0 (fun r h=>r=DB (trSame xs ys)∧h=[]) (DB b) hp:=fun b hp h=>RetOb.plain (d:=DB _) ⟨by rw [h],rfl⟩ rfl
 by_cases hlen:xs.length=ys.length
 ·have hb:((xs.length:Int) != ys.length)=false:=by simp [hlen]
  have he:((xs.length:Int)=ys.length)=True:=eq_true (by omega)
  refine dc_of_go Try.func125 rfl (by simp) ?_
  refine drv_sound (n:=100) (rs:=_) Try.func125 mo rfl none _ _ ?_
  simp only [go_sem,trD,hb,he]
  refine Go.loopL (fun i:Nat=>[(0,.c (trD xs)),(1,.c (trD ys)),(12,DI .i64 xs.length),(13,DI .i64 i)]) (fun _=>[]) 1024 (fun i=>i≤xs.length∧trSame xs ys=trSame (xs.drop i) (ys.drop i)) (fun i=>xs.length - i) ?_ 0 some [] _ ⟨Nat.zero_le _,rfl⟩ ?_
  ·intro i hi again
   refine drv_sound (n:=100) (rs:=_) Try.func125 mo rfl none _ _ ?_
   rcases Nat.lt_or_ge i xs.length with hlt | hge
   ·obtain ⟨⟨k1,v1⟩,hx⟩:∃ x,xs[i]? = some x:=⟨xs[i],by simp [hlt]⟩
    obtain ⟨⟨k2,v2⟩,hy⟩:∃ y,ys[i]? = some y:=⟨ys[i]'(by omega),by simp⟩
    have hI:=hi.2
    obtain ⟨_,ex⟩:=List.getElem?_eq_some_iff.1 hx
    obtain ⟨hyl,ey⟩:=List.getElem?_eq_some_iff.1 hy
    rw [List.drop_eq_getElem_cons hlt,List.drop_eq_getElem_cons hyl,ex,ey] at hI
    have hd:(xs.drop (i+1)).length=(ys.drop (i+1)).length:=by simp;omega
    have hI2:trSame xs ys=((decide (k1=k2) && decide (v1=v2)) && trSame (xs.drop (i+1)) (ys.drop (i+1))):=by
     rw [hI]
     simp only [trSame,List.length_cons,hd,List.zip_cons_cons,List.all_cons,beq_self_eq_true,Bool.true_and]
     rfl
    simp only [go_sem,trD,hx,hy,hlt,Ev.cells,I64]
    (with_reducible and_intros)<;>try exact sd
    ·intro h;exact ret _ _ (by rw [hI2];by_cases h1:k1=k2<;>simp_all)
    ·intro h;exact ⟨by simp only [InK];omega,again (i+1) some [] _ ⟨by omega,by rw [hI2];simp [h.1,h.2]⟩ (by omega) (Mt.slots (by
      simp only [go_sem,TmOK,DM,DMs,CM,CMs,forall_eq,exists_eq_left,trD]))⟩
   ·have hn:¬ i<xs.length:=by omega
    simp only [go_sem,trD,hn]
    refine ret _ _ ?_
    rw [hi.2,List.drop_of_length_le hge,List.drop_of_length_le (by omega)];rfl
  ·refine Mt.slots ?_
   simp only [go_sem,TmOK,DM,DMs,CM,CMs,forall_eq,exists_eq_left,trD]
 ·have hb:((xs.length:Int) != ys.length)=true:=by simp;omega
  have he:((xs.length:Int)=ys.length)=False:=eq_false (by omega)
  refine dc_of_go Try.func125 rfl (by simp) ?_
  refine drv_sound (n:=100) (rs:=_) Try.func125 mo rfl none _ _ ?_
  simp only [go_sem,trD,hb,he]
  refine ret _ _ ?_
  simp [trSame,hlen]
theorem traceSame (xs ys:List Ev) (hl:xs.length≤mx):DC Try.prog 59 [.c (trD xs),.c (trD ys)] [] (fun r h=>r=DB (trSame xs ys)∧h=[]):=by
 refine dc_of_go Try.func59 rfl (by simp) ?_
 refine drv_sound (n:=100) (rs:=_) Try.func59 mo rfl none _ _ ?_
 simp only [go_sem,trD]
 refine XK.plain (equalEv xs ys hl) ok125 ?_
 refine drv_sound (n:=100) (rs:=_) Try.func59 mo rfl (some _) _ _ ?_
 simp only [go_sem,trD]
 exact RetOb.plain (d:=DB _) ⟨rfl,rfl⟩ rfl
end Go.Proofs.Ytddanjifhdaebaa.CtR
