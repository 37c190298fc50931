/- Contracts of functions of the program, one behind the other, as plain data: what each call returns and which blocks it leaves. -/
import Derived.Test.YtddanjifhdaebaaIFacts
import Derived.Test.YtddanjifhdaebaaIAi
import Derived.Test.YtddanjifhdaebaaIAk
import Derived.Test.YtddanjifhdaebaaIAl
import Derived.Test.YtddanjifhdaebaaIAm
import Derived.Test.YtddanjifhdaebaaIAo
import Derived.Test.YtddanjifhdaebaaIAr
import Derived.Test.YtddanjifhdaebaaIAs
import Derived.Test.YtddanjifhdaebaaIAj
set_option linter.unusedVariables false
set_option linter.unusedSimpArgs false
set_option linter.unusedSectionVars false
set_option maxHeartbeats 16000000
set_option maxRecDepth 100000
namespace Go.Proofs.Ytddanjifhdaebaa.CtD
open Go Go.CT CtF CtR
variable [Yn]
open CtL (In Cd kindsOf topOf fOK inOK endOK codeOK atC halt runC)
theorem cvFnG (c : Cd) (h1 : c.vars.length ≤ mx) (h2 : c.arrays.length ≤ mx) (h3 : c.list.length ≤ mx) (x : In) :
 DC Try.prog 219 [.agg (inX x),.c (.eptr (cdC c))] [] (fun r h=>r=DB (!inOK c.vars.length c.arrays.length c.list.length x)∧h=[]):=by
 have hio:=instrOkG c h1 h2 h3 x
 generalize inOK c.vars.length c.arrays.length c.list.length x=B at *
 unfold cdC at hio ⊢
 obtain ⟨op,a,b,c',d⟩:=x
 unfold inX at hio ⊢
 refine dcZ Try.func219 ?_
 simp only [go_sem]
 iterate 4 ((try (refine drvZ Try.func219 ?_;simp only [go_sem]));((with_reducible and_intros)<;>try exact sd);(try first | refine XK.p hio ok220 ?_ | refine XK.gp hio ok220 ?_))
 exact RetOb.plain (d:=DB (!B)) ⟨rfl,rfl⟩ rfl
def ixB (p : In → Bool) : List In → Int → Int
 | [],_ => -1
 | x :: r,n=>if p x then ixB p r (n+1) else n
theorem ixB_all (p : In → Bool) : ∀ (l : List In) (n : Int), 0 ≤ n → decide (0 ≤ ixB p l n) = !l.all p
 | [],n,h=>rfl
 | x :: r,n,h=>by
  cases hx:p x with
  | true=>simp only [ixB,hx,if_true,List.all_cons,Bool.true_and];exact ixB_all p r (n+1) (by omega)
  | false=>simp [ixB,hx,h]
theorem indexFuncG (cc : List C) (p : In → Bool) (xs : List In) (hl : xs.length ≤ mx) (hg : ∀ x, DC Try.prog 219 [.agg (inX x), .c (.eptr cc)] [] (fun r h => r = DB (!p x) ∧ h = [])) :
 DC Try.prog 230 [.c (.isl 5 (xs.map inX)),.c (.clo 219 [.eptr cc])] [] (fun d h=>d=DI .i64 (ixB p xs 0)∧h=[]):=by
 have hmx:=mx_eq
 have ret:∀ (v:Int) (hp:Hp),v=ixB p xs 0→RetOb 0 (fun d h=>d=DI .i64 (ixB p xs 0)∧h=[]) (DI .i64 v) hp:=fun v hp h=>RetOb.plain (d:=DI .i64 _) ⟨by rw [h],rfl⟩ rfl
 generalize hR:(fun (d:D) (h:List (Option (List C)))=>d=DI .i64 (ixB p xs 0)∧h=[])=R at ret ⊢
 clear hR
 refine dcZ Try.func230 ?_
 simp only [go_sem]
 ((try (refine drvZ Try.func230 ?_;simp only [go_sem]));((with_reducible and_intros)<;>try exact sd))
 refine Go.loopQ (fun i:Nat=>[(0,.c (.isl 5 (xs.map inX))),(1,.c (.clo 219 [.eptr cc])),(7,DI .i64 xs.length),(8,DI .i64 i)]) (fun _=>[]) 1024 (fun i=>i≤xs.length∧ixB p (xs.drop i) i=ixB p xs 0) (fun i=>xs.length - i) ?_ 0 some [] _ ⟨Nat.zero_le _,rfl⟩ ?_
 ·rintro i ⟨hi,hI⟩ again
  rcases Nat.lt_or_ge i xs.length with hlt | hge
  ·obtain ⟨x,hx⟩:∃ x,xs[i]? = some x:=⟨xs[i],by simp [hlt]⟩
   have hgx:=hg x
   rw [List.drop_eq_getElem_cons hlt,(List.getElem?_eq_some_iff.1 hx).2] at hI
   cases hpx:p x with
   | true =>
    rw [hpx] at hgx
    simp only [ixB,hpx,if_true] at hI
    obtain ⟨op,a,b,c,d⟩:=x
    simp only [inX] at hgx
    refine drvL Try.func230 ?_
    simp only [go_sem,hx,hlt,inX]
    iterate 5 ((try (refine drvZ Try.func230 ?_;simp only [go_sem,hx,hlt,inX]));((with_reducible and_intros)<;>try exact sd);(try first | refine XK.p hgx ok219 ?_ | refine XK.gp hgx ok219 ?_))
    refine again (i+1) some [] _ ⟨hlt,by rw [← hI];rfl⟩ (by omega) ?_
    simp only [go_sem,TmOK,DM,DMs,CM,CMs,forall_eq,exists_eq_left,Mq,HpOK,LowOK]
    first | done | (simp;done) | (simp;exact CM.kf rfl) | exact CM.kf rfl
   | false =>
    rw [hpx] at hgx
    simp only [ixB,hpx] at hI
    obtain ⟨op,a,b,c,d⟩:=x
    simp only [inX] at hgx
    refine drvL Try.func230 ?_
    simp only [go_sem,hx,hlt,inX]
    iterate 5 ((try (refine drvZ Try.func230 ?_;simp only [go_sem,hx,hlt,inX]));((with_reducible and_intros)<;>try exact sd);(try first | refine XK.p hgx ok219 ?_ | refine XK.gp hgx ok219 ?_))
    exact ret _ _ (by rw [← hI];rfl)
  ·have hn:¬ i<xs.length:=by omega
   have e1:xs.drop i=[]:=List.drop_of_length_le (by omega)
   refine drvL Try.func230 ?_
   simp only [go_sem,hn]
   iterate 3 ((try (refine drvZ Try.func230 ?_;simp only [go_sem,hn]));((with_reducible and_intros)<;>try exact sd))
   exact ret _ _ (by rw [← hI,e1];rfl)
 ·simp only [go_sem,TmOK,DM,DMs,CM,CMs,forall_eq,exists_eq_left,Mq,HpOK,LowOK]
  first | done | (simp;done) | (simp;exact CM.kf rfl) | exact CM.kf rfl
theorem containsFuncG (cc : List C) (p : In → Bool) (xs : List In) (hl : xs.length ≤ mx) (hg : ∀ x, DC Try.prog 219 [.agg (inX x), .c (.eptr cc)] [] (fun r h => r = DB (!p x) ∧ h = [])) :
 DC Try.prog 218 [.c (.isl 5 (xs.map inX)),.c (.clo 219 [.eptr cc])] [] (fun d h=>d=DB (!xs.all p)∧h=[]):=by
 have hif:=indexFuncG cc p xs hl hg
 have hal:=ixB_all p xs 0 (by omega)
 generalize ixB p xs 0=k at *
 refine dcZ Try.func218 ?_
 simp only [go_sem]
 iterate 3 ((try (refine drvZ Try.func218 ?_;simp only [go_sem]));((with_reducible and_intros)<;>try exact sd);(try first | refine XK.p hif ok230 ?_ | refine XK.gp hif ok230 ?_))
 exact RetOb.plain (d:=DB _) ⟨by rw [← hal],rfl⟩ rfl
theorem codeValidG0 (c:Cd) (h1:c.vars.length≤2000000) (h2:c.arrays.length≤2000000) (h3:c.list.length≤100000000) (h:codeOK c=false):DC Try.prog 194 [.agg (cdC c)] [] (fun r h=>r=DB false∧h=[]):=by
 have hmx:=mx_eq
 have hfn:=fun x=>cvFnG c (by omega) (by omega) (by omega) x
 have ret:∀ hp:Hp,RetOb 0 (fun r h=>r=DB false∧h=[]) (DB false) hp:=fun hp=>RetOb.plain (d:=DB false) ⟨rfl,rfl⟩ rfl
 generalize hR:(fun (r:D) (h:List (Option (List C)))=>r=DB false∧h=[])=R at ret ⊢
 clear hR
 obtain ⟨vs,ar,l⟩:=c
 simp only at h1 h2 h3 hfn
 have hcf:=containsFuncG (cdC ⟨vs,ar,l⟩) (inOK vs.length ar.length l.length) l (by omega) hfn
 have hde:=declared vs ar (by omega) (by omega)
 have hw:=CtR.within l.length 1 400
 unfold codeOK at h
 simp only at h
 unfold cdC at hcf ⊢
 cases hh:headsOK vs ar with
 | false =>
  rw [hh] at hde
  clear hw hcf
  refine dcZ Try.func194 ?_
  simp only [go_sem]
  iterate 8 ((try (refine drvZ Try.func194 ?_;simp only [go_sem,List.length_map]));((with_reducible and_intros)<;>try exact sd);(try first | refine XK.p hde ok145 ?_ | refine XK.gp hde ok145 ?_ | refine XK.gs (DB false) ?_))
  exact ret _
 | true =>
  rw [hh] at hde h
  simp only [Bool.true_and] at h
  cases hb:(decide (1≤(l.length:Int)) && decide ((l.length:Int)≤400)) with
  | false =>
   rw [hb] at hw
   clear hcf
   refine dcZ Try.func194 ?_
   simp only [go_sem]
   iterate 8 ((try (refine drvZ Try.func194 ?_;simp only [go_sem,List.length_map]));((with_reducible and_intros)<;>try exact sd);(try first | refine XK.p hde ok145 ?_ | refine XK.gp hde ok145 ?_ | refine XK.p hw ok119 ?_ | refine XK.gp hw ok119 ?_ | refine XK.gs (DB false) ?_))
   exact ret _
  | true =>
   rw [hb] at hw h
   simp only [Bool.true_and] at h
   simp only [Bool.and_eq_true,decide_eq_true_eq] at hb
   obtain ⟨x,hx⟩:∃ x,l[l.length - 1]? = some x:=⟨l[l.length - 1]'(by omega),by simp⟩
   have hat:atC l (l.length - 1)=x:=by simp [atC,List.getD,hx]
   simp only [endOK,hat] at h
   have hpos:((l.length:Int) - 1).toNat=l.length - 1:=by omega
   have hget:(l.map inX)[l.length - 1]? = some (inX x):=by rw [List.getElem?_map,hx];rfl
   generalize hal:l.all (inOK vs.length ar.length l.length)=al at *
   obtain ⟨op,xa,xb,xc,xd⟩:=x
   simp only at h
   refine dcZ Try.func194 ?_
   simp only [go_sem]
   iterate 6 ((try (refine drvZ Try.func194 ?_;simp only [go_sem,List.length_map]));((with_reducible and_intros)<;>try exact sd);(try first | refine XK.p hde ok145 ?_ | refine XK.gp hde ok145 ?_ | refine XK.p hw ok119 ?_ | refine XK.gp hw ok119 ?_))
   refine XK.subQ (r := some) (fz := [0]) (tl := [(1, .c (.eptr [isI vs, isI ar, .isl 5 (l.map inX)])), (2, DB false), (17, DB false), (19, .when true (.c (.isl 5 (l.map inX)))), (20, .when true (.c (.clo 219 [.eptr [isI vs, isI ar, .isl 5 (l.map inX)]])))])
    (hl:=[]) ?_ ?_
   ·simp only [go_sem,TmOK,DM,DMs,CM,CMs,forall_eq,exists_eq_left,Mq,HpOK,LowOK]
    simp
   cases al with
   | false =>
    iterate 9 ((try (refine drvZ Try.func194 ?_;simp only [go_sem,List.length_map]));((with_reducible and_intros)<;>try exact sd);(try first | refine XK.p hcf ok218 ?_ | refine XK.gp hcf ok218 ?_))
    exact ret _
   | true =>
    simp only [Bool.true_and,Bool.or_eq_false_iff] at h
    have e1:=h.1
    have e2:=h.2
    iterate 9 ((try (refine drvZ Try.func194 ?_;simp only [go_sem,List.length_map,hpos,hget,inX,e1,e2]));((with_reducible and_intros)<;>try exact sd);(try first | refine XK.p hcf ok218 ?_ | refine XK.gp hcf ok218 ?_))
    exact ret _
theorem startI0 (c:Cd) (m:Mm) (h1:c.vars.length≤2000000) (h2:c.arrays.length≤2000000) (h3:c.list.length≤100000000) (h:codeOK c=false):DC Try.prog 172 [.agg (cdC c),.agg m.cells] [] (fun r h=>r = .tup [.agg [I64 0,.v (.slice none 0 0),.v (.slice none 0 0),.v (.slice none 0 0)],DB false]∧h=[]):=by
 have hmx:=mx_eq
 have hcv:=codeValidG0 c h1 h2 h3 h
 obtain ⟨vs,ar,l⟩:=c
 obtain ⟨va,arr⟩:=m
 simp only [cdC,ints] at hcv ⊢
 refine dcZ Try.func172 ?_
 simp only [go_sem,Mm.cells]
 iterate 6 ((try (refine drvZ Try.func172 ?_;simp only [go_sem,Mm.cells]));((with_reducible and_intros)<;>try exact sd);(try first | refine XK.p hcv ok194 ?_ | refine XK.gp hcv ok194 ?_ | refine XK.gs (DB false) ?_))
 refine RetOb.ofQ (fun _=>none) [] (.tup [.agg [I64 0,.v (.slice none 0 0),.v (.slice none 0 0),.v (.slice none 0 0)],DB false]) [] ?_ ⟨rfl,rfl⟩ (by simp)
 simp [enumL,DM,DMs,CM,CMs,HpOK,LowOK]
theorem ranI0 (c:Cd) (m:Mm) (h1:c.vars.length≤2000000) (h2:c.arrays.length≤2000000) (h3:c.list.length≤100000000) (h:codeOK c=false):DC Try.prog 124 [.agg (cdC c),.agg m.cells] [] (fun r h=>r = .tup [.c (.v (.pointer none)),.c (.v (.slice none 0 0)),DB false]∧h=[]):=by
 have hmx:=mx_eq
 have hst:=startI0 c m h1 h2 h3 h
 obtain ⟨vs,ar,l⟩:=c
 obtain ⟨va,arr⟩:=m
 simp only [cdC,ints] at hst ⊢
 refine dcZ Try.func124 ?_
 simp only [go_sem,Mm.cells]
 iterate 5 ((try (refine drvZ Try.func124 ?_;simp only [go_sem,Mm.cells]));((with_reducible and_intros)<;>try exact sd);(try first | refine XK.p hst ok172 ?_ | refine XK.gp hst ok172 ?_))
 refine RetOb.ofQ (fun _=>none) [] (.tup [.c (.v (.pointer none)),.c (.v (.slice none 0 0)),DB false]) [] ?_ ⟨rfl,rfl⟩ (by simp)
 simp [enumL,DM,DMs,CM,CMs,HpOK,LowOK]
theorem runCodeG (c:Cd) (m:Mm) (h1:c.vars.length≤2000000) (h2:c.arrays.length≤2000000) (h3:c.list.length≤100000000):DC Try.prog 58 [.agg (cdC c),.agg m.cells] [] (fun r h=>r = .tup [.agg (runC c m).1.cells,.c (trD (runC c m).2.1),DB (runC c m).2.2]∧h=[]):=by
 cases hco:codeOK c with
 | true=>exact runCodeI c m hco
 | false =>
  have hmx:=mx_eq
  have hrn:=ranI0 c m h1 h2 h3 hco
  have hrf:runC c m=(⟨[],[]⟩,[],false):=by unfold runC;rw [hco];rfl
  generalize hR:(fun (r:D) (h:List (Option (List C)))=>r = .tup [.agg (runC c m).1.cells,.c (trD (runC c m).2.1),DB (runC c m).2.2]∧h=[])=R
  obtain ⟨vs,ar,l⟩:=c
  obtain ⟨va,arr⟩:=m
  simp only [cdC,ints] at hrn ⊢
  refine dcZ Try.func58 ?_
  simp only [go_sem,Mm.cells]
  iterate 6 ((try (refine drvZ Try.func58 ?_;simp only [go_sem,Mm.cells]));((with_reducible and_intros)<;>try exact sd);(try first | refine XK.p hrn ok124 ?_ | refine XK.gp hrn ok124 ?_))
  refine RetOb.noRun ?_ (.inl rfl)
  subst hR
  rw [hrf]
  exact ⟨rfl,rfl⟩
open CtL (In Cd)
def szC (c:Cd):Nat:=c.vars.length+c.arrays.length+c.list.length
def szML : List Mm → Nat
 | []=>0
 | s :: r=>(1+szM s)+szML r
theorem szML_eq : ∀ l : List Mm, szML l = (l.map fun e => 1 + szM e).sum
 | []=>rfl
 | e :: r=>by simp only [szML,List.map_cons,List.sum_cons,szML_eq r]
structure CdB (c : Cd) : Prop where
 nv:c.vars.length≤mx
 na:c.arrays.length≤mx
 nl:c.list.length≤mx
structure CdN (c : Cd) : Prop where
 nv:c.vars.length≤1048576
 na:c.arrays.length≤1048576
 nl:c.list.length≤1048576
theorem cdN_of {c:Cd} (h:szC c≤1048576):CdN c:=by
 unfold szC at h
 exact ⟨by omega,by omega,by omega⟩
theorem in_kf (x:In):∀ c ∈ inX x,kf c=true:=by simp [inX,kf]
theorem mem_kf (x:Mm):∀ c ∈ x.cells,kf c=true:=by simp [Mm.cells,isI,kf]
theorem szInstrS (xs:List In) (hl:xs.length≤mx) (left:Int) (h0:0≤left) (h1:left≤1048576):DC Try.prog 67 [.c (.isl 5 (xs.map inX)),DI .i64 left] [] (fun r h=>r=DI .i64 (subZ left xs.length)∧h=[]):=by
 have hmx:=mx_eq
 have ret:∀ (v:Int) (hp:Hp),v=subZ left xs.length→RetOb 0 (fun r h=>r=DI .i64 (subZ left xs.length)∧h=[]) (DI .i64 v) hp:=fun v hp h=>RetOb.plain (d:=DI .i64 _) ⟨by rw [h],rfl⟩ rfl
 generalize hR:(fun (r:D) (h:List (Option (List C)))=>r=DI .i64 (subZ left xs.length)∧h=[])=R at ret ⊢
 clear hR
 by_cases hq:(xs.length:Int)≤left
 ·have g:(left - (xs.length:Int)<0)=False:=eq_false (by omega)
  refine dcZ Try.func67 ?_
  simp only [go_sem,List.length_map,g]
  iterate 4 ((try (refine drvZ Try.func67 ?_;simp only [go_sem,List.length_map,g]));((with_reducible and_intros)<;>try exact sd))
  exact ret _ _ (by rw [subZ,if_pos hq])
 ·have g:(left - (xs.length:Int)<0)=True:=eq_true (by omega)
  refine dcZ Try.func67 ?_
  simp only [go_sem,List.length_map,g]
  iterate 4 ((try (refine drvZ Try.func67 ?_;simp only [go_sem,List.length_map,g]));((with_reducible and_intros)<;>try exact sd))
  exact ret _ _ (by rw [subZ,if_neg hq])
theorem eqInstrSOf (l:List (In)) (hl:l.length≤mx) (hc:∀ x ∈ l,DC Try.prog 136 [.agg (inX x),.agg (inX x)] [] (fun r h=>r=DB true∧h=[])):DC Try.prog 79 [.c (.isl 5 ((l.map inX))),.c (.isl 5 ((l.map inX)))] [] (fun r h=>r=DB true∧h=[]):=by
 have hmx:=mx_eq
 have ret:∀ hp:Hp,RetOb 0 (fun r h=>r=DB true∧h=[]) (DB true) hp:=fun hp=>RetOb.plain (d:=DB true) ⟨rfl,rfl⟩ rfl
 generalize hR:(fun (r:D) (h:List (Option (List C)))=>r=DB true∧h=[])=R at ret ⊢
 clear hR
 have hrl:((l.map inX)).length=l.length:=by simp [List.length_map]
 have hrx:∀ (i:Nat) x,l[i]? = some x→True:=fun _ _ _=>trivial
 refine dcZ Try.func79 ?_
 simp only [go_sem,hrl,bne_self_eq_false]
 iterate 4 ((try (refine drvZ Try.func79 ?_;simp only [go_sem,hrl,bne_self_eq_false]));((with_reducible and_intros)<;>try exact sd))
 refine Go.loopQ (fun i:Nat=>[(0,.c (.isl 5 ((l.map inX)))),(1,.c (.isl 5 ((l.map inX)))),(5,DI .i64 i)]) (fun _=>[]) 1024 (fun i=>i≤l.length) (fun i=>l.length - i) ?_ 0 some [] _ (by omega) ?_
 ·intro i hi again
  rcases Nat.lt_or_ge i l.length with hlt | hge
  ·obtain ⟨x,hx⟩:∃ x,l[i]? = some x:=⟨l[i],by simp [hlt]⟩
   have hcx:=hc x (List.mem_of_getElem? hx)
   obtain ⟨o0,a0,b0,c0,d0⟩:=x
   have hxl:((l.map inX))[i]? = some [I64 o0,I64 a0,I64 b0,I64 c0,I64 d0]:=by rw [List.getElem?_map,hx];rfl
   simp only [inX] at hcx
   generalize hRW:(l.map inX)=rows at *
   refine drvL Try.func79 ?_
   simp only [go_sem,hrl,hlt,hxl,bne_self_eq_false]
   iterate 6 ((try (refine drvZ Try.func79 ?_;simp only [go_sem,hrl,hlt,hxl,bne_self_eq_false]));((with_reducible and_intros)<;>try exact sd);(try first | refine XK.p hcx ok136 ?_ | refine XK.gp hcx ok136 ?_))
   refine again (i+1) some [] _ hlt (by omega) ?_
   simp only [go_sem,TmOK,DM,DMs,CM,CMs,forall_eq,exists_eq_left,Mq,HpOK,LowOK]
   try simp
  ·have hn:¬ i<l.length:=by omega
   generalize hRW:(l.map inX)=rows at *
   refine drvL Try.func79 ?_
   simp only [go_sem,hrl,hn]
   iterate 3 ((try (refine drvZ Try.func79 ?_;simp only [go_sem,hrl,hn]));((with_reducible and_intros)<;>try exact sd))
   exact ret _
 ·simp only [go_sem,TmOK,DM,DMs,CM,CMs,forall_eq,exists_eq_left,Mq,HpOK,LowOK]
  try simp
theorem eqMemorySOf (l:List (Mm)) (hl:l.length≤mx) (hc:∀ x ∈ l,DC Try.prog 49 [.agg x.cells,.agg x.cells] [] (fun r h=>r=DB true∧h=[])):DC Try.prog 21 [.c (.isl 2 ((l.map Mm.cells))),.c (.isl 2 ((l.map Mm.cells)))] [] (fun r h=>r=DB true∧h=[]):=by
 have hmx:=mx_eq
 have ret:∀ hp:Hp,RetOb 0 (fun r h=>r=DB true∧h=[]) (DB true) hp:=fun hp=>RetOb.plain (d:=DB true) ⟨rfl,rfl⟩ rfl
 generalize hR:(fun (r:D) (h:List (Option (List C)))=>r=DB true∧h=[])=R at ret ⊢
 clear hR
 have hrl:((l.map Mm.cells)).length=l.length:=by simp [List.length_map]
 have hrx:∀ (i:Nat) x,l[i]? = some x→True:=fun _ _ _=>trivial
 refine dcZ Try.func21 ?_
 simp only [go_sem,hrl,bne_self_eq_false]
 iterate 4 ((try (refine drvZ Try.func21 ?_;simp only [go_sem,hrl,bne_self_eq_false]));((with_reducible and_intros)<;>try exact sd))
 refine Go.loopQ (fun i:Nat=>[(0,.c (.isl 2 ((l.map Mm.cells)))),(1,.c (.isl 2 ((l.map Mm.cells)))),(5,DI .i64 i)]) (fun _=>[]) 1024 (fun i=>i≤l.length) (fun i=>l.length - i) ?_ 0 some [] _ (by omega) ?_
 ·intro i hi again
  rcases Nat.lt_or_ge i l.length with hlt | hge
  ·obtain ⟨x,hx⟩:∃ x,l[i]? = some x:=⟨l[i],by simp [hlt]⟩
   have hcx:=hc x (List.mem_of_getElem? hx)
   obtain ⟨v0,r0⟩:=x
   have hxl:((l.map Mm.cells))[i]? = some [isI v0,.isl 1 (r0.map fun a=>[isI a])]:=by rw [List.getElem?_map,hx];rfl
   simp only [Mm.cells] at hcx
   generalize hRW:(l.map Mm.cells)=rows at *
   refine drvL Try.func21 ?_
   simp only [go_sem,hrl,hlt,hxl,bne_self_eq_false]
   iterate 6 ((try (refine drvZ Try.func21 ?_;simp only [go_sem,hrl,hlt,hxl,bne_self_eq_false]));((with_reducible and_intros)<;>try exact sd);(try first | refine XK.p hcx ok49 ?_ | refine XK.gp hcx ok49 ?_))
   refine again (i+1) some [] _ hlt (by omega) ?_
   simp only [go_sem,TmOK,DM,DMs,CM,CMs,forall_eq,exists_eq_left,Mq,HpOK,LowOK]
   try simp
  ·have hn:¬ i<l.length:=by omega
   generalize hRW:(l.map Mm.cells)=rows at *
   refine drvL Try.func21 ?_
   simp only [go_sem,hrl,hn]
   iterate 3 ((try (refine drvZ Try.func21 ?_;simp only [go_sem,hrl,hn]));((with_reducible and_intros)<;>try exact sd))
   exact ret _
 ·simp only [go_sem,TmOK,DM,DMs,CM,CMs,forall_eq,exists_eq_left,Mq,HpOK,LowOK]
  try simp
theorem eqInstrOf (x:In)  : DC Try.prog 136 [.agg (inX x),.agg (inX x)] [] (fun r h=>r=DB true∧h=[]):=by
 have hmx:=mx_eq
 have ret:∀ hp:Hp,RetOb 0 (fun r h=>r=DB true∧h=[]) (DB true) hp:=fun hp=>RetOb.plain (d:=DB true) ⟨rfl,rfl⟩ rfl
 generalize hR:(fun (r:D) (h:List (Option (List C)))=>r=DB true∧h=[])=R at ret ⊢
 clear hR
 obtain ⟨op,a,b,c',d⟩:=x
 unfold inX
 refine dcZ Try.func136 ?_
 simp only [go_sem,bne_self_eq_false]
 iterate 14 ((try (refine drvZ Try.func136 ?_;simp only [go_sem,bne_self_eq_false]));((with_reducible and_intros)<;>try exact sd))
 exact ret _
theorem eqCodeOf (c:Cd) (hv:DC Try.prog 48 [.c (isI c.vars),.c (isI c.vars)] [] (fun r h=>r=DB true∧h=[])) (ha:DC Try.prog 48 [.c (isI c.arrays),.c (isI c.arrays)] [] (fun r h=>r=DB true∧h=[])) (hb:DC Try.prog 79 [.c (.isl 5 (c.list.map inX)),.c (.isl 5 (c.list.map inX))] [] (fun r h=>r=DB true∧h=[])):DC Try.prog 20 [.agg (cdC c),.agg (cdC c)] [] (fun r h=>r=DB true∧h=[]):=by
 have hmx:=mx_eq
 have ret:∀ hp:Hp,RetOb 0 (fun r h=>r=DB true∧h=[]) (DB true) hp:=fun hp=>RetOb.plain (d:=DB true) ⟨rfl,rfl⟩ rfl
 generalize hR:(fun (r:D) (h:List (Option (List C)))=>r=DB true∧h=[])=R at ret ⊢
 clear hR
 obtain ⟨vs,ar,l⟩:=c
 simp only [cdC] at *
 refine dcZ Try.func20 ?_
 simp only [go_sem,bne_self_eq_false]
 iterate 14 ((try (refine drvZ Try.func20 ?_;simp only [go_sem,bne_self_eq_false]));((with_reducible and_intros)<;>try exact sd);(try first | refine XK.p hv ok48 ?_ | refine XK.gp hv ok48 ?_ | refine XK.p ha ok48 ?_ | refine XK.gp ha ok48 ?_ | refine XK.p hb ok79 ?_ | refine XK.gp hb ok79 ?_))
 exact ret _
theorem toInstrSOf (l:List (In)) (hl:l.length≤1048576) (hc:∀ x ∈ l,DC Try.prog 132 [.agg (inX x)] [] (fun r h=>r = .agg (inX x)∧h=[])):DC Try.prog 75 [.c (.isl 5 ((l.map inX)))] [] (fun r h=>r = .c (.isl 5 ((l.map inX)))∧h=[]):=by
 have hmx:=mx_eq
 have hrl:((l.map inX)).length=l.length:=by simp [List.length_map]
 have hrw:∀ x ∈ ((l.map inX)),x.length=5:=fun x hx=>by obtain ⟨e,_,rfl⟩:=List.mem_map.1 hx;rfl
 have hrk:∀ x ∈ ((l.map inX)),∀ c ∈ x,kf c=true:=fun x hx=>by obtain ⟨e,_,rfl⟩:=List.mem_map.1 hx;exact in_kf e
 have ret:∀ (k n:Nat) (cs:List C) (hp:Hp),hp k=some (some cs)→cs=((l.map inX)).flatten→n=l.length→RetOb 0 (fun r h=>r = .c (.isl 5 ((l.map inX)))∧h=[]) (.c (.msl k 5 0 n)) hp:=fun k n cs hp h1 h2 h3=>RetOb.frozen (xs:=(l.map inX)) ⟨rfl,rfl⟩ (by rw [h1,h2]) (by rw [h3,hrl]) hrw hrk
 generalize hR:(fun (r:D) (h:List (Option (List C)))=>r = .c (.isl 5 ((l.map inX)))∧h=[])=R at ret ⊢
 clear hR
 have hrx:∀ (i:Nat) x,l[i]? = some x→True:=fun _ _ _=>trivial
 have flr:∀ i,i≤l.length→((((l.map inX)).take i).flatten).length=i * 5:=fun i hi=>by
  have:=List.length_flatten (L:=((l.map inX)).take i)
  rw [this,show ((((l.map inX)).take i).map List.length)=List.replicate i 5 from List.eq_replicate_iff.2 ⟨by simp [hrl];omega,fun b hb=>by obtain ⟨x,hx,rfl⟩:=List.mem_map.1 hb;exact hrw x (List.mem_of_mem_take hx)⟩]
  simp
 have hzk:∀ c ∈ ([I64 0,I64 0,I64 0,I64 0,I64 0]:List C),kf c=true:=by simp [kf]
 have hbk0:∀ c ∈ (List.replicate l.length ([I64 0,I64 0,I64 0,I64 0,I64 0]:List C)).flatten,kf c=true:=fun c hc=>by
  obtain ⟨y,hy,h2⟩:=List.mem_flatten.1 hc
  rw [List.eq_of_mem_replicate hy] at h2
  exact hzk c h2
 refine dcZ Try.func75 ?_
 simp only [go_sem,hrl]
 iterate 4 ((try (refine drvZ Try.func75 ?_;simp only [go_sem,hrl]));((with_reducible and_intros)<;>try exact sd))
 refine Go.loopQ (fun i:Nat=>[(0,.c (.isl 5 ((l.map inX)))),(3,.c (.msl 192 5 0 l.length)),(4,DI .i64 i)]) (fun i=>[(192,some ((((l.map inX)).take i).flatten++(List.replicate (l.length - i) [I64 0,I64 0,I64 0,I64 0,I64 0]).flatten))]) 1024 (fun i=>i≤l.length) (fun i=>l.length - i) ?_ 0 some [] _ (by omega) ?_
 ·intro i hi again
  rcases Nat.lt_or_ge i l.length with hlt | hge
  ·obtain ⟨x,hx⟩:∃ x,l[i]? = some x:=⟨l[i],by simp [hlt]⟩
   have hcx:=hc x (List.mem_of_getElem? hx)
   obtain ⟨o0,a0,b0,c0,d0⟩:=x
   have hxl:((l.map inX))[i]? = some [I64 o0,I64 a0,I64 b0,I64 c0,I64 d0]:=by rw [List.getElem?_map,hx];rfl
   simp only [inX] at hcx
   have hput:=put_row (rows:=((l.map inX)).take i) (zs:=[I64 0,I64 0,I64 0,I64 0,I64 0]) (ds:=[I64 o0,I64 a0,I64 b0,I64 c0,I64 d0]) (m:=l.length - (i+1)) (k:=5) (i:=i) rfl rfl (flr i hi)
   rw [show l.length - (i+1)+1=l.length - i by omega,← (show ((l.map inX)).take (i+1)=((l.map inX)).take i++[[I64 o0,I64 a0,I64 b0,I64 c0,I64 d0]] by rw [List.take_succ_eq_append_getElem (by rw [hrl];exact hlt)];congr 2;exact (List.getElem?_eq_some_iff.1 hxl).2)] at hput
   have hbl:((((l.map inX)).take i).flatten++(List.replicate (l.length - i) [I64 0,I64 0,I64 0,I64 0,I64 0]).flatten).length=l.length * 5:=by
    rw [List.length_append,flr i hi]
    have:((List.replicate (l.length - i) ([I64 0,I64 0,I64 0,I64 0,I64 0]:List C)).flatten).length=(l.length - i) * 5:=by simp
    rw [this];omega
   have hbk:∀ c ∈ (((l.map inX)).take (i+1)).flatten++(List.replicate (l.length - (i+1)) ([I64 0,I64 0,I64 0,I64 0,I64 0]:List C)).flatten,kf c=true:=fun c hc=>by
    rcases List.mem_append.1 hc with h1 | h1
    ·obtain ⟨y,hy,h2⟩:=List.mem_flatten.1 h1
     exact hrk y (List.mem_of_mem_take hy) c h2
    ·obtain ⟨y,hy,h2⟩:=List.mem_flatten.1 h1
     rw [List.eq_of_mem_replicate hy] at h2
     exact hzk c h2
   generalize hB1:(((l.map inX)).take i).flatten++(List.replicate (l.length - i) ([I64 0,I64 0,I64 0,I64 0,I64 0]:List C)).flatten=B1 at *
   generalize hB2:(((l.map inX)).take (i+1)).flatten++(List.replicate (l.length - (i+1)) ([I64 0,I64 0,I64 0,I64 0,I64 0]:List C)).flatten=B2 at *
   generalize hRW:(l.map inX)=rows at *
   refine drvL Try.func75 ?_
   simp only [go_sem,hrl,hlt,hxl]
   iterate 6 ((try (refine drvZ Try.func75 ?_;simp only [go_sem,hrl,hlt,hxl,hput]));((with_reducible and_intros)<;>try exact sd);(try first | refine XK.p hcx ok132 ?_ | refine XK.gp hcx ok132 ?_))
   simp only [putCells] at hput
   refine again (i+1) some [] _ hlt (by omega) ?_
   simp only [go_sem,TmOK,DM,DMs,CM,CMs,forall_eq,exists_eq_left,Mq,HpOK,LowOK,hput,hRW,hB2]
   exact ⟨⟨by simp,CMs.kf hbk⟩,by simp⟩
  ·obtain rfl:i=l.length:=by omega
   have hn:¬ l.length<l.length:=by omega
   have he:(((l.map inX)).take l.length).flatten++(List.replicate (l.length - l.length) ([I64 0,I64 0,I64 0,I64 0,I64 0]:List C)).flatten=((l.map inX)).flatten:=by
    rw [List.take_of_length_le (by rw [hrl];exact Nat.le_refl _),Nat.sub_self];simp
   generalize hB1:(((l.map inX)).take l.length).flatten++(List.replicate (l.length - l.length) ([I64 0,I64 0,I64 0,I64 0,I64 0]:List C)).flatten=B1 at *
   generalize hRW:(l.map inX)=rows at *
   refine drvL Try.func75 ?_
   simp only [go_sem,hrl,hn]
   iterate 3 ((try (refine drvZ Try.func75 ?_;simp only [go_sem,hrl,hn]));((with_reducible and_intros)<;>try exact sd))
   exact ret _ _ _ _ rfl he rfl
 ·simp only [go_sem,TmOK,DM,DMs,CM,CMs,forall_eq,exists_eq_left,Mq,HpOK,LowOK]
  refine ⟨⟨by simp,?_⟩,by simp⟩
  have e0:([]:List (List C)).flatten++(List.replicate l.length ([I64 0,I64 0,I64 0,I64 0,I64 0]:List C)).flatten=(List.replicate l.length ([I64 0,I64 0,I64 0,I64 0,I64 0]:List C)).flatten:=rfl
  exact CMs.kf hbk0
theorem toMemorySOf (l:List (Mm)) (hl:l.length≤1048576) (hc:∀ x ∈ l,DC Try.prog 46 [.agg x.cells] [] (fun r h=>r = .agg x.cells∧h=[])):DC Try.prog 18 [.c (.isl 2 ((l.map Mm.cells)))] [] (fun r h=>r = .c (.isl 2 ((l.map Mm.cells)))∧h=[]):=by
 have hmx:=mx_eq
 have hrl:((l.map Mm.cells)).length=l.length:=by simp [List.length_map]
 have hrw:∀ x ∈ ((l.map Mm.cells)),x.length=2:=fun x hx=>by obtain ⟨e,_,rfl⟩:=List.mem_map.1 hx;rfl
 have hrk:∀ x ∈ ((l.map Mm.cells)),∀ c ∈ x,kf c=true:=fun x hx=>by obtain ⟨e,_,rfl⟩:=List.mem_map.1 hx;exact mem_kf e
 have ret:∀ (k n:Nat) (cs:List C) (hp:Hp),hp k=some (some cs)→cs=((l.map Mm.cells)).flatten→n=l.length→RetOb 0 (fun r h=>r = .c (.isl 2 ((l.map Mm.cells)))∧h=[]) (.c (.msl k 2 0 n)) hp:=fun k n cs hp h1 h2 h3=>RetOb.frozen (xs:=(l.map Mm.cells)) ⟨rfl,rfl⟩ (by rw [h1,h2]) (by rw [h3,hrl]) hrw hrk
 generalize hR:(fun (r:D) (h:List (Option (List C)))=>r = .c (.isl 2 ((l.map Mm.cells)))∧h=[])=R at ret ⊢
 clear hR
 have hrx:∀ (i:Nat) x,l[i]? = some x→True:=fun _ _ _=>trivial
 have flr:∀ i,i≤l.length→((((l.map Mm.cells)).take i).flatten).length=i * 2:=fun i hi=>by
  have:=List.length_flatten (L:=((l.map Mm.cells)).take i)
  rw [this,show ((((l.map Mm.cells)).take i).map List.length)=List.replicate i 2 from List.eq_replicate_iff.2 ⟨by simp [hrl];omega,fun b hb=>by obtain ⟨x,hx,rfl⟩:=List.mem_map.1 hb;exact hrw x (List.mem_of_mem_take hx)⟩]
  simp
 have hzk:∀ c ∈ ([C.v (.slice none 0 0),C.v (.slice none 0 0)]:List C),kf c=true:=by simp [kf]
 have hbk0:∀ c ∈ (List.replicate l.length ([C.v (.slice none 0 0),C.v (.slice none 0 0)]:List C)).flatten,kf c=true:=fun c hc=>by
  obtain ⟨y,hy,h2⟩:=List.mem_flatten.1 hc
  rw [List.eq_of_mem_replicate hy] at h2
  exact hzk c h2
 refine dcZ Try.func18 ?_
 simp only [go_sem,hrl]
 iterate 4 ((try (refine drvZ Try.func18 ?_;simp only [go_sem,hrl]));((with_reducible and_intros)<;>try exact sd))
 refine Go.loopQ (fun i:Nat=>[(0,.c (.isl 2 ((l.map Mm.cells)))),(3,.c (.msl 192 2 0 l.length)),(4,DI .i64 i)]) (fun i=>[(192,some ((((l.map Mm.cells)).take i).flatten++(List.replicate (l.length - i) [C.v (.slice none 0 0),C.v (.slice none 0 0)]).flatten))]) 1024 (fun i=>i≤l.length) (fun i=>l.length - i) ?_ 0 some [] _ (by omega) ?_
 ·intro i hi again
  rcases Nat.lt_or_ge i l.length with hlt | hge
  ·obtain ⟨x,hx⟩:∃ x,l[i]? = some x:=⟨l[i],by simp [hlt]⟩
   have hcx:=hc x (List.mem_of_getElem? hx)
   obtain ⟨v0,r0⟩:=x
   have hxl:((l.map Mm.cells))[i]? = some [isI v0,.isl 1 (r0.map fun a=>[isI a])]:=by rw [List.getElem?_map,hx];rfl
   simp only [Mm.cells] at hcx
   have hput:=put_row (rows:=((l.map Mm.cells)).take i) (zs:=[C.v (.slice none 0 0),C.v (.slice none 0 0)]) (ds:=[isI v0,.isl 1 (r0.map fun a=>[isI a])]) (m:=l.length - (i+1)) (k:=2) (i:=i) rfl rfl (flr i hi)
   rw [show l.length - (i+1)+1=l.length - i by omega,← (show ((l.map Mm.cells)).take (i+1)=((l.map Mm.cells)).take i++[[isI v0,.isl 1 (r0.map fun a=>[isI a])]] by rw [List.take_succ_eq_append_getElem (by rw [hrl];exact hlt)];congr 2;exact (List.getElem?_eq_some_iff.1 hxl).2)] at hput
   have hbl:((((l.map Mm.cells)).take i).flatten++(List.replicate (l.length - i) [C.v (.slice none 0 0),C.v (.slice none 0 0)]).flatten).length=l.length * 2:=by
    rw [List.length_append,flr i hi]
    have:((List.replicate (l.length - i) ([C.v (.slice none 0 0),C.v (.slice none 0 0)]:List C)).flatten).length=(l.length - i) * 2:=by simp
    rw [this];omega
   have hbk:∀ c ∈ (((l.map Mm.cells)).take (i+1)).flatten++(List.replicate (l.length - (i+1)) ([C.v (.slice none 0 0),C.v (.slice none 0 0)]:List C)).flatten,kf c=true:=fun c hc=>by
    rcases List.mem_append.1 hc with h1 | h1
    ·obtain ⟨y,hy,h2⟩:=List.mem_flatten.1 h1
     exact hrk y (List.mem_of_mem_take hy) c h2
    ·obtain ⟨y,hy,h2⟩:=List.mem_flatten.1 h1
     rw [List.eq_of_mem_replicate hy] at h2
     exact hzk c h2
   generalize hB1:(((l.map Mm.cells)).take i).flatten++(List.replicate (l.length - i) ([C.v (.slice none 0 0),C.v (.slice none 0 0)]:List C)).flatten=B1 at *
   generalize hB2:(((l.map Mm.cells)).take (i+1)).flatten++(List.replicate (l.length - (i+1)) ([C.v (.slice none 0 0),C.v (.slice none 0 0)]:List C)).flatten=B2 at *
   generalize hRW:(l.map Mm.cells)=rows at *
   refine drvL Try.func18 ?_
   simp only [go_sem,hrl,hlt,hxl]
   iterate 6 ((try (refine drvZ Try.func18 ?_;simp only [go_sem,hrl,hlt,hxl,hput]));((with_reducible and_intros)<;>try exact sd);(try first | refine XK.p hcx ok46 ?_ | refine XK.gp hcx ok46 ?_))
   simp only [putCells,isI] at hput
   refine again (i+1) some [] _ hlt (by omega) ?_
   simp only [go_sem,TmOK,DM,DMs,CM,CMs,forall_eq,exists_eq_left,Mq,HpOK,LowOK,hput,hRW,hB2]
   exact ⟨⟨by simp,CMs.kf hbk⟩,by simp⟩
  ·obtain rfl:i=l.length:=by omega
   have hn:¬ l.length<l.length:=by omega
   have he:(((l.map Mm.cells)).take l.length).flatten++(List.replicate (l.length - l.length) ([C.v (.slice none 0 0),C.v (.slice none 0 0)]:List C)).flatten=((l.map Mm.cells)).flatten:=by
    rw [List.take_of_length_le (by rw [hrl];exact Nat.le_refl _),Nat.sub_self];simp
   generalize hB1:(((l.map Mm.cells)).take l.length).flatten++(List.replicate (l.length - l.length) ([C.v (.slice none 0 0),C.v (.slice none 0 0)]:List C)).flatten=B1 at *
   generalize hRW:(l.map Mm.cells)=rows at *
   refine drvL Try.func18 ?_
   simp only [go_sem,hrl,hn]
   iterate 3 ((try (refine drvZ Try.func18 ?_;simp only [go_sem,hrl,hn]));((with_reducible and_intros)<;>try exact sd))
   exact ret _ _ _ _ rfl he rfl
 ·simp only [go_sem,TmOK,DM,DMs,CM,CMs,forall_eq,exists_eq_left,Mq,HpOK,LowOK]
  refine ⟨⟨by simp,?_⟩,by simp⟩
  have e0:([]:List (List C)).flatten++(List.replicate l.length ([C.v (.slice none 0 0),C.v (.slice none 0 0)]:List C)).flatten=(List.replicate l.length ([C.v (.slice none 0 0),C.v (.slice none 0 0)]:List C)).flatten:=rfl
  exact CMs.kf hbk0
theorem toInstrOf (x:In)  : DC Try.prog 132 [.agg (inX x)] [] (fun r h=>r = .agg (inX x)∧h=[]):=by
 have hmx:=mx_eq
 obtain ⟨op,a,b,c',d⟩:=x
 unfold inX
 refine dcZ Try.func132 ?_
 simp only [go_sem]
 iterate 14 ((try (refine drvZ Try.func132 ?_;simp only [go_sem]));((with_reducible and_intros)<;>try exact sd))
 refine RetOb.ofQ (fun _=>none) [] (.agg [I64 op,I64 a,I64 b,I64 c',I64 d]) [] ?_ ⟨rfl,rfl⟩ (by simp)
 all_goals simp [Pg.cells,Mm.cells,St1.cells,Ex.cells,isI,enumL,DM,DMs,CM,CMs,HpOK,LowOK,hOf,upd,kf]
theorem toCodeOf (c:Cd) (hv:DC Try.prog 74 [.c (isI c.vars)] [] (fun r h=>r = .c (isI c.vars)∧h=[])) (ha:DC Try.prog 74 [.c (isI c.arrays)] [] (fun r h=>r = .c (isI c.arrays)∧h=[])) (hb:DC Try.prog 75 [.c (.isl 5 (c.list.map inX))] [] (fun r h=>r = .c (.isl 5 (c.list.map inX))∧h=[])):DC Try.prog 17 [.agg (cdC c)] [] (fun r h=>r = .agg (cdC c)∧h=[]):=by
 have hmx:=mx_eq
 obtain ⟨vs,ar,l⟩:=c
 simp only [cdC] at *
 refine dcZ Try.func17 ?_
 simp only [go_sem]
 iterate 14 ((try (refine drvZ Try.func17 ?_;simp only [go_sem]));((with_reducible and_intros)<;>try exact sd);(try first | refine XK.p hv ok74 ?_ | refine XK.gp hv ok74 ?_ | refine XK.p ha ok74 ?_ | refine XK.gp ha ok74 ?_ | refine XK.p hb ok75 ?_ | refine XK.gp hb ok75 ?_))
 refine RetOb.ofQ (fun _=>none) [] (.agg [isI vs,isI ar,.isl 5 (l.map inX)]) [] ?_ ⟨rfl,rfl⟩ (by simp)
 all_goals simp [Pg.cells,Mm.cells,St1.cells,Ex.cells,isI,enumL,DM,DMs,CM,CMs,HpOK,LowOK,hOf,upd,kf]
theorem szCodeOf (c : Cd) (hv : ∀ left : Int, 0 ≤ left → left ≤ 1048576 → DC Try.prog 66 [.c (isI c.vars), DI .i64 left] [] (fun r h => r = DI .i64 (subZ left (c.vars.length)) ∧ h = [])) (ha : ∀ left : Int, 0 ≤ left → left ≤ 1048576 → DC Try.prog 66 [.c (isI c.arrays), DI .i64 left] [] (fun r h => r = DI .i64 (subZ left (c.arrays.length)) ∧ h = [])) (hb : ∀ left : Int, 0 ≤ left → left ≤ 1048576 → DC Try.prog 67 [.c (.isl 5 (c.list.map inX)), DI .i64 left] [] (fun r h => r = DI .i64 (subZ left (c.list.length)) ∧ h = [])) (left : Int) (h0 : 0 ≤ left) (h1 : left ≤ 1048576) :
 DC Try.prog 14 [.agg (cdC c),DI .i64 left] [] (fun r h=>r=DI .i64 (subZ left (c.vars.length+c.arrays.length+c.list.length))∧h=[]):=by
 have hmx:=mx_eq
 have ret:∀ (u:Int) (hp:Hp),u=subZ left (c.vars.length+c.arrays.length+c.list.length)→RetOb 0 (fun r h=>r=DI .i64 (subZ left (c.vars.length+c.arrays.length+c.list.length))∧h=[]) (DI .i64 u) hp:=fun u hp h=>RetOb.plain (d:=DI .i64 _) ⟨by rw [h],rfl⟩ rfl
 generalize hR:(fun (r:D) (h:List (Option (List C)))=>r=DI .i64 (subZ left (c.vars.length+c.arrays.length+c.list.length))∧h=[])=R at ret ⊢
 clear hR
 obtain ⟨vs,ar,l⟩:=c
 simp only [cdC] at *
 generalize hz1:vs.length=z1 at *
 generalize hz2:ar.length=z2 at *
 generalize hz3:l.length=z3 at *
 have k0:=hv (left) (by omega) (by omega)
 by_cases q0:((z1:Nat):Int)≤left
 ·rw [subZ,if_pos q0] at k0
  have g0:(left - ((z1:Nat):Int)<0)=False:=eq_false (by omega)
  have k1:=ha (left - ((z1:Nat):Int)) (by omega) (by omega)
  by_cases q1:((z2:Nat):Int)≤left - ((z1:Nat):Int)
  ·rw [subZ,if_pos q1] at k1
   have g1:(left - ((z1:Nat):Int) - ((z2:Nat):Int)<0)=False:=eq_false (by omega)
   have k2:=hb (left - ((z1:Nat):Int) - ((z2:Nat):Int)) (by omega) (by omega)
   by_cases q2:((z3:Nat):Int)≤left - ((z1:Nat):Int) - ((z2:Nat):Int)
   ·rw [subZ,if_pos q2] at k2
    have g2:(left - ((z1:Nat):Int) - ((z2:Nat):Int) - ((z3:Nat):Int)<0)=False:=eq_false (by omega)
    refine dcZ Try.func14 ?_
    simp only [go_sem,g0,g1,g2]
    iterate 13 ((try (refine drvZ Try.func14 ?_;simp only [go_sem,g0,g1,g2]));((with_reducible and_intros)<;>try exact sd);(try first | refine XK.p k0 ok66 ?_ | refine XK.gp k0 ok66 ?_ | refine XK.p k1 ok66 ?_ | refine XK.gp k1 ok66 ?_ | refine XK.p k2 ok67 ?_ | refine XK.gp k2 ok67 ?_))
    exact ret _ _ (by rw [subZ,if_pos (by omega)]<;>omega)
   ·rw [subZ,if_neg q2] at k2
    refine dcZ Try.func14 ?_
    simp only [go_sem,g0,g1]
    iterate 13 ((try (refine drvZ Try.func14 ?_;simp only [go_sem,g0,g1]));((with_reducible and_intros)<;>try exact sd);(try first | refine XK.p k0 ok66 ?_ | refine XK.gp k0 ok66 ?_ | refine XK.p k1 ok66 ?_ | refine XK.gp k1 ok66 ?_ | refine XK.p k2 ok67 ?_ | refine XK.gp k2 ok67 ?_))
    exact ret _ _ (by rw [subZ,if_neg (by omega)])
  ·rw [subZ,if_neg q1] at k1
   refine dcZ Try.func14 ?_
   simp only [go_sem,g0]
   iterate 13 ((try (refine drvZ Try.func14 ?_;simp only [go_sem,g0]));((with_reducible and_intros)<;>try exact sd);(try first | refine XK.p k0 ok66 ?_ | refine XK.gp k0 ok66 ?_ | refine XK.p k1 ok66 ?_ | refine XK.gp k1 ok66 ?_))
   exact ret _ _ (by rw [subZ,if_neg (by omega)])
 ·rw [subZ,if_neg q0] at k0
  refine dcZ Try.func14 ?_
  simp only [go_sem]
  iterate 13 ((try (refine drvZ Try.func14 ?_;simp only [go_sem]));((with_reducible and_intros)<;>try exact sd);(try first | refine XK.p k0 ok66 ?_ | refine XK.gp k0 ok66 ?_))
  exact ret _ _ (by rw [subZ,if_neg (by omega)])
theorem szMemorySOf (l : List (Mm)) (hl : l.length ≤ mx) (hc : ∀ x ∈ l, ∀ left : Int, 0 ≤ left → left ≤ 1048576 → DC Try.prog 44 [.agg x.cells, DI .i64 left] [] (fun r h => r = DI .i64 (subZ left (szM x)) ∧ h = [])) (left : Int) (h0 : 0 ≤ left) (h1 : left ≤ 1048576) :
 DC Try.prog 15 [.c (.isl 2 ((l.map Mm.cells))),DI .i64 left] [] (fun r h=>r=DI .i64 (subZ left (szML l))∧h=[]):=by
 have hmx:=mx_eq
 have ret:∀ (v:Int) (hp:Hp),v=subZ left (szML l)→RetOb 0 (fun r h=>r=DI .i64 (subZ left (szML l))∧h=[]) (DI .i64 v) hp:=fun v hp h=>RetOb.plain (d:=DI .i64 _) ⟨by rw [h],rfl⟩ rfl
 generalize hR:(fun (r:D) (h:List (Option (List C)))=>r=DI .i64 (subZ left (szML l))∧h=[])=R at ret ⊢
 clear hR
 rw [szML_eq,sum_split] at ret
 have hrl:((l.map Mm.cells)).length=l.length:=by simp [List.length_map]
 by_cases hq:(l.length:Int)≤left
 ·have g:(left - (l.length:Int)<0)=False:=eq_false (by omega)
  refine dcZ Try.func15 ?_
  simp only [go_sem,hrl,g]
  iterate 4 ((try (refine drvZ Try.func15 ?_;simp only [go_sem,hrl,g]));((with_reducible and_intros)<;>try exact sd))
  refine Go.loopQ (fun i:Nat=>[(0,.c (.isl 2 ((l.map Mm.cells)))),(1,DI .i64 (left - l.length - ((l.take i).map (szM)).sum)),(5,DI .i64 i)]) (fun _=>[]) 1024 (fun i=>i≤l.length∧(l.length+((l.take i).map (szM)).sum:Int)≤left) (fun i=>l.length - i) ?_ 0 some [] _ ⟨by omega,by simpa using hq⟩ ?_
  ·rintro i ⟨hi,hI⟩ again
   rcases Nat.lt_or_ge i l.length with hlt | hge
   ·obtain ⟨x,hx⟩:∃ x,l[i]? = some x:=⟨l[i],by simp [hlt]⟩
    have hst:=sum_take (szM) hx
    have hcx:=hc x (List.mem_of_getElem? hx) (left - l.length - ((l.take i).map (szM)).sum) (by omega) (by omega)
    generalize hB:((l.take i).map (szM)).sum=B at *
    have hB2:=hst.1
    have hB3:=hst.2
    by_cases hq2:(szM x:Int)≤left - l.length - B
    ·rw [subZ,if_pos hq2] at hcx
     have g2:(left - (l.length:Int) - (B:Int) - (szM x:Int)<0)=False:=eq_false (by omega)
     have hnx:left - (l.length:Int) - (((l.take (i+1)).map (szM)).sum:Int)=left - l.length - B - szM x:=by rw [hB2];omega
     generalize szM x=z at *
     obtain ⟨v0,r0⟩:=x
     have hxl:((l.map Mm.cells))[i]? = some [isI v0,.isl 1 (r0.map fun a=>[isI a])]:=by rw [List.getElem?_map,hx];rfl
     simp only [Mm.cells] at hcx
     generalize hRW:(l.map Mm.cells)=rows at *
     refine drvL Try.func15 ?_
     simp only [go_sem,hrl,hlt,hxl]
     iterate 6 ((try (refine drvZ Try.func15 ?_;simp only [go_sem,hrl,hlt,hxl,g2]));((with_reducible and_intros)<;>try exact sd);(try first | refine XK.p hcx ok44 ?_ | refine XK.gp hcx ok44 ?_))
     refine again (i+1) some [] _ ⟨hlt,by omega⟩ (by omega) ?_
     simp only [go_sem,TmOK,DM,DMs,CM,CMs,forall_eq,exists_eq_left,Mq,HpOK,LowOK]
     simp only [List.map_take] at hnx
     simp [hnx]
    ·rw [subZ,if_neg hq2] at hcx
     have htot:¬ ((l.length+(l.map (szM)).sum:Nat):Int)≤left:=by omega
     generalize szM x=z at *
     obtain ⟨v0,r0⟩:=x
     have hxl:((l.map Mm.cells))[i]? = some [isI v0,.isl 1 (r0.map fun a=>[isI a])]:=by rw [List.getElem?_map,hx];rfl
     simp only [Mm.cells] at hcx
     generalize hRW:(l.map Mm.cells)=rows at *
     refine drvL Try.func15 ?_
     simp only [go_sem,hrl,hlt,hxl]
     iterate 6 ((try (refine drvZ Try.func15 ?_;simp only [go_sem,hrl,hlt,hxl]));((with_reducible and_intros)<;>try exact sd);(try first | refine XK.p hcx ok44 ?_ | refine XK.gp hcx ok44 ?_))
     exact ret _ _ (by rw [subZ,if_neg htot])
   ·obtain rfl:i=l.length:=by omega
    have hn:¬ l.length<l.length:=by omega
    rw [List.take_length] at hI
    generalize hRW:(l.map Mm.cells)=rows at *
    simp only [List.take_length]
    refine drvL Try.func15 ?_
    simp only [go_sem,hrl,hn]
    iterate 3 ((try (refine drvZ Try.func15 ?_;simp only [go_sem,hrl,hn]));((with_reducible and_intros)<;>try exact sd))
    exact ret _ _ (by rw [subZ,if_pos (by omega)];omega)
  ·simp only [go_sem,TmOK,DM,DMs,CM,CMs,forall_eq,exists_eq_left,Mq,HpOK,LowOK]
   try simp
 ·have g:(left - (l.length:Int)<0)=True:=eq_true (by omega)
  refine dcZ Try.func15 ?_
  simp only [go_sem,hrl,g]
  iterate 4 ((try (refine drvZ Try.func15 ?_;simp only [go_sem,hrl,g]));((with_reducible and_intros)<;>try exact sd))
  exact ret _ _ (by rw [subZ,if_neg (by omega)])
theorem szCode_c (c:Cd) (hb:CdB c) (left:Int) (h0:0≤left) (h1:left≤1048576):DC Try.prog 14 [.agg (cdC c),DI .i64 left] [] (fun r h=>r=DI .i64 (subZ left (szC c))∧h=[]) :=
 szCodeOf c (fun l a b=>szIntS c.vars hb.nv l a b) (fun l a b=>szIntS c.arrays hb.na l a b) (fun l a b=>szInstrS c.list hb.nl l a b) left h0 h1
theorem toCode_c (c:Cd) (hb:CdN c):DC Try.prog 17 [.agg (cdC c)] [] (fun r h=>r = .agg (cdC c)∧h=[]) :=
 toCodeOf c (toIntST c.vars hb.nv) (toIntST c.arrays hb.na) (toInstrSOf c.list hb.nl fun x _=>toInstrOf x)
theorem eqCode_c (c:Cd) (hb:CdB c):DC Try.prog 20 [.agg (cdC c),.agg (cdC c)] [] (fun r h=>r=DB true∧h=[]) :=
 eqCodeOf c (eqIntST c.vars hb.nv) (eqIntST c.arrays hb.na) (eqInstrSOf c.list hb.nl fun x _=>eqInstrOf x)
theorem szMemoryS_c (l:List Mm) (hl:l.length≤mx) (hb:∀ m ∈ l,MmB m) (left:Int) (h0:0≤left) (h1:left≤1048576):DC Try.prog 15 [.c (.isl 2 (l.map Mm.cells)),DI .i64 left] [] (fun r h=>r=DI .i64 (subZ left (szML l))∧h=[]) :=
 szMemorySOf l hl (fun x hx left a b=>szMemory_c x (hb x hx) left a b) left h0 h1
theorem toMemoryS_c (l:List Mm) (hl:l.length≤1048576) (hb:∀ m ∈ l,MmN m):DC Try.prog 18 [.c (.isl 2 (l.map Mm.cells))] [] (fun r h=>r = .c (.isl 2 (l.map Mm.cells))∧h=[]) :=
 toMemorySOf l hl fun x hx=>toMemory_c x (hb x hx)
theorem eqMemoryS_c (l:List Mm) (hl:l.length≤mx) (hb:∀ m ∈ l,MmB m):DC Try.prog 21 [.c (.isl 2 (l.map Mm.cells)),.c (.isl 2 (l.map Mm.cells))] [] (fun r h=>r=DB true∧h=[]) :=
 eqMemorySOf l hl fun x hx=>eqMemory_c x (hb x hx)
open CtL (In Cd)
def TC (t:TypeId):Prop:=t ∈ ([3,22,63,158,23,25,65,26]:List TypeId)
theorem celX5:Try.prog.cellsOf 158=5:=by kernel_rfl
theorem celX6:Try.prog.cellsOf 65=2:=by kernel_rfl
theorem clC:Cl Try.prog TC:=⟨fun t ht=>by
 simp only [TC,List.mem_cons,List.not_mem_nil,or_false] at ht
 rcases ht with rfl | rfl | rfl | rfl | rfl | rfl | rfl | rfl
 ·exact .inl ⟨_,Try.underlying3⟩
 ·exact .inr (.inr (.inl ⟨_,Try.underlying22,by simp [TC],of_decide_eq_true (by kernel_rfl),of_decide_eq_true (by kernel_rfl)⟩))
 ·exact .inr (.inr (.inl ⟨_,Try.underlying63,by simp [TC],of_decide_eq_true (by kernel_rfl),of_decide_eq_true (by kernel_rfl)⟩))
 ·exact .inr (.inr (.inr ⟨_,Try.underlying158,by kernel_rfl,by simp [TC]⟩))
 ·exact .inr (.inr (.inl ⟨_,Try.underlying23,by simp [TC],of_decide_eq_true (by kernel_rfl),of_decide_eq_true (by kernel_rfl)⟩))
 ·exact .inr (.inr (.inr ⟨_,Try.underlying25,by kernel_rfl,by simp [TC]⟩))
 ·exact .inr (.inr (.inr ⟨_,Try.underlying65,by kernel_rfl,by simp [TC]⟩))
 ·exact .inr (.inr (.inl ⟨_,Try.underlying26,by simp [TC],of_decide_eq_true (by kernel_rfl),of_decide_eq_true (by kernel_rfl)⟩))⟩
theorem sh_instr {ks:List C} (h:Sh Try.prog 158 ks):∃ x:In,ks=inX x∧True:=by
 obtain ⟨kss,rfl,hl,hx⟩:=h.st_of Try.underlying158
 match kss,hl,hx with
 | [a,b,c,d,e],_,hx =>
  obtain ⟨n0,rfl,_⟩:=sh_int (hx 0 _ a rfl rfl)
  obtain ⟨n1,rfl,_⟩:=sh_int (hx 1 _ b rfl rfl)
  obtain ⟨n2,rfl,_⟩:=sh_int (hx 2 _ c rfl rfl)
  obtain ⟨n3,rfl,_⟩:=sh_int (hx 3 _ d rfl rfl)
  obtain ⟨n4,rfl,_⟩:=sh_int (hx 4 _ e rfl rfl)
  exact ⟨⟨n0,n1,n2,n3,n4⟩,rfl,trivial⟩
theorem sh_code {ks:List C} (h:Sh Try.prog 25 ks):∃ c:Cd,ks=cdC c∧CdB c:=by
 obtain ⟨kss,rfl,hl,hx⟩:=h.st_of Try.underlying25
 match kss,hl,hx with
 | [a,b,c],_,hx =>
  obtain ⟨vs,rfl,h1⟩:=sh_ints (hx 0 _ a rfl rfl)
  obtain ⟨ar,rfl,h2⟩:=sh_ints (hx 1 _ b rfl rfl)
  obtain ⟨l,rfl,h3,_⟩:=(hx 2 _ c rfl rfl).rows_of (f:=inX) (Q:=fun _=>True) Try.underlying23 fun r hr=>sh_instr hr
  exact ⟨⟨vs,ar,l⟩,by rw [celX5];rfl,⟨h1,h2,h3⟩⟩
theorem sh_mems {ks:List C} (h:Sh Try.prog 26 ks):∃ l:List Mm,ks=[.isl 2 (l.map Mm.cells)]∧l.length≤mx∧∀ m ∈ l,MmB m:=by
 obtain ⟨l,rfl,h1,h2⟩:=h.rows_of (f:=Mm.cells) (Q:=MmB) Try.underlying26 fun r hr=>sh_mem hr
 exact ⟨l,by rw [celX6],h1,h2⟩
theorem TL.nil {tm:Nat→Option D}:∀ p ∈ ([]:List (Nat × D)),tm p.1=some p.2∧WsD p.2:=fun p h=>by simp at h
theorem TL.cons {tm:Nat→Option D} {n:Nat} {d:D} {l:List (Nat × D)} (h1:tm n=some d) (h2:WsD d) (h:∀ p ∈ l,tm p.1=some p.2∧WsD p.2):∀ p ∈ (n,d) :: l,tm p.1=some p.2∧WsD p.2:=fun p hp=>by
 rcases List.mem_cons.1 hp with rfl | hp
 ·exact ⟨h1,h2⟩
 ·exact h p hp
theorem ML.nil {hT:Hp} {tm:Nat→Option D}:∀ p ∈ ([]:List (Nat × D)),∃ d,tm p.1=some d∧SmD hT d p.2:=fun p h=>by simp at h
theorem ML.cons {hT:Hp} {tm:Nat→Option D} {n:Nat} {d0 d:D} {l:List (Nat × D)} (h1:tm n=some d0) (h2:SmD hT d0 d) (h:∀ p ∈ l,∃ d,tm p.1=some d∧SmD hT d p.2):∀ p ∈ (n,d) :: l,∃ d,tm p.1=some d∧SmD hT d p.2:=fun p hp=>by
 rcases List.mem_cons.1 hp with rfl | hp
 ·exact ⟨d0,h1,h2⟩
 ·exact h p hp
theorem HL.nil {hT hp:Hp}:∀ p ∈ ([]:List (Nat × Option (List C))),∃ cs cs',hp p.1=some (some cs)∧p.2=some cs'∧Sms hT cs cs':=fun p h=>by simp at h
theorem HL.cons {hT hp : Hp} {n : Nat} {cs0 cs1 : List C} {l : List (Nat × Option (List C))} (h1 : hp n = some (some cs0)) (h2 : Sms hT cs0 cs1) (h : ∀ p ∈ l, ∃ cs cs', hp p.1 = some (some cs) ∧ p.2 = some cs' ∧ Sms hT cs cs') :
 ∀ p ∈ (n,some cs1) :: l,∃ cs cs',hp p.1=some (some cs)∧p.2=some cs'∧Sms hT cs cs':=fun p hp=>by
 rcases List.mem_cons.1 hp with rfl | hp
 ·exact ⟨cs0,cs1,h1,rfl,h2⟩
 ·exact h p hp
end Go.Proofs.Ytddanjifhdaebaa.CtD
