/- Contracts of functions of the program, one behind the other, as plain data: what each call returns and which blocks it leaves. -/
import Derived.Test.YtoakidkcppinpaaGreatDFacts
import Derived.Test.YtoakidkcppinpaaGreatDAi
import Derived.Test.YtoakidkcppinpaaGreatDAl
import Derived.Test.YtoakidkcppinpaaGreatDAn
import Derived.Test.YtoakidkcppinpaaGreatDAp
import Derived.Test.YtoakidkcppinpaaGreatDAq
import Derived.Test.YtoakidkcppinpaaGreatDAs
import Derived.Test.YtoakidkcppinpaaGreatDAt
import Derived.Test.YtoakidkcppinpaaGreatDAu
import Derived.Test.YtoakidkcppinpaaGreatDAw
import Derived.Test.YtoakidkcppinpaaGreatDAx
import Derived.Test.YtoakidkcppinpaaGreatDAz
import Derived.Test.YtoakidkcppinpaaGreatDBb
import Derived.Test.YtoakidkcppinpaaGreatDAo
import Derived.Test.YtoakidkcppinpaaGreatDBa
import Derived.Test.YtoakidkcppinpaaGreatDAm
import Derived.Test.YtoakidkcppinpaaGreatDAk
import Derived.Test.YtoakidkcppinpaaGreatDAy
set_option linter.unusedVariables false
set_option linter.unusedSimpArgs false
set_option linter.unusedSectionVars false
set_option maxHeartbeats 16000000
set_option maxRecDepth 100000
namespace Go.Proofs.YtoakidkcppinpaaGreat.CtD
open Go Go.CT CtF CtR
variable [Yn]
open CtL (In Cd kindsOf topOf fOK inOK endOK codeOK atC halt runC)
theorem cvFnG (c : Cd) (h1 : c.vars.length ≤ mx) (h2 : c.arrays.length ≤ mx) (h3 : c.list.length ≤ mx) (x : In) :
 DC Tryz.prog 61 [.agg (inX x),.c (.eptr (cdC c))] [] (fun r h=>r=DB (!inOK c.vars.length c.arrays.length c.list.length x)∧h=[]):=by
 have hio:=instrOkG c h1 h2 h3 x
 generalize inOK c.vars.length c.arrays.length c.list.length x=B at *
 unfold cdC at hio ⊢
 obtain ⟨op,a,b,c',d⟩:=x
 unfold inX at hio ⊢
 refine dcZ Tryz.func61 ?_
 simp only [go_sem]
 iterate 4 ((try (refine drvZ Tryz.func61 ?_;simp only [go_sem]));((with_reducible and_intros)<;>try exact sd);(try first | refine XK.p hio ok62 ?_ | refine XK.gp hio ok62 ?_))
 exact RetOb.plain (d:=DB (!B)) ⟨rfl,rfl⟩ rfl
def ixB (p : In → Bool) : List In → Int → Int
 | [],_ => -1
 | x :: r,n=>if p x then ixB p r (n+1) else n
theorem ixB_all (p : In → Bool) : ∀ (l : List In) (n : Int), 0 ≤ n → decide (0 ≤ ixB p l n) = !l.all p
 | [],n,h=>rfl
 | x :: r,n,h=>by
  cases hx:p x with
  | true=>simp only [ixB,hx,if_true,List.all_cons,Bool.true_and];exact ixB_all p r (n+1) (by omega)
  | false=>simp [ixB,hx,h]
theorem indexFuncG (cc : List C) (p : In → Bool) (xs : List In) (hl : xs.length ≤ mx) (hg : ∀ x, DC Tryz.prog 61 [.agg (inX x), .c (.eptr cc)] [] (fun r h => r = DB (!p x) ∧ h = [])) :
 DC Tryz.prog 66 [.c (.isl 5 (xs.map inX)),.c (.clo 61 [.eptr cc])] [] (fun d h=>d=DI .i64 (ixB p xs 0)∧h=[]):=by
 have hmx:=mx_eq
 have ret:∀ (v:Int) (hp:Hp),v=ixB p xs 0→RetOb 0 (fun d h=>d=DI .i64 (ixB p xs 0)∧h=[]) (DI .i64 v) hp:=fun v hp h=>RetOb.plain (d:=DI .i64 _) ⟨by rw [h],rfl⟩ rfl
 generalize hR:(fun (d:D) (h:List (Option (List C)))=>d=DI .i64 (ixB p xs 0)∧h=[])=R at ret ⊢
 clear hR
 refine dcZ Tryz.func66 ?_
 simp only [go_sem]
 ((try (refine drvZ Tryz.func66 ?_;simp only [go_sem]));((with_reducible and_intros)<;>try exact sd))
 refine Go.loopQ (fun i:Nat=>[(0,.c (.isl 5 (xs.map inX))),(1,.c (.clo 61 [.eptr cc])),(7,DI .i64 xs.length),(8,DI .i64 i)]) (fun _=>[]) 1024 (fun i=>i≤xs.length∧ixB p (xs.drop i) i=ixB p xs 0) (fun i=>xs.length - i) ?_ 0 some [] _ ⟨Nat.zero_le _,rfl⟩ ?_
 ·rintro i ⟨hi,hI⟩ again
  rcases Nat.lt_or_ge i xs.length with hlt | hge
  ·obtain ⟨x,hx⟩:∃ x,xs[i]? = some x:=⟨xs[i],by simp [hlt]⟩
   have hgx:=hg x
   rw [List.drop_eq_getElem_cons hlt,(List.getElem?_eq_some_iff.1 hx).2] at hI
   cases hpx:p x with
   | true =>
    rw [hpx] at hgx
    simp only [ixB,hpx,if_true] at hI
    obtain ⟨op,a,b,c,d⟩:=x
    simp only [inX] at hgx
    refine drvL Tryz.func66 ?_
    simp only [go_sem,hx,hlt,inX]
    iterate 5 ((try (refine drvZ Tryz.func66 ?_;simp only [go_sem,hx,hlt,inX]));((with_reducible and_intros)<;>try exact sd);(try first | refine XK.p hgx ok61 ?_ | refine XK.gp hgx ok61 ?_))
    refine again (i+1) some [] _ ⟨hlt,by rw [← hI];rfl⟩ (by omega) ?_
    simp only [go_sem,TmOK,DM,DMs,CM,CMs,forall_eq,exists_eq_left,Mq,HpOK,LowOK]
    first | done | (simp;done) | (simp;exact CM.kf rfl) | exact CM.kf rfl
   | false =>
    rw [hpx] at hgx
    simp only [ixB,hpx] at hI
    obtain ⟨op,a,b,c,d⟩:=x
    simp only [inX] at hgx
    refine drvL Tryz.func66 ?_
    simp only [go_sem,hx,hlt,inX]
    iterate 5 ((try (refine drvZ Tryz.func66 ?_;simp only [go_sem,hx,hlt,inX]));((with_reducible and_intros)<;>try exact sd);(try first | refine XK.p hgx ok61 ?_ | refine XK.gp hgx ok61 ?_))
    exact ret _ _ (by rw [← hI];rfl)
  ·have hn:¬ i<xs.length:=by omega
   have e1:xs.drop i=[]:=List.drop_of_length_le (by omega)
   refine drvL Tryz.func66 ?_
   simp only [go_sem,hn]
   iterate 3 ((try (refine drvZ Tryz.func66 ?_;simp only [go_sem,hn]));((with_reducible and_intros)<;>try exact sd))
   exact ret _ _ (by rw [← hI,e1];rfl)
 ·simp only [go_sem,TmOK,DM,DMs,CM,CMs,forall_eq,exists_eq_left,Mq,HpOK,LowOK]
  first | done | (simp;done) | (simp;exact CM.kf rfl) | exact CM.kf rfl
theorem containsFuncG (cc : List C) (p : In → Bool) (xs : List In) (hl : xs.length ≤ mx) (hg : ∀ x, DC Tryz.prog 61 [.agg (inX x), .c (.eptr cc)] [] (fun r h => r = DB (!p x) ∧ h = [])) :
 DC Tryz.prog 38 [.c (.isl 5 (xs.map inX)),.c (.clo 61 [.eptr cc])] [] (fun d h=>d=DB (!xs.all p)∧h=[]):=by
 have hif:=indexFuncG cc p xs hl hg
 have hal:=ixB_all p xs 0 (by omega)
 generalize ixB p xs 0=k at *
 refine dcZ Tryz.func38 ?_
 simp only [go_sem]
 iterate 3 ((try (refine drvZ Tryz.func38 ?_;simp only [go_sem]));((with_reducible and_intros)<;>try exact sd);(try first | refine XK.p hif ok66 ?_ | refine XK.gp hif ok66 ?_))
 exact RetOb.plain (d:=DB _) ⟨by rw [← hal],rfl⟩ rfl
theorem codeValidG0 (c:Cd) (h1:c.vars.length≤2000000) (h2:c.arrays.length≤2000000) (h3:c.list.length≤100000000) (h:codeOK c=false):DC Tryz.prog 32 [.agg (cdC c)] [] (fun r h=>r=DB false∧h=[]):=by
 have hmx:=mx_eq
 have hfn:=fun x=>cvFnG c (by omega) (by omega) (by omega) x
 have ret:∀ hp:Hp,RetOb 0 (fun r h=>r=DB false∧h=[]) (DB false) hp:=fun hp=>RetOb.plain (d:=DB false) ⟨rfl,rfl⟩ rfl
 generalize hR:(fun (r:D) (h:List (Option (List C)))=>r=DB false∧h=[])=R at ret ⊢
 clear hR
 obtain ⟨vs,ar,l⟩:=c
 simp only at h1 h2 h3 hfn
 have hcf:=containsFuncG (cdC ⟨vs,ar,l⟩) (inOK vs.length ar.length l.length) l (by omega) hfn
 have hde:=declared vs ar (by omega) (by omega)
 have hw:=CtR.within l.length 1 400
 unfold codeOK at h
 simp only at h
 unfold cdC at hcf ⊢
 cases hh:headsOK vs ar with
 | false =>
  rw [hh] at hde
  clear hw hcf
  refine dcZ Tryz.func32 ?_
  simp only [go_sem]
  iterate 8 ((try (refine drvZ Tryz.func32 ?_;simp only [go_sem,List.length_map]));((with_reducible and_intros)<;>try exact sd);(try first | refine XK.p hde ok59 ?_ | refine XK.gp hde ok59 ?_ | refine XK.gs (DB false) ?_))
  exact ret _
 | true =>
  rw [hh] at hde h
  simp only [Bool.true_and] at h
  cases hb:(decide (1≤(l.length:Int)) && decide ((l.length:Int)≤400)) with
  | false =>
   rw [hb] at hw
   clear hcf
   refine dcZ Tryz.func32 ?_
   simp only [go_sem]
   iterate 8 ((try (refine drvZ Tryz.func32 ?_;simp only [go_sem,List.length_map]));((with_reducible and_intros)<;>try exact sd);(try first | refine XK.p hde ok59 ?_ | refine XK.gp hde ok59 ?_ | refine XK.p hw ok60 ?_ | refine XK.gp hw ok60 ?_ | refine XK.gs (DB false) ?_))
   exact ret _
  | true =>
   rw [hb] at hw h
   simp only [Bool.true_and] at h
   simp only [Bool.and_eq_true,decide_eq_true_eq] at hb
   obtain ⟨x,hx⟩:∃ x,l[l.length - 1]? = some x:=⟨l[l.length - 1]'(by omega),by simp⟩
   have hat:atC l (l.length - 1)=x:=by simp [atC,List.getD,hx]
   simp only [endOK,hat] at h
   have hpos:((l.length:Int) - 1).toNat=l.length - 1:=by omega
   have hget:(l.map inX)[l.length - 1]? = some (inX x):=by rw [List.getElem?_map,hx];rfl
   generalize hal:l.all (inOK vs.length ar.length l.length)=al at *
   obtain ⟨op,xa,xb,xc,xd⟩:=x
   simp only at h
   refine dcZ Tryz.func32 ?_
   simp only [go_sem]
   iterate 6 ((try (refine drvZ Tryz.func32 ?_;simp only [go_sem,List.length_map]));((with_reducible and_intros)<;>try exact sd);(try first | refine XK.p hde ok59 ?_ | refine XK.gp hde ok59 ?_ | refine XK.p hw ok60 ?_ | refine XK.gp hw ok60 ?_))
   refine XK.subQ (r := some) (fz := [0]) (tl := [(1, .c (.eptr [isI vs, isI ar, .isl 5 (l.map inX)])), (2, DB false), (17, DB false), (19, .when true (.c (.isl 5 (l.map inX)))), (20, .when true (.c (.clo 61 [.eptr [isI vs, isI ar, .isl 5 (l.map inX)]])))])
    (hl:=[]) ?_ ?_
   ·simp only [go_sem,TmOK,DM,DMs,CM,CMs,forall_eq,exists_eq_left,Mq,HpOK,LowOK]
    simp
   cases al with
   | false =>
    iterate 9 ((try (refine drvZ Tryz.func32 ?_;simp only [go_sem,List.length_map]));((with_reducible and_intros)<;>try exact sd);(try first | refine XK.p hcf ok38 ?_ | refine XK.gp hcf ok38 ?_))
    exact ret _
   | true =>
    simp only [Bool.true_and,Bool.or_eq_false_iff] at h
    have e1:=h.1
    have e2:=h.2
    iterate 9 ((try (refine drvZ Tryz.func32 ?_;simp only [go_sem,List.length_map,hpos,hget,inX,e1,e2]));((with_reducible and_intros)<;>try exact sd);(try first | refine XK.p hcf ok38 ?_ | refine XK.gp hcf ok38 ?_))
    exact ret _
theorem startI0 (c:Cd) (m:Mm) (h1:c.vars.length≤2000000) (h2:c.arrays.length≤2000000) (h3:c.list.length≤100000000) (h:codeOK c=false):DC Tryz.prog 56 [.agg (cdC c),.agg m.cells] [] (fun r h=>r = .tup [.agg [I64 0,.v (.slice none 0 0),.v (.slice none 0 0),.v (.slice none 0 0)],DB false]∧h=[]):=by
 have hmx:=mx_eq
 have hcv:=codeValidG0 c h1 h2 h3 h
 obtain ⟨vs,ar,l⟩:=c
 obtain ⟨va,arr⟩:=m
 simp only [cdC,ints] at hcv ⊢
 refine dcZ Tryz.func56 ?_
 simp only [go_sem,Mm.cells]
 iterate 6 ((try (refine drvZ Tryz.func56 ?_;simp only [go_sem,Mm.cells]));((with_reducible and_intros)<;>try exact sd);(try first | refine XK.p hcv ok32 ?_ | refine XK.gp hcv ok32 ?_ | refine XK.gs (DB false) ?_))
 refine RetOb.ofQ (fun _=>none) [] (.tup [.agg [I64 0,.v (.slice none 0 0),.v (.slice none 0 0),.v (.slice none 0 0)],DB false]) [] ?_ ⟨rfl,rfl⟩ (by simp)
 simp [enumL,DM,DMs,CM,CMs,HpOK,LowOK]
theorem ranI0 (c:Cd) (m:Mm) (h1:c.vars.length≤2000000) (h2:c.arrays.length≤2000000) (h3:c.list.length≤100000000) (h:codeOK c=false):DC Tryz.prog 31 [.agg (cdC c),.agg m.cells] [] (fun r h=>r = .tup [.c (.v (.pointer none)),.c (.v (.slice none 0 0)),DB false]∧h=[]):=by
 have hmx:=mx_eq
 have hst:=startI0 c m h1 h2 h3 h
 obtain ⟨vs,ar,l⟩:=c
 obtain ⟨va,arr⟩:=m
 simp only [cdC,ints] at hst ⊢
 refine dcZ Tryz.func31 ?_
 simp only [go_sem,Mm.cells]
 iterate 5 ((try (refine drvZ Tryz.func31 ?_;simp only [go_sem,Mm.cells]));((with_reducible and_intros)<;>try exact sd);(try first | refine XK.p hst ok56 ?_ | refine XK.gp hst ok56 ?_))
 refine RetOb.ofQ (fun _=>none) [] (.tup [.c (.v (.pointer none)),.c (.v (.slice none 0 0)),DB false]) [] ?_ ⟨rfl,rfl⟩ (by simp)
 simp [enumL,DM,DMs,CM,CMs,HpOK,LowOK]
theorem runCodeG (c:Cd) (m:Mm) (h1:c.vars.length≤2000000) (h2:c.arrays.length≤2000000) (h3:c.list.length≤100000000):DC Tryz.prog 8 [.agg (cdC c),.agg m.cells] [] (fun r h=>r = .tup [.agg (runC c m).1.cells,.c (trD (runC c m).2.1),DB (runC c m).2.2]∧h=[]):=by
 cases hco:codeOK c with
 | true=>exact runCodeI c m hco
 | false =>
  have hmx:=mx_eq
  have hrn:=ranI0 c m h1 h2 h3 hco
  have hrf:runC c m=(⟨[],[]⟩,[],false):=by unfold runC;rw [hco];rfl
  generalize hR:(fun (r:D) (h:List (Option (List C)))=>r = .tup [.agg (runC c m).1.cells,.c (trD (runC c m).2.1),DB (runC c m).2.2]∧h=[])=R
  obtain ⟨vs,ar,l⟩:=c
  obtain ⟨va,arr⟩:=m
  simp only [cdC,ints] at hrn ⊢
  refine dcZ Tryz.func8 ?_
  simp only [go_sem,Mm.cells]
  iterate 6 ((try (refine drvZ Tryz.func8 ?_;simp only [go_sem,Mm.cells]));((with_reducible and_intros)<;>try exact sd);(try first | refine XK.p hrn ok31 ?_ | refine XK.gp hrn ok31 ?_))
  refine RetOb.noRun ?_ (.inl rfl)
  subst hR
  rw [hrf]
  exact ⟨rfl,rfl⟩
open CtL (In Cd kindsOf)
theorem sls_size (op:Int):(sls op).size≤4:=by
 unfold sls kindsOf
 repeat' split
 all_goals decide
def rdl2 (bs:List Int) (n k:Nat) (LC:List C) (h:List (Option (List C))):Prop:=∃ n':Nat,n≤n'∧n'≤n+k∧h=[some (rdr bs n'),some LC]
def rnR (bs:List Int) (n:Nat) (LC:List C) (r:D) (h:List (Option (List C))):Prop:=∃ x:In,r = .agg (inX x)∧rdl2 bs n 50 LC h
open CtL (In Cd compP compL lenL)
def cpoR (p:Pg) (r:D) (h:List (Option (List C))):Prop :=
 (∃ l:List In,r = .tup [.agg [isI p.vars,isI p.arrays,.msl 0 5 0 l.length],DB true]∧h=[some (inC l)]∧l.length≤400∧1≤p.vars.length∧p.vars.length≤12∧p.arrays.length≤2)∨(r = .tup [.agg (cdC ⟨[],[],[]⟩),DB false]∧h=[])
theorem compProgSO (p:Pg) (hv:p.vars.length≤2000000) (ha:p.arrays.length≤2000000) (hz:lsize 5 p.body≤1099511627776):DC Tryz.prog 41 [.agg p.cells] [] (cpoR p):=by
 have hmx:=mx_eq
 have hc:=compileS p hv ha hz
 generalize hR:cpoR p=R
 by_cases hok:progOK p=true∧lenL 5 p.body+1≤400
 ·have hcp:compP p=(⟨p.vars,p.arrays,compL p⟩,true):=if_pos hok
  have hll:(compL p).length≤400:=by rw [CtL.compL_len hok.1];exact hok.2
  have hpl:=prog_len hok.1
  rw [show l7R p=fun r h=>r = .tup [CsD 0 1 (compL p) (ownL p) (lsize 5 p.body:Nat),DB true]∧h=CsH (compL p) (ownL p) by funext r h;simp [l7R,hcp]] at hc
  generalize compL p=B at *
  generalize ownL p=W at *
  generalize lsize 5 p.body=M at *
  obtain ⟨vs,ar,bd⟩:=p
  simp only at hv ha
  have hgv:=flat_I vs
  have hga:=flat_I ar
  have e1:=in_len5 B
  have e2:=in_kf5 B
  refine dcZ Tryz.func41 ?_
  simp only [go_sem]
  iterate 2 ((try (refine drvZ Tryz.func41 ?_;simp only [go_sem]));((with_reducible and_intros)<;>try exact sd))
  refine XK.callG [] hc ok68 (fun i' x h=>by simp at h) (hbT ()) (fun d h' ⟨_,e⟩=>by subst e;simp) ?_
  rintro _ _ ⟨rfl,rfl⟩ _
  iterate 8 ((try (refine drvZ Tryz.func41 ?_;simp only [go_sem,renCs_in,renCs_I,flat_I']));((with_reducible and_intros)<;>try exact sd))
  refine RetOb.ofQ (fun j=>if j=0 then some 256 else none) [1024,1280] (.tup [.agg [.isl 1 (vs.map fun n=>[I64 n]),.isl 1 (ar.map fun n=>[I64 n]),.msl 0 5 0 B.length],DB true]) [some (inC B)] ?_ (by rw [← hR];exact .inl ⟨B,rfl,rfl,hll,hpl⟩) (by simp)
  simp [-List.mem_map,enumL,hOf,DM,DMs,CM,CMs,HpOK,LowOK,upd,hgv,hga,List.take_of_length_le,appUp,upsFrom,rkey,wkey,renCs_in,in_flat,CMs_in]
  exact ⟨⟨I_len1 _,I_kf1 _⟩,⟨I_len1 _,I_kf1 _⟩⟩
 ·have hcp:compP p=(⟨[],[],[]⟩,false):=if_neg hok
  rw [show l7R p=fun r h=>r = .tup [.agg [.v (.slice none 0 0),.v (.slice none 0 0),I64 0],DB false]∧h=[] by funext r h;simp [l7R,hcp]] at hc
  obtain ⟨vs,ar,bd⟩:=p
  refine dcZ Tryz.func41 ?_
  simp only [go_sem]
  iterate 2 ((try (refine drvZ Tryz.func41 ?_;simp only [go_sem]));((with_reducible and_intros)<;>try exact sd))
  refine XK.callG [] hc ok68 (fun i' x h=>by simp at h) (hbT ()) (fun d h' ⟨_,e⟩=>by subst e;simp) ?_
  rintro _ _ ⟨rfl,rfl⟩ _
  iterate 5 ((try (refine drvZ Tryz.func41 ?_;simp only [go_sem]));((with_reducible and_intros)<;>try exact sd))
  exact RetOb.cd0 (by rw [← hR];exact .inr ⟨rfl,rfl⟩)
open CtL (In Cd)
theorem RetOb.cdK {R : D → List (Option (List C)) → Prop} {c : Cd} {hp : Hp} {k0 k1 k2 nv na nb : Nat} {rc : List C} (hR : R (.agg (cdC c)) [some rc]) (hrc : ∀ c ∈ rc, kf c = true)
 (hz:hp 0=some (some rc)) (h0:hp k0=some (some (c.vars.map I64))) (h1:hp k1=some (some (c.arrays.map I64))) (h2:hp k2=some (some (inC c.list))) (hv:nv=c.vars.length) (ha:na=c.arrays.length) (hb:nb=c.list.length)
 (hne:0 ≠ k0∧0 ≠ k1∧0 ≠ k2):RetOb 1 R (.agg [.msl k0 1 0 nv,.msl k1 1 0 na,.msl k2 5 0 nb]) hp:=by
 subst hv ha hb
 obtain ⟨vs,ar,l⟩:=c
 obtain ⟨n0,n1,n2⟩:=hne
 refine RetOb.ofQ (fun j=>if j=0 then some 0 else none) [k0,k1,k2] _ [some rc] ?_ hR (by simp)
 have e4:∀ {hT hS:Hp} {r:Nat→Option Nat} {fz:List Nat},CMs hT r hS fz rc rc=True:=eq_true (CMs.kf hrc)
 have g2:=in_len5 l
 have g3:=in_kf5 l
 simp [-List.mem_map,enumL,DM,DMs,CM,CMs,HpOK,LowOK,hOf,upd,cdC,isI,flat_I,kf,e4,hz,h0,h1,h2,in_flat,n0,n1,n2]
 first | exact ⟨⟨I_len1 _,I_kf1 _⟩,⟨I_len1 _,I_kf1 _⟩,g2,g3⟩ | exact ⟨g2,g3⟩
theorem inC_split {l:List In} {i:Nat} {x:In} (h:l[i]? = some x):inC l=inC (l.take i)++inX x++inC (l.drop (i+1)):=by
 have hi:i<l.length:=(List.getElem?_eq_some_iff.1 h).1
 have hx:l[i]=x:=(List.getElem?_eq_some_iff.1 h).2
 conv=>lhs;rw [← List.take_append_drop i l,List.drop_eq_getElem_cons hi,hx]
 rw [inC_app,inC_cons]
 simp
theorem inC_setAt {l:List In} {i:Nat} {x:In} (h:l[i]? = some x) (y:In):inC (l.set i y)=inC (l.take i)++inX y++inC (l.drop (i+1)):=by
 have hi:i<l.length:=(List.getElem?_eq_some_iff.1 h).1
 have h2:(l.set i y)[i]? = some y:=List.getElem?_set_self hi
 rw [inC_split h2,List.take_set_of_le (Nat.le_refl _),List.drop_set_of_lt (by omega)]
theorem inC_put {l:List In} {i:Nat} {x:In} (h:l[i]? = some x) (y:In):putCells (inC l) (i * 5) (inX y)=inC (l.set i y):=by
 have hi:i<l.length:=(List.getElem?_eq_some_iff.1 h).1
 have hlen:(inC (l.take i)).length=i * 5:=by rw [inC_len,List.length_take,Nat.min_eq_left (by omega)]
 rw [inC_split h,inC_setAt h,← hlen,List.append_assoc,put_at _ _ _ (by simp [inX])]
 simp [inX]
theorem inC_put1 {l:List In} {i:Nat} {x:In} (h:l[i]? = some x) (j:Nat) (hj:j<5) (v:Int):∃ y:In,(inC l).set (i * 5+j) (I64 v)=inC (l.set i y):=by
 have hi:i<l.length:=(List.getElem?_eq_some_iff.1 h).1
 have hlen:(inC (l.take i)).length=i * 5:=by rw [inC_len,List.length_take,Nat.min_eq_left (by omega)]
 have key:∀ y:In,(inX x).set j (I64 v)=inX y→(inC l).set (i * 5+j) (I64 v)=inC (l.set i y):=fun y hy=>by
  rw [inC_setAt h,inC_split h,List.append_assoc,← hlen,List.set_append_right _ _ (by omega),Nat.add_sub_cancel_left,List.set_append_left _ _ (by simp [inX];omega),hy,List.append_assoc]
 obtain ⟨op,a,b,c,d⟩:=x
 match j,hj with
 | 0,_=>exact ⟨⟨v,a,b,c,d⟩,key _ rfl⟩
 | 1,_=>exact ⟨⟨op,v,b,c,d⟩,key _ rfl⟩
 | 2,_=>exact ⟨⟨op,a,v,c,d⟩,key _ rfl⟩
 | 3,_=>exact ⟨⟨op,a,b,v,d⟩,key _ rfl⟩
 | 4,_=>exact ⟨⟨op,a,b,c,v⟩,key _ rfl⟩
def muC (bs:List Int) (n:Nat) (r:D) (h:List (Option (List C))):Prop:=∃ c:Cd,r = .agg (cdC c)∧c.vars.length≤13∧c.arrays.length≤2∧c.list.length≤400∧rdL bs n 5 h
theorem l6Mutate (bs : List Int) (n : Nat) (c : Cd) (hb : Fits .u8 bs) (hl : bs.length ≤ 2000) (hn : n ≤ 274877906944) (hv : c.vars.length ≤ 13) (ha : c.arrays.length ≤ 2) (hcl : c.list.length ≤ 400) :
 DC Tryz.prog 14 [.c (.ptr 0 0),.agg (cdC c)] [some (rdr bs n)] (muC bs n):=by
 have hmx:=mx_eq
 generalize hR:muC bs n=R
 obtain ⟨vs,ar,l⟩:=c
 simp only at hv ha hcl
 unfold cdC
 have hfin:∀ (kv ka kl nv na nl:Nat) (n':Nat) (vs':List Int) (l':List In) (hp:Hp),vs'.length≤13→l'.length≤400→n≤n'→n'≤n+5→hp 0=some (some (rdr bs n'))→hp kv=some (some (vs'.map I64))→hp ka=some (some (ar.map I64))→hp kl=some (some (inC l'))→nv=vs'.length→na=ar.length→nl=l'.length →
  (0 ≠ kv∧0 ≠ ka∧0 ≠ kl)→RetOb 1 R (.agg [.msl kv 1 0 nv,.msl ka 1 0 na,.msl kl 5 0 nl]) hp:=fun kv ka kl nv na nl n' vs' l' hp g1 g2 g3 g4 g5 g6 g7 g8 g9 g10 g11 g12 =>
  RetOb.cdK (c:=⟨vs',ar,l'⟩) (by rw [← hR];exact ⟨⟨vs',ar,l'⟩,rfl,g1,ha,g2,n',g3,g4,rfl⟩) (rdr_kf bs n') g5 g6 g7 g8 g9 g10 g11 g12
 have hil:=inC_len l
 by_cases h0:l.length=0
 ·have e0:((l.length:Int) == 0)=true:=by simp [h0]
  refine dcZ Tryz.func14 ?_
  simp only [go_sem,rdr,flat_I',in_flat,e0]
  iterate 5 ((try (refine drvZ Tryz.func14 ?_;simp only [go_sem,rdr,flat_I',in_flat,e0]));((with_reducible and_intros)<;>try exact sd))
  exact hfin 321 577 833 _ _ _ n vs l _ hv hcl (by omega) (by omega) rfl rfl rfl rfl rfl rfl rfl (by decide)
 have e0:((l.length:Int) == 0)=false:=by simp only [beq_eq_false_iff_ne,ne_eq];omega
 obtain ⟨k,hk⟩:∃ k,l.length=k+1:=⟨l.length - 1,by omega⟩
 have hk1:(l.length:Int) - 1=(k:Int):=by omega
 have hkl:k<l.length:=by omega
 obtain ⟨xk,hxk⟩:∃ x,l[k]? = some x:=⟨l[k],by simp [hkl]⟩
 obtain ⟨x0,hx0⟩:∃ x,l[0]? = some x:=⟨l[0]'(by omega),by simp⟩
 refine dcZ Tryz.func14 ?_
 simp only [go_sem,rdr,flat_I',in_flat,e0]
 iterate 5 ((try (refine drvZ Tryz.func14 ?_;simp only [go_sem,rdr,flat_I',in_flat,e0]));((with_reducible and_intros)<;>try exact sd))
 refine XK.callG [0] (pick bs n 60 hb hl (by omega) (by simp only [InK];omega)) ok16 (hhp_one rfl) (hbT ()) (fun d h' ⟨v,_,_,e⟩=>by subst e;simp) ?_
 rintro _ _ ⟨v,rfl,hpv,rfl⟩ _
 clear hpv
 have hpv:v=0∨v=1∨v=2∨v=3∨v=4∨v=5∨(v ≠ 0∧v ≠ 1∧v ≠ 2∧v ≠ 3∧v ≠ 4∧v ≠ 5):=by omega
 rcases hpv with rfl | rfl | rfl | rfl | rfl | rfl | ⟨n0,n1,n2,n3,n4,n5⟩
 ·iterate 4 ((try (refine drvZ Tryz.func14 ?_;simp only [go_sem,rdr]));((with_reducible and_intros)<;>try exact sd))
  refine XK.callG [0,1921] (numO bs (n+1) [0,14,1,12] hb hl (by omega) (by decide) (by decide)) ok20 (hhp2 rfl rfl) (hbT ()) (fun d h' ⟨_,_,_,e⟩=>by subst e;simp) ?_ (fun _=>⟨by kernel_rfl,_,_,⟨0,rfl,by simp,rfl⟩,by simp⟩)
  rintro _ _ ⟨w,rfl,hw,rfl⟩ _
  clear hw
  obtain ⟨y,hy⟩:=inC_put1 hx0 0 (by omega) w
  simp only [Nat.zero_mul,Nat.add_zero] at hy
  iterate 5 ((try (refine drvZ Tryz.func14 ?_;simp only [go_sem,rdr,hy]));((with_reducible and_intros)<;>try exact sd))
  exact hfin 321 577 833 _ _ _ (n+2) vs (l.set 0 y) _ hv (by simp;omega) (by omega) (by omega) rfl rfl rfl rfl rfl rfl (by simp) (by decide)
 ·iterate 4 ((try (refine drvZ Tryz.func14 ?_;simp only [go_sem,rdr]));((with_reducible and_intros)<;>try exact sd))
  refine XK.callG [0] (pick bs (n+1) l.length hb hl (by omega) (by simp only [InK];omega)) ok16 (hhp_one rfl) (hbT ()) (fun d h' ⟨v,_,_,e⟩=>by subst e;simp) ?_ (fun _=>⟨by kernel_rfl,_,_,⟨0,rfl,by omega,rfl⟩,by simp⟩)
  rintro _ _ ⟨q,rfl,hq,rfl⟩ _
  have hq2:0≤q∧q<l.length:=by omega
  obtain ⟨i,rfl⟩:∃ i:Nat,q=i:=⟨q.toNat,by omega⟩
  have hil2:i<l.length:=by omega
  obtain ⟨xi,hxi⟩:∃ x,l[i]? = some x:=⟨l[i],by simp [hil2]⟩
  iterate 4 ((try (refine drvZ Tryz.func14 ?_;simp only [go_sem,rdr,hil2]));((with_reducible and_intros)<;>try exact sd))
  refine XK.callG [0,2241] (numO bs (n+2) [-1,14,0,400] hb hl (by omega) (by decide) (by decide)) ok20 (hhp2 rfl rfl) (hbT ()) (fun d h' ⟨_,_,_,e⟩=>by subst e;simp) ?_ (fun _=>⟨by kernel_rfl,_,_,⟨-1,rfl,by simp,rfl⟩,by simp⟩)
  rintro _ _ ⟨w,rfl,hw,rfl⟩ _
  clear hw
  obtain ⟨y,hy⟩:=inC_put1 hxi 1 (by omega) w
  iterate 6 ((try (refine drvZ Tryz.func14 ?_;simp only [go_sem,rdr,hil2,hy]));((with_reducible and_intros)<;>try exact sd))
  exact hfin 321 577 833 _ _ _ (n+3) vs (l.set i y) _ hv (by simp;omega) (by omega) (by omega) rfl rfl rfl rfl rfl rfl (by simp) (by decide)
 ·iterate 6 ((try (refine drvZ Tryz.func14 ?_;simp only [go_sem,rdr,hk1,hkl]));((with_reducible and_intros)<;>try exact sd))
  have hput:=inC_put hxk ⟨12,0,0,0,0⟩
  simp only [putCells,inX] at hput
  exact hfin 321 577 833 _ _ _ (n+1) vs (l.set k ⟨12,0,0,0,0⟩) _ hv (by simp;omega) (by omega) (by omega) rfl rfl rfl (congrArg (fun x=>some (some x)) hput) rfl rfl (by simp) (by decide)
 ·iterate 6 ((try (refine drvZ Tryz.func14 ?_;simp only [go_sem,rdr,hk1,hkl]));((with_reducible and_intros)<;>try exact sd))
  have hput:=inC_put hxk ⟨8,0,0,0,0⟩
  simp only [putCells,inX] at hput
  exact hfin 321 577 833 _ _ _ (n+1) vs (l.set k ⟨8,0,0,0,0⟩) _ hv (by simp;omega) (by omega) (by omega) rfl rfl rfl (congrArg (fun x=>some (some x)) hput) rfl rfl (by simp) (by decide)
 ·iterate 6 ((try (refine drvZ Tryz.func14 ?_;simp only [go_sem,rdr]));((with_reducible and_intros)<;>try exact sd))
  refine XK.callG [0] (pick bs (n+1) l.length hb hl (by omega) (by simp only [InK];omega)) ok16 (hhp_one rfl) (hbT ()) (fun d h' ⟨v,_,_,e⟩=>by subst e;simp) ?_ (fun _=>⟨by kernel_rfl,_,_,⟨0,rfl,by omega,rfl⟩,by simp⟩)
  rintro _ _ ⟨q,rfl,hq,rfl⟩ _
  have hq2:0≤q∧q<l.length:=by omega
  obtain ⟨i,rfl⟩:∃ i:Nat,q=i:=⟨q.toNat,by omega⟩
  have hil2:i<l.length:=by omega
  obtain ⟨xi,hxi⟩:∃ x,l[i]? = some x:=⟨l[i],by simp [hil2]⟩
  iterate 4 ((try (refine drvZ Tryz.func14 ?_;simp only [go_sem,rdr,hil2]));((with_reducible and_intros)<;>try exact sd))
  refine XK.callG [0,2625] (numO bs (n+2) [1,-1] hb hl (by omega) (by decide) (by decide)) ok20 (hhp2 rfl rfl) (hbT ()) (fun d h' ⟨_,_,_,e⟩=>by subst e;simp) ?_ (fun _=>⟨by kernel_rfl,_,_,⟨1,rfl,by simp,rfl⟩,by simp⟩)
  rintro _ _ ⟨w,rfl,hw,rfl⟩ _
  clear hw
  obtain ⟨y,hy⟩:=inC_put1 hxi 4 (by omega) w
  iterate 6 ((try (refine drvZ Tryz.func14 ?_;simp only [go_sem,rdr,hil2,hy]));((with_reducible and_intros)<;>try exact sd))
  exact hfin 321 577 833 _ _ _ (n+3) vs (l.set i y) _ hv (by simp;omega) (by omega) (by omega) rfl rfl rfl rfl rfl rfl (by simp) (by decide)
 ·iterate 8 ((try (refine drvZ Tryz.func14 ?_;simp only [go_sem,rdr]));((with_reducible and_intros)<;>try exact sd))
  exact hfin 2369 577 833 _ _ _ (n+1) [] l _ (by simp) hcl (by omega) (by omega) rfl rfl rfl rfl rfl rfl rfl (by decide)
 ·have e0:(v == 0)=false:=by simp [n0]
  have e1:(v == 1)=false:=by simp [n1]
  have e2:(v == 2)=false:=by simp [n2]
  have e3:(v == 3)=false:=by simp [n3]
  have e4:(v == 4)=false:=by simp [n4]
  have e5:(v == 5)=false:=by simp [n5]
  iterate 10 ((try (refine drvZ Tryz.func14 ?_;simp only [go_sem,rdr,e0,e1,e2,e3,e4,e5]));((with_reducible and_intros)<;>try exact sd))
  exact hfin 321 577 833 _ _ _ (n+1) vs l _ hv hcl (by omega) (by omega) rfl rfl rfl rfl rfl rfl rfl (by decide)
open CtL (In Cd)
def co6R (bs:List Int) (n:Nat) (r:D) (h:List (Option (List C))):Prop:=∃ (vs ar:List Int) (l:List In),r = .agg [isI vs,isI ar,.msl 1 5 0 l.length]∧(1≤vs.length∧vs.length≤13)∧ar.length≤2∧(1≤l.length∧l.length≤13)∧rdl2 bs n 1001000 (inC l) h
open CtL (In Cd kindsOf)
theorem l6RandomV (bs : List Int) (n : Nat) (vs ar : Sl) (LC : List C) (m at_ N : Nat) (hb : Fits .u8 bs) (hl : bs.length ≤ 2000) (hn : n ≤ 274877906944) (hv : 1 ≤ vs.length ∧ vs.length ≤ 13) (ha : ar.length ≤ 2) (hat : at_ + 1 < N) (hN : N ≤ 13) (hLC : ∀ c ∈ LC, kf c = true) :
 DC Tryz.prog 67 [.c (.ptr 0 0),.agg [vs.c,ar.c,.msl 1 5 0 m],DI .i64 at_,DI .i64 N] [some (rdr bs n),some LC] (rnR bs n LC):=by
 have hmx:=mx_eq
 have hval:=fun n h=>l3Value bs n hb hl h
 have hnum:=num bs n [1,2,3,6,2,7,9,4,5,11,8,12] hb hl (by omega) (by decide) (by decide)
 generalize hR:rnR bs n LC=R
 refine dcZ Tryz.func67 ?_
 simp only [go_sem,rdr]
 iterate 2 ((try (refine drvZ Tryz.func67 ?_;simp only [go_sem,rdr]));((with_reducible and_intros)<;>try exact sd))
 refine XK.callG [0,194] (numO bs n [1,2,3,6,2,7,9,4,5,11,8,12] hb hl (by omega) (by decide) (by decide)) ok20 (hhp2 rfl rfl) (hbT ()) (fun d h' ⟨_,_,_,e⟩=>by subst e;simp) ?_
 rintro _ _ ⟨o,rfl,ho,rfl⟩ _
 have ho2:1≤o∧o≤13:=by simp at ho;omega
 have hfd:=fun (op:Int) h=>l6FieldsS op h
 have cs4:(ar.length=0∧o=4)∨(ar.length=0∧o=5)∨(ar.length=0∧o ≠ 4∧o ≠ 5)∨ar.length ≠ 0:=by omega
 rcases cs4 with ⟨h0,rfl⟩ | ⟨h0,rfl⟩ | ⟨h0,h4,h5⟩ | h0
 case' inl =>
  have e0:((ar.length:Int) == 0)=true:=by simp [h0]
  have hfo:=hfd 2 (by omega)
  iterate 5 ((try (refine drvZ Tryz.func67 ?_;simp only [go_sem,rdr,e0]));((with_reducible and_intros)<;>try exact sd);(try first | refine XK.p hfo ok91 ?_ | refine XK.gp hfo ok91 ?_))
  refine Go.loopQ (fun x : Nat × Nat × List Int × Int => [(0, .c (.ptr 0 0)), (2, DI .i64 at_), (3, DI .i64 N), (5, .c (.ptr 2 0)), (8, .c (.ptr 66 0)), (9, .c (.ptr 386 0)), (10, DS (sls x.2.2.2)), (11, .c (.msl 20 1 0 4)), (12, DI .i64 x.1)])
   (fun x=>[(0,some (rdr bs x.2.1)),(1,some LC),(2,some [vs.c,ar.c,.msl 1 5 0 m]),(20,some (x.2.2.1.map I64)),(66,some [I64 0,I64 0,I64 0,I64 0,I64 0]),(386,some [I64 x.2.2.2,I64 0,I64 0,I64 0,I64 0])])
   8192 (fun x=>x.1≤4∧n+1≤x.2.1∧x.2.1≤n+1+x.1∧x.2.2.1.length=4∧(1≤x.2.2.2∧x.2.2.2≤13)∧True) (fun x=>4 - x.1) ?_ (0,n+1,[0,0,0,0],2) (fun j=>if j=20 then some 1794 else some j) [] _ ⟨by simp,by simp,by simp,rfl,by simp,trivial⟩ ?_
  case' refine_2 =>
   simp only [go_sem,TmOK,DM,DMs,CM,CMs,forall_eq,exists_eq_left,Mq,HpOK,LowOK,rdr]
   simp [CMs,hOf,hpL]
   try exact CMs.kf hLC
 case' inr.inl =>
  have e0:((ar.length:Int) == 0)=true:=by simp [h0]
  have hfo:=hfd 2 (by omega)
  iterate 5 ((try (refine drvZ Tryz.func67 ?_;simp only [go_sem,rdr,e0]));((with_reducible and_intros)<;>try exact sd);(try first | refine XK.p hfo ok91 ?_ | refine XK.gp hfo ok91 ?_))
  refine Go.loopQ (fun x : Nat × Nat × List Int × Int => [(0, .c (.ptr 0 0)), (2, DI .i64 at_), (3, DI .i64 N), (5, .c (.ptr 2 0)), (8, .c (.ptr 66 0)), (9, .c (.ptr 386 0)), (10, DS (sls x.2.2.2)), (11, .c (.msl 20 1 0 4)), (12, DI .i64 x.1)])
   (fun x=>[(0,some (rdr bs x.2.1)),(1,some LC),(2,some [vs.c,ar.c,.msl 1 5 0 m]),(20,some (x.2.2.1.map I64)),(66,some [I64 0,I64 0,I64 0,I64 0,I64 0]),(386,some [I64 x.2.2.2,I64 0,I64 0,I64 0,I64 0])])
   8192 (fun x=>x.1≤4∧n+1≤x.2.1∧x.2.1≤n+1+x.1∧x.2.2.1.length=4∧(1≤x.2.2.2∧x.2.2.2≤13)∧True) (fun x=>4 - x.1) ?_ (0,n+1,[0,0,0,0],2) (fun j=>if j=20 then some 1794 else some j) [] _ ⟨by simp,by simp,by simp,rfl,by simp,trivial⟩ ?_
  case' refine_2 =>
   simp only [go_sem,TmOK,DM,DMs,CM,CMs,forall_eq,exists_eq_left,Mq,HpOK,LowOK,rdr]
   simp [CMs,hOf,hpL]
   try exact CMs.kf hLC
 case' inr.inr.inl =>
  have e0:((ar.length:Int) == 0)=true:=by simp [h0]
  have e4:(o == 4)=false:=by simp [h4]
  have e5:(o == 5)=false:=by simp [h5]
  have hfo:=hfd o ho2
  iterate 5 ((try (refine drvZ Tryz.func67 ?_;simp only [go_sem,rdr,e0,e4,e5]));((with_reducible and_intros)<;>try exact sd);(try first | refine XK.p hfo ok91 ?_ | refine XK.gp hfo ok91 ?_))
  refine Go.loopQ (fun x : Nat × Nat × List Int × Int => [(0, .c (.ptr 0 0)), (2, DI .i64 at_), (3, DI .i64 N), (5, .c (.ptr 2 0)), (8, .c (.ptr 66 0)), (9, .c (.ptr 386 0)), (10, DS (sls x.2.2.2)), (11, .c (.msl 20 1 0 4)), (12, DI .i64 x.1)])
   (fun x=>[(0,some (rdr bs x.2.1)),(1,some LC),(2,some [vs.c,ar.c,.msl 1 5 0 m]),(20,some (x.2.2.1.map I64)),(66,some [I64 0,I64 0,I64 0,I64 0,I64 0]),(386,some [I64 x.2.2.2,I64 0,I64 0,I64 0,I64 0])])
   8192 (fun x=>x.1≤4∧n+1≤x.2.1∧x.2.1≤n+1+x.1∧x.2.2.1.length=4∧(1≤x.2.2.2∧x.2.2.2≤13)∧True) (fun x=>4 - x.1) ?_ (0,n+1,[0,0,0,0],o) (fun j=>if j=20 then some 1666 else some j) [] _ ⟨by simp,by simp,by simp,rfl,ho2,trivial⟩ ?_
  case' refine_2 =>
   simp only [go_sem,TmOK,DM,DMs,CM,CMs,forall_eq,exists_eq_left,Mq,HpOK,LowOK,rdr]
   simp [CMs,hOf,hpL]
   try exact CMs.kf hLC
 case' inr.inr.inr =>
  have e0:((ar.length:Int) == 0)=false:=by simp [h0]
  have hfo:=hfd o ho2
  iterate 5 ((try (refine drvZ Tryz.func67 ?_;simp only [go_sem,rdr,e0]));((with_reducible and_intros)<;>try exact sd);(try first | refine XK.p hfo ok91 ?_ | refine XK.gp hfo ok91 ?_))
  refine Go.loopQ (fun x : Nat × Nat × List Int × Int => [(0, .c (.ptr 0 0)), (2, DI .i64 at_), (3, DI .i64 N), (5, .c (.ptr 2 0)), (8, .c (.ptr 66 0)), (9, .c (.ptr 386 0)), (10, DS (sls x.2.2.2)), (11, .c (.msl 20 1 0 4)), (12, DI .i64 x.1)])
   (fun x=>[(0,some (rdr bs x.2.1)),(1,some LC),(2,some [vs.c,ar.c,.msl 1 5 0 m]),(20,some (x.2.2.1.map I64)),(66,some [I64 0,I64 0,I64 0,I64 0,I64 0]),(386,some [I64 x.2.2.2,I64 0,I64 0,I64 0,I64 0])])
   8192 (fun x=>x.1≤4∧n+1≤x.2.1∧x.2.1≤n+1+x.1∧x.2.2.1.length=4∧(1≤x.2.2.2∧x.2.2.2≤13)∧True) (fun x=>4 - x.1) ?_ (0,n+1,[0,0,0,0],o) (fun j=>if j=20 then some 1666 else some j) [] _ ⟨by simp,by simp,by simp,rfl,ho2,trivial⟩ ?_
  case' refine_2 =>
   simp only [go_sem,TmOK,DM,DMs,CM,CMs,forall_eq,exists_eq_left,Mq,HpOK,LowOK,rdr]
   simp [CMs,hOf,hpL]
   try exact CMs.kf hLC
 all_goals
  rintro ⟨k,pos,pt,op⟩ ⟨hk,hp1,hp2,hpt,hop,hoa⟩ again
  simp only at hk hp1 hp2 hpt hop again ⊢
  have hsz:=sls_size op
  have hpl:(pt.map I64).length=4:=by rw [List.length_map];exact hpt
  by_cases hlk:k<(sls op).size
  ·have hk0:=(sls_len op k (by omega)).1 hlk
   have hat:=sls_at op k hk0
   have hk6:=kinds_le op k
   generalize (kindsOf op).getD k 0=kd at *
   have hkc:kd=1∨kd=2∨kd=3∨kd=4∨kd=5∨kd=6:=by omega
   have hat:(((sls op).data.toList.getD k 0).toNat:Int)=(((slt kd).toNat:Nat):Int):=by rw [hat]
   rcases hkc with rfl | rfl | rfl | rfl | rfl | rfl
   ·rw [show (((slt 1).toNat:Nat):Int)=114 from rfl] at hat
    refine drvL Tryz.func67 ?_
    simp only [go_sem,rdr,hlk]
    iterate 8 ((try (refine drvZ Tryz.func67 ?_;simp only [go_sem,rdr,hlk,hat]));((with_reducible and_intros)<;>try exact sd))
    refine XK.callG [0] (pick bs pos 3 hb hl (by omega) (by simp only [InK];omega)) ok16 (hhp_one rfl) (hbT ()) (fun d h' ⟨v,_,_,e⟩=>by subst e;simp) ?_
    rintro _ _ ⟨v,rfl,hv,rfl⟩ _
    iterate 3 ((try (refine drvZ Tryz.func67 ?_;simp only [go_sem,rdr,hlk,hpl,set_I]));((with_reducible and_intros)<;>try exact sd))
    refine again (k+1,(pos+1),pt.set k v,op) some [] _ ⟨(show k+1≤4 by omega),(show n+1≤(pos+1) by omega),(show (pos+1)≤n+1+(k+1) by omega),by rw [List.length_set];exact hpt,hop,hoa⟩ (show 4 - (k+1)<4 - k by omega) ?_
    simp only [go_sem,TmOK,DM,DMs,CM,CMs,forall_eq,exists_eq_left,Mq,HpOK,LowOK,rdr,set_I]
    simp [-List.map_set,CMs_I,set_I]
    try exact CMs.kf hLC
   ·rw [show (((slt 2).toNat:Nat):Int)=99 from rfl] at hat
    refine drvL Tryz.func67 ?_
    simp only [go_sem,rdr,hlk]
    iterate 8 ((try (refine drvZ Tryz.func67 ?_;simp only [go_sem,rdr,hlk,hat]));((with_reducible and_intros)<;>try exact sd))
    refine XK.callG [0] (hval pos (by omega)) ok45 (hhp_one rfl) (hbT ()) (fun d h' ⟨_,_,_,_,_,_,e⟩=>by subst e;simp) ?_
    rintro _ _ ⟨v,rfl,hv,pos2,hp1,hp2,rfl⟩ _
    iterate 3 ((try (refine drvZ Tryz.func67 ?_;simp only [go_sem,rdr,hlk,hpl,set_I]));((with_reducible and_intros)<;>try exact sd))
    refine again (k+1,pos2,pt.set k v,op) some [] _ ⟨(show k+1≤4 by omega),(show n+1≤pos2 by omega),(show pos2≤n+1+(k+1) by omega),by rw [List.length_set];exact hpt,hop,hoa⟩ (show 4 - (k+1)<4 - k by omega) ?_
    simp only [go_sem,TmOK,DM,DMs,CM,CMs,forall_eq,exists_eq_left,Mq,HpOK,LowOK,rdr,set_I]
    simp [-List.map_set,CMs_I,set_I]
    try exact CMs.kf hLC
   ·rw [show (((slt 3).toNat:Nat):Int)=118 from rfl] at hat
    refine drvL Tryz.func67 ?_
    simp only [go_sem,rdr,hlk]
    iterate 8 ((try (refine drvZ Tryz.func67 ?_;simp only [go_sem,rdr,hlk,hat]));((with_reducible and_intros)<;>try exact sd))
    refine XK.callG [0] (pick bs pos vs.length hb hl (by omega) (by simp only [InK];omega)) ok16 (hhp_one rfl) (hbT ()) (fun d h' ⟨v,_,_,e⟩=>by subst e;simp) ?_
    rintro _ _ ⟨v,rfl,hv,rfl⟩ _
    iterate 3 ((try (refine drvZ Tryz.func67 ?_;simp only [go_sem,rdr,hlk,hpl,set_I]));((with_reducible and_intros)<;>try exact sd))
    refine again (k+1,(pos+1),pt.set k v,op) some [] _ ⟨(show k+1≤4 by omega),(show n+1≤(pos+1) by omega),(show (pos+1)≤n+1+(k+1) by omega),by rw [List.length_set];exact hpt,hop,hoa⟩ (show 4 - (k+1)<4 - k by omega) ?_
    simp only [go_sem,TmOK,DM,DMs,CM,CMs,forall_eq,exists_eq_left,Mq,HpOK,LowOK,rdr,set_I]
    simp [-List.map_set,CMs_I,set_I]
    try exact CMs.kf hLC
   ·rw [show (((slt 4).toNat:Nat):Int)=97 from rfl] at hat
    refine drvL Tryz.func67 ?_
    simp only [go_sem,rdr,hlk]
    iterate 8 ((try (refine drvZ Tryz.func67 ?_;simp only [go_sem,rdr,hlk,hat]));((with_reducible and_intros)<;>try exact sd))
    refine XK.callG [0] (pick bs pos ar.length hb hl (by omega) (by simp only [InK];omega)) ok16 (hhp_one rfl) (hbT ()) (fun d h' ⟨v,_,_,e⟩=>by subst e;simp) ?_
    rintro _ _ ⟨v,rfl,hv,rfl⟩ _
    iterate 3 ((try (refine drvZ Tryz.func67 ?_;simp only [go_sem,rdr,hlk,hpl,set_I]));((with_reducible and_intros)<;>try exact sd))
    refine again (k+1,(pos+1),pt.set k v,op) some [] _ ⟨(show k+1≤4 by omega),(show n+1≤(pos+1) by omega),(show (pos+1)≤n+1+(k+1) by omega),by rw [List.length_set];exact hpt,hop,hoa⟩ (show 4 - (k+1)<4 - k by omega) ?_
    simp only [go_sem,TmOK,DM,DMs,CM,CMs,forall_eq,exists_eq_left,Mq,HpOK,LowOK,rdr,set_I]
    simp [-List.map_set,CMs_I,set_I]
    try exact CMs.kf hLC
   ·rw [show (((slt 5).toNat:Nat):Int)=111 from rfl] at hat
    refine drvL Tryz.func67 ?_
    simp only [go_sem,rdr,hlk]
    iterate 8 ((try (refine drvZ Tryz.func67 ?_;simp only [go_sem,rdr,hlk,hat]));((with_reducible and_intros)<;>try exact sd))
    refine XK.callG [0] (pick bs pos 7 hb hl (by omega) (by simp only [InK];omega)) ok16 (hhp_one rfl) (hbT ()) (fun d h' ⟨v,_,_,e⟩=>by subst e;simp) ?_
    rintro _ _ ⟨v,rfl,hv,rfl⟩ _
    iterate 3 ((try (refine drvZ Tryz.func67 ?_;simp only [go_sem,rdr,hlk,hpl,set_I]));((with_reducible and_intros)<;>try exact sd))
    refine again (k+1,(pos+1),pt.set k (4+v),op) some [] _ ⟨(show k+1≤4 by omega),(show n+1≤(pos+1) by omega),(show (pos+1)≤n+1+(k+1) by omega),by rw [List.length_set];exact hpt,hop,hoa⟩ (show 4 - (k+1)<4 - k by omega) ?_
    simp only [go_sem,TmOK,DM,DMs,CM,CMs,forall_eq,exists_eq_left,Mq,HpOK,LowOK,rdr,set_I]
    simp [-List.map_set,CMs_I,set_I]
    try exact CMs.kf hLC
   ·rw [show (((slt 6).toNat:Nat):Int)=116 from rfl] at hat
    refine drvL Tryz.func67 ?_
    simp only [go_sem,rdr,hlk]
    iterate 8 ((try (refine drvZ Tryz.func67 ?_;simp only [go_sem,rdr,hlk,hat]));((with_reducible and_intros)<;>try exact sd))
    refine XK.callG [0] (pick bs pos ((N:Int) - at_ - 1) hb hl (by omega) (by simp only [InK];omega)) ok16 (hhp_one rfl) (hbT ()) (fun d h' ⟨v,_,_,e⟩=>by subst e;simp) ?_
    rintro _ _ ⟨v,rfl,hv,rfl⟩ _
    iterate 3 ((try (refine drvZ Tryz.func67 ?_;simp only [go_sem,rdr,hlk,hpl,set_I]));((with_reducible and_intros)<;>try exact sd))
    refine again (k+1,(pos+1),pt.set k ((at_:Int)+1+v),op) some [] _ ⟨(show k+1≤4 by omega),(show n+1≤(pos+1) by omega),(show (pos+1)≤n+1+(k+1) by omega),by rw [List.length_set];exact hpt,hop,hoa⟩ (show 4 - (k+1)<4 - k by omega) ?_
    simp only [go_sem,TmOK,DM,DMs,CM,CMs,forall_eq,exists_eq_left,Mq,HpOK,LowOK,rdr,set_I]
    simp [-List.map_set,CMs_I,set_I]
    try exact CMs.kf hLC
  ·clear again
   match pt,hpt with
   | [p0,p1,p2,p3],_ =>
    refine drvL Tryz.func67 ?_
    simp only [go_sem,rdr,hlk]
    iterate 5 ((try (refine drvZ Tryz.func67 ?_;simp only [go_sem,rdr,hlk]));((with_reducible and_intros)<;>try exact sd))
    refine RetOb.ofQ (fun j=>if j<2 then some j else none) [] (.agg (inX ⟨op,p0,p1,p2,p3⟩)) [some (rdr bs pos),some LC] ?_ (by rw [← hR];exact ⟨_,rfl,pos,by omega,by omega,rfl⟩) (by simp)
    simp [inX,enumL,hOf,DM,DMs,CM,CMs,HpOK,LowOK,upd,rdr,kf]
    try exact CMs.kf hLC
end Go.Proofs.YtoakidkcppinpaaGreat.CtD
