/- Contracts of functions of the program, one behind the other, as plain data: what each call returns and which blocks it leaves. -/
import Derived.Test.YtoakidkcppinpaaGreatDFacts
import Derived.Test.YtoakidkcppinpaaGreatDAj
import Derived.Test.YtoakidkcppinpaaGreatDAl
import Derived.Test.YtoakidkcppinpaaGreatDAq
import Derived.Test.YtoakidkcppinpaaGreatDAt
import Derived.Test.YtoakidkcppinpaaGreatDAu
import Derived.Test.YtoakidkcppinpaaGreatDAw
import Derived.Test.YtoakidkcppinpaaGreatDAx
import Derived.Test.YtoakidkcppinpaaGreatDAy
import Derived.Test.YtoakidkcppinpaaGreatDAz
import Derived.Test.YtoakidkcppinpaaGreatDBe
import Derived.Test.YtoakidkcppinpaaGreatDBf
import Derived.Test.YtoakidkcppinpaaGreatDBg
import Derived.Test.YtoakidkcppinpaaGreatDBh
import Derived.Test.YtoakidkcppinpaaGreatDAo
import Derived.Test.YtoakidkcppinpaaGreatDBc
import Derived.Test.YtoakidkcppinpaaGreatDAr
import Derived.Test.YtoakidkcppinpaaGreatDAs
import Derived.Test.YtoakidkcppinpaaGreatDAi
import Derived.Test.YtoakidkcppinpaaGreatDAp
import Derived.Test.YtoakidkcppinpaaGreatDBb
import Derived.Test.YtoakidkcppinpaaGreatDBa
import Derived.Test.YtoakidkcppinpaaGreatDAm
import Derived.Test.YtoakidkcppinpaaGreatDAn
import Derived.Test.YtoakidkcppinpaaGreatDAk
import Derived.Test.YtoakidkcppinpaaGreatDAv
import Derived.Test.YtoakidkcppinpaaGreatDBd
set_option linter.unusedVariables false
set_option linter.unusedSimpArgs false
set_option linter.unusedSectionVars false
set_option maxHeartbeats 16000000
set_option maxRecDepth 100000
namespace Go.Proofs.YtoakidkcppinpaaGreat.CtD
open Go Go.CT CtF CtR
variable [Yn]
open CtL (In Cd codeOK inOK bAt sAt tAft fnd folM WfC TaintOK)
theorem tupRet {R:D→List (Option (List C))→Prop} {n k:Int} {hp:Hp} (h:R (.tup [DI .i64 n,DI .i64 k]) []):RetOb 0 R (.tup [DI .i64 n,DI .i64 k]) hp :=
 RetOb.ofQ (fun _=>none) [] _ [] ⟨by simp [DM,DMs,CM,DI],trivial,trivial,by simp [enumL]⟩ h (Nat.zero_le _)
theorem frz_none {T:Nat→Option (List Bool)} {n i:Nat} (h:i<n) (ht:T i=none):(frzG n (TB T))[i]? = some (.v (.slice none 0 0)):=by
 simp [frzG,h,TB,ht]
theorem frz_some {T:Nat→Option (List Bool)} {n i:Nat} {row:List Bool} (h:i<n) (ht:T i=some row):(frzG n (TB T))[i]? = some (.isl 1 (row.map fun b=>[C.v (.bool b)])):=by
 simp [frzG,h,TB,ht,boolsC]
theorem frzG_len (n:Nat) (T:Nat→Option (List C)):(frzG n T).length=n:=by simp [frzG]
theorem firstI (c:Cd) (T:Nat→Option (List Bool)) (hc:codeOK c=true) (hT:∀ i row,T i=some row→i<c.list.length∧row.length=14):DC Tryz.prog 33 [.agg (cdC c),.c (.isl 1 ((frzG c.list.length (TB T)).map fun x=>[x]))] [] (fun r h=>∃ n k:Int,r = .tup [DI .i64 n,DI .i64 k]∧h=[]∧(n=0→∀ i row,T i=some row→fnd (hdC c) (CtL.atC c.list i) row=0)):=by
 have hmx:=mx_eq
 have hcl:=code_len hc
 have hlab:=codeOK_labs hc
 have hin:∀ (i:Nat) (x:In),c.list[i]? = some x→Ir c.vars.length c.arrays.length x:=fun i x hx=>by
  have hc':=hc
  simp only [codeOK,Bool.and_eq_true,List.all_eq_true] at hc'
  exact ir_of (hc'.1.2 x (List.mem_of_getElem? hx))
 have hfd:=fun x row hl hx=>foundI c x row hl hlab.1 hlab.2 (by omega) (by omega) (by omega) hx
 have ret:∀ (n k:Int) (hp:Hp),(n=0→∀ i row,T i=some row→fnd (hdC c) (CtL.atC c.list i) row=0)→RetOb 0 (fun r h=>∃ n k:Int,r = .tup [DI .i64 n,DI .i64 k]∧h=[]∧(n=0→∀ i row,T i=some row→fnd (hdC c) (CtL.atC c.list i) row=0)) (.tup [DI .i64 n,DI .i64 k]) hp:=fun n k hp h=>tupRet ⟨n,k,rfl,rfl,h⟩
 generalize hR:(fun (r:D) (h:List (Option (List C)))=>∃ n k:Int,r = .tup [DI .i64 n,DI .i64 k]∧h=[]∧(n=0→∀ i row,T i=some row→fnd (hdC c) (CtL.atC c.list i) row=0))=R at ret ⊢
 clear hR
 obtain ⟨vs,ar,l⟩:=c
 simp only at hcl hin hfd ret hT
 simp only [cdC,ints] at hfd ⊢
 have hgl:=frzG_len l.length (TB T)
 refine dcZ Tryz.func33 ?_
 simp only [go_sem,List.length_map,hgl]
 iterate 4 ((try (refine drvZ Tryz.func33 ?_;simp only [go_sem,List.length_map,hgl]));((with_reducible and_intros)<;>try exact sd))
 refine Go.loopQ (fun i : Nat => [(2, .c (.ptr 0 0)), (9, .c (.isl 1 ((frzG l.length (TB T)).map fun x => [x]))), (10, DI .i64 l.length), (11, DI .i64 i)])
  (fun i=>[(0,some [isI vs,isI ar,.isl 5 (l.map inX)])]) 4096 (fun i=>i≤l.length∧∀ j row,j<i→T j=some row→fnd (hdC ⟨vs,ar,l⟩) (CtL.atC l j) row=0) (fun i=>l.length - i) ?_ 0 some [] _ ⟨Nat.zero_le _,fun j row hj=>by omega⟩ ?_
 ·rintro i ⟨hi,hd⟩ again
  rcases Nat.lt_or_ge i l.length with hlt | hge
  ·cases hTi:T i with
   | none =>
    have hce:=frz_none (n:=l.length) hlt hTi
    refine drvL Tryz.func33 ?_
    simp only [go_sem,hlt,hce]
    iterate 5 ((try (refine drvZ Tryz.func33 ?_;simp only [go_sem,hlt,hce,hgl,List.length_map]));((with_reducible and_intros)<;>try exact sd))
    refine again (i+1) some [] _ ⟨hlt,fun j row hj hr=>?_⟩ (by omega) ?_
    ·by_cases e:j=i
     ·subst e;rw [hTi] at hr;cases hr
     ·exact hd j row (by omega) hr
    simp only [go_sem,TmOK,DM,DMs,CM,CMs,forall_eq,exists_eq_left,Mq,HpOK,LowOK]
    simp [upd,isI,CMs,CM,kf]
   | some row =>
    have hce:=frz_some (n:=l.length) hlt hTi
    obtain ⟨x,hx⟩:∃ x,l[i]? = some x:=⟨l[i],by simp [hlt]⟩
    have hrl:=(hT i row hTi).2
    have hf1:=hfd x row hrl (hin i x hx)
    have hat:=CtL.atC_get hx
    obtain ⟨v,hv⟩:∃ v,fnd (hdC ⟨vs,ar,l⟩) x row=v:=⟨_,rfl⟩
    rw [hv] at hf1
    obtain ⟨op,xa,xb,xc,xd⟩:=x
    simp only [inX] at hf1
    by_cases h0:v=0
    ·subst h0
     refine drvL Tryz.func33 ?_
     simp only [go_sem,hlt,hce,hx,inX]
     iterate 7 ((try (refine drvZ Tryz.func33 ?_;simp only [go_sem,hlt,hce,hx,inX,hgl,hrl,List.length_map,bne_self_eq_false,beq_self_eq_true]));((with_reducible and_intros)<;>try exact sd);(try first | refine XK.p hf1 ok63 ?_ | refine XK.gp hf1 ok63 ?_))
     refine again (i+1) some [] _ ⟨hlt,fun j row' hj hr=>?_⟩ (by omega) ?_
     ·by_cases e:j=i
      ·subst e;rw [hTi] at hr;simp only [Option.some.injEq] at hr;subst hr;rw [hat,hv]
      ·exact hd j row' (by omega) hr
     simp only [go_sem,TmOK,DM,DMs,CM,CMs,forall_eq,exists_eq_left,Mq,HpOK,LowOK]
     simp [upd,isI,CMs,CM,kf]
    ·have g0:(v != 0)=true:=by simp [h0]
     refine drvL Tryz.func33 ?_
     simp only [go_sem,hlt,hce,hx,inX]
     iterate 7 ((try (refine drvZ Tryz.func33 ?_;simp only [go_sem,hlt,hce,hx,inX,hgl,hrl,List.length_map,g0]));((with_reducible and_intros)<;>try exact sd);(try first | refine XK.p hf1 ok63 ?_ | refine XK.gp hf1 ok63 ?_))
     exact ret _ _ _ fun e=>absurd e h0
  ·have hn:¬ i<l.length:=by omega
   refine drvL Tryz.func33 ?_
   simp only [go_sem,hn]
   iterate 4 ((try (refine drvZ Tryz.func33 ?_;simp only [go_sem,hn]));((with_reducible and_intros)<;>try exact sd))
   exact ret _ _ _ fun _ j row hr=>hd j row (by have:=(hT j row hr).1;omega) hr
 ·simp only [go_sem,TmOK,DM,DMs,CM,CMs,forall_eq,exists_eq_left,Mq,HpOK,LowOK]
  simp [upd,isI,CMs,CM,kf]
theorem least_ex {p:Pg} {l:List In} (hw:WfC l) (h0:0<l.length):∃ T:Nat→Option (List Bool),(∀ i row,T i=some row→i<l.length∧row.length=14)∧(∃ row,T 0=some row)∧∀ i,i<l.length→ClsB p l T i:=by
 refine ⟨fun i=>if i<l.length then some (List.replicate 14 true) else none,fun i row h=>?_,⟨_,if_pos h0⟩,fun i hi row hr u hu=>?_⟩
 ·simp only at h
  split at h
  ·rename_i hi;cases h;exact ⟨hi,by simp⟩
  ·cases h
 ·have hul:=CtL.follow_lt hw hi hu
  refine ⟨List.replicate 14 true,if_pos hul,fun r hr2=>?_⟩
  simp only [if_pos hi,Option.some.injEq] at hr
  subst hr
  have hlen:=CtL.tAft_len p (CtL.atC l i) (List.replicate 14 true)
  rw [List.length_replicate] at hlen
  rcases Nat.lt_or_ge r 14 with h | h
  ·rw [List.getD_eq_getElem?_getD,List.getElem?_replicate,if_pos h];rfl
  ·rw [List.getD_eq_getElem?_getD,List.getElem?_eq_none (by omega)] at hr2;cases hr2
theorem checkI (c:Cd) (hc:codeOK c=true):DC Tryz.prog 9 [.agg (cdC c)] [] (fun r h=>∃ n k:Int,r = .tup [DI .i64 n,DI .i64 k]∧h=[]∧(n=0→∃ T,TaintOK (hdC c) c.list T)):=by
 have hmx:=mx_eq
 have hcl:=code_len hc
 have hv:=codeValidT c (by omega) (by omega) (by omega) hc
 have hw:=CtL.wf_of hc
 have hle:=leastI c hc
 have hfi:=fun T hT=>firstI c T hc hT
 generalize hR:(fun (r:D) (h:List (Option (List C)))=>∃ n k:Int,r = .tup [DI .i64 n,DI .i64 k]∧h=[]∧(n=0→∃ T,TaintOK (hdC c) c.list T))=R
 obtain ⟨vs,ar,l⟩:=c
 simp only at hcl hw hle hfi
 simp only [cdC,ints] at hv hle hfi ⊢
 refine dcZ Tryz.func9 ?_
 simp only [go_sem]
 iterate 3 ((try (refine drvZ Tryz.func9 ?_;simp only [go_sem]));((with_reducible and_intros)<;>try exact sd);(try first | refine XK.p hv ok32 ?_ | refine XK.gp hv ok32 ?_))
 refine XK.callG [] hle ok34 (fun i' x h=>by simp at h) (hbT ()) (fun d h' ⟨_,_,_,_,_,e⟩=>by subst e;simp) ?_ (fun _=>⟨by kernel_rfl,by
  obtain ⟨T,t1,t2,t3⟩:=least_ex (p:=hdC ⟨vs,ar,l⟩) hw (by omega)
  exact ⟨_,_,⟨T,t1,t2,t3,rfl,rfl⟩,by simp⟩⟩)
 rintro _ _ ⟨T,t1,t2,t3,rfl,rfl⟩ _
 have hfi:=hfi T t1
 iterate 2 ((try (refine drvZ Tryz.func9 ?_;simp only [go_sem]));((with_reducible and_intros)<;>try exact sd))
 refine XK.callG [] hfi ok33 (fun i' x h=>by simp at h) (hbT ()) (fun d h' ⟨_,_,_,e,_⟩=>by subst e;simp) ?_ (fun _=>⟨by kernel_rfl,_,_,⟨1,0,rfl,rfl,fun h=>absurd h (by decide)⟩,by simp⟩)
 rintro _ _ ⟨n,k,rfl,rfl,hfn⟩ _
 iterate 4 ((try (refine drvZ Tryz.func9 ?_;simp only [go_sem]));((with_reducible and_intros)<;>try exact sd))
 exact tupRet (by rw [← hR];exact ⟨n,k,rfl,rfl,fun e=>⟨T,t2,fun i row h=>(t1 i row h).2,fun i row hi h u hu=>t3 i hi row h u hu,fun i row hi h=>hfn e i row h⟩⟩)
open CtL (In Cd codeOK)
theorem relFn (x:In):DC Tryz.prog 39 [.agg (inX x)] [] (fun r h=>r=DB (x.op == 11)∧h=[]):=by
 obtain ⟨op,a,b,c,d⟩:=x
 simp only [inX]
 generalize hR:(fun (r:D) (h:List (Option (List C)))=>r=DB (op == 11)∧h=[])=R
 refine dcZ Tryz.func39 ?_
 simp only [go_sem]
 iterate 3 ((try (refine drvZ Tryz.func39 ?_;simp only [go_sem]));((with_reducible and_intros)<;>try exact sd))
 exact RetOb.plain (d:=DB _) (by rw [← hR];exact ⟨rfl,rfl⟩) rfl
theorem indexFuncR (p : In → Bool) (xs : List In) (hl : xs.length ≤ mx) (hg : ∀ x, DC Tryz.prog 39 [.agg (inX x)] [] (fun r h => r = DB (!p x) ∧ h = [])) :
 DC Tryz.prog 66 [.c (.isl 5 (xs.map inX)),.c (.clo 39 [])] [] (fun d h=>d=DI .i64 (ixB p xs 0)∧h=[]):=by
 have hmx:=mx_eq
 have ret:∀ (v:Int) (hp:Hp),v=ixB p xs 0→RetOb 0 (fun d h=>d=DI .i64 (ixB p xs 0)∧h=[]) (DI .i64 v) hp:=fun v hp h=>RetOb.plain (d:=DI .i64 _) ⟨by rw [h],rfl⟩ rfl
 generalize hR:(fun (d:D) (h:List (Option (List C)))=>d=DI .i64 (ixB p xs 0)∧h=[])=R at ret ⊢
 clear hR
 refine dcZ Tryz.func66 ?_
 simp only [go_sem]
 ((try (refine drvZ Tryz.func66 ?_;simp only [go_sem]));((with_reducible and_intros)<;>try exact sd))
 refine Go.loopQ (fun i:Nat=>[(0,.c (.isl 5 (xs.map inX))),(1,.c (.clo 39 [])),(7,DI .i64 xs.length),(8,DI .i64 i)]) (fun _=>[]) 1024 (fun i=>i≤xs.length∧ixB p (xs.drop i) i=ixB p xs 0) (fun i=>xs.length - i) ?_ 0 some [] _ ⟨Nat.zero_le _,rfl⟩ ?_
 ·rintro i ⟨hi,hI⟩ again
  rcases Nat.lt_or_ge i xs.length with hlt | hge
  ·obtain ⟨x,hx⟩:∃ x,xs[i]? = some x:=⟨xs[i],by simp [hlt]⟩
   have hgx:=hg x
   rw [List.drop_eq_getElem_cons hlt,(List.getElem?_eq_some_iff.1 hx).2] at hI
   cases hpx:p x with
   | true =>
    rw [hpx] at hgx
    simp only [ixB,hpx,if_true] at hI
    obtain ⟨op,a,b,c,d⟩:=x
    simp only [inX] at hgx
    refine drvL Tryz.func66 ?_
    simp only [go_sem,hx,hlt,inX]
    iterate 5 ((try (refine drvZ Tryz.func66 ?_;simp only [go_sem,hx,hlt,inX]));((with_reducible and_intros)<;>try exact sd);(try first | refine XK.p hgx ok39 ?_ | refine XK.gp hgx ok39 ?_))
    refine again (i+1) some [] _ ⟨hlt,by rw [← hI];rfl⟩ (by omega) ?_
    simp only [go_sem,TmOK,DM,DMs,CM,CMs,forall_eq,exists_eq_left,Mq,HpOK,LowOK]
    first | done | (simp;done) | (simp;exact CM.kf rfl) | exact CM.kf rfl
   | false =>
    rw [hpx] at hgx
    simp only [ixB,hpx] at hI
    obtain ⟨op,a,b,c,d⟩:=x
    simp only [inX] at hgx
    refine drvL Tryz.func66 ?_
    simp only [go_sem,hx,hlt,inX]
    iterate 5 ((try (refine drvZ Tryz.func66 ?_;simp only [go_sem,hx,hlt,inX]));((with_reducible and_intros)<;>try exact sd);(try first | refine XK.p hgx ok39 ?_ | refine XK.gp hgx ok39 ?_))
    exact ret _ _ (by rw [← hI];rfl)
  ·have hn:¬ i<xs.length:=by omega
   have e1:xs.drop i=[]:=List.drop_of_length_le (by omega)
   refine drvL Tryz.func66 ?_
   simp only [go_sem,hn]
   iterate 3 ((try (refine drvZ Tryz.func66 ?_;simp only [go_sem,hn]));((with_reducible and_intros)<;>try exact sd))
   exact ret _ _ (by rw [← hI,e1];rfl)
 ·simp only [go_sem,TmOK,DM,DMs,CM,CMs,forall_eq,exists_eq_left,Mq,HpOK,LowOK]
  first | done | (simp;done) | (simp;exact CM.kf rfl) | exact CM.kf rfl
theorem containsFuncR (p : In → Bool) (xs : List In) (hl : xs.length ≤ mx) (hg : ∀ x, DC Tryz.prog 39 [.agg (inX x)] [] (fun r h => r = DB (!p x) ∧ h = [])) :
 DC Tryz.prog 38 [.c (.isl 5 (xs.map inX)),.c (.clo 39 [])] [] (fun d h=>d=DB (!xs.all p)∧h=[]):=by
 have hif:=indexFuncR p xs hl hg
 have hal:=ixB_all p xs 0 (by omega)
 generalize ixB p xs 0=k at *
 refine dcZ Tryz.func38 ?_
 simp only [go_sem]
 iterate 3 ((try (refine drvZ Tryz.func38 ?_;simp only [go_sem]));((with_reducible and_intros)<;>try exact sd);(try first | refine XK.p hif ok66 ?_ | refine XK.gp hif ok66 ?_))
 exact RetOb.plain (d:=DB _) ⟨by rw [← hal],rfl⟩ rfl
theorem relI (c:Cd) (hc:codeOK c=true):DC Tryz.prog 12 [.agg (cdC c)] [] (fun r h=>r=DB (c.list.any fun x=>x.op == 11)∧h=[]):=by
 have hmx:=mx_eq
 have hcl:=code_len hc
 have hv:=codeValidT c (by omega) (by omega) (by omega) hc
 obtain ⟨vs,ar,l⟩:=c
 simp only at hcl
 have hcf:=containsFuncR (fun x => !(x.op == 11)) l (by omega) (fun x=>by simpa using relFn x)
 have he:(!l.all fun x => !(x.op == 11))=l.any fun x=>x.op == 11:=by simp [List.not_all_eq_any_not]
 rw [he] at hcf
 generalize (l.any fun x=>x.op == 11)=z at *
 simp only [cdC,ints] at hv ⊢
 generalize hR:(fun (r:D) (h:List (Option (List C)))=>r=DB z∧h=[])=R
 refine dcZ Tryz.func12 ?_
 simp only [go_sem]
 iterate 6 ((try (refine drvZ Tryz.func12 ?_;simp only [go_sem]));((with_reducible and_intros)<;>try exact sd);(try first | refine XK.p hv ok32 ?_ | refine XK.gp hv ok32 ?_ | refine XK.p hcf ok38 ?_ | refine XK.gp hcf ok38 ?_))
 exact RetOb.plain (d:=DB _) (by rw [← hR];exact ⟨rfl,rfl⟩) rfl
open CtL (In Cd codeOK inOK TaintOK runM)
theorem clA_rev (q : Int → Bool) : ∀ (ar : List Int) (a b : List (List Int)), clA q ar a = clA q ar b → a.length = b.length → ∀ (i : Nat) (x : Int), ar[i]? = some x → q x = false → a[i]? = b[i]?
 | [],_,_,_,_,i,x,h,_=>by simp at h
 | l :: r,[],[],_,_,i,x,_,_=>rfl
 | l :: r,[],b :: t,_,hl,_,_,_,_=>by simp at hl
 | l :: r,a :: s,[],_,hl,_,_,_,_=>by simp at hl
 | l :: r,a :: s,b :: t,h,hl,i,x,hx,hq=>by
  simp only [clA,List.cons.injEq] at h
  cases i with
  | zero =>
   simp only [List.getElem?_cons_zero,Option.some.injEq] at hx ⊢
   subst hx
   have h1:=h.1
   rw [hq] at h1
   simpa using h1
  | succ i =>
   simp only [List.getElem?_cons_succ] at hx ⊢
   exact clA_rev q r s t h.2 (by simpa using hl) i x hx hq
theorem low_of_clr {p:Pg} {a b:Mm} (hv:a.vals.length=b.vals.length) (ha:a.arrays.length=b.arrays.length) (h:memSame (clrM secQ p.vars p.arrays a) (clrM secQ p.vars p.arrays b)=true):LowM 0 p a b:=by
 simp only [memSame,clrM,Bool.and_eq_true] at h
 obtain ⟨h1,h2⟩:=h
 have h1:=of_decide_eq_true h1
 have h2:=of_decide_eq_true h2
 have hq:∀ x:Int,x.toNat.testBit 0=false→secQ x=false:=fun x hx=>hx
 refine ⟨hv,ha,fun i x hx hs=>?_,fun i x hx hs=>clA_rev secQ p.arrays _ _ h2 ha i x hx (hq x hs)⟩
 have e:=congrArg (fun l:List Int=>l[i]?) h1
 simp only [clS_get] at e
 have hg:p.vars.getD i 0=x:=by rw [List.getD_eq_getElem?_getD,hx];rfl
 rw [hg,hq x hs] at e
 simpa using e
theorem fine_same {c : Cd} {a b : Mm} {T : Nat → Option (List Bool)} (hc : codeOK c = true) (hT : TaintOK (hdC c) c.list T) (h11 : (c.list.any fun x => x.op == 11) = false) (h1 : (CtL.runC c a).2.2 = true) (h2 : (CtL.runC c b).2.2 = true)
 (hm:memSame (clrM secQ c.vars c.arrays a) (clrM secQ c.vars c.arrays b)=true):trSame (CtL.runC c a).2.1 (CtL.runC c b).2.1=true:=by
 have ma:=(runC_ok h1).2
 have mb:=(runC_ok h2).2
 have fa:=fits_of hc ma
 have fb:=fits_of hc mb
 have hcl:=code_len hc
 have hlow:=low_of_clr (p:=hdC c) (by rw [fa.nv,fb.nv]) (by rw [fa.na,fb.na]) hm
 have hin:∀ i,i<c.list.length→CtL.InP (hdC c) (CtL.atC c.list i):=fun i hi=>by
  have hc':=hc
  simp only [codeOK,Bool.and_eq_true,List.all_eq_true] at hc'
  have hx:=CtL.atC_lt hi
  have g:=ir_of (hc'.1.2 _ (List.mem_of_getElem? hx))
  exact ⟨fun h=>(g.b2 h).2,fun h=>(g.b4 h).2⟩
 have hno:∀ i,i<c.list.length→(CtL.atC c.list i).op ≠ 11:=fun i hi h=>by
  have hx:=List.mem_of_getElem? (CtL.atC_lt hi)
  have:=List.any_eq_false.1 h11 _ hx
  simp [h] at this
 rw [trSame_iff]
 obtain ⟨row,hrow⟩:=hT.st
 unfold CtL.runC at h1 h2 ⊢
 rw [hc,ma] at h1
 rw [hc,mb] at h2
 rw [hc,ma,mb]
 simp only [Bool.and_self,if_true] at h1 h2 ⊢
 split at h1
 ·split at h2
  ·rename_i x q hq x' q' hq'
   exact CtL.taint_run (CtL.wf_of hc) hT hin hno 20000 0 _ _ a b row q q' (by omega) hrow ⟨by simp,by simp,hT.len 0 row hrow,fun _ _=>rfl⟩ hlow hq hq'
  ·cases h2
 ·cases h1
open CtL (In Cd codeOK TaintOK)
def dfdR (r:D) (h:List (Option (List C))):Prop:=∃ (c:Cd) (l:List Mm),r = .tup [.agg (cdC c),.c (.isl 2 (l.map Mm.cells))]∧c.vars.length≤13∧c.arrays.length≤2∧c.list.length≤400∧l.length≤4∧h=[]
theorem prog_of_code {c:Cd} (h:codeOK c=true):progOK (hdC c)=true:=by
 simp only [codeOK,Bool.and_eq_true] at h
 have:=h.1.1.1.1
 have hz:lsize 5 []=0:=by simp [lsize]
 simp [progOK,hdC,this,hz]
theorem lawFindOf (bs:List Int) (hl:bs.length≤mx) (hdr:DC Tryz.prog 4 [bytesD bs] [] dfdR):DC Tryz.prog 3 [bytesD bs] [] (fun d h=>d=DB true∧h=[]):=by
 have hmx:=mx_eq
 unfold bytesD
 unfold bytesD at hdr
 have ret:∀ hp:Hp,RetOb 0 (fun d h=>d=DB true∧h=[]) (DB true) hp:=fun hp=>RetOb.plain (d:=DB true) ⟨rfl,rfl⟩ rfl
 generalize hRR:(fun (d:D) (h:List (Option (List C)))=>d=DB true∧h=[])=R at ret ⊢
 by_cases hbig:1048576<bs.length
 ·have hz:((1048576:Int)<(bs.length:Int))=True:=eq_true (by omega)
  refine dcZ Tryz.func3 ?_
  simp only [go_sem,hz]
  iterate 3 ((try (refine drvZ Tryz.func3 ?_;simp only [go_sem,hz]));((with_reducible and_intros)<;>try exact sd))
  exact ret _
 have hz:((1048576:Int)<(bs.length:Int))=False:=eq_false (by omega)
 refine dcZ Tryz.func3 ?_
 simp only [go_sem,hz]
 iterate 3 ((try (refine drvZ Tryz.func3 ?_;simp only [go_sem,hz]));((with_reducible and_intros)<;>try exact sd))
 refine XK.callG [] hdr ok4 (fun i' x h=>by simp at h) (hbT ()) (fun d h' ⟨_,_,_,_,_,_,_,e⟩=>by subst e;simp) ?_
 rintro _ _ ⟨c,l,rfl,h1,h2,h3,h4,rfl⟩ _
 clear hdr
 obtain ⟨i0,k0,hfd⟩:=fd_ex c l
 have hfi:=findI c l i0 k0 (by omega) (by omega) (by omega) (by omega) hfd
 have hfs:=findS c l i0 k0 (by omega) (by omega) (by omega) (by omega) hfd
 by_cases he:i0=l.length
 ·rw [fdR,if_pos he] at hfi hfs
  obtain ⟨vs,ar,cl⟩:=c
  simp only [cdC,ints] at hfi hfs ⊢
  iterate 14 ((try (refine drvZ Tryz.func3 ?_;simp only [go_sem,bne_self_eq_false,beq_self_eq_true]));((with_reducible and_intros)<;>try exact sd);(try first | refine XK.p hfi ok5 ?_ | refine XK.gp hfi ok5 ?_ | refine XK.p hfs ok6 ?_ | refine XK.gp hfs ok6 ?_))
  exact ret _
 ·rw [fdR,if_neg he] at hfi hfs
  obtain ⟨hik,hkl,hP⟩:=hfd.yes.resolve_left he
  obtain ⟨a,ha⟩:∃ a,l[i0]? = some a:=⟨l[i0]'(by omega),List.getElem?_eq_getElem (by omega)⟩
  obtain ⟨b,hb⟩:∃ b,l[k0]? = some b:=⟨l[k0]'(by omega),List.getElem?_eq_getElem (by omega)⟩
  simp only [fdP,fd_at ha,fd_at hb,Bool.and_eq_true,Bool.not_eq_true'] at hP
  obtain ⟨p3,p4,pt,pm⟩:=hP
  have hc:=(runC_ok p3).1
  have ma:=(runC_ok p3).2
  have mb:=(runC_ok p4).2
  have hpg:=prog_of_code hc
  have g1:(hdC c).vars.length≤mx:=by show c.vars.length≤mx;omega
  have g2:(hdC c).arrays.length≤mx:=by show c.arrays.length≤mx;omega
  have hp1:=publicPart (hdC c) a g1 g2
  have hp2:=publicPart (hdC c) b g1 g2
  have q1:partP secQ (hdC c) a=(clrM secQ c.vars c.arrays a,true):=by
   unfold partP;rw [hpg,show memOK (hdC c).vars (hdC c).arrays a=true from ma];rfl
  have q2:partP secQ (hdC c) b=(clrM secQ c.vars c.arrays b,true):=by
   unfold partP;rw [hpg,show memOK (hdC c).vars (hdC c).arrays b=true from mb];rfl
  rw [q1] at hp1
  rw [q2] at hp2
  have hr1:=runCodeG c a (by omega) (by omega) (by omega)
  have hr2:=runCodeG c b (by omega) (by omega) (by omega)
  have fa:=fits_of hc ma
  have hcm:=clrM_len (vs:=c.vars) (ar:=c.arrays) fa.nv fa.na (fun x hx=>(fa.arr x hx).1)
  have hms:=memorySame (clrM secQ c.vars c.arrays a) (clrM secQ c.vars c.arrays b) (by rw [hcm.1];omega) (by rw [hcm.2.1];omega) (fun x hx=>by rw [hcm.2.2 x hx];omega)
  rw [pm] at hms
  have hln:=runC_len c a
  have hts:=traceSame (CtL.runC c a).2.1 (CtL.runC c b).2.1 (by omega)
  rw [pt] at hts
  have hck:=checkI c hc
  have hrl:=relI c hc
  have key:=fun T hT h11=>fine_same (T:=T) hc hT h11 p3 p4 pm
  rw [pt] at key
  have hla:(l.map Mm.cells)[i0]? = some a.cells:=by rw [List.getElem?_map,ha];rfl
  have hlb:(l.map Mm.cells)[k0]? = some b.cells:=by rw [List.getElem?_map,hb];rfl
  have hi1:i0<l.length:=by omega
  generalize (c.list.any fun x=>x.op == 11)=rl at *
  generalize CtL.runC c a=Y1 at *
  generalize CtL.runC c b=Y2 at *
  generalize clrM secQ c.vars c.arrays a=Z1 at *
  generalize clrM secQ c.vars c.arrays b=Z2 at *
  obtain ⟨⟨y1,y2⟩,t1,b1⟩:=Y1
  obtain ⟨⟨w1,w2⟩,t2,b2⟩:=Y2
  obtain ⟨z1,z2⟩:=Z1
  obtain ⟨x1,x2⟩:=Z2
  simp only at p3 p4 hr1 hr2 hts
  subst p3 p4
  obtain ⟨vs,ar,cl⟩:=c
  obtain ⟨va,arr⟩:=a
  obtain ⟨vb,brr⟩:=b
  simp only [cdC,ints,hdC,Pg.cells,Mm.cells,St1.cellsL] at hfi hfs hp1 hp2 hr1 hr2 hms hck hrl hla hlb ⊢
  have nilP:∀ (x y:List Int) (m:List C) (R:D→List (Option (List C))→Prop),(∀ c ∈ m,kf c=true)→DC Tryz.prog 7 [.agg [isI x,isI y,.isl 11 []],.agg m] [] R→DC Tryz.prog 7 [.agg [isI x,isI y,.v (.slice none 0 0)],.agg m] [] R:=fun x y m R hm h=>DC.nilArg (by
   simp only [DMs,DM]
   exact ⟨by simp [CMs,CM,isI,kf],CMs.kf hm,trivial⟩) h
  have hp1:=nilP _ _ _ _ (by simp [isI,kf]) hp1
  have hp2:=nilP _ _ _ _ (by simp [isI,kf]) hp2
  iterate 40 ((try (refine drvZ Tryz.func3 ?_;simp only [go_sem,ha,hb,hla,hlb,hi1,hkl,hik,List.length_map,bne_self_eq_false,beq_self_eq_true]));((with_reducible and_intros)<;>try exact sd);(try first | refine XK.p hfi ok5 ?_ | refine XK.gp hfi ok5 ?_ | refine XK.p hfs ok6 ?_ | refine XK.gp hfs ok6 ?_ | refine XK.p hp1 ok7 ?_ | refine XK.gp hp1 ok7 ?_ | refine XK.p hp2 ok7 ?_ | refine XK.gp hp2 ok7 ?_ | refine XK.p hr1 ok8 ?_ | refine XK.gp hr1 ok8 ?_ | refine XK.p hr2 ok8 ?_ | refine XK.gp hr2 ok8 ?_))
  refine XK.callG [] hck ok9 (fun i' x h=>by simp at h) (hbT ()) (fun d h' ⟨_,_,_,e,_⟩=>by subst e;simp) ?_
  rintro _ _ ⟨n,k,rfl,rfl,hn⟩ _
  by_cases hn0:n=0
  ·obtain ⟨T,hT⟩:=hn hn0
   subst hn0
   cases rl with
   | false=>exact absurd (key T hT rfl) (by simp)
   | true =>
    iterate 40 ((try (refine drvZ Tryz.func3 ?_;simp only [go_sem,hik,bne_self_eq_false,beq_self_eq_true,Bool.not_false,Bool.not_true]));((with_reducible and_intros)<;>try exact sd);(try first | refine XK.p hrl ok12 ?_ | refine XK.gp hrl ok12 ?_ | refine XK.p hms ok10 ?_ | refine XK.gp hms ok10 ?_ | refine XK.p hts ok11 ?_ | refine XK.gp hts ok11 ?_))
    exact ret _
  ·have g0:(n != 0)=true:=by simp [hn0]
   iterate 40 ((try (refine drvZ Tryz.func3 ?_;simp only [go_sem,hik,bne_self_eq_false,beq_self_eq_true,Bool.not_false,Bool.not_true,g0]));((with_reducible and_intros)<;>try exact sd);(try first | refine XK.p hrl ok12 ?_ | refine XK.gp hrl ok12 ?_ | refine XK.p hms ok10 ?_ | refine XK.gp hms ok10 ?_ | refine XK.p hts ok11 ?_ | refine XK.gp hts ok11 ?_))
   exact ret _
open CtL (In Cd)
def co9R (bs:List Int) (n:Nat) (r:D) (h:List (Option (List C))):Prop:=∃ c:Cd,r = .agg (cdC c)∧c.vars.length≤13∧c.arrays.length≤2∧c.list.length≤400∧rdL bs n 6000000 h
theorem or1_le {x:Int} (h:0≤x∧x≤3):0≤((x.toNat ||| 1:Nat):Int)∧((x.toNat ||| 1:Nat):Int)≤3:=by
 have:=Nat.or_lt_two_pow (x:=x.toNat) (y:=1) (n:=2) (by omega) (by omega)
 omega
theorem rng_set3 {l:List Int} {i:Nat} {v:Int} (h:∀ y ∈ l,0≤y∧y≤3) (hv:0≤v∧v≤3):∀ y ∈ l.set i v,0≤y∧y≤3:=fun y hy=>(List.mem_or_eq_of_mem_set hy).elim (h y) (fun e=>e ▸ hv)
theorem secP_sz {p:Pg} (h:(secP p).2=true):(secP p).1.vars.length≤13∧(secP p).1.arrays.length≤2:=by
 unfold secP at h ⊢
 split at h
 ·rename_i h1
  rw [if_pos h1]
  unfold CtL.linP at h1 h ⊢
  split at h1
  ·rename_i h2
   rw [if_pos h2] at h ⊢
   have:=prog_len h2.2
   simp only [CtL.compP] at h ⊢
   split at h
   ·rename_i h3
    rw [if_pos h3]
    simp only
    omega
   ·simp at h
  ·simp at h1
 ·simp at h
theorem l9CodeR (bs:List Int) (n:Nat) (hb:Fits .u8 bs) (hl:bs.length≤2000) (hn:n≤200000000000):DC Tryz.prog 17 [.c (.ptr 0 0)] [some (rdr bs n)] (co9R bs n):=by
 have hmx:=mx_eq
 have hco:=l6CodeO bs n hb hl (by omega)
 generalize hR:co9R bs n=R
 refine dcZ Tryz.func17 ?_
 simp only [go_sem,rdr]
 ((try (refine drvZ Tryz.func17 ?_;simp only [go_sem,rdr]));((with_reducible and_intros)<;>try exact sd))
 refine XK.callG [0] hco ok40 (hhp_one rfl) (hbT ()) (fun d h' ⟨_,_,_,_,_,_,_,_,_,_,_,_,e⟩=>by subst e;simp) ?_
 rintro _ _ ⟨vs,ar,l,rfl,h1,h2,h3,hv,ha,n1,hn1,hn2,rfl⟩ _
 iterate 4 ((try (refine drvZ Tryz.func17 ?_;simp only [go_sem,rdr]));((with_reducible and_intros)<;>try exact sd))
 refine XK.callG [0] (pick bs n1 3 hb hl (by omega) (by simp only [InK];omega)) ok16 (hhp_one rfl) (hbT ()) (fun d h' ⟨v,_,_,e⟩=>by subst e;simp) ?_
 rintro _ _ ⟨v,rfl,hv3,rfl⟩ _
 have hll:=inC_len l
 have fin:∀ (vs2 ar2:List Int) (l2:List In) (ps a b c:Nat) (hp:Hp),vs2.length=a→ar2.length=b→l2.length=c→a≤13→b≤2→c≤13→n≤ps→ps≤n+6000000→hp 0=some (some (rdr bs ps))→hp 129=some (some (vs2.map I64))→hp 130=some (some (ar2.map I64))→hp 131=some (some (inC l2))→RetOb 1 R (.agg [.msl 129 1 0 a,.msl 130 1 0 b,.msl 131 5 0 c]) hp:=fun vs2 ar2 l2 ps a b c hp e1 e2 e3 b1 b2 b3 f1 f2 f3 f4 f5 f6=>by
  subst e1 e2 e3
  refine RetOb.ofQ (fun j=>if j=0 then some 0 else none) [129,130,131] (.agg (cdC ⟨vs2,ar2,l2⟩)) [some (rdr bs ps)] ?_ (by rw [← hR];exact ⟨⟨vs2,ar2,l2⟩,rfl,by simp only;omega,by simp only;omega,by simp only;omega,ps,by omega,by omega,rfl⟩) (by simp)
  have g1:(l2.map inX).flatten=inC l2:=rfl
  have g2:∀ a ∈ l2,(inX a).length=5:=fun x hx=>rfl
  have g3:∀ a ∈ l2,∀ c ∈ inX a,kf c=true:=fun x hx=>by simp [inX,kf]
  simp only [cdC,isI,enumL,hOf,DM,DMs,CM,CMs,HpOK,LowOK,upd,rdr,f3,f4,f5,f6,g1,flat_I']
  simp [kf,f3,rdr]
  try exact ⟨g2,g3⟩
 have hcase:v=0∨v=1∨v=2:=by omega
 rcases hcase with rfl | rfl | rfl
 ·have hl5:=l5Prog bs (n1+1) hb hl (by omega)
  iterate 4 ((try (refine drvZ Tryz.func17 ?_;simp only [go_sem,rdr]));((with_reducible and_intros)<;>try exact sd))
  refine XK.callG [0] hl5 ok44 (hhp_one rfl) (hbT ()) (fun d h' ⟨_,_,_,_,_,_,e⟩=>by subst e;simp) ?_
  rintro _ _ ⟨p,rfl,hp,n2,hn3,hn4,rfl⟩ _
  have hcs:=compSecS p hp
  have hsz:=secP_sz (p:=p)
  obtain ⟨pv,pa,pb⟩:=p
  generalize secP ⟨pv,pa,pb⟩=Y at *
  obtain ⟨⟨yv,ya,yl⟩,yb⟩:=Y
  simp only at hsz
  simp only [cdC,Pg.cells] at hcs ⊢
  iterate 4 ((try (refine drvZ Tryz.func17 ?_;simp only [go_sem,rdr,renCs_I,renCs_in]));((with_reducible and_intros)<;>try exact sd);(try first | refine XK.p hcs ok43 ?_ | refine XK.gp hcs ok43 ?_))
  ·rintro ⟨hq1,hq2⟩
   have hz:=hsz hq1
   refine RetOb.ofQ (fun j=>if j=0 then some 0 else none) [] (.agg (cdC ⟨yv,ya,yl⟩)) [some (rdr bs n2)] ?_ (by rw [← hR];exact ⟨⟨yv,ya,yl⟩,rfl,hz.1,hz.2,by simp only;omega,n2,by omega,by omega,rfl⟩) (by simp)
   simp [cdC,isI,enumL,hOf,DM,DMs,CM,CMs,HpOK,LowOK,upd,rdr,kf]
  ·iterate 4 ((try (refine drvZ Tryz.func17 ?_;simp only [go_sem,rdr,renCs_I,renCs_in]));((with_reducible and_intros)<;>try exact sd))
   refine fun _=>?_
   iterate 4 ((try (refine drvZ Tryz.func17 ?_;simp only [go_sem,rdr,renCs_I,renCs_in]));((with_reducible and_intros)<;>try exact sd))
   exact fin vs ar l n2 _ _ _ _ rfl rfl rfl (by omega) (by omega) (by omega) (by omega) (by omega) rfl rfl rfl rfl
 ·iterate 3 ((try (refine drvZ Tryz.func17 ?_;simp only [go_sem,rdr,renCs_I,renCs_in]));((with_reducible and_intros)<;>try exact sd))
  refine Go.loopQ (fun x : Nat × List Int => [(2, .c (.ptr 1 0)), (3, .c (.ptr 193 0)), (6, DI .i64 x.1)])
   (fun x=>[(0,some (rdr bs ((n1+1:Nat):Int))),(1,some [.v (.slice none 0 0),.v (.slice none 0 0),.v (.slice none 0 0)]),(129,some (x.2.map I64)),(130,some (ar.map I64)),(131,some (inC l)),(193,some [.msl 129 1 0 vs.length,.msl 130 1 0 ar.length,.msl 131 5 0 l.length])])
   4096 (fun x=>x.1≤vs.length∧x.2.length=vs.length∧∀ y ∈ x.2,0≤y∧y≤3) (fun x=>vs.length - x.1) ?_ (0,vs) some [] _ ⟨Nat.zero_le _,rfl,hv⟩ ?_
  ·rintro ⟨i,vs2⟩ ⟨hi1,hi2,hi3⟩ again
   simp only at hi1 hi2 hi3 again ⊢
   rcases Nat.lt_or_ge i vs.length with hlt | hge
   ·obtain ⟨x,hx⟩:∃ x,vs2[i]? = some x:=⟨vs2[i]'(by omega),List.getElem?_eq_getElem (by omega)⟩
    have hx3:=hi3 x (List.mem_of_getElem? hx)
    have ho:=or1_le hx3
    have hxk:InK .i64 x:=by simp only [InK];omega
    have hlt2:i<vs2.length:=by omega
    refine drvL Tryz.func17 ?_
    simp only [go_sem,rdr,hlt,hx]
    iterate 5 ((try (refine drvZ Tryz.func17 ?_;simp only [go_sem,rdr,hlt,hx,set_I]));((with_reducible and_intros)<;>try exact sd))
    refine again (i+1,vs2.set i ((x.toNat ||| 1:Nat):Int)) some [] _ ⟨hlt,by rw [List.length_set];exact hi2,rng_set3 hi3 ho⟩ (show vs.length - (i+1)<vs.length - i by omega) ?_
    simp only [go_sem,TmOK,DM,DMs,CM,CMs,forall_eq,exists_eq_left,Mq,HpOK,LowOK,rdr]
    simp [-List.map_set,CMs_I,CMs_in]
   ·have hnl:¬ i<vs.length:=by omega
    clear again
    refine drvL Tryz.func17 ?_
    simp only [go_sem,rdr,hnl]
    iterate 3 ((try (refine drvZ Tryz.func17 ?_;simp only [go_sem,rdr,hnl]));((with_reducible and_intros)<;>try exact sd))
    refine Go.loopQ (fun x : Nat × List Int => [(2, .c (.ptr 1 0)), (3, .c (.ptr 193 0)), (7, DI .i64 x.1)])
     (fun x=>[(0,some (rdr bs ((n1+1:Nat):Int))),(1,some [.v (.slice none 0 0),.v (.slice none 0 0),.v (.slice none 0 0)]),(129,some (vs2.map I64)),(130,some (x.2.map I64)),(131,some (inC l)),(193,some [.msl 129 1 0 vs.length,.msl 130 1 0 ar.length,.msl 131 5 0 l.length])])
     8192 (fun x=>x.1≤ar.length∧x.2.length=ar.length∧∀ y ∈ x.2,0≤y∧y≤3) (fun x=>ar.length - x.1) ?_ (0,ar) some [] _ ⟨Nat.zero_le _,rfl,ha⟩ ?_
    ·rintro ⟨j,ar2⟩ ⟨hj1,hj2,hj3⟩ again
     simp only at hj1 hj2 hj3 again ⊢
     rcases Nat.lt_or_ge j ar.length with hlt | hge
     ·obtain ⟨x,hx⟩:∃ x,ar2[j]? = some x:=⟨ar2[j]'(by omega),List.getElem?_eq_getElem (by omega)⟩
      have hx3:=hj3 x (List.mem_of_getElem? hx)
      have ho:=or1_le hx3
      have hxk:InK .i64 x:=by simp only [InK];omega
      refine drvL Tryz.func17 ?_
      simp only [go_sem,rdr,hlt,hx]
      iterate 5 ((try (refine drvZ Tryz.func17 ?_;simp only [go_sem,rdr,hlt,hx,set_I]));((with_reducible and_intros)<;>try exact sd))
      refine again (j+1,ar2.set j ((x.toNat ||| 1:Nat):Int)) some [] _ ⟨hlt,by rw [List.length_set];exact hj2,rng_set3 hj3 ho⟩ (show ar.length - (j+1)<ar.length - j by omega) ?_
      simp only [go_sem,TmOK,DM,DMs,CM,CMs,forall_eq,exists_eq_left,Mq,HpOK,LowOK,rdr]
      simp [-List.map_set,CMs_I,CMs_in]
     ·have hnl:¬ j<ar.length:=by omega
      clear again
      refine drvL Tryz.func17 ?_
      simp only [go_sem,rdr,hnl]
      iterate 3 ((try (refine drvZ Tryz.func17 ?_;simp only [go_sem,rdr,hnl]));((with_reducible and_intros)<;>try exact sd))
      refine Go.loopQ (fun x : Nat × List In => [(2, .c (.ptr 1 0)), (3, .c (.ptr 193 0)), (8, DI .i64 x.1)])
       (fun x=>[(0,some (rdr bs ((n1+1:Nat):Int))),(1,some [.v (.slice none 0 0),.v (.slice none 0 0),.v (.slice none 0 0)]),(129,some (vs2.map I64)),(130,some (ar2.map I64)),(131,some (inC x.2)),(193,some [.msl 129 1 0 vs.length,.msl 130 1 0 ar.length,.msl 131 5 0 l.length])])
       16384 (fun x=>x.1≤l.length∧x.2.length=l.length) (fun x=>l.length - x.1) ?_ (0,l) some [] _ ⟨Nat.zero_le _,rfl⟩ ?_
      ·rintro ⟨k,l2⟩ ⟨hk1,hk2⟩ again
       simp only at hk1 hk2 again ⊢
       have hl2:=inC_len l2
       rcases Nat.lt_or_ge k l.length with hlt | hge
       ·obtain ⟨y,hy⟩:∃ y,l2[k]? = some y:=⟨l2[k]'(by omega),List.getElem?_eq_getElem (by omega)⟩
        have hat:=inC_at hy
        have hput:=inC_put hy ⟨12,0,0,0,0⟩
        simp only [putCells,inX] at hput
        generalize y.op=op at hat
        by_cases hop:op=9∨op=4∨op=5
        ·rcases hop with rfl | rfl | rfl
         all_goals
          refine drvL Tryz.func17 ?_
          simp only [go_sem,rdr,hlt,hat]
          iterate 6 ((try (refine drvZ Tryz.func17 ?_;simp only [go_sem,rdr,hlt,hat,hput]));((with_reducible and_intros)<;>try exact sd))
          refine again (k+1,l2.set k ⟨12,0,0,0,0⟩) some [] _ ⟨hlt,by rw [List.length_set];exact hk2⟩ (show l.length - (k+1)<l.length - k by omega) ?_
          simp only [go_sem,TmOK,DM,DMs,CM,CMs,forall_eq,exists_eq_left,Mq,HpOK,LowOK,rdr]
          simp [CMs_I,CMs_in]
        ·have e9:(op == 9)=false:=by simp;omega
         have e4:(op == 4)=false:=by simp;omega
         have e5:(op == 5)=false:=by simp;omega
         refine drvL Tryz.func17 ?_
         simp only [go_sem,rdr,hlt,hat,e9,e4,e5]
         iterate 6 ((try (refine drvZ Tryz.func17 ?_;simp only [go_sem,rdr,hlt,hat,e9,e4,e5]));((with_reducible and_intros)<;>try exact sd))
         refine again (k+1,l2) some [] _ ⟨hlt,hk2⟩ (show l.length - (k+1)<l.length - k by omega) ?_
         simp only [go_sem,TmOK,DM,DMs,CM,CMs,forall_eq,exists_eq_left,Mq,HpOK,LowOK,rdr]
         try simp [CMs_I,CMs_in]
       ·have hnl:¬ k<l.length:=by omega
        clear again
        refine drvL Tryz.func17 ?_
        simp only [go_sem,rdr,hnl]
        iterate 4 ((try (refine drvZ Tryz.func17 ?_;simp only [go_sem,rdr,hnl]));((with_reducible and_intros)<;>try exact sd))
        exact fin vs2 ar2 l2 (n1+1) _ _ _ _ hi2 hj2 hk2 (by omega) (by omega) (by omega) (by omega) (by omega) rfl rfl rfl rfl
      ·simp only [go_sem,TmOK,DM,DMs,CM,CMs,forall_eq,exists_eq_left,Mq,HpOK,LowOK,rdr]
       simp [CMs_I,CMs_in]
    ·simp only [go_sem,TmOK,DM,DMs,CM,CMs,forall_eq,exists_eq_left,Mq,HpOK,LowOK,rdr]
     simp [CMs_I,CMs_in]
  ·simp only [go_sem,TmOK,DM,DMs,CM,CMs,forall_eq,exists_eq_left,Mq,HpOK,LowOK,rdr]
   simp [CMs_I,CMs_in]
 ·iterate 4 ((try (refine drvZ Tryz.func17 ?_;simp only [go_sem,rdr,renCs_I,renCs_in]));((with_reducible and_intros)<;>try exact sd))
  exact fin vs ar l (n1+1) _ _ _ _ rfl rfl rfl (by omega) (by omega) (by omega) (by omega) (by omega) rfl rfl rfl rfl
open CtL (In Cd)
def mlC (L:List Mm):List C:=(L.map Mm.cells).flatten
theorem mlC_len (l:List Mm):(mlC l).length=l.length * 2:=by
 unfold mlC
 induction l with
 | nil=>rfl
 | cons a r ih=>simp only [List.map_cons,List.flatten_cons,List.length_append,ih,List.length_cons,Mm.cells,List.length_nil];omega
theorem mlC_snoc (l:List Mm) (m:Mm):mlC (l++[m])=mlC l++m.cells:=by simp [mlC]
theorem mlC_kf (l:List Mm):∀ c ∈ mlC l,kf c=true:=by
 unfold mlC
 intro c hc
 obtain ⟨x,hx,hc⟩:=List.mem_flatten.1 hc
 obtain ⟨e,_,rfl⟩:=List.mem_map.1 hx
 simp only [Mm.cells,List.mem_cons,List.not_mem_nil,or_false] at hc
 rcases hc with rfl | rfl<;>rfl
theorem renCs_ml (r:Nat→Nat) (l:List Mm):renCs r (mlC l)=mlC l:=renCs_kf r _ (mlC_kf l)
theorem drawFindDifference (bs:List Int) (hb:Fits .u8 bs) (hl:bs.length≤mx):DC Tryz.prog 4 [bytesD bs] [] dfdR:=by
 have hmx:=mx_eq
 have hop:=l17Open bs hl
 have hb':=fits_take hb 2000
 have hl':(bs.take 2000).length≤2000:=by rw [List.length_take];omega
 generalize hR:dfdR=R
 generalize hbs:bs.take 2000=b2 at *
 unfold bytesD
 unfold bytesD at hop
 refine dcZ Tryz.func4 ?_
 simp only [go_sem]
 ((try (refine drvZ Tryz.func4 ?_;simp only [go_sem]));((with_reducible and_intros)<;>try exact sd))
 refine XK.callG [] hop ok13 (fun i' x h=>by simp at h) (hbT ()) (fun d h' ⟨_,e⟩=>by subst e;simp) ?_
 rintro _ _ ⟨rfl,rfl⟩ _
 iterate 2 ((try (refine drvZ Tryz.func4 ?_;simp only [go_sem,renCs_rdr]));((with_reducible and_intros)<;>try exact sd))
 have hju:=l8JumpsL b2 0 hb' hl' (by omega)
 refine XK.callG [192] hju ok15 (hhp_one (by simp [upd,renCs_rdr])) (hbT ()) (fun d h' ⟨_,_,_,_,_,_,_,_,e⟩=>by subst e;simp) ?_
 rintro _ _ ⟨c0,rfl,q1,q2,q3,n1,hn1,hn2,rfl⟩ _
 have hmu:=l6Mutate b2 n1 c0 hb' hl' (by omega) q1 q2 q3
 obtain ⟨vs0,ar0,l0⟩:=c0
 unfold cdC at hmu
 simp only [cdC] at hmu ⊢
 iterate 2 ((try (refine drvZ Tryz.func4 ?_;simp only [go_sem,renCs_rdr]));((with_reducible and_intros)<;>try exact sd))
 refine XK.callG [192] hmu ok14 (hhp_one (by simp [upd,renCs_rdr])) (hbT ()) (fun d h' ⟨_,_,_,_,_,_,_,_,e⟩=>by subst e;simp) ?_
 rintro _ _ ⟨c,rfl,p1,p2,p3,n2,hn3,hn4,rfl⟩ _
 have co:=l9CodeR b2 (n2+1) hb' hl' (by omega)
 obtain ⟨vs,ar,l⟩:=c
 simp only at p1 p2 p3
 simp only [cdC] at ⊢
 iterate 3 ((try (refine drvZ Tryz.func4 ?_;simp only [go_sem,renCs_rdr]));((with_reducible and_intros)<;>try exact sd))
 refine XK.callG [192] (pick b2 n2 2 hb' hl' (by omega) (by simp only [InK];omega)) ok16 (hhp_one (by simp [upd,renCs_rdr])) (hbT ()) (fun d h' ⟨v,_,_,e⟩=>by subst e;simp) ?_
 rintro _ _ ⟨v,rfl,hv,rfl⟩ _
 obtain ⟨m0,hm0⟩:=memG_some ⟨vs,ar,[]⟩
 have hvc:v=0∨v=1:=by omega
 clear hv
 have hn5:n2+1≤n2+6000001:=by omega
 rcases hvc with rfl | rfl
 case' inl =>
  iterate 3 ((try (refine drvZ Tryz.func4 ?_;simp only [go_sem,renCs_rdr]));((with_reducible and_intros)<;>try exact sd))
  refine XK.callG [192] co ok17 (hhp_one (by simp [upd,renCs_rdr])) (hbT ()) (fun d h' ⟨_,_,_,_,_,_,_,_,e⟩=>by subst e;simp) ?_
  clear p1 p2 p3
  rintro _ _ ⟨c2,rfl,p1,p2,p3,n3,hn6,hn7,rfl⟩ _
  obtain ⟨vs,ar,l⟩:=c2
  simp only at p1 p2 p3
  simp only [cdC] at ⊢
  have hhd:=heads6 ⟨vs,ar,l⟩
  simp only [cdC,hdC] at hhd
  iterate 4 ((try (refine drvZ Tryz.func4 ?_;simp only [go_sem,renCs_rdr]));((with_reducible and_intros)<;>try exact sd);(try first | refine XK.p hhd ok18 ?_ | refine XK.gp hhd ok18 ?_))
  have hme:=l3MemoryG b2 n3 ⟨vs,ar,[]⟩ hb' hl' (by omega) (by simp only;omega) (by simp only;omega)
  simp only [Pg.cells,St1.cellsL] at hme ⊢
  refine XK.callG [192] hme ok19 (hhp_one (by simp [upd,renCs_rdr])) (hbT ()) (fun d h' ⟨_,_,_,_,_,_,e⟩=>by subst e;simp) ?_
  rintro _ _ ⟨m,rfl,hm,n4,hn8,hn9,rfl⟩ _
  obtain ⟨va,arr⟩:=m
  iterate 5 ((try (refine drvZ Tryz.func4 ?_;simp only [go_sem,renCs_rdr,Mm.cells]));((with_reducible and_intros)<;>try exact sd))
  refine XK.callG [192,1856] (numO b2 n4 [3,4,2,1,0] hb' hl' (by omega) (by decide) (by decide)) ok20 (hhp2 (by simp [upd,renCs_rdr]) rfl) (hbT ()) (fun d h' ⟨_,_,_,e⟩=>by subst e;simp) ?_
  rintro _ _ ⟨o,rfl,ho,rfl⟩ _
  obtain ⟨k0,rfl,hk0⟩:∃ a:Nat,o=(a:Int)∧a≤4:=⟨o.toNat,by simp at ho;omega,by simp at ho;omega⟩
  clear ho hme hhd
  iterate 2 ((try (refine drvZ Tryz.func4 ?_;simp only [go_sem,renCs_rdr]));((with_reducible and_intros)<;>try exact sd))
  refine Go.loopQ (fun x : Nat × Nat × Mm × List Mm => [(2, .c (.ptr 0 0)), (4, .c (.ptr 192 0)), (5, .c (.ptr 576 0)), (6, .c (.ptr 600 0)), (7, .c (.msl 601 2 0 x.2.2.2.length)), (8, .c (.ptr 602 0)), (9, DI .i64 x.1)])
   (fun x=>[(0,some [.v (.slice none 0 0),.v (.slice none 0 0),.v (.slice none 0 0)]),(192,some (rdr b2 x.2.1)),(576,some (cdC ⟨vs,ar,l⟩)),(600,some (Pg.cells ⟨vs,ar,[]⟩)),(601,some (mlC x.2.2.2)),(602,some x.2.2.1.cells)])
   8192 (fun x=>x.1+x.2.2.2.length≤4∧MemG ⟨vs,ar,[]⟩ x.2.2.1∧n4+1≤x.2.1∧x.2.1≤n4+1+100 * x.2.2.2.length) (fun x=>x.1) ?_ (k0,n4+1,⟨va,arr⟩,[]) (fun j=>if j=600 then some 1216 else if j=601 then some 1344 else if j=602 then some 1664 else some j) [] _ ⟨by simp;omega,hm,by simp,by simp⟩ ?_
  case' refine_2 =>
   simp only [go_sem,TmOK,DM,DMs,CM,CMs,forall_eq,exists_eq_left,Mq,HpOK,LowOK,cdC,Mm.cells]
   simp [rdr,CMs,CM,kf,isI,mlC,cdC,Mm.cells,St1.cellsL]
 case' inr =>
  iterate 3 ((try (refine drvZ Tryz.func4 ?_;simp only [go_sem,renCs_rdr]));((with_reducible and_intros)<;>try exact sd))
  have hhd:=heads6 ⟨vs,ar,l⟩
  simp only [cdC,hdC] at hhd
  iterate 4 ((try (refine drvZ Tryz.func4 ?_;simp only [go_sem,renCs_rdr]));((with_reducible and_intros)<;>try exact sd);(try first | refine XK.p hhd ok18 ?_ | refine XK.gp hhd ok18 ?_))
  have hme:=l3MemoryG b2 (n2+1) ⟨vs,ar,[]⟩ hb' hl' (by omega) (by simp only;omega) (by simp only;omega)
  simp only [Pg.cells,St1.cellsL] at hme ⊢
  refine XK.callG [192] hme ok19 (hhp_one (by simp [upd,renCs_rdr])) (hbT ()) (fun d h' ⟨_,_,_,_,_,_,e⟩=>by subst e;simp) ?_
  rintro _ _ ⟨m,rfl,hm,n4,hn8,hn9,rfl⟩ _
  obtain ⟨va,arr⟩:=m
  iterate 5 ((try (refine drvZ Tryz.func4 ?_;simp only [go_sem,renCs_rdr,Mm.cells]));((with_reducible and_intros)<;>try exact sd))
  refine XK.callG [192,1664] (numO b2 n4 [3,4,2,1,0] hb' hl' (by omega) (by decide) (by decide)) ok20 (hhp2 (by simp [upd,renCs_rdr]) rfl) (hbT ()) (fun d h' ⟨_,_,_,e⟩=>by subst e;simp) ?_
  rintro _ _ ⟨o,rfl,ho,rfl⟩ _
  obtain ⟨k0,rfl,hk0⟩:∃ a:Nat,o=(a:Int)∧a≤4:=⟨o.toNat,by simp at ho;omega,by simp at ho;omega⟩
  clear ho hme hhd
  iterate 2 ((try (refine drvZ Tryz.func4 ?_;simp only [go_sem,renCs_rdr]));((with_reducible and_intros)<;>try exact sd))
  refine Go.loopQ (fun x : Nat × Nat × Mm × List Mm => [(2, .c (.ptr 0 0)), (4, .c (.ptr 192 0)), (5, .c (.ptr 576 0)), (6, .c (.ptr 600 0)), (7, .c (.msl 601 2 0 x.2.2.2.length)), (8, .c (.ptr 602 0)), (9, DI .i64 x.1)])
   (fun x=>[(0,some [.v (.slice none 0 0),.v (.slice none 0 0),.v (.slice none 0 0)]),(192,some (rdr b2 x.2.1)),(576,some (cdC ⟨vs,ar,l⟩)),(600,some (Pg.cells ⟨vs,ar,[]⟩)),(601,some (mlC x.2.2.2)),(602,some x.2.2.1.cells)])
   8192 (fun x=>x.1+x.2.2.2.length≤4∧MemG ⟨vs,ar,[]⟩ x.2.2.1∧n4+1≤x.2.1∧x.2.1≤n4+1+100 * x.2.2.2.length) (fun x=>x.1) ?_ (k0,n4+1,⟨va,arr⟩,[]) (fun j=>if j=600 then some 1024 else if j=601 then some 1152 else if j=602 then some 1472 else some j) [] _ ⟨by simp;omega,hm,by simp,by simp⟩ ?_
  case' refine_2 =>
   simp only [go_sem,TmOK,DM,DMs,CM,CMs,forall_eq,exists_eq_left,Mq,HpOK,LowOK,cdC,Mm.cells]
   simp [rdr,CMs,CM,kf,isI,mlC,cdC,Mm.cells,St1.cellsL]
 all_goals
  clear hm
  rintro ⟨i,pos,⟨va,arr⟩,L⟩ ⟨hi1,hm,hi2,hi3⟩ again
  simp only at hi1 hm hi2 hi3 again ⊢
  rcases i with _ | i
  ·have hip:((0:Int)<0)=False:=eq_false (by omega)
   clear again
   refine drvL Tryz.func4 ?_
   simp only [go_sem,rdr,hip,Int.natCast_zero,cdC]
   iterate 3 ((try (refine drvZ Tryz.func4 ?_;simp only [go_sem,rdr,hip,cdC]));((with_reducible and_intros)<;>try exact sd))
   refine RetOb.ofQ (fun _=>none) [601] (.tup [.agg (cdC ⟨vs,ar,l⟩),.c (.isl 2 (L.map Mm.cells))]) [] ?_ (by rw [← hR];exact ⟨⟨vs,ar,l⟩,L,rfl,p1,p2,p3,by omega,rfl⟩) (by simp)
   have g1:(L.map Mm.cells).flatten=mlC L:=rfl
   have g2:∀ a ∈ L,a.cells.length=2:=fun x hx=>rfl
   have g3:∀ a ∈ L,∀ c ∈ a.cells,kf c=true:=fun x hx=>by simp [Mm.cells,kf,isI]
   simp only [cdC,isI,enumL,hOf,DM,DMs,CM,CMs,HpOK,LowOK,upd,g1,List.length_map]
   simp
   try exact ⟨g2,g3⟩
  ·have hip:((0:Int)<(i:Int)+1)=True:=eq_true (by omega)
   have hsg:=secretsG b2 pos ⟨vs,ar,[]⟩ ⟨va,arr⟩ hb' hl' (by omega) hm (by simp only;omega) (by simp only;omega) 1
   have hll:=mlC_len L
   simp only [Pg.cells,St1.cellsL,Mm.cells] at hsg
   refine drvL Tryz.func4 ?_
   simp only [go_sem,rdr,hip,Mm.cells,St1.cellsL]
   iterate 2 ((try (refine drvZ Tryz.func4 ?_;simp only [go_sem,rdr,hip,Mm.cells,St1.cellsL]));((with_reducible and_intros)<;>try exact sd))
   refine XK.callG [192] hsg ok22 (hhp_one (by simp [upd,renCs_rdr,rdr,renCs,renC])) (hbT ()) (fun d h' ⟨_,_,_,_,_,_,_,_,e⟩=>by subst e;simp) ?_
   rintro _ _ ⟨m1,rfl,hm1,_,_,pos1,hp1,hp2,rfl⟩ _
   have hbe:=l3BendB b2 pos1 m1 hb' hl' (by omega) (by have:=hm1.nv;simp only at this;omega) (by have:=hm1.na;simp only at this;omega) (fun a h=>(hm1.arr a h).1)
   obtain ⟨va1,arr1⟩:=m1
   simp only [Mm.cells] at hbe
   iterate 2 ((try (refine drvZ Tryz.func4 ?_;simp only [go_sem,renCs_rdr,hip,Mm.cells,St1.cellsL]));((with_reducible and_intros)<;>try exact sd))
   refine XK.callG [192] hbe ok21 (hhp_one (by simp [upd,renCs_rdr,rdr,renCs,renC])) (hbT ()) (fun d h' ⟨_,_,_,_,_,_,_,e⟩=>by subst e;simp) ?_
   rintro _ _ ⟨m2,rfl,hm2,_,pos2,hp3,hp4,rfl⟩ _
   obtain ⟨va2,arr2⟩:=m2
   have hsn:=mlC_snoc L ⟨va2,arr2⟩
   simp only [Mm.cells] at hsn ⊢
   iterate 4 ((try (refine drvZ Tryz.func4 ?_;simp only [go_sem,renCs_rdr,renCs_ml,hip,Mm.cells,St1.cellsL]));((with_reducible and_intros)<;>try exact sd))
   refine XK.callG [192] (pick b2 pos2 4 hb' hl' (by omega) (by simp only [InK];omega)) ok16 (hhp_one (by simp [upd,renCs_rdr,rdr,renCs,renC])) (hbT ()) (fun d h' ⟨v,_,_,e⟩=>by subst e;simp) ?_
   rintro _ _ ⟨q,rfl,hq,rfl⟩ _
   have hlen:(L++[(⟨va2,arr2⟩:Mm)]).length=L.length+1:=by simp
   by_cases hq0:q=0
   ·subst hq0
    have hme2:=l3MemoryG b2 (pos2+1) ⟨vs,ar,[]⟩ hb' hl' (by omega) (by simp only;omega) (by simp only;omega)
    simp only [Pg.cells,St1.cellsL] at hme2
    iterate 3 ((try (refine drvZ Tryz.func4 ?_;simp only [go_sem,renCs_rdr,renCs_ml,hip,Mm.cells,St1.cellsL]));((with_reducible and_intros)<;>try exact sd))
    refine XK.callG [192] hme2 ok19 (hhp_one (by simp [upd,renCs_rdr,rdr,renCs,renC])) (hbT ()) (fun d h' ⟨_,_,_,_,_,_,e⟩=>by subst e;simp) ?_
    rintro _ _ ⟨m3,rfl,hm3,pos3,hp5,hp6,rfl⟩ _
    obtain ⟨va3,arr3⟩:=m3
    iterate 4 ((try (refine drvZ Tryz.func4 ?_;simp only [go_sem,renCs_rdr,renCs_ml,hip,Mm.cells,St1.cellsL]));((with_reducible and_intros)<;>try exact sd))
    refine again (i,pos3,⟨va3,arr3⟩,L++[⟨va2,arr2⟩]) (fun j=>if j=601 then some 8832 else some j) [] _ ⟨by simp only [hlen];omega,hm3,(show n4+1≤pos3 by omega),by simp only [hlen];omega⟩ (show i<i+1 by omega) ?_
    simp only [go_sem,TmOK,DM,DMs,CM,CMs,forall_eq,exists_eq_left,Mq,HpOK,LowOK,rdr,Mm.cells,St1.cellsL,hlen,hsn]
    simp [CMs,CM,kf,isI,cdC]
    try exact CMs.kf (kf_app (mlC_kf _) (by simp [kf]))
   ·have e0:(q == 0)=false:=by simp [hq0]
    iterate 4 ((try (refine drvZ Tryz.func4 ?_;simp only [go_sem,renCs_rdr,renCs_ml,hip,Mm.cells,St1.cellsL,e0]));((with_reducible and_intros)<;>try exact sd))
    refine again (i,pos2+1,⟨va,arr⟩,L++[⟨va2,arr2⟩]) (fun j=>if j=601 then some 8832 else some j) [] _ ⟨by simp only [hlen];omega,hm,(show n4+1≤pos2+1 by omega),by simp only [hlen];omega⟩ (show i<i+1 by omega) ?_
    simp only [go_sem,TmOK,DM,DMs,CM,CMs,forall_eq,exists_eq_left,Mq,HpOK,LowOK,rdr,Mm.cells,St1.cellsL,hlen,hsn]
    simp [CMs,CM,kf,isI,cdC]
    try exact CMs.kf (kf_app (mlC_kf _) (by simp [kf]))
theorem lawFind (bs:List Int) (hb:Fits .u8 bs) (hl:bs.length≤mx):DC Tryz.prog 3 [bytesD bs] [] (fun d h=>d=DB true∧h=[]):=lawFindOf bs hl (drawFindDifference bs hb hl)
end Go.Proofs.YtoakidkcppinpaaGreat.CtD
