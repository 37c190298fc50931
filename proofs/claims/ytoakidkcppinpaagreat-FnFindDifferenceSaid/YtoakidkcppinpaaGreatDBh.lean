/- Contracts of functions of the program, one behind the other, as plain data: what each call returns and which blocks it leaves. -/
import Derived.Test.YtoakidkcppinpaaGreatDFacts
import Derived.Test.YtoakidkcppinpaaGreatDAj
import Derived.Test.YtoakidkcppinpaaGreatDAl
import Derived.Test.YtoakidkcppinpaaGreatDAn
import Derived.Test.YtoakidkcppinpaaGreatDAq
import Derived.Test.YtoakidkcppinpaaGreatDAs
import Derived.Test.YtoakidkcppinpaaGreatDAt
import Derived.Test.YtoakidkcppinpaaGreatDAu
import Derived.Test.YtoakidkcppinpaaGreatDAw
import Derived.Test.YtoakidkcppinpaaGreatDAx
import Derived.Test.YtoakidkcppinpaaGreatDAy
import Derived.Test.YtoakidkcppinpaaGreatDAz
import Derived.Test.YtoakidkcppinpaaGreatDBa
import Derived.Test.YtoakidkcppinpaaGreatDBe
import Derived.Test.YtoakidkcppinpaaGreatDAi
import Derived.Test.YtoakidkcppinpaaGreatDAo
import Derived.Test.YtoakidkcppinpaaGreatDAp
import Derived.Test.YtoakidkcppinpaaGreatDBb
import Derived.Test.YtoakidkcppinpaaGreatDBf
set_option linter.unusedVariables false
set_option linter.unusedSimpArgs false
set_option linter.unusedSectionVars false
set_option maxHeartbeats 16000000
set_option maxRecDepth 100000
namespace Go.Proofs.YtoakidkcppinpaaGreat.CtD
open Go Go.CT CtF CtR
variable [Yn]
open CtL (In Cd codeOK inOK bAt sAt tAft fnd folM WfC)
def TB (T:Nat→Option (List Bool)):Nat→Option (List C):=fun i=>(T i).map boolsC
def setB (T:Nat→Option (List Bool)) (i:Nat) (row:List Bool):Nat→Option (List Bool):=fun j=>if j=i then some row else T j
theorem TB_set (T:Nat→Option (List Bool)) (i:Nat) (row:List Bool):TB (setB T i row)=setT2 (TB T) i (boolsC row):=by
 funext j;simp only [TB,setB,setT2];split<;>rfl
def wtT : Option (List Bool) → Nat
 | none=>15
 | some row=>ffB row
def muT (T : Nat → Option (List Bool)) : Nat → Nat
 | 0=>0
 | n+1=>muT T n+wtT (T n)
theorem muT_out (T : Nat → Option (List Bool)) (i : Nat) (row : List Bool) : ∀ n, n ≤ i → muT (setB T i row) n = muT T n
 | 0,_=>rfl
 | n+1,h=>by
  rw [muT,muT,muT_out T i row n (by omega)]
  have:setB T i row n=T n:=by simp only [setB];rw [if_neg (by omega)]
  rw [this]
theorem muT_set (T : Nat → Option (List Bool)) (i : Nat) (row : List Bool) : ∀ n, i < n → muT (setB T i row) n + wtT (T i) = muT T n + ffB row
 | 0,h=>by omega
 | n+1,h=>by
  rw [muT,muT]
  by_cases e:i=n
  ·subst e
   rw [muT_out T i row i (Nat.le_refl _)]
   have:setB T i row i=some row:=by simp [setB]
   rw [this]
   simp only [wtT];omega
  ·have ih:=muT_set T i row n (by omega)
   have:setB T i row n=T n:=by simp only [setB];rw [if_neg (by omega)]
   rw [this];omega
structure TI (n : Nat) (T0 T : Nat → Option (List Bool)) (ch : Bool) : Prop where
 ok:∀ i row,T i=some row→i<n∧row.length=14
 st:∃ row,T 0=some row
 le:muT T n≤muT T0 n
 lt:ch=true→muT T n<muT T0 n
 same:ch=false→T=T0
theorem TI.start {n:Nat} {T0:Nat→Option (List Bool)} (h1:∀ i row,T0 i=some row→i<n∧row.length=14) (h2:∃ row,T0 0=some row):TI n T0 T0 false :=
 ⟨h1,h2,Nat.le_refl _,fun h=>Bool.noConfusion h,fun _=>rfl⟩
theorem TI.new {n:Nat} {T0 T:Nat→Option (List Bool)} {ch:Bool} (h:TI n T0 T ch) {k:Nat} (hk:k<n) (ht:T k=none):TI n T0 (setB T k (List.replicate 14 false)) true:=by
 have hm:=muT_set T k (List.replicate 14 false) n hk
 rw [ht] at hm
 have h14:ffB (List.replicate 14 false)=14:=by simp [ffB,List.countP_replicate]
 rw [h14] at hm
 simp only [wtT] at hm
 have hle:=h.le
 refine ⟨fun i row hi=>?_,?_,by omega,fun _=>by omega,fun h=>by cases h⟩
 ·simp only [setB] at hi
  split at hi
  ·rename_i e;subst e;cases hi;exact ⟨hk,by simp⟩
  ·exact h.ok i row hi
 ·obtain ⟨row,hr⟩:=h.st
  by_cases e:k=0
  ·subst e;exact ⟨_,by simp [setB];rfl⟩
  ·exact ⟨row,by simp only [setB];rw [if_neg (by omega)];exact hr⟩
theorem TI.mark {n:Nat} {T0 T:Nat→Option (List Bool)} {ch:Bool} (h:TI n T0 T ch) {k r:Nat} {row:List Bool} (ht:T k=some row) (hr:row[r]? = some false):TI n T0 (setB T k (row.set r true)) true:=by
 obtain ⟨hk,hl⟩:=h.ok k row ht
 have hm:=muT_set T k (row.set r true) n hk
 have hf:=ffB_set hr
 rw [ht] at hm
 simp only [wtT] at hm
 have hle:=h.le
 refine ⟨fun i row' hi=>?_,?_,by omega,fun _=>by omega,fun h=>by cases h⟩
 ·simp only [setB] at hi
  split at hi
  ·rename_i e;subst e;cases hi;exact ⟨hk,by simp [hl]⟩
  ·exact h.ok i row' hi
 ·obtain ⟨row',hr'⟩:=h.st
  by_cases e:k=0
  ·subst e;exact ⟨_,by simp [setB];rfl⟩
  ·exact ⟨row',by simp only [setB];rw [if_neg (by omega)];exact hr'⟩
def CovB (T:Nat→Option (List Bool)) (aft:List Bool) (u:Nat):Prop:=∃ row',T u=some row'∧∀ r,aft.getD r false=true→row'.getD r false=true
def ClsB (p:Pg) (l:List In) (T:Nat→Option (List Bool)) (i:Nat):Prop:=∀ row,T i=some row→∀ u ∈ folM l i,CovB T (tAft p (CtL.atC l i) row) u
theorem TB_kf {T:Nat→Option (List Bool)} {i:Nat} {row:List C} (h:TB T i=some row):∀ c ∈ row,kf c=true:=by
 simp only [TB,Option.map_eq_some_iff] at h
 obtain ⟨r,_,rfl⟩:=h
 exact boolsC_kf r
theorem famO_ne {hp:Hp} {b i:Nat} {T:Nat→Option (List C)} (hi:i<512) (h:(T i).isSome=true):famO hp b T (b+i) ≠ none:=by
 rw [famO_at hi]
 cases ht:T i with
 | none=>rw [ht] at h;cases h
 | some row=>simp
theorem lgokF_of {nx:Nat} {all:Array Oper} {lg:Lg} {i:Nat} {rd wr:List Nat} (h:lgok nx all lg i rd wr=true):lgokF nx all lg i rd wr=true:=by
 simp only [lgokF,lgok,List.all_eq_true] at h ⊢
 intro j hj
 have:=h j hj
 split at this
 ·rename_i e;simp [e]
 ·rename_i rd' wr' e
  simp only [e,Bool.or_eq_true] at this ⊢
  rcases this with h | ((h | h) | h)
  ·exact .inl h
  ·exact .inr (.inl (.inr h))
  ·exact .inr (.inr h)
  ·exact .inr (.inl (.inl h))
theorem up_rowO {hp : Hp} {b i B : Nat} {T : Nat → Option (List C)} {R0 A : List Bool} (hi : i < 512) (ht : T i = some (boolsC R0)) (hB : (decide (B < b) || decide (b + 512 ≤ B)) = true) :
 appUp (famO hp b T) (upsFrom (rkey [b+i] B) 0 [some (boolsC R0),some (boolsC A)])=famO (upd hp B (some (some (boolsC A)))) b T:=by
 have e:B+(1 - 1)=B:=rfl
 simp only [upsFrom,rkey,appUp,List.length_cons,List.length_nil,List.getD_cons_zero,List.getD_cons_succ,Option.map_some,boolsC_ren,Nat.zero_add,Nat.reduceAdd,Nat.reduceLT,if_true,if_false,Nat.lt_irrefl,Nat.zero_lt_one]
 rw [famO_set hi,setT2_id ht,e,famO_upd hB]
theorem frzRow (vs ar:List Int) (l x:List C) (row:List Bool) (hl:row.length=14) (hx:∀ c ∈ x,kf c=true) (hx2:∀ c ∈ l,kf c=true):Frz (hpL [some (boolsC row)]) [.agg l,.agg x,.c (.msl 0 1 0 14)] [.agg l,.agg x,.c (.isl 1 (row.map fun b=>[C.v (.bool b)]))] :=
 Frz.of [0] (by
  simp only [DMs,DM]
  refine ⟨CMs.kf hx2,CMs.kf hx,?_,trivial⟩
  simp only [CM]
  refine ⟨⟨trivial,trivial,by simp [hl]⟩,by simp,by simp [hpL,bflR],fun x hx=>?_,fun x hx c hc=>?_⟩
  ·obtain ⟨b,_,rfl⟩:=List.mem_map.1 hx;rfl
  ·obtain ⟨b,_,rfl⟩:=List.mem_map.1 hx
   simp only [List.mem_singleton] at hc
   subst hc;rfl)
theorem leastI (c:Cd) (hc:codeOK c=true):DC Tryz.prog 34 [.agg (cdC c)] [] (fun r h=>∃ T:Nat→Option (List Bool),(∀ i row,T i=some row→i<c.list.length∧row.length=14)∧(∃ row,T 0=some row)∧(∀ i,i<c.list.length→ClsB (hdC c) c.list T i)∧r = .c (.isl 1 ((frzG c.list.length (TB T)).map fun x=>[x]))∧h=[]):=by
 have hmx:=mx_eq
 have hcl:=code_len hc
 have hw:=CtL.wf_of hc
 have hlab:=codeOK_labs hc
 have hin:∀ (i:Nat) (x:In),c.list[i]? = some x→Ir c.vars.length c.arrays.length x:=fun i x hx=>by
  have hc':=hc
  simp only [codeOK,Bool.and_eq_true,List.all_eq_true] at hc'
  exact ir_of (hc'.1.2 x (List.mem_of_getElem? hx))
 have hta:=fun x row hl hx=>taftI c x row hl hlab.1 hlab.2 (by omega) (by omega) (by omega) hx
 have hfo:=fun i hi=>followI c (by omega) i hi
 generalize hR:(fun (r:D) (h:List (Option (List C)))=>∃ T:Nat→Option (List Bool),(∀ i row,T i=some row→i<c.list.length∧row.length=14)∧(∃ row,T 0=some row)∧(∀ i,i<c.list.length→ClsB (hdC c) c.list T i)∧r = .c (.isl 1 ((frzG c.list.length (TB T)).map fun x=>[x]))∧h=[])=R
 obtain ⟨vs,ar,l⟩:=c
 simp only at hcl hw hin hta hfo hR
 simp only [cdC,ints] at hta hfo ⊢
 have h0:0<l.length:=by omega
 have hrep:(List.replicate l.length [C.v (.slice none 0 0)]).flatten=famG (fun _=>0) 14 l.length (fun _=>none):=by
  have:∀ n:Nat,(List.replicate n [C.v (.slice none 0 0)]).flatten=famG (fun _=>0) 14 n (fun _=>none):=fun n=>by
   simp [famG,List.map_const']
  exact this _
 have hrl:=famG_len (fun _=>0) 14 l.length (fun _=>none)
 have hrs:(famG (fun _=>0) 14 l.length (fun _=>none)).set 0 (.msl 512 1 0 14)=famG (fun i=>if i=0 then 512 else 0) 14 l.length (TB (setB (fun _=>none) 0 (List.replicate 14 false))):=by
  rw [famG_set _ _ _ _ _ _ (boolsC (List.replicate 14 false)),TB_set];rfl
 refine dcZ Tryz.func34 ?_
 simp only [go_sem,List.length_map,h0,hrep,hrl,hrs,boolsC_rep]
 iterate 5 ((try (refine drvZ Tryz.func34 ?_;simp only [go_sem,List.length_map,h0,hrep,hrl,hrs,boolsC_rep]));((with_reducible and_intros)<;>try exact sd))
 obtain ⟨Ta,hTa⟩:∃ Ta,Ta=setB (fun _=>none) 0 (List.replicate 14 false):=⟨_,rfl⟩
 refine Go.loopH (fun x : (Nat → Option (List Bool)) × Bool => [(1, .c (.ptr 0 0)), (3, .c (.msl 1000 1 0 l.length)), (4, DB x.2)])
  (fun x=>famO (hOf [(0,some [isI vs,isI ar,.isl 5 (l.map inX)]),(1000,some (famG (fun i=>2000+i) 14 l.length (TB x.1)))]) 2000 (TB x.1)) 8192
  (fun x=>(∀ i row,x.1 i=some row→i<l.length∧row.length=14)∧(∃ row,x.1 0=some row)∧(x.2=false→∀ i,i<l.length→ClsB ⟨vs,ar,[]⟩ l x.1 i)) (fun x=>2 * muT x.1 l.length+(if x.2 then 1 else 0)) ?_ (Ta,true) (fun j=>if j=1000 then some 320 else if j=2000 then some 512 else some j) [] _ ⟨fun i row hi=>?_,⟨_,by simp [hTa,setB];rfl⟩,fun h=>by cases h⟩ ?_
 ·rintro ⟨T0,ch0⟩ ⟨t1,t2,t3⟩ again
  simp only at t1 t2 t3 again ⊢
  cases ch0 with
  | false =>
   have hrow:∀ i row,TB T0 i=some row→i<l.length∧row.length=14∧∀ c ∈ row,kf c=true:=fun i row h=>by
    have hk:=TB_kf h
    simp only [TB,Option.map_eq_some_iff] at h
    obtain ⟨r,hr,rfl⟩:=h
    exact ⟨(t1 i r hr).1,by rw [boolsC_len];exact (t1 i r hr).2,hk⟩
   refine Go.subQ 8192 (r:=some) (fz:=(List.range l.length).map fun i=>2000+i) (tl:=[(3,.c (.msl 1000 1 0 l.length)),(4,DB false)]) (hl:=[(1000,some (frzG l.length (TB T0)))]) ?_ ?_
   ·have hfa:famO (hOf [(0,some [isI vs,isI ar,.isl 5 (l.map inX)]),(1000,some (famG (fun i=>2000+i) 14 l.length (TB T0)))]) 2000 (TB T0) 1000=some (some (famG (fun i=>2000+i) 14 l.length (TB T0))):=by rw [famO_out (by rfl)];rfl
    refine ⟨?_,?_,trivial,?_⟩
    ·simp only [go_sem,TmOK,DM,DMs,CM,CMs,forall_eq,exists_eq_left,hfa]
     try simp
    ·refine ⟨?_,trivial⟩
     simp only [hfa]
     refine ⟨by simp;intro i _;omega,CMs.famFz2 fun i row hi ht=>?_⟩
     obtain ⟨g1,g2,g3⟩:=hrow i row ht
     exact ⟨List.mem_map.2 ⟨i,List.mem_range.2 hi,rfl⟩,(famO_at (by omega)).trans (by rw [ht];rfl),g2,g3⟩
    ·simp
   ·refine drvL Tryz.func34 ?_
    simp only [go_sem]
    iterate 4 ((try (refine drvZ Tryz.func34 ?_;simp only [go_sem]));((with_reducible and_intros)<;>try exact sd))
    have hgl:((frzG l.length (TB T0)).map fun x=>[x]).flatten=frzG l.length (TB T0):=by rw [flat1 (fun x=>x),List.map_id']
    have hgk:∀ x ∈ frzG l.length (TB T0),kf x=true:=fun x hx=>by
     obtain ⟨i,_,rfl⟩:=List.mem_map.1 hx
     split<;>rfl
    refine RetOb.ofQ (fun _=>none) [1000] (.c (.isl 1 ((frzG l.length (TB T0)).map fun x=>[x]))) [] ⟨?_,trivial,trivial,by simp [enumL]⟩ (by rw [← hR];exact ⟨T0,t1,t2,t3 rfl,rfl,rfl⟩) (Nat.zero_le _)
    have hgn:(frzG l.length (TB T0)).length=l.length:=by simp [frzG]
    simp only [DM,CM]
    refine ⟨⟨trivial,trivial,by simp [hgn]⟩,by simp,by rw [hgl];rfl,fun x hx=>?_,fun x hx c hc=>?_⟩
    ·obtain ⟨c,_,rfl⟩:=List.mem_map.1 hx;rfl
    ·obtain ⟨c',hc',rfl⟩:=List.mem_map.1 hx
     simp only [List.mem_singleton] at hc
     subst hc;exact hgk _ hc'
  | true =>
   refine drvL Tryz.func34 ?_
   simp only [go_sem,famO_out]
   iterate 4 ((try (refine drvZ Tryz.func34 ?_;simp only [go_sem,famO_out]));((with_reducible and_intros)<;>try exact sd))
   refine Go.loopH (fun x : (Nat → Option (List Bool)) × Bool × Nat => [(1, .c (.ptr 0 0)), (3, .c (.msl 1000 1 0 l.length)), (4, DB x.2.1), (20, .c (.msl 1000 1 0 l.length)), (21, DI .i64 l.length), (22, DI .i64 x.2.2)])
    (fun x=>famO (hOf [(0,some [isI vs,isI ar,.isl 5 (l.map inX)]),(1000,some (famG (fun i=>2000+i) 14 l.length (TB x.1)))]) 2000 (TB x.1)) 12288
    (fun x=>TI l.length T0 x.1 x.2.1∧x.2.2≤l.length∧(x.2.1=false→∀ j,j<x.2.2→ClsB ⟨vs,ar,[]⟩ l T0 j)) (fun x=>l.length - x.2.2) ?_ (T0,false,0) some [] _ ⟨TI.start t1 t2,Nat.zero_le _,fun _ j hj=>by simp at hj⟩ ?_
   ·rintro ⟨T,ch,i⟩ ⟨ti,hi,tc⟩ again2
    simp only at ti hi tc again2 ⊢
    rcases Nat.lt_or_ge i l.length with hlt | hge
    ·cases hTi:T i with
     | none =>
      have hcel:(famG (fun i=>2000+i) 14 l.length (TB T))[i]? = some (.v (.slice none 0 0)):=famG_none hlt (by simp [TB,hTi])
      refine drvL Tryz.func34 ?_
      simp only [go_sem,famO_out,hlt,hcel]
      iterate 5 ((try (refine drvZ Tryz.func34 ?_;simp only [go_sem,famO_out,hlt,hcel,famG_len]));((with_reducible and_intros)<;>try exact sd))
      refine again2 (T,ch,i+1) some [] _ ⟨ti,hlt,fun hch j hj=>?_⟩ (by simp only;omega) ?_
      ·by_cases e:j=i
       ·subst e
        have:=ti.same hch
        subst this
        intro row hr;rw [hTi] at hr;cases hr
       ·exact tc hch j (by simp only at hj;omega)
      refine ⟨?_,SubH.famO (fun i=>2000+i) (fun i row hi ht=>⟨rfl,by simp,(famO_at hi).trans (by rw [ht];rfl),TB_kf ht⟩) (fun i j _ _ _ _ h=>by omega) ?_ ?_ ?_ ?_⟩
      ·simp only [go_sem,TmOK,DM,DMs,CM,CMs,forall_eq,exists_eq_left,famO_out]
      ·simp only [go_sem,TmOK,DM,DMs,CM,CMs,forall_eq,exists_eq_left,HpOK,famO_out]
       repeat' with_reducible apply And.intro
       all_goals first | exact CMs.famG (fun _ _=>rfl) (fun i hi hs=>rfl) (fun i hi hs=>famO_ne (by omega) hs) | exact CMs.kf (boolsC_kf _) | exact CMs.kf (I_kf _) | (simp;done) | (simp [CMs,CM,isI,kf];done) | skip
       all_goals trace_state
      ·simp [LowOK,famO_out,upd,hOf]
      ·simp
      ·intro k j cs hk hr i hi hs
       simp at hk hr
       omega
     | some row =>
      have hcel:(famG (fun i=>2000+i) 14 l.length (TB T))[i]? = some (.msl (2000+i) 1 0 14):=famG_some (row:=boolsC row) hlt (by simp [TB,hTi])
      obtain ⟨x,hx⟩:∃ x,l[i]? = some x:=⟨l[i],by simp [hlt]⟩
      have hrl:=(ti.ok i row hTi).2
      have hta1:=hta x row hrl (hin i x hx)
      have hfi:=hfo i hlt
      obtain ⟨op,xa,xb,xc,xd⟩:=x
      simp only [inX] at hta1
      have htb:TB T i=some (boolsC row):=by simp [TB,hTi]
      generalize hAf:tAft (hdC ⟨vs,ar,l⟩) ⟨op,xa,xb,xc,xd⟩ row=aft at *
      have hal:aft.length=14:=by rw [← hAf,CtL.tAft_len];exact hrl
      have hta2:=DC.borrowB (frzRow vs ar _ _ row hrl (by simp [kf]) (by simp [kf,isI])) hta1 (fun c hc=>by
       obtain ⟨b,_,rfl⟩:=List.mem_map.1 hc;exact ⟨_,rfl⟩)
      simp only [List.length_cons,List.length_nil,Nat.zero_add,List.cons_append,List.nil_append] at hta2
      refine drvL Tryz.func34 ?_
      simp only [go_sem,famO_out,hlt,hcel,hx,inX]
      iterate 5 ((try (refine drvZ Tryz.func34 ?_;simp only [go_sem,famO_out,hlt,hcel,famG_len,hx,inX]));((with_reducible and_intros)<;>try exact sd))
      refine XK.callG (hnd:=by simp) [2000+i] hta2 ok64 (hhpG (by
       simp only [HH,boolsC_ren,Option.map_some,and_true]
       rw [famO_at (by omega),htb];rfl)) (famO_free (hbT ()) (by simp)) (fun d h' ⟨_,e⟩=>by subst e;simp) ?_ (fun _=>⟨by kernel_rfl,_,_,⟨rfl,rfl⟩,by simp⟩)
      rintro _ _ ⟨rfl,rfl⟩ _
      rw [up_rowO (by omega) htb (by kernel_rfl)]
      iterate 1 (try (refine drvZ Tryz.func34 ?_;simp only [go_sem,famO_out,famO_upd,hlt,hcel,famG_len,hx,inX]))
      repeat' with_reducible apply And.intro
      all_goals first | (with_reducible show lgokF _ _ _ _ _ _=true;exact lgokF_of (by kernel_rfl)) | exact sd | skip
      iterate 2 ((try (refine drvZ Tryz.func34 ?_;simp only [go_sem,famO_out,famO_upd,hlt,hcel,famG_len,hx,inX]));((with_reducible and_intros)<;>try exact sd))
      refine XK.callG [] hfi ok65 (fun i' x h=>by simp at h) (famO_free (hbT ()) (by simp)) (fun d h' ⟨_,e⟩=>by subst e;simp) ?_
      rintro _ _ ⟨rfl,rfl⟩ _
      iterate 3 ((try (refine drvZ Tryz.func34 ?_;simp only [go_sem,famO_out,famO_upd,hlt,hcel,famG_len,hx,inX,renCs_I]));((with_reducible and_intros)<;>try exact sd))
      have hFu:∀ u ∈ folM l i,u<l.length:=fun u hu=>CtL.follow_lt hw hlt hu
      have hFl:=nI_len (folM l i)
      have hF2:=folM_len l i
      have hmem:∀ u,u ∈ folM l i→u ∈ folM l i:=fun u h=>h
      obtain ⟨F,hF⟩:∃ F,folM l i=F:=⟨_,rfl⟩
      rw [hF] at hFu hFl hF2
      rw [hF]
      refine Go.loopH (fun x : (Nat → Option (List Bool)) × Bool × Nat => [(1, .c (.ptr 0 0)), (3, .c (.msl 1000 1 0 l.length)), (4, DB x.2.1), (7, .c (.msl 1500 1 0 14)), (20, .c (.msl 1000 1 0 l.length)), (21, DI .i64 l.length), (22, DI .i64 i), (39, .c (.msl 1501 1 0 F.length)), (40, DI .i64 F.length), (41, DI .i64 x.2.2)])
       (fun x=>famO (hOf [(0,some [isI vs,isI ar,.isl 5 (l.map inX)]),(1000,some (famG (fun i=>2000+i) 14 l.length (TB x.1))),(1500,some (boolsC aft)),(1501,some ((nI F).map I64))]) 2000 (TB x.1)) 16384
       (fun x=>TI l.length T0 x.1 x.2.1∧x.2.2≤F.length∧(x.2.1=false→T0 i=some row∧(∀ j,j<i→ClsB ⟨vs,ar,[]⟩ l T0 j)∧∀ j u,j<x.2.2→F[j]? = some u→CovB T0 aft u)) (fun x=>F.length - x.2.2) ?_ (T,ch,0) (fun j=>if j=1500 then some 13248 else if j=1501 then some 13504 else some j) [] _ ⟨ti,Nat.zero_le _,fun hch=>⟨by rw [← ti.same hch];exact hTi,tc hch,fun j u hj=>by simp at hj⟩⟩ ?_
      ·clear hTi htb hcel hta2 hta1 hfi ti tc
       rintro ⟨T,ch,j⟩ ⟨ti,hj,tc⟩ again3
       simp only at ti hj tc again3 ⊢
       rcases Nat.lt_or_ge j F.length with hjl | hge
       ·obtain ⟨u,hu⟩:∃ u,F[j]? = some u:=⟨F[j],by simp [hjl]⟩
        have hul:=hFu u (List.mem_of_getElem? hu)
        have hux:((nI F).map I64)[j]? = some (I64 (u:Nat)):=by rw [List.getElem?_map,nI,List.getElem?_map,hu];rfl
        have huy:(nI F)[j]? = some (u:Int):=by rw [nI,List.getElem?_map,hu];rfl
        cases hTu:T u with
        | none =>
         have hcel:(famG (fun i=>2000+i) 14 l.length (TB T))[u]? = some (.v (.slice none 0 0)):=famG_none hul (by simp [TB,hTu])
         have hg2:(famG (fun i=>2000+i) 14 l.length (TB T)).set u (.msl 17088 1 0 14)=famG (fun i=>if i=u then 17088 else 2000+i) 14 l.length (setT2 (TB T) u (boolsC (List.replicate 14 false))):=famG_set _ _ _ _ _ _ _
         refine drvL Tryz.func34 ?_
         simp only [go_sem,famO_out,hjl,hux,huy,hcel]
         iterate 9 ((try (refine drvZ Tryz.func34 ?_;simp only [go_sem,famO_out,famO_upd,hjl,hux,huy,hcel,famG_len,hFl,hul,boolsC_rep,List.length_map,hg2]));((with_reducible and_intros)<;>try exact sd))
         refine Go.loopH (fun x : List Bool × Bool × Nat => [(1, .c (.ptr 0 0)), (3, .c (.msl 1000 1 0 l.length)), (4, DB x.2.1), (7, .c (.msl 1500 1 0 14)), (9, DI .i64 u), (20, .c (.msl 1000 1 0 l.length)), (21, DI .i64 l.length), (22, DI .i64 i), (39, .c (.msl 1501 1 0 F.length)), (40, DI .i64 F.length), (41, DI .i64 j), (54, .c (.msl 1500 1 0 14)), (55, DI .i64 14), (56, DI .i64 x.2.2)])
          (fun x=>famO (hOf [(0,some [isI vs,isI ar,.isl 5 (l.map inX)]),(1000,some (famG (fun i=>2000+i) 14 l.length (TB (setB T u x.1)))),(1500,some (boolsC aft)),(1501,some ((nI F).map I64))]) 2000 (TB (setB T u x.1))) 20480
          (fun x=>TI l.length T0 (setB T u x.1) x.2.1∧x.1.length=14∧x.2.2≤14∧(x.2.1=false→T0 i=some row∧(∀ j,j<i→ClsB ⟨vs,ar,[]⟩ l T0 j)∧(∀ j' u,j' < j→F[j']? = some u→CovB T0 aft u)∧T0 u=some x.1∧∀ m,m<x.2.2→aft.getD m false=true→x.1.getD m false=true)) (fun x=>14 - x.2.2) ?_ (List.replicate 14 false,true,0) (fun j=>if j=2000+u then some 17088 else some j) [] _ ⟨ti.new hul hTu,by simp,by simp,fun h=>by cases h⟩ ?_
         ·clear ti tc hcel
          rintro ⟨rw,ch,q⟩ ⟨ti,hrw,hq,tc⟩ again4
          simp only at ti hrw hq tc again4 ⊢
          rcases Nat.lt_or_ge q 14 with hql | hge
          ·obtain ⟨ab,hab⟩:∃ ab,aft[q]? = some ab:=⟨aft[q]'(by omega),List.getElem?_eq_getElem (by omega)⟩
           obtain ⟨rb,hrb⟩:∃ rb,rw[q]? = some rb:=⟨rw[q]'(by omega),List.getElem?_eq_getElem (by omega)⟩
           have habc:=bC_at hab
           have hrbc:=bC_at hrb
           have htu:TB (setB T u rw) u=some (boolsC rw):=by simp [TB,setB]
           have hcel:(famG (fun i=>2000+i) 14 l.length (TB (setB T u rw)))[u]? = some (.msl (2000+u) 1 0 14):=famG_some hul htu
           have hfr:∀ hp:Hp,famO hp 2000 (TB (setB T u rw)) (2000+u)=some (some (boolsC rw)):=fun hp=>by rw [famO_at (by omega),htu];rfl
           have hqi:((q:Int)<14)=True:=eq_true (by omega)
           have hbl:=boolsC_len rw
           have hbl2:=boolsC_len aft
           have hnx:(ch=false→∀ m,m<q+1→aft.getD m false=true→rw.getD m false=true)→(ch=false→T0 i=some row∧(∀ j,j<i→ClsB ⟨vs,ar,[]⟩ l T0 j)∧(∀ j' u,j' < j→F[j']? = some u→CovB T0 aft u)∧T0 u=some rw∧∀ m,m<q+1→aft.getD m false=true→rw.getD m false=true):=fun hh hch=>by
            obtain ⟨c1,c2,c3,c4,c5⟩:=tc hch
            exact ⟨c1,c2,c3,c4,hh hch⟩
           cases ab with
           | false =>
            refine drvL Tryz.func34 ?_
            simp only [go_sem,famO_out,hql,hqi,habc,hcel,hfr,hrbc,Int.reduceLT]
            iterate 9 ((try (refine drvZ Tryz.func34 ?_;simp only [go_sem,famO_out,famO_upd,hql,hqi,habc,hcel,hfr,hrbc,famG_len,hul,hbl,hbl2,hrw,hal]));((with_reducible and_intros)<;>try exact sd))
            refine again4 (rw,ch,q+1) some [] _ ⟨ti,hrw,hql,hnx fun hch m hm hmt=>?_⟩ (by simp only;omega) ?_
            ·by_cases e:m=q
             ·subst e;rw [List.getD_eq_getElem?_getD,hab] at hmt;cases hmt
             ·exact (tc hch).2.2.2.2 m (by omega) hmt
            refine ⟨?_,SubH.famO (fun i=>2000+i) (fun i row hi ht=>⟨rfl,by simp,(famO_at hi).trans (by rw [ht];rfl),TB_kf ht⟩) (fun i j _ _ _ _ h=>by omega) ?_ ?_ ?_ ?_⟩
            ·simp only [go_sem,TmOK,DM,DMs,CM,CMs,forall_eq,exists_eq_left,famO_out]
            ·simp only [go_sem,TmOK,DM,DMs,CM,CMs,forall_eq,exists_eq_left,HpOK,famO_out]
             repeat' with_reducible apply And.intro
             all_goals first | exact CMs.famG (fun _ _=>rfl) (fun i hi hs=>rfl) (fun i hi hs=>famO_ne (by omega) hs) | exact CMs.kf (boolsC_kf _) | exact CMs.kf (I_kf _) | (simp;done) | (simp [CMs,CM,isI,kf];done) | skip
             all_goals trace_state
            ·simp [LowOK,famO_out,upd,hOf]
            ·simp
            ·intro k j cs hk hr i hi hs
             simp at hk hr
             omega
           | true =>
            cases rb with
            | true =>
             refine drvL Tryz.func34 ?_
             simp only [go_sem,famO_out,hql,hqi,habc,hcel,hfr,hrbc,Int.reduceLT]
             iterate 9 ((try (refine drvZ Tryz.func34 ?_;simp only [go_sem,famO_out,famO_upd,hql,hqi,habc,hcel,hfr,hrbc,famG_len,hul,hbl,hbl2,hrw,hal]));((with_reducible and_intros)<;>try exact sd))
             refine again4 (rw,ch,q+1) some [] _ ⟨ti,hrw,hql,hnx fun hch m hm hmt=>?_⟩ (by simp only;omega) ?_
             ·by_cases e:m=q
              ·subst e;rw [List.getD_eq_getElem?_getD,hrb];rfl
              ·exact (tc hch).2.2.2.2 m (by omega) hmt
             refine ⟨?_,SubH.famO (fun i=>2000+i) (fun i row hi ht=>⟨rfl,by simp,(famO_at hi).trans (by rw [ht];rfl),TB_kf ht⟩) (fun i j _ _ _ _ h=>by omega) ?_ ?_ ?_ ?_⟩
             ·simp only [go_sem,TmOK,DM,DMs,CM,CMs,forall_eq,exists_eq_left,famO_out]
             ·simp only [go_sem,TmOK,DM,DMs,CM,CMs,forall_eq,exists_eq_left,HpOK,famO_out]
              repeat' with_reducible apply And.intro
              all_goals first | exact CMs.famG (fun _ _=>rfl) (fun i hi hs=>rfl) (fun i hi hs=>famO_ne (by omega) hs) | exact CMs.kf (boolsC_kf _) | exact CMs.kf (I_kf _) | (simp;done) | (simp [CMs,CM,isI,kf];done) | skip
              all_goals trace_state
             ·simp [LowOK,famO_out,upd,hOf]
             ·simp
             ·intro k j cs hk hr i hi hs
              simp at hk hr
              omega
            | false =>
             have hset:(boolsC rw).set q (.v (.bool true))=boolsC (rw.set q true):=boolsC_set _ _ _
             have hst:∀ hp:Hp,upd (famO hp 2000 (TB (setB T u rw))) (2000+u) (some (some (boolsC (rw.set q true))))=famO hp 2000 (TB (setB T u (rw.set q true))):=fun hp=>by
              rw [famO_set (by omega),TB_set,setT2_set,← TB_set]
             refine drvL Tryz.func34 ?_
             simp only [go_sem,famO_out,hql,hqi,habc,hcel,hfr,hrbc,Int.reduceLT]
             iterate 9 ((try (refine drvZ Tryz.func34 ?_;simp only [go_sem,famO_out,famO_upd,hql,hqi,habc,hcel,hfr,hrbc,famG_len,hul,hbl,hbl2,hrw,hal,hset,hst]));((with_reducible and_intros)<;>try exact sd))
             have tm:=ti.mark (k:=u) (row:=rw) (r:=q) (by simp [setB]) hrb
             rw [show setB (setB T u rw) u (rw.set q true)=setB T u (rw.set q true) from by funext j;simp only [setB];split<;>rfl] at tm
             refine again4 (rw.set q true,true,q+1) some [] _ ⟨tm,by simp [hrw],hql,fun h=>by cases h⟩ (by simp only;omega) ?_
             refine ⟨?_,SubH.famO (fun i=>2000+i) (fun i row hi ht=>⟨rfl,by simp,(famO_at hi).trans (by rw [ht];rfl),TB_kf ht⟩) (fun i j _ _ _ _ h=>by omega) ?_ ?_ ?_ ?_⟩
             ·simp only [go_sem,TmOK,DM,DMs,CM,CMs,forall_eq,exists_eq_left,famO_out]
             ·simp only [go_sem,TmOK,DM,DMs,CM,CMs,forall_eq,exists_eq_left,HpOK,famO_out]
              repeat' with_reducible apply And.intro
              all_goals first | exact CMs.famG (fun i _=>by simp only [TB,setB];split<;>rfl) (fun i hi hs=>rfl) (fun i hi hs=>famO_ne (by omega) hs) | exact CMs.kf (boolsC_kf _) | exact CMs.kf (I_kf _) | (simp;done) | (simp [CMs,CM,isI,kf];done) | skip
              all_goals trace_state
             ·simp [LowOK,famO_out,upd,hOf]
             ·simp
             ·intro k j cs hk hr i hi hs
              simp at hk hr
              omega
          ·have hn:((q:Int)<14)=False:=eq_false (by omega)
           refine drvL Tryz.func34 ?_
           simp only [go_sem,famO_out,hn]
           iterate 4 ((try (refine drvZ Tryz.func34 ?_;simp only [go_sem,famO_out,hn]));((with_reducible and_intros)<;>try exact sd))
           refine again3 (setB T u rw,ch,j+1) some [] _ ⟨ti,hjl,fun hch=>?_⟩ (by simp only;omega) ?_
           ·obtain ⟨c1,c2,c3,c4,c5⟩:=tc hch
            refine ⟨c1,c2,fun j' u' hj' hu'=>?_⟩
            by_cases e:j'=j
            ·subst e
             rw [hu] at hu'
             simp only [Option.some.injEq] at hu'
             subst hu'
             exact ⟨rw,c4,fun m hm=>c5 m (by
              rcases Nat.lt_or_ge m 14 with h | h
              ·omega
              ·rw [List.getD_eq_getElem?_getD,List.getElem?_eq_none (by omega)] at hm;cases hm) hm⟩
            ·exact c3 j' u' (by simp only at hj';omega) hu'
           refine ⟨?_,SubH.famO (fun i=>2000+i) (fun i row hi ht=>⟨rfl,by simp,(famO_at hi).trans (by rw [ht];rfl),TB_kf ht⟩) (fun i j _ _ _ _ h=>by omega) ?_ ?_ ?_ ?_⟩
           ·simp only [go_sem,TmOK,DM,DMs,CM,CMs,forall_eq,exists_eq_left,famO_out]
           ·simp only [go_sem,TmOK,DM,DMs,CM,CMs,forall_eq,exists_eq_left,HpOK,famO_out]
            repeat' with_reducible apply And.intro
            all_goals first | exact CMs.famG (fun _ _=>rfl) (fun i hi hs=>rfl) (fun i hi hs=>famO_ne (by omega) hs) | exact CMs.kf (boolsC_kf _) | exact CMs.kf (I_kf _) | (simp;done) | (simp [CMs,CM,isI,kf];done) | skip
            all_goals trace_state
           ·simp [LowOK,famO_out,upd,hOf]
           ·simp
           ·intro k j cs hk hr i hi hs
            simp at hk hr
            omega
         ·have e0:(0=2000+u)=False:=eq_false (by omega)
          have e1:(1000=2000+u)=False:=eq_false (by omega)
          have e2:(1500=2000+u)=False:=eq_false (by omega)
          have e3:(1501=2000+u)=False:=eq_false (by omega)
          refine ⟨?_,SubH.famO (fun i=>if i=u then 17088 else 2000+i) (fun i row hi ht=>?_) (fun i j hi hj h1 h2 h=>?_) ?_ ?_ ?_ ?_⟩
          ·simp only [go_sem,TmOK,DM,DMs,CM,CMs,forall_eq,exists_eq_left,famO_out,e0,e1,e2,e3,if_false]
           try simp
           all_goals first | done | omega | skip
          ·by_cases e:i=u
           ·subst e
            have e2:boolsC (List.replicate 14 false)=row:=by simpa [TB,setB] using ht
            exact ⟨by simp,by simp,by rw [← e2];simp [famO_out,upd],TB_kf ht⟩
           ·refine ⟨by simp [e],by simp,?_,TB_kf ht⟩
            have hb:TB (setB T u (List.replicate 14 false)) i=TB T i:=by simp [TB,setB,e]
            rw [if_neg e]
            exact (famO_at hi).trans (by rw [← hb,ht];rfl)
          ·split at h<;>split at h<;>omega
          ·have hcm1:=fun (i:Nat) (hi:i<l.length)=>(show (TB (setB T u (List.replicate 14 false)) i).isSome=(setT2 (TB T) u (boolsC (List.replicate 14 false)) i).isSome by rw [TB_set]:_)
           have hcm2:=fun (i:Nat) (_:i<l.length) (_:(TB (setB T u (List.replicate 14 false)) i).isSome=true)=>(show (if 2000+i=2000+u then some 17088 else some (2000+i))=some (if i=u then 17088 else 2000+i) by by_cases e:i=u<;>simp [e])
           simp only [go_sem,TmOK,DM,DMs,CM,CMs,forall_eq,exists_eq_left,HpOK,famO_out,e0,e1,e2,e3,if_false]
           repeat' with_reducible apply And.intro
           all_goals first | exact CMs.famG (fun i hi=>hcm1 i hi) (fun i hi hs=>hcm2 i hi hs) (fun i hi hs=>famO_ne (by omega) hs) | exact CMs.kf (boolsC_kf _) | exact CMs.kf (I_kf _) | (simp;done) | (simp [CMs,CM,isI,kf];done) | skip
           all_goals trace_state
          ·simp [LowOK,famO_out,upd,hOf]
          ·simp [e0,e1,e2,e3]
          ·intro k j cs hk hr i hi hs
           simp at hk hr
           rcases hk with ⟨rfl,_⟩ | ⟨rfl,_⟩ | ⟨rfl,_⟩ | ⟨rfl,_⟩<;>simp only [e0,e1,e2,e3,if_false,Option.some.injEq] at hr<;>split<;>omega
        | some rw0 =>
         have hcel:(famG (fun i=>2000+i) 14 l.length (TB T))[u]? = some (.msl (2000+u) 1 0 14):=famG_some (row:=boolsC rw0) hul (by simp [TB,hTu])
         refine drvL Tryz.func34 ?_
         simp only [go_sem,famO_out,hjl,hux,huy,hcel]
         iterate 9 ((try (refine drvZ Tryz.func34 ?_;simp only [go_sem,famO_out,famO_upd,hjl,hux,huy,hcel,famG_len,hFl,hul,boolsC_rep,List.length_map]));((with_reducible and_intros)<;>try exact sd))
         have hid:setB T u rw0=T:=by
          funext j;simp only [setB];split
          ·rename_i e;rw [e,hTu]
          ·rfl
         refine Go.loopH (fun x : List Bool × Bool × Nat => [(1, .c (.ptr 0 0)), (3, .c (.msl 1000 1 0 l.length)), (4, DB x.2.1), (7, .c (.msl 1500 1 0 14)), (9, DI .i64 u), (20, .c (.msl 1000 1 0 l.length)), (21, DI .i64 l.length), (22, DI .i64 i), (39, .c (.msl 1501 1 0 F.length)), (40, DI .i64 F.length), (41, DI .i64 j), (54, .c (.msl 1500 1 0 14)), (55, DI .i64 14), (56, DI .i64 x.2.2)])
          (fun x=>famO (hOf [(0,some [isI vs,isI ar,.isl 5 (l.map inX)]),(1000,some (famG (fun i=>2000+i) 14 l.length (TB (setB T u x.1)))),(1500,some (boolsC aft)),(1501,some ((nI F).map I64))]) 2000 (TB (setB T u x.1))) 20480
          (fun x=>TI l.length T0 (setB T u x.1) x.2.1∧x.1.length=14∧x.2.2≤14∧(x.2.1=false→T0 i=some row∧(∀ j,j<i→ClsB ⟨vs,ar,[]⟩ l T0 j)∧(∀ j' u,j' < j→F[j']? = some u→CovB T0 aft u)∧T0 u=some x.1∧∀ m,m<x.2.2→aft.getD m false=true→x.1.getD m false=true)) (fun x=>14 - x.2.2) ?_ (rw0,ch,0) some [] _ ⟨by simp only;rw [hid];exact ti,(ti.ok u rw0 hTu).2,by simp,fun hch=>⟨(tc hch).1,(tc hch).2.1,(tc hch).2.2,by rw [← ti.same hch];exact hTu,fun m hm=>by simp at hm⟩⟩ ?_
         ·clear ti tc hcel
          rintro ⟨rw,ch,q⟩ ⟨ti,hrw,hq,tc⟩ again4
          simp only at ti hrw hq tc again4 ⊢
          rcases Nat.lt_or_ge q 14 with hql | hge
          ·obtain ⟨ab,hab⟩:∃ ab,aft[q]? = some ab:=⟨aft[q]'(by omega),List.getElem?_eq_getElem (by omega)⟩
           obtain ⟨rb,hrb⟩:∃ rb,rw[q]? = some rb:=⟨rw[q]'(by omega),List.getElem?_eq_getElem (by omega)⟩
           have habc:=bC_at hab
           have hrbc:=bC_at hrb
           have htu:TB (setB T u rw) u=some (boolsC rw):=by simp [TB,setB]
           have hcel:(famG (fun i=>2000+i) 14 l.length (TB (setB T u rw)))[u]? = some (.msl (2000+u) 1 0 14):=famG_some hul htu
           have hfr:∀ hp:Hp,famO hp 2000 (TB (setB T u rw)) (2000+u)=some (some (boolsC rw)):=fun hp=>by rw [famO_at (by omega),htu];rfl
           have hqi:((q:Int)<14)=True:=eq_true (by omega)
           have hbl:=boolsC_len rw
           have hbl2:=boolsC_len aft
           have hnx:(ch=false→∀ m,m<q+1→aft.getD m false=true→rw.getD m false=true)→(ch=false→T0 i=some row∧(∀ j,j<i→ClsB ⟨vs,ar,[]⟩ l T0 j)∧(∀ j' u,j' < j→F[j']? = some u→CovB T0 aft u)∧T0 u=some rw∧∀ m,m<q+1→aft.getD m false=true→rw.getD m false=true):=fun hh hch=>by
            obtain ⟨c1,c2,c3,c4,c5⟩:=tc hch
            exact ⟨c1,c2,c3,c4,hh hch⟩
           cases ab with
           | false =>
            refine drvL Tryz.func34 ?_
            simp only [go_sem,famO_out,hql,hqi,habc,hcel,hfr,hrbc,Int.reduceLT]
            iterate 9 ((try (refine drvZ Tryz.func34 ?_;simp only [go_sem,famO_out,famO_upd,hql,hqi,habc,hcel,hfr,hrbc,famG_len,hul,hbl,hbl2,hrw,hal]));((with_reducible and_intros)<;>try exact sd))
            refine again4 (rw,ch,q+1) some [] _ ⟨ti,hrw,hql,hnx fun hch m hm hmt=>?_⟩ (by simp only;omega) ?_
            ·by_cases e:m=q
             ·subst e;rw [List.getD_eq_getElem?_getD,hab] at hmt;cases hmt
             ·exact (tc hch).2.2.2.2 m (by omega) hmt
            refine ⟨?_,SubH.famO (fun i=>2000+i) (fun i row hi ht=>⟨rfl,by simp,(famO_at hi).trans (by rw [ht];rfl),TB_kf ht⟩) (fun i j _ _ _ _ h=>by omega) ?_ ?_ ?_ ?_⟩
            ·simp only [go_sem,TmOK,DM,DMs,CM,CMs,forall_eq,exists_eq_left,famO_out]
            ·simp only [go_sem,TmOK,DM,DMs,CM,CMs,forall_eq,exists_eq_left,HpOK,famO_out]
             repeat' with_reducible apply And.intro
             all_goals first | exact CMs.famG (fun _ _=>rfl) (fun i hi hs=>rfl) (fun i hi hs=>famO_ne (by omega) hs) | exact CMs.kf (boolsC_kf _) | exact CMs.kf (I_kf _) | (simp;done) | (simp [CMs,CM,isI,kf];done) | skip
             all_goals trace_state
            ·simp [LowOK,famO_out,upd,hOf]
            ·simp
            ·intro k j cs hk hr i hi hs
             simp at hk hr
             omega
           | true =>
            cases rb with
            | true =>
             refine drvL Tryz.func34 ?_
             simp only [go_sem,famO_out,hql,hqi,habc,hcel,hfr,hrbc,Int.reduceLT]
             iterate 9 ((try (refine drvZ Tryz.func34 ?_;simp only [go_sem,famO_out,famO_upd,hql,hqi,habc,hcel,hfr,hrbc,famG_len,hul,hbl,hbl2,hrw,hal]));((with_reducible and_intros)<;>try exact sd))
             refine again4 (rw,ch,q+1) some [] _ ⟨ti,hrw,hql,hnx fun hch m hm hmt=>?_⟩ (by simp only;omega) ?_
             ·by_cases e:m=q
              ·subst e;rw [List.getD_eq_getElem?_getD,hrb];rfl
              ·exact (tc hch).2.2.2.2 m (by omega) hmt
             refine ⟨?_,SubH.famO (fun i=>2000+i) (fun i row hi ht=>⟨rfl,by simp,(famO_at hi).trans (by rw [ht];rfl),TB_kf ht⟩) (fun i j _ _ _ _ h=>by omega) ?_ ?_ ?_ ?_⟩
             ·simp only [go_sem,TmOK,DM,DMs,CM,CMs,forall_eq,exists_eq_left,famO_out]
             ·simp only [go_sem,TmOK,DM,DMs,CM,CMs,forall_eq,exists_eq_left,HpOK,famO_out]
              repeat' with_reducible apply And.intro
              all_goals first | exact CMs.famG (fun _ _=>rfl) (fun i hi hs=>rfl) (fun i hi hs=>famO_ne (by omega) hs) | exact CMs.kf (boolsC_kf _) | exact CMs.kf (I_kf _) | (simp;done) | (simp [CMs,CM,isI,kf];done) | skip
              all_goals trace_state
             ·simp [LowOK,famO_out,upd,hOf]
             ·simp
             ·intro k j cs hk hr i hi hs
              simp at hk hr
              omega
            | false =>
             have hset:(boolsC rw).set q (.v (.bool true))=boolsC (rw.set q true):=boolsC_set _ _ _
             have hst:∀ hp:Hp,upd (famO hp 2000 (TB (setB T u rw))) (2000+u) (some (some (boolsC (rw.set q true))))=famO hp 2000 (TB (setB T u (rw.set q true))):=fun hp=>by
              rw [famO_set (by omega),TB_set,setT2_set,← TB_set]
             refine drvL Tryz.func34 ?_
             simp only [go_sem,famO_out,hql,hqi,habc,hcel,hfr,hrbc,Int.reduceLT]
             iterate 9 ((try (refine drvZ Tryz.func34 ?_;simp only [go_sem,famO_out,famO_upd,hql,hqi,habc,hcel,hfr,hrbc,famG_len,hul,hbl,hbl2,hrw,hal,hset,hst]));((with_reducible and_intros)<;>try exact sd))
             have tm:=ti.mark (k:=u) (row:=rw) (r:=q) (by simp [setB]) hrb
             rw [show setB (setB T u rw) u (rw.set q true)=setB T u (rw.set q true) from by funext j;simp only [setB];split<;>rfl] at tm
             refine again4 (rw.set q true,true,q+1) some [] _ ⟨tm,by simp [hrw],hql,fun h=>by cases h⟩ (by simp only;omega) ?_
             refine ⟨?_,SubH.famO (fun i=>2000+i) (fun i row hi ht=>⟨rfl,by simp,(famO_at hi).trans (by rw [ht];rfl),TB_kf ht⟩) (fun i j _ _ _ _ h=>by omega) ?_ ?_ ?_ ?_⟩
             ·simp only [go_sem,TmOK,DM,DMs,CM,CMs,forall_eq,exists_eq_left,famO_out]
             ·simp only [go_sem,TmOK,DM,DMs,CM,CMs,forall_eq,exists_eq_left,HpOK,famO_out]
              repeat' with_reducible apply And.intro
              all_goals first | exact CMs.famG (fun i _=>by simp only [TB,setB];split<;>rfl) (fun i hi hs=>rfl) (fun i hi hs=>famO_ne (by omega) hs) | exact CMs.kf (boolsC_kf _) | exact CMs.kf (I_kf _) | (simp;done) | (simp [CMs,CM,isI,kf];done) | skip
              all_goals trace_state
             ·simp [LowOK,famO_out,upd,hOf]
             ·simp
             ·intro k j cs hk hr i hi hs
              simp at hk hr
              omega
          ·have hn:((q:Int)<14)=False:=eq_false (by omega)
           refine drvL Tryz.func34 ?_
           simp only [go_sem,famO_out,hn]
           iterate 4 ((try (refine drvZ Tryz.func34 ?_;simp only [go_sem,famO_out,hn]));((with_reducible and_intros)<;>try exact sd))
           refine again3 (setB T u rw,ch,j+1) some [] _ ⟨ti,hjl,fun hch=>?_⟩ (by simp only;omega) ?_
           ·obtain ⟨c1,c2,c3,c4,c5⟩:=tc hch
            refine ⟨c1,c2,fun j' u' hj' hu'=>?_⟩
            by_cases e:j'=j
            ·subst e
             rw [hu] at hu'
             simp only [Option.some.injEq] at hu'
             subst hu'
             exact ⟨rw,c4,fun m hm=>c5 m (by
              rcases Nat.lt_or_ge m 14 with h | h
              ·omega
              ·rw [List.getD_eq_getElem?_getD,List.getElem?_eq_none (by omega)] at hm;cases hm) hm⟩
            ·exact c3 j' u' (by simp only at hj';omega) hu'
           refine ⟨?_,SubH.famO (fun i=>2000+i) (fun i row hi ht=>⟨rfl,by simp,(famO_at hi).trans (by rw [ht];rfl),TB_kf ht⟩) (fun i j _ _ _ _ h=>by omega) ?_ ?_ ?_ ?_⟩
           ·simp only [go_sem,TmOK,DM,DMs,CM,CMs,forall_eq,exists_eq_left,famO_out]
           ·simp only [go_sem,TmOK,DM,DMs,CM,CMs,forall_eq,exists_eq_left,HpOK,famO_out]
            repeat' with_reducible apply And.intro
            all_goals first | exact CMs.famG (fun _ _=>rfl) (fun i hi hs=>rfl) (fun i hi hs=>famO_ne (by omega) hs) | exact CMs.kf (boolsC_kf _) | exact CMs.kf (I_kf _) | (simp;done) | (simp [CMs,CM,isI,kf];done) | skip
            all_goals trace_state
           ·simp [LowOK,famO_out,upd,hOf]
           ·simp
           ·intro k j cs hk hr i hi hs
            simp at hk hr
            omega
         ·simp only
          rw [hid]
          refine ⟨?_,SubH.famO (fun i=>2000+i) (fun i row hi ht=>⟨rfl,by simp,(famO_at hi).trans (by rw [ht];rfl),TB_kf ht⟩) (fun i j _ _ _ _ h=>by omega) ?_ ?_ ?_ ?_⟩
          ·simp only [go_sem,TmOK,DM,DMs,CM,CMs,forall_eq,exists_eq_left,famO_out]
          ·simp only [go_sem,TmOK,DM,DMs,CM,CMs,forall_eq,exists_eq_left,HpOK,famO_out]
           repeat' with_reducible apply And.intro
           all_goals first | exact CMs.famG (fun _ _=>rfl) (fun i hi hs=>rfl) (fun i hi hs=>famO_ne (by omega) hs) | exact CMs.kf (boolsC_kf _) | exact CMs.kf (I_kf _) | (simp;done) | (simp [CMs,CM,isI,kf];done) | skip
           all_goals trace_state
          ·simp [LowOK,famO_out,upd,hOf]
          ·simp
          ·intro k j cs hk hr i hi hs
           simp at hk hr
           omega
       ·have hn:¬ j<F.length:=by omega
        refine drvL Tryz.func34 ?_
        simp only [go_sem,famO_out,hn]
        iterate 4 ((try (refine drvZ Tryz.func34 ?_;simp only [go_sem,famO_out,hn]));((with_reducible and_intros)<;>try exact sd))
        refine again2 (T,ch,i+1) some [] _ ⟨ti,hlt,fun hch j' hj'=>?_⟩ (by simp only;omega) ?_
        ·obtain ⟨c1,c2,c3⟩:=tc hch
         by_cases e:j'=i
         ·subst e
          intro row' hr'
          rw [c1] at hr'
          simp only [Option.some.injEq] at hr'
          subst hr'
          intro u hu
          rw [hF] at hu
          obtain ⟨m,hm⟩:=List.getElem?_of_mem hu
          have:=c3 m u (by have:=(List.getElem?_eq_some_iff.1 hm).1;omega) hm
          rw [CtL.atC_get hx]
          show CovB T0 (tAft (hdC ⟨vs,ar,l⟩) _ row) u
          rw [hAf]
          exact this
         ·exact c2 j' (by simp only at hj';omega)
        refine ⟨?_,SubH.famO (fun i=>2000+i) (fun i row hi ht=>⟨rfl,by simp,(famO_at hi).trans (by rw [ht];rfl),TB_kf ht⟩) (fun i j _ _ _ _ h=>by omega) ?_ ?_ ?_ ?_⟩
        ·simp only [go_sem,TmOK,DM,DMs,CM,CMs,forall_eq,exists_eq_left,famO_out]
        ·simp only [go_sem,TmOK,DM,DMs,CM,CMs,forall_eq,exists_eq_left,HpOK,famO_out]
         repeat' with_reducible apply And.intro
         all_goals first | exact CMs.famG (fun _ _=>rfl) (fun i hi hs=>rfl) (fun i hi hs=>famO_ne (by omega) hs) | exact CMs.kf (boolsC_kf _) | exact CMs.kf (I_kf _) | (simp;done) | (simp [CMs,CM,isI,kf];done) | skip
         all_goals trace_state
        ·simp [LowOK,famO_out,upd,hOf]
        ·simp
        ·intro k j cs hk hr i hi hs
         simp at hk hr
         omega
      ·refine ⟨?_,SubH.famO (fun i=>2000+i) (fun i row hi ht=>?_) (fun i j hi hj h1 h2 h=>?_) ?_ ?_ ?_ ?_⟩
       ·simp only [go_sem,TmOK,DM,DMs,CM,CMs,forall_eq,exists_eq_left,famO_out]
        try simp
        all_goals first | done | omega | skip
       ·exact ⟨by rw [if_neg (by omega),if_neg (by omega)],by simp,(famO_at hi).trans (by rw [ht];rfl),TB_kf ht⟩
       ·omega
       ·have hcm1:=fun (i:Nat) (hi:i<l.length)=>(rfl:(TB T i).isSome=(TB T i).isSome)
        have hcm2:=fun (i:Nat) (_:i<l.length) (_:(TB T i).isSome=true)=>(show (if 2000+i=1500 then some 13248 else if 2000+i=1501 then some 13504 else some (2000+i))=some (2000+i) by rw [if_neg (by omega),if_neg (by omega)])
        simp only [go_sem,TmOK,DM,DMs,CM,CMs,forall_eq,exists_eq_left,HpOK,famO_out]
        repeat' with_reducible apply And.intro
        all_goals first | exact CMs.famG (fun i hi=>hcm1 i hi) (fun i hi hs=>hcm2 i hi hs) (fun i hi hs=>famO_ne (by omega) hs) | exact CMs.kf (boolsC_kf _) | exact CMs.kf (I_kf _) | (simp;done) | (simp [CMs,CM,isI,kf];done) | skip
        all_goals trace_state
       ·simp [LowOK,famO_out,upd,hOf]
       ·simp
       ·intro k j cs hk hr i hi hs
        simp at hk hr
        rcases hk with ⟨rfl,_⟩ | ⟨rfl,_⟩ | ⟨rfl,_⟩ | ⟨rfl,_⟩<;>simp at hr<;>omega
    ·have hn:¬ i<l.length:=by omega
     refine drvL Tryz.func34 ?_
     simp only [go_sem,famO_out,hn]
     iterate 4 ((try (refine drvZ Tryz.func34 ?_;simp only [go_sem,famO_out,hn]));((with_reducible and_intros)<;>try exact sd))
     have hile:i=l.length:=by omega
     refine again (T,ch) some [] _ ⟨ti.ok,ti.st,fun hch j hj=>?_⟩ ?_ ?_
     ·have:=ti.same hch
      subst this
      exact tc hch j (by omega)
     ·cases ch with
      | true=>have:=ti.lt rfl;simp only [if_true];omega
      | false =>
       have:=ti.same rfl
       subst this
       simp
     refine ⟨?_,SubH.famO (fun i=>2000+i) (fun i row hi ht=>⟨rfl,by simp,(famO_at hi).trans (by rw [ht];rfl),TB_kf ht⟩) (fun i j _ _ _ _ h=>by omega) ?_ ?_ ?_ ?_⟩
     ·simp only [go_sem,TmOK,DM,DMs,CM,CMs,forall_eq,exists_eq_left,famO_out]
     ·simp only [go_sem,TmOK,DM,DMs,CM,CMs,forall_eq,exists_eq_left,HpOK,famO_out]
      repeat' with_reducible apply And.intro
      all_goals first | exact CMs.famG (fun _ _=>rfl) (fun i hi hs=>rfl) (fun i hi hs=>famO_ne (by omega) hs) | exact CMs.kf (boolsC_kf _) | exact CMs.kf (I_kf _) | (simp;done) | (simp [CMs,CM,isI,kf];done) | skip
      all_goals trace_state
     ·simp [LowOK,famO_out,upd,hOf]
     ·simp
     ·intro k j cs hk hr i hi hs
      simp at hk hr
      omega
   ·refine ⟨?_,SubH.famO (fun i=>2000+i) (fun i row hi ht=>⟨rfl,by simp,(famO_at hi).trans (by rw [ht];rfl),TB_kf ht⟩) (fun i j _ _ _ _ h=>by omega) ?_ ?_ ?_ ?_⟩
    ·simp only [go_sem,TmOK,DM,DMs,CM,CMs,forall_eq,exists_eq_left,famO_out]
    ·simp only [go_sem,TmOK,DM,DMs,CM,CMs,forall_eq,exists_eq_left,HpOK,famO_out]
     repeat' with_reducible apply And.intro
     all_goals first | exact CMs.famG (fun _ _=>rfl) (fun i hi hs=>rfl) (fun i hi hs=>famO_ne (by omega) hs) | exact CMs.kf (boolsC_kf _) | exact CMs.kf (I_kf _) | (simp;done) | (simp [CMs,CM,isI,kf];done) | skip
     all_goals trace_state
    ·simp [LowOK,famO_out,upd,hOf]
    ·simp
    ·intro k j cs hk hr i hi hs
     simp at hk hr
     omega
 ·rw [hTa] at hi
  simp only [setB] at hi
  split at hi
  ·rename_i e;subst e;cases hi;exact ⟨h0,by simp⟩
  ·cases hi
 ·have hz:∀ i,(TB Ta i).isSome=true→i=0:=fun i h=>by
   rw [hTa] at h
   simp only [TB,setB] at h
   split at h
   ·assumption
   ·cases h
  have hz2:∀ row,TB Ta 0=some row→boolsC (List.replicate 14 false)=row:=fun row h=>by
   rw [hTa] at h
   simpa [TB,setB] using h
  refine ⟨?_,SubH.famO (fun i=>if i=0 then 512 else 2000+i) (fun i row hi ht=>?_) (fun i j hi hj h1 h2 h=>?_) ?_ ?_ ?_ ?_⟩
  ·simp only [go_sem,TmOK,DM,DMs,CM,CMs,forall_eq,exists_eq_left,famO_out]
   try simp
   all_goals first | done | omega | skip
  ·have:=hz i (by rw [ht];rfl)
   subst this
   exact ⟨rfl,by simp,by rw [← hz2 row ht];rfl,TB_kf ht⟩
  ·rw [hz i h1,hz j h2]
  ·have hcm1:=fun (i:Nat) (hi:i<l.length)=>(show (TB Ta i).isSome=(TB (setB (fun _=>none) 0 (List.replicate 14 false)) i).isSome by rw [hTa]:_)
   have hcm2:=fun (i:Nat) (_:i<l.length) (hs:(TB Ta i).isSome=true)=>(show (if 2000+i=1000 then some 320 else if 2000+i=2000 then some 512 else some (2000+i))=some (if i=0 then 512 else 0) by have:=hz i hs;subst this;rfl)
   simp only [go_sem,TmOK,DM,DMs,CM,CMs,forall_eq,exists_eq_left,HpOK,famO_out]
   repeat' with_reducible apply And.intro
   all_goals first | exact CMs.famG (fun i hi=>hcm1 i hi) (fun i hi hs=>hcm2 i hi hs) (fun i hi hs=>famO_ne (by omega) hs) | exact CMs.kf (boolsC_kf _) | exact CMs.kf (I_kf _) | (simp;done) | (simp [CMs,CM,isI,kf];done) | skip
   all_goals trace_state
  ·simp [LowOK,famO_out,upd,hOf]
  ·simp
  ·intro k j cs hk hr i hi hs
   simp at hk hr
   have:=hz i hs
   subst this
   rcases hk with ⟨rfl,_⟩ | ⟨rfl,_⟩<;>simp at hr ⊢<;>omega
end Go.Proofs.YtoakidkcppinpaaGreat.CtD
