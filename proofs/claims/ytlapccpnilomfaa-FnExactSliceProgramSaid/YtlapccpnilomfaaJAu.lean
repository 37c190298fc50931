/- Contracts of functions of the program, one behind the other, as plain data: what each call returns and which blocks it leaves. -/
import Derived.Test.YtlapccpnilomfaaJFacts
import Derived.Test.YtlapccpnilomfaaJAp
import Derived.Test.YtlapccpnilomfaaJAq
import Derived.Test.YtlapccpnilomfaaJAr
import Derived.Test.YtlapccpnilomfaaJAs
import Derived.Test.YtlapccpnilomfaaJAt
import Derived.Test.YtlapccpnilomfaaJAn
set_option linter.unusedVariables false
set_option linter.unusedSimpArgs false
set_option linter.unusedSectionVars false
set_option maxHeartbeats 16000000
set_option maxRecDepth 100000
namespace Go.Proofs.Ytlapccpnilomfaa.CtF
end Go.Proofs.Ytlapccpnilomfaa.CtF
namespace Go.Proofs.Ytlapccpnilomfaa.CtR
end Go.Proofs.Ytlapccpnilomfaa.CtR
namespace Go.Proofs.Ytlapccpnilomfaa.CtD
open Go Go.CT CtF CtR
variable [Yn]
def gL (L:List Bool):Nat→Bool:=fun i=>L.getD i false
theorem gL_ext {L L':List Bool} (h:L'.length=L.length) (h1:leB (gL L) (gL L')) (h2:leB (gL L') (gL L)):L'=L:=by
  apply List.ext_getElem h
  intro i a b
  have e1:=h1 i
  have e2:=h2 i
  simp only [gL,List.getD_eq_getElem?_getD,List.getElem?_eq_getElem a,List.getElem?_eq_getElem b,Option.getD_some] at e1 e2
  cases hx:L'[i]<;>cases hy:L[i]<;>simp_all
theorem gL_set {L:List Bool} {j:Nat} (h:j<L.length) (i:Nat):gL (L.set j true) i=true ↔ gL L i=true∨(2 ^ j).testBit i=true:=by
  simp only [gL,List.getD_eq_getElem?_getD,Nat.testBit_two_pow,decide_eq_true_eq]
  by_cases hij:j=i
  · subst hij;simp [List.getElem?_set_self h]
  · rw [List.getElem?_set_ne hij];simp [hij]
theorem usesL_mem {p:Pg} (i:Nat):∀ (d:Nat) (e:Ex) (L:List Bool),CtR.shape p d e=true→L.length=p.vars.length+p.arrays.length →
    (gL (usesL p.vars.length d e L) i=true ↔ gL L i=true∨(occN p.vars.length d e).testBit i=true)
  | 0,e,L,h,_=>by simp [CtR.shape] at h
  | d+1,.mk k v ks,L,h,hL=>by
    obtain ⟨g1,g2,g3⟩:=shape_succ h
    obtain ⟨hl3,hla,hv0,hv1⟩:=fits_len g1
    have hlim:k=2→v<p.vars.length:=fun hk=>by subst hk;simpa [limit] using hv1
    have hlim3:k=3→v<p.arrays.length:=fun hk=>by subst hk;simpa [limit] using hv1
    have gen:∀ (ks:List Ex),(∀ x ∈ ks,CtR.shape p d x=true)→∀ (M:List Bool) (a:Nat),M.length=L.length→(gL M i=true ↔ gL L i=true∨a.testBit i=true) →
        (gL (ks.foldl (fun L x=>usesL p.vars.length d x L) M) i=true ↔ gL L i=true∨((ks.map (occN p.vars.length d)).foldl (fun a b=>a ||| b) a).testBit i=true):=fun ks=>by
      induction ks with
      | nil=>intro _ M a _ h;exact h
      | cons x r ih =>
        intro hs M a hM h
        rw [List.foldl_cons,List.map_cons,List.foldl_cons]
        refine ih (fun y hy=>hs y (by simp [hy])) _ _ (by rw [usesL_len,hM]) ?_
        rw [usesL_mem i d x M (hs x (by simp)) (by omega),h,Nat.testBit_or,Bool.or_eq_true,or_assoc]
    simp only [usesL,occN]
    refine gen ks g2 _ _ (by split<;>(try split)<;>simp) ?_
    unfold occB
    by_cases h2:k=2
    · have:=hlim h2
      simp only [h2,if_true]
      exact gL_set (by omega) i
    · by_cases h3:k=3
      · have:=hlim3 h3
        simp only [h2,h3,if_true,if_false]
        first | exact gL_set (by omega) i | (simp only [Int.reduceEq,if_false];exact gL_set (by omega) i)
      · simp [h2,h3]
theorem usesE_mem {p : Pg} (i : Nat) {e : Ex} (h : CtR.shape p 5 e = true ∨ e = .mk 0 0 []) (L : List Bool) (hL : L.length = p.vars.length + p.arrays.length) :
    (gL (usesL p.vars.length 5 e L) i=true ↔ gL L i=true∨(occN p.vars.length 5 e).testBit i=true):=by
  rcases h with h | rfl
  · exact usesL_mem i 5 e L h hL
  · simp [usesL,occN,occB]
structure NS (L L' : List Bool) (K : Bool) (A : (Nat → Bool) → Nat) (K' : (Nat → Bool) → Bool) : Prop where
  len:L'.length=L.length
  s1:leB (gL L) (gL L')
  s2:∀ q',leB (gL L) q'→subB (A q') q'→leB (gL L') q'∧(K=true→K' q'=true)
  s3:leB (gL L') (gL L)→subB (A (gL L)) (gL L)∧(K' (gL L)=true→K=true)
theorem NS.nil (L:List Bool):NS L L false (fun _=>0) (fun _=>false) :=
  ⟨rfl,fun i h=>h,fun q' h _=>⟨h,fun h=>by cases h⟩,fun _=>⟨subB_zero _,fun h=>by cases h⟩⟩
theorem NS.seq {L L1 L2 : List Bool} {K1 K2 : Bool} {A1 A2 : (Nat → Bool) → Nat} {B1 B2 : (Nat → Bool) → Bool} (h1 : NS L L1 K1 A1 B1) (h2 : NS L1 L2 K2 A2 B2) :
    NS L L2 (K1 || K2) (fun q=>A1 q ||| A2 q) (fun q=>B1 q || B2 q):=by
  refine ⟨by rw [h2.len,h1.len],fun i h=>h2.s1 i (h1.s1 i h),fun q' hl hs=>?_,fun hl=>?_⟩
  · obtain ⟨sa,sb⟩:=subB_or.1 hs
    have a:=h1.s2 q' hl sa
    have b:=h2.s2 q' a.1 sb
    refine ⟨b.1,fun h=>?_⟩
    rw [Bool.or_eq_true] at h ⊢
    exact h.imp a.2 b.2
  · have e1:L1=L:=gL_ext h1.len h1.s1 (fun i h=>hl i (h2.s1 i h))
    subst e1
    have a:=h1.s3 (fun i h=>h)
    have b:=h2.s3 hl
    refine ⟨subB_or.2 ⟨a.1,b.1⟩,fun h=>?_⟩
    rw [Bool.or_eq_true] at h ⊢
    exact h.imp a.2 b.2
theorem NS.keep {L L1 U : List Bool} {K : Bool} {A : (Nat → Bool) → Nat} {B : (Nat → Bool) → Bool} (o : Nat) (h : NS L L1 K A B) (hl : U.length = L1.length) (hU : ∀ i, gL U i = true ↔ gL L1 i = true ∨ o.testBit i = true) :
    NS L (if K then U else L1) K (fun q=>if B q then A q ||| o else A q) B:=by
  cases hK:K with
  | false =>
    rw [hK] at h
    refine ⟨h.len,h.s1,fun q' hle hs=>?_,fun hle=>?_⟩
    · have:subB (A q') q':=by
        split at hs
        · exact (subB_or.1 hs).1
        · exact hs
      exact h.s2 q' hle this
    · have a:=h.s3 hle
      have hb:B (gL L)=false:=by
        cases hB:B (gL L) with
        | false=>rfl
        | true=>exact absurd (a.2 hB) (by simp)
      refine ⟨?_,a.2⟩
      simp only [hb,Bool.false_eq_true,if_false]
      exact a.1
  | true =>
    rw [hK] at h
    refine ⟨by rw [if_pos rfl,hl,h.len],fun i hi=>?_,fun q' hle hs=>?_,fun hle=>?_⟩
    · rw [if_pos rfl];exact (hU i).2 (.inl (h.s1 i hi))
    · have a:subB (A q') q':=by
        split at hs
        · exact (subB_or.1 hs).1
        · exact hs
      have b:=h.s2 q' hle a
      refine ⟨fun i hi=>?_,b.2⟩
      rw [if_pos rfl] at hi
      have hb:=b.2 rfl
      simp only [hb,if_true] at hs
      rcases (hU i).1 hi with h1 | h1
      · exact b.1 i h1
      · exact (subB_or.1 hs).2 i h1
    · rw [if_pos rfl] at hle
      have a:=h.s3 (fun i hi=>hle i ((hU i).2 (.inl hi)))
      refine ⟨?_,a.2⟩
      have ho:subB o (gL L):=fun i hi=>hle i ((hU i).2 (.inr hi))
      split
      · exact subB_or.2 ⟨a.1,ho⟩
      · exact a.1
theorem addS_or (q:Nat→Bool) (nv:Nat) (f:List St1→List St1) (g:List St1→Nat) (a:Nat) (s:St1):addS q nv f g a s=a ||| addS q nv f g 0 s:=by
  obtain ⟨k,t,ix,v,c,b,e⟩:=s
  simp only [addS]
  split<;>split<;>simp [Nat.or_assoc]
theorem NS.fold (nv:Nat) (f:List St1→List Bool→Bool × List Bool) (g:(Nat→Bool)→List St1→List St1) (w:(Nat→Bool)→List St1→Nat) (L0:List Bool):∀ (l:List St1) (x:Bool × List Bool) (A:(Nat→Bool)→Nat) (B:(Nat→Bool)→Bool),
    (∀ s ∈ l,∀ L:List Bool,L.length=L0.length→NS L (needS nv f L s).2 (needS nv f L s).1 (fun q=>addS q nv (g q) (w q) 0 s) (fun q=>(cutS q nv (g q) s).isSome))→NS L0 x.2 x.1 A B →
    NS L0 (l.foldl (fun x s=>(x.1 || (needS nv f x.2 s).1,(needS nv f x.2 s).2)) x).2 (l.foldl (fun x s=>(x.1 || (needS nv f x.2 s).1,(needS nv f x.2 s).2)) x).1 (fun q=>l.foldl (addS q nv (g q) (w q)) (A q)) (fun q=>B q || l.any fun s=>(cutS q nv (g q) s).isSome)
  | [],x,A,B,_,h=>by simpa using h
  | s :: r,x,A,B,hs,h=>by
    have h1:=h.seq (hs s (by simp) x.2 h.len)
    have h2:=NS.fold nv f g w L0 r (x.1 || (needS nv f x.2 s).1,(needS nv f x.2 s).2) _ _ (fun y hy=>hs y (by simp [hy])) h1
    simp only [List.foldl_cons,List.any_cons]
    have e1:(fun q=>List.foldl (addS q nv (g q) (w q)) (addS q nv (g q) (w q) (A q) s) r)=(fun q=>List.foldl (addS q nv (g q) (w q)) (A q ||| addS q nv (g q) (w q) 0 s) r):=funext fun q=>by rw [addS_or]
    rw [e1]
    simp only [Bool.or_assoc] at h2 ⊢
    exact h2
theorem any_pos (f:St1→Option St1) (l:List St1):(l.any fun s=>(f s).isSome)=decide (0<(l.filterMap f).length):=by
  induction l with
  | nil=>rfl
  | cons a r ih =>
    rw [List.any_cons,List.filterMap_cons,ih]
    cases h:f a<;>simp
theorem NS.need {p:Pg}:∀ (d:Nat) (l:List St1) (L:List Bool),(∀ s ∈ l,stmtOK p d s=true)→L.length=p.vars.length+p.arrays.length →
    NS L (needL p.vars.length d l L).2 (needL p.vars.length d l L).1 (fun q=>setN q p.vars.length d l) (fun q=>decide (0<(cutL q p.vars.length d l).length))
  | 0,l,L,h,_=>by
    have:=NS.nil L
    simpa [needL,setN,cutL] using this
  | d+1,l,L,h,hL=>by
    have hone:∀ s ∈ l,∀ M:List Bool,M.length=L.length→NS M (needS p.vars.length (needL p.vars.length d) M s).2 (needS p.vars.length (needL p.vars.length d) M s).1 (fun q=>addS q p.vars.length (cutL q p.vars.length d) (setN q p.vars.length d) 0 s) (fun q=>(cutS q p.vars.length (cutL q p.vars.length d) s).isSome):=fun s hs M hM=>by
      have hok:=h s hs
      obtain ⟨k,t,ix,v,c,b,e⟩:=s
      have hbe:=stmtOK_succ hok
      have hex:=exprs_of hok
      have hb:=NS.need d b M hbe.2.1 (by omega)
      have he:=NS.need d e (needL p.vars.length d b M).2 hbe.2.2 (by rw [hb.len];omega)
      have hU:∀ M1:List Bool,M1.length=L.length→∀ i,gL (usesL p.vars.length 5 ix (usesL p.vars.length 5 v M1)) i=true ↔ gL M1 i=true∨(occN p.vars.length 5 v ||| occN p.vars.length 5 ix).testBit i=true:=fun M1 hM1 i=>by
        rw [usesE_mem i hex.1 _ (by rw [usesL_len];omega),usesE_mem i hex.2 _ (by omega),Nat.testBit_or,Bool.or_eq_true,or_assoc]
      have hlen:∀ M1:List Bool,(usesL p.vars.length 5 ix (usesL p.vars.length 5 v M1)).length=M1.length:=fun M1=>by rw [usesL_len,usesL_len]
      have h0:∀ q:Nat→Bool,0 ||| (occN p.vars.length 5 v ||| occN p.vars.length 5 ix)=(occN p.vars.length 5 v ||| occN p.vars.length 5 ix):=fun q=>Nat.zero_or _
      by_cases h5:k=5
      · have base:NS M M true (fun _=>0) (fun _=>true):=⟨rfl,fun i h=>h,fun q' h _=>⟨h,fun _=>rfl⟩,fun _=>⟨subB_zero _,fun _=>rfl⟩⟩
        have:=base.keep (U:=usesL p.vars.length 5 ix (usesL p.vars.length 5 v M)) _ (hlen M) (hU M hM)
        simpa [needS,addS,cutS,h5] using this
      · by_cases h1:k=1
        · have base:NS M M (gL M t.toNat) (fun _=>0) (fun q=>q t.toNat):=⟨rfl,fun i h=>h,fun q' h _=>⟨h,fun h1=>h _ h1⟩,fun _=>⟨subB_zero _,fun h=>h⟩⟩
          have:=base.keep (U:=usesL p.vars.length 5 ix (usesL p.vars.length 5 v M)) _ (hlen M) (hU M hM)
          have ek:∀ q:Nat→Bool,(cutS q p.vars.length (cutL q p.vars.length d) (.mk k t ix v c b e)).isSome=q t.toNat:=fun q=>by simp only [cutS,h5,h1,if_false,if_true];cases q t.toNat<;>simp
          simp only [addS,ek]
          simpa [needS,gL,h5,h1] using this
        · by_cases h2:k=2
          · have base:NS M M (gL M (p.vars.length+t.toNat)) (fun _=>0) (fun q=>q (p.vars.length+t.toNat)):=⟨rfl,fun i h=>h,fun q' h _=>⟨h,fun h1=>h _ h1⟩,fun _=>⟨subB_zero _,fun h=>h⟩⟩
            have:=base.keep (U:=usesL p.vars.length 5 ix (usesL p.vars.length 5 v M)) _ (hlen M) (hU M hM)
            have ek:∀ q:Nat→Bool,(cutS q p.vars.length (cutL q p.vars.length d) (.mk k t ix v c b e)).isSome=q (p.vars.length+t.toNat):=fun q=>by simp only [cutS,h5,h1,h2,if_false,if_true];cases q (p.vars.length+t.toNat)<;>simp
            simp only [addS,ek]
            simpa [needS,gL,h5,h1,h2] using this
          · have base:=hb.seq he
            have hl2:(needL p.vars.length d e (needL p.vars.length d b M).2).2.length=L.length:=by rw [he.len,hb.len,hM]
            have:=base.keep (U:=usesL p.vars.length 5 ix (usesL p.vars.length 5 v (needL p.vars.length d e (needL p.vars.length d b M).2).2)) _ (hlen _) (hU _ hl2)
            have ek:∀ q:Nat→Bool,(cutS q p.vars.length (cutL q p.vars.length d) (.mk k t ix v c b e)).isSome=(decide (0<(cutL q p.vars.length d b).length) || decide (0<(cutL q p.vars.length d e).length)):=fun q=>by
              simp only [cutS,h5,h1,h2,if_false]
              by_cases hpos:0<(cutL q p.vars.length d b).length+(cutL q p.vars.length d e).length
              · rw [if_pos hpos]
                rcases Nat.lt_or_ge 0 (cutL q p.vars.length d b).length with h | h
                · simp [h]
                · have:0<(cutL q p.vars.length d e).length:=by omega
                  simp [this]
              · rw [if_neg hpos]
                have h1:¬ 0<(cutL q p.vars.length d b).length:=by omega
                have h2:¬ 0<(cutL q p.vars.length d e).length:=by omega
                simp only [h1,h2];rfl
            simp only [addS,ek]
            have hc:¬ (k=5∨k=1∨k=2):=by omega
            simp only [needS,h5,h1,h2,if_false,or_self,Nat.zero_or]
            exact this
    have:=NS.fold p.vars.length (needL p.vars.length d) (fun q=>cutL q p.vars.length d) (fun q=>setN q p.vars.length d) L l (false,L) _ _ hone (NS.nil L)
    simp only [any_pos,Bool.false_or] at this
    exact this
structure Under (p : Pg) (ws L : List Bool) : Prop where
  len:L.length=p.vars.length+p.arrays.length
  want:leB (gL ws) (gL L)
  least:∀ q':Nat→Bool,(∀ i,ws.getD i false=true→q' i=true)→subB (setN q' p.vars.length 5 p.body) q'→leB (gL L) q'
theorem Under.start {p:Pg} {ws:List Bool} (h:ws.length=p.vars.length+p.arrays.length):Under p ws ws:=⟨h,fun i h=>h,fun q' h1 _ i h=>h1 i h⟩
theorem Under.next {p:Pg} {ws L:List Bool} (hb:∀ s ∈ p.body,stmtOK p 5 s=true) (h:Under p ws L):Under p ws (needL p.vars.length 5 p.body L).2:=by
  have n:=NS.need 5 p.body L hb h.len
  exact ⟨by rw [n.len,h.len],fun i hi=>n.s1 i (h.want i hi),fun q' h1 h2=>(n.s2 q' (h.least q' h1 h2) h2).1⟩
theorem Under.stop {p : Pg} {ws L : List Bool} (hb : ∀ s ∈ p.body, stmtOK p 5 s = true) (h : Under p ws L) (hs : (jnA L (needL p.vars.length 5 p.body L).2 L.length).1 = false) :
    (needL p.vars.length 5 p.body L).2=L∧Least p ws (gL L):=by
  have n:=NS.need 5 p.body L hb h.len
  have hle:leB (gL (needL p.vars.length 5 p.body L).2) (gL L):=fun i hi=>by
    cases hq:gL L i with
    | true=>rfl
    | false =>
      have hlt:i<L.length:=by
        rcases Nat.lt_or_ge i (needL p.vars.length 5 p.body L).2.length with h1 | h1
        · rw [n.len] at h1;exact h1
        · simp only [gL,List.getD_eq_getElem?_getD,List.getElem?_eq_none h1,Option.getD_none] at hi;cases hi
      have:=(jnA_iff L (needL p.vars.length 5 p.body L).2 L.length).2 ⟨i,hlt,hi,hq⟩
      rw [hs] at this;cases this
  exact ⟨gL_ext n.len n.s1 hle,fun i hi=>h.want i hi,(n.s3 hle).1,fun q' h1 h2=>h.least q' h1 h2⟩
def outs (L:List Bool):Nat:=L.count false
theorem outs_le : ∀ (L L' : List Bool), L'.length = L.length → leB (gL L) (gL L') → outs L' ≤ outs L ∧ (∀ i, gL L i = false → gL L' i = true → outs L' < outs L)
  | [],L',h,_=>by
    have:L'=[]:=List.eq_nil_of_length_eq_zero h
    subst this
    exact ⟨Nat.le_refl _,fun i _ h=>by simp [gL] at h⟩
  | a :: r,[],h,_=>by simp at h
  | a :: r,a' :: r',h,hle=>by
    have ih:=outs_le r r' (by simpa using h) (fun i hi=>by have:=hle (i+1);simpa [gL] using this (by simpa [gL] using hi))
    have h0:=hle 0
    have h0:a=true→a'=true:=by simpa [gL] using h0
    unfold outs at ih ⊢
    rw [List.count_cons,List.count_cons]
    refine ⟨?_,fun i hi hi'=>?_⟩
    · cases a<;>cases a'<;>simp_all<;>omega
    · cases i with
      | zero =>
        simp [gL] at hi hi'
        subst hi hi'
        simp
        omega
      | succ i =>
        have h3:=ih.2 i (by simpa [gL] using hi) (by simpa [gL] using hi')
        cases a<;>cases a'<;>simp_all<;>omega
theorem Under.go {p:Pg} {ws L:List Bool} (hb:∀ s ∈ p.body,stmtOK p 5 s=true) (h:Under p ws L) (hs:(jnA L (needL p.vars.length 5 p.body L).2 L.length).1=true):outs (needL p.vars.length 5 p.body L).2<outs L:=by
  have n:=NS.need 5 p.body L hb h.len
  obtain ⟨i,_,h1,h2⟩:=(jnA_iff L (needL p.vars.length 5 p.body L).2 L.length).1 hs
  exact (outs_le L _ n.len n.s1).2 i h2 h1
theorem wkL_bools (L:List Bool):wkL (L.map fun b=>[BC b]).flatten (boolsC L):=by
  rw [boolsC_flat]
  induction L with
  | nil=>simp [boolsC,wkL]
  | cons a r ih=>simp only [boolsC,List.map_cons] at ih ⊢;simp [wkL,ih]
theorem takeB (L:List Bool):List.take L.length (boolsC L)=boolsC L:=List.take_of_length_le (by rw [boolsC_len];exact Nat.le_refl _)
theorem beqR (n:Nat):Nat.beq n n=true:=by simp
theorem jflat (L:List Bool):(L.map fun b=>[BC b]).flatten=boolsC L:=boolsC_flat L
theorem sliceProgS (p:Pg) (ws:List Bool) (hl:p.vars.length≤mx) (hl2:p.arrays.length≤mx) (hb:lsize 5 p.body≤1099511627776) (hw:ws.length≤1048576):DC Try.prog 5 [.agg p.cells,.c (boolsD ws)] [] (sliR p ws):=by
  have hmx:=mx_eq
  have hv:=programValidS p hl hl2 hb
  have hce:=cellsS p hl hl2
  generalize hR:sliR p ws=R
  cases hq:progOK p with
  | false =>
    rw [hq] at hv
    obtain ⟨vs,ar,bd⟩:=p
    refine dcZ Try.func5 ?_
    simp only [go_sem]
    ((try (refine drvZ Try.func5 ?_;simp only [go_sem]));((with_reducible and_intros)<;>try exact sd))
    refine XK.plain hv ok16 ?_ (hbT ())
    iterate 2 ((try (refine drvZ Try.func5 ?_;simp only [go_sem,boolsD,BC]));((with_reducible and_intros)<;>try exact sd))
    refine XK.gskip 3 false (DI .i64 0) ?_ (hbT ())
    iterate 3 ((try (refine drvZ Try.func5 ?_;simp only [go_sem,boolsD,BC]));((with_reducible and_intros)<;>try exact sd))
    exact RetOb.ofQ (fun _=>none) [] (.tup [.agg (Pg.cells ⟨[],[],[]⟩),DB false]) [] (by simp [enumL,DM,DMs,CM,CMs,HpOK,LowOK,Pg.cells,isI,St1.cellsL]) (by rw [← hR];exact ⟨rfl,.inr ⟨by rw [hq];rfl,rfl⟩⟩) (by simp)
  | true =>
    rw [hq] at hv
    have hln:=prog_len hq
    by_cases hwl:ws.length=p.vars.length+p.arrays.length
    · have hcond:(progOK p && decide (ws.length=p.vars.length+p.arrays.length))=true:=by rw [hq];simp [hwl]
      have hbo:=body_of hq
      have hnd:=fun L hL=>needsS p (by omega) 5 p.body L hbo.1 (by have:=hbo.2;omega) hL
      have hcu:=fun L hL=>cutSp p (by omega) (by omega) L hL 5 p.body hbo.1 (by have:=hbo.2;omega)
      have hun:=fun L=>@Under.next _ p ws L hbo.1
      have hus:=fun L=>@Under.stop _ p ws L hbo.1
      have hug:=fun L=>@Under.go _ p ws L hbo.1
      have hnl:=fun L=>needL_len p.vars.length 5 p.body L
      have hst:=@Under.start _ p ws hwl
      have hul:=fun L=>@Under.len p ws L
      generalize hU:Under p ws=U at *
      generalize hLe:Least p ws=Le at *
      have hfin:∀ L,Le (gL L)→R (.tup [.agg (Pg.cells (slP p (gL L))),DB true]) []:=fun L h=>by rw [← hR];exact ⟨rfl,.inl ⟨hcond,gL L,by rw [hLe];exact h,rfl⟩⟩
      obtain ⟨vs,ar,bd⟩:=p
      have hln:1≤vs.length∧vs.length≤12∧ar.length≤2:=hln
      have hwl:ws.length=vs.length+ar.length:=hwl
      simp only at hnd hcu hun hus hug hnl hst hul hfin hce
      have hb1:((ws.length:Int) != (vs.length:Int)+(ar.length:Int))=false:=by rw [hwl];simp
      have hb2:((ws.length:Int)=(vs.length:Int)+(ar.length:Int))=True:=eq_true (by omega)
      refine dcZ Try.func5 ?_
      simp only [go_sem]
      ((try (refine drvZ Try.func5 ?_;simp only [go_sem]));((with_reducible and_intros)<;>try exact sd))
      refine XK.plain hv ok16 ?_ (hbT ())
      iterate 2 ((try (refine drvZ Try.func5 ?_;simp only [go_sem,boolsD]));((with_reducible and_intros)<;>try exact sd))
      refine XK.gplain 3 false true (fun _=>hce) ok17 ?_ (hbT ())
      iterate 4 ((try (refine drvZ Try.func5 ?_;simp only [go_sem,boolsD,hb1,hb2,jflat,takeB,boolsC_len]));((with_reducible and_intros)<;>try exact sd))
      refine Go.loopQ (fun L : List Bool => [(2, .c (.ptr 0 0)), (4, .c (.ptr 64 0)), (6, .c (.msl 65 1 0 L.length))])
        (fun L=>[(0,some (Pg.cells ⟨vs,ar,bd⟩)),(64,some [.v (.slice none 0 0),.v (.slice none 0 0),.v (.slice none 0 0)]),(65,some (boolsC L))]) 4096 U outs ?_ ws (fun j=>if j=65 then some 960 else some j) [] _ hst ?_
      · intro L hUL again
        have hLl:=hul L hUL
        have h1:=hnd L hLl
        have h2:=hnl L
        have h3:=joinS L (needL vs.length 5 bd L).2 (by omega) h2
        have h4:=hun L hUL
        have h5:=hus L hUL
        have h6:=hug L hUL
        generalize hN:needL vs.length 5 bd L=N at *
        obtain ⟨nb,L'⟩:=N
        simp only at h1 h2 h3 h4 h5 h6
        refine drvL Try.func5 ?_
        simp only [go_sem,jflat,takeB,boolsC_len]
        iterate 2 ((try (refine drvZ Try.func5 ?_;simp only [go_sem,jflat,takeB,boolsC_len]));((with_reducible and_intros)<;>try exact sd))
        refine XK.callG [65] h1 ok18 (hhp_one (by simp [hOf,upd,boolsC_ren])) (hbT ()) (fun d h' ⟨_,e⟩=>by subst e;simp) ?_
        rintro _ _ ⟨rfl,rfl⟩ _
        iterate 2 ((try (refine drvZ Try.func5 ?_;simp only [go_sem,boolsC_ren,takeB,boolsC_len]));((with_reducible and_intros)<;>try exact sd))
        refine XK.callG [4224,65] h3 ok19 (hhp2 (by simp [hOf,upd,boolsC_ren]) (by simp [hOf,upd,boolsC_ren])) (hbT ()) (fun d h' ⟨_,e⟩=>by subst e;simp) ?_
        rintro _ _ ⟨rfl,rfl⟩ _
        cases hj:(jnA L L' L.length).1 with
        | true =>
          iterate 3 ((try (refine drvZ Try.func5 ?_;simp only [go_sem,boolsC_ren,takeB,boolsC_len]));((with_reducible and_intros)<;>try exact sd))
          refine again L' some [] _ h4 (h6 hj) ?_
          simp only [go_sem,TmOK,DM,DMs,CM,CMs,forall_eq,exists_eq_left,Mq,HpOK,LowOK,h2]
          simp
          exact CMs.kf (boolsC_kf _)
        | false =>
          obtain ⟨rfl,hle⟩:=h5 hj
          have h7:=hcu L' hLl
          refine XK.freezeAll 65 1 (boolsC L') (L'.map fun b=>[BC b]) ?_ (by simp [appUp,upsFrom,rkey,wkey,hOf,upd,boolsC_ren]) (wkL_bools L') (fun x hx=>by obtain ⟨b,_,rfl⟩:=List.mem_map.1 hx;rfl) (fun x hx c hc=>by obtain ⟨b,_,rfl⟩:=List.mem_map.1 hx;rw [List.mem_singleton.1 hc];rfl)
          iterate 5 ((try (refine drvZ Try.func5 ?_;simp only [go_sem,boolsC_ren,takeB,boolsC_len,List.length_map,beqR,flat_I']));((with_reducible and_intros)<;>try exact sd))
          refine XK.plain h7 ok20 ?_ (hbT ()) (fun _=>by kernel_rfl)
          iterate 4 ((try (refine drvZ Try.func5 ?_;simp only [go_sem,boolsC_ren,takeB,boolsC_len,List.length_map,flat_I']));((with_reducible and_intros)<;>try exact sd))
          refine RetOb.ofQ (fun _=>none) [5120,5376] (.tup [.agg (Pg.cells (slP ⟨vs,ar,bd⟩ (gL L'))),DB true]) [] ?_ (hfin L' hle) (by simp)
          simp [enumL,DM,DMs,CM,CMs,HpOK,LowOK,Pg.cells,slP,isI,hOf,upd,flat_I,kf]
          rw [show gL L'=fun i=>L'[i]?.getD false from funext fun i=>by simp [gL]]
      · simp only [go_sem,TmOK,DM,DMs,CM,CMs,forall_eq,exists_eq_left,Mq,HpOK,LowOK,boolsD,BC]
        try simp
        try exact CMs.kf (boolsC_kf _)
    · have hb1:((ws.length:Int) != ((p.vars.length+p.arrays.length:Nat):Int))=true:=by simp only [bne_iff_ne];omega
      have hb2:((ws.length:Int)=((p.vars.length+p.arrays.length:Nat):Int))=False:=eq_false (by omega)
      obtain ⟨vs,ar,bd⟩:=p
      simp only at hb1 hb2 hce
      refine dcZ Try.func5 ?_
      simp only [go_sem]
      ((try (refine drvZ Try.func5 ?_;simp only [go_sem]));((with_reducible and_intros)<;>try exact sd))
      refine XK.plain hv ok16 ?_ (hbT ())
      iterate 2 ((try (refine drvZ Try.func5 ?_;simp only [go_sem,boolsD,BC]));((with_reducible and_intros)<;>try exact sd))
      refine XK.gplain 3 false true (fun _=>hce) ok17 ?_ (hbT ())
      generalize ((vs.length+ar.length:Nat):Int)=cc at *
      iterate 4 ((try (refine drvZ Try.func5 ?_;simp only [go_sem,boolsD,BC,hb1,hb2]));((with_reducible and_intros)<;>try exact sd))
      exact RetOb.ofQ (fun _=>none) [] (.tup [.agg (Pg.cells ⟨[],[],[]⟩),DB false]) [] (by simp [enumL,DM,DMs,CM,CMs,HpOK,LowOK,Pg.cells,isI,St1.cellsL]) (by rw [← hR];exact ⟨rfl,.inr ⟨by rw [hq];simpa using hwl,rfl⟩⟩) (by simp)
end Go.Proofs.Ytlapccpnilomfaa.CtD
namespace Go.Proofs.Ytlapccpnilomfaa.CtF
end Go.Proofs.Ytlapccpnilomfaa.CtF
namespace Go.Proofs.Ytlapccpnilomfaa.CtR
end Go.Proofs.Ytlapccpnilomfaa.CtR
namespace Go.Proofs.Ytlapccpnilomfaa.CtD
open Go Go.CT CtF CtR
variable [Yn]
def rel (l:List Ev):List Ev:=l.filter fun e=>e.kind == 4
theorem len0 {l:List St1} (h:¬ 0<l.length):l=[]:=List.eq_nil_of_length_eq_zero (by omega)
theorem cut_cut {p:Pg} {q q':Nat→Bool} (hle:leB q' q):∀ (d:Nat) (l:List St1),(∀ s ∈ l,stmtOK p d s=true) →
    cutL q' p.vars.length d (cutL q p.vars.length d l)=cutL q' p.vars.length d l∧setN q' p.vars.length d (cutL q p.vars.length d l)=setN q' p.vars.length d l
  | 0,l,_=>⟨rfl,rfl⟩
  | d+1,l,hok=>by
    have hone:∀ s,stmtOK p (d+1) s=true→(match cutS q p.vars.length (cutL q p.vars.length d) s with
        | none=>cutS q' p.vars.length (cutL q' p.vars.length d) s=none∧addS q' p.vars.length (cutL q' p.vars.length d) (setN q' p.vars.length d) 0 s=0
        | some s'=>cutS q' p.vars.length (cutL q' p.vars.length d) s'=cutS q' p.vars.length (cutL q' p.vars.length d) s∧addS q' p.vars.length (cutL q' p.vars.length d) (setN q' p.vars.length d) 0 s'=addS q' p.vars.length (cutL q' p.vars.length d) (setN q' p.vars.length d) 0 s):=fun s hs=>by
      obtain ⟨k,t,ix,v,c,b,e⟩:=s
      have hbe:=stmtOK_succ hs
      by_cases h5:k=5
      · have ec:cutS q p.vars.length (cutL q p.vars.length d) (.mk k t ix v c b e)=some (.mk k t ix v c b e):=by simp [cutS,h5]
        rw [ec];exact ⟨rfl,rfl⟩
      by_cases h1:k=1
      · cases hqt:q t.toNat with
        | true =>
          have ec:cutS q p.vars.length (cutL q p.vars.length d) (.mk k t ix v c b e)=some (.mk k t ix v c b e):=by simp [cutS,h1,hqt]
          rw [ec];exact ⟨rfl,rfl⟩
        | false =>
          have hq2:q' t.toNat=false:=by
            cases hx:q' t.toNat with
            | false=>rfl
            | true=>rw [hle _ hx] at hqt;cases hqt
          have ec:cutS q p.vars.length (cutL q p.vars.length d) (.mk k t ix v c b e)=none:=by simp [cutS,h1,hqt]
          have ec2:cutS q' p.vars.length (cutL q' p.vars.length d) (.mk k t ix v c b e)=none:=by simp [cutS,h1,hq2]
          rw [ec]
          refine ⟨ec2,?_⟩
          simp only [addS]
          rw [ec2]
          simp [h1]
      by_cases h2:k=2
      · cases hqt:q (p.vars.length+t.toNat) with
        | true =>
          have ec:cutS q p.vars.length (cutL q p.vars.length d) (.mk k t ix v c b e)=some (.mk k t ix v c b e):=by simp [cutS,h2,hqt]
          rw [ec];exact ⟨rfl,rfl⟩
        | false =>
          have hq2:q' (p.vars.length+t.toNat)=false:=by
            cases hx:q' (p.vars.length+t.toNat) with
            | false=>rfl
            | true=>rw [hle _ hx] at hqt;cases hqt
          have ec:cutS q p.vars.length (cutL q p.vars.length d) (.mk k t ix v c b e)=none:=by simp [cutS,h2,hqt]
          have ec2:cutS q' p.vars.length (cutL q' p.vars.length d) (.mk k t ix v c b e)=none:=by simp [cutS,h2,hq2]
          rw [ec]
          refine ⟨ec2,?_⟩
          simp only [addS]
          rw [ec2]
          simp [h2]
      have ib:=cut_cut hle d b hbe.2.1
      have ie:=cut_cut hle d e hbe.2.2
      have ecs:∀ q (b e:List St1),cutS q p.vars.length (cutL q p.vars.length d) (.mk k t ix v c b e)=if 0<(cutL q p.vars.length d b).length+(cutL q p.vars.length d e).length then some (.mk k t ix v c (cutL q p.vars.length d b) (cutL q p.vars.length d e)) else none:=fun q b e=>by simp [cutS,h5,h1,h2]
      have eas:∀ (b e:List St1),addS q' p.vars.length (cutL q' p.vars.length d) (setN q' p.vars.length d) 0 (.mk k t ix v c b e)=if 0<(cutL q' p.vars.length d b).length+(cutL q' p.vars.length d e).length then (setN q' p.vars.length d b ||| setN q' p.vars.length d e) ||| (occN p.vars.length 5 v ||| occN p.vars.length 5 ix) else setN q' p.vars.length d b ||| setN q' p.vars.length d e:=fun b e=>by
        simp only [addS,ecs,show ¬ (k=5∨k=1∨k=2) by omega,if_false,Nat.zero_or]
        split<;>simp
      rw [ecs q b e]
      by_cases hp:0<(cutL q p.vars.length d b).length+(cutL q p.vars.length d e).length
      · rw [if_pos hp]
        simp only [ecs,eas,ib.1,ib.2,ie.1,ie.2,and_self]
      · rw [if_neg hp]
        have hb0:=len0 (show ¬ 0<(cutL q p.vars.length d b).length by omega)
        have he0:=len0 (show ¬ 0<(cutL q p.vars.length d e).length by omega)
        rw [hb0] at ib
        rw [he0] at ie
        have z1:setN q' p.vars.length d []=0:=by cases d<;>simp [setN]
        simp only [ecs,eas,← ib.1,← ib.2,← ie.1,← ie.2,cutL_nil,z1]
        simp
    have gen:∀ (l:List St1),(∀ s ∈ l,stmtOK p (d+1) s=true)→∀ a,(l.filterMap (cutS q p.vars.length (cutL q p.vars.length d))).filterMap (cutS q' p.vars.length (cutL q' p.vars.length d))=l.filterMap (cutS q' p.vars.length (cutL q' p.vars.length d)) ∧
        (l.filterMap (cutS q p.vars.length (cutL q p.vars.length d))).foldl (addS q' p.vars.length (cutL q' p.vars.length d) (setN q' p.vars.length d)) a=l.foldl (addS q' p.vars.length (cutL q' p.vars.length d) (setN q' p.vars.length d)) a:=fun l=>by
      induction l with
      | nil=>intro _ a;exact ⟨rfl,rfl⟩
      | cons s r ih =>
        intro hok a
        have h1:=hone s (hok s (by simp))
        have ih:=ih fun x hx=>hok x (by simp [hx])
        rw [List.filterMap_cons]
        cases hc:cutS q p.vars.length (cutL q p.vars.length d) s with
        | none =>
          rw [hc] at h1
          simp only at h1
          simp only [List.filterMap_cons,List.foldl_cons,h1.1]
          rw [addS_or,h1.2,Nat.or_zero]
          exact ih a
        | some s' =>
          rw [hc] at h1
          simp only at h1
          simp only [List.filterMap_cons,List.foldl_cons,h1.1]
          rw [addS_or _ _ _ _ a s',addS_or _ _ _ _ a s,h1.2]
          refine ⟨?_,(ih _).2⟩
          rw [(ih 0).1]
    simp only [cutL,setN]
    exact gen l hok 0
theorem Least.slice {p:Pg} {ws:List Bool} {q:Nat→Bool} (hok:∀ s ∈ p.body,stmtOK p 5 s=true) (h:Least p ws q):Least (slP p q) ws q:=by
  refine ⟨h.want,?_,fun q' h1 h2 i hi=>?_⟩
  · have:=(cut_cut (q:=q) (q':=q) (fun i h=>h) 5 p.body hok).2
    simp only [slP]
    rw [this]
    exact h.closed
  · have hle:leB (fun i=>q' i && q i) q:=fun i h=>by simp only [Bool.and_eq_true] at h;exact h.2
    have hle':leB (fun i=>q' i && q i) q':=fun i h=>by simp only [Bool.and_eq_true] at h;exact h.1
    have e:=(cut_cut hle 5 p.body hok).2
    simp only [slP] at h2
    have m1:=(cut_mono p.vars.length hle' 5 (cutL q p.vars.length 5 p.body)).2 q' h2
    rw [e] at m1
    have m2:=(cut_mono p.vars.length hle 5 p.body).2 q h.closed
    have:=h.least (fun i=>q' i && q i) (fun i hw=>by simp only [Bool.and_eq_true];exact ⟨h1 i hw,h.want i hw⟩) (fun i hb=>by simp only [Bool.and_eq_true];exact ⟨m1 i hb,m2 i hb⟩) i hi
    simp only [Bool.and_eq_true] at this
    exact this.1
end Go.Proofs.Ytlapccpnilomfaa.CtD
namespace Go.Proofs.Ytlapccpnilomfaa.CtF
variable [Go.CT.Yn]
end Go.Proofs.Ytlapccpnilomfaa.CtF
namespace Go.Proofs.Ytlapccpnilomfaa.CtR
variable [Go.CT.Yn]
open Go Go.CT CtF
def subL (a b:Nat):Bool:=a ||| b == b
open Go Go.CT CtF
open Go Go.CT CtF
end Go.Proofs.Ytlapccpnilomfaa.CtR
namespace Go.Proofs.Ytlapccpnilomfaa.CtF
end Go.Proofs.Ytlapccpnilomfaa.CtF
namespace Go.Proofs.Ytlapccpnilomfaa.CtR
end Go.Proofs.Ytlapccpnilomfaa.CtR
namespace Go.Proofs.Ytlapccpnilomfaa.CtR
open Go Go.CT CtF
variable [Yn]
theorem le3 {a:Nat} (h:a≤3):a=0∨a=1∨a=2∨a=3:=by omega
theorem subI (a b:Nat) (ha:a≤3) (hb:b≤3):decide (((a ||| b:Nat):Int)=(b:Int))=subL a b:=by
  rcases le3 ha with rfl | rfl | rfl | rfl<;>rcases le3 hb with rfl | rfl | rfl | rfl<;>decide
end Go.Proofs.Ytlapccpnilomfaa.CtR
namespace Go.Proofs.Ytlapccpnilomfaa.CtD
open Go Go.CT CtF CtR
variable [Yn]
end Go.Proofs.Ytlapccpnilomfaa.CtD
namespace Go.Proofs.Ytlapccpnilomfaa.CtR
variable [Go.CT.Yn]
open Go Go.CT CtF
open Go Go.CT CtF
end Go.Proofs.Ytlapccpnilomfaa.CtR
namespace Go.Proofs.Ytlapccpnilomfaa.CtD
open Go Go.CT CtF CtR
variable [Yn]
theorem pow14 {w x:Nat} (hw:w≤14) (h:x<2 ^ w):x<16384:=by
  have:2 ^ w≤2 ^ 14:=Nat.pow_le_pow_right (by omega) hw
  omega
theorem cellI (p:Pg) (hl:p.vars.length≤14) (n:Nat) (hn:n≤14):DC Try.prog 44 [.agg p.cells,DI .i64 (n:Int)] [] (fun r h=>r=DI .i64 ((p.vars.length+n:Nat):Int)∧h=[]):=by
  obtain ⟨vs,ar,bd⟩:=p
  have hl:vs.length≤14:=hl
  simp only
  have hmx:=mx_eq
  generalize hR:(fun (r:D) (h:List (Option (List C)))=>r=DI .i64 ((vs.length+n:Nat):Int)∧h=[])=R
  refine dcZ Try.func44 ?_
  simp only [go_sem]
  iterate 3 ((try (refine drvZ Try.func44 ?_;simp only [go_sem]));((with_reducible and_intros)<;>try exact sd);(try first | refine XK.gs (DB false) ?_))
  refine RetOb.plain (d:=DI .i64 _) ?_ rfl
  rw [← hR]
  exact ⟨by push_cast;rfl,rfl⟩
def bl (n N:Nat):List Bool:=(List.range n).map fun i=>N.testBit i
def rowsB (w:Nat) (S:List Nat):List (List C):=S.map fun N=>boolsC (bl w N)
theorem rowsB_len (w:Nat) (S:List Nat):(rowsB w S).length=S.length:=by simp [rowsB]
theorem rowsB_kf (w:Nat) (S:List Nat):∀ x ∈ rowsB w S,∀ c ∈ x,kf c=true:=fun x hx c hc=>by
  obtain ⟨N,_,rfl⟩:=List.mem_map.1 hx;exact boolsC_kf _ c hc
theorem fam_row {hp:Hp} {b w i:Nat} {S:List Nat} {row:List C} (hS:S.length≤32) (h:(rowsB w S)[i]? = some row):fam hp b (rowsB w S) (b+i)=some (some row):=by
  have:=(List.getElem?_eq_some_iff.1 h).1
  rw [rowsB_len] at this
  rw [fam_at (by omega),h];rfl
theorem SubH.rows {m : Nat} {r : Nat → Option Nat} {hl : List (Nat × Option (List C))} {hp : Hp} {b b' w : Nat} {S : List Nat} (hS : S.length ≤ 32) (hr : ∀ i, i < S.length → r (b + i) = some (b' + i))
    (hok:HpOK (fam (hOf hl) b (rowsB w S)) r (fam hp b' (rowsB w S)) [] hl) (hlow:LowOK r (fam (hOf hl) b (rowsB w S)) m) (hnd:((hl.filterMap fun p=>p.2.map fun _=>p.1).filterMap r).Nodup)
    (hdis:∀ p ∈ hl,∀ j,r p.1=some j→j<b'∨b' + 32≤j):SubH m r [] (fam (hOf hl) b (rowsB w S)) (fam hp b' (rowsB w S)):=by
  have hl0:=rowsB_len w S
  refine SubH.fam (fun n=>b' + n) (fun i hi=>hr i (by omega)) (fun i j hi hj h=>by omega) (fun i hi=>by simp) (fun i row hi=>fam_row hS hi) (rowsB_kf w S) hok hlow hnd ?_
  intro k j cs hm hj i hi e
  have:=hdis _ hm j hj
  omega
end Go.Proofs.Ytlapccpnilomfaa.CtD
namespace Go.Proofs.Ytlapccpnilomfaa.CtR
variable [Go.CT.Yn]
open Go Go.CT CtF
end Go.Proofs.Ytlapccpnilomfaa.CtR
namespace Go.Proofs.Ytlapccpnilomfaa.CtL
variable [Go.CT.Yn]
open Go Go.CT CtF CtR
open CtD (rel)
def e0:Ex := .mk 0 0 []
open Go Go.CT CtF CtR
open CtD (rel)
open Go Go.CT CtF CtR
open CtD (rel)
open Go Go.CT CtF CtR
open CtD (rel)
def Ext (p:Pg) (vs:List Int):Prop:=∃ w,vs=p.vars++w
theorem Ext.more {p:Pg} {vs ws:List Int} (h:Ext p vs) (h2:∃ w,ws=vs++w):Ext p ws:=by
  obtain ⟨a,rfl⟩:=h
  obtain ⟨b,rfl⟩:=h2
  exact ⟨a++b,by simp⟩
theorem Ext.le {p:Pg} {vs:List Int} (h:Ext p vs):p.vars.length≤vs.length:=by
  obtain ⟨a,rfl⟩:=h
  simp
open Go Go.CT CtF CtR
open CtD (rel)
open Go Go.CT CtF CtR
open CtD (rel)
def Sub (a b:Nat):Prop:=∀ β,a.testBit β=true→b.testBit β=true
theorem Sub.refl (a:Nat):Sub a a:=fun _ h=>h
theorem Sub.trans {a b c:Nat} (h:Sub a b) (g:Sub b c):Sub a c:=fun β x=>g β (h β x)
theorem Sub.zero (a:Nat):Sub 0 a:=fun β h=>by simp at h
theorem Sub.or {a b c:Nat}:Sub (a ||| b) c ↔ Sub a c∧Sub b c:=by
  constructor
  · exact fun h=>⟨fun β x=>h β (by simp [x]),fun β x=>h β (by simp [x])⟩
  · rintro ⟨h1,h2⟩ β x
    rw [Nat.testBit_or,Bool.or_eq_true] at x
    exact x.elim (h1 β) (h2 β)
theorem Sub.left (a b:Nat):Sub a (a ||| b):=fun β h=>by simp [h]
theorem Sub.right (a b:Nat):Sub b (a ||| b):=fun β h=>by simp [h]
theorem Sub.l {a b c:Nat} (h:Sub a b):Sub a (b ||| c):=h.trans (Sub.left _ _)
theorem Sub.r {a b c:Nat} (h:Sub a c):Sub a (b ||| c):=h.trans (Sub.right _ _)
open Go Go.CT CtF CtR
open CtD (rel)
open Go Go.CT CtF CtR
open CtD (rel)
open Go Go.CT CtF CtR
open CtD (rel)
open Go Go.CT CtF CtR
open Go Go.CT CtF CtR
structure In where
  op:Int
  a:Int
  b:Int
  c:Int
  d:Int
def halt:In:=⟨13,0,0,0,0⟩
def stp (X:List Ev):Nat:=X.countP fun e=>e.kind == 5
def At (C:List In) (b:Nat) (L:List In):Prop:=∃ pre post,C=pre++L++post∧pre.length=b
theorem At.left {C:List In} {b:Nat} {L R:List In} (h:At C b (L++R)):At C b L:=by
  obtain ⟨pre,post,rfl,hl⟩:=h
  exact ⟨pre,R++post,by simp,hl⟩
theorem At.right {C:List In} {b n:Nat} {L R:List In} (h:At C b (L++R)) (hn:L.length=n):At C (b+n) R:=by
  obtain ⟨pre,post,rfl,hl⟩:=h
  exact ⟨pre++L,post,by simp,by simp [hl,hn]⟩
theorem At.head {C:List In} {b:Nat} {x:In} {R:List In} (h:At C b (x :: R)):C[b]? = some x:=by
  obtain ⟨pre,post,rfl,hl⟩:=h
  subst hl;simp
open Go Go.CT CtF CtR
open Go Go.CT CtF CtR
open Go Go.CT CtF CtR
end Go.Proofs.Ytlapccpnilomfaa.CtL
namespace Go.Proofs.Ytlapccpnilomfaa.CtD
open Go Go.CT CtF CtR
variable [Yn]
open CtL (In)
open CtL (In)
end Go.Proofs.Ytlapccpnilomfaa.CtD
namespace Go.Proofs.Ytlapccpnilomfaa.CtL
variable [Go.CT.Yn]
open Go Go.CT CtF CtR
end Go.Proofs.Ytlapccpnilomfaa.CtL
namespace Go.Proofs.Ytlapccpnilomfaa.CtD
open Go Go.CT CtF CtR
variable [Yn]
mutual
def szE : Ex → Nat
  | .mk _ _ ks=>szEL ks
def szEL : List Ex → Nat
  | []=>0
  | e :: r=>(1+szE e)+szEL r
end
mutual
def szS : St1 → Nat
  | .mk _ _ ix v _ b e=>szE ix+szE v+szSL b+szSL e
def szSL : List St1 → Nat
  | []=>0
  | s :: r=>(1+szS s)+szSL r
end
theorem szEL_eq : ∀ l : List Ex, szEL l = (l.map fun e => 1 + szE e).sum
  | []=>rfl
  | e :: r=>by simp only [szEL,List.map_cons,List.sum_cons,szEL_eq r]
theorem szSL_eq : ∀ l : List St1, szSL l = (l.map fun e => 1 + szS e).sum
  | []=>rfl
  | e :: r=>by simp only [szSL,List.map_cons,List.sum_cons,szSL_eq r]
def szP (p:Pg):Nat:=p.vars.length+p.arrays.length+szSL p.body
def subZ (left:Int) (n:Nat):Int:=if (n:Int)≤left then left - n else -1
theorem sum_split {α : Type} (f : α → Nat) : ∀ l : List α, (l.map fun e => 1 + f e).sum = l.length + (l.map f).sum
  | []=>rfl
  | a :: r=>by simp only [List.map_cons,List.sum_cons,List.length_cons,sum_split f r];omega
theorem sum_take {α:Type} (f:α→Nat) {l:List α} {i:Nat} {x:α} (h:l[i]? = some x):((l.take (i+1)).map f).sum=((l.take i).map f).sum+f x∧((l.take i).map f).sum+f x≤(l.map f).sum:=by
  have hi:i<l.length:=(List.getElem?_eq_some_iff.1 h).1
  have hx:l[i]=x:=(List.getElem?_eq_some_iff.1 h).2
  have e:l.take (i+1)=l.take i++[x]:=by rw [List.take_succ_eq_append_getElem hi,hx]
  refine ⟨by rw [e];simp,?_⟩
  have e2:(l.map f).sum=((l.take (i+1)).map f).sum+((l.drop (i+1)).map f).sum:=by
    rw [← List.sum_append,← List.map_append,List.take_append_drop]
  rw [e2,e];simp
inductive ExB : Ex → Prop
  | mk (k v:Int) (ks:List Ex) (h:ks.length≤mx) (hk:∀ e ∈ ks,ExB e):ExB (.mk k v ks)
inductive StB : St1 → Prop
  | mk (k t:Int) (ix v:Ex) (c:Int) (b e:List St1) (h1:ExB ix) (h2:ExB v) (h3:b.length≤mx) (h4:e.length≤mx) (h5:∀ s ∈ b,StB s) (h6:∀ s ∈ e,StB s):StB (.mk k t ix v c b e)
structure PgB (p : Pg) : Prop where
  nv:p.vars.length≤mx
  na:p.arrays.length≤mx
  nb:p.body.length≤mx
  st:∀ s ∈ p.body,StB s
inductive ExN : Ex → Prop
  | mk (k v:Int) (ks:List Ex) (h:ks.length≤1048576) (hk:∀ e ∈ ks,ExN e):ExN (.mk k v ks)
inductive StN : St1 → Prop
  | mk (k t:Int) (ix v:Ex) (c:Int) (b e:List St1) (h1:ExN ix) (h2:ExN v) (h3:b.length≤1048576) (h4:e.length≤1048576) (h5:∀ s ∈ b,StN s) (h6:∀ s ∈ e,StN s):StN (.mk k t ix v c b e)
theorem mem_sum {α : Type} (f : α → Nat) : ∀ {l : List α} {x : α}, x ∈ l → f x + 1 ≤ (l.map fun e => 1 + f e).sum
  | a :: r,x,h=>by
    simp only [List.map_cons,List.sum_cons]
    rcases List.mem_cons.1 h with rfl | h
    · omega
    · have:=mem_sum f h;omega
theorem exN_of : ∀ (n : Nat) (e : Ex), SizeOf.sizeOf e ≤ n → szE e ≤ 1048576 → ExN e
  | 0,.mk k v ks,h,_=>by simp at h
  | n+1,.mk k v ks,h,hz=>by
    simp only [szE,szEL_eq] at hz
    have h1:=sum_split szE ks
    refine .mk k v ks (by omega) fun e he=>exN_of n e ?_ ?_
    · have:=List.sizeOf_lt_of_mem he
      simp only [Ex.mk.sizeOf_spec] at h;omega
    · have:=mem_sum szE he;omega
theorem stN_of : ∀ (n : Nat) (s : St1), SizeOf.sizeOf s ≤ n → szS s ≤ 1048576 → StN s
  | 0,.mk k t ix v c b e,h,_=>by simp at h
  | n+1,.mk k t ix v c b e,h,hz=>by
    simp only [szS,szSL_eq] at hz
    have h1:=sum_split szS b
    have h2:=sum_split szS e
    simp only [St1.mk.sizeOf_spec] at h
    refine .mk k t ix v c b e (exN_of _ ix (Nat.le_refl _) (by omega)) (exN_of _ v (Nat.le_refl _) (by omega)) (by omega) (by omega) (fun s hs=>stN_of n s ?_ ?_) (fun s hs=>stN_of n s ?_ ?_)
    · have:=List.sizeOf_lt_of_mem hs;omega
    · have:=mem_sum szS hs;omega
    · have:=List.sizeOf_lt_of_mem hs;omega
    · have:=mem_sum szS hs;omega
theorem put_at : ∀ (ds A B : List C), ds.length ≤ B.length → putCells (A ++ B) A.length ds = A ++ ds ++ B.drop ds.length
  | [],A,B,_=>by simp [putCells]
  | d :: r,A,[],h=>by simp at h
  | d :: r,A,b :: B,h=>by
    have e:(A++b :: B).set A.length d=(A++[d])++B:=by
      rw [List.set_append_right _ _ (Nat.le_refl _)];simp
    have ih:=put_at r (A++[d]) B (by simpa using h)
    simp only [putCells,e]
    rw [show A.length+1=(A++[d]).length by simp,ih]
    simp
theorem put_row {rows : List (List C)} {zs ds : List C} {m k i : Nat} (hz : zs.length = k) (hd : ds.length = k) (hr : (rows.flatten).length = i * k) :
    putCells (rows.flatten++(List.replicate (m+1) zs).flatten) (i * k) ds=(rows++[ds]).flatten++(List.replicate m zs).flatten:=by
  rw [← hr,put_at _ _ _ (by simp [List.replicate_succ,hz,hd])]
  simp [List.replicate_succ,hz,hd]
end Go.Proofs.Ytlapccpnilomfaa.CtD
