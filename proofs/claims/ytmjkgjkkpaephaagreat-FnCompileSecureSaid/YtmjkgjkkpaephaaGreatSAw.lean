/- Contracts of functions of the program, one behind the other, as plain data: what each call returns and which blocks it leaves. -/
import Derived.Test.YtmjkgjkkpaephaaGreatSFacts
import Derived.Test.YtmjkgjkkpaephaaGreatSAh
import Derived.Test.YtmjkgjkkpaephaaGreatSAj
import Derived.Test.YtmjkgjkkpaephaaGreatSAk
import Derived.Test.YtmjkgjkkpaephaaGreatSAl
import Derived.Test.YtmjkgjkkpaephaaGreatSAm
import Derived.Test.YtmjkgjkkpaephaaGreatSAn
import Derived.Test.YtmjkgjkkpaephaaGreatSAp
import Derived.Test.YtmjkgjkkpaephaaGreatSAq
import Derived.Test.YtmjkgjkkpaephaaGreatSAs
import Derived.Test.YtmjkgjkkpaephaaGreatSAt
import Derived.Test.YtmjkgjkkpaephaaGreatSAu
import Derived.Test.YtmjkgjkkpaephaaGreatSAv
set_option linter.unusedVariables false
set_option linter.unusedSimpArgs false
set_option maxHeartbeats 16000000
set_option maxRecDepth 100000
namespace Go.Proofs.YtmjkgjkkpaephaaGreat.CtL
open Go Go.CT CtF CtR
open CtD (rel rel_app rel_eval)
theorem Sub.or2 {a b c:Nat} (h:Sub a c) (g:Sub b c):Sub (a ||| b) c:=Sub.or.2 ⟨h,g⟩
def FnL (F ar:List Int) (c:Nat) (l:List St1):Prop:=∀ D c',Sub c' c→fineL (flowR F ar) F ar D c' l=true∧fineL (leakR F ar) F ar D c' l=true
theorem FnL.app {F ar:List Int} {c:Nat} {a b:List St1} (h:FnL F ar c a) (g:FnL F ar c b):FnL F ar c (a++b):=fun D c' hc=>by
  have h:=h D c' hc
  have g:=g D c' hc
  cases D with
  | zero=>exact ⟨rfl,rfl⟩
  | succ D =>
    simp only [fineL,List.all_append,Bool.and_eq_true] at h g ⊢
    exact ⟨⟨h.1,g.1⟩,h.2,g.2⟩
theorem FnL.nil {F ar:List Int} {c:Nat}:FnL F ar c []:=fun D c' hc=>by cases D<;>exact ⟨rfl,rfl⟩
theorem FnL.of {F ar : List Int} {c : Nat} : ∀ {l : List St1}, (∀ s ∈ l, Fn1 F ar c s) → FnL F ar c l
  | [],_=>FnL.nil
  | s :: r,h=>FnL.app (a:=[s]) (fun D c' hc=>by
      obtain ⟨h1,h2,h3,h4⟩:=h s (by simp)
      cases D with
      | zero=>exact ⟨rfl,rfl⟩
      | succ D =>
        have n1:∀ res c,fineL res F ar D c []=true:=fun res c=>by cases D<;>rfl
        simp [fineL,h1,h2,h4 c' hc,n1]) (FnL.of fun s hs=>h s (by simp [hs]))
theorem FnL.le {F ar:List Int} {a b:Nat} {l:List St1} (h:FnL F ar b l) (hs:Sub a b):FnL F ar a l:=fun D c hc=>h D c (hc.trans hs)
theorem FnL.rep {F ar:List Int} {c:Nat} {n:Int} {b:List St1} (h:FnL F ar c b):FnL F ar c [.mk 4 0 e0 e0 n b []]:=fun D c' hc=>by
  cases D with
  | zero=>exact ⟨rfl,rfl⟩
  | succ D =>
    have n1:∀ res c,fineL res F ar D c []=true:=fun res c=>by cases D<;>rfl
    have hs:secE F ar 5 e0=false:=rfl
    have:=h D c' hc
    simp [fineL,flowR,leakR,St1.kind,St1.body,St1.els,St1.value,ctxI,hs,n1,this]
theorem FnL.ife {F ar:List Int} {c l:Nat} {e:Ex} {b1 b2:List St1} (hs:secL (labN F ar 5 e)=false) (hl:Sub (labN F ar 5 e) l) (h2:secE F ar 5 e=false) (h:FnL F ar (c ||| l) b1) (g:FnL F ar (c ||| l) b2):FnL F ar c [.mk 3 0 e0 e 0 b1 b2]:=fun D c' hc=>by
  cases D with
  | zero=>exact ⟨rfl,rfl⟩
  | succ D =>
    have:=h D (c' ||| labN F ar 5 e) (Sub.or2 hc.l hl.r)
    have:=g D (c' ||| labN F ar 5 e) (Sub.or2 hc.l hl.r)
    simp [fineL,flowR,leakR,St1.kind,St1.body,St1.els,St1.value,ctxI,hs,h2, *]
theorem FnL.rls {F ar:List Int} {t:Int} {e:Ex} (h:trustL (labN F ar 5 e)=true) (h2:secE F ar 5 e=false):FnL F ar 0 [.mk 5 t e0 e 0 [] []]:=fun D c' hc=>by
  cases D with
  | zero=>exact ⟨rfl,rfl⟩
  | succ D =>
    have n1:∀ res c,fineL res F ar D c []=true:=fun res c=>by cases D<;>rfl
    have:c'=0:=Nat.eq_of_testBit_eq fun β=>by
      cases hx:c'.testBit β with
      | false=>simp
      | true=>exact absurd (hc β hx) (by simp)
    subst this
    simp [fineL,flowR,leakR,St1.kind,St1.body,St1.els,St1.value,h2,h,n1]
def MkL (p:Pg) (mk:Int) (vs:List Int) (pc:Nat):Prop:=mk<0∨p.vars.length≤mk∧mk<vs.length∧Sub (nth vs mk).toNat pc
theorem nth_more {vs ws:List Int} (h:∃ w,ws=vs++w) {v:Int} (h0:0≤v) (hv:v<vs.length):nth ws v=nth vs v:=by
  obtain ⟨w,rfl⟩:=h
  exact nth_app h0 hv
theorem MkL.more {p:Pg} {mk:Int} {vs ws:List Int} {pc pc2:Nat} (h:MkL p mk vs pc) (hl:∃ w,ws=vs++w) (hp:Sub pc pc2):MkL p mk ws pc2:=by
  rcases h with h | ⟨h1,h2,h3⟩
  · exact .inl h
  · refine .inr ⟨h1,by have:=more_le hl;omega,?_⟩
    rw [nth_more hl (by omega) h2];exact h3.trans hp
theorem MkL.sub {p:Pg} {mk:Int} {vs F:List Int} {pc:Nat} (h:MkL p mk vs pc) (hl:∃ w,F=vs++w):mk<0∨Sub (nth F mk).toNat pc:=by
  rcases h with h | ⟨h1,h2,h3⟩
  · exact .inl h
  · rw [nth_more hl (by omega) h2];exact .inr h3
theorem more_tr {a b c:List Int} (h:∃ w,b=a++w) (g:∃ w,c=b++w):∃ w,c=a++w:=by
  obtain ⟨x,rfl⟩:=h
  obtain ⟨y,rfl⟩:=g
  exact ⟨x++y,by simp⟩
theorem nth_lab1 {a b:List Int} {x y:Nat}:(nth (a++(lab1 x y++b)) (a.length:Int)).toNat=x ||| y:=by
  unfold lab1
  rw [nth_last]
  rfl
def SMore (p:Pg) (d:Nat):Prop:=∀ mk pc vs l,(∀ s ∈ l,stmtOK p d s=true)→p.vars.length≤vs.length→∃ w,(linB (linS p.arrays d mk pc) vs l).1=vs++w
theorem linB_more {p : Pg} {d : Nat} {f : List Int → St1 → List Int × List St1} : ∀ (l : List St1) (vs : List Int), (∀ s ∈ l, ∀ vs : List Int, p.vars.length ≤ vs.length → ∃ w, (f vs s).1 = vs ++ w) → p.vars.length ≤ vs.length → ∃ w, (linB f vs l).1 = vs ++ w
  | [],vs,_,_=>⟨[],by simp [linB]⟩
  | s :: r,vs,h,hl=>by
    obtain ⟨w1,e1⟩:=h s (by simp) vs hl
    obtain ⟨w2,e2⟩:=linB_more (p:=p) (d:=d) r (f vs s).1 (fun s hs=>h s (by simp [hs])) (by rw [e1];simp;omega)
    exact ⟨w1++w2,by simp only [linB];rw [e2,e1,List.append_assoc]⟩
theorem lin_more {p : Pg} : ∀ d, SMore p d
  | 0=>fun mk pc vs l hok hl=>by
    match l,hok with
    | [],_=>exact ⟨[],by simp [linB]⟩
    | s :: r,hok=>exact absurd (hok s (by simp)) (by simp [stmtOK])
  | d+1=>fun mk pc vs l hok hl=>linB_more (p:=p) (d:=d) l vs (fun s hs vs hl=>by
      have hso:=hok s hs
      obtain ⟨k,t,ix,v,c,b,e⟩:=s
      obtain ⟨hh,hb,he⟩:=stmtOK_succ hso
      obtain ⟨s1,s2⟩:=shapeV hso
      by_cases k4:k=4
      · subst k4;rw [linS_4];exact lin_more d mk pc vs b hb hl
      have hE:=(linE_ok (q:=⟨[],p.arrays,[]⟩) rfl pc 5 vs v (shape_mono (p:=p) (q:=⟨vs,p.arrays,[]⟩) hl rfl 5 v (s1 k4))).more
      generalize hEe:linE p.arrays pc 5 vs v=E at *
      have hEl:=more_le hE
      obtain ⟨w,ew⟩:=hE
      by_cases k3:k=3
      · subst k3
        rw [linS_3,hEe]
        unfold linI
        dsimp only
        split
        · obtain ⟨w1,e1⟩:=lin_more d (E.1.length:Int) (pc ||| labN vs p.arrays 5 v) (E.1++lab1 pc (labN vs p.arrays 5 v)++lab1 pc (labN vs p.arrays 5 v)) b hb (by simp;omega)
          simp only at e1 ⊢
          obtain ⟨w2,e2⟩:=lin_more d ((E.1.length+1:Nat):Int) (pc ||| labN vs p.arrays 5 v) _ e he (show p.vars.length≤(linB (linS p.arrays d (E.1.length:Int) (pc ||| labN vs p.arrays 5 v)) (E.1++lab1 pc (labN vs p.arrays 5 v)++lab1 pc (labN vs p.arrays 5 v)) b).1.length by rw [e1];simp;omega)
          rw [e2,e1,ew]
          exact ⟨w++lab1 pc (labN vs p.arrays 5 v)++lab1 pc (labN vs p.arrays 5 v)++w1++w2,by simp only [List.append_assoc]⟩
        · obtain ⟨w1,e1⟩:=lin_more d mk (pc ||| labN vs p.arrays 5 v) E.1 b hb (by omega)
          obtain ⟨w2,e2⟩:=lin_more d mk (pc ||| labN vs p.arrays 5 v) _ e he (show p.vars.length≤(linB (linS p.arrays d mk (pc ||| labN vs p.arrays 5 v)) E.1 b).1.length by rw [e1];simp;omega)
          simp only
          rw [e2,e1,ew]
          exact ⟨w++w1++w2,by simp only [List.append_assoc]⟩
      rw [linS_o k4 k3,hEe]
      unfold linO
      split
      · exact ⟨w,ew⟩
      · split
        · exact ⟨w,ew⟩
        · split
          · exact ⟨w++lab1 (labN E.1 p.arrays 5 E.2.2) pc,by simp only [ew,List.append_assoc]⟩
          · exact ⟨w,ew⟩) hl
theorem tyB_of {p : Pg} {F : List Int} {mk : Int} {pc : Nat} {f : List Int → St1 → List Int × List St1} :
    ∀ (l:List St1) (vs:List Int),Ext p vs→MkL p mk vs pc→(∃ w,F=(linB f vs l).1++w)→(∀ s ∈ l,∀ vs:List Int,p.vars.length≤vs.length→∃ w,(f vs s).1=vs++w) →
    (∀ s ∈ l,∀ vs,Ext p vs→MkL p mk vs pc→(∃ w,F=(f vs s).1++w)→FnL F p.arrays pc (f vs s).2)→FnL F p.arrays pc (linB f vs l).2
  | [],vs,_,_,_,_,_=>FnL.nil
  | s :: r,vs,hx,hmk,hF,hm,hS=>by
    have h1:=hm s (by simp) vs hx.le
    have hm2:=linB_more (p:=p) (d:=0) r (f vs s).1 (fun s hs=>hm s (by simp [hs])) (by have:=hx.le;have:=more_le h1;omega)
    simp only [linB] at hF ⊢
    exact FnL.app (hS s (by simp) vs hx hmk (more_tr hm2 hF)) (tyB_of r _ (hx.more h1) (hmk.more h1 (Sub.refl _)) hF (fun s hs=>hm s (by simp [hs])) fun s hs=>hS s (by simp [hs]))
theorem lin_more1 {p:Pg} {d:Nat} {mk:Int} {pc:Nat} {vs:List Int} {s:St1} (hs:stmtOK p (d+1) s=true) (hl:p.vars.length≤vs.length):∃ w,(linS p.arrays (d+1) mk pc vs s).1=vs++w:=by
  have:=lin_more (p:=p) (d+1) mk pc vs [s] (by simpa using hs) hl
  simpa [linB] using this
theorem tyS {p : Pg} {F : List Int} {d : Nat}
    (ih:∀ mk pc vs l,(∀ s ∈ l,stmtOK p d s=true)→Ext p vs→MkL p mk vs pc→fineL (flowR p.vars p.arrays) p.vars p.arrays d pc l=true→(∃ w,F=(linB (linS p.arrays d mk pc) vs l).1++w)→FnL F p.arrays pc (linB (linS p.arrays d mk pc) vs l).2)
    (mk:Int) (pc:Nat) (vs:List Int) (s:St1) (hs:stmtOK p (d+1) s=true) (hx:Ext p vs) (hmk:MkL p mk vs pc) (hf:flowR p.vars p.arrays s pc=0)
    (hfb:fineL (flowR p.vars p.arrays) p.vars p.arrays d (ctxI p.vars p.arrays s pc) s.body=true) (hfe:fineL (flowR p.vars p.arrays) p.vars p.arrays d (ctxI p.vars p.arrays s pc) s.els=true)
    (hF:∃ w,F=(linS p.arrays (d+1) mk pc vs s).1++w):FnL F p.arrays pc (linS p.arrays (d+1) mk pc vs s).2:=by
  obtain ⟨k,t,ix,v,c,b,e⟩:=s
  obtain ⟨hh,hb,he⟩:=stmtOK_succ hs
  have hkk:=head_kind hh
  obtain ⟨s1,s2⟩:=shapeV hs
  simp only [St1.body,St1.els] at hfb hfe
  have hxl:=hx.le
  by_cases k4:k=4
  · subst k4
    rw [linS_4] at hF ⊢
    exact FnL.rep (ih mk pc vs b hb hx hmk (by simpa [ctxI,St1.kind] using hfb) hF)
  have hsv:=s1 k4
  have hsv2:CtR.shape ⟨vs,p.arrays,[]⟩ 5 v=true:=shape_mono (p:=p) (q:=⟨vs,p.arrays,[]⟩) hxl rfl 5 v hsv
  have hlab:labN vs p.arrays 5 v=labN p.vars p.arrays 5 v:=by
    obtain ⟨w,rfl⟩:=hx
    exact labN_app (bd:=[]) 5 v (shape_mono (p:=p) (q:=⟨p.vars,p.arrays,[]⟩) (Nat.le_refl _) rfl 5 v hsv)
  have hEm:=(linE_ok (q:=⟨[],p.arrays,[]⟩) rfl pc 5 vs v hsv2).more
  have hty:=tyE (pc:=pc) 5 F vs v hsv2
  have hid:=lin_id (pc:=pc) 5 vs v hsv2
  rw [hlab] at hty
  have hmore:=lin_more1 (mk:=mk) (pc:=pc) (vs:=vs) hs hxl
  generalize hEe:linE p.arrays pc 5 vs v=E at *
  by_cases k3:k=3
  · subst k3
    have hctx:ctxI p.vars p.arrays (.mk 3 t ix v c b e) pc=pc ||| labN p.vars p.arrays 5 v:=by simp [ctxI,St1.kind,St1.value]
    rw [hctx] at hfb hfe
    rw [linS_3,hEe,hlab] at hF ⊢
    have hsl:=fun h=>secE_lab (vs:=vs) (ar:=p.arrays) 5 v h
    rw [hlab] at hsl
    generalize labN p.vars p.arrays 5 v=l at *
    unfold linI at hF ⊢
    dsimp only at hF ⊢
    by_cases hsec:secL l=true
    · rw [if_pos hsec] at hF ⊢
      simp only at hF ⊢
      have hx2:Ext p (E.1++lab1 pc l++lab1 pc l):=(hx.more hEm).more ⟨lab1 pc l++lab1 pc l,by simp⟩
      have hl2:(E.1++lab1 pc l++lab1 pc l).length=E.1.length+2:=by simp [lab1]
      have hEl:=more_le hEm
      have hv1:(nth (E.1++lab1 pc l++lab1 pc l) (E.1.length:Int)).toNat=pc ||| l:=by rw [List.append_assoc];exact nth_lab1
      have hv2:(nth (E.1++lab1 pc l++lab1 pc l) ((E.1.length+1:Nat):Int)).toNat=pc ||| l:=by
        have:=nth_lab1 (a:=E.1++lab1 pc l) (b:=[]) (x:=pc) (y:=l)
        simpa [lab1] using this
      have hm1:MkL p (E.1.length:Int) (E.1++lab1 pc l++lab1 pc l) (pc ||| l) := .inr ⟨by omega,by omega,by rw [hv1];exact Sub.refl _⟩
      have hm2:MkL p ((E.1.length+1:Nat):Int) (E.1++lab1 pc l++lab1 pc l) (pc ||| l) := .inr ⟨by omega,by omega,by rw [hv2];exact Sub.refl _⟩
      have hM1:=lin_more (p:=p) d (E.1.length:Int) (pc ||| l) (E.1++lab1 pc l++lab1 pc l) b hb hx2.le
      have hB1:=ih (E.1.length:Int) (pc ||| l) _ b hb hx2 hm1 hfb
      have hx3:=hx2.more hM1
      have hM2:=lin_more (p:=p) d ((E.1.length+1:Nat):Int) (pc ||| l) _ e he hx3.le
      have hB2:=ih ((E.1.length+1:Nat):Int) (pc ||| l) _ e he hx3 (hm2.more hM1 (Sub.refl _)) hfe hF
      have hF1:=more_tr hM2 hF
      have hB1:=hB1 hF1
      have hF2:=more_tr hM1 hF1
      have hF3:∃ w,F=E.1++w:=more_tr ⟨lab1 pc l++lab1 pc l,by simp⟩ hF2
      have hty:=hty hF3
      have hn1:(nth F (E.1.length:Int)).toNat=pc ||| l:=by rw [nth_more hF2 (by omega) (by omega),hv1]
      have hn2:(nth F ((E.1.length+1:Nat):Int)).toNat=pc ||| l:=by rw [nth_more hF2 (by omega) (by omega),hv2]
      have hmF:=(hmk.more hEm (Sub.refl _)).sub hF3
      have hmF2:mk<0∨Sub (nth F mk).toNat (pc ||| l):=hmF.imp id fun h=>h.l
      refine FnL.app (FnL.app (FnL.app (FnL.of hty.fin) (FnL.of fun s hs=>?_)) (hB1.le (Sub.left _ _))) (hB2.le (Sub.left _ _))
      simp only [maskS,List.mem_cons,List.not_mem_nil,or_false] at hs
      rcases hs with rfl | rfl
      · refine fn_asg ?_ (sec_mask hty.sec sec_c) (by rw [hn1];exact Sub.left _ _)
        rw [hn1]
        exact lab_mask hmF2 (fun D=>(hty.lab D).trans (Sub.or2 (Sub.right _ _) (Sub.left _ _))) fun D=>lab_c D
      · refine fn_asg ?_ (sec_mask (sec_b (by omega) sec_v sec_c) sec_c) (by rw [hn2];exact Sub.left _ _)
        rw [hn2]
        exact lab_mask hmF2 (lab_b (by omega) (fun D=>lab_v (by rw [hn1];exact Sub.refl _) D) fun D=>lab_c D) fun D=>lab_c D
    · rw [if_neg hsec] at hF ⊢
      simp only at hF ⊢
      have hid:=hid (hsl (by simpa using hsec))
      have hx2:Ext p E.1:=hx.more hEm
      have hm1:MkL p mk E.1 (pc ||| l):=hmk.more hEm (Sub.left _ _)
      have hM1:=lin_more (p:=p) d mk (pc ||| l) E.1 b hb hx2.le
      have hx3:=hx2.more hM1
      have hM2:=lin_more (p:=p) d mk (pc ||| l) _ e he hx3.le
      have hB2:=ih mk (pc ||| l) _ e he hx3 (hm1.more hM1 (Sub.refl _)) hfe hF
      have hF1:=more_tr hM2 hF
      have hB1:=ih mk (pc ||| l) _ b hb hx2 hm1 hfb hF1
      have hF3:=more_tr hM1 hF1
      have hty:=hty hF3
      have hl5:labN F p.arrays 5 E.2.2=l:=by
        have hFv:=more_tr hEm hF3
        obtain ⟨w,eF⟩:=hFv
        rw [hid,eF,labN_app (bd:=[]) 5 v hsv2,hlab]
      refine FnL.app (FnL.of hty.fin) (FnL.ife (by rw [hl5];simpa using hsec) (by rw [hl5];exact Sub.refl _) (hty.sec 5) hB1 hB2)
  rw [linS_o k4 k3,hEe] at hF ⊢
  by_cases k5:k=5
  · subst k5
    rw [linO_5] at hF ⊢
    have hr:=flow_rel hf rfl
    have hpc:=hr.1
    subst hpc
    have hty:=hty hF
    refine FnL.app (FnL.of hty.fin) (FnL.rls ?_ (hty.sec 5))
    have h1:=hr.2
    simp only [St1.value] at h1
    unfold trustL at h1 ⊢
    cases hx:(labN F p.arrays 5 E.2.2).testBit 1 with
    | false=>rfl
    | true =>
      have:=hty.lab 5 1 hx
      rw [Nat.or_zero] at this
      rw [this] at h1;exact h1
  by_cases k1:k=1
  · subst k1
    rw [linO_1] at hF ⊢
    have hty:=hty hF
    have ht:0≤t∧t<p.vars.length:=by omega
    have hfa:Sub (labN p.vars p.arrays 5 v ||| pc) (nth p.vars t).toNat:=by
      have:=sub_iff.1 (flow_assign hf rfl)
      simpa [St1.target,storedN,St1.kind,St1.value] using this
    have hFp:∃ w,F=p.vars++w:=more_tr hx (more_tr hEm hF)
    have hnt:nth F t=nth p.vars t:=nth_more hFp ht.1 ht.2
    obtain ⟨hf1,hf2⟩:=Sub.or.1 hfa
    have hmF:=(hmk.sub (more_tr hEm hF)).imp id fun h=>h.trans hf2
    refine FnL.app (FnL.of hty.fin) (FnL.of fun s hs=>?_)
    simp only [List.mem_singleton] at hs
    subst hs
    refine fn_asg ?_ (sec_mask hty.sec sec_v) (by rw [hnt];exact hf2)
    rw [hnt]
    exact lab_mask hmF (fun D=>(hty.lab D).trans (Sub.or2 hf1 hf2)) fun D=>lab_v (by rw [hnt];exact Sub.refl _) D
  have k2:k=2:=by omega
  subst k2
  have ht:0≤t∧t<p.arrays.length:=by omega
  have hsi:=s2 rfl
  have hai:atom ix=true:=by
    rcases hkk with h | h | h | h
    · omega
    · exact h.2.2.2.2.1
    · omega
    · omega
  have hfa:Sub (labN p.vars p.arrays 5 v ||| pc ||| labN p.vars p.arrays 5 ix) (nth p.arrays t).toNat:=by
    have:=sub_iff.1 (flow_store hf rfl)
    simpa [St1.target,storedN,St1.kind,St1.value,St1.index] using this
  obtain ⟨hf1,hf3⟩:=Sub.or.1 hfa
  obtain ⟨hf1,hf2⟩:=Sub.or.1 hf1
  have hsi2:CtR.shape ⟨p.vars,p.arrays,[]⟩ 5 ix=true:=shape_mono (p:=p) (q:=⟨p.vars,p.arrays,[]⟩) (Nat.le_refl _) rfl 5 ix hsi
  have hlix:labN E.1 p.arrays 5 ix=labN p.vars p.arrays 5 ix:=by
    obtain ⟨w,ew⟩:=hx.more hEm
    rw [ew];exact labN_app (bd:=[]) 5 ix hsi2
  rw [linO_2,hlix] at hF ⊢
  by_cases hsec:secL (labN p.vars p.arrays 5 ix)=true
  · rw [if_pos hsec] at hF ⊢
    simp only at hF ⊢
    have hF3:∃ w,F=E.1++w:=more_tr ⟨_,rfl⟩ hF
    have hty:=hty hF3
    have hFp:∃ w,F=p.vars++w:=more_tr hx (more_tr hEm hF3)
    obtain ⟨wp,eFp⟩:=hFp
    have hli:∀ D,Sub (labN F p.arrays D ix) (nth p.arrays t).toNat:=fun D=>(lab_atom eFp hsi2 hai D).trans hf3
    have hmF:=(hmk.sub (more_tr hEm hF3)).imp id fun h=>h.trans hf2
    have hnw:(nth F (E.1.length:Int)).toNat=labN E.1 p.arrays 5 E.2.2 ||| pc:=by
      obtain ⟨w,eF⟩:=hF
      rw [eF,List.append_assoc];exact nth_lab1
    have hle:Sub (labN E.1 p.arrays 5 E.2.2) (labN p.vars p.arrays 5 v ||| pc):=by
      have h5:=hty.lab 5
      have hsh:=(linE_ok (q:=⟨[],p.arrays,[]⟩) rfl pc 5 vs v hsv2).shp
      rw [hEe] at hsh
      obtain ⟨w,eF⟩:=hF3
      rw [eF,labN_app 5 _ hsh] at h5
      exact h5
    have hlw:∀ D,Sub (labN F p.arrays D E.2.2) (labN E.1 p.arrays 5 E.2.2 ||| pc):=fun D=>by
      have hsh:=(linE_ok (q:=⟨[],p.arrays,[]⟩) rfl pc 5 vs v hsv2).shp
      rw [hEe] at hsh
      obtain ⟨w,eF⟩:=hF3
      rw [← labN_app (more:=w) 5 _ hsh,← eF]
      have up:∀ (n D:Nat),D≤n→∀ e,Sub (labN F p.arrays D e) (labN F p.arrays n e):=by
        intro n
        induction n with
        | zero => intro D h e; have : D = 0 := by omega
                  subst this;exact Sub.refl _
        | succ n ihn =>
          intro D h e
          match D,e with
          | 0,e=>exact Sub.zero _
          | D+1,.mk k v ks =>
            refine labN_sub.2 ⟨(labN_sub.1 (Sub.refl _)).1,fun x hx=>(ihn D (by omega) x).trans ((labN_sub.1 (Sub.refl _)).2 x hx)⟩
      have dn:∀ (d D:Nat) (e:Ex),CtR.shape ⟨E.1,p.arrays,[]⟩ d e=true→Sub (labN F p.arrays D e) (labN F p.arrays d e):=by
        intro d
        induction d with
        | zero=>intro D e h;simp [CtR.shape] at h
        | succ d ihd =>
          intro D e h
          match D,e,h with
          | 0,e,h=>exact Sub.zero _
          | D+1,.mk k v ks,h =>
            obtain ⟨g1,g2,g3⟩:=shape_succ h
            exact labN_sub.2 ⟨(labN_sub.1 (Sub.refl _)).1,fun x hx=>(ihd D x (g2 x hx)).trans ((labN_sub.1 (Sub.refl _)).2 x hx)⟩
      exact (dn 5 D _ hsh).l
    refine FnL.app (FnL.of hty.fin) (FnL.app (a:=[_]) (FnL.of fun s hs=>?_) (FnL.of fun s hs=>?_))
    · simp only [List.mem_singleton] at hs
      subst hs
      exact fn_asg (by rw [hnw];exact hlw) hty.sec (by rw [hnw];exact Sub.right _ _)
    · have one:∀ k:Nat,Fn1 F p.arrays pc (stoN mk E.1.length t ix k):=fun k=>by
        refine fn_sto ?_ (sec_sel (sec_mask (sec_hit (sec_atom hsi2 hai)) sec_c) sec_v sec_rdc) hf2 (fun D=>lab_c D) fun D=>?_
        · refine lab_sel (lab_mask hmF (lab_hit hli) fun D=>lab_c D) (fun D=>lab_v ?_ D) (lab_rd (Sub.refl _) fun D=>lab_c D)
          rw [hnw]
          exact Sub.or2 (hle.trans (Sub.or2 hf1 hf2)) hf2
        · have:Sub (labN F p.arrays D (cE k)) 0:=lab_c D
          cases h:secL (labN F p.arrays D (cE k)) with
          | false=>rfl
          | true=>exact absurd (this 0 h) (by simp)
      simp only [stoS,List.mem_cons,List.not_mem_nil,or_false] at hs
      rcases hs with rfl | rfl | rfl | rfl<;>exact one _
  · rw [if_neg hsec] at hF ⊢
    simp only at hF ⊢
    have hty:=hty hF
    have hFp:∃ w,F=p.vars++w:=more_tr hx (more_tr hEm hF)
    obtain ⟨wp,eFp⟩:=hFp
    have hla:=lab_atom eFp hsi2 hai
    have hli:∀ D,Sub (labN F p.arrays D ix) (nth p.arrays t).toNat:=fun D=>(hla D).trans hf3
    have hls:∀ D,secL (labN F p.arrays D ix)=false:=fun D=>by
      cases h:secL (labN F p.arrays D ix) with
      | false=>rfl
      | true=>exact absurd (hla D 0 h) (by simpa [secL] using hsec)
    have hmF:=(hmk.sub (more_tr hEm hF)).imp id fun h=>h.trans hf2
    refine FnL.app (FnL.of hty.fin) (FnL.of fun s hs=>?_)
    simp only [List.mem_singleton] at hs
    subst hs
    exact fn_sto (lab_mask hmF (fun D=>(hty.lab D).trans (Sub.or2 hf1 hf2)) (lab_rd (Sub.refl _) hli)) (sec_mask hty.sec (sec_rd hls (sec_atom hsi2 hai))) hf2 hli hls
theorem tyB {p:Pg} {F:List Int}:∀ (d:Nat),∀ mk pc vs l,(∀ s ∈ l,stmtOK p d s=true)→Ext p vs→MkL p mk vs pc→fineL (flowR p.vars p.arrays) p.vars p.arrays d pc l=true →
    (∃ w,F=(linB (linS p.arrays d mk pc) vs l).1++w)→FnL F p.arrays pc (linB (linS p.arrays d mk pc) vs l).2
  | 0,mk,pc,vs,l,hok,hx,hmk,hf,hF=>by
    match l,hok with
    | [],_=>exact FnL.nil
    | s :: r,hok=>exact absurd (hok s (by simp)) (by simp [stmtOK])
  | d+1,mk,pc,vs,l,hok,hx,hmk,hf,hF=>by
    simp only [fineL,List.all_eq_true,Bool.and_eq_true,beq_iff_eq] at hf
    exact tyB_of l vs hx hmk hF (fun s hs vs hl=>lin_more1 (hok s hs) hl) fun s hs vs hx hmk hF=>tyS (fun mk pc vs l=>tyB d mk pc vs l) mk pc vs s (hok s hs) hx hmk (hf s hs).1.1 (hf s hs).1.2 (hf s hs).2 hF
theorem none0_e0 {e:Ex} (h:none0 e=true):e=e0:=by
  obtain ⟨k,v,ks⟩:=e
  simp only [none0,Ex.kind,Ex.value,Ex.kids,Bool.and_eq_true,beq_iff_eq,List.isEmpty_iff] at h
  obtain ⟨⟨rfl,rfl⟩,rfl⟩:=h
  rfl
theorem head_parts {p : Pg} {k t : Int} {ix v : Ex} {c : Int} {b e : List St1} (h : headOK p k t ix v c b.length e.length = true) :
    (k=4→e=[]∧ix=e0∧v=e0)∧(k ≠ 4→c=0∧(k ≠ 2→ix=e0))∧(k ≠ 3→k ≠ 4→b=[]∧e=[])∧(k=3∨k=4→t=0):=by
  simp only [headOK,parts,blk,Bool.and_eq_true] at h
  obtain ⟨⟨h1,h2⟩,_⟩:=h
  refine ⟨fun hk=>?_,fun hk=>?_,fun h3 h4=>?_,fun hk=>?_⟩
  · rw [if_pos hk] at h2
    simp only [Bool.and_eq_true,beq_iff_eq] at h2
    exact ⟨List.length_eq_zero_iff.1 (by omega),none0_e0 h2.1.2,none0_e0 h2.2⟩
  · rw [if_neg hk] at h2
    simp only [Bool.and_eq_true,beq_iff_eq,Bool.or_eq_true] at h2
    exact ⟨h2.1,fun h=>none0_e0 (h2.2.resolve_left h)⟩
  · have e1:(k == 3)=false:=by simpa using h3
    have e2:(k == 4)=false:=by simpa using h4
    have:b.length=0∧e.length=0:=by
      cases b<;>cases e<;>simp_all
    exact ⟨List.length_eq_zero_iff.1 this.1,List.length_eq_zero_iff.1 this.2⟩
  · have:(k == 3 || k == 4)=true:=by rcases hk with rfl | rfl<;>rfl
    rw [this] at h1
    simpa using h1
theorem linB_app {f : List Int → St1 → List Int × List St1} : ∀ (a b : List St1) (vs : List Int), linB f vs (a ++ b) = ((linB f (linB f vs a).1 b).1, (linB f vs a).2 ++ (linB f (linB f vs a).1 b).2)
  | [],b,vs=>by simp [linB]
  | s :: r,b,vs=>by simp only [List.cons_append,linB,linB_app r b,List.append_assoc]
def Bd (p:Pg) (e:Ex):Prop:=∃ D,CtR.shape p D e=true
theorem Bd.mono {p q:Pg} {e:Ex} (h:Bd p e) (h1:p.vars.length≤q.vars.length) (h2:p.arrays.length=q.arrays.length):Bd q e:=by
  obtain ⟨D,hD⟩:=h
  exact ⟨D,shape_mono h1 h2 D e hD⟩
theorem shape_le {p : Pg} {e : Ex} : ∀ {d D : Nat}, d ≤ D → CtR.shape p d e = true → CtR.shape p D e = true
  | d,0,h,hs=>by
    have:d=0:=by omega
    subst this;exact hs
  | d,D+1,h,hs=>by
    by_cases e1:d=D+1
    · subst e1;exact hs
    · exact shape_up D e (shape_le (by omega) hs)
theorem Bd.c {p:Pg} {n:Int} (h:0≤n∧n≤255):Bd p (cE n):=⟨1,shape_of (fitsE_true rfl h.1 (by simp [limit];omega)) (by simp) (by simp)⟩
theorem Bd.v {p:Pg} {n:Int} (h:0≤n∧n<p.vars.length):Bd p (vE n):=⟨1,shape_of (fitsE_true rfl h.1 (by simp [limit];omega)) (by simp) (by simp)⟩
theorem Bd.sel {p:Pg} {a b c:Ex} (ha:Bd p a) (hb:Bd p b) (hc:Bd p c):Bd p (selE a b c):=by
  obtain ⟨A,hA⟩:=ha
  obtain ⟨B,hB⟩:=hb
  obtain ⟨C,hC⟩:=hc
  refine ⟨A+B+C+1,shape_of (fitsE_true rfl (by omega) (by simp [limit])) (fun x hx=>?_) (by simp)⟩
  simp at hx
  rcases hx with rfl | rfl | rfl
  · exact shape_le (by omega) hA
  · exact shape_le (by omega) hB
  · exact shape_le (by omega) hC
theorem Bd.b {p:Pg} {k:Int} {a b:Ex} (hk:k=7∨k=9) (ha:Bd p a) (hb:Bd p b):Bd p (bE k a b):=by
  obtain ⟨A,hA⟩:=ha
  obtain ⟨B,hB⟩:=hb
  refine ⟨A+B+1,shape_of (by rcases hk with rfl | rfl<;>exact fitsE_true rfl (by omega) (by simp [limit])) (fun x hx=>?_) (by omega)⟩
  simp at hx
  rcases hx with rfl | rfl
  · exact shape_le (by omega) hA
  · exact shape_le (by omega) hB
theorem Bd.rd {p:Pg} {t:Int} {a:Ex} (ht:0≤t∧t<p.arrays.length) (ha:Bd p a) (hat:atom a=true):Bd p (rdE t a):=by
  obtain ⟨A,hA⟩:=ha
  refine ⟨A+1,shape_of (fitsE_true rfl ht.1 (by simp [limit];omega)) (fun x hx=>?_) (fun _=>hat)⟩
  simp at hx
  subst hx;exact hA
theorem Bd.hit {p:Pg} {a:Ex} {k:Int} (ha:Bd p a) (hk:0≤k∧k≤255):Bd p (hitE a k):=Bd.b (.inr rfl) (Bd.b (.inl rfl) ha (Bd.c (by omega))) (Bd.c hk)
theorem Bd.mask {p:Pg} {mk:Int} {e f:Ex} (hm:mk<p.vars.length) (he:Bd p e) (hf:Bd p f):Bd p (maskE mk e f):=by
  unfold maskE
  by_cases h:mk<0
  · rw [if_pos h];exact he
  · rw [if_neg h];exact Bd.sel (Bd.v ⟨by omega,hm⟩) he hf
def BdS (p : Pg) : Nat → St1 → Prop
  | 0,_=>True
  | d+1,.mk k t ix v c b e=>(k=1∨k=5→t<p.vars.length)∧(k ≠ 4→Bd p v)∧(k=2→Bd p ix)∧(∀ s ∈ b,BdS p d s)∧(∀ s ∈ e,BdS p d s)∧(k ≠ 2→ix=e0)∧(k=4→v=e0)
theorem BdS.mono {p q : Pg} (h1 : p.vars.length ≤ q.vars.length) (h2 : p.arrays.length = q.arrays.length) : ∀ (d : Nat) (s : St1), BdS p d s → BdS q d s
  | 0,_,_=>trivial
  | d+1,.mk k t ix v c b e,h=>by
    obtain ⟨a1,a2,a3,a4,a5,a6,a7⟩:=h
    exact ⟨fun h=>by have:=a1 h;omega,fun h=>(a2 h).mono h1 h2,fun h=>(a3 h).mono h1 h2,fun s hs=>BdS.mono h1 h2 d s (a4 s hs),fun s hs=>BdS.mono h1 h2 d s (a5 s hs),a6,a7⟩
abbrev PV (vs ar:List Int):Pg:=⟨vs,ar,[]⟩
theorem bd_asg {p : Pg} {w : Int} {e : Ex} (hw : w < p.vars.length) (he : Bd p e) : ∀ D, BdS p D (asg w e)
  | 0=>trivial
  | D+1=>⟨fun _=>hw,fun _=>he,by omega,by simp,by simp,fun _=>rfl,by omega⟩
theorem bd_sto {p : Pg} {t : Int} {i e : Ex} (hi : Bd p i) (he : Bd p e) : ∀ D, BdS p D (sto t i e)
  | 0=>trivial
  | D+1=>⟨by omega,fun _=>he,fun _=>hi,by simp,by simp,fun h=>absurd rfl h,by omega⟩
theorem bdK {ar:List Int} {pc d:Nat} (hE:∀ vs e,CtR.shape ⟨vs,ar,[]⟩ d e=true→∀ s ∈ (linE ar pc d vs e).2.1,∀ D,BdS (PV (linE ar pc d vs e).1 ar) D s):∀ (ks:List Ex) (vs:List Int),(∀ x ∈ ks,CtR.shape ⟨vs,ar,[]⟩ d x=true) →
    ∀ s ∈ (linK (linE ar pc d) vs ks).2.1,∀ D,BdS (PV (linK (linE ar pc d) vs ks).1 ar) D s
  | [],vs,_,s,hs=>by simp [linK] at hs
  | e :: r,vs,h,s,hs=>by
    have h1:=linE_ok (q:=⟨[],ar,[]⟩) rfl pc d vs e (h e (by simp))
    have hle1:=more_le h1.more
    have hsr:∀ x ∈ r,CtR.shape ⟨(linE ar pc d vs e).1,ar,[]⟩ d x=true:=fun x hx=>shape_mono (p:=⟨vs,ar,[]⟩) (q:=⟨(linE ar pc d vs e).1,ar,[]⟩) hle1 rfl d x (h x (by simp [hx]))
    have h2:=linK_ok (q:=⟨[],ar,[]⟩) r _ hsr fun vs e hs=>linE_ok (ar:=ar) (q:=⟨[],ar,[]⟩) rfl pc d vs e hs
    have hle2:=more_le h2.more
    simp only [linK,List.mem_append] at hs ⊢
    intro D
    rcases hs with hs | hs
    · exact BdS.mono (p:=PV (linE ar pc d vs e).1 ar) (q:=PV (linK (linE ar pc d) (linE ar pc d vs e).1 r).1 ar) hle2 rfl D s (hE vs e (h e (by simp)) s hs D)
    · exact bdK hE r _ hsr s hs D
theorem bdE {ar : List Int} {pc : Nat} : ∀ (d : Nat) (vs : List Int) (e : Ex), CtR.shape ⟨vs, ar, []⟩ d e = true → ∀ s ∈ (linE ar pc d vs e).2.1, ∀ D, BdS (PV (linE ar pc d vs e).1 ar) D s
  | 0,vs,e,h=>by simp [CtR.shape] at h
  | d+1,vs,.mk k v ks,h=>by
    by_cases k3:k=3
    · subst k3
      obtain ⟨a,rfl,hs,ha,hv0,hv1⟩:=read_kid h
      rw [lin_read hs ha]
      split
      · intro s hs2 D
        have hw:(vs.length:Int)<(PV (vs++lab1 (labN vs ar (d+1) (.mk 3 v [a])) pc) ar).vars.length:=by simp [lab1];omega
        simp only at hs2 ⊢
        have hba:Bd (PV (vs++lab1 (labN vs ar (d+1) (.mk 3 v [a])) pc) ar) a:=Bd.mono (p:=⟨vs,ar,[]⟩) ⟨d,hs⟩ (by simp) rfl
        have hc:∀ n:Nat,n<4→Bd (PV (vs++lab1 (labN vs ar (d+1) (.mk 3 v [a])) pc) ar) (cE n):=fun n hn=>Bd.c (by omega)
        have hrc:∀ n:Nat,n<4→Bd (PV (vs++lab1 (labN vs ar (d+1) (.mk 3 v [a])) pc) ar) (rdE v (cE n)):=fun n hn=>Bd.rd ⟨hv0,hv1⟩ (hc n hn) rfl
        have one:∀ n:Nat,n<4→BdS (PV (vs++lab1 (labN vs ar (d+1) (.mk 3 v [a])) pc) ar) D (readN vs.length v a n):=fun n hn=>bd_asg hw (Bd.sel (Bd.hit hba (by omega)) (hrc n hn) (Bd.v ⟨by omega,hw⟩)) D
        simp only [readS,List.mem_cons,List.not_mem_nil,or_false] at hs2
        rcases hs2 with rfl | rfl | rfl | rfl
        · exact bd_asg hw (hrc 0 (by omega)) D
        · exact one 1 (by omega)
        · exact one 2 (by omega)
        · exact one 3 (by omega)
      · intro s hs2;simp at hs2
    · obtain ⟨g1,g2,g3⟩:=shape_succ h
      have he:linE ar pc (d+1) vs (.mk k v ks)=((linK (linE ar pc d) vs ks).1,(linK (linE ar pc d) vs ks).2.1,.mk k v (linK (linE ar pc d) vs ks).2.2):=by
        rw [linE,if_neg (fun h=>k3 h.1)]
      rw [he]
      exact bdK (fun vs e hs=>bdE d vs e hs) ks vs g2
theorem bdB_of {p:Pg} {mk:Int} {f:List Int→St1→List Int × List St1}:∀ (l:List St1) (vs:List Int),p.vars.length≤vs.length→mk<vs.length→(∀ s ∈ l,∀ vs:List Int,p.vars.length≤vs.length→∃ w,(f vs s).1=vs++w) →
    (∀ s ∈ l,∀ vs:List Int,p.vars.length≤vs.length→mk<vs.length→∀ s2 ∈ (f vs s).2,∀ D,BdS (PV (f vs s).1 p.arrays) D s2)→∀ s ∈ (linB f vs l).2,∀ D,BdS (PV (linB f vs l).1 p.arrays) D s
  | [],vs,_,_,_,_,s,hs=>by simp [linB] at hs
  | a :: r,vs,hl,hmk,hm,hS,s,hs=>by
    have h1:=more_le (hm a (by simp) vs hl)
    have h2:=more_le (linB_more (p:=p) (d:=0) r (f vs a).1 (fun s hs=>hm s (by simp [hs])) (by omega))
    simp only [linB,List.mem_append] at hs ⊢
    intro D
    rcases hs with hs | hs
    · exact BdS.mono (p:=PV (f vs a).1 p.arrays) (q:=PV (linB f (f vs a).1 r).1 p.arrays) h2 rfl D s (hS a (by simp) vs hl hmk s hs D)
    · exact bdB_of r _ (by omega) (by omega) (fun s hs=>hm s (by simp [hs])) (fun s hs=>hS s (by simp [hs])) s hs D
theorem bdB {p : Pg} : ∀ (d : Nat) (mk : Int) (pc : Nat) (vs : List Int) (l : List St1), (∀ s ∈ l, stmtOK p d s = true) → p.vars.length ≤ vs.length → mk < vs.length → ∀ s ∈ (linB (linS p.arrays d mk pc) vs l).2, ∀ D, BdS (PV (linB (linS p.arrays d mk pc) vs l).1 p.arrays) D s
  | 0,mk,pc,vs,l,hok,hl,hmk=>by
    match l,hok with
    | [],_=>simp [linB]
    | s :: r,hok=>exact absurd (hok s (by simp)) (by simp [stmtOK])
  | d+1,mk,pc,vs,l,hok,hl,hmk=>bdB_of l vs hl hmk (fun s hs vs hl=>lin_more1 (hok s hs) hl) fun s hs vs hl hmk=>by
    have hso:=hok s hs
    have hmore:=lin_more1 (mk:=mk) (pc:=pc) hso hl
    obtain ⟨k,t,ix,v,c,b,e⟩:=s
    obtain ⟨hh,hb,he⟩:=stmtOK_succ hso
    obtain ⟨s1,s2⟩:=shapeV hso
    have hkk:=head_kind hh
    by_cases k4:k=4
    · subst k4
      have ih:=bdB d mk pc vs b hb hl hmk
      rw [linS_4]
      intro s hs D
      simp only [List.mem_singleton] at hs
      subst hs
      cases D with
      | zero=>trivial
      | succ D=>exact ⟨by omega,fun h=>absurd rfl h,by omega,fun s hs=>ih s hs D,by simp,fun _=>rfl,fun _=>rfl⟩
    have hsv2:=shape_mono (p:=p) (q:=⟨vs,p.arrays,[]⟩) hl rfl 5 v (s1 k4)
    have hE:=linE_ok (q:=⟨[],p.arrays,[]⟩) rfl pc 5 vs v hsv2
    have hbE:=bdE (pc:=pc) 5 vs v hsv2
    generalize hEe:linE p.arrays pc 5 vs v=E at *
    have hEl:=more_le hE.more
    have hbe:Bd (PV E.1 p.arrays) E.2.2:=⟨5,hE.shp⟩
    by_cases k3:k=3
    · subst k3
      rw [linS_3,hEe] at hmore ⊢
      generalize labN vs p.arrays 5 v=l at *
      unfold linI at hmore ⊢
      dsimp only at hmore ⊢
      split
      · rename_i hsec
        rw [if_pos hsec] at hmore
        have hl2:(E.1++lab1 pc l++lab1 pc l).length=E.1.length+2:=by simp [lab1]
        have b1:=bdB d (E.1.length:Int) (pc ||| l) (E.1++lab1 pc l++lab1 pc l) b hb (by omega) (by omega)
        have m1:=more_le (lin_more (p:=p) d (E.1.length:Int) (pc ||| l) (E.1++lab1 pc l++lab1 pc l) b hb (by omega))
        have b2:=bdB d ((E.1.length+1:Nat):Int) (pc ||| l) _ e he (show p.vars.length≤(linB (linS p.arrays d (E.1.length:Int) (pc ||| l)) (E.1++lab1 pc l++lab1 pc l) b).1.length by omega) (by omega)
        have m2:=more_le (lin_more (p:=p) d ((E.1.length+1:Nat):Int) (pc ||| l) _ e he (show p.vars.length≤(linB (linS p.arrays d (E.1.length:Int) (pc ||| l)) (E.1++lab1 pc l++lab1 pc l) b).1.length by omega))
        generalize linB (linS p.arrays d (E.1.length:Int) (pc ||| l)) (E.1++lab1 pc l++lab1 pc l) b=B1 at *
        generalize linB (linS p.arrays d ((E.1.length+1:Nat):Int) (pc ||| l)) B1.1 e=B2 at *
        intro s hs D
        simp only [List.mem_append] at hs
        simp only
        have hbe2:Bd (PV B2.1 p.arrays) E.2.2:=hbe.mono (show E.1.length≤B2.1.length by omega) rfl
        have hmk2:mk<(PV B2.1 p.arrays).vars.length:=show mk<(B2.1.length:Int) by omega
        have hw1:(E.1.length:Int)<(PV B2.1 p.arrays).vars.length:=show (E.1.length:Int)<(B2.1.length:Int) by omega
        have hw2:((E.1.length+1:Nat):Int)<(PV B2.1 p.arrays).vars.length:=show ((E.1.length+1:Nat):Int)<(B2.1.length:Int) by omega
        rcases hs with ((hs | hs) | hs) | hs
        · exact BdS.mono (p:=PV E.1 p.arrays) (q:=PV B2.1 p.arrays) (show E.1.length≤B2.1.length by omega) rfl D s (hbE s hs D)
        · simp only [maskS,List.mem_cons,List.not_mem_nil,or_false] at hs
          rcases hs with rfl | rfl
          · exact bd_asg hw1 (Bd.mask hmk2 hbe2 (Bd.c (by omega))) D
          · exact bd_asg hw2 (Bd.mask hmk2 (Bd.b (.inr rfl) (Bd.v ⟨by omega,hw1⟩) (Bd.c (by omega))) (Bd.c (by omega))) D
        · exact BdS.mono (p:=PV B1.1 p.arrays) (q:=PV B2.1 p.arrays) m2 rfl D s (b1 s hs D)
        · exact b2 s hs D
      · rename_i hsec
        have b1:=bdB d mk (pc ||| l) E.1 b hb (by omega) (by omega)
        have m1:=more_le (lin_more (p:=p) d mk (pc ||| l) E.1 b hb (by omega))
        have b2:=bdB d mk (pc ||| l) _ e he (show p.vars.length≤(linB (linS p.arrays d mk (pc ||| l)) E.1 b).1.length by omega) (by omega)
        have m2:=more_le (lin_more (p:=p) d mk (pc ||| l) _ e he (show p.vars.length≤(linB (linS p.arrays d mk (pc ||| l)) E.1 b).1.length by omega))
        generalize linB (linS p.arrays d mk (pc ||| l)) E.1 b=B1 at *
        generalize linB (linS p.arrays d mk (pc ||| l)) B1.1 e=B2 at *
        intro s hs D
        simp only [List.mem_append,List.mem_singleton] at hs
        simp only
        rcases hs with hs | rfl
        · exact BdS.mono (p:=PV E.1 p.arrays) (q:=PV B2.1 p.arrays) (show E.1.length≤B2.1.length by omega) rfl D s (hbE s hs D)
        · cases D with
          | zero=>trivial
          | succ D=>exact ⟨by omega,fun _=>hbe.mono (show E.1.length≤B2.1.length by omega) rfl,by omega,fun s hs=>BdS.mono (p:=PV B1.1 p.arrays) (q:=PV B2.1 p.arrays) m2 rfl D s (b1 s hs D),fun s hs=>b2 s hs D,fun _=>rfl,by omega⟩
    rw [linS_o k4 k3,hEe] at hmore ⊢
    by_cases k5:k=5
    · subst k5
      rw [linO_5] at hmore ⊢
      have ht:0≤t∧t<p.vars.length:=by omega
      intro s hs D
      simp only [List.mem_append,List.mem_singleton] at hs
      rcases hs with hs | rfl
      · exact hbE s hs D
      · cases D with
        | zero=>trivial
        | succ D=>exact ⟨fun _=>show t<(E.1.length:Int) by omega,fun _=>hbe,by omega,by simp,by simp,fun _=>rfl,by omega⟩
    by_cases k1:k=1
    · subst k1
      rw [linO_1] at hmore ⊢
      have ht:0≤t∧t<p.vars.length:=by omega
      have ht2:t<(PV E.1 p.arrays).vars.length:=show t<(E.1.length:Int) by omega
      intro s hs D
      simp only [List.mem_append,List.mem_singleton] at hs
      rcases hs with hs | rfl
      · exact hbE s hs D
      · exact bd_asg ht2 (Bd.mask (show mk<(E.1.length:Int) by omega) hbe (Bd.v ⟨ht.1,ht2⟩)) D
    have k2:k=2:=by omega
    subst k2
    rw [linO_2] at hmore ⊢
    have ht:0≤t∧t<p.arrays.length:=by omega
    have hai:atom ix=true:=by
      rcases hkk with h | h | h | h
      · omega
      · exact h.2.2.2.2.1
      · omega
      · omega
    have hbi:Bd (PV E.1 p.arrays) ix:=Bd.mono (p:=p) ⟨5,s2 rfl⟩ (show p.vars.length≤E.1.length by omega) rfl
    split
    · intro s hs D
      simp only [List.mem_append,List.mem_cons] at hs
      simp only
      generalize labN E.1 p.arrays 5 E.2.2=lw at *
      have hlw:(PV (E.1++lab1 lw pc) p.arrays).vars.length=E.1.length+1:=by simp [lab1]
      have hbe2:Bd (PV (E.1++lab1 lw pc) p.arrays) E.2.2:=hbe.mono (show E.1.length≤_ by omega) rfl
      have hbi2:Bd (PV (E.1++lab1 lw pc) p.arrays) ix:=hbi.mono (show E.1.length≤_ by omega) rfl
      have hw:(E.1.length:Int)<(PV (E.1++lab1 lw pc) p.arrays).vars.length:=by omega
      have one:∀ n:Nat,n<4→BdS (PV (E.1++lab1 lw pc) p.arrays) D (stoN mk E.1.length t ix n):=fun n hn =>
        bd_sto (Bd.c (by omega)) (Bd.sel (Bd.mask (by omega) (Bd.hit hbi2 (by omega)) (Bd.c (by omega))) (Bd.v ⟨by omega,hw⟩) (Bd.rd ht (Bd.c (by omega)) rfl)) D
      rcases hs with hs | rfl | hs
      · exact BdS.mono (p:=PV E.1 p.arrays) (q:=PV (E.1++lab1 lw pc) p.arrays) (show E.1.length≤_ by simp [lab1]) rfl D s (hbE s hs D)
      · exact bd_asg hw hbe2 D
      · simp only [stoS,List.mem_cons,List.not_mem_nil,or_false] at hs
        rcases hs with rfl | rfl | rfl | rfl
        · exact one 0 (by omega)
        · exact one 1 (by omega)
        · exact one 2 (by omega)
        · exact one 3 (by omega)
    · intro s hs D
      simp only [List.mem_append,List.mem_singleton] at hs
      rcases hs with hs | rfl
      · exact hbE s hs D
      · exact bd_sto hbi (Bd.mask (show mk<(E.1.length:Int) by omega) hbe (Bd.rd ht hbi hai)) D
def extM (n:Nat) (m:Mm):Mm:=⟨m.vals++List.replicate (n - m.vals.length) 0,m.arrays⟩
def resM (n:Nat) (m:Mm):Mm:=⟨m.vals.take n,m.arrays⟩
def extOK (p q:Pg):Bool:=progOK p && progOK q && decide ((p.vars.length:Int)≤q.vars.length) && decide (p.vars=q.vars.take p.vars.length) && decide (p.arrays=q.arrays)
def extP (p q:Pg) (m:Mm):Mm × Bool:=if extOK p q && memOK p.vars p.arrays m then (extM q.vars.length m,true) else (⟨[],[]⟩,false)
def resP (p q:Pg) (m:Mm):Mm × Bool:=if extOK p q && memOK q.vars q.arrays m then (resM p.vars.length m,true) else (⟨[],[]⟩,false)
theorem fineP_ok {res:List Int→List Int→St1→Nat→Int} {p:Pg} (h:fineP res p=true):progOK p=true∧fineL (res p.vars p.arrays) p.vars p.arrays 5 0 p.body=true:=by
  simpa only [fineP,Bool.and_eq_true] using h
theorem linQ_more {p:Pg} (hok:progOK p=true):∃ w,(linQ p).vars=p.vars++w:=lin_more 5 (-1) 0 p.vars p.body (body_of hok).1 (Nat.le_refl _)
theorem linQ_ext {p:Pg} (hok:progOK p=true) (hq:progOK (linQ p)=true):extOK p (linQ p)=true:=by
  obtain ⟨w,hw⟩:=linQ_more hok
  simp only [extOK,hok,hq,Bool.and_eq_true,decide_eq_true_eq,true_and,hw,List.take_left',List.length_append]
  exact ⟨⟨by omega,trivial⟩,rfl⟩
theorem extM_fits {p q:Pg} {m:Mm} (hm:MemFits p m) (hq:progOK q=true) (he:extOK p q=true):MemFits q (extM q.vars.length m):=by
  simp only [extOK,Bool.and_eq_true,decide_eq_true_eq] at he
  obtain ⟨⟨⟨_,h1⟩,h2⟩,h3⟩:=he
  have hl:=prog_len2 hq
  refine ⟨?_,by rw [← h3];exact hm.na,⟨hl.1,hl.2.1⟩,hl.2.2,fun x hx=>?_,hm.arr⟩
  · simp only [extM,List.length_append,List.length_replicate]
    have:=hm.nv
    omega
  · rcases List.mem_append.1 hx with h | h
    · exact hm.val x h
    · rw [(List.mem_replicate.1 h).2];omega
theorem extM_agr {p:Pg} {m:Mm} (hm:MemFits p m) (n:Nat):Agr p.vars.length m (extM n m):=⟨rfl,fun i hi=>by
  simp only [extM]
  rw [List.getElem?_append_left (by rw [hm.nv];exact hi)]⟩
theorem resM_of {p q:Pg} {m m':Mm} (hm:MemFits p m) (hm':MemFits q m') (h:Agr p.vars.length m m'):resM p.vars.length m'=m:=by
  obtain ⟨va,ar⟩:=m
  obtain ⟨va',ar'⟩:=m'
  have h1:=h.ar
  have h2:=h.va
  have h3:=hm.nv
  simp only at h1 h2 h3
  subst h1
  simp only [resM]
  congr 1
  apply List.ext_getElem?
  intro i
  rw [List.getElem?_take]
  split
  · rename_i hi;exact (h2 i hi).symm
  · rw [List.getElem?_eq_none (by omega)]
theorem lin_sim {p : Pg} {m : Mm} (hf : fineP flowR p = true) (hq : progOK (linQ p) = true) (hm : memOK p.vars p.arrays m = true) :
    Sim p.vars.length p.vars.length (runL 5 m p.body) (extM (linQ p).vars.length m) (runL 5 (extM (linQ p).vars.length m) (linQ p).body)∧MemFits p m∧MemFits (linQ p) (extM (linQ p).vars.length m):=by
  obtain ⟨hok,hfl⟩:=fineP_ok hf
  have hmf:=memFits_of (p:=p) (m:=m) (by rw [hok,hm];rfl)
  have hme:=extM_fits hmf hq (linQ_ext hok hq)
  have h:=linB_ok (p:=p) (q:=linQ p) rfl 5 5 (Nat.le_refl _) (-1) 0 p.vars p.body (body_of hok).1 ⟨[],by simp⟩ (.inl (by omega)) hfl
  have:=h.run m _ (body_of hq).1 hme hmf (Nat.le_refl _) (extM_agr hmf _)
  rw [show act (-1) (extM (linQ p).vars.length m)=true from rfl] at this
  exact ⟨this,hmf,hme⟩
theorem lin_run {p : Pg} {m : Mm} (hf : fineP flowR p = true) (hq : progOK (linQ p) = true) (hm : memOK p.vars p.arrays m = true) :
    memOK (linQ p).vars (linQ p).arrays (extM (linQ p).vars.length m)=true∧extP p (linQ p) m=(extM (linQ p).vars.length m,true) ∧
    runP (linQ p) (extM (linQ p).vars.length m)=((runL 5 (extM (linQ p).vars.length m) (linQ p).body).1,(runL 5 (extM (linQ p).vars.length m) (linQ p).body).2,true) ∧
    resP p (linQ p) (runL 5 (extM (linQ p).vars.length m) (linQ p).body).1=((runL 5 m p.body).1,true)∧rel (runL 5 m p.body).2=rel (runL 5 (extM (linQ p).vars.length m) (linQ p).body).2:=by
  obtain ⟨hs,hmf,hme⟩:=lin_sim hf hq hm
  obtain ⟨hok,hfl⟩:=fineP_ok hf
  have he:=linQ_ext hok hq
  have hmo:=memOK_of hme
  have hout:=(runL_ok hme (body_of hq).1).1
  refine ⟨hmo,?_,runP_of hq hmo,?_,hs.re⟩
  · unfold extP;rw [if_pos (by rw [he,hm];rfl)]
  · unfold resP
    rw [if_pos (by rw [he,memOK_of hout];rfl)]
    rw [resM_of (runL_ok hmf (body_of hok).1).1 hout hs.ag]
theorem lin_ct {p:Pg} (hf:fineP flowR p=true) (hq:progOK (linQ p)=true):fineP flowR (linQ p)=true∧fineP leakR (linQ p)=true:=by
  obtain ⟨hok,hfl⟩:=fineP_ok hf
  have h:=tyB (p:=p) (F:=(linQ p).vars) 5 (-1) 0 p.vars p.body (body_of hok).1 ⟨[],by simp⟩ (.inl (by omega)) hfl ⟨[],by simp [linQ]⟩ 5 0 (Sub.refl _)
  simp only [fineP,hq,Bool.true_and]
  exact h
theorem LowM.ext {p q:Pg} {a b:Mm} (h:LowM 0 p a b) (ha:MemFits p a) (hb:MemFits p b) (he:extOK p q=true):LowM 0 q (extM q.vars.length a) (extM q.vars.length b):=by
  simp only [extOK,Bool.and_eq_true,decide_eq_true_eq] at he
  obtain ⟨⟨⟨_,h1⟩,h2⟩,h3⟩:=he
  have e1:=ha.nv
  have e2:=hb.nv
  refine ⟨by simp [extM,e1,e2],h.la,fun i x hx hb=>?_,fun i x hx=>h.arr i x (by rw [h3];exact hx)⟩
  simp only [extM]
  by_cases hi:i<p.vars.length
  · rw [List.getElem?_append_left (by omega),List.getElem?_append_left (by omega)]
    refine h.val i x ?_ hb
    rw [h2,List.getElem?_take,if_pos hi];exact hx
  · rw [List.getElem?_append_right (by omega),List.getElem?_append_right (by omega),e1,e2]
theorem rel_none {l:List Ev} (h:∀ x ∈ l,x.kind ≠ 4):rel l=[]:=by
  unfold rel
  rw [List.filter_eq_nil_iff]
  intro x hx
  simpa using h x hx
theorem lin_trace {p : Pg} {a b : Mm} (hf : fineP flowR p = true) (hq : progOK (linQ p) = true) (ha : memOK p.vars p.arrays a = true) (hb : memOK p.vars p.arrays b = true) (hr : freeP p = true) (hl : LowM 0 p a b) :
    (runL 5 (extM (linQ p).vars.length a) (linQ p).body).2=(runL 5 (extM (linQ p).vars.length b) (linQ p).body).2:=by
  obtain ⟨hs,hmf,hme⟩:=lin_sim hf hq ha
  obtain ⟨_,hmf2,hme2⟩:=lin_sim hf hq hb
  obtain ⟨hok,_⟩:=fineP_ok hf
  obtain ⟨h1,h2⟩:=lin_ct hf hq
  have hfr:freeL 5 p.body=true:=by
    simp only [freeP,Bool.and_eq_true] at hr
    exact hr.2
  have hre:rel (runL 5 a p.body).2=[]:=rel_none (free_ev 5 p.body hfr a)
  have hre2:=hs.re
  rw [hre] at hre2
  rcases run_ct (p:=linQ p) 5 0 (linQ p).body (body_of hq).1 (fineP_ok h1).2 (fineP_ok h2).2 _ _ (LowM.ext hl hmf hmf2 (linQ_ext hok hq)) with h | ⟨pre,v,v',r,r',_,e,_⟩
  · exact h.2
  · have:rel (runL 5 (extM (linQ p).vars.length a) (linQ p).body).2=rel (pre++⟨4,v⟩ :: r):=by rw [← e];rfl
    rw [this,rel_app] at hre2
    simp [rel] at hre2
end Go.Proofs.YtmjkgjkkpaephaaGreat.CtL
