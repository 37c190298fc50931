/- Contracts of functions of the program, one behind the other, as plain data: what each call returns and which blocks it leaves. -/
import Derived.Test.YtoakidkcppinpaaGreatDFacts
import Derived.Test.YtoakidkcppinpaaGreatDAi
import Derived.Test.YtoakidkcppinpaaGreatDAl
import Derived.Test.YtoakidkcppinpaaGreatDAm
import Derived.Test.YtoakidkcppinpaaGreatDAn
import Derived.Test.YtoakidkcppinpaaGreatDAo
import Derived.Test.YtoakidkcppinpaaGreatDAq
import Derived.Test.YtoakidkcppinpaaGreatDAs
import Derived.Test.YtoakidkcppinpaaGreatDAt
import Derived.Test.YtoakidkcppinpaaGreatDAr
import Derived.Test.YtoakidkcppinpaaGreatDAp
set_option linter.unusedVariables false
set_option linter.unusedSimpArgs false
set_option linter.unusedSectionVars false
set_option maxHeartbeats 16000000
set_option maxRecDepth 100000
namespace Go.Proofs.YtoakidkcppinpaaGreat.CtL
variable [Go.CT.Yn]
open Go Go.CT CtF CtR
theorem none0_e0 {e:Ex} (h:none0 e=true):e=e0:=by
  obtain ⟨k,v,ks⟩:=e
  simp only [none0,Ex.kind,Ex.value,Ex.kids,Bool.and_eq_true,beq_iff_eq,List.isEmpty_iff] at h
  obtain ⟨⟨rfl,rfl⟩,rfl⟩:=h
  rfl
theorem head_parts {p : Pg} {k t : Int} {ix v : Ex} {c : Int} {b e : List St1} (h : headOK p k t ix v c b.length e.length = true) :
    (k=4→e=[]∧ix=e0∧v=e0)∧(k ≠ 4→c=0∧(k ≠ 2→ix=e0))∧(k ≠ 3→k ≠ 4→b=[]∧e=[])∧(k=3∨k=4→t=0):=by
  simp only [headOK,parts,blk,Bool.and_eq_true] at h
  obtain ⟨⟨h1,h2⟩,_⟩:=h
  refine ⟨fun hk=>?_,fun hk=>?_,fun h3 h4=>?_,fun hk=>?_⟩
  · rw [if_pos hk] at h2
    simp only [Bool.and_eq_true,beq_iff_eq] at h2
    exact ⟨List.length_eq_zero_iff.1 (by omega),none0_e0 h2.1.2,none0_e0 h2.2⟩
  · rw [if_neg hk] at h2
    simp only [Bool.and_eq_true,beq_iff_eq,Bool.or_eq_true] at h2
    exact ⟨h2.1,fun h=>none0_e0 (h2.2.resolve_left h)⟩
  · have e1:(k == 3)=false:=by simpa using h3
    have e2:(k == 4)=false:=by simpa using h4
    have:b.length=0∧e.length=0:=by
      cases b<;>cases e<;>simp_all
    exact ⟨List.length_eq_zero_iff.1 this.1,List.length_eq_zero_iff.1 this.2⟩
  · have:(k == 3 || k == 4)=true:=by rcases hk with rfl | rfl<;>rfl
    rw [this] at h1
    simpa using h1
theorem linB_app {f : List Int → St1 → List Int × List St1} : ∀ (a b : List St1) (vs : List Int), linB f vs (a ++ b) = ((linB f (linB f vs a).1 b).1, (linB f vs a).2 ++ (linB f (linB f vs a).1 b).2)
  | [],b,vs=>by simp [linB]
  | s :: r,b,vs=>by simp only [List.cons_append,linB,linB_app r b,List.append_assoc]
def Bd (p:Pg) (e:Ex):Prop:=∃ D,CtR.shape p D e=true
theorem Bd.mono {p q:Pg} {e:Ex} (h:Bd p e) (h1:p.vars.length≤q.vars.length) (h2:p.arrays.length=q.arrays.length):Bd q e:=by
  obtain ⟨D,hD⟩:=h
  exact ⟨D,shape_mono h1 h2 D e hD⟩
theorem shape_le {p : Pg} {e : Ex} : ∀ {d D : Nat}, d ≤ D → CtR.shape p d e = true → CtR.shape p D e = true
  | d,0,h,hs=>by
    have:d=0:=by omega
    subst this;exact hs
  | d,D+1,h,hs=>by
    by_cases e1:d=D+1
    · subst e1;exact hs
    · exact shape_up D e (shape_le (by omega) hs)
theorem Bd.c {p:Pg} {n:Int} (h:0≤n∧n≤255):Bd p (cE n):=⟨1,shape_of (fitsE_true rfl h.1 (by simp [limit];omega)) (by simp) (by simp)⟩
theorem Bd.v {p:Pg} {n:Int} (h:0≤n∧n<p.vars.length):Bd p (vE n):=⟨1,shape_of (fitsE_true rfl h.1 (by simp [limit];omega)) (by simp) (by simp)⟩
theorem Bd.sel {p:Pg} {a b c:Ex} (ha:Bd p a) (hb:Bd p b) (hc:Bd p c):Bd p (selE a b c):=by
  obtain ⟨A,hA⟩:=ha
  obtain ⟨B,hB⟩:=hb
  obtain ⟨C,hC⟩:=hc
  refine ⟨A+B+C+1,shape_of (fitsE_true rfl (by omega) (by simp [limit])) (fun x hx=>?_) (by simp)⟩
  simp at hx
  rcases hx with rfl | rfl | rfl
  · exact shape_le (by omega) hA
  · exact shape_le (by omega) hB
  · exact shape_le (by omega) hC
theorem Bd.b {p:Pg} {k:Int} {a b:Ex} (hk:k=7∨k=9) (ha:Bd p a) (hb:Bd p b):Bd p (bE k a b):=by
  obtain ⟨A,hA⟩:=ha
  obtain ⟨B,hB⟩:=hb
  refine ⟨A+B+1,shape_of (by rcases hk with rfl | rfl<;>exact fitsE_true rfl (by omega) (by simp [limit])) (fun x hx=>?_) (by omega)⟩
  simp at hx
  rcases hx with rfl | rfl
  · exact shape_le (by omega) hA
  · exact shape_le (by omega) hB
theorem Bd.rd {p:Pg} {t:Int} {a:Ex} (ht:0≤t∧t<p.arrays.length) (ha:Bd p a) (hat:atom a=true):Bd p (rdE t a):=by
  obtain ⟨A,hA⟩:=ha
  refine ⟨A+1,shape_of (fitsE_true rfl ht.1 (by simp [limit];omega)) (fun x hx=>?_) (fun _=>hat)⟩
  simp at hx
  subst hx;exact hA
theorem Bd.hit {p:Pg} {a:Ex} {k:Int} (ha:Bd p a) (hk:0≤k∧k≤255):Bd p (hitE a k):=Bd.b (.inr rfl) (Bd.b (.inl rfl) ha (Bd.c (by omega))) (Bd.c hk)
theorem Bd.mask {p:Pg} {mk:Int} {e f:Ex} (hm:mk<p.vars.length) (he:Bd p e) (hf:Bd p f):Bd p (maskE mk e f):=by
  unfold maskE
  by_cases h:mk<0
  · rw [if_pos h];exact he
  · rw [if_neg h];exact Bd.sel (Bd.v ⟨by omega,hm⟩) he hf
def BdS (p : Pg) : Nat → St1 → Prop
  | 0,_=>True
  | d+1,.mk k t ix v c b e=>(k=1∨k=5→t<p.vars.length)∧(k ≠ 4→Bd p v)∧(k=2→Bd p ix)∧(∀ s ∈ b,BdS p d s)∧(∀ s ∈ e,BdS p d s)∧(k ≠ 2→ix=e0)∧(k=4→v=e0)
theorem BdS.mono {p q : Pg} (h1 : p.vars.length ≤ q.vars.length) (h2 : p.arrays.length = q.arrays.length) : ∀ (d : Nat) (s : St1), BdS p d s → BdS q d s
  | 0,_,_=>trivial
  | d+1,.mk k t ix v c b e,h=>by
    obtain ⟨a1,a2,a3,a4,a5,a6,a7⟩:=h
    exact ⟨fun h=>by have:=a1 h;omega,fun h=>(a2 h).mono h1 h2,fun h=>(a3 h).mono h1 h2,fun s hs=>BdS.mono h1 h2 d s (a4 s hs),fun s hs=>BdS.mono h1 h2 d s (a5 s hs),a6,a7⟩
abbrev PV (vs ar:List Int):Pg:=⟨vs,ar,[]⟩
theorem bd_asg {p : Pg} {w : Int} {e : Ex} (hw : w < p.vars.length) (he : Bd p e) : ∀ D, BdS p D (asg w e)
  | 0=>trivial
  | D+1=>⟨fun _=>hw,fun _=>he,by omega,by simp,by simp,fun _=>rfl,by omega⟩
theorem bd_sto {p : Pg} {t : Int} {i e : Ex} (hi : Bd p i) (he : Bd p e) : ∀ D, BdS p D (sto t i e)
  | 0=>trivial
  | D+1=>⟨by omega,fun _=>he,fun _=>hi,by simp,by simp,fun h=>absurd rfl h,by omega⟩
theorem bdK {ar:List Int} {pc d:Nat} (hE:∀ vs e,CtR.shape ⟨vs,ar,[]⟩ d e=true→∀ s ∈ (linE ar pc d vs e).2.1,∀ D,BdS (PV (linE ar pc d vs e).1 ar) D s):∀ (ks:List Ex) (vs:List Int),(∀ x ∈ ks,CtR.shape ⟨vs,ar,[]⟩ d x=true) →
    ∀ s ∈ (linK (linE ar pc d) vs ks).2.1,∀ D,BdS (PV (linK (linE ar pc d) vs ks).1 ar) D s
  | [],vs,_,s,hs=>by simp [linK] at hs
  | e :: r,vs,h,s,hs=>by
    have h1:=linE_ok (q:=⟨[],ar,[]⟩) rfl pc d vs e (h e (by simp))
    have hle1:=more_le h1.more
    have hsr:∀ x ∈ r,CtR.shape ⟨(linE ar pc d vs e).1,ar,[]⟩ d x=true:=fun x hx=>shape_mono (p:=⟨vs,ar,[]⟩) (q:=⟨(linE ar pc d vs e).1,ar,[]⟩) hle1 rfl d x (h x (by simp [hx]))
    have h2:=linK_ok (q:=⟨[],ar,[]⟩) r _ hsr fun vs e hs=>linE_ok (ar:=ar) (q:=⟨[],ar,[]⟩) rfl pc d vs e hs
    have hle2:=more_le h2.more
    simp only [linK,List.mem_append] at hs ⊢
    intro D
    rcases hs with hs | hs
    · exact BdS.mono (p:=PV (linE ar pc d vs e).1 ar) (q:=PV (linK (linE ar pc d) (linE ar pc d vs e).1 r).1 ar) hle2 rfl D s (hE vs e (h e (by simp)) s hs D)
    · exact bdK hE r _ hsr s hs D
theorem bdE {ar : List Int} {pc : Nat} : ∀ (d : Nat) (vs : List Int) (e : Ex), CtR.shape ⟨vs, ar, []⟩ d e = true → ∀ s ∈ (linE ar pc d vs e).2.1, ∀ D, BdS (PV (linE ar pc d vs e).1 ar) D s
  | 0,vs,e,h=>by simp [CtR.shape] at h
  | d+1,vs,.mk k v ks,h=>by
    by_cases k3:k=3
    · subst k3
      obtain ⟨a,rfl,hs,ha,hv0,hv1⟩:=read_kid h
      rw [lin_read hs ha]
      split
      · intro s hs2 D
        have hw:(vs.length:Int)<(PV (vs++lab1 (labN vs ar (d+1) (.mk 3 v [a])) pc) ar).vars.length:=by simp [lab1];omega
        simp only at hs2 ⊢
        have hba:Bd (PV (vs++lab1 (labN vs ar (d+1) (.mk 3 v [a])) pc) ar) a:=Bd.mono (p:=⟨vs,ar,[]⟩) ⟨d,hs⟩ (by simp) rfl
        have hc:∀ n:Nat,n<4→Bd (PV (vs++lab1 (labN vs ar (d+1) (.mk 3 v [a])) pc) ar) (cE n):=fun n hn=>Bd.c (by omega)
        have hrc:∀ n:Nat,n<4→Bd (PV (vs++lab1 (labN vs ar (d+1) (.mk 3 v [a])) pc) ar) (rdE v (cE n)):=fun n hn=>Bd.rd ⟨hv0,hv1⟩ (hc n hn) rfl
        have one:∀ n:Nat,n<4→BdS (PV (vs++lab1 (labN vs ar (d+1) (.mk 3 v [a])) pc) ar) D (readN vs.length v a n):=fun n hn=>bd_asg hw (Bd.sel (Bd.hit hba (by omega)) (hrc n hn) (Bd.v ⟨by omega,hw⟩)) D
        simp only [readS,List.mem_cons,List.not_mem_nil,or_false] at hs2
        rcases hs2 with rfl | rfl | rfl | rfl
        · exact bd_asg hw (hrc 0 (by omega)) D
        · exact one 1 (by omega)
        · exact one 2 (by omega)
        · exact one 3 (by omega)
      · intro s hs2;simp at hs2
    · obtain ⟨g1,g2,g3⟩:=shape_succ h
      have he:linE ar pc (d+1) vs (.mk k v ks)=((linK (linE ar pc d) vs ks).1,(linK (linE ar pc d) vs ks).2.1,.mk k v (linK (linE ar pc d) vs ks).2.2):=by
        rw [linE,if_neg (fun h=>k3 h.1)]
      rw [he]
      exact bdK (fun vs e hs=>bdE d vs e hs) ks vs g2
theorem bdB_of {p:Pg} {mk:Int} {f:List Int→St1→List Int × List St1}:∀ (l:List St1) (vs:List Int),p.vars.length≤vs.length→mk<vs.length→(∀ s ∈ l,∀ vs:List Int,p.vars.length≤vs.length→∃ w,(f vs s).1=vs++w) →
    (∀ s ∈ l,∀ vs:List Int,p.vars.length≤vs.length→mk<vs.length→∀ s2 ∈ (f vs s).2,∀ D,BdS (PV (f vs s).1 p.arrays) D s2)→∀ s ∈ (linB f vs l).2,∀ D,BdS (PV (linB f vs l).1 p.arrays) D s
  | [],vs,_,_,_,_,s,hs=>by simp [linB] at hs
  | a :: r,vs,hl,hmk,hm,hS,s,hs=>by
    have h1:=more_le (hm a (by simp) vs hl)
    have h2:=more_le (linB_more (p:=p) (d:=0) r (f vs a).1 (fun s hs=>hm s (by simp [hs])) (by omega))
    simp only [linB,List.mem_append] at hs ⊢
    intro D
    rcases hs with hs | hs
    · exact BdS.mono (p:=PV (f vs a).1 p.arrays) (q:=PV (linB f (f vs a).1 r).1 p.arrays) h2 rfl D s (hS a (by simp) vs hl hmk s hs D)
    · exact bdB_of r _ (by omega) (by omega) (fun s hs=>hm s (by simp [hs])) (fun s hs=>hS s (by simp [hs])) s hs D
theorem bdB {p : Pg} : ∀ (d : Nat) (mk : Int) (pc : Nat) (vs : List Int) (l : List St1), (∀ s ∈ l, stmtOK p d s = true) → p.vars.length ≤ vs.length → mk < vs.length → ∀ s ∈ (linB (linS p.arrays d mk pc) vs l).2, ∀ D, BdS (PV (linB (linS p.arrays d mk pc) vs l).1 p.arrays) D s
  | 0,mk,pc,vs,l,hok,hl,hmk=>by
    match l,hok with
    | [],_=>simp [linB]
    | s :: r,hok=>exact absurd (hok s (by simp)) (by simp [stmtOK])
  | d+1,mk,pc,vs,l,hok,hl,hmk=>bdB_of l vs hl hmk (fun s hs vs hl=>lin_more1 (hok s hs) hl) fun s hs vs hl hmk=>by
    have hso:=hok s hs
    have hmore:=lin_more1 (mk:=mk) (pc:=pc) hso hl
    obtain ⟨k,t,ix,v,c,b,e⟩:=s
    obtain ⟨hh,hb,he⟩:=stmtOK_succ hso
    obtain ⟨s1,s2⟩:=shapeV hso
    have hkk:=head_kind hh
    by_cases k4:k=4
    · subst k4
      have ih:=bdB d mk pc vs b hb hl hmk
      rw [linS_4]
      intro s hs D
      simp only [List.mem_singleton] at hs
      subst hs
      cases D with
      | zero=>trivial
      | succ D=>exact ⟨by omega,fun h=>absurd rfl h,by omega,fun s hs=>ih s hs D,by simp,fun _=>rfl,fun _=>rfl⟩
    have hsv2:=shape_mono (p:=p) (q:=⟨vs,p.arrays,[]⟩) hl rfl 5 v (s1 k4)
    have hE:=linE_ok (q:=⟨[],p.arrays,[]⟩) rfl pc 5 vs v hsv2
    have hbE:=bdE (pc:=pc) 5 vs v hsv2
    generalize hEe:linE p.arrays pc 5 vs v=E at *
    have hEl:=more_le hE.more
    have hbe:Bd (PV E.1 p.arrays) E.2.2:=⟨5,hE.shp⟩
    by_cases k3:k=3
    · subst k3
      rw [linS_3,hEe] at hmore ⊢
      generalize labN vs p.arrays 5 v=l at *
      unfold linI at hmore ⊢
      dsimp only at hmore ⊢
      split
      · rename_i hsec
        rw [if_pos hsec] at hmore
        have hl2:(E.1++lab1 pc l++lab1 pc l).length=E.1.length+2:=by simp [lab1]
        have b1:=bdB d (E.1.length:Int) (pc ||| l) (E.1++lab1 pc l++lab1 pc l) b hb (by omega) (by omega)
        have m1:=more_le (lin_more (p:=p) d (E.1.length:Int) (pc ||| l) (E.1++lab1 pc l++lab1 pc l) b hb (by omega))
        have b2:=bdB d ((E.1.length+1:Nat):Int) (pc ||| l) _ e he (show p.vars.length≤(linB (linS p.arrays d (E.1.length:Int) (pc ||| l)) (E.1++lab1 pc l++lab1 pc l) b).1.length by omega) (by omega)
        have m2:=more_le (lin_more (p:=p) d ((E.1.length+1:Nat):Int) (pc ||| l) _ e he (show p.vars.length≤(linB (linS p.arrays d (E.1.length:Int) (pc ||| l)) (E.1++lab1 pc l++lab1 pc l) b).1.length by omega))
        generalize linB (linS p.arrays d (E.1.length:Int) (pc ||| l)) (E.1++lab1 pc l++lab1 pc l) b=B1 at *
        generalize linB (linS p.arrays d ((E.1.length+1:Nat):Int) (pc ||| l)) B1.1 e=B2 at *
        intro s hs D
        simp only [List.mem_append] at hs
        simp only
        have hbe2:Bd (PV B2.1 p.arrays) E.2.2:=hbe.mono (show E.1.length≤B2.1.length by omega) rfl
        have hmk2:mk<(PV B2.1 p.arrays).vars.length:=show mk<(B2.1.length:Int) by omega
        have hw1:(E.1.length:Int)<(PV B2.1 p.arrays).vars.length:=show (E.1.length:Int)<(B2.1.length:Int) by omega
        have hw2:((E.1.length+1:Nat):Int)<(PV B2.1 p.arrays).vars.length:=show ((E.1.length+1:Nat):Int)<(B2.1.length:Int) by omega
        rcases hs with ((hs | hs) | hs) | hs
        · exact BdS.mono (p:=PV E.1 p.arrays) (q:=PV B2.1 p.arrays) (show E.1.length≤B2.1.length by omega) rfl D s (hbE s hs D)
        · simp only [maskS,List.mem_cons,List.not_mem_nil,or_false] at hs
          rcases hs with rfl | rfl
          · exact bd_asg hw1 (Bd.mask hmk2 hbe2 (Bd.c (by omega))) D
          · exact bd_asg hw2 (Bd.mask hmk2 (Bd.b (.inr rfl) (Bd.v ⟨by omega,hw1⟩) (Bd.c (by omega))) (Bd.c (by omega))) D
        · exact BdS.mono (p:=PV B1.1 p.arrays) (q:=PV B2.1 p.arrays) m2 rfl D s (b1 s hs D)
        · exact b2 s hs D
      · rename_i hsec
        have b1:=bdB d mk (pc ||| l) E.1 b hb (by omega) (by omega)
        have m1:=more_le (lin_more (p:=p) d mk (pc ||| l) E.1 b hb (by omega))
        have b2:=bdB d mk (pc ||| l) _ e he (show p.vars.length≤(linB (linS p.arrays d mk (pc ||| l)) E.1 b).1.length by omega) (by omega)
        have m2:=more_le (lin_more (p:=p) d mk (pc ||| l) _ e he (show p.vars.length≤(linB (linS p.arrays d mk (pc ||| l)) E.1 b).1.length by omega))
        generalize linB (linS p.arrays d mk (pc ||| l)) E.1 b=B1 at *
        generalize linB (linS p.arrays d mk (pc ||| l)) B1.1 e=B2 at *
        intro s hs D
        simp only [List.mem_append,List.mem_singleton] at hs
        simp only
        rcases hs with hs | rfl
        · exact BdS.mono (p:=PV E.1 p.arrays) (q:=PV B2.1 p.arrays) (show E.1.length≤B2.1.length by omega) rfl D s (hbE s hs D)
        · cases D with
          | zero=>trivial
          | succ D=>exact ⟨by omega,fun _=>hbe.mono (show E.1.length≤B2.1.length by omega) rfl,by omega,fun s hs=>BdS.mono (p:=PV B1.1 p.arrays) (q:=PV B2.1 p.arrays) m2 rfl D s (b1 s hs D),fun s hs=>b2 s hs D,fun _=>rfl,by omega⟩
    rw [linS_o k4 k3,hEe] at hmore ⊢
    by_cases k5:k=5
    · subst k5
      rw [linO_5] at hmore ⊢
      have ht:0≤t∧t<p.vars.length:=by omega
      intro s hs D
      simp only [List.mem_append,List.mem_singleton] at hs
      rcases hs with hs | rfl
      · exact hbE s hs D
      · cases D with
        | zero=>trivial
        | succ D=>exact ⟨fun _=>show t<(E.1.length:Int) by omega,fun _=>hbe,by omega,by simp,by simp,fun _=>rfl,by omega⟩
    by_cases k1:k=1
    · subst k1
      rw [linO_1] at hmore ⊢
      have ht:0≤t∧t<p.vars.length:=by omega
      have ht2:t<(PV E.1 p.arrays).vars.length:=show t<(E.1.length:Int) by omega
      intro s hs D
      simp only [List.mem_append,List.mem_singleton] at hs
      rcases hs with hs | rfl
      · exact hbE s hs D
      · exact bd_asg ht2 (Bd.mask (show mk<(E.1.length:Int) by omega) hbe (Bd.v ⟨ht.1,ht2⟩)) D
    have k2:k=2:=by omega
    subst k2
    rw [linO_2] at hmore ⊢
    have ht:0≤t∧t<p.arrays.length:=by omega
    have hai:atom ix=true:=by
      rcases hkk with h | h | h | h
      · omega
      · exact h.2.2.2.2.1
      · omega
      · omega
    have hbi:Bd (PV E.1 p.arrays) ix:=Bd.mono (p:=p) ⟨5,s2 rfl⟩ (show p.vars.length≤E.1.length by omega) rfl
    split
    · intro s hs D
      simp only [List.mem_append,List.mem_cons] at hs
      simp only
      generalize labN E.1 p.arrays 5 E.2.2=lw at *
      have hlw:(PV (E.1++lab1 lw pc) p.arrays).vars.length=E.1.length+1:=by simp [lab1]
      have hbe2:Bd (PV (E.1++lab1 lw pc) p.arrays) E.2.2:=hbe.mono (show E.1.length≤_ by omega) rfl
      have hbi2:Bd (PV (E.1++lab1 lw pc) p.arrays) ix:=hbi.mono (show E.1.length≤_ by omega) rfl
      have hw:(E.1.length:Int)<(PV (E.1++lab1 lw pc) p.arrays).vars.length:=by omega
      have one:∀ n:Nat,n<4→BdS (PV (E.1++lab1 lw pc) p.arrays) D (stoN mk E.1.length t ix n):=fun n hn =>
        bd_sto (Bd.c (by omega)) (Bd.sel (Bd.mask (by omega) (Bd.hit hbi2 (by omega)) (Bd.c (by omega))) (Bd.v ⟨by omega,hw⟩) (Bd.rd ht (Bd.c (by omega)) rfl)) D
      rcases hs with hs | rfl | hs
      · exact BdS.mono (p:=PV E.1 p.arrays) (q:=PV (E.1++lab1 lw pc) p.arrays) (show E.1.length≤_ by simp [lab1]) rfl D s (hbE s hs D)
      · exact bd_asg hw hbe2 D
      · simp only [stoS,List.mem_cons,List.not_mem_nil,or_false] at hs
        rcases hs with rfl | rfl | rfl | rfl
        · exact one 0 (by omega)
        · exact one 1 (by omega)
        · exact one 2 (by omega)
        · exact one 3 (by omega)
    · intro s hs D
      simp only [List.mem_append,List.mem_singleton] at hs
      rcases hs with hs | rfl
      · exact hbE s hs D
      · exact bd_sto hbi (Bd.mask (show mk<(E.1.length:Int) by omega) hbe (Bd.rd ht hbi hai)) D
open Go Go.CT CtF CtR
def extM (n:Nat) (m:Mm):Mm:=⟨m.vals++List.replicate (n - m.vals.length) 0,m.arrays⟩
def extOK (p q:Pg):Bool:=progOK p && progOK q && decide ((p.vars.length:Int)≤q.vars.length) && decide (p.vars=q.vars.take p.vars.length) && decide (p.arrays=q.arrays)
theorem LowM.ext {p q:Pg} {a b:Mm} (h:LowM 0 p a b) (ha:MemFits p a) (hb:MemFits p b) (he:extOK p q=true):LowM 0 q (extM q.vars.length a) (extM q.vars.length b):=by
  simp only [extOK,Bool.and_eq_true,decide_eq_true_eq] at he
  obtain ⟨⟨⟨_,h1⟩,h2⟩,h3⟩:=he
  have e1:=ha.nv
  have e2:=hb.nv
  refine ⟨by simp [extM,e1,e2],h.la,fun i x hx hb=>?_,fun i x hx=>h.arr i x (by rw [h3];exact hx)⟩
  simp only [extM]
  by_cases hi:i<p.vars.length
  · rw [List.getElem?_append_left (by omega),List.getElem?_append_left (by omega)]
    refine h.val i x ?_ hb
    rw [h2,List.getElem?_take,if_pos hi];exact hx
  · rw [List.getElem?_append_right (by omega),List.getElem?_append_right (by omega),e1,e2]
end Go.Proofs.YtoakidkcppinpaaGreat.CtL
namespace Go.Proofs.YtoakidkcppinpaaGreat.CtD
open Go Go.CT CtF CtR
variable [Yn]
inductive FE : Ex → Prop
  | mk (k v:Int) (ks:List Ex) (h:ks.length≤1048576) (h2:∀ x ∈ ks,FE x):FE (.mk k v ks)
inductive FS : St1 → Prop
  | mk (k t:Int) (ix v:Ex) (c:Int) (b e:List St1) (h1:FE ix) (h2:FE v) (h3:b.length≤1048576) (h4:e.length≤1048576) (h5:∀ x ∈ b,FS x) (h6:∀ x ∈ e,FS x):FS (.mk k t ix v c b e)
theorem copyE (e:Ex) (he:FE e):DC Tryz.prog 128 [.agg e.cells] [] (fun r h=>r = .agg e.cells∧h=[]):=by
  have hmx:=mx_eq
  induction he with
  | mk k v ks hlen hall ih =>
    refine dcZ Tryz.func128 ?_
    simp only [go_sem]
    iterate 2 (try (refine drvZ Tryz.func128 ?_;simp only [go_sem]))
    refine Go.loopQ (fun i : Nat => [(1, .c (.ptr 0 0)), (2, .c (.ptr 64 0)), (3, .c (.ptr 66 0)), (4, DI .i64 i)])
      (fun i=>[(0,some (Ex.cells (.mk k v ks))),(64,some [I64 0,I64 0,.v (.slice none 0 0)]),(66,some [I64 k,I64 v,.msl 67 3 0 i]),(67,some (exC (ks.take i)))])
      4096 (fun i=>i≤ks.length) (fun i=>ks.length - i) ?_ 0 (fun j=>if j=66 then some 448 else if j=67 then none else some j) [] _ (Nat.zero_le _) ?_
    · intro i hi again
      rcases Nat.lt_or_ge i ks.length with hlt | hge
      · obtain ⟨⟨k',v',ks'⟩,hx⟩:∃ x,ks[i]? = some x:=⟨ks[i],by simp [hlt]⟩
        have hsx:ks.take (i+1)=ks.take i++[.mk k' v' ks']:=by rw [List.take_add_one,hx];rfl
        have hel:(exC (ks.take i)).length=i * 3:=by rw [exC_len,List.length_take];congr 1;omega
        refine drvL Tryz.func128 ?_
        simp only [go_sem,hx,hlt]
        (with_reducible and_intros)<;>try exact sd
        iterate 2 (try (refine drvZ Tryz.func128 ?_;simp only [go_sem,hx,hlt]))
        (with_reducible and_intros)<;>try exact sd
        refine XK.plain (ih _ (List.mem_of_getElem? hx)) ok128 ?_ (hbT ()) (fun _=>by kernel_rfl)
        iterate 3 (try (refine drvZ Tryz.func128 ?_;simp only [go_sem,hx,hlt]))
        (with_reducible and_intros)<;>try exact sd
        iterate 2 (try (refine drvZ Tryz.func128 ?_;simp only [go_sem,hx,hlt]))
        (with_reducible and_intros)<;>try exact sd
        refine again (i+1) (fun j=>if j=67 then some 4992 else some j) [] _ hlt (by omega) ?_
        simp only [go_sem,TmOK,DM,DMs,CM,CMs,forall_eq,exists_eq_left,Mq,HpOK,LowOK,hsx,exC_snoc]
        simp
        exact CMs.kf (kf_app (exC_kf _) (by simp [kf]))
      · have hn:¬ i<ks.length:=by omega
        obtain rfl:i=ks.length:=by omega
        refine drvL Tryz.func128 ?_
        simp only [go_sem,hn,List.take_length]
        iterate 2 (try (refine drvZ Tryz.func128 ?_;simp only [go_sem,hn,List.take_length]))
        refine RetOb.ofQ (fun j=>none) [67] (.agg (Ex.cells (.mk k v ks))) [] ?_ ⟨rfl,rfl⟩ (by simp)
        have g1:(Ex.cellsL ks).flatten=exC ks:=by rw [Ex.cellsL_eq];rfl
        have g2:∀ x ∈ Ex.cellsL ks,x.length=3:=fun x hx=>by rw [Ex.cellsL_eq] at hx;obtain ⟨e,_,rfl⟩:=List.mem_map.1 hx;exact Ex.cells_len e
        have g3:∀ x ∈ Ex.cellsL ks,∀ c ∈ x,kf c=true:=fun x hx=>by rw [Ex.cellsL_eq] at hx;obtain ⟨e,_,rfl⟩:=List.mem_map.1 hx;exact ex_kf e
        simp only [enumL,hOf,DM,DMs,CM,CMs,HpOK,LowOK,upd,Ex.cells,Ex.cellsL_length,g1]
        first | (simp;exact ⟨g2,g3⟩) | (simp [g2];exact g3) | exact ⟨g2,g3⟩
    · simp only [go_sem,TmOK,DM,DMs,CM,CMs,forall_eq,exists_eq_left,Mq,HpOK,LowOK]
      simp [exC]
theorem copyBOf (l : List St1) (hl : l.length ≤ 1048576) (hs : ∀ s ∈ l, FS s) (ih : ∀ s ∈ l, DC Tryz.prog 118 [.c (.isl 11 (St1.cellsL s.body))] [] (fun r h => r = .c (.isl 11 (St1.cellsL s.body)) ∧ h = []) ∧ DC Tryz.prog 118 [.c (.isl 11 (St1.cellsL s.els))] [] (fun r h => r = .c (.isl 11 (St1.cellsL s.els)) ∧ h = [])) :
    DC Tryz.prog 118 [.c (.isl 11 (St1.cellsL l))] [] (fun r h=>r = .c (.isl 11 (St1.cellsL l))∧h=[]):=by
  have hmx:=mx_eq
  refine dcZ Tryz.func118 ?_
  simp only [go_sem]
  iterate 2 (try (refine drvZ Tryz.func118 ?_;simp only [go_sem]))
  refine Go.loopQ (fun i : Nat => [(0, .c (.isl 11 (St1.cellsL l))), (3, .c (.msl 67 11 0 i)), (4, DI .i64 i)]) (fun i => [(67, some (stC (l.take i)))])
    4096 (fun i=>i≤l.length) (fun i=>l.length - i) ?_ 0 (fun j=>if j=67 then some 64 else some j) [] _ (Nat.zero_le _) ?_
  · intro i hi again
    rcases Nat.lt_or_ge i l.length with hlt | hge
    · obtain ⟨⟨k,t,⟨ik,iv,iks⟩,⟨vk,vv,vks⟩,c,b,e⟩,hx⟩:∃ x,l[i]? = some x:=⟨l[i],by simp [hlt]⟩
      have hsx:l.take (i+1)=l.take i++[.mk k t (.mk ik iv iks) (.mk vk vv vks) c b e]:=by rw [List.take_add_one,hx];rfl
      have hel:(stC (l.take i)).length=i * 11:=by rw [stC_len,List.length_take];congr 1;omega
      have hsm:=hs _ (List.mem_of_getElem? hx)
      obtain ⟨hib,hie⟩:=ih _ (List.mem_of_getElem? hx)
      simp only [St1.body,St1.els] at hib hie
      obtain ⟨f1,f2,f3,f4,f5,f6⟩:FE (.mk ik iv iks)∧FE (.mk vk vv vks)∧b.length≤1048576∧e.length≤1048576∧(∀ x ∈ b,FS x)∧∀ x ∈ e,FS x:=by cases hsm;exact ⟨‹_›,‹_›,‹_›,‹_›,‹_›,‹_›⟩
      refine drvL Tryz.func118 ?_
      simp only [go_sem,hx,hlt]
      iterate 2 (try (refine drvZ Tryz.func118 ?_;simp only [go_sem,hx,hlt]))
      refine XK.plain (copyE _ f1) ok128 ?_ (hbT ())
      iterate 2 (try (refine drvZ Tryz.func118 ?_;simp only [go_sem]))
      refine XK.plain (copyE _ f2) ok128 ?_ (hbT ())
      iterate 2 (try (refine drvZ Tryz.func118 ?_;simp only [go_sem]))
      refine XK.plain hib ok118 ?_ (hbT ())
      iterate 2 (try (refine drvZ Tryz.func118 ?_;simp only [go_sem]))
      refine XK.plain hie ok118 ?_ (hbT ())
      iterate 3 (try (refine drvZ Tryz.func118 ?_;simp only [go_sem]))
      (with_reducible and_intros)<;>try exact sd
      iterate 2 (try (refine drvZ Tryz.func118 ?_;simp only [go_sem]))
      (with_reducible and_intros)<;>try exact sd
      refine again (i+1) (fun j=>if j=67 then some 6208 else some j) [] _ hlt (by omega) ?_
      simp only [go_sem,TmOK,DM,DMs,CM,CMs,forall_eq,exists_eq_left,Mq,HpOK,LowOK,hsx,stC_snoc,List.cons_append,List.nil_append]
      simp
      exact CMs.kf (kf_app (stC_kf _) (by simp [kf]))
    · have hn:¬ i<l.length:=by omega
      obtain rfl:i=l.length:=by omega
      refine drvL Tryz.func118 ?_
      simp only [go_sem,hn,List.take_length]
      iterate 2 (try (refine drvZ Tryz.func118 ?_;simp only [go_sem,hn,List.take_length]))
      refine RetOb.ofQ (fun j=>none) [67] (.c (.isl 11 (St1.cellsL l))) [] ?_ ⟨rfl,rfl⟩ (by simp)
      have g1:(St1.cellsL l).flatten=stC l:=by rw [St1.cellsL_eq];rfl
      have g2:∀ x ∈ St1.cellsL l,x.length=11:=fun x hx=>by rw [St1.cellsL_eq] at hx;obtain ⟨e,_,rfl⟩:=List.mem_map.1 hx;exact St1.cells_len e
      have g3:∀ x ∈ St1.cellsL l,∀ c ∈ x,kf c=true:=fun x hx=>by rw [St1.cellsL_eq] at hx;obtain ⟨e,_,rfl⟩:=List.mem_map.1 hx;exact st_kf e
      simp only [enumL,hOf,DM,DMs,CM,CMs,HpOK,LowOK,upd,St1.cellsL_length,g1]
      first | (simp;exact ⟨g2,g3⟩) | (simp [g2];exact g3) | exact ⟨g2,g3⟩
  · simp only [go_sem,TmOK,DM,DMs,CM,CMs,forall_eq,exists_eq_left,Mq,HpOK,LowOK]
    simp [stC,CMs]
theorem copyBS:∀ s:St1,FS s→DC Tryz.prog 118 [.c (.isl 11 (St1.cellsL s.body))] [] (fun r h=>r = .c (.isl 11 (St1.cellsL s.body))∧h=[])∧DC Tryz.prog 118 [.c (.isl 11 (St1.cellsL s.els))] [] (fun r h=>r = .c (.isl 11 (St1.cellsL s.els))∧h=[]):=by
  intro s hs
  induction hs with
  | mk k t ix v c b e h1 h2 h3 h4 h5 h6 ih1 ih2=>exact ⟨copyBOf b h3 h5 ih1,copyBOf e h4 h6 ih2⟩
theorem copyBO (l:List St1) (hl:l.length≤1048576) (hs:∀ s ∈ l,FS s):DC Tryz.prog 118 [.c (.isl 11 (St1.cellsL l))] [] (fun r h=>r = .c (.msl 0 11 0 l.length)∧h=[some (stC l)]):=by
  have hmx:=mx_eq
  have ih:=fun s h=>copyBS s (hs s h)
  refine dcZ Tryz.func118 ?_
  simp only [go_sem]
  iterate 2 (try (refine drvZ Tryz.func118 ?_;simp only [go_sem]))
  refine Go.loopQ (fun i : Nat => [(0, .c (.isl 11 (St1.cellsL l))), (3, .c (.msl 67 11 0 i)), (4, DI .i64 i)]) (fun i => [(67, some (stC (l.take i)))])
    4096 (fun i=>i≤l.length) (fun i=>l.length - i) ?_ 0 (fun j=>if j=67 then some 64 else some j) [] _ (Nat.zero_le _) ?_
  · intro i hi again
    rcases Nat.lt_or_ge i l.length with hlt | hge
    · obtain ⟨⟨k,t,⟨ik,iv,iks⟩,⟨vk,vv,vks⟩,c,b,e⟩,hx⟩:∃ x,l[i]? = some x:=⟨l[i],by simp [hlt]⟩
      have hsx:l.take (i+1)=l.take i++[.mk k t (.mk ik iv iks) (.mk vk vv vks) c b e]:=by rw [List.take_add_one,hx];rfl
      have hel:(stC (l.take i)).length=i * 11:=by rw [stC_len,List.length_take];congr 1;omega
      have hsm:=hs _ (List.mem_of_getElem? hx)
      obtain ⟨hib,hie⟩:=ih _ (List.mem_of_getElem? hx)
      simp only [St1.body,St1.els] at hib hie
      obtain ⟨f1,f2,f3,f4,f5,f6⟩:FE (.mk ik iv iks)∧FE (.mk vk vv vks)∧b.length≤1048576∧e.length≤1048576∧(∀ x ∈ b,FS x)∧∀ x ∈ e,FS x:=by cases hsm;exact ⟨‹_›,‹_›,‹_›,‹_›,‹_›,‹_›⟩
      refine drvL Tryz.func118 ?_
      simp only [go_sem,hx,hlt]
      iterate 2 (try (refine drvZ Tryz.func118 ?_;simp only [go_sem,hx,hlt]))
      refine XK.plain (copyE _ f1) ok128 ?_ (hbT ())
      iterate 2 (try (refine drvZ Tryz.func118 ?_;simp only [go_sem]))
      refine XK.plain (copyE _ f2) ok128 ?_ (hbT ())
      iterate 2 (try (refine drvZ Tryz.func118 ?_;simp only [go_sem]))
      refine XK.plain hib ok118 ?_ (hbT ())
      iterate 2 (try (refine drvZ Tryz.func118 ?_;simp only [go_sem]))
      refine XK.plain hie ok118 ?_ (hbT ())
      iterate 3 (try (refine drvZ Tryz.func118 ?_;simp only [go_sem]))
      (with_reducible and_intros)<;>try exact sd
      iterate 2 (try (refine drvZ Tryz.func118 ?_;simp only [go_sem]))
      (with_reducible and_intros)<;>try exact sd
      refine again (i+1) (fun j=>if j=67 then some 6208 else some j) [] _ hlt (by omega) ?_
      simp only [go_sem,TmOK,DM,DMs,CM,CMs,forall_eq,exists_eq_left,Mq,HpOK,LowOK,hsx,stC_snoc,List.cons_append,List.nil_append]
      simp
      exact CMs.kf (kf_app (stC_kf _) (by simp [kf]))
    · have hn:¬ i<l.length:=by omega
      obtain rfl:i=l.length:=by omega
      refine drvL Tryz.func118 ?_
      simp only [go_sem,hn,List.take_length]
      iterate 2 (try (refine drvZ Tryz.func118 ?_;simp only [go_sem,hn,List.take_length]))
      refine RetOb.ofQ (fun j=>if j=0 then some 67 else none) [] (.c (.msl 0 11 0 l.length)) [some (stC l)] ?_ ⟨rfl,rfl⟩ (by simp)
      simp [enumL,hOf,DM,CM,HpOK,LowOK,upd]
      exact CMs.kf (stC_kf _)
  · simp only [go_sem,TmOK,DM,DMs,CM,CMs,forall_eq,exists_eq_left,Mq,HpOK,LowOK]
    simp [stC,CMs]
theorem copyP (p : Pg) (hv : p.vars.length ≤ 1048576) (ha : p.arrays.length ≤ 1048576) (hb : p.body.length ≤ 1048576) (hs : ∀ s ∈ p.body, FS s) : DC Tryz.prog 97 [.agg p.cells] []
    (fun r h=>r = .agg [.msl 0 1 0 p.vars.length,.msl 1 1 0 p.arrays.length,.msl 2 11 0 p.body.length]∧h=[some (p.vars.map I64),some (p.arrays.map I64),some (stC p.body)]):=by
  have hmx:=mx_eq
  have hcb:=copyBO p.body hb hs
  generalize hR:(fun (r:D) (h:List (Option (List C)))=>r = .agg [.msl 0 1 0 p.vars.length,.msl 1 1 0 p.arrays.length,.msl 2 11 0 p.body.length]∧h=[some (p.vars.map I64),some (p.arrays.map I64),some (stC p.body)])=R
  obtain ⟨vs,ar,bd⟩:=p
  have hv:vs.length≤1048576:=hv
  have ha:ar.length≤1048576:=ha
  have hb:bd.length≤1048576:=hb
  have hfl:(bd.map St1.cells).flatten=stC bd:=rfl
  refine dcZ Tryz.func97 ?_
  simp only [go_sem,flat_I']
  iterate 2 ((try (refine drvZ Tryz.func97 ?_;simp only [go_sem,flat_I']));((with_reducible and_intros)<;>try exact sd))
  refine XK.callG [] hcb ok118 (fun i' x h=>by simp at h) (hbT ()) (fun d h' ⟨_,e⟩=>by subst e;simp) ?_ (fun _=>⟨by kernel_rfl,_,_,⟨rfl,rfl⟩,by simp⟩)
  rintro _ _ ⟨rfl,rfl⟩ _
  iterate 3 ((try (refine drvZ Tryz.func97 ?_;simp only [go_sem,flat_I',renCs_stC]));((with_reducible and_intros)<;>try exact sd))
  refine RetOb.ofQ (fun j=>if j=0 then some 320 else if j=1 then some 576 else if j=2 then some 768 else none) [] (.agg [.msl 0 1 0 vs.length,.msl 1 1 0 ar.length,.msl 2 11 0 bd.length]) [some (vs.map I64),some (ar.map I64),some (stC bd)] ?_ (by rw [← hR];exact ⟨rfl,rfl⟩) (by simp)
  simp [enumL,hOf,DM,DMs,CM,CMs,HpOK,LowOK,upd,CMs_I]
  exact CMs.kf (stC_kf _)
end Go.Proofs.YtoakidkcppinpaaGreat.CtD
namespace Go.Proofs.YtoakidkcppinpaaGreat.CtL
variable [Go.CT.Yn]
open Go Go.CT CtF CtR
open CtD (FE FS)
theorem linK_sz {d:Nat} {f:List Int→Ex→List Int × List St1 × Ex} (hf:∀ vs e,(f vs e).1.length≤vs.length+cnt d e∧(f vs e).2.1.length≤4 * cnt d e):∀ (ks:List Ex) (vs:List Int),
    (linK f vs ks).1.length≤vs.length+(ks.map (cnt d)).sum∧(linK f vs ks).2.1.length≤4 * (ks.map (cnt d)).sum
  | [],vs=>by simp [linK]
  | e :: r,vs=>by
    obtain ⟨a1,a2⟩:=hf vs e
    obtain ⟨b1,b2⟩:=linK_sz hf r (f vs e).1
    simp only [linK,List.length_append,List.map_cons,List.sum_cons]
    omega
theorem linE_sz {ar : List Int} {pc : Nat} : ∀ (d : Nat) (vs : List Int) (e : Ex), (linE ar pc d vs e).1.length ≤ vs.length + cnt d e ∧ (linE ar pc d vs e).2.1.length ≤ 4 * cnt d e
  | 0,vs,e=>by simp [linE]
  | d+1,vs,.mk k v ks=>by
    obtain ⟨b1,b2⟩:=linK_sz (fun vs e=>linE_sz (ar:=ar) (pc:=pc) d vs e) ks vs
    simp only [linE,cnt]
    split
    · simp only [List.length_append,lab1,List.length_singleton,readS,List.length_cons,List.length_nil];omega
    · simp only;omega
theorem lsize_flat {D : Nat} : ∀ l : List St1, (∀ s ∈ l, s.body = [] ∧ s.els = []) → lsize D l ≤ l.length
  | [],_=>by simp [lsize]
  | s :: r,h=>by
    have ih:=lsize_flat (D:=D) r fun s hs=>h s (by simp [hs])
    have h1:=h s (by simp)
    have:tsize D s≤1:=by
      cases D with
      | zero=>simp [tsize]
      | succ D=>rw [tsize_subs];simp [subs,h1,lsize]
    simp only [lsize,List.map_cons,List.sum_cons,List.length_cons] at ih ⊢
    omega
theorem lsize_nil (D:Nat):lsize D []=0:=by simp [lsize]
theorem lsize_one (D:Nat) (s:St1):lsize D [s]=tsize D s:=by simp [lsize]
theorem linB_sz {d:Nat} {f:List Int→St1→List Int × List St1}:∀ (l:List St1) (vs:List Int),(∀ s ∈ l,∀ vs,(f vs s).1.length≤vs.length+17 * tsize d s∧∀ D,lsize D (f vs s).2≤70 * tsize d s) →
    (linB f vs l).1.length≤vs.length+17 * lsize d l∧∀ D,lsize D (linB f vs l).2≤70 * lsize d l
  | [],vs,_=>by simp [linB,lsize]
  | s :: r,vs,h=>by
    obtain ⟨a1,a2⟩:=h s (by simp) vs
    obtain ⟨b1,b2⟩:=linB_sz r (f vs s).1 fun s hs=>h s (by simp [hs])
    have e:lsize d (s :: r)=tsize d s+lsize d r:=by simp [lsize]
    refine ⟨by simp only [linB];omega,fun D=>?_⟩
    have:=a2 D
    have:=b2 D
    simp only [linB,lsize_app]
    omega
theorem linS_sz {p : Pg} : ∀ (d : Nat) (mk : Int) (pc : Nat) (s : St1) (vs : List Int), stmtOK p d s = true → p.vars.length ≤ vs.length → (linS p.arrays d mk pc vs s).1.length ≤ vs.length + 17 * tsize d s ∧ ∀ D, lsize D (linS p.arrays d mk pc vs s).2 ≤ 70 * tsize d s
  | 0,_,_,s,_,h,_=>by simp [stmtOK] at h
  | d+1,mk,pc,s,vs,hso,hl=>by
    have ih:∀ mk pc l (vs:List Int),(∀ s ∈ l,stmtOK p d s=true)→p.vars.length≤vs.length→(linB (linS p.arrays d mk pc) vs l).1.length≤vs.length+17 * lsize d l∧∀ D,lsize D (linB (linS p.arrays d mk pc) vs l).2≤70 * lsize d l:=fun mk pc l=>by
      induction l with
      | nil=>intro vs _ _;simp [linB,lsize]
      | cons s r ihr =>
        intro vs hok hl
        have h1:=linS_sz d mk pc s vs (hok s (by simp)) hl
        have hm:=more_le (lin_more (p:=p) d mk pc vs [s] (by simpa using hok s (by simp)) hl)
        simp only [linB] at hm
        have h2:=ihr (linS p.arrays d mk pc vs s).1 (fun s hs=>hok s (by simp [hs])) (by omega)
        have e:lsize d (s :: r)=tsize d s+lsize d r:=by simp [lsize]
        refine ⟨by simp only [linB];omega,fun D=>?_⟩
        have:=h1.2 D
        have:=h2.2 D
        simp only [linB,lsize_app]
        omega
    obtain ⟨k,t,ix,v,c,b,e⟩:=s
    obtain ⟨hh,hb,he⟩:=stmtOK_succ hso
    obtain ⟨s1,s2⟩:=shapeV hso
    have hkk:=head_kind hh
    have hts:tsize (d+1) (.mk k t ix v c b e)=1+lsize d b+lsize d e:=by simp [tsize,lsize]
    have htD:∀ D k t ix v c b e,tsize (D+1) (.mk k t ix v c b e)=1+lsize D b+lsize D e:=fun D k t ix v c b e=>by simp [tsize,lsize]
    rw [hts]
    by_cases k4:k=4
    · subst k4
      obtain ⟨i1,i2⟩:=ih mk pc b vs hb hl
      rw [linS_4]
      refine ⟨by simp only;omega,fun D=>?_⟩
      simp only [lsize_one]
      cases D with
      | zero=>simp [tsize]
      | succ D =>
        have:=i2 D
        rw [htD,lsize_nil];omega
    have hcnt:cnt 5 v≤15:=by
      have:right p v=true:=by
        rcases hkk with h | h | h | h
        · exact h.2.2.2
        · exact h.2.2.2.2.2
        · exact h.2
        · exact absurd h.1 k4
      exact (right_shape this).2
    have hsv:=shape_mono (p:=p) (q:=⟨vs,p.arrays,[]⟩) hl rfl 5 v (s1 k4)
    obtain ⟨z1,z2⟩:=linE_sz (ar:=p.arrays) (pc:=pc) 5 vs v
    have hfl:∀ D,lsize D (linE p.arrays pc 5 vs v).2.1≤60:=fun D=>by
      have hfin:=(tyE (pc:=pc) 5 (linE p.arrays pc 5 vs v).1 vs v hsv ⟨[],by simp⟩).fin
      have:=lsize_flat (D:=D) (linE p.arrays pc 5 vs v).2.1 fun s hs=>⟨(hfin s hs).1,(hfin s hs).2.1⟩
      omega
    have hEm:=more_le (linE_ok (q:=⟨[],p.arrays,[]⟩) rfl pc 5 vs v hsv).more
    generalize hEe:linE p.arrays pc 5 vs v=E at *
    by_cases k3:k=3
    · subst k3
      rw [linS_3,hEe]
      unfold linI
      dsimp only
      split
      · have hl2:∀ l,(E.1++lab1 pc l++lab1 pc l).length=E.1.length+2:=fun l=>by simp [lab1]
        generalize labN vs p.arrays 5 v=l at *
        obtain ⟨i1,i2⟩:=ih (E.1.length:Int) (pc ||| l) b (E.1++lab1 pc l++lab1 pc l) hb (by rw [hl2];omega)
        have hm1:=more_le (lin_more (p:=p) d (E.1.length:Int) (pc ||| l) (E.1++lab1 pc l++lab1 pc l) b hb (by rw [hl2];omega))
        obtain ⟨j1,j2⟩:=ih ((E.1.length+1:Nat):Int) (pc ||| l) e (linB (linS p.arrays d (E.1.length:Int) (pc ||| l)) (E.1++lab1 pc l++lab1 pc l) b).1 he (by rw [hl2] at hm1;omega)
        have hl2:=hl2 l
        refine ⟨by dsimp only;omega,fun D=>?_⟩
        have:=i2 D
        have:=j2 D
        have:=hfl D
        have h2:lsize D (maskS mk E.1.length E.2.2)≤2:=lsize_flat (D:=D) (maskS mk E.1.length E.2.2) (by simp [maskS,asg,St1.body,St1.els])
        simp only [lsize_app]
        omega
      · generalize labN vs p.arrays 5 v=l at *
        obtain ⟨i1,i2⟩:=ih mk (pc ||| l) b E.1 hb (by omega)
        have hm1:=more_le (lin_more (p:=p) d mk (pc ||| l) E.1 b hb (by omega))
        obtain ⟨j1,j2⟩:=ih mk (pc ||| l) e (linB (linS p.arrays d mk (pc ||| l)) E.1 b).1 he (by omega)
        refine ⟨by simp only;omega,fun D=>?_⟩
        have:=hfl D
        simp only [lsize_app,lsize_one]
        cases D with
        | zero=>simp only [tsize];omega
        | succ D =>
          have:=i2 D
          have:=j2 D
          rw [htD];omega
    rw [linS_o k4 k3,hEe]
    have hsx:∀ D (s:St1),s.body=[]→s.els=[]→tsize D s≤1:=fun D s h1 h2=>by
      have:=lsize_flat (D:=D) [s] (by simp [h1,h2])
      simpa [lsize] using this
    by_cases k5:k=5
    · subst k5
      rw [linO_5]
      refine ⟨by simp only;omega,fun D=>?_⟩
      have:=hfl D
      have:=hsx D (.mk 5 t e0 E.2.2 0 [] []) rfl rfl
      simp only [lsize_app,lsize_one];omega
    by_cases k1:k=1
    · subst k1
      rw [linO_1]
      refine ⟨by simp only;omega,fun D=>?_⟩
      have:=hfl D
      have:=hsx D (asg t (maskE mk E.2.2 (vE t))) rfl rfl
      simp only [lsize_app,lsize_one];omega
    have k2:k=2:=by omega
    subst k2
    rw [linO_2]
    split
    · refine ⟨by simp [lab1];omega,fun D=>?_⟩
      have:=hfl D
      have:=lsize_flat (D:=D) (asg (E.1.length:Int) E.2.2 :: stoS mk E.1.length t ix) (by simp [asg,stoS,stoN,sto,St1.body,St1.els])
      simp [stoS] at this
      simp only [lsize_app,stoS];omega
    · refine ⟨by simp only;omega,fun D=>?_⟩
      have:=hfl D
      have:=hsx D (sto t ix (maskE mk E.2.2 (rdE t ix))) rfl rfl
      simp only [lsize_app,lsize_one];omega
theorem FE_shape {p : Pg} : ∀ (d : Nat) (e : Ex), CtR.shape p d e = true → FE e
  | 0,e,h=>by simp [CtR.shape] at h
  | d+1,.mk k v ks,h=>by
    obtain ⟨g1,g2,g3⟩:=shape_succ h
    have:=fits_len g1
    exact .mk k v ks (by omega) fun x hx=>FE_shape d x (g2 x hx)
theorem FE_e0:FE e0 := .mk 0 0 [] (by simp) (by simp)
theorem len_lsize (l:List St1):l.length≤lsize 1 l:=by
  unfold lsize
  exact len_le_sum _ l fun s _=>tsize_pos s
theorem FS_of {p : Pg} : ∀ (s : St1), (∀ D, BdS p D s) → (∀ D, tsize D s ≤ 1048576) → FS s
  | .mk k t ix v c b e,h1,h2=>by
    have hts:∀ D,lsize D b≤1048576∧lsize D e≤1048576:=fun D=>by
      have:=h2 (D+1)
      rw [tsize_subs] at this
      simp only [subs,St1.body,St1.els] at this
      omega
    have hb1:=len_lsize b
    have he1:=len_lsize e
    have hb2:=(hts 1).1
    have he2:=(hts 1).2
    have h3:=h1 1
    obtain ⟨_,a2,a3,_,_,a6,a7⟩:=h3
    refine .mk k t ix v c b e ?_ ?_ (by omega) (by omega) (fun x hx=>?_) fun x hx=>?_
    · by_cases hk:k=2
      · obtain ⟨D,hD⟩:=a3 hk
        exact FE_shape D ix hD
      · rw [a6 hk];exact FE_e0
    · by_cases hk:k=4
      · rw [a7 hk];exact FE_e0
      · obtain ⟨D,hD⟩:=a2 hk
        exact FE_shape D v hD
    · exact FS_of x (fun D=>(h1 (D+1)).2.2.2.1 x hx) fun D=>Nat.le_trans (mem_le_lsize hx) (hts D).1
    · exact FS_of x (fun D=>(h1 (D+1)).2.2.2.2.1 x hx) fun D=>Nat.le_trans (mem_le_lsize hx) (hts D).2
termination_by s=>SizeOf.sizeOf s
decreasing_by
  all_goals
    have:=List.sizeOf_lt_of_mem hx
    simp only [St1.mk.sizeOf_spec]
    omega
theorem FS_ok {p : Pg} : ∀ (d : Nat) (s : St1), stmtOK p d s = true → tsize d s ≤ 1048576 → FS s
  | 0,s,h,_=>by simp [stmtOK] at h
  | d+1,.mk k t ix v c b e,h,hts=>by
    obtain ⟨hh,hb,he⟩:=stmtOK_succ h
    obtain ⟨s1,s2⟩:=shapeV h
    obtain ⟨q1,q2,q3,q4⟩:=head_parts hh
    rw [tsize_subs] at hts
    simp only [subs,St1.body,St1.els] at hts
    have hlen:∀ l:List St1,(∀ s ∈ l,stmtOK p d s=true)→l.length≤lsize d l:=fun l hl=>len_le_sum _ l fun s hs=>stmtOK_pos (hl s hs)
    have:=hlen b hb
    have:=hlen e he
    refine .mk k t ix v c b e ?_ ?_ (by omega) (by omega) (fun x hx=>FS_ok d x (hb x hx) ?_) fun x hx=>FS_ok d x (he x hx) ?_
    · by_cases hk:k=2
      · exact FE_shape 5 ix (s2 hk)
      · by_cases h4:k=4
        · rw [(q1 h4).2.1];exact FE_e0
        · rw [(q2 h4).2 hk];exact FE_e0
    · by_cases h4:k=4
      · rw [(q1 h4).2.2];exact FE_e0
      · exact FE_shape 5 v (s1 h4)
    · have:=mem_le_lsize (d:=d) hx;omega
    · have:=mem_le_lsize (d:=d) hx;omega
theorem prog_FS {p:Pg} (h:progOK p=true):p.body.length≤60∧∀ s ∈ p.body,FS s:=by
  obtain ⟨h1,h2⟩:=body_of h
  refine ⟨Nat.le_trans (len_le_sum _ _ fun s hs=>stmtOK_pos (h1 s hs)) h2,fun s hs=>FS_ok 5 s (h1 s hs) ?_⟩
  have:=mem_le_lsize (d:=5) hs;omega
theorem linQ_sz {p:Pg} (hok:progOK p=true):(linQ p).vars.length≤1100∧(linQ p).body.length≤4200∧(∀ D,lsize D (linQ p).body≤4200)∧∀ s ∈ (linQ p).body,FS s:=by
  obtain ⟨h1,h2⟩:=body_of hok
  have hl:=prog_len2 hok
  have h:=linB_sz (d:=5) (f:=linS p.arrays 5 (-1) 0) p.body p.vars
  have hb:=bdB (p:=p) 5 (-1) 0 p.vars p.body h1 (Nat.le_refl _) (by omega)
  have key:∀ (l:List St1) (vs:List Int),(∀ s ∈ l,stmtOK p 5 s=true)→p.vars.length≤vs.length→(linB (linS p.arrays 5 (-1) 0) vs l).1.length≤vs.length+17 * lsize 5 l∧∀ D,lsize D (linB (linS p.arrays 5 (-1) 0) vs l).2≤70 * lsize 5 l:=by
    intro l
    induction l with
    | nil=>intro vs _ _;simp [linB,lsize]
    | cons s r ihr =>
      intro vs hok hl
      have h1:=linS_sz 5 (-1) 0 s vs (hok s (by simp)) hl
      have hm:=more_le (lin_more (p:=p) 5 (-1) 0 vs [s] (by simpa using hok s (by simp)) hl)
      simp only [linB] at hm
      have h2:=ihr (linS p.arrays 5 (-1) 0 vs s).1 (fun s hs=>hok s (by simp [hs])) (by omega)
      have e:lsize 5 (s :: r)=tsize 5 s+lsize 5 r:=by simp [lsize]
      refine ⟨by simp only [linB];omega,fun D=>?_⟩
      have:=h1.2 D
      have:=h2.2 D
      simp only [linB,lsize_app]
      omega
  obtain ⟨k1,k2⟩:=key p.body p.vars h1 (Nat.le_refl _)
  have hD:∀ D,lsize D (linQ p).body≤4200:=fun D=>by
    have:=k2 D
    unfold linQ
    simp only
    omega
  have hlen:=len_lsize (linQ p).body
  have:=hD 1
  refine ⟨by unfold linQ;simp only;omega,by omega,hD,fun s hs=>FS_of s (hb s hs) fun D=>?_⟩
  have:=mem_le_lsize (d:=D) hs
  have:=hD D
  omega
end Go.Proofs.YtoakidkcppinpaaGreat.CtL
namespace Go.Proofs.YtoakidkcppinpaaGreat.CtD
open Go Go.CT CtF CtR
variable [Yn]
open CtL (e0 cE vE rdE bE selE hitE asg sto maskE readN readS stoN stoS linK lab1 linE linB linO maskS linI linS linQ linP)
theorem constS (n:Int):DC Tryz.prog 145 [DI .i64 n] [] (fun r h=>r = .agg (cE n).cells∧h=[]):=by
  refine dcZ Tryz.func145 ?_
  simp only [go_sem]
  iterate 2 ((try (refine drvZ Tryz.func145 ?_;simp only [go_sem]));((with_reducible and_intros)<;>try exact sd))
  refine RetOb.ofQ (fun _=>none) [] (.agg (Ex.cells (cE n))) [] ?_ ⟨rfl,rfl⟩ (by simp)
  simp [enumL,hOf,DM,DMs,CM,CMs,HpOK,LowOK,cE,Ex.cells,Ex.cellsL]
theorem varS (n:Int):DC Tryz.prog 124 [DI .i64 n] [] (fun r h=>r = .agg (vE n).cells∧h=[]):=by
  refine dcZ Tryz.func124 ?_
  simp only [go_sem]
  iterate 2 ((try (refine drvZ Tryz.func124 ?_;simp only [go_sem]));((with_reducible and_intros)<;>try exact sd))
  refine RetOb.ofQ (fun _=>none) [] (.agg (Ex.cells (vE n))) [] ?_ ⟨rfl,rfl⟩ (by simp)
  simp [enumL,hOf,DM,DMs,CM,CMs,HpOK,LowOK,vE,Ex.cells,Ex.cellsL]
theorem nodeS (k:Int) (ks:List Ex):DC Tryz.prog 146 [DI .i64 k,.c (.msl 0 3 0 ks.length)] [some (exC ks)] (fun r h=>r = .agg (Ex.cells (.mk k 0 ks))∧h=[none]):=by
  refine dcZ Tryz.func146 ?_
  simp only [go_sem]
  iterate 2 ((try (refine drvZ Tryz.func146 ?_;simp only [go_sem]));((with_reducible and_intros)<;>try exact sd))
  refine RetOb.ofQ (fun j=>if j=0 then some 0 else none) [0] (.agg (Ex.cells (.mk k 0 ks))) [none] ?_ ⟨rfl,rfl⟩ (by simp)
  have g1:(Ex.cellsL ks).flatten=exC ks:=by rw [Ex.cellsL_eq];rfl
  have g2:∀ x ∈ Ex.cellsL ks,x.length=3:=fun x hx=>by rw [Ex.cellsL_eq] at hx;obtain ⟨e,_,rfl⟩:=List.mem_map.1 hx;exact Ex.cells_len e
  have g3:∀ x ∈ Ex.cellsL ks,∀ c ∈ x,kf c=true:=fun x hx=>by rw [Ex.cellsL_eq] at hx;obtain ⟨e,_,rfl⟩:=List.mem_map.1 hx;exact ex_kf e
  simp only [enumL,hOf,DM,DMs,CM,CMs,HpOK,LowOK,upd,hpL,Ex.cells,Ex.cellsL_length,g1]
  simp
  exact ⟨g2,g3⟩
theorem RetOb.node {R:D→List (Option (List C))→Prop} {k v:Int} {ks:List Ex} {hp:Hp} {j n:Nat} {cs:List C} (hR:R (.agg (Ex.cells (.mk k v ks))) []) (h:hp j=some (some cs)) (hc:cs=exC ks) (hn:n=ks.length):RetOb 0 R (.agg [I64 k,I64 v,.msl j 3 0 n]) hp:=by
  subst hc hn
  refine RetOb.ofQ (fun _=>none) [j] (.agg (Ex.cells (.mk k v ks))) [] ?_ hR (by simp)
  have g1:(Ex.cellsL ks).flatten=exC ks:=by rw [Ex.cellsL_eq];rfl
  have g2:∀ x ∈ Ex.cellsL ks,x.length=3:=fun x hx=>by rw [Ex.cellsL_eq] at hx;obtain ⟨e,_,rfl⟩:=List.mem_map.1 hx;exact Ex.cells_len e
  have g3:∀ x ∈ Ex.cellsL ks,∀ c ∈ x,kf c=true:=fun x hx=>by rw [Ex.cellsL_eq] at hx;obtain ⟨e,_,rfl⟩:=List.mem_map.1 hx;exact ex_kf e
  simp [enumL,hOf,DM,DMs,CM,CMs,HpOK,LowOK,upd,hpL,Ex.cells,Ex.cellsL_length,g1,h]
  exact ⟨g2,g3⟩
theorem RetOb.kfA {R:D→List (Option (List C))→Prop} {cs:List C} {hp:Hp} (hR:R (.agg cs) []) (h:∀ c ∈ cs,kf c=true):RetOb 0 R (.agg cs) hp:=by
  refine RetOb.ofQ (fun _=>none) [] (.agg cs) [] ?_ hR (by simp)
  simp only [enumL,hOf,DM,HpOK,LowOK]
  simp
  exact CMs.kf h
theorem readS1 (t:Int) (i:Ex):DC Tryz.prog 129 [DI .i64 t,.agg i.cells] [] (fun r h=>r = .agg (rdE t i).cells∧h=[]):=by
  have hmx:=mx_eq
  obtain ⟨k,v,ks⟩:=i
  refine dcZ Tryz.func129 ?_
  simp only [go_sem]
  iterate 2 ((try (refine drvZ Tryz.func129 ?_;simp only [go_sem]));((with_reducible and_intros)<;>try exact sd))
  exact RetOb.node (ks:=[.mk k v ks]) ⟨rfl,rfl⟩ (by simp [upd];rfl) (by simp [exC,Ex.cells]) rfl
theorem exC2 (a b:Ex):exC [a,b]=a.cells++b.cells:=by simp [exC]
theorem exC3 (a b c:Ex):exC [a,b,c]=a.cells++(b.cells++c.cells):=by simp [exC]
theorem hitS (i:Ex) (k:Int):DC Tryz.prog 147 [.agg i.cells,DI .i64 k] [] (fun r h=>r = .agg (hitE i k).cells∧h=[]):=by
  have hmx:=mx_eq
  have c1:=constS 3
  have c2:=constS k
  have n1:=nodeS 7 [i,cE 3]
  have n2:=nodeS 9 [bE 7 i (cE 3),cE k]
  obtain ⟨ik,iv,iks⟩:=i
  rw [exC2] at n1 n2
  simp only [cE,bE,Ex.cells,Ex.cellsL,List.cons_append,List.nil_append,List.length_cons,List.length_nil] at c1 c2 n1 n2
  refine dcZ Tryz.func147 ?_
  simp only [go_sem]
  iterate 1 ((try (refine drvZ Tryz.func147 ?_;simp only [go_sem]));((with_reducible and_intros)<;>try exact sd);(try first | refine XK.p c1 ok145 ?_ | refine XK.gp c1 ok145 ?_))
  ((try (refine drvZ Tryz.func147 ?_;simp only [go_sem]));((with_reducible and_intros)<;>try exact sd))
  refine XK.callG [256] n1 ok146 (hhpG (by simp [HH,upd,renCs,renC])) (hbT ()) (fun d h' ⟨_,e⟩=>by subst e;simp) ?_ (fun _=>⟨by kernel_rfl,_,_,⟨rfl,rfl⟩,by simp⟩)
  rintro _ _ ⟨rfl,rfl⟩ _
  iterate 2 ((try (refine drvZ Tryz.func147 ?_;simp only [go_sem]));((with_reducible and_intros)<;>try exact sd);(try first | refine XK.p c2 ok145 ?_ | refine XK.gp c2 ok145 ?_))
  ((try (refine drvZ Tryz.func147 ?_;simp only [go_sem]));((with_reducible and_intros)<;>try exact sd))
  refine XK.callG [512] n2 ok146 (hhpG (by simp [HH,upd,renCs,renC])) (hbT ()) (fun d h' ⟨_,e⟩=>by subst e;simp) ?_ (fun _=>⟨by kernel_rfl,_,_,⟨rfl,rfl⟩,by simp⟩)
  rintro _ _ ⟨rfl,rfl⟩ _
  iterate 2 ((try (refine drvZ Tryz.func147 ?_;simp only [go_sem]));((with_reducible and_intros)<;>try exact sd))
  exact RetOb.kfA ⟨rfl,rfl⟩ (by simp [kf])
theorem maskES (mk:Int) (e f:Ex):DC Tryz.prog 123 [DI .i64 mk,.agg e.cells,.agg f.cells] [] (fun r h=>r = .agg (maskE mk e f).cells∧h=[]):=by
  have hmx:=mx_eq
  have c1:=varS mk
  have n1:=nodeS 11 [vE mk,e,f]
  obtain ⟨ek,ev,eks⟩:=e
  obtain ⟨fk,fv,fks⟩:=f
  rw [exC3] at n1
  simp only [vE,Ex.cells,Ex.cellsL,List.cons_append,List.nil_append,List.length_cons,List.length_nil] at c1 n1
  by_cases hm:mk<0
  · have hg:=eq_true hm
    have he:maskE mk (.mk ek ev eks) (.mk fk fv fks) = .mk ek ev eks:=by simp [maskE,hm]
    rw [he]
    refine dcZ Tryz.func123 ?_
    simp only [go_sem,hg]
    iterate 2 ((try (refine drvZ Tryz.func123 ?_;simp only [go_sem,hg]));((with_reducible and_intros)<;>try exact sd))
    exact RetOb.kfA ⟨rfl,rfl⟩ (by simp [kf])
  · have hg:=eq_false hm
    have he:maskE mk (.mk ek ev eks) (.mk fk fv fks)=selE (vE mk) (.mk ek ev eks) (.mk fk fv fks):=by simp [maskE,hm]
    rw [he]
    refine dcZ Tryz.func123 ?_
    simp only [go_sem,hg]
    iterate 3 ((try (refine drvZ Tryz.func123 ?_;simp only [go_sem,hg]));((with_reducible and_intros)<;>try exact sd);(try first | refine XK.p c1 ok124 ?_ | refine XK.gp c1 ok124 ?_))
    refine XK.callG [576] n1 ok146 (hhpG (by simp [HH,upd,renCs,renC])) (hbT ()) (fun d h' ⟨_,e⟩=>by subst e;simp) ?_ (fun _=>⟨by kernel_rfl,_,_,⟨rfl,rfl⟩,by simp⟩)
    rintro _ _ ⟨rfl,rfl⟩ _
    iterate 2 ((try (refine drvZ Tryz.func123 ?_;simp only [go_sem]));((with_reducible and_intros)<;>try exact sd))
    exact RetOb.kfA ⟨rfl,rfl⟩ (by simp [kf])
theorem asgS (vs ar : List Int) (out : List St1) (w : Int) (e : Ex) (hl : out.length ≤ 1048576) : DC Tryz.prog 122 [.agg [isI vs, isI ar, .v (.slice none 0 0), .msl 0 11 0 out.length], DI .i64 w, .agg e.cells] [some (stC out)]
    (fun r h=>r = .agg [isI vs,isI ar,.v (.slice none 0 0),.msl 1 11 0 (out++[asg w e]).length]∧h=[none,some (stC (out++[asg w e]))]):=by
  have hmx:=mx_eq
  have hcl:=stC_len out
  obtain ⟨ek,ev,eks⟩:=e
  refine dcZ Tryz.func122 ?_
  simp only [go_sem]
  iterate 3 ((try (refine drvZ Tryz.func122 ?_;simp only [go_sem]));((with_reducible and_intros)<;>try exact sd))
  refine RetOb.ofQ (fun j=>if j=1 then some 577 else some j) [] (.agg [isI vs,isI ar,.v (.slice none 0 0),.msl 1 11 0 (out++[asg w (.mk ek ev eks)]).length]) [none,some (stC (out++[asg w (.mk ek ev eks)]))] ?_ ⟨rfl,rfl⟩ (by simp)
  simp [enumL,hOf,DM,DMs,CM,CMs,HpOK,LowOK,upd,hpL,isI,stC_snoc,asg,e0,St1.cells,St1.cellsL,Ex.cells,Ex.cellsL]
  exact CMs.app (CMs.kf (stC_kf _)) (by simp [CMs,CM])
theorem freshS (vs ar : List Int) (out : List St1) (l : Int) (hl : out.length ≤ 1048576) (hv : vs.length ≤ 1048576) : DC Tryz.prog 144 [.agg [isI vs, isI ar, .v (.slice none 0 0), .msl 0 11 0 out.length], DI .i64 l] [some (stC out)]
    (fun r h=>r = .tup [.agg [isI (vs++[l]),isI ar,.v (.slice none 0 0),.msl 0 11 0 out.length],DI .i64 vs.length]∧h=[some (stC out)]):=by
  have hmx:=mx_eq
  refine dcZ Tryz.func144 ?_
  simp only [go_sem,flat_I']
  iterate 3 ((try (refine drvZ Tryz.func144 ?_;simp only [go_sem,flat_I']));((with_reducible and_intros)<;>try exact sd))
  refine RetOb.ofQ (fun j=>if j=0 then some 0 else none) [641] (.tup [.agg [isI (vs++[l]),isI ar,.v (.slice none 0 0),.msl 0 11 0 out.length],DI .i64 vs.length]) [some (stC out)] ?_ ⟨rfl,rfl⟩ (by simp)
  simp [enumL,hOf,DM,DMs,CM,CMs,HpOK,LowOK,upd,hpL,isI]
  refine ⟨⟨(flat_I vs).symm,?_,?_⟩,CMs.kf (stC_kf _)⟩
  · rintro x (⟨a,_,rfl⟩ | rfl)<;>rfl
  · rintro x (⟨a,_,rfl⟩ | rfl) c hc<;>simp at hc<;>subst hc<;>rfl
end Go.Proofs.YtoakidkcppinpaaGreat.CtD
