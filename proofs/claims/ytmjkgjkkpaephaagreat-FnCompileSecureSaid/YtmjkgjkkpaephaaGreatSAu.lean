/- Contracts of functions of the program, one behind the other, as plain data: what each call returns and which blocks it leaves. -/
import Derived.Test.YtmjkgjkkpaephaaGreatSFacts
import Derived.Test.YtmjkgjkkpaephaaGreatSAh
import Derived.Test.YtmjkgjkkpaephaaGreatSAj
import Derived.Test.YtmjkgjkkpaephaaGreatSAk
import Derived.Test.YtmjkgjkkpaephaaGreatSAl
import Derived.Test.YtmjkgjkkpaephaaGreatSAm
import Derived.Test.YtmjkgjkkpaephaaGreatSAn
import Derived.Test.YtmjkgjkkpaephaaGreatSAp
import Derived.Test.YtmjkgjkkpaephaaGreatSAq
import Derived.Test.YtmjkgjkkpaephaaGreatSAs
import Derived.Test.YtmjkgjkkpaephaaGreatSAt
set_option linter.unusedVariables false
set_option linter.unusedSimpArgs false
set_option maxHeartbeats 16000000
set_option maxRecDepth 100000
namespace Go.Proofs.YtmjkgjkkpaephaaGreat.CtL
open Go Go.CT CtF CtR
open CtD (rel rel_app rel_eval)
def e0:Ex := .mk 0 0 []
def cE (n:Int):Ex := .mk 1 n []
def vE (v:Int):Ex := .mk 2 v []
def rdE (a:Int) (i:Ex):Ex := .mk 3 a [i]
def bE (k:Int) (a b:Ex):Ex := .mk k 0 [a,b]
def selE (a b c:Ex):Ex := .mk 11 0 [a,b,c]
def hitE (i:Ex) (k:Int):Ex:=bE 9 (bE 7 i (cE 3)) (cE k)
def asg (v:Int) (e:Ex):St1 := .mk 1 v e0 e 0 [] []
def sto (t:Int) (i e:Ex):St1 := .mk 2 t i e 0 [] []
def maskE (mk:Int) (e f:Ex):Ex:=if mk<0 then e else selE (vE mk) e f
def readN (w:Nat) (a:Int) (i:Ex) (k:Nat):St1:=asg w (selE (hitE i k) (rdE a (cE k)) (vE w))
def readS (w:Nat) (a:Int) (i:Ex):List St1:=[asg w (rdE a (cE 0)),readN w a i 1,readN w a i 2,readN w a i 3]
def stoN (mk:Int) (w:Nat) (t:Int) (i:Ex) (k:Nat):St1:=sto t (cE k) (selE (maskE mk (hitE i k) (cE 0)) (vE w) (rdE t (cE k)))
def stoS (mk:Int) (w:Nat) (t:Int) (i:Ex):List St1:=[stoN mk w t i 0,stoN mk w t i 1,stoN mk w t i 2,stoN mk w t i 3]
def linK (f : List Int → Ex → List Int × List St1 × Ex) : List Int → List Ex → List Int × List St1 × List Ex
  | vs,[]=>(vs,[],[])
  | vs,e :: r=>((linK f (f vs e).1 r).1,(f vs e).2.1++(linK f (f vs e).1 r).2.1,(f vs e).2.2 :: (linK f (f vs e).1 r).2.2)
def lab1 (a b:Nat):List Int:=[((a ||| b:Nat):Int)]
def linE (ar : List Int) (pc : Nat) : Nat → List Int → Ex → List Int × List St1 × Ex
  | 0,vs,e=>(vs,[],e)
  | d+1,vs,.mk k v ks =>
    if k=3∧secL (labN (linK (linE ar pc d) vs ks).1 ar d (kid0 ks))=true then
      ((linK (linE ar pc d) vs ks).1++lab1 (labN (linK (linE ar pc d) vs ks).1 ar (d+1) (.mk k v ks)) pc,
        (linK (linE ar pc d) vs ks).2.1++readS (linK (linE ar pc d) vs ks).1.length v (kid0 ks),vE (linK (linE ar pc d) vs ks).1.length)
    else ((linK (linE ar pc d) vs ks).1,(linK (linE ar pc d) vs ks).2.1,.mk k v (linK (linE ar pc d) vs ks).2.2)
def linB (f : List Int → St1 → List Int × List St1) : List Int → List St1 → List Int × List St1
  | vs,[]=>(vs,[])
  | vs,s :: r=>((linB f (f vs s).1 r).1,(f vs s).2++(linB f (f vs s).1 r).2)
def linO (ar:List Int) (mk:Int) (pc:Nat) (E:List Int × List St1 × Ex) (k t:Int) (ix:Ex):List Int × List St1 :=
  if k=5 then (E.1,E.2.1++[.mk 5 t e0 E.2.2 0 [] []])
  else if k=1 then (E.1,E.2.1++[asg t (maskE mk E.2.2 (vE t))])
  else if secL (labN E.1 ar 5 ix)=true then (E.1++lab1 (labN E.1 ar 5 E.2.2) pc,E.2.1++asg E.1.length E.2.2 :: stoS mk E.1.length t ix)
  else (E.1,E.2.1++[sto t ix (maskE mk E.2.2 (rdE t ix))])
def maskS (mk:Int) (w:Nat) (e:Ex):List St1:=[asg w (maskE mk e (cE 0)),asg (w+1:Nat) (maskE mk (bE 9 (vE w) (cE 0)) (cE 0))]
def linI (f:Int→Nat→List Int→List St1→List Int × List St1) (mk:Int) (pc l:Nat) (E:List Int × List St1 × Ex) (b e:List St1):List Int × List St1 :=
  if secL l=true then
    ((f (E.1.length+1:Nat) (pc ||| l) (f E.1.length (pc ||| l) (E.1++lab1 pc l++lab1 pc l) b).1 e).1,
      E.2.1++maskS mk E.1.length E.2.2++(f E.1.length (pc ||| l) (E.1++lab1 pc l++lab1 pc l) b).2++(f (E.1.length+1:Nat) (pc ||| l) (f E.1.length (pc ||| l) (E.1++lab1 pc l++lab1 pc l) b).1 e).2)
  else ((f mk (pc ||| l) (f mk (pc ||| l) E.1 b).1 e).1,E.2.1++[.mk 3 0 e0 E.2.2 0 (f mk (pc ||| l) E.1 b).2 (f mk (pc ||| l) (f mk (pc ||| l) E.1 b).1 e).2])
def linS (ar : List Int) : Nat → Int → Nat → List Int → St1 → List Int × List St1
  | 0,_,_,vs,_=>(vs,[])
  | d+1,mk,pc,vs,.mk k t ix v c b e =>
    if k=4 then ((linB (linS ar d mk pc) vs b).1,[.mk 4 0 e0 e0 c (linB (linS ar d mk pc) vs b).2 []])
    else if k=3 then linI (fun mk pc vs l=>linB (linS ar d mk pc) vs l) mk pc (labN vs ar 5 v) (linE ar pc 5 vs v) b e
    else linO ar mk pc (linE ar pc 5 vs v) k t ix
theorem linS_4 {ar:List Int} {d:Nat} {mk:Int} {pc:Nat} {vs:List Int} {t:Int} {ix v:Ex} {c:Int} {b e:List St1}:linS ar (d+1) mk pc vs (.mk 4 t ix v c b e)=((linB (linS ar d mk pc) vs b).1,[.mk 4 0 e0 e0 c (linB (linS ar d mk pc) vs b).2 []]):=by simp [linS]
theorem linS_3 {ar:List Int} {d:Nat} {mk:Int} {pc:Nat} {vs:List Int} {t:Int} {ix v:Ex} {c:Int} {b e:List St1}:linS ar (d+1) mk pc vs (.mk 3 t ix v c b e)=linI (fun mk pc vs l=>linB (linS ar d mk pc) vs l) mk pc (labN vs ar 5 v) (linE ar pc 5 vs v) b e:=by simp [linS]
theorem linS_o {ar:List Int} {d:Nat} {mk:Int} {pc:Nat} {vs:List Int} {k t:Int} {ix v:Ex} {c:Int} {b e:List St1} (h4:k ≠ 4) (h3:k ≠ 3):linS ar (d+1) mk pc vs (.mk k t ix v c b e)=linO ar mk pc (linE ar pc 5 vs v) k t ix:=by simp [linS,h3,h4]
theorem linO_5 {ar:List Int} {mk:Int} {pc:Nat} {E:List Int × List St1 × Ex} {t:Int} {ix:Ex}:linO ar mk pc E 5 t ix=(E.1,E.2.1++[.mk 5 t e0 E.2.2 0 [] []]):=by simp [linO]
theorem linO_1 {ar:List Int} {mk:Int} {pc:Nat} {E:List Int × List St1 × Ex} {t:Int} {ix:Ex}:linO ar mk pc E 1 t ix=(E.1,E.2.1++[asg t (maskE mk E.2.2 (vE t))]):=by simp [linO]
theorem linO_2 {ar : List Int} {mk : Int} {pc : Nat} {E : List Int × List St1 × Ex} {t : Int} {ix : Ex} : linO ar mk pc E 2 t ix = if secL (labN E.1 ar 5 ix) = true then (E.1 ++ lab1 (labN E.1 ar 5 E.2.2) pc, E.2.1 ++ asg E.1.length E.2.2 :: stoS mk E.1.length t ix)
  else (E.1,E.2.1++[sto t ix (maskE mk E.2.2 (rdE t ix))]):=by simp [linO]
def linQ (p:Pg):Pg:=⟨(linB (linS p.arrays 5 (-1) 0) p.vars p.body).1,p.arrays,(linB (linS p.arrays 5 (-1) 0) p.vars p.body).2⟩
def linP (p:Pg):Pg × Bool:=if fineP flowR p=true∧progOK (linQ p)=true then (linQ p,true) else (⟨[],[],[]⟩,false)
theorem shape_of {p:Pg} {d:Nat} {k v:Int} {ks:List Ex} (h1:fitsE p k v ks.length=true) (h2:∀ x ∈ ks,CtR.shape p d x=true) (h3:k=3→headAtom ks=true):CtR.shape p (d+1) (.mk k v ks)=true:=by
  simp only [CtR.shape,Bool.and_eq_true,List.all_eq_true,Bool.or_eq_true]
  refine ⟨⟨h1,h2⟩,?_⟩
  by_cases hk:k=3
  · exact .inr (h3 hk)
  · exact .inl (by simpa using hk)
theorem limit_le {p q:Pg} (h1:p.vars.length≤q.vars.length) (h2:p.arrays.length=q.arrays.length) (k:Int):limit p k≤limit q k:=by
  unfold limit;repeat' split
  all_goals omega
theorem shape_mono {p q : Pg} (h1 : p.vars.length ≤ q.vars.length) (h2 : p.arrays.length = q.arrays.length) : ∀ (d : Nat) (e : Ex), CtR.shape p d e = true → CtR.shape q d e = true
  | 0,_,h=>by simp [CtR.shape] at h
  | d+1,.mk k v ks,h=>by
    obtain ⟨g1,g2,g3⟩:=shape_succ h
    have hl:=limit_le h1 h2 k
    obtain ⟨a,b,c,e⟩:=fits_len g1
    exact shape_of (fitsE_true b c (by omega)) (fun x hx=>shape_mono h1 h2 d x (g2 x hx)) g3
theorem shape_up {p : Pg} : ∀ (d : Nat) (e : Ex), CtR.shape p d e = true → CtR.shape p (d + 1) e = true
  | 0,_,h=>by simp [CtR.shape] at h
  | d+1,.mk k v ks,h=>by
    obtain ⟨g1,g2,g3⟩:=shape_succ h
    exact shape_of g1 (fun x hx=>shape_up d x (g2 x hx)) g3
theorem evalE_up {p : Pg} {m : Mm} : ∀ (d : Nat) (e : Ex), CtR.shape p d e = true → evalE m (d + 1) e = evalE m d e
  | 0,_,h=>by simp [CtR.shape] at h
  | d+1,.mk k v ks,h=>by
    obtain ⟨g1,g2,g3⟩:=shape_succ h
    have e1:(ks.map fun e=>(evalE m (d+1) e).1)=ks.map fun e=>(evalE m d e).1:=List.map_congr_left fun x hx=>by rw [evalE_up d x (g2 x hx)]
    have e2:(ks.map fun e=>(evalE m (d+1) e).2)=ks.map fun e=>(evalE m d e).2:=List.map_congr_left fun x hx=>by rw [evalE_up d x (g2 x hx)]
    rw [evalE,evalE]
    simp only [e1,e2]
theorem nth_app {a b:List Int} {v:Int} (h0:0≤v) (h:v<a.length):nth (a++b) v=nth a v:=by
  unfold nth
  rw [List.getD_eq_getElem?_getD,List.getD_eq_getElem?_getD,List.getElem?_append_left (by omega)]
theorem labN_app {vs more ar : List Int} {bd : List St1} : ∀ (d : Nat) (e : Ex), CtR.shape ⟨vs, ar, bd⟩ d e = true → labN (vs ++ more) ar d e = labN vs ar d e
  | 0,_,h=>by simp [CtR.shape] at h
  | d+1,.mk k v ks,h=>by
    obtain ⟨g1,g2,g3⟩:=shape_succ h
    obtain ⟨_,_,c,e⟩:=fits_len g1
    have e1:(ks.map (labN (vs++more) ar d))=ks.map (labN vs ar d):=List.map_congr_left fun x hx=>labN_app d x (g2 x hx)
    rw [labN,labN,e1]
    congr 1
    unfold labB
    by_cases k2:k=2
    · subst k2
      rw [if_pos rfl,if_pos rfl,nth_app c (by simpa [limit] using e)]
    · rw [if_neg k2,if_neg k2]
theorem read_kid {p:Pg} {d:Nat} {v:Int} {ks:List Ex} (h:CtR.shape p (d+1) (.mk 3 v ks)=true):∃ a,ks=[a]∧CtR.shape p d a=true∧atom a=true∧0≤v∧v<p.arrays.length:=by
  obtain ⟨g1,g2,g3⟩:=shape_succ h
  obtain ⟨_,b,c,e⟩:=fits_len g1
  have g3:=g3 rfl
  match ks,b,g2,g3 with
  | [a],_,g2,g3=>exact ⟨a,rfl,g2 a (by simp),g3,c,by simpa [limit] using e⟩
  | [],b,_,_=>simp [arity] at b
  | _ :: _ :: r,b,_,_=>simp [arity] at b;omega
theorem atom_mk {p:Pg} {d:Nat} {a:Ex} (hs:CtR.shape p d a=true) (ha:atom a=true):∃ k v,a = .mk k v []∧(k=1∧0≤v∧v≤255∨k=2∧0≤v∧v<p.vars.length):=by
  match d,a,hs with
  | 0,_,hs=>simp [CtR.shape] at hs
  | d+1,.mk k v ks,hs =>
    obtain ⟨g1,g2,g3⟩:=shape_succ hs
    obtain ⟨_,b,c,e⟩:=fits_len g1
    have hk:k=1∨k=2:=by simpa [atom,Ex.kind] using ha
    refine ⟨k,v,?_,?_⟩
    · have:ks.length=0:=by rcases hk with rfl | rfl<;>simp [arity] at b<;>simpa using b
      rw [List.length_eq_zero_iff.1 this]
    · rcases hk with rfl | rfl
      · exact .inl ⟨rfl,c,by simp [limit] at e;omega⟩
      · exact .inr ⟨rfl,c,by simpa [limit] using e⟩
theorem lin_atom {ar:List Int} {pc:Nat} {vs:List Int} {p:Pg} {d:Nat} {a:Ex} (hs:CtR.shape p d a=true) (ha:atom a=true):linE ar pc d vs a=(vs,[],a):=by
  obtain ⟨k,v,rfl,hk⟩:=atom_mk hs ha
  have hk3:k ≠ 3:=by omega
  match d with
  | 0=>rfl
  | d+1=>simp [linE,linK,hk3]
theorem lin_read {ar : List Int} {pc : Nat} {vs : List Int} {p : Pg} {d : Nat} {v : Int} {a : Ex} (hs : CtR.shape p d a = true) (ha : atom a = true) :
    linE ar pc (d+1) vs (.mk 3 v [a])=if secL (labN vs ar d a)=true then (vs++lab1 (labN vs ar (d+1) (.mk 3 v [a])) pc,readS vs.length v a,vE vs.length) else (vs,[],.mk 3 v [a]):=by
  have h1:=lin_atom (ar:=ar) (pc:=pc) (vs:=vs) hs ha
  simp only [linE,linK,h1,kid0,true_and,List.nil_append]
structure Agr (n : Nat) (m m' : Mm) : Prop where
  ar:m.arrays=m'.arrays
  va:∀ i,i<n→m.vals[i]? = m'.vals[i]?
theorem Agr.refl (n:Nat) (m:Mm):Agr n m m:=⟨rfl,fun _ _=>rfl⟩
theorem Agr.symm {n:Nat} {m m':Mm} (h:Agr n m m'):Agr n m' m:=⟨h.ar.symm,fun i hi=>(h.va i hi).symm⟩
theorem Agr.trans {n:Nat} {a b c:Mm} (h:Agr n a b) (g:Agr n b c):Agr n a c:=⟨h.ar.trans g.ar,fun i hi=>(h.va i hi).trans (g.va i hi)⟩
theorem Agr.le {n k:Nat} {m m':Mm} (h:Agr n m m') (hk:k≤n):Agr k m m':=⟨h.ar,fun i hi=>h.va i (by omega)⟩
theorem Agr.nth {n:Nat} {m m':Mm} (h:Agr n m m') {v:Int} (h0:0≤v) (hv:v<n):CtR.nth m.vals v=CtR.nth m'.vals v:=by
  unfold CtR.nth
  rw [List.getD_eq_getElem?_getD,List.getD_eq_getElem?_getD,h.va _ (by omega)]
theorem evalE_agr {p : Pg} {n : Nat} {m m' : Mm} (hn : p.vars.length ≤ n) (h : Agr n m m') : ∀ (d : Nat) (e : Ex), CtR.shape p d e = true → evalE m d e = evalE m' d e
  | 0,_,_=>rfl
  | d+1,.mk k v ks,hs=>by
    obtain ⟨g1,g2,g3⟩:=shape_succ hs
    obtain ⟨_,_,c,e⟩:=fits_len g1
    have e1:(ks.map fun e=>(evalE m d e).1)=ks.map fun e=>(evalE m' d e).1:=List.map_congr_left fun x hx=>by rw [evalE_agr hn h d x (g2 x hx)]
    have e2:(ks.map fun e=>(evalE m d e).2)=ks.map fun e=>(evalE m' d e).2:=List.map_congr_left fun x hx=>by rw [evalE_agr hn h d x (g2 x hx)]
    have e3:arrAt m v=arrAt m' v:=by unfold arrAt;rw [h.ar]
    simp only [evalE,e1,e2,e3]
    by_cases k2:k=2
    · subst k2
      have hv:v<p.vars.length:=by simpa [limit] using e
      rw [h.nth c (by omega)]
    · simp only [k2,if_false]
theorem Agr.setV {n:Nat} {m:Mm} {w:Nat} {x:Int} (hw:n≤w):Agr n m (CtR.setV m w x):=⟨rfl,fun i hi=>by
  simp only [CtR.setV,Int.toNat_natCast,List.getElem?_set]
  rw [if_neg (by omega)]⟩
theorem nth_set {l:List Int} {w:Nat} {x:Int} (hw:w<l.length):nth (l.set w x) (w:Int)=x:=by
  unfold nth
  rw [List.getD_eq_getElem?_getD,Int.toNat_natCast,List.getElem?_set_self hw]
  rfl
def atV (m:Mm) (a:Ex):Int:=(evalE m 1 a).1
theorem eval_atom {p:Pg} {m:Mm} {d0 d:Nat} {a:Ex} (hs:CtR.shape p d0 a=true) (ha:atom a=true):evalE m (d+1) a=(atV m a,[]):=by
  obtain ⟨k,v,rfl,hk⟩:=atom_mk hs ha
  rcases hk with ⟨rfl,_⟩ | ⟨rfl,_⟩<;>simp [evalE,atV]
theorem eval_c {m:Mm} {d:Nat} {n:Int}:evalE m (d+1) (cE n)=(n,[]):=by simp [evalE,cE]
theorem eval_v {m:Mm} {d:Nat} {v:Int}:evalE m (d+1) (vE v)=(nth m.vals v,[]):=by simp [evalE,vE]
theorem eval_sel {m:Mm} {d:Nat} {a b c:Ex}:(evalE m (d+1) (selE a b c)).1=if (evalE m d a).1 ≠ 0 then (evalE m d b).1 else (evalE m d c).1:=by simp [evalE,selE]
theorem eval_rdc {m:Mm} {d:Nat} {a k:Int}:(evalE m (d+2) (rdE a (cE k))).1=nth (arrAt m a) (k % 4):=by simp [evalE,rdE,cE]
theorem and3 {x:Int} (h:0≤x):((x.toNat &&& 3:Nat):Int)=x % 4:=by
  have h1:x.toNat &&& 3=x.toNat % 4:=Nat.and_two_pow_sub_one_eq_mod x.toNat 2
  rw [h1];omega
theorem eval_hit {p:Pg} {m:Mm} {d0 d:Nat} {a:Ex} {k:Int} (hs:CtR.shape p d0 a=true) (ha:atom a=true) (h0:0≤atV m a):(evalE m (d+3) (hitE a k)).1=if atV m a % 4=k then 1 else 0:=by
  have e1:=eval_atom (m:=m) (d:=d) hs ha
  have e2:=and3 h0
  simp only [hitE,bE,cE]
  rw [evalE]
  simp only [List.map_cons,List.map_nil]
  rw [evalE,evalE]
  simp only [List.map_cons,List.map_nil,e1]
  simp [evalE,bin,e2]
theorem eval_mask {m:Mm} {d:Nat} {mk:Int} {e f:Ex} (hm:0≤mk):(evalE m (d+2) (maskE mk e f)).1=if nth m.vals mk ≠ 0 then (evalE m (d+1) e).1 else (evalE m (d+1) f).1:=by
  unfold maskE
  rw [if_neg (by omega),eval_sel,eval_v]
theorem shape_sel {p:Pg} {d:Nat} {a b c:Ex} (h:CtR.shape p (d+1) (selE a b c)=true):CtR.shape p d a=true∧CtR.shape p d b=true∧CtR.shape p d c=true:=by
  obtain ⟨_,g2,_⟩:=shape_succ h
  exact ⟨g2 a (by simp),g2 b (by simp),g2 c (by simp)⟩
theorem rel_plain {D : Nat} : ∀ (l : List St1) (m : Mm), (∀ s ∈ l, s.kind = 1 ∨ s.kind = 2) → rel (foldR (runS (D + 1)) m l).2 = []
  | [],_,_=>rfl
  | .mk k t ix v c b e :: r,m,h=>by
    have ih:=fun m=>rel_plain (D:=D) r m fun s hs=>h s (by simp [hs])
    have hk:=h _ List.mem_cons_self
    simp only [foldR,rel_app,ih,List.append_nil]
    simp only [St1.kind] at hk
    rcases hk with rfl | rfl
    · rw [runS_1];exact rel_eval m 5 v
    · rw [runS_2];simp only [rel_app,rel_eval,List.nil_append];rfl
theorem setV_setV (m:Mm) (w:Nat) (x y:Int):setV (setV m w x) w y=setV m w y:=by simp [setV]
theorem atV_setV {p:Pg} {d:Nat} {m:Mm} {a:Ex} {w:Nat} {x:Int} (hs:CtR.shape p d a=true) (ha:atom a=true) (hw:p.vars.length≤w):atV (setV m w x) a=atV m a:=by
  obtain ⟨k,v,rfl,hk⟩:=atom_mk hs ha
  rcases hk with ⟨rfl,_⟩ | ⟨rfl,h0,h1⟩
  · simp [atV,evalE]
  · simp only [atV,evalE]
    simp only [Int.reduceEq,if_false,if_true]
    exact ((Agr.setV (m:=m) (x:=x) hw).nth h0 h1).symm
theorem run_read {p : Pg} {D d : Nat} {m : Mm} {w : Nat} {v : Int} {a : Ex} (hs : CtR.shape p d a = true) (ha : atom a = true) (hw : p.vars.length ≤ w) (hl : w < m.vals.length) (h0 : 0 ≤ atV m a) :
    (foldR (runS (D+1)) m (readS w v a)).1=setV m w (nth (arrAt m v) (atV m a % 4)):=by
  have hv:∀ x,nth (setV m w x).vals (w:Int)=x:=fun x=>by unfold setV;rw [Int.toNat_natCast];exact nth_set hl
  have har:∀ x,arrAt (setV m w x) v=arrAt m v:=fun x=>rfl
  have step:∀ (k:Nat) (x:Int),k<4→(runS (D+1) (setV m w x) (readN w v a k)).1=setV m w (if atV m a % 4=k then nth (arrAt m v) k else x):=fun k x hk=>by
    have e0:atV (setV m w x) a=atV m a:=atV_setV hs ha hw
    have e1:=eval_hit (m:=setV m w x) (d:=1) (k:=k) hs ha (by rw [e0];exact h0)
    have hk4:(k:Int) % 4=k:=by omega
    unfold readN asg
    rw [runS_1]
    simp only [eval_sel,e1,eval_v,eval_rdc,e0,hv,har,setV_setV,hk4]
    congr 1
    split<;>simp_all
  have s0:(runS (D+1) m (asg w (rdE v (cE 0)))).1=setV m w (nth (arrAt m v) 0):=by
    unfold asg;rw [runS_1];simp only [eval_rdc];rfl
  simp only [readS,foldR,s0]
  rw [step 1 _ (by omega),step 2 _ (by omega),step 3 _ (by omega)]
  congr 1
  have:atV m a % 4=0∨atV m a % 4=1∨atV m a % 4=2∨atV m a % 4=3:=by omega
  rcases this with h | h | h | h<;>simp [h]
structure LinE (ar : List Int) (q : Pg) (vs : List Int) (d : Nat) (e : Ex) (R : List Int × List St1 × Ex) : Prop where
  more:∃ w,R.1=vs++w
  shp:CtR.shape ⟨R.1,ar,[]⟩ d R.2.2=true
  knd:∀ s ∈ R.2.1,s.kind=1
  run:∀ D m,(∀ s ∈ R.2.1,stmtOK q (D+1) s=true)→MemFits q m→R.1.length≤q.vars.length →
    Agr vs.length m (foldR (runS (D+1)) m R.2.1).1∧∀ m2,Agr R.1.length (foldR (runS (D+1)) m R.2.1).1 m2→(evalE m2 d R.2.2).1=(evalE m d e).1
structure LinK (ar : List Int) (q : Pg) (vs : List Int) (d : Nat) (ks : List Ex) (R : List Int × List St1 × List Ex) : Prop where
  more:∃ w,R.1=vs++w
  len:R.2.2.length=ks.length
  shp:∀ x ∈ R.2.2,CtR.shape ⟨R.1,ar,[]⟩ d x=true
  knd:∀ s ∈ R.2.1,s.kind=1
  run:∀ D m,(∀ s ∈ R.2.1,stmtOK q (D+1) s=true)→MemFits q m→R.1.length≤q.vars.length →
    Agr vs.length m (foldR (runS (D+1)) m R.2.1).1∧∀ m2,Agr R.1.length (foldR (runS (D+1)) m R.2.1).1 m2→(R.2.2.map fun e=>(evalE m2 d e).1)=ks.map fun e=>(evalE m d e).1
theorem linK_ok {ar:List Int} {q:Pg} {d:Nat} {f:List Int→Ex→List Int × List St1 × Ex}:∀ (ks:List Ex) (vs:List Int),(∀ x ∈ ks,CtR.shape ⟨vs,ar,[]⟩ d x=true) →
    (∀ vs e,CtR.shape ⟨vs,ar,[]⟩ d e=true→LinE ar q vs d e (f vs e))→LinK ar q vs d ks (linK f vs ks)
  | [],vs,_,_=>⟨⟨[],by simp [linK]⟩,rfl,by simp [linK],by simp [linK],fun D m _ _ _=>⟨Agr.refl _ _,fun _ _=>rfl⟩⟩
  | e :: r,vs,hs,hf=>by
    have h1:=hf vs e (hs e (by simp))
    obtain ⟨w1,e1⟩:=h1.more
    have hle1:vs.length≤(f vs e).1.length:=by rw [e1];simp
    have h2:=linK_ok r (f vs e).1 (fun x hx=>shape_mono (p:=⟨vs,ar,[]⟩) (q:=⟨(f vs e).1,ar,[]⟩) hle1 rfl d x (hs x (by simp [hx]))) hf
    obtain ⟨w2,e2⟩:=h2.more
    have hle2:(f vs e).1.length≤(linK f (f vs e).1 r).1.length:=by rw [e2];simp
    refine ⟨⟨w1++w2,by simp only [linK];rw [e2,e1,List.append_assoc]⟩,by simp [linK,h2.len],?_,?_,?_⟩
    · intro x hx
      simp only [linK,List.mem_cons] at hx ⊢
      rcases hx with rfl | hx
      · exact shape_mono (p:=⟨(f vs e).1,ar,[]⟩) (q:=⟨(linK f (f vs e).1 r).1,ar,[]⟩) hle2 rfl d _ h1.shp
      · exact h2.shp x hx
    · intro s hs
      simp only [linK,List.mem_append] at hs
      rcases hs with hs | hs
      · exact h1.knd s hs
      · exact h2.knd s hs
    · intro D m hok hm hle
      simp only [linK] at hok hle ⊢
      have ok1:∀ s ∈ (f vs e).2.1,stmtOK q (D+1) s=true:=fun s hs=>hok s (by simp [hs])
      have ok2:∀ s ∈ (linK f (f vs e).1 r).2.1,stmtOK q (D+1) s=true:=fun s hs=>hok s (by simp [hs])
      obtain ⟨a1,b1⟩:=h1.run D m ok1 hm (by omega)
      have hm1:MemFits q (foldR (runS (D+1)) m (f vs e).2.1).1:=(runL_ok hm ok1).1
      obtain ⟨a2,b2⟩:=h2.run D _ ok2 hm1 hle
      rw [foldR_app]
      refine ⟨a1.trans (a2.le hle1),fun m2 hm2=>?_⟩
      simp only [List.map_cons]
      rw [b1 m2 (a2.trans (hm2.le hle2)),b2 m2 hm2]
      congr 1
      refine List.map_congr_left fun x hx=>?_
      rw [evalE_agr (p:=⟨vs,ar,[]⟩) (Nat.le_refl _) a1 d x (hs x (by simp [hx]))]
theorem linE_ok {ar : List Int} {q : Pg} (hna : q.arrays.length = ar.length) (pc : Nat) : ∀ (d : Nat) (vs : List Int) (e : Ex), CtR.shape ⟨vs, ar, []⟩ d e = true → LinE ar q vs d e (linE ar pc d vs e)
  | 0,vs,e,h=>by simp [CtR.shape] at h
  | d+1,vs,.mk k v ks,h=>by
    by_cases k3:k=3
    · subst k3
      obtain ⟨a,rfl,hs,ha,hv0,hv1⟩:=read_kid h
      rw [lin_read hs ha]
      split
      · have hc:(vs.length:Int)<(vs++lab1 (labN vs ar (d+1) (.mk 3 v [a])) pc).length:=by simp [lab1];omega
        refine ⟨⟨_,rfl⟩,shape_of (fitsE_true rfl (by omega) (by simpa [limit] using hc)) (by simp) (by simp),by simp [readS,readN,asg,St1.kind],?_⟩
        intro D m hok hm hle
        simp only [List.length_append,lab1,List.length_singleton] at hle
        have hl:vs.length<m.vals.length:=by rw [hm.nv];omega
        have h0:0≤atV m a:=by
          have hs1:=shape_mono (q:=q) (by simp;omega) (by simpa using hna.symm) d a hs
          match d,hs1 with
          | 0,hs1=>simp [CtR.shape] at hs1
          | d+1,hs1 =>
            have:=evalE_range hm (d+1) a hs1
            rw [eval_atom hs ha] at this
            exact this.1
        have hr:=run_read (D:=D) (v:=v) hs ha (Nat.le_refl _) hl h0
        simp only at hr
        rw [hr]
        refine ⟨Agr.setV (Nat.le_refl _),fun m2 hm2=>?_⟩
        rw [eval_v]
        simp only
        rw [← hm2.nth (by omega) hc]
        have:(setV m (vs.length:Int) (nth (arrAt m v) (atV m a % 4))).vals=m.vals.set vs.length (nth (arrAt m v) (atV m a % 4)):=by unfold setV;rw [Int.toNat_natCast]
        rw [this,nth_set hl]
        match d,hs with
        | 0,hs=>simp [CtR.shape] at hs
        | d+1,hs =>
          rw [evalE]
          simp [eval_atom hs ha]
      · refine ⟨⟨[],by simp⟩,h,by simp,fun D m _ _ _=>⟨Agr.refl _ _,fun m2 hm2=>?_⟩⟩
        simp only [foldR] at hm2
        rw [evalE_agr (p:=⟨vs,ar,[]⟩) (Nat.le_refl _) hm2 (d+1) _ h]
    · obtain ⟨g1,g2,g3⟩:=shape_succ h
      obtain ⟨_,gb,c,gl⟩:=fits_len g1
      have hk:=linK_ok ks vs g2 fun vs e hs=>linE_ok (q:=q) hna pc d vs e hs
      have he:linE ar pc (d+1) vs (.mk k v ks)=((linK (linE ar pc d) vs ks).1,(linK (linE ar pc d) vs ks).2.1,.mk k v (linK (linE ar pc d) vs ks).2.2):=by
        rw [linE,if_neg (fun h=>k3 h.1)]
      rw [he]
      generalize linK (linE ar pc d) vs ks=R at hk
      obtain ⟨w,ew⟩:=hk.more
      have hle:vs.length≤R.1.length:=by rw [ew];simp
      have hlim:=limit_le (p:=⟨vs,ar,[]⟩) (q:=⟨R.1,ar,[]⟩) hle rfl k
      refine ⟨hk.more,shape_of (fitsE_true (by rw [hk.len];exact gb) c (Int.lt_of_lt_of_le gl hlim)) hk.shp (fun h=>absurd h k3),hk.knd,fun D m hok hm hl=>?_⟩
      obtain ⟨a1,b1⟩:=hk.run D m hok hm hl
      refine ⟨a1,fun m2 hm2=>?_⟩
      have e1:=b1 m2 hm2
      simp only [evalE,e1]
      by_cases k2:k=2
      · subst k2
        have hv:v<vs.length:=by simpa [limit] using gl
        have hn:=(a1.trans (hm2.le hle)).nth c hv
        simp [hn]
      · simp [k2,k3]
        split
        · rfl
        · split<;>simp
theorem shape_form {p : Pg} {d : Nat} {k v : Int} {ks : List Ex} (h : CtR.shape p (d + 1) (.mk k v ks) = true) :
    ((k=1∧0≤v∧v<256∨k=2)∧ks=[])∨(∃ a,k=3∧ks=[a]∧CtR.shape p d a=true∧atom a=true)∨(∃ a b,4≤k∧k≤10∧ks=[a,b]∧CtR.shape p d a=true∧CtR.shape p d b=true)
    ∨ (∃ a b c,k=11∧ks=[a,b,c]∧CtR.shape p d a=true∧CtR.shape p d b=true∧CtR.shape p d c=true):=by
  obtain ⟨g1,g2,g3⟩:=shape_succ h
  obtain ⟨_,b,c,e⟩:=fits_len g1
  by_cases k1:k=1∨k=2
  · left
    have:ks.length=0:=by rcases k1 with rfl | rfl<;>simp [arity] at b<;>simpa using b
    refine ⟨?_,List.length_eq_zero_iff.1 this⟩
    rcases k1 with rfl | rfl
    · exact .inl ⟨rfl,c,by simpa [limit] using e⟩
    · exact .inr rfl
  by_cases k3:k=3
  · subst k3
    obtain ⟨a,h1,h2,h3,_⟩:=read_kid h
    exact .inr (.inl ⟨a,rfl,h1,h2,h3⟩)
  by_cases k4:4≤k∧k≤10
  · have:ks.length=2:=by
      have:arity k=2:=by unfold arity;rw [if_neg k1,if_neg k3,if_pos k4]
      omega
    match ks,this with
    | [x,y],_=>exact .inr (.inr (.inl ⟨x,y,k4.1,k4.2,rfl,g2 x (by simp),g2 y (by simp)⟩))
  by_cases k11:k=11
  · subst k11
    have:ks.length=3:=by simp [arity] at b;omega
    match ks,this with
    | [x,y,z],_=>exact .inr (.inr (.inr ⟨x,y,z,rfl,rfl,g2 x (by simp),g2 y (by simp),g2 z (by simp)⟩))
  · have:arity k = -1:=by unfold arity;rw [if_neg k1,if_neg k3,if_neg k4,if_neg k11]
    omega
def act (mk:Int) (m:Mm):Bool:=decide (mk<0) || decide (nth m.vals mk ≠ 0)
structure Sim (n nf : Nat) (x : Mm × List Ev) (m' : Mm) (y : Mm × List Ev) : Prop where
  ag:Agr n x.1 y.1
  fr:∀ i,n≤i→i<nf→y.1.vals[i]? = m'.vals[i]?
  re:rel x.2=rel y.2
theorem Sim.act {n nf:Nat} {x:Mm × List Ev} {m':Mm} {y:Mm × List Ev} (h:Sim n nf x m' y) {mk:Int} (hm:mk<0∨n≤mk∧mk<nf):CtL.act mk y.1=CtL.act mk m':=by
  unfold CtL.act
  rcases hm with hm | ⟨h1,h2⟩
  · simp [hm]
  · have:nth y.1.vals mk=nth m'.vals mk:=by
      unfold nth
      rw [List.getD_eq_getElem?_getD,List.getD_eq_getElem?_getD,h.fr _ (by omega) (by omega)]
    rw [this]
theorem Sim.seq {n nf nf2:Nat} {x x2:Mm × List Ev} {m':Mm} {y y2:Mm × List Ev} (h:Sim n nf x m' y) (h2:Sim n nf2 x2 y.1 y2) (hl:nf≤nf2):Sim n nf (x2.1,x.2++x2.2) m' (y2.1,y.2++y2.2) :=
  ⟨h2.ag,fun i a b=>(h2.fr i a (by omega)).trans (h.fr i a b),by simp only [rel_app,h.re,h2.re]⟩
theorem Sim.pre {n nf nf2:Nat} {x:Mm × List Ev} {m' m1:Mm} {y:Mm × List Ev} {ev:List Ev} (h:Agr nf m' m1) (hr:rel ev=[]) (h2:Sim n nf2 x m1 y) (hl:nf≤nf2):Sim n nf x m' (y.1,ev++y.2) :=
  ⟨h2.ag,fun i a b=>(h2.fr i a (by omega)).trans (h.va i b).symm,by simp only [rel_app,hr,h2.re,List.nil_append]⟩
theorem Sim.refl {n nf:Nat} {m m':Mm} (h:Agr n m m'):Sim n nf (m,[]) m' (m',[]):=⟨h,fun _ _ _=>rfl,rfl⟩
structure SOK (p q : Pg) (vs : List Int) (x : Mm → Mm × List Ev) (mk : Int) (D : Nat) (R : List Int × List St1) : Prop where
  more:∃ w,R.1=vs++w
  run:∀ m m',(∀ s ∈ R.2,stmtOK q D s=true)→MemFits q m'→MemFits p m→R.1.length≤q.vars.length→Agr p.vars.length m m' →
    Sim p.vars.length vs.length (bif act mk m' then x m else (m,[])) m' (foldR (runS D) m' R.2)
def OKM (p:Pg) (mk:Int) (vs:List Int) (pc:Nat):Prop:=mk<0∨p.vars.length≤mk∧mk<vs.length∧pc ≠ 0
theorem OKM.more {p:Pg} {mk:Int} {vs ws:List Int} {pc:Nat} (h:OKM p mk vs pc) (hl:vs.length≤ws.length):OKM p mk ws pc:=by
  rcases h with h | ⟨h1,h2,h3⟩
  · exact .inl h
  · exact .inr ⟨h1,by omega,h3⟩
theorem OKM.rng {p:Pg} {mk:Int} {vs:List Int} {pc:Nat} (h:OKM p mk vs pc):mk<0∨(p.vars.length:Int)≤mk∧mk<vs.length:=by
  rcases h with h | ⟨h1,h2,h3⟩
  · exact .inl h
  · exact .inr ⟨h1,h2⟩
def Ext (p:Pg) (vs:List Int):Prop:=∃ w,vs=p.vars++w
theorem Ext.more {p:Pg} {vs ws:List Int} (h:Ext p vs) (h2:∃ w,ws=vs++w):Ext p ws:=by
  obtain ⟨a,rfl⟩:=h
  obtain ⟨b,rfl⟩:=h2
  exact ⟨a++b,by simp⟩
theorem Ext.le {p:Pg} {vs:List Int} (h:Ext p vs):p.vars.length≤vs.length:=by
  obtain ⟨a,rfl⟩:=h
  simp
theorem more_le {vs ws:List Int} (h:∃ w,ws=vs++w):vs.length≤ws.length:=by
  obtain ⟨a,rfl⟩:=h
  simp
theorem linB_of {p q : Pg} {d D : Nat} {mk : Int} {pc : Nat} {f : List Int → St1 → List Int × List St1} :
    ∀ (l:List St1) (vs:List Int),(∀ s ∈ l,stmtOK p d s=true)→Ext p vs→OKM p mk vs pc →
    (∀ s ∈ l,∀ vs,Ext p vs→OKM p mk vs pc→SOK p q vs (fun m=>runS d m s) mk D (f vs s))→SOK p q vs (fun m=>foldR (runS d) m l) mk D (linB f vs l)
  | [],vs,_,_,_,_=>⟨⟨[],by simp [linB]⟩,fun m m' _ _ _ _ h=>by
      cases hc:act mk m'<;>simp only [cond_true,cond_false,foldR,linB]<;>exact Sim.refl h⟩
  | s :: r,vs,hok,hx,hmk,hS=>by
    have h1:=hS s (by simp) vs hx hmk
    have hx1:=hx.more h1.more
    have hmk1:=hmk.more (more_le h1.more)
    have h2:=linB_of r (f vs s).1 (fun s hs=>hok s (by simp [hs])) hx1 hmk1 fun s hs=>hS s (by simp [hs])
    obtain ⟨w1,e1⟩:=h1.more
    obtain ⟨w2,e2⟩:=h2.more
    refine ⟨⟨w1++w2,by simp only [linB];rw [e2,e1,List.append_assoc]⟩,fun m m' ho hm' hm hl ha=>?_⟩
    simp only [linB] at ho hl ⊢
    have ok1:∀ z ∈ (f vs s).2,stmtOK q D z=true:=fun z hz=>ho z (by simp [hz])
    have ok2:∀ z ∈ (linB f (f vs s).1 r).2,stmtOK q D z=true:=fun z hz=>ho z (by simp [hz])
    have hle:(f vs s).1.length≤(linB f (f vs s).1 r).1.length:=by rw [e2];simp
    have g1:=h1.run m m' ok1 hm' hm (by omega) ha
    have ha1:=g1.act hmk.rng
    have hm1':MemFits q (foldR (runS D) m' (f vs s).2).1:=(runL_ok hm' ok1).1
    rw [foldR_app]
    cases hc:act mk m' with
    | true =>
      rw [hc] at g1 ha1
      simp only [cond_true] at g1 ⊢
      have hm1:MemFits p (runS d m s).1:=(runS_ok d m s hm (hok s (by simp))).1
      have g2:=h2.run _ _ ok2 hm1' hm1 hl g1.ag
      rw [ha1] at g2
      simp only [cond_true] at g2
      have:=g1.seq g2 (by rw [e1];simp)
      simpa only [foldR] using this
    | false =>
      rw [hc] at g1 ha1
      simp only [cond_false] at g1 ⊢
      have g2:=h2.run _ _ ok2 hm1' hm hl g1.ag
      rw [ha1] at g2
      simp only [cond_false] at g2
      have:=g1.seq g2 (by rw [e1];simp)
      simpa only [List.append_nil] using this
theorem Agr.setB {n:Nat} {m m1:Mm} (h:Agr n m m1) {t x:Int} (h0:0≤t) (ht:t<n) (hl:n≤m.vals.length) (hl1:n≤m1.vals.length):Agr n (CtR.setV m t x) (CtR.setV m1 t x):=⟨h.ar,fun i hi=>by
  have:=h.va i hi
  simp only [CtR.setV,List.getElem?_set]
  by_cases e:t.toNat=i
  · rw [if_pos e,if_pos e,if_pos (by omega),if_pos (by omega)]
  · rw [if_neg e,if_neg e,this]⟩
theorem setV_self {m:Mm} {t:Int} (h0:0≤t) (ht:t<m.vals.length):setV m t (nth m.vals t)=m:=by
  have h:=(nth_mem h0 ht).1
  have:m.vals.set t.toNat (nth m.vals t)=m.vals:=by
    apply List.ext_getElem?
    intro i
    rw [List.getElem?_set]
    by_cases e:t.toNat=i
    · rw [if_pos e,if_pos (by omega),← e,h]
    · rw [if_neg e]
  unfold setV
  rw [this]
theorem setA_self {m:Mm} {t i:Int} (h0:0≤t) (ht:t<m.arrays.length) (hi:0≤i) (hi2:i<(arrAt m t).length):setA m t i (nth (arrAt m t) i)=m:=by
  have h:=(nth_mem hi hi2).1
  have h2:=(arrAt_mem h0 ht).1
  have e1:(arrAt m t).set i.toNat (nth (arrAt m t) i)=arrAt m t:=by
    apply List.ext_getElem?
    intro j
    rw [List.getElem?_set]
    by_cases e:i.toNat=j
    · rw [if_pos e,if_pos (by omega),← e,h]
    · rw [if_neg e]
  have:m.arrays.set t.toNat (arrAt m t)=m.arrays:=by
    apply List.ext_getElem?
    intro j
    rw [List.getElem?_set]
    by_cases e:t.toNat=j
    · rw [if_pos e,if_pos (by omega),← e,h2]
    · rw [if_neg e]
  unfold setA
  rw [e1,this]
theorem arrAt_setA {m:Mm} {t i x:Int} (h0:0≤t) (ht:t<m.arrays.length):arrAt (setA m t i x) t=(arrAt m t).set i.toNat x:=by
  have:∀ a:List Int,arrAt ⟨m.vals,m.arrays.set t.toNat a⟩ t=a:=fun a=>by
    unfold arrAt
    rw [List.getD_eq_getElem?_getD,List.getElem?_set_self (by omega)]
    rfl
  exact this _
theorem mask_val {q:Pg} {mk:Int} {e f:Ex} {m:Mm} (h:CtR.shape q 5 (maskE mk e f)=true):(evalE m 5 (maskE mk e f)).1=bif act mk m then (evalE m 5 e).1 else (evalE m 5 f).1:=by
  unfold act
  by_cases hm:mk<0
  · simp [maskE,hm]
  · rw [eval_mask (by omega)]
    unfold maskE at h
    rw [if_neg hm] at h
    obtain ⟨_,h1,h2⟩:=shape_sel h
    rw [evalE_up 4 e h1,evalE_up 4 f h2]
    by_cases hz:nth m.vals mk=0<;>simp [hm,hz]
theorem act_agr {n:Nat} {m m1:Mm} {mk:Int} (h:Agr n m m1) (hm:mk<0∨0≤mk∧mk<n):act mk m1=act mk m:=by
  unfold act
  rcases hm with hm | ⟨h1,h2⟩
  · simp [hm]
  · rw [h.nth h1 h2]
theorem hit_mask {p:Pg} {mk:Int} {m:Mm} {d:Nat} {a:Ex} {k:Int} (hs:CtR.shape p d a=true) (ha:atom a=true) (h0:0≤atV m a):((evalE m 4 (maskE mk (hitE a k) (cE 0))).1 ≠ 0) ↔ (act mk m=true∧atV m a % 4=k):=by
  have e3:=eval_hit (m:=m) (d:=0) (k:=k) hs ha h0
  have e4:=eval_hit (m:=m) (d:=1) (k:=k) hs ha h0
  unfold act
  by_cases hm:mk<0
  · simp only [maskE,hm,if_true,e4]
    split<;>simp_all
  · rw [eval_mask (by omega),e3,eval_c]
    by_cases hz:nth m.vals mk=0
    · simp [hm,hz]
    · simp only [hm,hz,ne_eq,not_false_eq_true,if_true,decide_false,Bool.false_or,decide_true,true_and]
      split<;>simp_all
theorem atV_agr {p:Pg} {n d:Nat} {m m1:Mm} {a:Ex} (hs:CtR.shape p d a=true) (ha:atom a=true) (hn:p.vars.length≤n) (h:Agr n m m1):atV m1 a=atV m a:=by
  obtain ⟨k,v,rfl,hk⟩:=atom_mk hs ha
  rcases hk with ⟨rfl,_⟩ | ⟨rfl,h0,h1⟩
  · simp [atV,evalE]
  · simp only [atV,evalE]
    simp only [Int.reduceEq,if_false,if_true]
    exact (h.nth h0 (by omega)).symm
theorem run_stoN {p : Pg} {mk : Int} {m : Mm} {d D w : Nat} {t : Int} {a : Ex} {k : Nat} (hs : CtR.shape p d a = true) (ha : atom a = true) (h0 : 0 ≤ atV m a) (hk : k < 4) :
    (runS (D+1) m (stoN mk w t a k)).1=setA m t k (if act mk m=true∧atV m a % 4=k then nth m.vals w else nth (arrAt m t) k):=by
  have hk4:(k:Int) % 4=k:=by omega
  unfold stoN sto
  rw [runS_2]
  have:=hit_mask (mk:=mk) (k:=k) hs ha h0
  simp only [eval_sel,eval_c,eval_v,eval_rdc,hk4]
  by_cases hc:act mk m=true∧atV m a % 4=k
  · rw [if_pos hc,if_pos (this.2 hc)]
  · rw [if_neg hc,if_neg (fun h=>hc (this.1 h))]
theorem run_stoS {p : Pg} {mk : Int} {m : Mm} {d D w : Nat} {t : Int} {a : Ex} (hs : CtR.shape p d a = true) (ha : atom a = true) (h0 : 0 ≤ atV m a) (ht0 : 0 ≤ t) (ht : t < m.arrays.length) (h4 : (arrAt m t).length = 4) :
    (foldR (runS (D+1)) m (stoS mk w t a)).1=bif act mk m then setA m t (atV m a % 4) (nth m.vals w) else m:=by
  have hval:∀ i x,(setA m t i x).vals=m.vals:=fun _ _=>rfl
  have hact:∀ m',m'.vals=m.vals→act mk m'=act mk m:=fun m' h=>by unfold act;rw [h]
  have hat:∀ m',m'.vals=m.vals→atV m' a=atV m a:=fun m' h=>by
    obtain ⟨k,v,rfl,hk⟩:=atom_mk hs ha
    rcases hk with ⟨rfl,_⟩ | ⟨rfl,_⟩<;>simp [atV,evalE,h]
  have step:∀ (m':Mm) (k:Nat),m'.vals=m.vals→k<4→(runS (D+1) m' (stoN mk w t a k)).1=setA m' t k (if act mk m=true∧atV m a % 4=k then nth m.vals w else nth (arrAt m' t) k):=fun m' k hv hk=>by
    rw [run_stoN hs ha (by rw [hat m' hv];exact h0) hk,hact m' hv,hat m' hv,hv]
  have self:∀ (m':Mm) (k:Nat),m'.arrays.length=m.arrays.length→(arrAt m' t).length=4→k<4→setA m' t k (nth (arrAt m' t) k)=m':=fun m' k ha h4 hk =>
    setA_self ht0 (by omega) (by omega) (by omega)
  simp only [stoS,foldR]
  cases hc:act mk m with
  | false =>
    simp only [hc,Bool.false_eq_true,false_and,if_false] at step
    rw [step m 0 rfl (by omega),self m 0 rfl h4 (by omega),step m 1 rfl (by omega),self m 1 rfl h4 (by omega),step m 2 rfl (by omega),self m 2 rfl h4 (by omega),step m 3 rfl (by omega),self m 3 rfl h4 (by omega)]
    rfl
  | true =>
    simp only [hc,true_and] at step
    have hq:atV m a % 4=0∨atV m a % 4=1∨atV m a % 4=2∨atV m a % 4=3:=by omega
    have l2:∀ i x,(setA m t i x).arrays.length=m.arrays.length:=fun i x=>by simp [setA]
    have l3:∀ i x,(arrAt (setA m t i x) t).length=4:=fun i x=>by rw [arrAt_setA ht0 ht,List.length_set,h4]
    have yes:∀ (m':Mm) (k:Nat),m'.vals=m.vals→k<4→atV m a % 4=k→(runS (D+1) m' (stoN mk w t a k)).1=setA m' t k (nth m.vals w):=fun m' k hv hk he=>by rw [step m' k hv hk,if_pos he]
    have no:∀ (m':Mm) (k:Nat),m'.vals=m.vals→k<4→atV m a % 4 ≠ k→m'.arrays.length=m.arrays.length→(arrAt m' t).length=4→(runS (D+1) m' (stoN mk w t a k)).1=m':=fun m' k hv hk he g1 g2=>by
      rw [step m' k hv hk,if_neg he,self m' k g1 g2 hk]
    simp only [cond_true]
    rcases hq with h | h | h | h
    · rw [yes m 0 rfl (by omega) h,no _ 1 (hval _ _) (by omega) (by omega) (l2 _ _) (l3 _ _),no _ 2 (hval _ _) (by omega) (by omega) (l2 _ _) (l3 _ _),no _ 3 (hval _ _) (by omega) (by omega) (l2 _ _) (l3 _ _),h];rfl
    · rw [no m 0 rfl (by omega) (by omega) rfl h4,yes m 1 rfl (by omega) h,no _ 2 (hval _ _) (by omega) (by omega) (l2 _ _) (l3 _ _),no _ 3 (hval _ _) (by omega) (by omega) (l2 _ _) (l3 _ _),h];rfl
    · rw [no m 0 rfl (by omega) (by omega) rfl h4,no m 1 rfl (by omega) (by omega) rfl h4,yes m 2 rfl (by omega) h,no _ 3 (hval _ _) (by omega) (by omega) (l2 _ _) (l3 _ _),h];rfl
    · rw [no m 0 rfl (by omega) (by omega) rfl h4,no m 1 rfl (by omega) (by omega) rfl h4,no m 2 rfl (by omega) (by omega) rfl h4,yes m 3 rfl (by omega) h,h];rfl
end Go.Proofs.YtmjkgjkkpaephaaGreat.CtL
