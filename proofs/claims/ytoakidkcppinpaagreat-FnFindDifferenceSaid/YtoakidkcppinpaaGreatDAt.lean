/- Contracts of functions of the program, one behind the other, as plain data: what each call returns and which blocks it leaves. -/
import Derived.Test.YtoakidkcppinpaaGreatDFacts
import Derived.Test.YtoakidkcppinpaaGreatDAi
import Derived.Test.YtoakidkcppinpaaGreatDAl
import Derived.Test.YtoakidkcppinpaaGreatDAn
import Derived.Test.YtoakidkcppinpaaGreatDAo
import Derived.Test.YtoakidkcppinpaaGreatDAp
import Derived.Test.YtoakidkcppinpaaGreatDAq
import Derived.Test.YtoakidkcppinpaaGreatDAm
import Derived.Test.YtoakidkcppinpaaGreatDAs
set_option linter.unusedVariables false
set_option linter.unusedSimpArgs false
set_option linter.unusedSectionVars false
set_option maxHeartbeats 16000000
set_option maxRecDepth 100000
namespace Go.Proofs.YtoakidkcppinpaaGreat.CtR
open Go Go.CT CtF
variable [Yn]
theorem fdif_iff : ∀ (xs ys : List Ev) (n : Int), 0 ≤ n → (fdif xs ys n = -1 ↔ xs = ys)
  | [],[],n,_=>by simp [fdif]
  | [],b :: r,n,h=>by simp [fdif];omega
  | a :: r,[],n,h=>by simp [fdif];omega
  | a :: r,b :: s,n,h=>by
    obtain ⟨ak,av⟩:=a
    obtain ⟨bk,bv⟩:=b
    simp only [fdif]
    split
    · rename_i he
      obtain ⟨rfl,rfl⟩:=he
      rw [fdif_iff r s (n+1) (by omega)];simp
    · rename_i he
      constructor
      · intro h1;omega
      · intro h1;simp at h1;exact absurd ⟨h1.1.1,h1.1.2⟩ he
theorem firstDifferenceS (xs ys:List Ev) (hl:xs.length≤mx) (hlen:xs.length=ys.length):DC Tryz.prog 53 [.c (trD xs),.c (trD ys)] [] (fun r h=>r=DI .i64 (fdif xs ys 0)∧h=[]):=by
  have hmx:=mx_eq
  have ret:∀ (n:Int) (hp:Hp),n=fdif xs ys 0→RetOb 0 (fun r h=>r=DI .i64 (fdif xs ys 0)∧h=[]) (DI .i64 n) hp:=fun n hp h=>RetOb.plain (d:=DI .i64 _) ⟨by rw [h],rfl⟩ rfl
  generalize hR:(fun (r:D) (h:List (Option (List C)))=>r=DI .i64 (fdif xs ys 0)∧h=[])=R at ret ⊢
  clear hR
  refine dcZ Tryz.func53 ?_
  simp only [go_sem,trD]
  ((try (refine drvZ Tryz.func53 ?_;simp only [go_sem,trD]));((with_reducible and_intros)<;>try exact sd))
  refine Go.loopQ (fun i:Nat=>[(0,.c (trD xs)),(1,.c (trD ys)),(5,DI .i64 i)]) (fun _=>[]) 1024 (fun i=>i≤xs.length∧fdif (xs.drop i) (ys.drop i) i=fdif xs ys 0) (fun i=>xs.length - i) ?_ 0 some [] _ ⟨Nat.zero_le _,rfl⟩ ?_
  · intro i hi again
    have hI:=hi.2
    rcases Nat.lt_or_ge i xs.length with hlt | hge
    · have hlt2:i<ys.length:=by omega
      obtain ⟨x,hxx⟩:∃ x,xs[i]? = some x:=⟨xs[i],by simp [hlt]⟩
      obtain ⟨y,hyy⟩:∃ y,ys[i]? = some y:=⟨ys[i],by simp [hlt2]⟩
      rw [List.drop_eq_getElem_cons hlt,List.drop_eq_getElem_cons hlt2,(List.getElem?_eq_some_iff.1 hxx).2,(List.getElem?_eq_some_iff.1 hyy).2] at hI
      obtain ⟨xk,xv⟩:=x
      obtain ⟨yk,yv⟩:=y
      simp only [fdif] at hI
      by_cases he:xk=yk∧xv=yv
      · obtain ⟨rfl,rfl⟩:=he
        rw [if_pos ⟨rfl,rfl⟩] at hI
        refine drvL Tryz.func53 ?_
        simp only [go_sem,trD,hlt,hlt2]
        iterate 4 ((try (refine drvZ Tryz.func53 ?_;simp only [go_sem,trD,hlt,hlt2,hxx,hyy,Ev.cells]));((with_reducible and_intros)<;>try exact sd))
        refine again (i+1) some [] _ ⟨hlt,by rw [← hI];rfl⟩ (by omega) ?_
        simp only [go_sem,TmOK,DM,DMs,CM,CMs,forall_eq,exists_eq_left,Mq,HpOK,LowOK,trD]
        try simp
      · rw [if_neg he] at hI
        have hd:(decide (xk=yk) && decide (xv=yv))=false:=by
          cases h1:decide (xk=yk) with
          | false=>rfl
          | true =>
            cases h2:decide (xv=yv) with
            | false=>rfl
            | true=>exact absurd ⟨of_decide_eq_true h1,of_decide_eq_true h2⟩ he
        refine drvL Tryz.func53 ?_
        simp only [go_sem,trD,hlt,hlt2]
        iterate 4 ((try (refine drvZ Tryz.func53 ?_;simp only [go_sem,trD,hlt,hlt2,hxx,hyy,Ev.cells,hd]));((with_reducible and_intros)<;>try exact sd))
        exact ret _ _ hI
    · have hn:¬ i<xs.length:=by omega
      have hn2:¬ xs.length<ys.length:=by omega
      have hn3:¬ ys.length<xs.length:=by omega
      refine drvL Tryz.func53 ?_
      simp only [go_sem,trD,hn,hn2,hn3]
      iterate 3 ((try (refine drvZ Tryz.func53 ?_;simp only [go_sem,trD,hn,hn2,hn3]));((with_reducible and_intros)<;>try exact sd))
      have e1:xs.drop i=[]:=List.drop_of_length_le (by omega)
      have e2:ys.drop i=[]:=List.drop_of_length_le (by omega)
      exact ret _ _ (by rw [← hI,e1,e2];rfl)
  · simp only [go_sem,TmOK,DM,DMs,CM,CMs,forall_eq,exists_eq_left,Mq,HpOK,LowOK,trD]
    try simp
theorem traceSameS (xs ys:List Ev) (hl:xs.length≤mx):DC Tryz.prog 29 [.c (trD xs),.c (trD ys)] [] (fun r h=>r=DB (trSame xs ys)∧h=[]):=by
  have hmx:=mx_eq
  have ret:∀ (b:Bool) (hp:Hp),b=trSame xs ys→RetOb 0 (fun r h=>r=DB (trSame xs ys)∧h=[]) (DB b) hp:=fun b hp h=>RetOb.plain (d:=DB _) ⟨by rw [h],rfl⟩ rfl
  generalize hR:(fun (r:D) (h:List (Option (List C)))=>r=DB (trSame xs ys)∧h=[])=R at ret ⊢
  clear hR
  by_cases hlen:xs.length=ys.length
  · have hfd:=firstDifferenceS xs ys hl hlen
    have hfi:=fdif_iff xs ys 0 (by omega)
    generalize fdif xs ys 0=n at *
    have he:((xs.length:Int)=(ys.length:Int))=True:=eq_true (by omega)
    have hb:((xs.length:Int) == (ys.length:Int))=true:=by simp [hlen]
    refine dcZ Tryz.func29 ?_
    simp only [go_sem,trD,he,hb]
    iterate 3 ((try (refine drvZ Tryz.func29 ?_;simp only [go_sem,trD,he,hb]));((with_reducible and_intros)<;>try exact sd);(try first | refine XK.p hfd ok53 ?_ | refine XK.gp hfd ok53 ?_))
    refine ret _ _ ?_
    rw [Bool.eq_iff_iff,trSame_iff,← hfi]
    simp
  · have he:((xs.length:Int)=(ys.length:Int))=False:=eq_false (by omega)
    have hb:((xs.length:Int) == (ys.length:Int))=false:=by simp;omega
    refine dcZ Tryz.func29 ?_
    simp only [go_sem,trD,he,hb]
    iterate 3 ((try (refine drvZ Tryz.func29 ?_;simp only [go_sem,trD,he,hb]));((with_reducible and_intros)<;>try exact sd);(try first | refine XK.gs (DI .i64 0) ?_))
    refine ret _ _ ?_
    cases h:trSame xs ys with
    | false=>rfl
    | true=>exact absurd (by rw [(trSame_iff xs ys).1 h]) hlen
end Go.Proofs.YtoakidkcppinpaaGreat.CtR
namespace Go.Proofs.YtoakidkcppinpaaGreat.CtR
variable [Go.CT.Yn]
open Go Go.CT CtF
end Go.Proofs.YtoakidkcppinpaaGreat.CtR
namespace Go.Proofs.YtoakidkcppinpaaGreat.CtD
open Go Go.CT CtF CtR
variable [Yn]
def trsC (l:List (List Ev)):List C:=l.map trD
theorem trsC_len (l:List (List Ev)):(trsC l).length=l.length:=by simp [trsC]
theorem trsC_kf (l:List (List Ev)):∀ c ∈ trsC l,kf c=true:=fun c hc=>by
  obtain ⟨t,_,rfl⟩:=List.mem_map.1 hc;rfl
def ko (l:List Nat):List Int:=l.map (fun k:Nat=>(k:Int))
theorem trsC_snoc (l:List (List Ev)) (t:List Ev):trsC (l++[t])=trsC l++[trD t]:=by simp [trsC]
end Go.Proofs.YtoakidkcppinpaaGreat.CtD
namespace Go.Proofs.YtoakidkcppinpaaGreat.CtL
variable [Go.CT.Yn]
open Go Go.CT CtF CtR
def e0:Ex := .mk 0 0 []
def cE (n:Int):Ex := .mk 1 n []
def vE (v:Int):Ex := .mk 2 v []
def rdE (a:Int) (i:Ex):Ex := .mk 3 a [i]
def bE (k:Int) (a b:Ex):Ex := .mk k 0 [a,b]
def selE (a b c:Ex):Ex := .mk 11 0 [a,b,c]
def hitE (i:Ex) (k:Int):Ex:=bE 9 (bE 7 i (cE 3)) (cE k)
def asg (v:Int) (e:Ex):St1 := .mk 1 v e0 e 0 [] []
def sto (t:Int) (i e:Ex):St1 := .mk 2 t i e 0 [] []
def maskE (mk:Int) (e f:Ex):Ex:=if mk<0 then e else selE (vE mk) e f
def readN (w:Nat) (a:Int) (i:Ex) (k:Nat):St1:=asg w (selE (hitE i k) (rdE a (cE k)) (vE w))
def readS (w:Nat) (a:Int) (i:Ex):List St1:=[asg w (rdE a (cE 0)),readN w a i 1,readN w a i 2,readN w a i 3]
def stoN (mk:Int) (w:Nat) (t:Int) (i:Ex) (k:Nat):St1:=sto t (cE k) (selE (maskE mk (hitE i k) (cE 0)) (vE w) (rdE t (cE k)))
def stoS (mk:Int) (w:Nat) (t:Int) (i:Ex):List St1:=[stoN mk w t i 0,stoN mk w t i 1,stoN mk w t i 2,stoN mk w t i 3]
def linK (f : List Int → Ex → List Int × List St1 × Ex) : List Int → List Ex → List Int × List St1 × List Ex
  | vs,[]=>(vs,[],[])
  | vs,e :: r=>((linK f (f vs e).1 r).1,(f vs e).2.1++(linK f (f vs e).1 r).2.1,(f vs e).2.2 :: (linK f (f vs e).1 r).2.2)
def lab1 (a b:Nat):List Int:=[((a ||| b:Nat):Int)]
def linE (ar : List Int) (pc : Nat) : Nat → List Int → Ex → List Int × List St1 × Ex
  | 0,vs,e=>(vs,[],e)
  | d+1,vs,.mk k v ks =>
    if k=3∧secL (labN (linK (linE ar pc d) vs ks).1 ar d (kid0 ks))=true then
      ((linK (linE ar pc d) vs ks).1++lab1 (labN (linK (linE ar pc d) vs ks).1 ar (d+1) (.mk k v ks)) pc,
        (linK (linE ar pc d) vs ks).2.1++readS (linK (linE ar pc d) vs ks).1.length v (kid0 ks),vE (linK (linE ar pc d) vs ks).1.length)
    else ((linK (linE ar pc d) vs ks).1,(linK (linE ar pc d) vs ks).2.1,.mk k v (linK (linE ar pc d) vs ks).2.2)
def linB (f : List Int → St1 → List Int × List St1) : List Int → List St1 → List Int × List St1
  | vs,[]=>(vs,[])
  | vs,s :: r=>((linB f (f vs s).1 r).1,(f vs s).2++(linB f (f vs s).1 r).2)
def linO (ar:List Int) (mk:Int) (pc:Nat) (E:List Int × List St1 × Ex) (k t:Int) (ix:Ex):List Int × List St1 :=
  if k=5 then (E.1,E.2.1++[.mk 5 t e0 E.2.2 0 [] []])
  else if k=1 then (E.1,E.2.1++[asg t (maskE mk E.2.2 (vE t))])
  else if secL (labN E.1 ar 5 ix)=true then (E.1++lab1 (labN E.1 ar 5 E.2.2) pc,E.2.1++asg E.1.length E.2.2 :: stoS mk E.1.length t ix)
  else (E.1,E.2.1++[sto t ix (maskE mk E.2.2 (rdE t ix))])
def maskS (mk:Int) (w:Nat) (e:Ex):List St1:=[asg w (maskE mk e (cE 0)),asg (w+1:Nat) (maskE mk (bE 9 (vE w) (cE 0)) (cE 0))]
def linI (f:Int→Nat→List Int→List St1→List Int × List St1) (mk:Int) (pc l:Nat) (E:List Int × List St1 × Ex) (b e:List St1):List Int × List St1 :=
  if secL l=true then
    ((f (E.1.length+1:Nat) (pc ||| l) (f E.1.length (pc ||| l) (E.1++lab1 pc l++lab1 pc l) b).1 e).1,
      E.2.1++maskS mk E.1.length E.2.2++(f E.1.length (pc ||| l) (E.1++lab1 pc l++lab1 pc l) b).2++(f (E.1.length+1:Nat) (pc ||| l) (f E.1.length (pc ||| l) (E.1++lab1 pc l++lab1 pc l) b).1 e).2)
  else ((f mk (pc ||| l) (f mk (pc ||| l) E.1 b).1 e).1,E.2.1++[.mk 3 0 e0 E.2.2 0 (f mk (pc ||| l) E.1 b).2 (f mk (pc ||| l) (f mk (pc ||| l) E.1 b).1 e).2])
def linS (ar : List Int) : Nat → Int → Nat → List Int → St1 → List Int × List St1
  | 0,_,_,vs,_=>(vs,[])
  | d+1,mk,pc,vs,.mk k t ix v c b e =>
    if k=4 then ((linB (linS ar d mk pc) vs b).1,[.mk 4 0 e0 e0 c (linB (linS ar d mk pc) vs b).2 []])
    else if k=3 then linI (fun mk pc vs l=>linB (linS ar d mk pc) vs l) mk pc (labN vs ar 5 v) (linE ar pc 5 vs v) b e
    else linO ar mk pc (linE ar pc 5 vs v) k t ix
theorem linS_4 {ar:List Int} {d:Nat} {mk:Int} {pc:Nat} {vs:List Int} {t:Int} {ix v:Ex} {c:Int} {b e:List St1}:linS ar (d+1) mk pc vs (.mk 4 t ix v c b e)=((linB (linS ar d mk pc) vs b).1,[.mk 4 0 e0 e0 c (linB (linS ar d mk pc) vs b).2 []]):=by simp [linS]
theorem linS_3 {ar:List Int} {d:Nat} {mk:Int} {pc:Nat} {vs:List Int} {t:Int} {ix v:Ex} {c:Int} {b e:List St1}:linS ar (d+1) mk pc vs (.mk 3 t ix v c b e)=linI (fun mk pc vs l=>linB (linS ar d mk pc) vs l) mk pc (labN vs ar 5 v) (linE ar pc 5 vs v) b e:=by simp [linS]
theorem linS_o {ar:List Int} {d:Nat} {mk:Int} {pc:Nat} {vs:List Int} {k t:Int} {ix v:Ex} {c:Int} {b e:List St1} (h4:k ≠ 4) (h3:k ≠ 3):linS ar (d+1) mk pc vs (.mk k t ix v c b e)=linO ar mk pc (linE ar pc 5 vs v) k t ix:=by simp [linS,h3,h4]
theorem linO_5 {ar:List Int} {mk:Int} {pc:Nat} {E:List Int × List St1 × Ex} {t:Int} {ix:Ex}:linO ar mk pc E 5 t ix=(E.1,E.2.1++[.mk 5 t e0 E.2.2 0 [] []]):=by simp [linO]
theorem linO_1 {ar:List Int} {mk:Int} {pc:Nat} {E:List Int × List St1 × Ex} {t:Int} {ix:Ex}:linO ar mk pc E 1 t ix=(E.1,E.2.1++[asg t (maskE mk E.2.2 (vE t))]):=by simp [linO]
theorem linO_2 {ar : List Int} {mk : Int} {pc : Nat} {E : List Int × List St1 × Ex} {t : Int} {ix : Ex} : linO ar mk pc E 2 t ix = if secL (labN E.1 ar 5 ix) = true then (E.1 ++ lab1 (labN E.1 ar 5 E.2.2) pc, E.2.1 ++ asg E.1.length E.2.2 :: stoS mk E.1.length t ix)
  else (E.1,E.2.1++[sto t ix (maskE mk E.2.2 (rdE t ix))]):=by simp [linO]
def linQ (p:Pg):Pg:=⟨(linB (linS p.arrays 5 (-1) 0) p.vars p.body).1,p.arrays,(linB (linS p.arrays 5 (-1) 0) p.vars p.body).2⟩
def linP (p:Pg):Pg × Bool:=if fineP flowR p=true∧progOK (linQ p)=true then (linQ p,true) else (⟨[],[],[]⟩,false)
theorem shape_of {p:Pg} {d:Nat} {k v:Int} {ks:List Ex} (h1:fitsE p k v ks.length=true) (h2:∀ x ∈ ks,CtR.shape p d x=true) (h3:k=3→headAtom ks=true):CtR.shape p (d+1) (.mk k v ks)=true:=by
  simp only [CtR.shape,Bool.and_eq_true,List.all_eq_true,Bool.or_eq_true]
  refine ⟨⟨h1,h2⟩,?_⟩
  by_cases hk:k=3
  · exact .inr (h3 hk)
  · exact .inl (by simpa using hk)
theorem limit_le {p q:Pg} (h1:p.vars.length≤q.vars.length) (h2:p.arrays.length=q.arrays.length) (k:Int):limit p k≤limit q k:=by
  unfold limit;repeat' split
  all_goals omega
theorem shape_mono {p q : Pg} (h1 : p.vars.length ≤ q.vars.length) (h2 : p.arrays.length = q.arrays.length) : ∀ (d : Nat) (e : Ex), CtR.shape p d e = true → CtR.shape q d e = true
  | 0,_,h=>by simp [CtR.shape] at h
  | d+1,.mk k v ks,h=>by
    obtain ⟨g1,g2,g3⟩:=shape_succ h
    have hl:=limit_le h1 h2 k
    obtain ⟨a,b,c,e⟩:=fits_len g1
    exact shape_of (fitsE_true b c (by omega)) (fun x hx=>shape_mono h1 h2 d x (g2 x hx)) g3
theorem shape_up {p : Pg} : ∀ (d : Nat) (e : Ex), CtR.shape p d e = true → CtR.shape p (d + 1) e = true
  | 0,_,h=>by simp [CtR.shape] at h
  | d+1,.mk k v ks,h=>by
    obtain ⟨g1,g2,g3⟩:=shape_succ h
    exact shape_of g1 (fun x hx=>shape_up d x (g2 x hx)) g3
theorem nth_app {a b:List Int} {v:Int} (h0:0≤v) (h:v<a.length):nth (a++b) v=nth a v:=by
  unfold nth
  rw [List.getD_eq_getElem?_getD,List.getD_eq_getElem?_getD,List.getElem?_append_left (by omega)]
theorem labN_app {vs more ar : List Int} {bd : List St1} : ∀ (d : Nat) (e : Ex), CtR.shape ⟨vs, ar, bd⟩ d e = true → labN (vs ++ more) ar d e = labN vs ar d e
  | 0,_,h=>by simp [CtR.shape] at h
  | d+1,.mk k v ks,h=>by
    obtain ⟨g1,g2,g3⟩:=shape_succ h
    obtain ⟨_,_,c,e⟩:=fits_len g1
    have e1:(ks.map (labN (vs++more) ar d))=ks.map (labN vs ar d):=List.map_congr_left fun x hx=>labN_app d x (g2 x hx)
    rw [labN,labN,e1]
    congr 1
    unfold labB
    by_cases k2:k=2
    · subst k2
      rw [if_pos rfl,if_pos rfl,nth_app c (by simpa [limit] using e)]
    · rw [if_neg k2,if_neg k2]
theorem read_kid {p:Pg} {d:Nat} {v:Int} {ks:List Ex} (h:CtR.shape p (d+1) (.mk 3 v ks)=true):∃ a,ks=[a]∧CtR.shape p d a=true∧atom a=true∧0≤v∧v<p.arrays.length:=by
  obtain ⟨g1,g2,g3⟩:=shape_succ h
  obtain ⟨_,b,c,e⟩:=fits_len g1
  have g3:=g3 rfl
  match ks,b,g2,g3 with
  | [a],_,g2,g3=>exact ⟨a,rfl,g2 a (by simp),g3,c,by simpa [limit] using e⟩
  | [],b,_,_=>simp [arity] at b
  | _ :: _ :: r,b,_,_=>simp [arity] at b;omega
theorem atom_mk {p:Pg} {d:Nat} {a:Ex} (hs:CtR.shape p d a=true) (ha:atom a=true):∃ k v,a = .mk k v []∧(k=1∧0≤v∧v≤255∨k=2∧0≤v∧v<p.vars.length):=by
  match d,a,hs with
  | 0,_,hs=>simp [CtR.shape] at hs
  | d+1,.mk k v ks,hs =>
    obtain ⟨g1,g2,g3⟩:=shape_succ hs
    obtain ⟨_,b,c,e⟩:=fits_len g1
    have hk:k=1∨k=2:=by simpa [atom,Ex.kind] using ha
    refine ⟨k,v,?_,?_⟩
    · have:ks.length=0:=by rcases hk with rfl | rfl<;>simp [arity] at b<;>simpa using b
      rw [List.length_eq_zero_iff.1 this]
    · rcases hk with rfl | rfl
      · exact .inl ⟨rfl,c,by simp [limit] at e;omega⟩
      · exact .inr ⟨rfl,c,by simpa [limit] using e⟩
theorem lin_atom {ar:List Int} {pc:Nat} {vs:List Int} {p:Pg} {d:Nat} {a:Ex} (hs:CtR.shape p d a=true) (ha:atom a=true):linE ar pc d vs a=(vs,[],a):=by
  obtain ⟨k,v,rfl,hk⟩:=atom_mk hs ha
  have hk3:k ≠ 3:=by omega
  match d with
  | 0=>rfl
  | d+1=>simp [linE,linK,hk3]
theorem lin_read {ar : List Int} {pc : Nat} {vs : List Int} {p : Pg} {d : Nat} {v : Int} {a : Ex} (hs : CtR.shape p d a = true) (ha : atom a = true) :
    linE ar pc (d+1) vs (.mk 3 v [a])=if secL (labN vs ar d a)=true then (vs++lab1 (labN vs ar (d+1) (.mk 3 v [a])) pc,readS vs.length v a,vE vs.length) else (vs,[],.mk 3 v [a]):=by
  have h1:=lin_atom (ar:=ar) (pc:=pc) (vs:=vs) hs ha
  simp only [linE,linK,h1,kid0,true_and,List.nil_append]
structure Agr (n : Nat) (m m' : Mm) : Prop where
  ar:m.arrays=m'.arrays
  va:∀ i,i<n→m.vals[i]? = m'.vals[i]?
theorem Agr.refl (n:Nat) (m:Mm):Agr n m m:=⟨rfl,fun _ _=>rfl⟩
theorem Agr.symm {n:Nat} {m m':Mm} (h:Agr n m m'):Agr n m' m:=⟨h.ar.symm,fun i hi=>(h.va i hi).symm⟩
theorem Agr.trans {n:Nat} {a b c:Mm} (h:Agr n a b) (g:Agr n b c):Agr n a c:=⟨h.ar.trans g.ar,fun i hi=>(h.va i hi).trans (g.va i hi)⟩
theorem Agr.le {n k:Nat} {m m':Mm} (h:Agr n m m') (hk:k≤n):Agr k m m':=⟨h.ar,fun i hi=>h.va i (by omega)⟩
theorem Agr.nth {n:Nat} {m m':Mm} (h:Agr n m m') {v:Int} (h0:0≤v) (hv:v<n):CtR.nth m.vals v=CtR.nth m'.vals v:=by
  unfold CtR.nth
  rw [List.getD_eq_getElem?_getD,List.getD_eq_getElem?_getD,h.va _ (by omega)]
theorem evalE_agr {p : Pg} {n : Nat} {m m' : Mm} (hn : p.vars.length ≤ n) (h : Agr n m m') : ∀ (d : Nat) (e : Ex), CtR.shape p d e = true → evalE m d e = evalE m' d e
  | 0,_,_=>rfl
  | d+1,.mk k v ks,hs=>by
    obtain ⟨g1,g2,g3⟩:=shape_succ hs
    obtain ⟨_,_,c,e⟩:=fits_len g1
    have e1:(ks.map fun e=>(evalE m d e).1)=ks.map fun e=>(evalE m' d e).1:=List.map_congr_left fun x hx=>by rw [evalE_agr hn h d x (g2 x hx)]
    have e2:(ks.map fun e=>(evalE m d e).2)=ks.map fun e=>(evalE m' d e).2:=List.map_congr_left fun x hx=>by rw [evalE_agr hn h d x (g2 x hx)]
    have e3:arrAt m v=arrAt m' v:=by unfold arrAt;rw [h.ar]
    simp only [evalE,e1,e2,e3]
    by_cases k2:k=2
    · subst k2
      have hv:v<p.vars.length:=by simpa [limit] using e
      rw [h.nth c (by omega)]
    · simp only [k2,if_false]
theorem Agr.setV {n:Nat} {m:Mm} {w:Nat} {x:Int} (hw:n≤w):Agr n m (CtR.setV m w x):=⟨rfl,fun i hi=>by
  simp only [CtR.setV,Int.toNat_natCast,List.getElem?_set]
  rw [if_neg (by omega)]⟩
theorem nth_set {l:List Int} {w:Nat} {x:Int} (hw:w<l.length):nth (l.set w x) (w:Int)=x:=by
  unfold nth
  rw [List.getD_eq_getElem?_getD,Int.toNat_natCast,List.getElem?_set_self hw]
  rfl
def atV (m:Mm) (a:Ex):Int:=(evalE m 1 a).1
theorem eval_atom {p:Pg} {m:Mm} {d0 d:Nat} {a:Ex} (hs:CtR.shape p d0 a=true) (ha:atom a=true):evalE m (d+1) a=(atV m a,[]):=by
  obtain ⟨k,v,rfl,hk⟩:=atom_mk hs ha
  rcases hk with ⟨rfl,_⟩ | ⟨rfl,_⟩<;>simp [evalE,atV]
theorem eval_v {m:Mm} {d:Nat} {v:Int}:evalE m (d+1) (vE v)=(nth m.vals v,[]):=by simp [evalE,vE]
theorem eval_sel {m:Mm} {d:Nat} {a b c:Ex}:(evalE m (d+1) (selE a b c)).1=if (evalE m d a).1 ≠ 0 then (evalE m d b).1 else (evalE m d c).1:=by simp [evalE,selE]
theorem eval_rdc {m:Mm} {d:Nat} {a k:Int}:(evalE m (d+2) (rdE a (cE k))).1=nth (arrAt m a) (k % 4):=by simp [evalE,rdE,cE]
theorem and3 {x:Int} (h:0≤x):((x.toNat &&& 3:Nat):Int)=x % 4:=by
  have h1:x.toNat &&& 3=x.toNat % 4:=Nat.and_two_pow_sub_one_eq_mod x.toNat 2
  rw [h1];omega
theorem eval_hit {p:Pg} {m:Mm} {d0 d:Nat} {a:Ex} {k:Int} (hs:CtR.shape p d0 a=true) (ha:atom a=true) (h0:0≤atV m a):(evalE m (d+3) (hitE a k)).1=if atV m a % 4=k then 1 else 0:=by
  have e1:=eval_atom (m:=m) (d:=d) hs ha
  have e2:=and3 h0
  simp only [hitE,bE,cE]
  rw [evalE]
  simp only [List.map_cons,List.map_nil]
  rw [evalE,evalE]
  simp only [List.map_cons,List.map_nil,e1]
  simp [evalE,bin,e2]
theorem setV_setV (m:Mm) (w:Nat) (x y:Int):setV (setV m w x) w y=setV m w y:=by simp [setV]
theorem atV_setV {p:Pg} {d:Nat} {m:Mm} {a:Ex} {w:Nat} {x:Int} (hs:CtR.shape p d a=true) (ha:atom a=true) (hw:p.vars.length≤w):atV (setV m w x) a=atV m a:=by
  obtain ⟨k,v,rfl,hk⟩:=atom_mk hs ha
  rcases hk with ⟨rfl,_⟩ | ⟨rfl,h0,h1⟩
  · simp [atV,evalE]
  · simp only [atV,evalE]
    simp only [Int.reduceEq,if_false,if_true]
    exact ((Agr.setV (m:=m) (x:=x) hw).nth h0 h1).symm
theorem run_read {p : Pg} {D d : Nat} {m : Mm} {w : Nat} {v : Int} {a : Ex} (hs : CtR.shape p d a = true) (ha : atom a = true) (hw : p.vars.length ≤ w) (hl : w < m.vals.length) (h0 : 0 ≤ atV m a) :
    (foldR (runS (D+1)) m (readS w v a)).1=setV m w (nth (arrAt m v) (atV m a % 4)):=by
  have hv:∀ x,nth (setV m w x).vals (w:Int)=x:=fun x=>by unfold setV;rw [Int.toNat_natCast];exact nth_set hl
  have har:∀ x,arrAt (setV m w x) v=arrAt m v:=fun x=>rfl
  have step:∀ (k:Nat) (x:Int),k<4→(runS (D+1) (setV m w x) (readN w v a k)).1=setV m w (if atV m a % 4=k then nth (arrAt m v) k else x):=fun k x hk=>by
    have e0:atV (setV m w x) a=atV m a:=atV_setV hs ha hw
    have e1:=eval_hit (m:=setV m w x) (d:=1) (k:=k) hs ha (by rw [e0];exact h0)
    have hk4:(k:Int) % 4=k:=by omega
    unfold readN asg
    rw [runS_1]
    simp only [eval_sel,e1,eval_v,eval_rdc,e0,hv,har,setV_setV,hk4]
    congr 1
    split<;>simp_all
  have s0:(runS (D+1) m (asg w (rdE v (cE 0)))).1=setV m w (nth (arrAt m v) 0):=by
    unfold asg;rw [runS_1];simp only [eval_rdc];rfl
  simp only [readS,foldR,s0]
  rw [step 1 _ (by omega),step 2 _ (by omega),step 3 _ (by omega)]
  congr 1
  have:atV m a % 4=0∨atV m a % 4=1∨atV m a % 4=2∨atV m a % 4=3:=by omega
  rcases this with h | h | h | h<;>simp [h]
structure LinE (ar : List Int) (q : Pg) (vs : List Int) (d : Nat) (e : Ex) (R : List Int × List St1 × Ex) : Prop where
  more:∃ w,R.1=vs++w
  shp:CtR.shape ⟨R.1,ar,[]⟩ d R.2.2=true
  knd:∀ s ∈ R.2.1,s.kind=1
  run:∀ D m,(∀ s ∈ R.2.1,stmtOK q (D+1) s=true)→MemFits q m→R.1.length≤q.vars.length →
    Agr vs.length m (foldR (runS (D+1)) m R.2.1).1∧∀ m2,Agr R.1.length (foldR (runS (D+1)) m R.2.1).1 m2→(evalE m2 d R.2.2).1=(evalE m d e).1
structure LinK (ar : List Int) (q : Pg) (vs : List Int) (d : Nat) (ks : List Ex) (R : List Int × List St1 × List Ex) : Prop where
  more:∃ w,R.1=vs++w
  len:R.2.2.length=ks.length
  shp:∀ x ∈ R.2.2,CtR.shape ⟨R.1,ar,[]⟩ d x=true
  knd:∀ s ∈ R.2.1,s.kind=1
  run:∀ D m,(∀ s ∈ R.2.1,stmtOK q (D+1) s=true)→MemFits q m→R.1.length≤q.vars.length →
    Agr vs.length m (foldR (runS (D+1)) m R.2.1).1∧∀ m2,Agr R.1.length (foldR (runS (D+1)) m R.2.1).1 m2→(R.2.2.map fun e=>(evalE m2 d e).1)=ks.map fun e=>(evalE m d e).1
theorem linK_ok {ar:List Int} {q:Pg} {d:Nat} {f:List Int→Ex→List Int × List St1 × Ex}:∀ (ks:List Ex) (vs:List Int),(∀ x ∈ ks,CtR.shape ⟨vs,ar,[]⟩ d x=true) →
    (∀ vs e,CtR.shape ⟨vs,ar,[]⟩ d e=true→LinE ar q vs d e (f vs e))→LinK ar q vs d ks (linK f vs ks)
  | [],vs,_,_=>⟨⟨[],by simp [linK]⟩,rfl,by simp [linK],by simp [linK],fun D m _ _ _=>⟨Agr.refl _ _,fun _ _=>rfl⟩⟩
  | e :: r,vs,hs,hf=>by
    have h1:=hf vs e (hs e (by simp))
    obtain ⟨w1,e1⟩:=h1.more
    have hle1:vs.length≤(f vs e).1.length:=by rw [e1];simp
    have h2:=linK_ok r (f vs e).1 (fun x hx=>shape_mono (p:=⟨vs,ar,[]⟩) (q:=⟨(f vs e).1,ar,[]⟩) hle1 rfl d x (hs x (by simp [hx]))) hf
    obtain ⟨w2,e2⟩:=h2.more
    have hle2:(f vs e).1.length≤(linK f (f vs e).1 r).1.length:=by rw [e2];simp
    refine ⟨⟨w1++w2,by simp only [linK];rw [e2,e1,List.append_assoc]⟩,by simp [linK,h2.len],?_,?_,?_⟩
    · intro x hx
      simp only [linK,List.mem_cons] at hx ⊢
      rcases hx with rfl | hx
      · exact shape_mono (p:=⟨(f vs e).1,ar,[]⟩) (q:=⟨(linK f (f vs e).1 r).1,ar,[]⟩) hle2 rfl d _ h1.shp
      · exact h2.shp x hx
    · intro s hs
      simp only [linK,List.mem_append] at hs
      rcases hs with hs | hs
      · exact h1.knd s hs
      · exact h2.knd s hs
    · intro D m hok hm hle
      simp only [linK] at hok hle ⊢
      have ok1:∀ s ∈ (f vs e).2.1,stmtOK q (D+1) s=true:=fun s hs=>hok s (by simp [hs])
      have ok2:∀ s ∈ (linK f (f vs e).1 r).2.1,stmtOK q (D+1) s=true:=fun s hs=>hok s (by simp [hs])
      obtain ⟨a1,b1⟩:=h1.run D m ok1 hm (by omega)
      have hm1:MemFits q (foldR (runS (D+1)) m (f vs e).2.1).1:=(runL_ok hm ok1).1
      obtain ⟨a2,b2⟩:=h2.run D _ ok2 hm1 hle
      rw [foldR_app]
      refine ⟨a1.trans (a2.le hle1),fun m2 hm2=>?_⟩
      simp only [List.map_cons]
      rw [b1 m2 (a2.trans (hm2.le hle2)),b2 m2 hm2]
      congr 1
      refine List.map_congr_left fun x hx=>?_
      rw [evalE_agr (p:=⟨vs,ar,[]⟩) (Nat.le_refl _) a1 d x (hs x (by simp [hx]))]
theorem linE_ok {ar : List Int} {q : Pg} (hna : q.arrays.length = ar.length) (pc : Nat) : ∀ (d : Nat) (vs : List Int) (e : Ex), CtR.shape ⟨vs, ar, []⟩ d e = true → LinE ar q vs d e (linE ar pc d vs e)
  | 0,vs,e,h=>by simp [CtR.shape] at h
  | d+1,vs,.mk k v ks,h=>by
    by_cases k3:k=3
    · subst k3
      obtain ⟨a,rfl,hs,ha,hv0,hv1⟩:=read_kid h
      rw [lin_read hs ha]
      split
      · have hc:(vs.length:Int)<(vs++lab1 (labN vs ar (d+1) (.mk 3 v [a])) pc).length:=by simp [lab1];omega
        refine ⟨⟨_,rfl⟩,shape_of (fitsE_true rfl (by omega) (by simpa [limit] using hc)) (by simp) (by simp),by simp [readS,readN,asg,St1.kind],?_⟩
        intro D m hok hm hle
        simp only [List.length_append,lab1,List.length_singleton] at hle
        have hl:vs.length<m.vals.length:=by rw [hm.nv];omega
        have h0:0≤atV m a:=by
          have hs1:=shape_mono (q:=q) (by simp;omega) (by simpa using hna.symm) d a hs
          match d,hs1 with
          | 0,hs1=>simp [CtR.shape] at hs1
          | d+1,hs1 =>
            have:=evalE_range hm (d+1) a hs1
            rw [eval_atom hs ha] at this
            exact this.1
        have hr:=run_read (D:=D) (v:=v) hs ha (Nat.le_refl _) hl h0
        simp only at hr
        rw [hr]
        refine ⟨Agr.setV (Nat.le_refl _),fun m2 hm2=>?_⟩
        rw [eval_v]
        simp only
        rw [← hm2.nth (by omega) hc]
        have:(setV m (vs.length:Int) (nth (arrAt m v) (atV m a % 4))).vals=m.vals.set vs.length (nth (arrAt m v) (atV m a % 4)):=by unfold setV;rw [Int.toNat_natCast]
        rw [this,nth_set hl]
        match d,hs with
        | 0,hs=>simp [CtR.shape] at hs
        | d+1,hs =>
          rw [evalE]
          simp [eval_atom hs ha]
      · refine ⟨⟨[],by simp⟩,h,by simp,fun D m _ _ _=>⟨Agr.refl _ _,fun m2 hm2=>?_⟩⟩
        simp only [foldR] at hm2
        rw [evalE_agr (p:=⟨vs,ar,[]⟩) (Nat.le_refl _) hm2 (d+1) _ h]
    · obtain ⟨g1,g2,g3⟩:=shape_succ h
      obtain ⟨_,gb,c,gl⟩:=fits_len g1
      have hk:=linK_ok ks vs g2 fun vs e hs=>linE_ok (q:=q) hna pc d vs e hs
      have he:linE ar pc (d+1) vs (.mk k v ks)=((linK (linE ar pc d) vs ks).1,(linK (linE ar pc d) vs ks).2.1,.mk k v (linK (linE ar pc d) vs ks).2.2):=by
        rw [linE,if_neg (fun h=>k3 h.1)]
      rw [he]
      generalize linK (linE ar pc d) vs ks=R at hk
      obtain ⟨w,ew⟩:=hk.more
      have hle:vs.length≤R.1.length:=by rw [ew];simp
      have hlim:=limit_le (p:=⟨vs,ar,[]⟩) (q:=⟨R.1,ar,[]⟩) hle rfl k
      refine ⟨hk.more,shape_of (fitsE_true (by rw [hk.len];exact gb) c (Int.lt_of_lt_of_le gl hlim)) hk.shp (fun h=>absurd h k3),hk.knd,fun D m hok hm hl=>?_⟩
      obtain ⟨a1,b1⟩:=hk.run D m hok hm hl
      refine ⟨a1,fun m2 hm2=>?_⟩
      have e1:=b1 m2 hm2
      simp only [evalE,e1]
      by_cases k2:k=2
      · subst k2
        have hv:v<vs.length:=by simpa [limit] using gl
        have hn:=(a1.trans (hm2.le hle)).nth c hv
        simp [hn]
      · simp [k2,k3]
        split
        · rfl
        · split<;>simp
open Go Go.CT CtF CtR
theorem shape_form {p : Pg} {d : Nat} {k v : Int} {ks : List Ex} (h : CtR.shape p (d + 1) (.mk k v ks) = true) :
    ((k=1∧0≤v∧v<256∨k=2)∧ks=[])∨(∃ a,k=3∧ks=[a]∧CtR.shape p d a=true∧atom a=true)∨(∃ a b,4≤k∧k≤10∧ks=[a,b]∧CtR.shape p d a=true∧CtR.shape p d b=true)
    ∨ (∃ a b c,k=11∧ks=[a,b,c]∧CtR.shape p d a=true∧CtR.shape p d b=true∧CtR.shape p d c=true):=by
  obtain ⟨g1,g2,g3⟩:=shape_succ h
  obtain ⟨_,b,c,e⟩:=fits_len g1
  by_cases k1:k=1∨k=2
  · left
    have:ks.length=0:=by rcases k1 with rfl | rfl<;>simp [arity] at b<;>simpa using b
    refine ⟨?_,List.length_eq_zero_iff.1 this⟩
    rcases k1 with rfl | rfl
    · exact .inl ⟨rfl,c,by simpa [limit] using e⟩
    · exact .inr rfl
  by_cases k3:k=3
  · subst k3
    obtain ⟨a,h1,h2,h3,_⟩:=read_kid h
    exact .inr (.inl ⟨a,rfl,h1,h2,h3⟩)
  by_cases k4:4≤k∧k≤10
  · have:ks.length=2:=by
      have:arity k=2:=by unfold arity;rw [if_neg k1,if_neg k3,if_pos k4]
      omega
    match ks,this with
    | [x,y],_=>exact .inr (.inr (.inl ⟨x,y,k4.1,k4.2,rfl,g2 x (by simp),g2 y (by simp)⟩))
  by_cases k11:k=11
  · subst k11
    have:ks.length=3:=by simp [arity] at b;omega
    match ks,this with
    | [x,y,z],_=>exact .inr (.inr (.inr ⟨x,y,z,rfl,rfl,g2 x (by simp),g2 y (by simp),g2 z (by simp)⟩))
  · have:arity k = -1:=by unfold arity;rw [if_neg k1,if_neg k3,if_neg k4,if_neg k11]
    omega
open Go Go.CT CtF CtR
open Go Go.CT CtF CtR
def Ext (p:Pg) (vs:List Int):Prop:=∃ w,vs=p.vars++w
theorem Ext.more {p:Pg} {vs ws:List Int} (h:Ext p vs) (h2:∃ w,ws=vs++w):Ext p ws:=by
  obtain ⟨a,rfl⟩:=h
  obtain ⟨b,rfl⟩:=h2
  exact ⟨a++b,by simp⟩
theorem Ext.le {p:Pg} {vs:List Int} (h:Ext p vs):p.vars.length≤vs.length:=by
  obtain ⟨a,rfl⟩:=h
  simp
theorem more_le {vs ws:List Int} (h:∃ w,ws=vs++w):vs.length≤ws.length:=by
  obtain ⟨a,rfl⟩:=h
  simp
theorem Agr.setB {n:Nat} {m m1:Mm} (h:Agr n m m1) {t x:Int} (h0:0≤t) (ht:t<n) (hl:n≤m.vals.length) (hl1:n≤m1.vals.length):Agr n (CtR.setV m t x) (CtR.setV m1 t x):=⟨h.ar,fun i hi=>by
  have:=h.va i hi
  simp only [CtR.setV,List.getElem?_set]
  by_cases e:t.toNat=i
  · rw [if_pos e,if_pos e,if_pos (by omega),if_pos (by omega)]
  · rw [if_neg e,if_neg e,this]⟩
open Go Go.CT CtF CtR
open Go Go.CT CtF CtR
def Sub (a b:Nat):Prop:=∀ β,a.testBit β=true→b.testBit β=true
theorem Sub.refl (a:Nat):Sub a a:=fun _ h=>h
theorem Sub.trans {a b c:Nat} (h:Sub a b) (g:Sub b c):Sub a c:=fun β x=>g β (h β x)
theorem Sub.zero (a:Nat):Sub 0 a:=fun β h=>by simp at h
theorem Sub.or {a b c:Nat}:Sub (a ||| b) c ↔ Sub a c∧Sub b c:=by
  constructor
  · exact fun h=>⟨fun β x=>h β (by simp [x]),fun β x=>h β (by simp [x])⟩
  · rintro ⟨h1,h2⟩ β x
    rw [Nat.testBit_or,Bool.or_eq_true] at x
    exact x.elim (h1 β) (h2 β)
theorem Sub.left (a b:Nat):Sub a (a ||| b):=fun β h=>by simp [h]
theorem Sub.right (a b:Nat):Sub b (a ||| b):=fun β h=>by simp [h]
theorem Sub.l {a b c:Nat} (h:Sub a b):Sub a (b ||| c):=h.trans (Sub.left _ _)
theorem Sub.r {a b c:Nat} (h:Sub a c):Sub a (b ||| c):=h.trans (Sub.right _ _)
theorem sub_iff {a b:Nat}:subL a b=true ↔ Sub a b:=by
  constructor
  · exact fun h β x=>subL_bit h x
  · intro h
    have:a ||| b=b:=Nat.eq_of_testBit_eq fun β=>by
      rw [Nat.testBit_or]
      cases hx:a.testBit β with
      | false=>simp
      | true=>simp [h β hx]
    simp [subL,this]
theorem labN_sub {vs ar:List Int} {d:Nat} {k v:Int} {ks:List Ex} {L:Nat}:Sub (labN vs ar (d+1) (.mk k v ks)) L ↔ Sub (labB vs ar k v) L∧∀ x ∈ ks,Sub (labN vs ar d x) L:=by
  have key:∀ (l:List Ex) (a:Nat),Sub ((l.map (labN vs ar d)).foldl (fun a b=>a ||| b) a) L ↔ Sub a L∧∀ x ∈ l,Sub (labN vs ar d x) L:=by
    intro l
    induction l with
    | nil=>simp
    | cons x r ih =>
      intro a
      simp only [List.map_cons,List.foldl_cons,ih,Sub.or,List.mem_cons,forall_eq_or_imp,and_assoc]
  rw [labN]
  exact key ks _
theorem lab_c {vs ar : List Int} {n : Int} {L : Nat} : ∀ D, Sub (labN vs ar D (cE n)) L
  | 0=>Sub.zero _
  | D+1=>by rw [cE,labN_sub];exact ⟨by simp [labB,Sub.zero],by simp⟩
theorem lab_v {vs ar : List Int} {w : Int} {L : Nat} (h : Sub (nth vs w).toNat L) : ∀ D, Sub (labN vs ar D (vE w)) L
  | 0=>Sub.zero _
  | D+1=>by rw [vE,labN_sub];exact ⟨by simpa [labB] using h,by simp⟩
theorem lab_k {vs ar : List Int} {k v : Int} {ks : List Ex} {L : Nat} (h1 : Sub (labB vs ar k v) L) (h2 : ∀ D, ∀ x ∈ ks, Sub (labN vs ar D x) L) : ∀ D, Sub (labN vs ar D (.mk k v ks)) L
  | 0=>Sub.zero _
  | D+1=>labN_sub.2 ⟨h1,h2 D⟩
theorem lab_sel {vs ar:List Int} {a b c:Ex} {L:Nat} (h1:∀ D,Sub (labN vs ar D a) L) (h2:∀ D,Sub (labN vs ar D b) L) (h3:∀ D,Sub (labN vs ar D c) L):∀ D,Sub (labN vs ar D (selE a b c)) L :=
  lab_k (by simp [labB,Sub.zero]) fun D x hx=>by
    simp at hx
    rcases hx with rfl | rfl | rfl
    · exact h1 D
    · exact h2 D
    · exact h3 D
theorem lab_b {vs ar:List Int} {k:Int} {a b:Ex} {L:Nat} (hk:k ≠ 2∧k ≠ 3) (h1:∀ D,Sub (labN vs ar D a) L) (h2:∀ D,Sub (labN vs ar D b) L):∀ D,Sub (labN vs ar D (bE k a b)) L :=
  lab_k (by simp [labB,hk,Sub.zero]) fun D x hx=>by
    simp at hx
    rcases hx with rfl | rfl
    · exact h1 D
    · exact h2 D
theorem lab_hit {vs ar:List Int} {k:Int} {a:Ex} {L:Nat} (h1:∀ D,Sub (labN vs ar D a) L):∀ D,Sub (labN vs ar D (hitE a k)) L :=
  lab_b (by omega) (lab_b (by omega) h1 fun D=>lab_c D) fun D=>lab_c D
theorem lab_rd {vs ar:List Int} {t:Int} {a:Ex} {L:Nat} (h1:Sub (nth ar t).toNat L) (h2:∀ D,Sub (labN vs ar D a) L):∀ D,Sub (labN vs ar D (rdE t a)) L :=
  lab_k (by simpa [labB] using h1) fun D x hx=>by simp at hx;subst hx;exact h2 D
theorem sec_k {vs ar : List Int} {k v : Int} {ks : List Ex} (h : k ≠ 3) (h2 : ∀ D, ∀ x ∈ ks, secE vs ar D x = false) : ∀ D, secE vs ar D (.mk k v ks) = false
  | 0=>rfl
  | D+1=>by
    simp only [secE,Bool.or_eq_false_iff,Bool.and_eq_false_iff,List.any_eq_false]
    exact ⟨.inl (by simpa using h),fun x hx=>by rw [h2 D x hx];simp⟩
theorem sec_rd {vs ar : List Int} {t : Int} {a : Ex} (h : ∀ D, secL (labN vs ar D a) = false) (h2 : ∀ D, secE vs ar D a = false) : ∀ D, secE vs ar D (rdE t a) = false
  | 0=>rfl
  | D+1=>by simp [rdE,secE,kid0,h D,h2 D]
theorem sec_sel {vs ar:List Int} {a b c:Ex} (h1:∀ D,secE vs ar D a=false) (h2:∀ D,secE vs ar D b=false) (h3:∀ D,secE vs ar D c=false):∀ D,secE vs ar D (selE a b c)=false :=
  sec_k (by omega) fun D x hx=>by
    simp at hx
    rcases hx with rfl | rfl | rfl
    · exact h1 D
    · exact h2 D
    · exact h3 D
theorem sec_b {vs ar:List Int} {k:Int} {a b:Ex} (hk:k ≠ 3) (h1:∀ D,secE vs ar D a=false) (h2:∀ D,secE vs ar D b=false):∀ D,secE vs ar D (bE k a b)=false :=
  sec_k hk fun D x hx=>by
    simp at hx
    rcases hx with rfl | rfl
    · exact h1 D
    · exact h2 D
theorem sec_c {vs ar:List Int} {n:Int}:∀ D,secE vs ar D (cE n)=false:=sec_k (by omega) (by simp)
theorem sec_v {vs ar:List Int} {n:Int}:∀ D,secE vs ar D (vE n)=false:=sec_k (by omega) (by simp)
theorem sec_hit {vs ar:List Int} {k:Int} {a:Ex} (h:∀ D,secE vs ar D a=false):∀ D,secE vs ar D (hitE a k)=false:=sec_b (by omega) (sec_b (by omega) h sec_c) sec_c
theorem sec_atom {vs ar:List Int} {p:Pg} {d:Nat} {a:Ex} (hs:CtR.shape p d a=true) (ha:atom a=true):∀ D,secE vs ar D a=false:=by
  obtain ⟨k,v,rfl,hk⟩:=atom_mk hs ha
  exact sec_k (by omega) (by simp)
theorem sec_rdc {vs ar:List Int} {t n:Int}:∀ D,secE vs ar D (rdE t (cE n))=false :=
  sec_rd (fun D=>by
    have:Sub (labN vs ar D (cE n)) 0:=lab_c D
    cases h:secL (labN vs ar D (cE n)) with
    | false=>rfl
    | true=>exact absurd (this 0 h) (by simp)) sec_c
theorem lab_atom {F more vs ar:List Int} {bd:List St1} {d:Nat} {a:Ex} (hF:F=vs++more) (hs:CtR.shape ⟨vs,ar,bd⟩ d a=true) (ha:atom a=true):∀ D,Sub (labN F ar D a) (labN vs ar d a):=by
  match d,hs with
  | 0,hs=>simp [CtR.shape] at hs
  | d+1,hs =>
    have hl:=labN_app (more:=more) (d+1) a hs
    rw [← hF] at hl
    rw [← hl]
    obtain ⟨k,v,rfl,hk⟩:=atom_mk hs ha
    exact lab_k ((labN_sub.1 (Sub.refl _)).1) (by simp)
def Fn1 (F ar:List Int) (pc:Nat) (s:St1):Prop:=s.body=[]∧s.els=[]∧s.kind ≠ 3∧∀ c,Sub c pc→flowR F ar s c=0∧leakR F ar s c=0
theorem fn_asg {F ar:List Int} {pc:Nat} {w:Int} {e:Ex} (h1:∀ D,Sub (labN F ar D e) (nth F w).toNat) (h2:∀ D,secE F ar D e=false) (h3:Sub pc (nth F w).toNat):Fn1 F ar pc (asg w e):=by
  refine ⟨rfl,rfl,by simp [asg,St1.kind],fun c hc=>⟨?_,?_⟩⟩
  · have h:subL (labN F ar 5 e ||| c) (nth F w).toNat=true:=sub_iff.2 (Sub.or.2 ⟨h1 5,hc.trans h3⟩)
    simp [flowR,asg,St1.kind,St1.target,storedN,St1.value,h]
  · simp [leakR,asg,St1.kind,St1.value,St1.index,h2]
theorem nth_last {a b:List Int} {x:Int}:nth (a++([x]++b)) (a.length:Int)=x:=by
  unfold nth
  rw [List.getD_eq_getElem?_getD,Int.toNat_natCast,List.getElem?_append_right (Nat.le_refl _),Nat.sub_self]
  rfl
structure TyE (F ar : List Int) (L pc : Nat) (vs : List Int) (R : List Int × List St1 × Ex) : Prop where
  lab:∀ D,Sub (labN F ar D R.2.2) (L ||| pc)
  sec:∀ D,secE F ar D R.2.2=false
  fin:∀ s ∈ R.2.1,Fn1 F ar pc s
theorem tyK {ar : List Int} {pc d : Nat} (hE : ∀ F vs e, CtR.shape ⟨vs, ar, []⟩ d e = true → (∃ w, F = (linE ar pc d vs e).1 ++ w) → TyE F ar (labN vs ar d e) pc vs (linE ar pc d vs e))
    (hM:∀ vs e,CtR.shape ⟨vs,ar,[]⟩ d e=true→∃ w,(linE ar pc d vs e).1=vs++w):∀ (ks:List Ex) (F vs:List Int),(∀ x ∈ ks,CtR.shape ⟨vs,ar,[]⟩ d x=true)→(∃ w,F=(linK (linE ar pc d) vs ks).1++w) →
    (∀ x ∈ (linK (linE ar pc d) vs ks).2.2,(∃ y ∈ ks,∀ D,Sub (labN F ar D x) (labN vs ar d y ||| pc))∧∀ D,secE F ar D x=false)∧(∀ s ∈ (linK (linE ar pc d) vs ks).2.1,Fn1 F ar pc s)∧∃ w,(linK (linE ar pc d) vs ks).1=vs++w
  | [],F,vs,_,_=>⟨by simp [linK],by simp [linK],⟨[],by simp [linK]⟩⟩
  | e :: r,F,vs,hs,hF=>by
    obtain ⟨w1,e1⟩:=hM vs e (hs e (by simp))
    have hsr:∀ x ∈ r,CtR.shape ⟨(linE ar pc d vs e).1,ar,[]⟩ d x=true:=fun x hx=>shape_mono (p:=⟨vs,ar,[]⟩) (q:=⟨(linE ar pc d vs e).1,ar,[]⟩) (by simp only [e1,List.length_append];omega) rfl d x (hs x (by simp [hx]))
    obtain ⟨a2,b2,w2,e2⟩:=tyK hE hM r F (linE ar pc d vs e).1 hsr hF
    obtain ⟨wF,eF⟩:=hF
    simp only [linK] at eF ⊢
    have h1:=hE F vs e (hs e (by simp)) ⟨w2++wF,by rw [eF,e2,List.append_assoc]⟩
    refine ⟨fun x hx=>?_,fun s hs=>?_,⟨w1++w2,by rw [e2,e1,List.append_assoc]⟩⟩
    · simp only [List.mem_cons] at hx
      rcases hx with rfl | hx
      · exact ⟨⟨e,by simp,h1.lab⟩,h1.sec⟩
      · obtain ⟨⟨y,hy,g⟩,g2⟩:=a2 x hx
        refine ⟨⟨y,by simp [hy],fun D=>?_⟩,g2⟩
        have:=labN_app (more:=w1) d y (hs y (by simp [hy]))
        rw [← this,← e1]
        exact g D
    · rcases List.mem_append.1 hs with hs | hs
      · exact h1.fin s hs
      · exact b2 s hs
theorem tyE {ar : List Int} {pc : Nat} : ∀ (d : Nat) (F vs : List Int) (e : Ex), CtR.shape ⟨vs, ar, []⟩ d e = true → (∃ w, F = (linE ar pc d vs e).1 ++ w) → TyE F ar (labN vs ar d e) pc vs (linE ar pc d vs e)
  | 0,F,vs,e,h,_=>by simp [CtR.shape] at h
  | d+1,F,vs,.mk k v ks,h,hF=>by
    by_cases k3:k=3
    · subst k3
      obtain ⟨a,rfl,hs,ha,hv0,hv1⟩:=read_kid h
      rw [lin_read hs ha] at hF ⊢
      have har:Sub (nth ar v).toNat (labN vs ar (d+1) (.mk 3 v [a])):=by
        have:=(labN_sub (vs:=vs) (ar:=ar) (d:=d) (k:=3) (v:=v) (ks:=[a])).1 (Sub.refl _)
        simpa [labB] using this.1
      have hka:Sub (labN vs ar d a) (labN vs ar (d+1) (.mk 3 v [a])):=((labN_sub (vs:=vs) (ar:=ar) (d:=d) (k:=3) (v:=v) (ks:=[a])).1 (Sub.refl _)).2 a (by simp)
      by_cases hc:secL (labN vs ar d a)=true
      · rw [if_pos hc] at hF ⊢
        obtain ⟨w,eF⟩:=hF
        simp only at eF
        have eF':F=vs++(lab1 (labN vs ar (d+1) (.mk 3 v [a])) pc++w):=by rw [eF,List.append_assoc]
        have hla:=lab_atom eF' hs ha
        generalize labN vs ar (d+1) (.mk 3 v [a])=L at *
        have hn:nth F (vs.length:Int)=((L ||| pc:Nat):Int):=by rw [eF'];exact nth_last
        have hnn:(nth F (vs.length:Int)).toNat=L ||| pc:=by rw [hn];rfl
        have hsa:∀ D,secE F ar D a=false:=sec_atom hs ha
        refine ⟨fun D=>lab_v (by rw [hnn];exact Sub.refl _) D,sec_v,fun s hs=>?_⟩
        have one:∀ k:Nat,Fn1 F ar pc (readN vs.length v a k):=fun k=>by
          refine fn_asg ?_ (sec_sel (sec_hit hsa) sec_rdc sec_v) (by rw [hnn];exact Sub.right _ _)
          rw [hnn]
          exact lab_sel (lab_hit fun D=>((hla D).trans hka).l) (lab_rd har.l fun D=>lab_c D) fun D=>lab_v (by rw [hnn];exact Sub.refl _) D
        simp only [readS,List.mem_cons,List.not_mem_nil,or_false] at hs
        rcases hs with rfl | rfl | rfl | rfl
        · refine fn_asg ?_ sec_rdc (by rw [hnn];exact Sub.right _ _)
          rw [hnn]
          exact lab_rd har.l fun D=>lab_c D
        · exact one 1
        · exact one 2
        · exact one 3
      · rw [if_neg hc] at hF ⊢
        obtain ⟨w,eF⟩:=hF
        simp only at eF
        have hla:=lab_atom eF hs ha
        have hsa:∀ D,secE F ar D a=false:=sec_atom hs ha
        refine ⟨fun D=>?_,fun D=>?_,by simp⟩
        · exact lab_rd (t:=v) (a:=a) har.l (fun D=>((hla D).trans hka).l) D
        · refine sec_rd (t:=v) (a:=a) (fun D=>?_) hsa D
          cases h:secL (labN F ar D a) with
          | false=>rfl
          | true=>exact absurd (hla D 0 h) (by simpa [secL] using hc)
    · obtain ⟨g1,g2,g3⟩:=shape_succ h
      obtain ⟨_,gb,c,gl⟩:=fits_len g1
      have he:linE ar pc (d+1) vs (.mk k v ks)=((linK (linE ar pc d) vs ks).1,(linK (linE ar pc d) vs ks).2.1,.mk k v (linK (linE ar pc d) vs ks).2.2):=by
        rw [linE,if_neg (fun h=>k3 h.1)]
      rw [he] at hF ⊢
      obtain ⟨a2,b2,w2,e2⟩:=tyK (fun F vs e hs hF=>tyE d F vs e hs hF) (fun vs e hs=>(linE_ok (q:=⟨[],ar,[]⟩) rfl pc d vs e hs).more) ks F vs g2 hF
      obtain ⟨wF,eF⟩:=hF
      simp only at eF
      have hL:=(labN_sub (vs:=vs) (ar:=ar) (d:=d) (k:=k) (v:=v) (ks:=ks)).1 (Sub.refl _)
      refine ⟨lab_k ?_ fun D x hx=>?_,sec_k k3 fun D x hx=>(a2 x hx).2 D,b2⟩
      · have:labB F ar k v=labB vs ar k v:=by
          unfold labB
          by_cases k2:k=2
          · subst k2
            rw [if_pos rfl,if_pos rfl,eF,e2,List.append_assoc,nth_app c (by simpa [limit] using gl)]
          · rw [if_neg k2,if_neg k2]
        rw [this]
        exact hL.1.l
      · obtain ⟨⟨y,hy,g⟩,_⟩:=a2 x hx
        exact (g D).trans (Sub.or.2 ⟨(hL.2 y hy).l,Sub.right _ _⟩)
open Go Go.CT CtF CtR
def SMore (p:Pg) (d:Nat):Prop:=∀ mk pc vs l,(∀ s ∈ l,stmtOK p d s=true)→p.vars.length≤vs.length→∃ w,(linB (linS p.arrays d mk pc) vs l).1=vs++w
theorem linB_more {p : Pg} {d : Nat} {f : List Int → St1 → List Int × List St1} : ∀ (l : List St1) (vs : List Int), (∀ s ∈ l, ∀ vs : List Int, p.vars.length ≤ vs.length → ∃ w, (f vs s).1 = vs ++ w) → p.vars.length ≤ vs.length → ∃ w, (linB f vs l).1 = vs ++ w
  | [],vs,_,_=>⟨[],by simp [linB]⟩
  | s :: r,vs,h,hl=>by
    obtain ⟨w1,e1⟩:=h s (by simp) vs hl
    obtain ⟨w2,e2⟩:=linB_more (p:=p) (d:=d) r (f vs s).1 (fun s hs=>h s (by simp [hs])) (by rw [e1];simp;omega)
    exact ⟨w1++w2,by simp only [linB];rw [e2,e1,List.append_assoc]⟩
theorem lin_more {p : Pg} : ∀ d, SMore p d
  | 0=>fun mk pc vs l hok hl=>by
    match l,hok with
    | [],_=>exact ⟨[],by simp [linB]⟩
    | s :: r,hok=>exact absurd (hok s (by simp)) (by simp [stmtOK])
  | d+1=>fun mk pc vs l hok hl=>linB_more (p:=p) (d:=d) l vs (fun s hs vs hl=>by
      have hso:=hok s hs
      obtain ⟨k,t,ix,v,c,b,e⟩:=s
      obtain ⟨hh,hb,he⟩:=stmtOK_succ hso
      obtain ⟨s1,s2⟩:=shapeV hso
      by_cases k4:k=4
      · subst k4;rw [linS_4];exact lin_more d mk pc vs b hb hl
      have hE:=(linE_ok (q:=⟨[],p.arrays,[]⟩) rfl pc 5 vs v (shape_mono (p:=p) (q:=⟨vs,p.arrays,[]⟩) hl rfl 5 v (s1 k4))).more
      generalize hEe:linE p.arrays pc 5 vs v=E at *
      have hEl:=more_le hE
      obtain ⟨w,ew⟩:=hE
      by_cases k3:k=3
      · subst k3
        rw [linS_3,hEe]
        unfold linI
        dsimp only
        split
        · obtain ⟨w1,e1⟩:=lin_more d (E.1.length:Int) (pc ||| labN vs p.arrays 5 v) (E.1++lab1 pc (labN vs p.arrays 5 v)++lab1 pc (labN vs p.arrays 5 v)) b hb (by simp;omega)
          simp only at e1 ⊢
          obtain ⟨w2,e2⟩:=lin_more d ((E.1.length+1:Nat):Int) (pc ||| labN vs p.arrays 5 v) _ e he (show p.vars.length≤(linB (linS p.arrays d (E.1.length:Int) (pc ||| labN vs p.arrays 5 v)) (E.1++lab1 pc (labN vs p.arrays 5 v)++lab1 pc (labN vs p.arrays 5 v)) b).1.length by rw [e1];simp;omega)
          rw [e2,e1,ew]
          exact ⟨w++lab1 pc (labN vs p.arrays 5 v)++lab1 pc (labN vs p.arrays 5 v)++w1++w2,by simp only [List.append_assoc]⟩
        · obtain ⟨w1,e1⟩:=lin_more d mk (pc ||| labN vs p.arrays 5 v) E.1 b hb (by omega)
          obtain ⟨w2,e2⟩:=lin_more d mk (pc ||| labN vs p.arrays 5 v) _ e he (show p.vars.length≤(linB (linS p.arrays d mk (pc ||| labN vs p.arrays 5 v)) E.1 b).1.length by rw [e1];simp;omega)
          simp only
          rw [e2,e1,ew]
          exact ⟨w++w1++w2,by simp only [List.append_assoc]⟩
      rw [linS_o k4 k3,hEe]
      unfold linO
      split
      · exact ⟨w,ew⟩
      · split
        · exact ⟨w,ew⟩
        · split
          · exact ⟨w++lab1 (labN E.1 p.arrays 5 E.2.2) pc,by simp only [ew,List.append_assoc]⟩
          · exact ⟨w,ew⟩) hl
theorem lin_more1 {p:Pg} {d:Nat} {mk:Int} {pc:Nat} {vs:List Int} {s:St1} (hs:stmtOK p (d+1) s=true) (hl:p.vars.length≤vs.length):∃ w,(linS p.arrays (d+1) mk pc vs s).1=vs++w:=by
  have:=lin_more (p:=p) (d+1) mk pc vs [s] (by simpa using hs) hl
  simpa [linB] using this
end Go.Proofs.YtoakidkcppinpaaGreat.CtL
