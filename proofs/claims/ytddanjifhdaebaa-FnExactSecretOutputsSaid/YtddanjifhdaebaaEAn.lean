/- Contracts of functions of the program, one behind the other, as plain data: what each call returns and which blocks it leaves. -/
import Derived.Test.YtddanjifhdaebaaEFacts
import Derived.Test.YtddanjifhdaebaaEAw
import Derived.Test.YtddanjifhdaebaaTG1
import Derived.Test.YtddanjifhdaebaaEAm
import Derived.Test.YtddanjifhdaebaaEAl
import Derived.Test.YtddanjifhdaebaaEAk
set_option linter.unusedVariables false
set_option linter.unusedSimpArgs false
set_option linter.unusedSectionVars false
set_option maxHeartbeats 16000000
set_option maxRecDepth 100000
namespace Go.Proofs.Ytddanjifhdaebaa.CtR
variable [Go.CT.Yn]
open Go Go.CT CtF
structure Dp where
  sets:List Nat
  tr:Nat
  re:Nat
abbrev orL (l:List Nat):Nat:=l.foldl (fun a b=>a ||| b) 0
def dat (s:List Nat) (i:Nat):Nat:=s.getD i 0
def setE (nv : Nat) (s : List Nat) : Nat → Ex → Nat × Nat
  | 0,_=>(0,0)
  | d+1,.mk k v ks =>
    let o:=orL (ks.map fun e=>(setE nv s d e).1)
    let a:=orL (ks.map fun e=>(setE nv s d e).2)
    if k=2 then (o ||| dat s v.toNat,a) else if k=3 then (o ||| dat s (nv+v.toNat),a ||| o) else (o,a)
def unite (a b:List Nat):List Nat:=List.zipWith (fun x y=>x ||| y) a b
def fixD (f : Dp → Dp) : Nat → Dp → Dp
  | 0,s=>s
  | n+1,s=>if unite s.sets (f s).sets=s.sets then ⟨s.sets,(f s).tr,(f s).re⟩ else fixD f n ⟨unite s.sets (f s).sets,(f s).tr,(f s).re⟩
def FU:Nat:=2 ^ 20
def depS (nv : Nat) : Nat → Nat → Dp → St1 → Dp
  | 0,_,s,_=>s
  | d+1,c,s,.mk k t ix v cc b e =>
    if k=4 then fixD (fun s=>b.foldl (depS nv d c) s) FU s
    else
      let V:=setE nv s.sets 5 v
      if k=2 then
        let I:=setE nv s.sets 5 ix
        ⟨s.sets.set (nv+t.toNat) (dat s.sets (nv+t.toNat) ||| (V.1 ||| I.1 ||| c)),s.tr ||| V.2 ||| I.2 ||| I.1,s.re⟩
      else if k=3 then
        let y:=b.foldl (depS nv d (c ||| V.1)) ⟨s.sets,s.tr ||| V.2 ||| V.1,s.re⟩
        let n:=e.foldl (depS nv d (c ||| V.1)) ⟨s.sets,y.tr,y.re⟩
        ⟨unite y.sets n.sets,n.tr,n.re⟩
      else if k=5 then ⟨s.sets.set t.toNat (V.1 ||| c),s.tr ||| V.2 ||| (V.1 ||| c),s.re ||| (V.1 ||| c)⟩
      else ⟨s.sets.set t.toNat (V.1 ||| c),s.tr ||| V.2,s.re⟩
def startD (w:Nat):Dp:=⟨(List.range w).map fun i=>2 ^ i,0,0⟩
def depP (p:Pg):Dp:=p.body.foldl (depS p.vars.length 5 0) (startD (p.vars.length+p.arrays.length))
theorem depS_4 (nv d c:Nat) (s:Dp) (t:Int) (ix v:Ex) (cc:Int) (b e:List St1):depS nv (d+1) c s (.mk 4 t ix v cc b e)=fixD (fun s=>b.foldl (depS nv d c) s) FU s:=by simp [depS]
theorem depS_1 (nv d c:Nat) (s:Dp) (t:Int) (ix v:Ex) (cc:Int) (b e:List St1):depS nv (d+1) c s (.mk 1 t ix v cc b e)=⟨s.sets.set t.toNat ((setE nv s.sets 5 v).1 ||| c),s.tr ||| (setE nv s.sets 5 v).2,s.re⟩:=by simp [depS]
theorem depS_5 (nv d c:Nat) (s:Dp) (t:Int) (ix v:Ex) (cc:Int) (b e:List St1):depS nv (d+1) c s (.mk 5 t ix v cc b e)=⟨s.sets.set t.toNat ((setE nv s.sets 5 v).1 ||| c),s.tr ||| (setE nv s.sets 5 v).2 ||| ((setE nv s.sets 5 v).1 ||| c),s.re ||| ((setE nv s.sets 5 v).1 ||| c)⟩:=by simp [depS]
theorem depS_2 (nv d c : Nat) (s : Dp) (t : Int) (ix v : Ex) (cc : Int) (b e : List St1) : depS nv (d + 1) c s (.mk 2 t ix v cc b e) =
    ⟨s.sets.set (nv+t.toNat) (dat s.sets (nv+t.toNat) ||| ((setE nv s.sets 5 v).1 ||| (setE nv s.sets 5 ix).1 ||| c)),s.tr ||| (setE nv s.sets 5 v).2 ||| (setE nv s.sets 5 ix).2 ||| (setE nv s.sets 5 ix).1,s.re⟩:=by simp [depS]
def ifY (nv d c:Nat) (s:Dp) (v:Ex) (b:List St1):Dp:=b.foldl (depS nv d (c ||| (setE nv s.sets 5 v).1)) ⟨s.sets,s.tr ||| (setE nv s.sets 5 v).2 ||| (setE nv s.sets 5 v).1,s.re⟩
def ifN (nv d c:Nat) (s:Dp) (v:Ex) (b e:List St1):Dp:=e.foldl (depS nv d (c ||| (setE nv s.sets 5 v).1)) ⟨s.sets,(ifY nv d c s v b).tr,(ifY nv d c s v b).re⟩
theorem depS_3 (nv d c : Nat) (s : Dp) (t : Int) (ix v : Ex) (cc : Int) (b e : List St1) : depS nv (d + 1) c s (.mk 3 t ix v cc b e) =
    ⟨unite (ifY nv d c s v b).sets (ifN nv d c s v b e).sets,(ifN nv d c s v b e).tr,(ifN nv d c s v b e).re⟩:=by simp [depS,ifY,ifN]
theorem dat_set (s:List Nat) (i j x:Nat):dat (s.set i x) j=if i=j∧i<s.length then x else dat s j:=by
  unfold dat
  rw [List.getD_eq_getElem?_getD,List.getD_eq_getElem?_getD,List.getElem?_set]
  by_cases h:i=j
  · subst h
    by_cases h2:i<s.length<;>simp [h2]
  · simp [h]
theorem unite_len {a b:List Nat} (h:b.length=a.length):(unite a b).length=a.length:=by simp [unite,h]
theorem dat_unite {a b:List Nat} (h:b.length=a.length) (i:Nat):dat (unite a b) i=dat a i ||| dat b i:=by
  unfold dat unite
  simp only [List.getD_eq_getElem?_getD,List.getElem?_zipWith]
  by_cases hi:i<a.length
  · have hj:i<b.length:=by omega
    simp [hi,hj]
  · have hj:¬ i<b.length:=by omega
    simp [List.getElem?_eq_none (Nat.not_lt.mp hi),List.getElem?_eq_none (Nat.not_lt.mp hj)]
theorem list_sum_lt {w : Nat} : ∀ {l : List Nat}, (∀ a ∈ l, a < 2 ^ w) → l.sum ≤ l.length * 2 ^ w
  | [],_=>by simp
  | a :: r,h=>by
    have:=list_sum_lt (l:=r) fun b hb=>h b (by simp [hb])
    have:=h a (by simp)
    simp only [List.sum_cons,List.length_cons,Nat.succ_mul];omega
theorem unite_sum : ∀ {a b : List Nat}, b.length = a.length → a.sum ≤ (unite a b).sum ∧ (unite a b ≠ a → a.sum < (unite a b).sum)
  | [],[],_=>by simp [unite]
  | a :: r,b :: q,h=>by
    have ⟨h1,h2⟩:=unite_sum (a:=r) (b:=q) (by simpa using h)
    have e:unite (a :: r) (b :: q)=(a ||| b) :: unite r q:=by simp [unite]
    have h3:a≤a ||| b:=Nat.left_le_or
    rw [e]
    simp only [List.sum_cons]
    refine ⟨by omega,fun hne=>?_⟩
    by_cases h4:unite r q=r
    · have:a ||| b ≠ a:=fun h5=>hne (by rw [h4,h5])
      omega
    · have:=h2 h4
      omega
  | [],_ :: _,h=>by simp at h
  | _ :: _,[],h=>by simp at h
structure Okd (w : Nat) (s : Dp) : Prop where
  len:s.sets.length=w
  le:w≤14
  row:∀ a ∈ s.sets,a<2 ^ w
  tr:s.tr<2 ^ w
  re:s.re<2 ^ w
theorem dat_lt {w:Nat} {s:List Nat} (h:∀ a ∈ s,a<2 ^ w) (i:Nat):dat s i<2 ^ w:=by
  unfold dat
  rw [List.getD_eq_getElem?_getD]
  cases he:s[i]? with
  | none=>simp;exact Nat.two_pow_pos w
  | some a=>exact h a (List.mem_of_getElem? he)
theorem orL_lt {w : Nat} : ∀ {l : List Nat} {a : Nat}, a < 2 ^ w → (∀ x ∈ l, x < 2 ^ w) → l.foldl (fun a b => a ||| b) a < 2 ^ w
  | [],a,h,_=>h
  | b :: r,a,h,hl=>by rw [List.foldl_cons];exact orL_lt (Nat.or_lt_two_pow h (hl b (by simp))) fun x hx=>hl x (by simp [hx])
theorem setE_lt {w nv : Nat} {s : List Nat} (h : ∀ a ∈ s, a < 2 ^ w) : ∀ (d : Nat) (e : Ex), (setE nv s d e).1 < 2 ^ w ∧ (setE nv s d e).2 < 2 ^ w
  | 0,_=>⟨Nat.two_pow_pos w,Nat.two_pow_pos w⟩
  | d+1,.mk k v ks=>by
    have h1:orL (ks.map fun e=>(setE nv s d e).1)<2 ^ w:=orL_lt (Nat.two_pow_pos w) fun x hx=>by
      obtain ⟨e,he,rfl⟩:=List.mem_map.1 hx;exact (setE_lt h d e).1
    have h2:orL (ks.map fun e=>(setE nv s d e).2)<2 ^ w:=orL_lt (Nat.two_pow_pos w) fun x hx=>by
      obtain ⟨e,he,rfl⟩:=List.mem_map.1 hx;exact (setE_lt h d e).2
    simp only [setE]
    split
    · exact ⟨Nat.or_lt_two_pow h1 (dat_lt h _),h2⟩
    · split
      · exact ⟨Nat.or_lt_two_pow h1 (dat_lt h _),Nat.or_lt_two_pow h2 h1⟩
      · exact ⟨h1,h2⟩
theorem set_row {w:Nat} {s:List Nat} (h:∀ a ∈ s,a<2 ^ w) {i x:Nat} (hx:x<2 ^ w):∀ a ∈ s.set i x,a<2 ^ w:=fun a ha=>by
  rcases List.mem_or_eq_of_mem_set ha with h1 | h1
  · exact h a h1
  · rw [h1];exact hx
theorem unite_row {w : Nat} : ∀ {a b : List Nat}, (∀ x ∈ a, x < 2 ^ w) → (∀ x ∈ b, x < 2 ^ w) → ∀ x ∈ unite a b, x < 2 ^ w
  | [],_,_,_,x,hx=>by simp [unite] at hx
  | _ :: _,[],_,_,x,hx=>by simp [unite] at hx
  | a :: r,b :: q,h1,h2,x,hx=>by
    have e:unite (a :: r) (b :: q)=(a ||| b) :: unite r q:=by simp [unite]
    rw [e] at hx
    rcases List.mem_cons.1 hx with h | h
    · rw [h];exact Nat.or_lt_two_pow (h1 a (by simp)) (h2 b (by simp))
    · exact unite_row (fun y hy=>h1 y (by simp [hy])) (fun y hy=>h2 y (by simp [hy])) x h
theorem Okd.unite {w:Nat} {s t:Dp} (h:Okd w s) (h':Okd w t) {a b:Nat} (ha:a<2 ^ w) (hb:b<2 ^ w):Okd w ⟨CtR.unite s.sets t.sets,a,b⟩ :=
  ⟨by rw [unite_len (by rw [h'.len,h.len])];exact h.len,h.le,unite_row h.row h'.row,ha,hb⟩
theorem fix_spec {w : Nat} {f : Dp → Dp} (hf : ∀ s, Okd w s → Okd w (f s)) (Q : Dp → Prop)
    (hQ:∀ s,Okd w s→Q s→Q ⟨unite s.sets (f s).sets,(f s).tr,(f s).re⟩):∀ (n:Nat) (s:Dp),Okd w s→Q s→w * 2 ^ w<n+s.sets.sum →
    ∃ t,Okd w t∧Q t∧fixD f n s=⟨t.sets,(f t).tr,(f t).re⟩∧unite t.sets (f t).sets=t.sets
  | 0,s,h,_,hn=>by
    have:=list_sum_lt (w:=w) h.row
    rw [h.len] at this
    omega
  | n+1,s,h,hq,hn=>by
    have hfs:=hf s h
    unfold fixD
    by_cases he:unite s.sets (f s).sets=s.sets
    · rw [if_pos he]
      exact ⟨s,h,hq,rfl,he⟩
    · rw [if_neg he]
      have h2:=(unite_sum (a:=s.sets) (b:=(f s).sets) (by rw [hfs.len,h.len])).2 he
      exact fix_spec hf Q hQ n _ (h.unite hfs hfs.tr hfs.re) (hQ s h hq) (by show w * 2 ^ w<n+(unite s.sets (f s).sets).sum;omega)
theorem fu_big {w:Nat} (h:w≤14) (x:Nat):w * 2 ^ w<FU+x:=by
  have h1:2 ^ w≤2 ^ 14:=Nat.pow_le_pow_right (by omega) h
  have h2:w * 2 ^ w≤14 * 2 ^ 14:=Nat.mul_le_mul h h1
  unfold FU
  omega
theorem fold_inv {α β : Type} {Q : α → Prop} {f : α → β → α} : ∀ (l : List β) (s : α), Q s → (∀ x ∈ l, ∀ s, Q s → Q (f s x)) → Q (l.foldl f s)
  | [],_,h,_=>h
  | x :: r,s,h,hf=>fold_inv r _ (hf x (by simp) s h) fun y hy=>hf y (by simp [hy])
theorem dep_ok {w nv : Nat} : ∀ (d c : Nat) (s : Dp) (t : St1), c < 2 ^ w → Okd w s → Okd w (depS nv d c s t)
  | 0,_,_,_,_,h=>h
  | d+1,c,s,.mk k t ix v cc b e,hc,h=>by
    have hV:=setE_lt (nv:=nv) h.row 5 v
    have hI:=setE_lt (nv:=nv) h.row 5 ix
    have hl:∀ (c:Nat) (l:List St1) (s:Dp),c<2 ^ w→Okd w s→Okd w (l.foldl (depS nv d c) s):=fun c l s hc h =>
      fold_inv (Q:=Okd w) l s h fun x _ s hs=>dep_ok d c s x hc hs
    have o:=fun {a b:Nat} (h1:a<2 ^ w) (h2:b<2 ^ w)=>Nat.or_lt_two_pow h1 h2
    by_cases k4:k=4
    · subst k4
      rw [depS_4]
      obtain ⟨t,ht,_,e1,_⟩:=fix_spec (f:=fun s=>b.foldl (depS nv d c) s) (fun s hs=>hl c b s hc hs) (fun _=>True) (fun _ _ _=>trivial) FU s h trivial (fu_big h.le _)
      rw [e1]
      have:=hl c b t hc ht
      exact ⟨ht.len,ht.le,ht.row,this.tr,this.re⟩
    by_cases k1:k=1
    · subst k1
      rw [depS_1]
      exact ⟨by simp [h.len],h.le,set_row h.row (o hV.1 hc),o h.tr hV.2,h.re⟩
    by_cases k5:k=5
    · subst k5
      rw [depS_5]
      exact ⟨by simp [h.len],h.le,set_row h.row (o hV.1 hc),o (o h.tr hV.2) (o hV.1 hc),o h.re (o hV.1 hc)⟩
    by_cases k2:k=2
    · subst k2
      rw [depS_2]
      exact ⟨by simp [h.len],h.le,set_row h.row (o (dat_lt h.row _) (o (o hV.1 hI.1) hc)),o (o (o h.tr hV.2) hI.2) hI.1,h.re⟩
    by_cases k3:k=3
    · subst k3
      rw [depS_3]
      have hy:Okd w (ifY nv d c s v b):=hl _ b _ (o hc hV.1) ⟨h.len,h.le,h.row,o (o h.tr hV.2) hV.1,h.re⟩
      have hn:Okd w (ifN nv d c s v b e):=hl _ e _ (o hc hV.1) ⟨h.len,h.le,h.row,hy.tr,hy.re⟩
      exact hy.unite hn hn.tr hn.re
    · have:depS nv (d+1) c s (.mk k t ix v cc b e)=⟨s.sets.set t.toNat ((setE nv s.sets 5 v).1 ||| c),s.tr ||| (setE nv s.sets 5 v).2,s.re⟩:=by simp [depS,k4,k2,k3,k5]
      rw [this]
      exact ⟨by simp [h.len],h.le,set_row h.row (o hV.1 hc),o h.tr hV.2,h.re⟩
open Go Go.CT CtF
theorem foldl_ok {w nv d c:Nat} (hc:c<2 ^ w) (l:List St1) {s:Dp} (h:Okd w s):Okd w (l.foldl (depS nv d c) s) :=
  fold_inv (Q:=Okd w) l s h fun x _ s hs=>dep_ok d c s x hc hs
end Go.Proofs.Ytddanjifhdaebaa.CtR
namespace Go.Proofs.Ytddanjifhdaebaa.CtD
open Go Go.CT CtF CtR
variable [Yn]
def nI (S:List Nat):List Int:=S.map fun (n:Nat)=>(n:Int)
theorem nI_len (S:List Nat):(nI S).length=S.length:=by simp [nI]
theorem nI_at {S:List Nat} {i:Nat} (h:i<S.length):(nI S)[i]? = some ((dat S i:Nat):Int):=by
  unfold nI dat;rw [List.getElem?_map,List.getD_eq_getElem?_getD,List.getElem?_eq_getElem h];rfl
theorem nI_set (S:List Nat) (i x:Nat):(nI S).set i (x:Int)=nI (S.set i x):=by unfold nI;rw [List.map_set]
theorem nI_put (S:List Nat) (i x:Nat):((nI S).map I64).set i (.v (.int .i64 (x:Int)))=(nI (S.set i x)).map I64:=by rw [← nI_set,List.map_set]
theorem nI_inj : ∀ {S T : List Nat}, nI S = nI T → S = T
  | [],[],_=>rfl
  | [],_ :: _,h=>by simp [nI] at h
  | _ :: _,[],h=>by simp [nI] at h
  | a :: r,b :: q,h=>by
    simp only [nI,List.map_cons,List.cons.injEq] at h
    rw [nI_inj (S:=r) (T:=q) h.2,show a=b by omega]
def dpB (p:Pg) (tr re:Nat):List C:=p.cells++[I64 (tr:Int),I64 (re:Int)]
theorem dpB_eq (p:Pg) (tr re:Nat):dpB p tr re=[isI p.vars,isI p.arrays,.isl 11 (St1.cellsL p.body),I64 (tr:Int),I64 (re:Int)]:=rfl
theorem dpB_kf (p:Pg) (tr re:Nat):kfs (dpB p tr re)=true:=by
  rw [dpB_eq];rfl
theorem dpB_ren (r:Nat→Nat) (p:Pg) (tr re:Nat):renCs r (dpB p tr re)=dpB p tr re:=renCs_plain _ (dpB_kf _ _ _)
theorem dpB_all (p:Pg) (tr re:Nat):∀ c ∈ dpB p tr re,kf c=true:=by
  rw [dpB_eq];intro c hc
  simp only [List.mem_cons,List.not_mem_nil,or_false] at hc
  rcases hc with rfl | rfl | rfl | rfl | rfl<;>rfl
theorem pow14 {w x:Nat} (hw:w≤14) (h:x<2 ^ w):x<16384:=by
  have:2 ^ w≤2 ^ 14:=Nat.pow_le_pow_right (by omega) hw
  omega
theorem dat_get {S:List Nat} {i:Nat} (h:i<S.length):S[i]? = some (dat S i):=by
  unfold dat;rw [List.getD_eq_getElem?_getD,List.getElem?_eq_getElem h];rfl
def fst1 (f:Ex→Nat × Nat) (ks:List Ex) (i:Nat):Nat:=orL ((ks.take i).map fun e=>(f e).1)
def snd1 (f:Ex→Nat × Nat) (ks:List Ex) (i:Nat):Nat:=orL ((ks.take i).map fun e=>(f e).2)
theorem fst1_succ (f:Ex→Nat × Nat) (ks:List Ex) (i:Nat) (x:Ex) (h:ks[i]? = some x):fst1 f ks (i+1)=fst1 f ks i ||| (f x).1:=by
  unfold fst1 orL;rw [List.take_add_one,h];simp
theorem snd1_succ (f:Ex→Nat × Nat) (ks:List Ex) (i:Nat) (x:Ex) (h:ks[i]? = some x):snd1 f ks (i+1)=snd1 f ks i ||| (f x).2:=by
  unfold snd1 orL;rw [List.take_add_one,h];simp
theorem fst1_lt {w:Nat} {f:Ex→Nat × Nat} (hf:∀ e,(f e).1<2 ^ w) (ks:List Ex) (i:Nat):fst1 f ks i<2 ^ w:=orL_lt (Nat.two_pow_pos w) fun x hx=>by
  obtain ⟨e,_,rfl⟩:=List.mem_map.1 hx;exact hf e
theorem snd1_lt {w:Nat} {f:Ex→Nat × Nat} (hf:∀ e,(f e).2<2 ^ w) (ks:List Ex) (i:Nat):snd1 f ks i<2 ^ w:=orL_lt (Nat.two_pow_pos w) fun x hx=>by
  obtain ⟨e,_,rfl⟩:=List.mem_map.1 hx;exact hf e
theorem setE_succ (nv : Nat) (S : List Nat) (d : Nat) (k v : Int) (ks : List Ex) : setE nv S (d + 1) (.mk k v ks) =
    (if k = 2 then (fst1 (setE nv S d) ks ks.length ||| dat S v.toNat, snd1 (setE nv S d) ks ks.length)
     else if k=3 then (fst1 (setE nv S d) ks ks.length ||| dat S (nv+v.toNat),snd1 (setE nv S d) ks ks.length ||| fst1 (setE nv S d) ks ks.length)
     else (fst1 (setE nv S d) ks ks.length,snd1 (setE nv S d) ks ks.length)):=by
  simp only [setE,fst1,snd1,List.take_length]
theorem cellI (p:Pg) (hl:p.vars.length≤14) (n:Nat) (hn:n≤14):DC Try.prog 152 [.agg p.cells,DI .i64 (n:Int)] [] (fun r h=>r=DI .i64 ((p.vars.length+n:Nat):Int)∧h=[]):=by
  obtain ⟨vs,ar,bd⟩:=p
  have hl:vs.length≤14:=hl
  simp only
  have hmx:=mx_eq
  generalize hR:(fun (r:D) (h:List (Option (List C)))=>r=DI .i64 ((vs.length+n:Nat):Int)∧h=[])=R
  refine dcZ Try.func152 ?_
  simp only [go_sem]
  iterate 3 ((try (refine drvZ Try.func152 ?_;simp only [go_sem]));((with_reducible and_intros)<;>try exact sd);(try first | refine XK.gs (DB false) ?_))
  refine RetOb.plain (d:=DI .i64 _) ?_ rfl
  rw [← hR]
  exact ⟨by push_cast;rfl,rfl⟩
theorem cloneM (xs:List Int) (hl:xs.length≤1000000) (h0:0<xs.length):DC Try.prog 98 [.c (.msl 0 1 0 xs.length)] [some (xs.map I64)] (fun d h=>d = .c (.msl 1 1 0 xs.length)∧h=[some (xs.map I64),some (xs.map I64)]):=by
  have hmx:=mx_eq
  have ht:List.take xs.length (xs.map I64)=xs.map I64:=List.take_of_length_le (by simp)
  generalize hR:(fun (r:D) (h:List (Option (List C)))=>r = .c (.msl 1 1 0 xs.length)∧h=[some (xs.map I64),some (xs.map I64)])=R
  refine dcZ Try.func98 ?_
  simp only [go_sem,h0]
  iterate 4 ((try (refine drvZ Try.func98 ?_;simp only [go_sem,h0,ht]));((with_reducible and_intros)<;>try exact sd);(try first | refine XK.gs (DB false) ?_))
  refine RetOb.ofQ (fun j=>if j=0 then some 0 else if j=1 then some 321 else none) [] (.c (.msl 1 1 0 xs.length)) [some (xs.map I64),some (xs.map I64)] ?_ (by rw [← hR];exact ⟨rfl,rfl⟩) (by simp)
  simp [enumL,DM,DMs,CM,HpOK,LowOK,hOf,upd,hpL]
  exact CMs.kf (kf_I _)
theorem equalM (xs ys:List Int) (hl:xs.length≤mx) (hlen:xs.length=ys.length):DC Try.prog 134 [.c (.msl 0 1 0 xs.length),.c (.msl 1 1 0 xs.length)] [some (xs.map I64),some (ys.map I64)] (fun r h=>r=DB (decide (xs=ys))∧h=[some (xs.map I64),some (ys.map I64)]):=by
  have hmx:=mx_eq
  have ret:∀ (b:Bool) (hp:Hp),b=decide (xs=ys)→hp 0=some (some (xs.map I64))→hp 1=some (some (ys.map I64))→RetOb 2 (fun r h=>r=DB (decide (xs=ys))∧h=[some (xs.map I64),some (ys.map I64)]) (DB b) hp:=fun b hp h h0 h1=>by
    refine RetOb.ofQ some [] (DB b) [some (xs.map I64),some (ys.map I64)] ?_ ⟨by rw [h],rfl⟩ (by simp)
    simp [enumL,DM,DMs,CM,HpOK,LowOK,hOf,upd,h0,h1]
    exact ⟨CMs.kf (kf_I _),CMs.kf (kf_I _)⟩
  generalize hR:(fun (r:D) (h:List (Option (List C)))=>r=DB (decide (xs=ys))∧h=[some (xs.map I64),some (ys.map I64)])=R at *
  have hb:((xs.length:Int) != xs.length)=false:=by simp
  refine dcZ Try.func134 ?_
  simp only [go_sem,hb]
  iterate 3 ((try (refine drvZ Try.func134 ?_;simp only [go_sem,hb]));((with_reducible and_intros)<;>try exact sd))
  refine Go.loopQ (fun i:Nat=>[(0,.c (.msl 0 1 0 xs.length)),(1,.c (.msl 1 1 0 xs.length)),(12,DI .i64 xs.length),(13,DI .i64 i)]) (fun _=>[(0,some (xs.map I64)),(1,some (ys.map I64))]) 1024 (fun i=>i≤xs.length∧decide (xs=ys)=decide (xs.drop i=ys.drop i)) (fun i=>xs.length - i) ?_ 0 some [] _ ⟨Nat.zero_le _,rfl⟩ ?_
  · intro i hi again
    have hi':=hi.1
    rcases Nat.lt_or_ge i xs.length with hlt | hge
    · obtain ⟨x,hx⟩:∃ x,xs[i]? = some x:=⟨xs[i],by simp [hlt]⟩
      obtain ⟨y,hy⟩:∃ y,ys[i]? = some y:=⟨ys[i]'(by omega),by simp⟩
      have hI:=hi.2
      obtain ⟨_,ex⟩:=List.getElem?_eq_some_iff.1 hx
      obtain ⟨hyl,ey⟩:=List.getElem?_eq_some_iff.1 hy
      rw [List.drop_eq_getElem_cons hlt,List.drop_eq_getElem_cons hyl,ex,ey] at hI
      by_cases hxy:x=y
      · have hq:(x != y)=false:=by simp [hxy]
        refine drvL Try.func134 ?_
        simp only [go_sem,hlt,hx,hy,hq]
        iterate 6 ((try (refine drvZ Try.func134 ?_;simp only [go_sem,hlt,hx,hy,hq]));((with_reducible and_intros)<;>try exact sd);(try first | refine XK.gs (DB false) ?_))
        refine again (i+1) some [] _ ⟨by omega,by rw [hI];simp [hxy]⟩ (by omega) ?_
        simp only [go_sem,TmOK,DM,DMs,CM,CMs,forall_eq,exists_eq_left,Mq,HpOK,LowOK]
        simp
        try exact ⟨CMs.kf (kf_I _),CMs.kf (kf_I _)⟩
      · have hq:(x != y)=true:=by simp [hxy]
        refine drvL Try.func134 ?_
        simp only [go_sem,hlt,hx,hy,hq]
        iterate 6 ((try (refine drvZ Try.func134 ?_;simp only [go_sem,hlt,hx,hy,hq]));((with_reducible and_intros)<;>try exact sd);(try first | refine XK.gs (DB false) ?_))
        exact ret _ _ (by rw [hI];simp [hxy]) rfl rfl
    · have hn:¬ i<xs.length:=by omega
      refine drvL Try.func134 ?_
      simp only [go_sem,hn]
      iterate 6 ((try (refine drvZ Try.func134 ?_;simp only [go_sem,hn]));((with_reducible and_intros)<;>try exact sd);(try first | refine XK.gs (DB false) ?_))
      exact ret _ _ (by rw [hi.2,List.drop_of_length_le hge,List.drop_of_length_le (by omega)];rfl) rfl rfl
  · simp only [go_sem,TmOK,DM,DMs,CM,CMs,forall_eq,exists_eq_left,Mq,HpOK,LowOK]
    simp
    try exact ⟨CMs.kf (kf_I _),CMs.kf (kf_I _)⟩
def uniA (a b : List Nat) : Nat → List Nat
  | 0=>a
  | i+1=>(uniA a b i).set i (dat (uniA a b i) i ||| dat b i)
theorem uniA_len (a b : List Nat) : ∀ i, (uniA a b i).length = a.length
  | 0=>rfl
  | i+1=>by rw [uniA,List.length_set,uniA_len a b i]
theorem uniA_dat (a b : List Nat) : ∀ i j, i ≤ a.length → dat (uniA a b i) j = if j < i then dat a j ||| dat b j else dat a j
  | 0,j,_=>by simp [uniA]
  | i+1,j,h=>by
    have h1:=uniA_dat a b i j (by omega)
    have h2:=uniA_dat a b i i (by omega)
    rw [uniA,dat_set,uniA_len]
    by_cases e:i=j
    · subst e
      rw [if_pos ⟨rfl,by omega⟩,h2,if_neg (by omega),if_pos (by omega)]
    · rw [if_neg (fun x=>e x.1),h1]
      by_cases e2:j<i
      · rw [if_pos e2,if_pos (by omega)]
      · rw [if_neg e2,if_neg (by omega)]
theorem dat_ext {a b:List Nat} (hl:a.length=b.length) (h:∀ i,i<a.length→dat a i=dat b i):a=b:=by
  refine List.ext_getElem hl fun i h1 h2=>?_
  have:=h i h1
  rw [dat,dat,List.getD_eq_getElem?_getD,List.getD_eq_getElem?_getD,List.getElem?_eq_getElem h1,List.getElem?_eq_getElem h2] at this
  exact this
theorem uniA_all {a b:List Nat} (h:b.length=a.length):uniA a b a.length=unite a b :=
  dat_ext (by rw [uniA_len,unite_len h]) fun i hi=>by
    rw [uniA_len] at hi
    rw [uniA_dat a b _ i (Nat.le_refl _),if_pos hi,dat_unite h]
theorem unitedI (a b : List Nat) (n : Nat) (ha : a.length = n) (hb : b.length = n) (h0 : 0 < n) (hn : n ≤ 14) (ra : ∀ x ∈ a, x < 16384) (rb : ∀ x ∈ b, x < 16384) : DC Try.prog 183 [.c (.msl 0 1 0 n), .c (.msl 1 1 0 n)] [some ((nI a).map I64), some ((nI b).map I64)]
    (fun r h=>r = .c (.msl 2 1 0 n)∧h=[some ((nI a).map I64),some ((nI b).map I64),some ((nI (unite a b)).map I64)]):=by
  have hmx:=mx_eq
  rw [← uniA_all (hb.trans ha.symm),ha]
  have hcl:=cloneM (nI a) (by rw [nI_len];omega) (by rw [nI_len];omega)
  rw [nI_len,ha] at hcl
  have hla:=nI_len a
  have hlb:=nI_len b
  generalize hR:(fun (r:D) (h:List (Option (List C)))=>r = .c (.msl 2 1 0 n)∧h=[some ((nI a).map I64),some ((nI b).map I64),some ((nI (uniA a b n)).map I64)])=R
  refine dcZ Try.func183 ?_
  simp only [go_sem]
  iterate 2 ((try (refine drvZ Try.func183 ?_;simp only [go_sem]));((with_reducible and_intros)<;>try exact sd))
  refine XK.callG [0] hcl ok98 (hhpG (by simp [HH,upd,hpL,renCs_I])) (hbT ()) (fun d h' ⟨_,e⟩=>by subst e;simp) ?_
  rintro _ _ ⟨rfl,rfl⟩ _
  iterate 3 ((try (refine drvZ Try.func183 ?_;simp only [go_sem,renCs_I]));((with_reducible and_intros)<;>try exact sd))
  refine Go.loopQ (fun i : Nat => [(5, .c (.msl 2 1 0 n)), (10, .c (.msl 1 1 0 n)), (11, DI .i64 n), (12, DI .i64 i)])
    (fun i=>[(0,some ((nI a).map I64)),(1,some ((nI b).map I64)),(2,some ((nI (uniA a b i)).map I64))]) 1024 (fun i=>i≤n) (fun i=>n - i) ?_ 0 (fun j=>if j=2 then some 130 else if j<2 then some j else none) [] _ (Nat.zero_le _) ?_
  · intro i hi again
    rcases Nat.lt_or_ge i n with hlt | hge
    · have hlu:=uniA_len a b i
      have hx:(nI (uniA a b i))[i]? = some ((dat (uniA a b i) i:Nat):Int):=nI_at (by omega)
      have hy:(nI b)[i]? = some ((dat b i:Nat):Int):=nI_at (by omega)
      have hlU:=nI_len (uniA a b i)
      have hs:=nI_put (uniA a b i) i (dat (uniA a b i) i ||| dat b i)
      have e1:uniA a b (i+1)=(uniA a b i).set i (dat (uniA a b i) i ||| dat b i):=rfl
      have hq:dat (uniA a b i) i<16384:=by
        rw [uniA_dat a b i i (by omega),if_neg (by omega)];exact dat_lt (w:=14) ra i
      have hq2:dat b i<16384:=dat_lt (w:=14) rb i
      generalize uniA a b i=U at *
      generalize dat U i=u at *
      generalize dat b i=v at *
      refine drvL Try.func183 ?_
      simp only [go_sem,hlt,hx,hy]
      iterate 6 ((try (refine drvZ Try.func183 ?_;simp only [go_sem,hlt,hx,hy,hs]));((with_reducible and_intros)<;>try exact sd))
      refine again (i+1) some [] _ hlt (by omega) ?_
      simp only [go_sem,TmOK,DM,DMs,CM,CMs,forall_eq,exists_eq_left,Mq,HpOK,LowOK,e1]
      simp
      exact ⟨CMs.kf (kf_I _),CMs.kf (kf_I _),CMs.kf (kf_I _)⟩
    · have hn2:¬ i<n:=by omega
      obtain rfl:i=n:=by omega
      refine drvL Try.func183 ?_
      simp only [go_sem,hn2]
      iterate 6 ((try (refine drvZ Try.func183 ?_;simp only [go_sem,hn2]));((with_reducible and_intros)<;>try exact sd);(try first | refine XK.gs (DB false) ?_))
      refine RetOb.ofQ some [] (.c (.msl 2 1 0 i)) [some ((nI a).map I64),some ((nI b).map I64),some ((nI (uniA a b i)).map I64)] ?_ (by rw [← hR];exact ⟨rfl,rfl⟩) (by simp)
      simp [enumL,DM,DMs,CM,HpOK,LowOK,hOf,upd,hpL]
      exact ⟨CMs.kf (kf_I _),CMs.kf (kf_I _),CMs.kf (kf_I _)⟩
  · simp only [go_sem,TmOK,DM,DMs,CM,CMs,forall_eq,exists_eq_left,Mq,HpOK,LowOK,uniA]
    simp
    exact ⟨CMs.kf (kf_I _),CMs.kf (kf_I _),CMs.kf (kf_I _)⟩
theorem setI {w:Nat} (p:Pg) (hw:p.vars.length+p.arrays.length=w) (hw14:w≤14) (w0:0<w) (S:List Nat) (hS:S.length=w) (hr:∀ a ∈ S,a<2 ^ w) (re:Nat):∀ (d:Nat) (e:Ex) (tr:Nat),CtR.shape p d e=true→tr<2 ^ w →
    DC Try.prog 184 [.c (.ptr 0 0),.agg e.cells,.c (.msl 1 1 0 w)] [some (dpB p tr re),some ((nI S).map I64)] (fun r h=>r=DI .i64 ((setE p.vars.length S d e).1:Nat)∧h=[some (dpB p (tr ||| (setE p.vars.length S d e).2) re),some ((nI S).map I64)]):=by
  have hmx:=mx_eq
  intro d
  induction d with
  | zero=>intro e tr h;simp [CtR.shape] at h
  | succ d ih =>
    intro e tr hsh htr
    obtain ⟨k,v,ks⟩:=e
    obtain ⟨g1,g2,g3⟩:=shape_succ hsh
    obtain ⟨hl3,hla,hv0,hv1⟩:=fits_len g1
    have hlim:k=2→v<p.vars.length:=fun hk=>by subst hk;simpa [limit] using hv1
    have hlim3:k=3→v<p.arrays.length:=fun hk=>by subst hk;simpa [limit] using hv1
    have hcell:=cellI p (by omega) v.toNat
    obtain ⟨vs,ar,bd⟩:=p
    have hw:vs.length+ar.length=w:=hw
    simp only at hlim hlim3 ih hcell
    rw [setE_succ]
    simp only at ih ⊢
    have hlt1:=fun e=>pow14 hw14 (setE_lt (nv:=vs.length) hr d e).1
    have hlt2:=fun e=>pow14 hw14 (setE_lt (nv:=vs.length) hr d e).2
    have hltp:=fun e=>(setE_lt (nv:=vs.length) hr d e).2
    have ho:=fun i=>pow14 hw14 (fst1_lt (fun e=>(setE_lt (nv:=vs.length) hr d e).1) ks i)
    have ha:=fun i=>pow14 hw14 (snd1_lt (fun e=>(setE_lt (nv:=vs.length) hr d e).2) ks i)
    have hta:=fun i=>Nat.or_lt_two_pow htr (snd1_lt (fun e=>(setE_lt (nv:=vs.length) hr d e).2) ks i)
    have hda:=fun i=>pow14 hw14 (dat_lt hr i)
    have hf0:fst1 (setE vs.length S d) ks 0=0:=by simp [fst1]
    have hs0:tr ||| snd1 (setE vs.length S d) ks 0=tr:=by simp [snd1]
    have hstep:=fun i x h=>And.intro (fst1_succ (setE vs.length S d) ks i x h) (snd1_succ (setE vs.length S d) ks i x h)
    generalize setE vs.length S d=F at *
    generalize hR:(fun (r:D) (h:List (Option (List C)))=>r=DI .i64 _∧h=_)=R
    refine dcZ Try.func184 ?_
    simp only [go_sem]
    iterate 4 ((try (refine drvZ Try.func184 ?_;simp only [go_sem]));((with_reducible and_intros)<;>try exact sd))
    refine Go.loopQ (fun i : Nat => [(0, .c (.ptr 0 0)), (2, .c (.msl 1 1 0 w)), (4, .c (.ptr 2 0)), (7, DI .i64 (fst1 F ks i : Nat)), (11, .c (.isl 3 (Ex.cellsL ks))), (12, DI .i64 ks.length), (13, DI .i64 i)])
      (fun i=>[(0,some (dpB ⟨vs,ar,bd⟩ (tr ||| snd1 F ks i) re)),(1,some ((nI S).map I64)),(2,some (Ex.cells (.mk k v ks)))])
      4096 (fun i=>i≤ks.length) (fun i=>ks.length - i) ?_ 0 some [] _ (Nat.zero_le _) ?_
    · intro i hi again
      rcases Nat.lt_or_ge i ks.length with hlt | hge
      · obtain ⟨⟨k',v',ks'⟩,hx⟩:∃ x,ks[i]? = some x:=⟨ks[i],by simp [hlt]⟩
        obtain ⟨hsc,hsd⟩:=hstep i _ hx
        have hih:=ih (.mk k' v' ks') (tr ||| snd1 F ks i) (g2 _ (List.mem_of_getElem? hx)) (hta i)
        have h1:=hlt1 (.mk k' v' ks')
        have h2:=ho i
        refine drvL Try.func184 ?_
        simp only [go_sem,hx,hlt,dpB_eq]
        iterate 2 ((try (refine drvZ Try.func184 ?_;simp only [go_sem,hx,hlt,dpB_eq]));((with_reducible and_intros)<;>try exact sd))
        refine XK.callG [0,1] hih ok184 (hhpG (by simp [HH,renCs_I,dpB_ren,upd,hOf];rfl)) (hbT ()) (fun d h' ⟨_,e⟩=>by subst e;simp) ?_ (fun _=>⟨by kernel_rfl,_,_,⟨rfl,rfl⟩,by simp⟩)
        rintro _ _ ⟨rfl,rfl⟩ _
        iterate 3 ((try (refine drvZ Try.func184 ?_;simp only [go_sem,hx,hlt,dpB_eq,renCs_I]));((with_reducible and_intros)<;>try exact sd))
        refine again (i+1) some [] _ hlt (by omega) ?_
        simp only [go_sem,TmOK,DM,DMs,CM,CMs,forall_eq,exists_eq_left,Mq,HpOK,LowOK,hsc,hsd,dpB_eq]
        simp [Nat.or_assoc]
        exact CMs.kf (kf_I _)
      · have hn2:¬ i<ks.length:=by omega
        obtain rfl:i=ks.length:=by omega
        have h2:=ho ks.length
        have h3:=ha ks.length
        have hta:=hta ks.length
        generalize fst1 F ks ks.length=fo at *
        generalize snd1 F ks ks.length=so at *
        have htl:=pow14 hw14 hta
        have key:k=2∨k=3∨(k ≠ 2∧k ≠ 3):=by omega
        rcases key with hk | hk | ⟨hk2,hk3⟩
        · have hv2:=hlim hk
          have e2:(k == 2)=true:=by simp [hk]
          have f2:(k=2)=True:=by simp [hk]
          have hx:(nI S)[v.toNat]? = some ((dat S v.toNat:Nat):Int):=nI_at (by omega)
          have hd:=hda v.toNat
          generalize dat S v.toNat=q at *
          refine drvL Try.func184 ?_
          simp only [go_sem,hn2,e2,f2,hx,dpB_eq]
          iterate 4 ((try (refine drvZ Try.func184 ?_;simp only [go_sem,hn2,e2,f2,hx,dpB_eq]));((with_reducible and_intros)<;>try exact sd))
          refine RetOb.ofQ some [] (DI .i64 _) [some (dpB ⟨vs,ar,bd⟩ (tr ||| so) re),some ((nI S).map I64)] ?_ (by rw [← hR,if_pos hk];exact ⟨rfl,rfl⟩) (by simp)
          simp [enumL,DM,DMs,HpOK,LowOK,hOf,upd,dpB_eq]
          exact ⟨CM.kf rfl,CMs.kf (dpB_all ⟨vs,ar,bd⟩ _ _),CMs.kf (kf_I _)⟩
        · have hv3:=hlim3 hk
          have e2:(k == 2)=false:=by simp [hk]
          have f2:(k=2)=False:=by simp [hk]
          have e3:(k == 3)=true:=by simp [hk]
          have f3:(k=3)=True:=by simp [hk]
          have hx:(nI S)[vs.length+v.toNat]? = some ((dat S (vs.length+v.toNat):Nat):Int):=nI_at (by omega)
          have hd:=hda (vs.length+v.toNat)
          have hcell:=hcell (by omega)
          have hvn:((v.toNat:Nat):Int)=v:=by omega
          rw [hvn] at hcell
          have hi4:((vs.length:Int)+(v.toNat:Int)).toNat=vs.length+v.toNat:=by omega
          generalize dat S (vs.length+v.toNat)=q at *
          refine drvL Try.func184 ?_
          simp only [go_sem,hn2,e2,f2,e3,f3,hx,dpB_eq]
          iterate 6 ((try (refine drvZ Try.func184 ?_;simp only [go_sem,hn2,e2,f2,e3,f3,hx,hi4,dpB_eq]));((with_reducible and_intros)<;>try exact sd);(try first | refine XK.p hcell ok152 ?_ | refine XK.gp hcell ok152 ?_))
          refine RetOb.ofQ some [] (DI .i64 _) [some (dpB ⟨vs,ar,bd⟩ (tr ||| (so ||| fo)) re),some ((nI S).map I64)] ?_ (by rw [← hR,if_neg (by omega),if_pos hk];exact ⟨rfl,rfl⟩) (by simp)
          simp [enumL,DM,DMs,HpOK,LowOK,hOf,upd,dpB_eq,Nat.or_assoc]
          exact ⟨CM.kf rfl,CMs.kf (dpB_all ⟨vs,ar,bd⟩ _ _),CMs.kf (kf_I _)⟩
        · have e2:(k == 2)=false:=by simp [hk2]
          have f2:(k=2)=False:=by simp [hk2]
          have e3:(k == 3)=false:=by simp [hk3]
          have f3:(k=3)=False:=by simp [hk3]
          refine drvL Try.func184 ?_
          simp only [go_sem,hn2,e2,f2,e3,f3,dpB_eq]
          iterate 4 ((try (refine drvZ Try.func184 ?_;simp only [go_sem,hn2,e2,f2,e3,f3,dpB_eq]));((with_reducible and_intros)<;>try exact sd);(try first | refine XK.p hcell ok152 ?_ | refine XK.gp hcell ok152 ?_))
          refine RetOb.ofQ some [] (DI .i64 _) [some (dpB ⟨vs,ar,bd⟩ (tr ||| so) re),some ((nI S).map I64)] ?_ (by rw [← hR,if_neg hk2,if_neg hk3];exact ⟨rfl,rfl⟩) (by simp)
          simp [enumL,DM,DMs,HpOK,LowOK,hOf,upd,dpB_eq]
          exact ⟨CM.kf rfl,CMs.kf (dpB_all ⟨vs,ar,bd⟩ _ _),CMs.kf (kf_I _)⟩
    · simp only [go_sem,TmOK,DM,DMs,CM,CMs,forall_eq,exists_eq_left,Mq,HpOK,LowOK,hf0,hs0,dpB_eq]
      simp
      exact CMs.kf (kf_I _)
end Go.Proofs.Ytddanjifhdaebaa.CtD
