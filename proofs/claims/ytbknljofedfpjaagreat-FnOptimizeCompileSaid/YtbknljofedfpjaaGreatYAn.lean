/- Contracts of functions of the program, one behind the other, as plain data: what each call returns and which blocks it leaves. -/
import Derived.Test.YtbknljofedfpjaaGreatYFacts
import Derived.Test.YtbknljofedfpjaaGreatYAk
import Derived.Test.YtbknljofedfpjaaGreatYAl
import Derived.Test.YtbknljofedfpjaaGreatYAm
import Derived.Test.YtbknljofedfpjaaGreatYAi
set_option linter.unusedVariables false
set_option linter.unusedSimpArgs false
set_option linter.unusedSectionVars false
set_option maxHeartbeats 16000000
set_option maxRecDepth 100000
namespace Go.Proofs.YtbknljofedfpjaaGreat.CtR
open Go Go.CT CtF
variable [Yn]
def setV (m:Mm) (t x:Int):Mm:=⟨m.vals.set t.toNat x,m.arrays⟩
def setA (m:Mm) (t i x:Int):Mm:=⟨m.vals,m.arrays.set t.toNat ((arrAt m t).set i.toNat x)⟩
def foldR (f : Mm → St1 → Mm × List Ev) : Mm → List St1 → Mm × List Ev
 | m,[]=>(m,[])
 | m,s :: r=>((foldR f (f m s).1 r).1,(f m s).2++(foldR f (f m s).1 r).2)
def iterR (f : Mm → Mm × List Ev) : Nat → Mm → Mm × List Ev
 | 0,m=>(m,[])
 | n+1,m=>((f (iterR f n m).1).1,(iterR f n m).2++(f (iterR f n m).1).2)
theorem foldR_snoc (f : Mm → St1 → Mm × List Ev) : ∀ (l : List St1) (m : Mm) (s : St1), foldR f m (l ++ [s]) = ((f (foldR f m l).1 s).1, (foldR f m l).2 ++ (f (foldR f m l).1 s).2)
 | [],m,s=>by simp [foldR]
 | a :: r,m,s=>by simp only [List.cons_append,foldR,foldR_snoc f r,List.append_assoc]
def runS : Nat → Mm → St1 → Mm × List Ev
 | 0,m,_=>(m,[])
 | d+1,m,.mk k t ix v c b e =>
  if k=4 then iterR (fun m=>foldR (runS d) m b) c.toNat m
  else if k=1 then (setV m t (evalE m 5 v).1,(evalE m 5 v).2)
  else if k=5 then (setV m t (evalE m 5 v).1,(evalE m 5 v).2++[⟨4,(evalE m 5 v).1⟩])
  else if k=2 then (setA m t ((evalE m 5 ix).1 % 4) (evalE m 5 v).1,(evalE m 5 v).2++[⟨3,t * 4+(evalE m 5 ix).1 % 4⟩])
  else if (evalE m 5 v).1 ≠ 0 then ((foldR (runS d) m b).1,(evalE m 5 v).2++[⟨1,1⟩]++(foldR (runS d) m b).2)
  else ((foldR (runS d) m e).1,(evalE m 5 v).2++[⟨1,0⟩]++(foldR (runS d) m e).2)
def runL (d:Nat) (m:Mm) (l:List St1):Mm × List Ev:=foldR (runS d) m l
theorem runL_succ (d : Nat) (m : Mm) (l : List St1) (i : Nat) (s : St1) (h : l[i]? = some s) :
 runL d m (l.take (i+1))=((runS d (runL d m (l.take i)).1 s).1,(runL d m (l.take i)).2++(runS d (runL d m (l.take i)).1 s).2):=by
 unfold runL;rw [List.take_add_one,h];exact foldR_snoc _ _ _ _
theorem set_mem {l:List Int} {i:Nat} {x y:Int} (h:y ∈ l.set i x):y ∈ l∨y=x:=List.mem_or_eq_of_mem_set h
theorem MemFits.setV {p : Pg} {m : Mm} (hm : MemFits p m) {t x : Int} (hx : 0 ≤ x ∧ x ≤ 255) : MemFits p (setV m t x) where
 nv:=by simp [CtR.setV,hm.nv]
 na:=hm.na
 nv12:=hm.nv12
 na2:=hm.na2
 val:=fun y hy=>(set_mem hy).elim (hm.val y) fun h=>by rw [h];exact hx
 arr:=hm.arr
theorem MemFits.setA {p : Pg} {m : Mm} (hm : MemFits p m) {t i x : Int} (ht : 0 ≤ t ∧ t < m.arrays.length) (hx : 0 ≤ x ∧ x ≤ 255) : MemFits p (setA m t i x) where
 nv:=hm.nv
 na:=by simp [CtR.setA,hm.na]
 nv12:=hm.nv12
 na2:=hm.na2
 val:=hm.val
 arr:=fun a ha=>by
  have h4:=hm.arr _ (arrAt_mem ht.1 ht.2).2
  rcases List.mem_or_eq_of_mem_set ha with h | h
  ·exact hm.arr a h
  ·subst h
   exact ⟨by simp [h4.1],fun y hy=>(set_mem hy).elim (h4.2 y) fun h=>by rw [h];exact hx⟩
theorem stmtOK_succ {p : Pg} {d : Nat} {k t : Int} {ix v : Ex} {c : Int} {b e : List St1} (h : stmtOK p (d + 1) (.mk k t ix v c b e) = true) :
 headOK p k t ix v c b.length e.length=true∧(∀ x ∈ b,stmtOK p d x=true)∧(∀ x ∈ e,stmtOK p d x=true):=by
 simp only [stmtOK,Bool.and_eq_true,List.all_eq_true] at h
 exact ⟨h.1.1,h.1.2,h.2⟩
theorem right_shape {p:Pg} {e:Ex} (h:right p e=true):shape p 5 e=true∧cnt 5 e≤15:=by
 simp only [right,Bool.and_eq_true,decide_eq_true_eq] at h
 exact ⟨h.1,by omega⟩
theorem head_kind {p : Pg} {k t : Int} {ix v : Ex} {c : Int} {bn en : Nat} (h : headOK p k t ix v c bn en = true) :
 (k=1∨k=5)∧0≤t∧t<p.vars.length∧right p v=true∨k=2∧0≤t∧t<p.arrays.length∧right p ix=true∧atom ix=true∧right p v=true∨k=3∧right p v=true∨k=4∧1≤c∧c≤3:=by
 unfold headOK parts blk at h
 by_cases h1:k=1∨k=5
 ·left;simp only [if_pos h1] at h;grind
 ·right
  by_cases h2:k=2
  ·left;subst h2;simp at h;grind
  ·right
   by_cases h3:k=3
   ·left;subst h3;simp at h;grind
   ·right
    have h4:k=4:=by grind
    subst h4;simp at h;grind
def wt (d:Nat):Nat:=20 * 3 ^ d
theorem foldR_ok {p : Pg} {f : Mm → St1 → Mm × List Ev} {q : St1 → Bool} {w : St1 → Nat} (hf : ∀ m s, MemFits p m → q s = true → MemFits p (f m s).1 ∧ (f m s).2.length ≤ w s) :
 ∀ (l:List St1) (m:Mm),MemFits p m→(∀ s ∈ l,q s=true)→MemFits p (foldR f m l).1∧(foldR f m l).2.length≤(l.map w).sum
 | [],m,hm,_=>⟨hm,by simp [foldR]⟩
 | a :: r,m,hm,hq=>by
  have h1:=hf m a hm (hq a (by simp))
  have h2:=foldR_ok hf r _ h1.1 fun s hs=>hq s (by simp [hs])
  refine ⟨h2.1,?_⟩
  simp only [foldR,List.length_append,List.map_cons,List.sum_cons]
  omega
theorem iterR_ok {p : Pg} {f : Mm → Mm × List Ev} {w : Nat} (hf : ∀ m, MemFits p m → MemFits p (f m).1 ∧ (f m).2.length ≤ w) : ∀ (n : Nat) (m : Mm), MemFits p m → MemFits p (iterR f n m).1 ∧ (iterR f n m).2.length ≤ n * w
 | 0,m,hm=>⟨hm,by simp [iterR]⟩
 | n+1,m,hm=>by
  have h1:=iterR_ok hf n m hm
  have h2:=hf _ h1.1
  refine ⟨h2.1,?_⟩
  simp only [iterR,List.length_append,Nat.add_mul]
  omega
theorem sum_mul (f : St1 → Nat) (k : Nat) : ∀ l : List St1, (l.map fun s => k * f s).sum = k * (l.map f).sum
 | []=>by simp
 | a :: r=>by simp only [List.map_cons,List.sum_cons,sum_mul f k r,Nat.mul_add]
theorem runS_ok {p : Pg} : ∀ (d : Nat) (m : Mm) (s : St1), MemFits p m → stmtOK p d s = true → MemFits p (runS d m s).1 ∧ (runS d m s).2.length ≤ wt d * tsize d s
 | 0,m,s,_,h=>by simp [stmtOK] at h
 | d+1,m,.mk k t ix v c b e,hm,h=>by
  obtain ⟨hh,hb,he⟩:=stmtOK_succ h
  have fb:=fun m' hm'=>foldR_ok (fun m s hm hs=>runS_ok d m s hm hs) b m' hm' hb
  have fe:=fun m' hm'=>foldR_ok (fun m s hm hs=>runS_ok d m s hm hs) e m' hm' he
  simp only [sum_mul] at fb fe
  have hw:wt (d+1)=3 * wt d:=by unfold wt;rw [Nat.pow_succ];omega
  have hw1:20≤wt d:=by unfold wt;have:0<3 ^ d:=Nat.pow_pos (by decide);omega
  have hts:tsize (d+1) (.mk k t ix v c b e)=1+(b.map (tsize d)).sum+(e.map (tsize d)).sum:=rfl
  have hbig:wt (d+1) * tsize (d+1) (.mk k t ix v c b e)=3 * wt d+3 * (wt d * (b.map (tsize d)).sum)+3 * (wt d * (e.map (tsize d)).sum):=by
   rw [hts,hw,Nat.mul_add,Nat.mul_add,Nat.mul_assoc,Nat.mul_assoc,Nat.mul_assoc];omega
  rw [hbig]
  rcases head_kind hh with ⟨hk,ht0,ht1,hr⟩ | ⟨hk,ht0,ht1,hri,hai,hr⟩ | ⟨hk,hr⟩ | ⟨hk,hc1,hc3⟩
  ·have hs:=right_shape hr
   have he1:=evalE_range hm 5 v hs.1
   have he2:=evalE_len (m:=m) 5 v hs.1
   have hk4:k ≠ 4:=by omega
   rcases hk with hk | hk
   ·subst hk
    simp only [runS,if_neg hk4,if_true]
    exact ⟨hm.setV he1,by omega⟩
   ·subst hk
    simp only [runS,if_neg hk4,if_true,show ¬ ((5:Int)=1) by decide,if_false]
    exact ⟨hm.setV he1,by simp;omega⟩
  ·have hs:=right_shape hr
   have he1:=evalE_range hm 5 v hs.1
   have he2:=evalE_len (m:=m) 5 v hs.1
   subst hk
   simp only [runS,show ¬ ((2:Int)=4) by decide,show ¬ ((2:Int)=1) by decide,show ¬ ((2:Int)=5) by decide,if_false,if_true]
   exact ⟨hm.setA ⟨ht0,by rw [hm.na];exact ht1⟩ he1,by simp;omega⟩
  ·have hs:=right_shape hr
   have he2:=evalE_len (m:=m) 5 v hs.1
   subst hk
   simp only [runS,show ¬ ((3:Int)=4) by decide,show ¬ ((3:Int)=1) by decide,show ¬ ((3:Int)=5) by decide,show ¬ ((3:Int)=2) by decide,if_false]
   have g1:=fb m hm
   have g2:=fe m hm
   split
   ·exact ⟨g1.1,by simp;omega⟩
   ·exact ⟨g2.1,by simp;omega⟩
  ·subst hk
   simp only [runS,if_true]
   have:=iterR_ok (f:=fun m=>foldR (runS d) m b) (fun m hm=>fb m hm) c.toNat m hm
   refine ⟨this.1,Nat.le_trans this.2 ?_⟩
   have hc:c.toNat≤3:=by omega
   have:=Nat.mul_le_mul_right (wt d * (b.map (tsize d)).sum) hc
   omega
theorem runL_ok {p:Pg} {d:Nat} {m:Mm} {l:List St1} (hm:MemFits p m) (h:∀ s ∈ l,stmtOK p d s=true):MemFits p (runL d m l).1∧(runL d m l).2.length≤wt d * lsize d l:=by
 have:=foldR_ok (fun m s hm hs=>runS_ok d m s hm hs) l m hm h
 rw [sum_mul] at this
 exact this
theorem map_setV (m:Mm) (t x:Int):(setV m t x).vals.map I64=(m.vals.map I64).set t.toNat (.v (.int .i64 x)):=by
 unfold setV;exact List.map_set
theorem blk0_set0 (m:Mm) (i x:Int) (h:0<m.arrays.length):blk0 (setA m 0 i x).arrays=(blk0 m.arrays).set i.toNat (.v (.int .i64 x)):=by
 have e:m.arrays[0]? = some (arrAt m 0):=(arrAt_mem (m:=m) (v:=0) (by omega) (by omega)).1
 unfold blk0 setA
 simp only [Int.toNat_zero,List.getElem?_set_self h,Option.getD_some,e]
 exact List.map_set
theorem blk1_set0 (m:Mm) (i x:Int):blk1 (setA m 0 i x).arrays=blk1 m.arrays:=by
 unfold blk1 setA
 simp only [Int.toNat_zero]
 rw [List.getElem?_set_ne (by decide)]
theorem blk1_set1 (m:Mm) (i x:Int) (h:1<m.arrays.length):blk1 (setA m 1 i x).arrays=(blk1 m.arrays).set i.toNat (.v (.int .i64 x)):=by
 have e:m.arrays[1]? = some (arrAt m 1):=(arrAt_mem (m:=m) (v:=1) (by omega) (by omega)).1
 unfold blk1 setA
 simp only [show (1:Int).toNat=1 from rfl,List.getElem?_set_self h,Option.getD_some,e]
 exact List.map_set
theorem blk0_set1 (m:Mm) (i x:Int):blk0 (setA m 1 i x).arrays=blk0 m.arrays:=by
 unfold blk0 setA
 simp only [show (1:Int).toNat=1 from rfl]
 rw [List.getElem?_set_ne (by decide)]
theorem cells_kf (k t:Int) (ik iv:Int) (iks:List Ex) (vk vv:Int) (vks:List Ex) (c:Int) (b e:List St1):∀ x ∈ St1.cells (.mk k t (.mk ik iv iks) (.mk vk vv vks) c b e),kf x=true:=by
 simp [St1.cells,Ex.cells,kf]
def stP' (p:Pg) (m:Mm) (tr:List Ev):List (Option (List C)):=[some [.msl 2 1 0 p.vars.length,.msl 3 1 0 p.arrays.length,.msl 6 2 0 tr.length],none,some (m.vals.map I64),some (hdr 4 5 p.arrays.length),some (blk0 m.arrays),some (blk1 m.arrays),some (trC tr)]
theorem evalI2 (p : Pg) (m : Mm) (hm : MemFits p m) (e : Ex) (tr : List Ev) (hr : right p e = true) (htr : tr.length + 15 ≤ 1073741824) : DC Tryz.prog 103 [.c (.ptr 0 0), .agg e.cells] [some [.msl 2 1 0 p.vars.length, .msl 3 1 0 p.arrays.length, .msl 1 2 0 tr.length], some (trC tr), some (m.vals.map I64), some (hdr 4 5 p.arrays.length), some (blk0 m.arrays), some (blk1 m.arrays)]
 (fun r h=>r=DI .i64 (evalE m 5 e).1∧h=stP' p m (tr++(evalE m 5 e).2)):=by
 have hs:=right_shape hr
 have h:=evalI p m hm 5 e tr hs.1 (by omega)
 unfold stI stI' at h
 rw [hm.nv,hm.na] at h
 exact h
theorem event2 (p:Pg) (m:Mm) (hm:MemFits p m) (k0 v0:Int) (tr:List Ev) (htr:tr.length+1≤1073741824):DC Tryz.prog 104 [.c (.ptr 0 0),DI .i64 k0,DI .i64 v0] [some [.msl 2 1 0 p.vars.length,.msl 3 1 0 p.arrays.length,.msl 1 2 0 tr.length],some (trC tr),some (m.vals.map I64),some (hdr 4 5 p.arrays.length),some (blk0 m.arrays),some (blk1 m.arrays)] (fun d h=>d = .tup []∧h=stP' p m (tr++[⟨k0,v0⟩])):=by
 have h:=event m k0 v0 tr htr
 unfold stI stI' at h
 rw [hm.nv,hm.na] at h
 exact h
theorem mqRunI {S : Ms} {p : Pg} {l : List St1} {M : Mm} {T : List Ev} {i kt n : Nat} {cs c2 c4 c5 : List C} (h0 : S.hp 0 = some (some [.msl 2 1 0 p.vars.length, .msl 3 1 0 p.arrays.length, .msl kt 2 0 n])) (t0 : S.tm 0 = some (.c (.ptr 0 0))) (t8 : S.tm 8 = some (.c (.isl 11 (St1.cellsL l)))) (t9 : S.tm 9 = some (DI .i64 l.length)) (t10 : S.tm 10 = some (DI .i64 i))
 (h2:S.hp 2=some (some c2)) (h3:S.hp 3=some (some (hdr 4 5 p.arrays.length))) (h4:S.hp 4=some (some c4)) (h5:S.hp 5=some (some c5)) (hk:S.hp kt=some (some cs))
 (hkt:6≤kt) (e2:c2=M.vals.map I64) (e4:c4=blk0 M.arrays) (e5:c5=blk1 M.arrays) (hcs:cs=trC T) (hn:n=T.length) :
 Mq 6 (fun j => if j = 20 then some kt else some j) [] [(0, .c (.ptr 0 0)), (8, .c (.isl 11 (St1.cellsL l))), (9, DI .i64 l.length), (10, DI .i64 i)]
  [(0,some [.msl 2 1 0 p.vars.length,.msl 3 1 0 p.arrays.length,.msl 20 2 0 T.length]),(1,none),(2,some (M.vals.map I64)),(3,some (hdr 4 5 p.arrays.length)),(4,some (blk0 M.arrays)),(5,some (blk1 M.arrays)),(20,some (trC T))] S:=by
 subst hcs hn e2 e4 e5
 simp [Mq,TmOK,t0,t8,t9,t10,h0,h2,h3,h4,h5,hk,DM,CM,CMs,HpOK,LowOK,hOf,upd,CMs_I,CMs_tr,CMs_hdr,CMs_b0,CMs_b1]
 omega
theorem mqRepI {S : Ms} {p : Pg} {l : List St1} {M : Mm} {T : List Ev} {i j0 kt ks n : Nat} {c : Int} {cs c2 c4 c5 ss : List C} (hss : ∀ c ∈ ss, kf c = true) (h0 : S.hp 0 = some (some [.msl 2 1 0 p.vars.length, .msl 3 1 0 p.arrays.length, .msl kt 2 0 n])) (t5 : S.tm 5 = some (.c (.ptr ks 0))) (t0 : S.tm 0 = some (.c (.ptr 0 0))) (t8 : S.tm 8 = some (.c (.isl 11 (St1.cellsL l)))) (t9 : S.tm 9 = some (DI .i64 l.length)) (t10 : S.tm 10 = some (DI .i64 i)) (t18 : S.tm 18 = some (DI .i64 c)) (t19 : S.tm 19 = some (DI .i64 j0))
 (h2:S.hp 2=some (some c2)) (h3:S.hp 3=some (some (hdr 4 5 p.arrays.length))) (h4:S.hp 4=some (some c4)) (h5:S.hp 5=some (some c5)) (hk:S.hp kt=some (some cs)) (hs:S.hp ks=some (some ss))
 (hkt:6≤kt∧6≤ks∧kt ≠ ks) (e2:c2=M.vals.map I64) (e4:c4=blk0 M.arrays) (e5:c5=blk1 M.arrays) (hcs:cs=trC T) (hn:n=T.length) :
 Mq 6 (fun j => if j = 20 then some kt else if j = 22 then some ks else some j) [] [(0, .c (.ptr 0 0)), (8, .c (.isl 11 (St1.cellsL l))), (9, DI .i64 l.length), (10, DI .i64 i), (5, .c (.ptr 22 0)), (18, DI .i64 c), (19, DI .i64 j0)]
  [(0,some [.msl 2 1 0 p.vars.length,.msl 3 1 0 p.arrays.length,.msl 20 2 0 T.length]),(1,none),(2,some (M.vals.map I64)),(3,some (hdr 4 5 p.arrays.length)),(4,some (blk0 M.arrays)),(5,some (blk1 M.arrays)),(20,some (trC T)),(22,some ss)] S:=by
 subst hcs hn e2 e4 e5
 refine ⟨?_,⟨?_,?_,?_,?_,?_,?_,?_,?_,?_⟩,?_,?_⟩
 all_goals simp [TmOK,t0,t5,t8,t9,t10,t18,t19,h0,h2,h3,h4,h5,hk,hs,DM,CM,CMs,HpOK,LowOK,hOf,upd,CMs_I,CMs_tr,CMs_hdr,CMs_b0,CMs_b1]
 ·exact CMs.kf hss
 ·omega
theorem runIOf (p : Pg) (d : Nat)
 (ih:∀ d',d=d' + 1→∀ (m:Mm) (l:List St1) (tr:List Ev),MemFits p m→(∀ s ∈ l,stmtOK p d' s=true)→tr.length+wt d' * lsize d' l≤1073741824→DC Tryz.prog 54 [.c (.ptr 0 0),.c (.isl 11 (St1.cellsL l))] [some [.msl 2 1 0 p.vars.length,.msl 3 1 0 p.arrays.length,.msl 1 2 0 tr.length],some (trC tr),some (m.vals.map I64),some (hdr 4 5 p.arrays.length),some (blk0 m.arrays),some (blk1 m.arrays)] (fun r h=>r = .tup []∧h=stP' p (runL d' m l).1 (tr++(runL d' m l).2)))
 (m:Mm) (l:List St1) (tr:List Ev) (hm:MemFits p m) (hok:∀ s ∈ l,stmtOK p d s=true) (htr:tr.length+wt d * lsize d l≤1073741824) :
 DC Tryz.prog 54 [.c (.ptr 0 0),.c (.isl 11 (St1.cellsL l))] [some [.msl 2 1 0 p.vars.length,.msl 3 1 0 p.arrays.length,.msl 1 2 0 tr.length],some (trC tr),some (m.vals.map I64),some (hdr 4 5 p.arrays.length),some (blk0 m.arrays),some (blk1 m.arrays)] (fun r h=>r = .tup []∧h=stP' p (runL d m l).1 (tr++(runL d m l).2)):=by
 have hmx:=mx_eq
 generalize hR:(fun (r:D) (h:List (Option (List C)))=>r = .tup []∧h=stP' p (runL d m l).1 (tr++(runL d m l).2))=R
 have ret:∀ (kt n:Nat) (cs:List C) (tr':List Ev) (hp:Hp),tr'=tr++(runL d m l).2→hp 0=some (some [.msl 2 1 0 p.vars.length,.msl 3 1 0 p.arrays.length,.msl kt 2 0 n])→hp 2=some (some ((runL d m l).1.vals.map I64))→hp 3=some (some (hdr 4 5 p.arrays.length))→hp 4=some (some (blk0 (runL d m l).1.arrays))→hp 5=some (some (blk1 (runL d m l).1.arrays)) →
  hp kt=some (some cs)→6≤kt→cs=trC tr'→n=tr'.length→RetOb 6 R (.tup []) hp:=by
  rintro kt n cs tr' hp rfl h0 h2 h3 h4 h5 hk hkt rfl rfl
  subst hR
  refine RetOb.ofQ (fun j=>if j=6 then some kt else some j) [] (.tup []) (stP' p (runL d m l).1 (tr++(runL d m l).2)) ?_ ⟨rfl,rfl⟩ (by simp [stP'])
  simp [stP',enumL,hOf,DM,DMs,CM,CMs,HpOK,LowOK,upd,CMs_I,CMs_tr,CMs_hdr,CMs_b0,CMs_b1,h0,h2,h3,h4,h5,hk]
  omega
 refine dcZ Tryz.func54 ?_
 simp only [go_sem]
 iterate 2 (try (refine drvZ Tryz.func54 ?_;simp only [go_sem]))
 refine Go.loopQ (fun i : Nat => [(0, .c (.ptr 0 0)), (8, .c (.isl 11 (St1.cellsL l))), (9, DI .i64 l.length), (10, DI .i64 i)])
  (fun i=>[(0,some [.msl 2 1 0 p.vars.length,.msl 3 1 0 p.arrays.length,.msl 20 2 0 (tr++(runL d m (l.take i)).2).length]),(1,none),(2,some ((runL d m (l.take i)).1.vals.map I64)),(3,some (hdr 4 5 p.arrays.length)),(4,some (blk0 (runL d m (l.take i)).1.arrays)),(5,some (blk1 (runL d m (l.take i)).1.arrays)),(20,some (trC (tr++(runL d m (l.take i)).2)))])
  4096 (fun i=>i≤l.length) (fun i=>l.length - i) ?_ 0 (fun j=>if j=20 then some 1 else some j) [] _ (Nat.zero_le _) ?_
 ·intro i hi again
  have hmi:=(runL_ok (l:=l.take i) hm (fun s hs=>hok s (List.mem_of_mem_take hs))).1
  rcases Nat.lt_or_ge i l.length with hlt | hge
  ·obtain ⟨⟨k,t,⟨ik,iv,iks⟩,⟨vk,vv,vks⟩,c,b,e⟩,hx⟩:∃ x,l[i]? = some x:=⟨l[i],by simp [hlt]⟩
   have hmem:=List.mem_of_getElem? hx
   have hsk:=hok _ hmem
   have hsucc:=runL_succ d m l i _ hx
   have hlen:(runL d m (l.take i)).2.length+wt d * tsize d (.mk k t (.mk ik iv iks) (.mk vk vv vks) c b e)≤wt d * lsize d l:=by
    have hbi:=(runL_ok (l:=l.take i) hm (fun s hs=>hok s (List.mem_of_mem_take hs))).2
    have g2:=tsum_succ (tsize d) l i _ hx
    have g3:=tsum_le (tsize d) l (i+1)
    unfold tsum at g2 g3
    have g4:lsize d (l.take i)+tsize d (.mk k t (.mk ik iv iks) (.mk vk vv vks) c b e)≤lsize d l:=by unfold lsize;omega
    have g5:=Nat.mul_le_mul_left (wt d) g4
    rw [Nat.mul_add] at g5
    omega
   generalize hmm:(runL d m (l.take i)).1=mi at *
   generalize htt:tr++(runL d m (l.take i)).2=ti at *
   have hn1:(runL d m (l.take (i+1))).1=(runS d mi (.mk k t (.mk ik iv iks) (.mk vk vv vks) c b e)).1:=by rw [hsucc]
   have hn2:tr++(runL d m (l.take (i+1))).2=ti++(runS d mi (.mk k t (.mk ik iv iks) (.mk vk vv vks) c b e)).2:=by rw [hsucc,← htt,List.append_assoc]
   have htl:ti.length+wt d * tsize d (.mk k t (.mk ik iv iks) (.mk vk vv vks) c b e)≤1073741824:=by rw [← htt,List.length_append];omega
   obtain ⟨d',rfl⟩:∃ d',d=d' + 1:=by
    cases d with
    | zero=>simp [stmtOK] at hsk
    | succ d'=>exact ⟨d',rfl⟩
   have ih:=ih d' rfl
   have hil:=len_le_lsize (d:=d') l
   have hwl:lsize (d' + 1) l≤wt (d' + 1) * lsize (d' + 1) l:=Nat.le_mul_of_pos_left _ (by unfold wt;have:0<3 ^ (d' + 1):=Nat.pow_pos (by decide);omega)
   obtain ⟨hh,hb,he⟩:=stmtOK_succ hsk
   rcases head_kind hh with ⟨hk,ht0,ht1,hr⟩ | ⟨hk,ht0,ht1,hri,hai,hr⟩ | ⟨hk,hr⟩ | ⟨hk,hc1,hc3⟩
   ·have htv:t<mi.vals.length:=by rw [hmi.nv];exact ht1
    rcases hk with hk | hk
    ·subst hk
     have hw1:20≤wt (d' + 1) * tsize (d' + 1) (.mk 1 t (.mk ik iv iks) (.mk vk vv vks) c b e):=by
      have g1:=tsize_pos (d:=d') (.mk 1 t (.mk ik iv iks) (.mk vk vv vks) c b e)
      have g2:20≤wt (d' + 1):=by unfold wt;have:0<3 ^ (d' + 1):=Nat.pow_pos (by decide);omega
      have g3:=Nat.mul_le_mul g2 g1
      omega
     have hs:=right_shape hr
     have he1:=evalE_range hmi 5 (.mk vk vv vks) hs.1
     have he2:=evalE_len (m:=mi) 5 (.mk vk vv vks) hs.1
     have htl2:=trC_len (ti++(evalE mi 5 (.mk vk vv vks)).2)
     have hll:(ti++(evalE mi 5 (.mk vk vv vks)).2).length=ti.length+(evalE mi 5 (.mk vk vv vks)).2.length:=List.length_append
     have hrun:runS (d' + 1) mi (.mk 1 t (.mk ik iv iks) (.mk vk vv vks) c b e)=(setV mi t (evalE mi 5 (.mk vk vv vks)).1,(evalE mi 5 (.mk vk vv vks)).2):=rfl
     rw [hrun] at hn1 hn2
     refine drvL Tryz.func54 ?_
     simp only [go_sem,hx,hlt,renCs_I,renCs_hdr,renCs_b0,renCs_b1,renCs_tr]
     iterate 3 (try (refine drvZ Tryz.func54 ?_;simp only [go_sem,hx,hlt,renCs_I,renCs_hdr,renCs_b0,renCs_b1,renCs_tr]))
     refine XK.callG [0,20,2,3,4,5] (evalI2 p mi hmi (.mk vk vv vks) ti hr (by omega)) ok103 (hhp6 (by simp [hOf,upd,renCs,renC,rk0]) (by simp [hOf,upd,renCs_tr,renCs,renC]) (by simp [hOf,upd,renCs_I]) (by simp [hOf,upd,renCs_hdr,rk0]) (by simp [hOf,upd,renCs_b0]) (by simp [hOf,upd,renCs_b1])) (hbT ()) (fun d h' ⟨_,e⟩=>by subst e;simp [stP']) ?_
     rintro _ _ ⟨rfl,rfl⟩ _
     unfold stP'
     iterate 4 (try (refine drvZ Tryz.func54 ?_;simp only [go_sem,hx,hlt,renCs_I,renCs_hdr,renCs_b0,renCs_b1,renCs_tr]))
     (with_reducible and_intros)<;>try exact sd
     iterate 2 (try (refine drvZ Tryz.func54 ?_;simp only [go_sem,hx,hlt,renCs_I,renCs_hdr,renCs_b0,renCs_b1,renCs_tr]))
     (with_reducible and_intros)<;>try exact sd
     have ag:=again (i+1)
     simp only [hn1,hn2] at ag
     exact ag _ [] _ hlt (by omega) (mqRunI rfl rfl rfl rfl rfl rfl rfl rfl rfl rfl (by decide) (map_setV _ _ _).symm rfl rfl rfl rfl)
    ·subst hk
     have hw1:20≤wt (d' + 1) * tsize (d' + 1) (.mk 5 t (.mk ik iv iks) (.mk vk vv vks) c b e):=by
      have g1:=tsize_pos (d:=d') (.mk 5 t (.mk ik iv iks) (.mk vk vv vks) c b e)
      have g2:20≤wt (d' + 1):=by unfold wt;have:0<3 ^ (d' + 1):=Nat.pow_pos (by decide);omega
      have g3:=Nat.mul_le_mul g2 g1
      omega
     have hs:=right_shape hr
     have he1:=evalE_range hmi 5 (.mk vk vv vks) hs.1
     have he2:=evalE_len (m:=mi) 5 (.mk vk vv vks) hs.1
     have htl2:=trC_len (ti++(evalE mi 5 (.mk vk vv vks)).2)
     have hll:(ti++(evalE mi 5 (.mk vk vv vks)).2).length=ti.length+(evalE mi 5 (.mk vk vv vks)).2.length:=List.length_append
     have hrun:runS (d' + 1) mi (.mk 5 t (.mk ik iv iks) (.mk vk vv vks) c b e)=(setV mi t (evalE mi 5 (.mk vk vv vks)).1,(evalE mi 5 (.mk vk vv vks)).2++[⟨4,(evalE mi 5 (.mk vk vv vks)).1⟩]):=rfl
     rw [hrun] at hn1 hn2
     refine drvL Tryz.func54 ?_
     simp only [go_sem,hx,hlt,renCs_I,renCs_hdr,renCs_b0,renCs_b1,renCs_tr]
     iterate 3 (try (refine drvZ Tryz.func54 ?_;simp only [go_sem,hx,hlt,renCs_I,renCs_hdr,renCs_b0,renCs_b1,renCs_tr]))
     refine XK.callG [0,20,2,3,4,5] (evalI2 p mi hmi (.mk vk vv vks) ti hr (by omega)) ok103 (hhp6 (by simp [hOf,upd,renCs,renC,rk0]) (by simp [hOf,upd,renCs_tr,renCs,renC]) (by simp [hOf,upd,renCs_I]) (by simp [hOf,upd,renCs_hdr,rk0]) (by simp [hOf,upd,renCs_b0]) (by simp [hOf,upd,renCs_b1])) (hbT ()) (fun d h' ⟨_,e⟩=>by subst e;simp [stP']) ?_
     rintro _ _ ⟨rfl,rfl⟩ _
     unfold stP'
     iterate 4 (try (refine drvZ Tryz.func54 ?_;simp only [go_sem,hx,hlt,renCs_I,renCs_hdr,renCs_b0,renCs_b1,renCs_tr]))
     (with_reducible and_intros)<;>try exact sd
     iterate 2 (try (refine drvZ Tryz.func54 ?_;simp only [go_sem,hx,hlt,renCs_I,renCs_hdr,renCs_b0,renCs_b1,renCs_tr]))
     (with_reducible and_intros)<;>try exact sd
     refine XK.callG [0,4800,2,3,4,5] (event2 p mi hmi 4 (evalE mi 5 (.mk vk vv vks)).1 (ti++(evalE mi 5 (.mk vk vv vks)).2) (by omega)) ok104 (hhp6 (by simp [hOf,upd,renCs,renC,rk0]) (by simp [hOf,upd,renCs_tr,renCs,renC]) (by simp [hOf,upd,renCs_I]) (by simp [hOf,upd,renCs_hdr,rk0]) (by simp [hOf,upd,renCs_b0]) (by simp [hOf,upd,renCs_b1])) (hbT ()) (fun d h' ⟨_,e⟩=>by subst e;simp [stP']) ?_
     rintro _ _ ⟨rfl,rfl⟩ _
     unfold stP'
     iterate 3 (try (refine drvZ Tryz.func54 ?_;simp only [go_sem,hx,hlt,renCs_I,renCs_hdr,renCs_b0,renCs_b1,renCs_tr]))
     (with_reducible and_intros)<;>try exact sd
     iterate 2 (try (refine drvZ Tryz.func54 ?_;simp only [go_sem,hx,hlt,renCs_I,renCs_hdr,renCs_b0,renCs_b1,renCs_tr]))
     (with_reducible and_intros)<;>try exact sd
     have ag:=again (i+1)
     simp only [hn1,hn2] at ag
     exact ag _ [] _ hlt (by omega) (mqRunI rfl rfl rfl rfl rfl rfl rfl rfl rfl rfl (by decide) (map_setV _ _ _).symm rfl rfl (by rw [← List.append_assoc]) (by rw [← List.append_assoc]))
   ·subst hk
    have htv:t<mi.arrays.length:=by rw [hmi.na];exact ht1
    have hw1:60≤wt (d' + 1) * tsize (d' + 1) (.mk 2 t (.mk ik iv iks) (.mk vk vv vks) c b e):=by
     have g1:=tsize_pos (d:=d') (.mk 2 t (.mk ik iv iks) (.mk vk vv vks) c b e)
     have g2:60≤wt (d' + 1):=by unfold wt;rw [Nat.pow_succ];have:0<3 ^ d':=Nat.pow_pos (by decide);omega
     have g3:=Nat.mul_le_mul g2 g1
     omega
    have hs:=right_shape hr
    have he1:=evalE_range hmi 5 (.mk vk vv vks) hs.1
    have he2:=evalE_len (m:=mi) 5 (.mk vk vv vks) hs.1
    have htl2:=trC_len (ti++(evalE mi 5 (.mk vk vv vks)).2)
    have hll:(ti++(evalE mi 5 (.mk vk vv vks)).2).length=ti.length+(evalE mi 5 (.mk vk vv vks)).2.length:=List.length_append
    have hsi:=right_shape hri
    have hi1:=evalE_range hmi 5 (.mk ik iv iks) hsi.1
    have hi2:(evalE mi 5 (.mk ik iv iks)).2=[]:=by
     simp only [atom,Ex.kind,Bool.or_eq_true,beq_iff_eq] at hai
     rcases hai with h | h
     ·subst h;simp [evalE]
     ·subst h;simp [evalE]
    refine drvL Tryz.func54 ?_
    simp only [go_sem,hx,hlt,renCs_I,renCs_hdr,renCs_b0,renCs_b1,renCs_tr]
    iterate 3 (try (refine drvZ Tryz.func54 ?_;simp only [go_sem,hx,hlt,renCs_I,renCs_hdr,renCs_b0,renCs_b1,renCs_tr]))
    refine XK.callG [0,20,2,3,4,5] (evalI2 p mi hmi (.mk vk vv vks) ti hr (by omega)) ok103 (hhp6 (by simp [hOf,upd,renCs,renC,rk0]) (by simp [hOf,upd,renCs_tr,renCs,renC]) (by simp [hOf,upd,renCs_I]) (by simp [hOf,upd,renCs_hdr,rk0]) (by simp [hOf,upd,renCs_b0]) (by simp [hOf,upd,renCs_b1])) (hbT ()) (fun d h' ⟨_,e⟩=>by subst e;simp [stP']) ?_
    rintro _ _ ⟨rfl,rfl⟩ _
    unfold stP'
    iterate 4 (try (refine drvZ Tryz.func54 ?_;simp only [go_sem,hx,hlt,renCs_I,renCs_hdr,renCs_b0,renCs_b1,renCs_tr]))
    (with_reducible and_intros)<;>try exact sd
    iterate 2 (try (refine drvZ Tryz.func54 ?_;simp only [go_sem,hx,hlt,renCs_I,renCs_hdr,renCs_b0,renCs_b1,renCs_tr]))
    (with_reducible and_intros)<;>try exact sd
    refine XK.callG [0,4800,2,3,4,5] (evalI2 p mi hmi (.mk ik iv iks) (ti++(evalE mi 5 (.mk vk vv vks)).2) hri (by omega)) ok103 (hhp6 (by simp [hOf,upd,renCs,renC,rk0]) (by simp [hOf,upd,renCs_tr,renCs,renC]) (by simp [hOf,upd,renCs_I]) (by simp [hOf,upd,renCs_hdr,rk0]) (by simp [hOf,upd,renCs_b0]) (by simp [hOf,upd,renCs_b1])) (hbT ()) (fun d h' ⟨_,e⟩=>by subst e;simp [stP']) ?_
    rintro _ _ ⟨rfl,rfl⟩ _
    unfold stP'
    rw [hi2,List.append_nil]
    have hv2:t=0∨t=1:=by have:=hmi.na2;omega
    rcases hv2 with hv2 | hv2
    ·subst hv2
     have hnap:0<mi.arrays.length:=by omega
     have hh:(hdr 4 5 p.arrays.length)[0]? = some (.msl 4 1 0 4):=by
      rw [← hmi.na];unfold hdr;match mi.arrays.length,hnap with | n+1,_=>rfl
     have h4:=(hmi.arr _ (arrAt_mem (m:=mi) (v:=0) (by omega) (by omega)).2).1
     have hbl:(blk0 mi.arrays).length=4:=by
      have e:mi.arrays[0]? = some (arrAt mi 0):=(arrAt_mem (m:=mi) (v:=0) (by omega) (by omega)).1
      unfold blk0;rw [e,Option.getD_some,List.length_map,h4]
     have hx1:=Int.emod_nonneg (evalE mi 5 (.mk ik iv iks)).1 (show (4:Int) ≠ 0 by decide)
     have hx2:=Int.emod_lt_of_pos (evalE mi 5 (.mk ik iv iks)).1 (show (0:Int)<4 by decide)
     have hrun:runS (d' + 1) mi (.mk 2 0 (.mk ik iv iks) (.mk vk vv vks) c b e)=(setA mi 0 ((evalE mi 5 (.mk ik iv iks)).1 % 4) (evalE mi 5 (.mk vk vv vks)).1,(evalE mi 5 (.mk vk vv vks)).2++[⟨3,0 * 4+(evalE mi 5 (.mk ik iv iks)).1 % 4⟩]):=rfl
     simp only [Int.zero_mul,Int.zero_add] at hrun
     rw [hrun] at hn1 hn2
     iterate 4 (try (refine drvZ Tryz.func54 ?_;simp only [go_sem,hx,hlt,renCs_I,renCs_hdr,renCs_b0,renCs_b1,renCs_tr,hh,hbl]))
     (with_reducible and_intros)<;>try exact sd
     refine XK.plain (address 0 _ (by omega) hi1) ok105 ?_ (hbT ())
     iterate 2 (try (refine drvZ Tryz.func54 ?_;simp only [go_sem,hx,hlt,renCs_I,renCs_hdr,renCs_b0,renCs_b1,renCs_tr]))
     refine XK.callG [0,5632,2,3,4,5] (event2 p mi hmi 3 ((evalE mi 5 (.mk ik iv iks)).1 % 4) (ti++(evalE mi 5 (.mk vk vv vks)).2) (by omega)) ok104 (hhp6 (by simp [hOf,upd,renCs,renC,rk0]) (by simp [hOf,upd,renCs_tr,renCs,renC]) (by simp [hOf,upd,renCs_I]) (by simp [hOf,upd,renCs_hdr,rk0]) (by simp [hOf,upd,renCs_b0]) (by simp [hOf,upd,renCs_b1])) (hbT ()) (fun d h' ⟨_,e⟩=>by subst e;simp [stP']) ?_
     rintro _ _ ⟨rfl,rfl⟩ _
     unfold stP'
     iterate 3 (try (refine drvZ Tryz.func54 ?_;simp only [go_sem,hx,hlt,renCs_I,renCs_hdr,renCs_b0,renCs_b1,renCs_tr,hh,hbl]))
     (with_reducible and_intros)<;>try exact sd
     iterate 2 (try (refine drvZ Tryz.func54 ?_;simp only [go_sem,hx,hlt,renCs_I,renCs_hdr,renCs_b0,renCs_b1,renCs_tr,hh,hbl]))
     (with_reducible and_intros)<;>try exact sd
     have ag:=again (i+1)
     simp only [hn1,hn2] at ag
     exact ag _ [] _ hlt (by omega) (mqRunI rfl rfl rfl rfl rfl rfl rfl rfl rfl rfl (by decide) rfl (blk0_set0 _ _ _ hnap).symm (blk1_set0 _ _ _).symm (by rw [← List.append_assoc]) (by rw [← List.append_assoc]))
    ·subst hv2
     have hnap:1<mi.arrays.length:=by omega
     have hh:(hdr 4 5 p.arrays.length)[1]? = some (.msl 5 1 0 4):=by
      rw [← hmi.na];unfold hdr;match mi.arrays.length,hnap with | n+2,_=>rfl
     have h4:=(hmi.arr _ (arrAt_mem (m:=mi) (v:=1) (by omega) (by omega)).2).1
     have hbl:(blk1 mi.arrays).length=4:=by
      have e:mi.arrays[1]? = some (arrAt mi 1):=(arrAt_mem (m:=mi) (v:=1) (by omega) (by omega)).1
      unfold blk1;rw [e,Option.getD_some,List.length_map,h4]
     have hx1:=Int.emod_nonneg (evalE mi 5 (.mk ik iv iks)).1 (show (4:Int) ≠ 0 by decide)
     have hx2:=Int.emod_lt_of_pos (evalE mi 5 (.mk ik iv iks)).1 (show (0:Int)<4 by decide)
     have hrun:runS (d' + 1) mi (.mk 2 1 (.mk ik iv iks) (.mk vk vv vks) c b e)=(setA mi 1 ((evalE mi 5 (.mk ik iv iks)).1 % 4) (evalE mi 5 (.mk vk vv vks)).1,(evalE mi 5 (.mk vk vv vks)).2++[⟨3,1 * 4+(evalE mi 5 (.mk ik iv iks)).1 % 4⟩]):=rfl
     rw [hrun] at hn1 hn2
     iterate 4 (try (refine drvZ Tryz.func54 ?_;simp only [go_sem,hx,hlt,renCs_I,renCs_hdr,renCs_b0,renCs_b1,renCs_tr,hh,hbl]))
     (with_reducible and_intros)<;>try exact sd
     refine XK.plain (address 1 _ (by omega) hi1) ok105 ?_ (hbT ())
     iterate 2 (try (refine drvZ Tryz.func54 ?_;simp only [go_sem,hx,hlt,renCs_I,renCs_hdr,renCs_b0,renCs_b1,renCs_tr]))
     refine XK.callG [0,5632,2,3,4,5] (event2 p mi hmi 3 (1 * 4+(evalE mi 5 (.mk ik iv iks)).1 % 4) (ti++(evalE mi 5 (.mk vk vv vks)).2) (by omega)) ok104 (hhp6 (by simp [hOf,upd,renCs,renC,rk0]) (by simp [hOf,upd,renCs_tr,renCs,renC]) (by simp [hOf,upd,renCs_I]) (by simp [hOf,upd,renCs_hdr,rk0]) (by simp [hOf,upd,renCs_b0]) (by simp [hOf,upd,renCs_b1])) (hbT ()) (fun d h' ⟨_,e⟩=>by subst e;simp [stP']) ?_
     rintro _ _ ⟨rfl,rfl⟩ _
     unfold stP'
     iterate 3 (try (refine drvZ Tryz.func54 ?_;simp only [go_sem,hx,hlt,renCs_I,renCs_hdr,renCs_b0,renCs_b1,renCs_tr,hh,hbl]))
     (with_reducible and_intros)<;>try exact sd
     iterate 2 (try (refine drvZ Tryz.func54 ?_;simp only [go_sem,hx,hlt,renCs_I,renCs_hdr,renCs_b0,renCs_b1,renCs_tr,hh,hbl]))
     (with_reducible and_intros)<;>try exact sd
     have ag:=again (i+1)
     simp only [hn1,hn2] at ag
     exact ag _ [] _ hlt (by omega) (mqRunI rfl rfl rfl rfl rfl rfl rfl rfl rfl rfl (by decide) rfl (blk0_set1 _ _ _).symm (blk1_set1 _ _ _ hnap).symm (by rw [← List.append_assoc]) (by rw [← List.append_assoc]))
   ·subst hk
    have hw1:20≤wt (d' + 1) * tsize (d' + 1) (.mk 3 t (.mk ik iv iks) (.mk vk vv vks) c b e):=by
     have g1:=tsize_pos (d:=d') (.mk 3 t (.mk ik iv iks) (.mk vk vv vks) c b e)
     have g2:20≤wt (d' + 1):=by unfold wt;have:0<3 ^ (d' + 1):=Nat.pow_pos (by decide);omega
     have g3:=Nat.mul_le_mul g2 g1
     omega
    have hs:=right_shape hr
    have he1:=evalE_range hmi 5 (.mk vk vv vks) hs.1
    have he2:=evalE_len (m:=mi) 5 (.mk vk vv vks) hs.1
    have htl2:=trC_len (ti++(evalE mi 5 (.mk vk vv vks)).2)
    have hll:(ti++(evalE mi 5 (.mk vk vv vks)).2).length=ti.length+(evalE mi 5 (.mk vk vv vks)).2.length:=List.length_append
    have hw3:wt (d' + 1)=3 * wt d':=by unfold wt;rw [Nat.pow_succ];omega
    have hw4:20≤wt d':=by unfold wt;have:0<3 ^ d':=Nat.pow_pos (by decide);omega
    have hbig:wt (d' + 1) * tsize (d' + 1) (.mk 3 t (.mk ik iv iks) (.mk vk vv vks) c b e)=3 * wt d' + 3 * (wt d' * lsize d' b)+3 * (wt d' * lsize d' e):=by
     rw [show tsize (d' + 1) (.mk 3 t (.mk ik iv iks) (.mk vk vv vks) c b e)=1+lsize d' b+lsize d' e from rfl,hw3,Nat.mul_add,Nat.mul_add,Nat.mul_assoc,Nat.mul_assoc,Nat.mul_assoc];omega
    refine drvL Tryz.func54 ?_
    simp only [go_sem,hx,hlt,renCs_I,renCs_hdr,renCs_b0,renCs_b1,renCs_tr]
    iterate 3 (try (refine drvZ Tryz.func54 ?_;simp only [go_sem,hx,hlt,renCs_I,renCs_hdr,renCs_b0,renCs_b1,renCs_tr]))
    refine XK.callG [0,20,2,3,4,5] (evalI2 p mi hmi (.mk vk vv vks) ti hr (by omega)) ok103 (hhp6 (by simp [hOf,upd,renCs,renC,rk0]) (by simp [hOf,upd,renCs_tr,renCs,renC]) (by simp [hOf,upd,renCs_I]) (by simp [hOf,upd,renCs_hdr,rk0]) (by simp [hOf,upd,renCs_b0]) (by simp [hOf,upd,renCs_b1])) (hbT ()) (fun d h' ⟨_,e⟩=>by subst e;simp [stP']) ?_
    rintro _ _ ⟨rfl,rfl⟩ _
    unfold stP'
    iterate 4 (try (refine drvZ Tryz.func54 ?_;simp only [go_sem,hx,hlt,renCs_I,renCs_hdr,renCs_b0,renCs_b1,renCs_tr]))
    (with_reducible and_intros)<;>try exact sd
    iterate 2 (try (refine drvZ Tryz.func54 ?_;simp only [go_sem,hx,hlt,renCs_I,renCs_hdr,renCs_b0,renCs_b1,renCs_tr]))
    (with_reducible and_intros)<;>try exact sd
    by_cases h0:(evalE mi 5 (.mk vk vv vks)).1=0
    ·have hb0:((evalE mi 5 (.mk vk vv vks)).1 != 0)=false:=by simp [h0]
     have hrun:runS (d' + 1) mi (.mk 3 t (.mk ik iv iks) (.mk vk vv vks) c b e)=((runL d' mi e).1,(evalE mi 5 (.mk vk vv vks)).2++[⟨1,0⟩]++(runL d' mi e).2):=by
      simp only [runS,show ¬ ((3:Int)=4) by decide,show ¬ ((3:Int)=1) by decide,show ¬ ((3:Int)=5) by decide,show ¬ ((3:Int)=2) by decide,if_false]
      rw [if_neg (fun h=>h h0)];rfl
     rw [hrun] at hn1 hn2
     have hlen5:(ti++(evalE mi 5 (.mk vk vv vks)).2++[(⟨1,0⟩:Ev)]).length=(ti++(evalE mi 5 (.mk vk vv vks)).2).length+1:=by simp;omega
     have hLb:(ti++(evalE mi 5 (.mk vk vv vks)).2++[(⟨1,0⟩:Ev)]).length+wt d' * lsize d' e≤1073741824:=by
      rw [hlen5];omega
     refine XK.plain (truth _) ok37 ?_ (hbT ())
     iterate 2 (try (refine drvZ Tryz.func54 ?_;simp only [go_sem,hx,hlt,renCs_I,renCs_hdr,renCs_b0,renCs_b1,renCs_tr,hb0]))
     refine XK.callG [0,4800,2,3,4,5] (event2 p mi hmi 1 0 (ti++(evalE mi 5 (.mk vk vv vks)).2) (by omega)) ok104 (hhp6 (by simp [hOf,upd,renCs,renC,rk0]) (by simp [hOf,upd,renCs_tr,renCs,renC]) (by simp [hOf,upd,renCs_I]) (by simp [hOf,upd,renCs_hdr,rk0]) (by simp [hOf,upd,renCs_b0]) (by simp [hOf,upd,renCs_b1])) (hbT ()) (fun d h' ⟨_,e⟩=>by subst e;simp [stP']) ?_
     rintro _ _ ⟨rfl,rfl⟩ _
     unfold stP'
     iterate 4 (try (refine drvZ Tryz.func54 ?_;simp only [go_sem,hx,hlt,renCs_I,renCs_hdr,renCs_b0,renCs_b1,renCs_tr,h0]))
     refine XK.callG [0,5824,2,3,4,5] (ih mi e (ti++(evalE mi 5 (.mk vk vv vks)).2++[⟨1,0⟩]) hmi he hLb) ok54 (hhp6 (by simp [hOf,upd,renCs,renC,rk0]) (by simp [hOf,upd,renCs_tr,renCs,renC]) (by simp [hOf,upd,renCs_I]) (by simp [hOf,upd,renCs_hdr,rk0]) (by simp [hOf,upd,renCs_b0]) (by simp [hOf,upd,renCs_b1])) (hbT ()) (fun d h' ⟨_,e⟩=>by subst e;simp [stP']) ?_
     rintro _ _ ⟨rfl,rfl⟩ _
     unfold stP'
     iterate 4 (try (refine drvZ Tryz.func54 ?_;simp only [go_sem,hx,hlt,renCs_I,renCs_hdr,renCs_b0,renCs_b1,renCs_tr]))
     (with_reducible and_intros)<;>try exact sd
     have ag:=again (i+1)
     simp only [hn1,hn2] at ag
     exact ag _ [] _ hlt (by omega) (mqRunI rfl rfl rfl rfl rfl rfl rfl rfl rfl rfl (by decide) rfl rfl rfl (by simp only [List.append_assoc]) (by simp only [List.append_assoc]))
    ·have hb0:((evalE mi 5 (.mk vk vv vks)).1 != 0)=true:=by simp [h0]
     have hrun:runS (d' + 1) mi (.mk 3 t (.mk ik iv iks) (.mk vk vv vks) c b e)=((runL d' mi b).1,(evalE mi 5 (.mk vk vv vks)).2++[⟨1,1⟩]++(runL d' mi b).2):=by
      simp only [runS,show ¬ ((3:Int)=4) by decide,show ¬ ((3:Int)=1) by decide,show ¬ ((3:Int)=5) by decide,show ¬ ((3:Int)=2) by decide,if_false]
      rw [if_pos h0];rfl
     rw [hrun] at hn1 hn2
     have hlen5:(ti++(evalE mi 5 (.mk vk vv vks)).2++[(⟨1,1⟩:Ev)]).length=(ti++(evalE mi 5 (.mk vk vv vks)).2).length+1:=by simp;omega
     have hLb:(ti++(evalE mi 5 (.mk vk vv vks)).2++[(⟨1,1⟩:Ev)]).length+wt d' * lsize d' b≤1073741824:=by
      rw [hlen5];omega
     refine XK.plain (truth _) ok37 ?_ (hbT ())
     iterate 2 (try (refine drvZ Tryz.func54 ?_;simp only [go_sem,hx,hlt,renCs_I,renCs_hdr,renCs_b0,renCs_b1,renCs_tr,hb0]))
     refine XK.callG [0,4800,2,3,4,5] (event2 p mi hmi 1 1 (ti++(evalE mi 5 (.mk vk vv vks)).2) (by omega)) ok104 (hhp6 (by simp [hOf,upd,renCs,renC,rk0]) (by simp [hOf,upd,renCs_tr,renCs,renC]) (by simp [hOf,upd,renCs_I]) (by simp [hOf,upd,renCs_hdr,rk0]) (by simp [hOf,upd,renCs_b0]) (by simp [hOf,upd,renCs_b1])) (hbT ()) (fun d h' ⟨_,e⟩=>by subst e;simp [stP']) ?_
     rintro _ _ ⟨rfl,rfl⟩ _
     unfold stP'
     iterate 4 (try (refine drvZ Tryz.func54 ?_;simp only [go_sem,hx,hlt,renCs_I,renCs_hdr,renCs_b0,renCs_b1,renCs_tr,h0]))
     refine XK.callG [0,5824,2,3,4,5] (ih mi b (ti++(evalE mi 5 (.mk vk vv vks)).2++[⟨1,1⟩]) hmi hb hLb) ok54 (hhp6 (by simp [hOf,upd,renCs,renC,rk0]) (by simp [hOf,upd,renCs_tr,renCs,renC]) (by simp [hOf,upd,renCs_I]) (by simp [hOf,upd,renCs_hdr,rk0]) (by simp [hOf,upd,renCs_b0]) (by simp [hOf,upd,renCs_b1])) (hbT ()) (fun d h' ⟨_,e⟩=>by subst e;simp [stP']) ?_
     rintro _ _ ⟨rfl,rfl⟩ _
     unfold stP'
     iterate 4 (try (refine drvZ Tryz.func54 ?_;simp only [go_sem,hx,hlt,renCs_I,renCs_hdr,renCs_b0,renCs_b1,renCs_tr]))
     (with_reducible and_intros)<;>try exact sd
     have ag:=again (i+1)
     simp only [hn1,hn2] at ag
     exact ag _ [] _ hlt (by omega) (mqRunI rfl rfl rfl rfl rfl rfl rfl rfl rfl rfl (by decide) rfl rfl rfl (by simp only [List.append_assoc]) (by simp only [List.append_assoc]))
   ·subst hk
    have hw:wt (d' + 1)=3 * wt d':=by unfold wt;rw [Nat.pow_succ];omega
    have hts:tsize (d' + 1) (.mk 4 t (.mk ik iv iks) (.mk vk vv vks) c b e)=1+lsize d' b+lsize d' e:=rfl
    have hbig:3 * (wt d' * lsize d' b)≤wt (d' + 1) * tsize (d' + 1) (.mk 4 t (.mk ik iv iks) (.mk vk vv vks) c b e):=by
     rw [hts,hw,Nat.mul_add,Nat.mul_add,Nat.mul_assoc,Nat.mul_assoc,Nat.mul_assoc];omega
    have hit:=fun n=>iterR_ok (p:=p) (f:=fun m=>foldR (runS d') m b) (w:=wt d' * lsize d' b) (fun m hm=>runL_ok hm hb) n mi hmi
    have hrun:runS (d' + 1) mi (.mk 4 t (.mk ik iv iks) (.mk vk vv vks) c b e)=iterR (fun m=>foldR (runS d') m b) c.toNat mi:=by simp only [runS,if_true]
    rw [hrun] at hn1 hn2
    refine drvL Tryz.func54 ?_
    simp only [go_sem,hx,hlt,renCs_I,renCs_hdr,renCs_b0,renCs_b1,renCs_tr]
    iterate 4 (try (refine drvZ Tryz.func54 ?_;simp only [go_sem,hx,hlt,renCs_I,renCs_hdr,renCs_b0,renCs_b1,renCs_tr]))
    refine Go.loopQ (fun n : Nat => [(0, .c (.ptr 0 0)), (8, .c (.isl 11 (St1.cellsL l))), (9, DI .i64 l.length), (10, DI .i64 i), (5, .c (.ptr 22 0)), (18, DI .i64 c), (19, DI .i64 n)])
     (fun n=>[(0,some [.msl 2 1 0 p.vars.length,.msl 3 1 0 p.arrays.length,.msl 20 2 0 (ti++(iterR (fun m=>foldR (runS d') m b) n mi).2).length]),(1,none),(2,some ((iterR (fun m=>foldR (runS d') m b) n mi).1.vals.map I64)),(3,some (hdr 4 5 p.arrays.length)),(4,some (blk0 (iterR (fun m=>foldR (runS d') m b) n mi).1.arrays)),(5,some (blk1 (iterR (fun m=>foldR (runS d') m b) n mi).1.arrays)),(20,some (trC (ti++(iterR (fun m=>foldR (runS d') m b) n mi).2))),(22,some (St1.cells (.mk 4 t (.mk ik iv iks) (.mk vk vv vks) c b e)))])
     8192 (fun n=>n≤c.toNat) (fun n=>c.toNat - n) ?_ 0 _ [] _ (Nat.zero_le _) (mqRepI (cells_kf _ _ _ _ _ _ _ _ _ _ _) rfl rfl rfl rfl rfl rfl rfl rfl rfl rfl rfl rfl rfl rfl (by decide) rfl rfl rfl (by simp [iterR]) (by simp [iterR]))
    intro n hn again2
    refine drvL Tryz.func54 ?_
    rcases Nat.lt_or_ge n c.toNat with hlt2 | hge2
    ·have hnc:(n:Int)<c:=by omega
     simp only [go_sem,hx,hlt,renCs_I,renCs_hdr,renCs_b0,renCs_b1,renCs_tr,hnc]
     iterate 3 (try (refine drvZ Tryz.func54 ?_;simp only [go_sem,hx,hlt,renCs_I,renCs_hdr,renCs_b0,renCs_b1,renCs_tr,hnc]))
     have hX:(ti++(iterR (fun m=>foldR (runS d') m b) n mi).2).length+wt d' * lsize d' b≤1073741824:=by
      have g1:=(hit n).2
      have hc3':n+1≤3:=by omega
      have g2:=Nat.mul_le_mul_right (wt d' * lsize d' b) hc3'
      rw [Nat.add_mul] at g2
      rw [List.length_append]
      omega
     refine XK.callG [0,20,2,3,4,5] (ih (iterR (fun m=>foldR (runS d') m b) n mi).1 b (ti++(iterR (fun m=>foldR (runS d') m b) n mi).2) (hit n).1 hb hX) ok54 (hhp6 (by simp [hOf,upd,renCs,renC,rk0]) (by simp [hOf,upd,renCs_tr,renCs,renC]) (by simp [hOf,upd,renCs_I]) (by simp [hOf,upd,renCs_hdr,rk0]) (by simp [hOf,upd,renCs_b0]) (by simp [hOf,upd,renCs_b1])) (hbT ()) (fun d h' ⟨_,e⟩=>by subst e;simp [stP']) ?_
     rintro _ _ ⟨rfl,rfl⟩ _
     unfold stP'
     iterate 3 (try (refine drvZ Tryz.func54 ?_;simp only [go_sem,hx,hlt,renCs_I,renCs_hdr,renCs_b0,renCs_b1,renCs_tr]))
     (with_reducible and_intros)<;>try exact sd
     exact again2 (n+1) _ [] _ hlt2 (by omega) (mqRepI (cells_kf _ _ _ _ _ _ _ _ _ _ _) rfl rfl rfl rfl rfl rfl rfl rfl rfl rfl rfl rfl rfl rfl (by decide) rfl rfl rfl (by simp only [iterR,runL,List.append_assoc]) (by simp only [iterR,runL,List.append_assoc]))
    ·have hnc:¬ (n:Int)<c:=by omega
     simp only [go_sem,hx,hlt,renCs_I,renCs_hdr,renCs_b0,renCs_b1,renCs_tr,hnc]
     iterate 3 (try (refine drvZ Tryz.func54 ?_;simp only [go_sem,hx,hlt,renCs_I,renCs_hdr,renCs_b0,renCs_b1,renCs_tr,hnc]))
     (with_reducible and_intros)<;>try exact sd
     obtain rfl:n=c.toNat:=by omega
     have ag:=again (i+1)
     simp only [hn1,hn2] at ag
     exact ag _ [] _ hlt (by omega) (mqRunI rfl rfl rfl rfl rfl rfl rfl rfl rfl rfl (by decide) rfl rfl rfl rfl rfl)
  ·have hn:¬ i<l.length:=by omega
   obtain rfl:i=l.length:=by omega
   refine drvL Tryz.func54 ?_
   simp only [go_sem,hn,List.take_length]
   iterate 2 (try (refine drvZ Tryz.func54 ?_;simp only [go_sem,hn,List.take_length]))
   exact ret _ _ _ _ _ rfl rfl rfl rfl rfl rfl rfl (by omega) rfl rfl
 ·simp only [go_sem,TmOK,DM,DMs,CM,CMs,forall_eq,exists_eq_left,Mq,HpOK,LowOK,CMs_I,CMs_hdr,CMs_b0,CMs_b1,CMs_tr]
  simp [runL,foldR,CMs_tr,CMs_I,CMs_b0,CMs_b1]
end Go.Proofs.YtbknljofedfpjaaGreat.CtR
