/- Contracts of functions of the program, one behind the other, as plain data: what each call returns and which blocks it leaves. -/
import Derived.Test.YtbknljofedfpjaaXFacts
import Derived.Test.YtbknljofedfpjaaXAk
import Derived.Test.YtbknljofedfpjaaXAl
import Derived.Test.YtbknljofedfpjaaXAn
import Derived.Test.YtbknljofedfpjaaXAp
import Derived.Test.YtbknljofedfpjaaXAr
import Derived.Test.YtbknljofedfpjaaXAi
import Derived.Test.YtbknljofedfpjaaXAm
import Derived.Test.YtbknljofedfpjaaXAq
import Derived.Test.YtbknljofedfpjaaXAs
import Derived.Test.YtbknljofedfpjaaXAt
import Derived.Test.YtbknljofedfpjaaXAo
set_option linter.unusedVariables false
set_option linter.unusedSimpArgs false
set_option linter.unusedSectionVars false
set_option maxHeartbeats 16000000
set_option maxRecDepth 100000
namespace Go.Proofs.Ytbknljofedfpjaa.CtD
open Go Go.CT CtF CtR
variable [Yn]
def mkB (k:Int) (n:Nat):List Bool:=(List.range n).map fun (i:Nat)=>(k+(i:Int)) % 3 == 0
theorem mkB_len (k:Int) (n:Nat):(mkB k n).length=n:=by simp [mkB]
theorem mkB_succ (k:Int) (n:Nat):mkB k (n+1)=mkB k n++[(k+(n:Int)) % 3 == 0]:=by simp [mkB,List.range_succ]
theorem set_next {α:Type} {A l:List α} {i:Nat} (hA:A.length=i) (h:i<l.length) (y:α):(A++l.drop i).set i y=A++[y]++l.drop (i+1):=by
 rw [List.drop_eq_getElem_cons h]
 generalize l[i]=z
 subst hA
 rw [List.set_append_right _ _ (Nat.le_refl _)]
 simp
theorem markBoolSO (l:List Bool) (k:Int) (hk:0≤k) (hb:k+(l.length:Nat)≤1099511627776):DC Try.prog 18 [.c (.msl 0 1 0 l.length),DI .i64 k] [some (boolsC l)] (fun r h=>r=DI .i64 (k+(l.length:Nat))∧h=[some (boolsC (mkB k l.length))]):=by
 have hmx:=mx_eq
 have ret:∀ (n:Int) (cs:List C) (hp:Hp),n=k+(l.length:Nat)→hp 0=some (some cs)→cs=boolsC (mkB k l.length)→RetOb 1 (fun r h=>r=DI .i64 (k+(l.length:Nat))∧h=[some (boolsC (mkB k l.length))]) (DI .i64 n) hp:=fun n cs hp h1 h2 h3=>by
  subst h1 h3
  refine RetOb.ofQ (fun j=>if j=0 then some 0 else none) [] _ [some (boolsC (mkB k l.length))] ?_ ⟨rfl,rfl⟩ (by simp)
  have e4:∀ {hT hS:Hp} {r:Nat→Option Nat} {fz:List Nat},CMs hT r hS fz (boolsC (mkB k l.length)) (boolsC (mkB k l.length))=True:=eq_true (CMs.kf (boolsC_kf _))
  simp [enumL,DM,DMs,CM,CMs,HpOK,LowOK,hOf,upd,h2,e4]
 generalize hR:(fun (r:D) (h:List (Option (List C)))=>r=DI .i64 (k+(l.length:Nat))∧h=[some (boolsC (mkB k l.length))])=R at ret ⊢
 clear hR
 have hcl:=boolsC_len l
 refine dcZ Try.func18 ?_
 simp only [go_sem]
 iterate 3 ((try (refine drvZ Try.func18 ?_;simp only [go_sem]));((with_reducible and_intros)<;>try exact sd))
 refine Go.loopQ (fun i:Nat=>[(0,.c (.msl 0 1 0 l.length)),(1,DI .i64 (k+(i:Int))),(5,DI .i64 i)]) (fun i=>[(0,some (boolsC (mkB k i++l.drop i)))]) 1024 (fun i=>i≤l.length) (fun i=>l.length - i) ?_ 0 some [] _ (by omega) ?_
 ·intro i hi again
  have hci:(boolsC (mkB k i++l.drop i)).length=l.length:=by rw [boolsC_len,List.length_append,mkB_len,List.length_drop];omega
  rcases Nat.lt_or_ge i l.length with hlt | hge
  ·have hst:(boolsC (mkB k i++l.drop i)).set i (.v (.bool ((k+(i:Int)) % 3 == 0)))=boolsC (mkB k (i+1)++l.drop (i+1)):=by
    rw [mkB_succ,← set_next (mkB_len k i) hlt]
    simp [boolsC,List.map_set]
   have h3:(0:Int)≤k+(i:Int):=by omega
   generalize boolsC (mkB k i++l.drop i)=B at *
   refine drvL Try.func18 ?_
   simp only [go_sem,hlt,hci,h3]
   iterate 4 ((try (refine drvZ Try.func18 ?_;simp only [go_sem,hlt,hci,h3,Nat.mul_one]));((with_reducible and_intros)<;>try exact sd))
   simp only [hst]
   refine again (i+1) some [] _ hlt (by omega) ?_
   simp only [go_sem,TmOK,DM,DMs,CM,CMs,forall_eq,exists_eq_left,Mq,HpOK,LowOK]
   exact ⟨by rw [Int.add_assoc],⟨by simp,CMs.kf (boolsC_kf _)⟩,by simp⟩
  ·obtain rfl:i=l.length:=by omega
   have hn:¬ l.length<l.length:=by omega
   refine drvL Try.func18 ?_
   simp only [go_sem,hn]
   iterate 3 ((try (refine drvZ Try.func18 ?_;simp only [go_sem,hn]));((with_reducible and_intros)<;>try exact sd))
   exact ret _ _ _ rfl rfl (by rw [List.drop_length,List.append_nil])
 ·simp only [go_sem,TmOK,DM,DMs,CM,CMs,forall_eq,exists_eq_left,Mq,HpOK,LowOK]
  exact ⟨⟨by simp,CMs.kf (boolsC_kf l)⟩,by simp⟩
theorem heldBoolSP (k:Int) (n:Nat) (hk:0≤k) (hb:k+(n:Nat)≤1099511627776) (hn:n≤mx):DC Try.prog 36 [.c (.isl 1 ((mkB k n).map fun b=>[C.v (.bool b)])),DI .i64 k] [] (fun r h=>r=DI .i64 (k+(n:Nat))∧h=[]):=by
 have hmx:=mx_eq
 have ret:∀ (v:Int) (hp:Hp),v=k+(n:Nat)→RetOb 0 (fun r h=>r=DI .i64 (k+(n:Nat))∧h=[]) (DI .i64 v) hp:=fun v hp h=>by subst h;exact RetOb.plain ⟨rfl,rfl⟩ rfl
 generalize hR:(fun (r:D) (h:List (Option (List C)))=>r=DI .i64 (k+(n:Nat))∧h=[])=R at ret ⊢
 clear hR
 have hrl:((mkB k n).map fun b=>[C.v (.bool b)]).length=n:=by simp [mkB_len]
 refine dcZ Try.func36 ?_
 simp only [go_sem,hrl]
 iterate 3 ((try (refine drvZ Try.func36 ?_;simp only [go_sem,hrl]));((with_reducible and_intros)<;>try exact sd))
 refine Go.loopQ (fun i:Nat=>[(0,.c (.isl 1 ((mkB k n).map fun b=>[C.v (.bool b)]))),(1,DI .i64 (k+(i:Int))),(5,DI .i64 i)]) (fun _=>[]) 1024 (fun i=>i≤n) (fun i=>n - i) ?_ 0 some [] _ (by omega) ?_
 ·intro i hi again
  rcases Nat.lt_or_ge i n with hlt | hge
  ·have hxl:((mkB k n).map fun b=>[C.v (.bool b)])[i]? = some [C.v (.bool ((k+(i:Int)) % 3 == 0))]:=by simp [mkB,hlt]
   have h3:(0:Int)≤k+(i:Int):=by omega
   generalize ((mkB k n).map fun b=>[C.v (.bool b)])=rows at *
   refine drvL Try.func36 ?_
   simp only [go_sem,hrl,hlt,hxl,h3,bne_self_eq_false]
   iterate 5 ((try (refine drvZ Try.func36 ?_;simp only [go_sem,hrl,hlt,hxl,h3,bne_self_eq_false]));((with_reducible and_intros)<;>try exact sd))
   refine again (i+1) some [] _ hlt (by omega) ?_
   simp only [go_sem,TmOK,DM,DMs,CM,CMs,forall_eq,exists_eq_left,Mq,HpOK,LowOK]
   simp
   omega
  ·obtain rfl:n=i:=by omega
   have hnn:¬ n<n:=by omega
   generalize ((mkB k n).map fun b=>[C.v (.bool b)])=rows at *
   refine drvL Try.func36 ?_
   simp only [go_sem,hrl,hnn]
   iterate 3 ((try (refine drvZ Try.func36 ?_;simp only [go_sem,hrl,hnn]));((with_reducible and_intros)<;>try exact sd))
   exact ret _ _ rfl
 ·simp only [go_sem,TmOK,DM,DMs,CM,CMs,forall_eq,exists_eq_left,Mq,HpOK,LowOK]
  all_goals simp
theorem eqBoolST (l:List Bool) (hl:l.length≤mx):DC Try.prog 17 [.c (.isl 1 (l.map fun b=>[C.v (.bool b)])),.c (.isl 1 (l.map fun b=>[C.v (.bool b)]))] [] (fun r h=>r=DB true∧h=[]):=by
 have hmx:=mx_eq
 have ret:∀ hp:Hp,RetOb 0 (fun r h=>r=DB true∧h=[]) (DB true) hp:=fun hp=>RetOb.plain (d:=DB true) ⟨rfl,rfl⟩ rfl
 generalize hR:(fun (r:D) (h:List (Option (List C)))=>r=DB true∧h=[])=R at ret ⊢
 clear hR
 have hrl:(l.map fun b=>[C.v (.bool b)]).length=l.length:=by simp
 refine dcZ Try.func17 ?_
 simp only [go_sem,hrl,bne_self_eq_false]
 iterate 4 ((try (refine drvZ Try.func17 ?_;simp only [go_sem,hrl,bne_self_eq_false]));((with_reducible and_intros)<;>try exact sd))
 refine Go.loopQ (fun i:Nat=>[(0,.c (.isl 1 (l.map fun b=>[C.v (.bool b)]))),(1,.c (.isl 1 (l.map fun b=>[C.v (.bool b)]))),(5,DI .i64 i)]) (fun _=>[]) 1024 (fun i=>i≤l.length) (fun i=>l.length - i) ?_ 0 some [] _ (by omega) ?_
 ·intro i hi again
  rcases Nat.lt_or_ge i l.length with hlt | hge
  ·obtain ⟨x,hx⟩:∃ x,l[i]? = some x:=⟨l[i],by simp [hlt]⟩
   have hxl:(l.map fun b=>[C.v (.bool b)])[i]? = some [C.v (.bool x)]:=by rw [List.getElem?_map,hx];rfl
   generalize hRW:(l.map fun b=>[C.v (.bool b)])=rows at *
   refine drvL Try.func17 ?_
   simp only [go_sem,hrl,hlt,hxl,bne_self_eq_false]
   iterate 6 ((try (refine drvZ Try.func17 ?_;simp only [go_sem,hrl,hlt,hxl,bne_self_eq_false]));((with_reducible and_intros)<;>try exact sd))
   refine again (i+1) some [] _ hlt (by omega) ?_
   simp only [go_sem,TmOK,DM,DMs,CM,CMs,forall_eq,exists_eq_left,Mq,HpOK,LowOK]
   try simp
  ·have hn:¬ i<l.length:=by omega
   generalize hRW:(l.map fun b=>[C.v (.bool b)])=rows at *
   refine drvL Try.func17 ?_
   simp only [go_sem,hrl,hn]
   iterate 3 ((try (refine drvZ Try.func17 ?_;simp only [go_sem,hrl,hn]));((with_reducible and_intros)<;>try exact sd))
   exact ret _
 ·simp only [go_sem,TmOK,DM,DMs,CM,CMs,forall_eq,exists_eq_left,Mq,HpOK,LowOK]
  try simp
theorem sownEN (e:Ex) (he:ExN e):DC Try.prog 79 [.agg e.cells] [] (fun r h=>r = .agg e.cells∧h=[]):=by
 have hmx:=mx_eq
 induction he with
 | mk k v ks hlen hall ih =>
  have ih:=sownLE ks (by omega) ih
  refine dcZ Try.func79 ?_
  simp only [go_sem]
  iterate 4 ((try (refine drvZ Try.func79 ?_;simp only [go_sem]));((with_reducible and_intros)<;>try exact sd);(try first | refine XK.p ih ok91 ?_ | refine XK.gp ih ok91 ?_))
  exact RetOb.plain ⟨rfl,rfl⟩ (by simp [kD,kf])
theorem sownSN (s:St1) (h:StN s):DC Try.prog 67 [.agg s.cells] [] (fun r h=>r = .agg s.cells∧h=[]):=by
 induction h with
 | mk k t ix v c b e h1 h2 h3 h4 h5 h6 i5 i6=>exact sownSO k t ix v c b e (sownEN _ h1) (sownEN _ h2) (sownLS b (by omega) i5) (sownLS e (by omega) i6)
theorem sownPN (p:Pg) (hp:PgN p):DC Try.prog 22 [.agg p.cells] [] (fun r h=>r = .agg p.cells∧h=[]):=by
 have hmx:=mx_eq
 have hbd:=sownLS p.body (by have:=hp.nb;omega) fun s hs=>sownSN s (hp.st s hs)
 have hv:=hp.nv
 have ha:=hp.na
 obtain ⟨vs,ar,bd⟩:=p
 simp only at hv ha hbd
 have hgv:=flat_I vs
 have hga:=flat_I ar
 refine dcZ Try.func22 ?_
 simp only [go_sem,flat_I']
 iterate 8 ((try (refine drvZ Try.func22 ?_;simp only [go_sem,flat_I']));((with_reducible and_intros)<;>try exact sd);(try first | refine XK.p hbd ok48 ?_ | refine XK.gp hbd ok48 ?_))
 refine RetOb.ofQ (fun j=>none) [320,704] (.agg [.isl 1 (vs.map fun n=>[I64 n]),.isl 1 (ar.map fun n=>[I64 n]),.isl 11 (St1.cellsL bd)]) [] ?_ ⟨rfl,rfl⟩ (by simp)
 simp [enumL,hOf,DM,CM,CMs,HpOK,LowOK,upd,hgv,hga,kf,List.take_of_length_le]
theorem ML.nil {hT:Hp} {tm:Nat→Option D}:∀ p ∈ ([]:List (Nat × D)),∃ d,tm p.1=some d∧SmD hT d p.2:=fun p h=>by simp at h
theorem ML.cons {hT:Hp} {tm:Nat→Option D} {n:Nat} {d0 d:D} {l:List (Nat × D)} (h1:tm n=some d0) (h2:SmD hT d0 d) (h:∀ p ∈ l,∃ d,tm p.1=some d∧SmD hT d p.2):∀ p ∈ (n,d) :: l,∃ d,tm p.1=some d∧SmD hT d p.2:=fun p hp=>by
 rcases List.mem_cons.1 hp with rfl | hp
 ·exact ⟨d0,h1,h2⟩
 ·exact h p hp
theorem HL.nil {hT hp:Hp}:∀ p ∈ ([]:List (Nat × Option (List C))),∃ cs cs',hp p.1=some (some cs)∧p.2=some cs'∧Sms hT cs cs':=fun p h=>by simp at h
theorem HL.cons {hT hp : Hp} {n : Nat} {cs0 cs1 : List C} {l : List (Nat × Option (List C))} (h1 : hp n = some (some cs0)) (h2 : Sms hT cs0 cs1) (h : ∀ p ∈ l, ∃ cs cs', hp p.1 = some (some cs) ∧ p.2 = some cs' ∧ Sms hT cs cs') :
 ∀ p ∈ (n,some cs1) :: l,∃ cs cs',hp p.1=some (some cs)∧p.2=some cs'∧Sms hT cs cs':=fun p hp=>by
 rcases List.mem_cons.1 hp with rfl | hp
 ·exact ⟨cs0,cs1,h1,rfl,h2⟩
 ·exact h p hp
theorem boolsC_od {hT:Hp} (L:List Bool):∀ c ∈ boolsC L,Od hT c:=fun c hc=>by obtain ⟨b,_,rfl⟩:=List.mem_map.1 hc;exact .v _
theorem boolsD1 (L:List Bool):∀ x ∈ (L.map fun b=>[C.v (.bool b)]),x.length=1:=fun x hx=>by obtain ⟨b,_,rfl⟩:=List.mem_map.1 hx;rfl
theorem boolsDk (L:List Bool):∀ x ∈ (L.map fun b=>[C.v (.bool b)]),∀ c ∈ x,kf c=true:=fun x hx c hc=>by
 obtain ⟨b,_,rfl⟩:=List.mem_map.1 hx
 simp only [List.mem_singleton] at hc
 subst hc;rfl
theorem boolsDf (L:List Bool):(L.map fun b=>[C.v (.bool b)]).flatten=boolsC L:=boolsC_flat L
theorem ctE_le : ∀ (n : Nat) (e : Ex), SizeOf.sizeOf e ≤ n → ctE e ≤ 7 * szE e
 | 0,.mk k v ks,h=>by simp at h
 | n+1,.mk k v ks,h=>by
  have key:∀ l:List Ex,(∀ x ∈ l,SizeOf.sizeOf x≤n)→ctEL l≤7 * szEL l:=fun l=>by
   induction l with
   | nil=>intro _;simp [ctEL,szEL]
   | cons a r ih =>
    intro hx
    have h1:=ctE_le n a (hx a (by simp))
    have h2:=ih fun x hx'=>hx x (by simp [hx'])
    simp only [ctEL,szEL];omega
  simp only [ctE,szE]
  exact key ks fun x hx=>by have:=List.sizeOf_lt_of_mem hx;simp only [Ex.mk.sizeOf_spec] at h;omega
theorem ctS_le : ∀ (n : Nat) (s : St1), SizeOf.sizeOf s ≤ n → ctS s ≤ 7 * szS s
 | 0,.mk k t ix v c b e,h=>by simp at h
 | n+1,.mk k t ix v c b e,h=>by
  have key:∀ l:List St1,(∀ x ∈ l,SizeOf.sizeOf x≤n)→ctSL l≤7 * szSL l:=fun l=>by
   induction l with
   | nil=>intro _;simp [ctSL,szSL]
   | cons a r ih =>
    intro hx
    have h1:=ctS_le n a (hx a (by simp))
    have h2:=ih fun x hx'=>hx x (by simp [hx'])
    simp only [ctSL,szSL];omega
  simp only [St1.mk.sizeOf_spec] at h
  have h1:=ctE_le _ ix (Nat.le_refl _)
  have h2:=ctE_le _ v (Nat.le_refl _)
  have h3:=key b fun x hx=>by have:=List.sizeOf_lt_of_mem hx;omega
  have h4:=key e fun x hx=>by have:=List.sizeOf_lt_of_mem hx;omega
  simp only [ctS,szS];omega
theorem ctSL_le : ∀ l : List St1, ctSL l ≤ 7 * szSL l
 | []=>by simp [ctSL,szSL]
 | a :: r=>by
  have h1:=ctS_le _ a (Nat.le_refl _)
  have h2:=ctSL_le r
  simp only [ctSL,szSL];omega
omit [Yn] in
theorem markP1 (p:Pg) (hp:PgN p) (hs:szP p≤1048576) : @DW ⟨0⟩ Try.prog 11 [.agg (cnP p),DI .i64 1] (fun n=>0≤n∧n≤100000000):=by
 letI:Yn:=⟨0⟩
 have h4:=ctSL_le p.body
 unfold szP at hs
 exact (markProgramW rfl p hp.nv hp.na hp.nb hp.st 1 (by omega) (by omega)).imp fun n e=>⟨by omega,by omega⟩
def rowsM (b w n:Nat):List C:=(List.range n).map fun (i:Nat)=>C.msl (b+i) 1 0 w
def mkR (k:Int) (w n:Nat):List (List Bool):=(List.range n).map fun (i:Nat)=>mkB (k+(w:Int) * (i:Int)) w
theorem rowsM_len (b w n:Nat):(rowsM b w n).length=n:=by simp [rowsM]
theorem rowsM_at {b w n i:Nat} (h:i<n):(rowsM b w n)[i]? = some (.msl (b+i) 1 0 w):=by simp [rowsM,h]
theorem mkR_len (k:Int) (w n:Nat):(mkR k w n).length=n:=by simp [mkR]
theorem mkR_succ (k:Int) (w n:Nat):mkR k w (n+1)=mkR k w n++[mkB (k+(w:Int) * (n:Int)) w]:=by simp [mkR,List.range_succ]
theorem rowsM_cm {hT hS:Hp} {r:Nat→Option Nat} {fz:List Nat} {b b' w n:Nat} (h:∀ i,i<n→r (b+i)=some (b' + i)∧hT (b+i) ≠ none):CMs hT r hS fz (rowsM b w n) (rowsM b' w n):=by
 unfold rowsM
 have:∀ l:List Nat,(∀ i ∈ l,i<n)→CMs hT r hS fz (l.map fun i=>C.msl (b+i) 1 0 w) (l.map fun i=>C.msl (b' + i) 1 0 w):=fun l=>by
  induction l with
  | nil=>intro _;simp [CMs]
  | cons a s ih =>
   intro hl
   obtain ⟨h1,h2⟩:=h a (hl a (by simp))
   simp only [List.map_cons,CMs,CM]
   refine ⟨?_,ih fun i hi=>hl i (by simp [hi])⟩
   simp [h1,h2]
 exact this _ fun i hi=>by simpa using hi
theorem enumL_blks : ∀ (L : List (List C)) (b : Nat), enumL b (L.map some) = blks b L
 | [],b=>rfl
 | x :: r,b=>by rw [List.map_cons,enumL,blks,enumL_blks r (b+1)]
def hB (w:Nat) (rows:List (List Bool)):List (Option (List C)):=some (rowsM 1 w rows.length) :: (rows.map boolsC).map some
theorem hB_enum (w:Nat) (rows:List (List Bool)):enumL 0 (hB w rows)=(0,some (rowsM 1 w rows.length)) :: blks 1 (rows.map boolsC):=by rw [hB,enumL,enumL_blks]
theorem low_of {r : Nat → Option Nat} {hT : Hp} : ∀ {m : Nat}, (∀ i, i < m → r i = some i ∧ hT i ≠ none) → LowOK r hT m
 | 0,_=>trivial
 | m+1,h=>⟨h m (by omega),low_of fun i hi=>h i (by omega)⟩
theorem rows_get (X:List C) (rows:List (List Bool)) (i:Nat):hOf ((0,some X) :: blks 1 (rows.map boolsC)) (1+i)=(rows[i]?).map fun a=>some (boolsC a):=by
 rw [hOf,upd,if_neg (by omega),hOf_blks,if_pos (by omega),show 1+i - 1=i by omega,List.getElem?_map,Option.map_map]
 rfl
theorem mq_rows {m n w : Nat} {tl : List (Nat × D)} {S : Ms} {rows : List (List Bool)} (hl : rows.length = n) (hm : m ≤ n + 1) (ht : TmOK (hOf ((0, some (rowsM 1 w n)) :: blks 1 (rows.map boolsC))) some S.hp [] S.tm tl)
 (h0:S.hp 0=some (some (rowsM 1 w n))) (hr:∀ i a,rows[i]? = some a→S.hp (1+i)=some (some (boolsC a))):Mq m some [] tl ((0,some (rowsM 1 w n)) :: blks 1 (rows.map boolsC)) S:=by
 have hk:∀ i,i<n→hOf ((0,some (rowsM 1 w n)) :: blks 1 (rows.map boolsC)) (1+i) ≠ none:=fun i hi=>by
  rw [rows_get,List.getElem?_eq_getElem (by omega)];simp
 refine ⟨ht,⟨?_,HpOK_blks fun i cs hi=>?_⟩,low_of fun i hi=>⟨rfl,?_⟩,?_⟩
 ·simp only [h0]
  exact ⟨by simp,rowsM_cm fun i hi=>⟨rfl,hk i hi⟩⟩
 ·rw [List.getElem?_map,Option.map_eq_some_iff] at hi
  obtain ⟨a,ha,rfl⟩:=hi
  exact ⟨1+i,rfl,by simp,_,hr i a ha,CMs.kf (boolsC_kf _)⟩
 ·rcases Nat.eq_zero_or_pos i with rfl | hp
  ·simp [hOf,upd]
  ·obtain ⟨j,rfl⟩:∃ j,i=1+j:=⟨i - 1,by omega⟩
   exact hk j (by omega)
 ·exact nodup_blks (A:=[(0,some (rowsM 1 w n))]) (g:=fun i=>1+i) (fun i _=>rfl) (fun i j _ _ h=>by omega) (by simp) (by simp;omega)
theorem RetOb.rows {m n w : Nat} {R : D → List (Option (List C)) → Prop} {hp : Hp} {rows : List (List Bool)} {v : Value} (hl : rows.length = n) (hm : m ≤ n + 1) (h0 : hp 0 = some (some (rowsM 1 w n))) (hr : ∀ i a, rows[i]? = some a → hp (1 + i) = some (some (boolsC a)))
 (hR:R (.c (.v v)) (hB w rows)):RetOb m R (.c (.v v)) hp:=by
 have hq:Mq m some [] [] ((0,some (rowsM 1 w n)) :: blks 1 (rows.map boolsC)) ⟨fun _=>none,hp,0⟩:=mq_rows hl hm trivial h0 hr
 refine RetOb.ofQ some [] (.c (.v v)) (hB w rows) ?_ hR (by simp [hB];omega)
 rw [hB_enum,hl]
 exact ⟨by simp [DM,CM],hq.2⟩
theorem markBoolSSO (rows:List (List Bool)) (w n:Nat) (hn:rows.length=n) (hw:∀ a ∈ rows,a.length=w) (hw1:w≤1000) (hn1:n≤1000) (k:Int) (hk:0≤k) (hk1:k≤1048576):DC Try.prog 12 [.c (.msl 0 1 0 n),DI .i64 k] (hB w rows) (fun r h=>r=DI .i64 (k+(w:Nat) * (n:Nat))∧h=hB w (mkR k w n)):=by
 have hmx:=mx_eq
 generalize hR:(fun (r:D) (h:List (Option (List C)))=>r=DI .i64 (k+(w:Nat) * (n:Nat))∧h=hB w (mkR k w n))=R
 have hrl:=rowsM_len 1 w n
 refine dcZ Try.func12 ?_
 simp only [go_sem]
 iterate 3 ((try (refine drvZ Try.func12 ?_;simp only [go_sem]));((with_reducible and_intros)<;>try exact sd))
 refine Go.loopQ (fun i:Nat=>[(0,.c (.msl 0 1 0 n)),(1,DI .i64 (k+(w:Int) * (i:Int))),(5,DI .i64 i)]) (fun i=>(0,some (rowsM 1 w n)) :: blks 1 ((mkR k w i++rows.drop i).map boolsC)) 4096 (fun i=>i≤n) (fun i=>n - i) ?_ 0 some [] _ (by omega) ?_
 ·intro i hi again
  rcases Nat.lt_or_ge i n with hlt | hge
  ·have hat:=rowsM_at (b:=1) (w:=w) hlt
   have hlw:(rows[i]'(by omega)).length=w:=hw _ (by simp)
   have hc:=markBoolSO (rows[i]'(by omega)) (k+(w:Int) * (i:Int)) (by have:=Int.mul_nonneg (Int.natCast_nonneg w) (Int.natCast_nonneg i);omega) (by
    rw [hlw]
    have h1:w * i≤1000 * 1000:=Nat.mul_le_mul hw1 (by omega)
    have h2:(w:Int) * (i:Int)=((w * i:Nat):Int):=by simp
    omega)
   rw [hlw] at hc
   refine drvL Try.func12 ?_
   simp only [go_sem,hlt,hat,hrl]
   iterate 4 ((try (refine drvZ Try.func12 ?_;simp only [go_sem,hlt,hat,hrl]));((with_reducible and_intros)<;>try exact sd))
   have hgr:(mkR k w i++rows.drop i)[i]? = some (rows[i]'(by omega)):=by
    rw [List.getElem?_append_right (by rw [mkR_len];exact Nat.le_refl _),mkR_len,Nat.sub_self,List.getElem?_drop]
    simp
   refine XK.callG [1+i] hc ok18 (hhpG ⟨by
    simp only [upd]
    rw [if_neg (by omega),hOf_blks,if_pos (by omega),show 1+i - 1=i by omega,List.getElem?_map,hgr]
    simp [boolsC_ren],trivial⟩) (fun j hj=>by
    simp only [wkey,upd]
    rw [if_neg (by omega),hOf_blks,if_pos (by omega),List.getElem?_eq_none (by simp [mkR_len];omega)];rfl) (fun d h' ⟨_,e⟩=>by subst e;simp) ?_ (hm:=by simp [wkey,hB];omega) (hnd:=by simp)
   rintro _ _ ⟨rfl,rfl⟩ _
   iterate 4 ((try (refine drvZ Try.func12 ?_;simp only [go_sem,boolsC_ren]));((with_reducible and_intros)<;>try exact sd))
   have hsn:=mkR_succ k w i
   refine again (i+1) some [] _ hlt (by omega) ?_
   refine mq_rows (rows:=mkR k w (i+1)++rows.drop (i+1)) (by rw [List.length_append,mkR_len,List.length_drop];omega) (by simp [hB];omega) ?_ ?_ ?_
   ·simp [TmOK,DM,CM,hOf,upd]
    rw [Int.mul_add,Int.mul_one,← Int.add_assoc]
   ·simp only [upd]
    rw [if_neg (by omega)]
    rfl
   ·intro j a ha
    simp only [upd]
    by_cases hj:j=i
    ·subst hj
     rw [if_pos rfl]
     rw [hsn,List.append_assoc,List.getElem?_append_right (by rw [mkR_len];exact Nat.le_refl _),mkR_len,Nat.sub_self] at ha
     simp only [List.cons_append,List.nil_append,List.getElem?_cons_zero,Option.some.injEq] at ha
     rw [← ha]
    ·rw [if_neg (by omega),if_neg (by omega),hOf_blks,if_pos (by omega),show 1+j - 1=j by omega,List.getElem?_map]
     have:(mkR k w i++rows.drop i)[j]? = some a:=by
      rw [← ha,hsn]
      rcases Nat.lt_or_ge j i with h | h
      ·rw [List.getElem?_append_left (by rw [mkR_len];exact h),List.append_assoc,List.getElem?_append_left (by rw [mkR_len];exact h)]
      ·rw [List.getElem?_append_right (by rw [mkR_len];exact h),List.getElem?_append_right (by simp [mkR_len];omega)]
       simp only [mkR_len,List.length_append,List.length_cons,List.length_nil,List.getElem?_drop]
       congr 1;omega
     rw [this];rfl
  ·obtain rfl:i=n:=by omega
   have hnn:¬ i<i:=by omega
   refine drvL Try.func12 ?_
   simp only [go_sem,hnn,hrl]
   iterate 3 ((try (refine drvZ Try.func12 ?_;simp only [go_sem,hnn,hrl]));((with_reducible and_intros)<;>try exact sd))
   refine RetOb.rows (n:=i) (w:=w) (rows:=mkR k w i) (mkR_len _ _ _) (by simp [hB];omega) (by simp [upd]) (fun j a ha=>?_) (by rw [← hR];exact ⟨rfl,rfl⟩)
   simp only [upd]
   rw [if_neg (by omega),hOf_blks,if_pos (by omega),show 1+j - 1=j by omega,List.getElem?_map,List.drop_of_length_le (by omega),List.append_nil,ha]
   rfl
 ·refine mq_rows (rows:=rows) hn ?_ ?_ ?_ ?_
  ·simp [hB];omega
  ·simp [TmOK,DM,CM,hOf,upd]
  ·simp [hpL,hB,hn]
  ·intro j a ha
   simp [hpL,hB,Nat.add_comm 1 j,ha]
def isB (bs:List Bool):C := .isl 1 (bs.map fun b=>[C.v (.bool b)])
theorem mkR_at {k:Int} {w n i:Nat} (h:i<n):(mkR k w n)[i]? = some (mkB (k+(w:Int) * (i:Int)) w):=by simp [mkR,h]
theorem eqBoolSST (l:List (List Bool)) (hl:l.length≤mx) (hlw:∀ a ∈ l,a.length≤mx):DC Try.prog 9 [.c (.isl 1 (l.map fun a=>[isB a])),.c (.isl 1 (l.map fun a=>[isB a]))] [] (fun r h=>r=DB true∧h=[]):=by
 have hmx:=mx_eq
 have ret:∀ hp:Hp,RetOb 0 (fun r h=>r=DB true∧h=[]) (DB true) hp:=fun hp=>RetOb.plain (d:=DB true) ⟨rfl,rfl⟩ rfl
 generalize hR:(fun (r:D) (h:List (Option (List C)))=>r=DB true∧h=[])=R at ret ⊢
 clear hR
 have hrl:(l.map fun a=>[isB a]).length=l.length:=by simp
 refine dcZ Try.func9 ?_
 simp only [go_sem,hrl,bne_self_eq_false]
 iterate 4 ((try (refine drvZ Try.func9 ?_;simp only [go_sem,hrl,bne_self_eq_false]));((with_reducible and_intros)<;>try exact sd))
 refine Go.loopQ (fun i:Nat=>[(0,.c (.isl 1 (l.map fun a=>[isB a]))),(1,.c (.isl 1 (l.map fun a=>[isB a]))),(5,DI .i64 i)]) (fun _=>[]) 1024 (fun i=>i≤l.length) (fun i=>l.length - i) ?_ 0 some [] _ (by omega) ?_
 ·intro i hi again
  rcases Nat.lt_or_ge i l.length with hlt | hge
  ·obtain ⟨x,hx⟩:∃ x,l[i]? = some x:=⟨l[i],by simp [hlt]⟩
   have hxl:(l.map fun a=>[isB a])[i]? = some [isB x]:=by rw [List.getElem?_map,hx];rfl
   have hcx:=eqBoolST x (hlw x (List.mem_of_getElem? hx))
   generalize (l.map fun a=>[isB a])=rows at *
   unfold isB at hxl
   refine drvL Try.func9 ?_
   simp only [go_sem,hrl,hlt,hxl,bne_self_eq_false]
   iterate 6 ((try (refine drvZ Try.func9 ?_;simp only [go_sem,hrl,hlt,hxl,bne_self_eq_false]));((with_reducible and_intros)<;>try exact sd);(try first | refine XK.p hcx ok17 ?_ | refine XK.gp hcx ok17 ?_))
   refine again (i+1) some [] _ hlt (by omega) ?_
   simp only [go_sem,TmOK,DM,DMs,CM,CMs,forall_eq,exists_eq_left,Mq,HpOK,LowOK]
   try simp
  ·have hn:¬ i<l.length:=by omega
   generalize (l.map fun a=>[isB a])=rows at *
   refine drvL Try.func9 ?_
   simp only [go_sem,hrl,hn]
   iterate 3 ((try (refine drvZ Try.func9 ?_;simp only [go_sem,hrl,hn]));((with_reducible and_intros)<;>try exact sd))
   exact ret _
 ·simp only [go_sem,TmOK,DM,DMs,CM,CMs,forall_eq,exists_eq_left,Mq,HpOK,LowOK]
  try simp
theorem heldBoolSSP (k:Int) (w n:Nat) (hk:0≤k) (hk1:k≤1048576) (hw1:w≤1000) (hn1:n≤1000):DC Try.prog 13 [.c (.isl 1 ((mkR k w n).map fun a=>[isB a])),DI .i64 k] [] (fun r h=>r=DI .i64 (k+(w:Nat) * (n:Nat))∧h=[]):=by
 have hmx:=mx_eq
 have ret:∀ (v:Int) (hp:Hp),v=k+(w:Nat) * (n:Nat)→RetOb 0 (fun r h=>r=DI .i64 (k+(w:Nat) * (n:Nat))∧h=[]) (DI .i64 v) hp:=fun v hp h=>by subst h;exact RetOb.plain ⟨rfl,rfl⟩ rfl
 generalize hR:(fun (r:D) (h:List (Option (List C)))=>r=DI .i64 (k+(w:Nat) * (n:Nat))∧h=[])=R at ret ⊢
 clear hR
 have hrl:((mkR k w n).map fun a=>[isB a]).length=n:=by simp [mkR_len]
 refine dcZ Try.func13 ?_
 simp only [go_sem,hrl]
 iterate 3 ((try (refine drvZ Try.func13 ?_;simp only [go_sem,hrl]));((with_reducible and_intros)<;>try exact sd))
 refine Go.loopQ (fun i:Nat=>[(0,.c (.isl 1 ((mkR k w n).map fun a=>[isB a]))),(1,DI .i64 (k+(w:Int) * (i:Int))),(5,DI .i64 i)]) (fun _=>[]) 1024 (fun i=>i≤n) (fun i=>n - i) ?_ 0 some [] _ (by omega) ?_
 ·intro i hi again
  rcases Nat.lt_or_ge i n with hlt | hge
  ·have hxl:((mkR k w n).map fun a=>[isB a])[i]? = some [isB (mkB (k+(w:Int) * (i:Int)) w)]:=by rw [List.getElem?_map,mkR_at hlt];rfl
   have h0:=Int.mul_nonneg (Int.natCast_nonneg w) (Int.natCast_nonneg i)
   have h1:w * i≤1000 * 1000:=Nat.mul_le_mul hw1 (by omega)
   have h2:(w:Int) * (i:Int)=((w * i:Nat):Int):=by simp
   have h3:(k+(w:Int) * (i:Int)+(w:Int)<0)=False:=eq_false (by omega)
   have hcx:=heldBoolSP (k+(w:Int) * (i:Int)) w (by omega) (by omega) (by omega)
   clear h0 h1 h2
   generalize ((mkR k w n).map fun a=>[isB a])=rows at *
   unfold isB at hxl
   refine drvL Try.func13 ?_
   simp only [go_sem,hrl,hlt,hxl,h3]
   iterate 6 ((try (refine drvZ Try.func13 ?_;simp only [go_sem,hrl,hlt,hxl,h3]));((with_reducible and_intros)<;>try exact sd);(try first | refine XK.p hcx ok36 ?_ | refine XK.gp hcx ok36 ?_))
   refine again (i+1) some [] _ hlt (by omega) ?_
   simp only [go_sem,TmOK,DM,DMs,CM,CMs,forall_eq,exists_eq_left,Mq,HpOK,LowOK]
   simp
   rw [Int.mul_add,Int.mul_one,← Int.add_assoc]
  ·obtain rfl:n=i:=by omega
   have hnn:¬ n<n:=by omega
   generalize ((mkR k w n).map fun a=>[isB a])=rows at *
   refine drvL Try.func13 ?_
   simp only [go_sem,hrl,hnn]
   iterate 3 ((try (refine drvZ Try.func13 ?_;simp only [go_sem,hrl,hnn]));((with_reducible and_intros)<;>try exact sd))
   exact ret _ _ rfl
 ·simp only [go_sem,TmOK,DM,DMs,CM,CMs,forall_eq,exists_eq_left,Mq,HpOK,LowOK]
  all_goals simp
theorem cm_boolsB {hT hS:Hp} {r:Nat→Option Nat} {fz:List Nat} {k:Nat} {t:List Bool} (hk:k ∈ fz) (h:hS k=some (some (boolsC t))):CM hT r hS fz (isB t) (.msl k 1 0 t.length):=by
 simp only [isB,CM]
 refine ⟨⟨trivial,trivial,by simp⟩,hk,by rw [h,boolsDf],boolsD1 t,boolsDk t⟩
theorem cm_rowsB {hT hS:Hp} {r:Nat→Option Nat} {fz:List Nat} {b w:Nat}:∀ {rows:List (List Bool)} {n:Nat},rows.length=n→(∀ a ∈ rows,a.length=w)→(∀ i a,rows[i]? = some a→b+i ∈ fz∧hS (b+i)=some (some (boolsC a)))→CMs hT r hS fz (rows.map isB) (rowsM b w n):=by
 intro rows n hl hw h
 subst hl
 unfold rowsM
 induction rows generalizing b with
 | nil=>simp [CMs]
 | cons a s ih =>
  rw [List.length_cons,List.range_succ_eq_map,List.map_cons,List.map_cons,List.map_map]
  simp only [CMs]
  obtain ⟨h1,h2⟩:=h 0 a rfl
  refine ⟨?_,?_⟩
  ·have:=cm_boolsB (hT:=hT) (r:=r) h1 h2
   rwa [hw a (by simp)] at this
  ·have:=ih (b:=b+1) (fun x hx=>hw x (by simp [hx])) (fun i x hx=>by
    have:=h (i+1) x hx
    rwa [show b+(i+1)=b+1+i by omega] at this)
   have e:(fun (i:Nat)=>C.msl (b+i) 1 0 w) ∘ Nat.succ=fun (i:Nat)=>C.msl (b+1+i) 1 0 w:=by
    funext i;simp only [Function.comp];rw [show b+i.succ=b+1+i by omega]
   rw [e]
   exact this
theorem rowsB_flat (rows:List (List Bool)):(rows.map fun a=>[isB a]).flatten=rows.map isB:=flat1 _ _
theorem rows_frz1 {hT hS:Hp} {r:Nat→Option Nat} {fz:List Nat} (rows:List (List Bool)) (n:Nat) (hn:rows.length=n) {k:Nat} (hk:k ∈ fz) (h:hS k=some (some (rows.map isB))):CM hT r hS fz (.isl 1 (rows.map fun a=>[isB a])) (.msl k 1 0 n):=by
 simp only [CM]
 refine ⟨⟨trivial,trivial,by simp [hn]⟩,hk,by rw [h,rowsB_flat],?_,?_⟩
 ·intro x hx
  obtain ⟨a,_,rfl⟩:=List.mem_map.1 hx;rfl
 ·intro x hx c hc
  obtain ⟨a,_,rfl⟩:=List.mem_map.1 hx
  simp only [List.mem_singleton] at hc
  subst hc;rfl
theorem frzR (rows:List (List Bool)) (w n:Nat) (hn:rows.length=n) (hw:∀ a ∈ rows,a.length=w) (k:Int):Frz (hpL (hB w rows)) [.c (.msl 0 1 0 n),DI .i64 k] [.c (.isl 1 (rows.map fun a=>[isB a])),DI .i64 k]:=by
 refine Frz.step (fun j=>if j=0 then some 0 else none) ((List.range n).map (1 + ·)) [(0,some (rows.map isB))] (args1:=[.c (.msl 0 1 0 n),DI .i64 k]) ⟨⟨?_,trivial⟩,by simp⟩ ?_ (Frz.of [0] ?_)
 ·simp only [if_pos]
  refine ⟨by simp,?_⟩
  have h0:hpL (hB w rows) 0=some (some (rowsM 1 w n)):=by simp [hpL,hB,hn]
  simp only [h0]
  refine cm_rowsB hn hw fun i a ha=>⟨?_,?_⟩
  ·have:i<n:=by rw [← hn];exact (List.getElem?_eq_some_iff.1 ha).1
   simpa using this
  ·simp [hpL,hB,Nat.add_comm 1 i,ha]
 ·simp [DM,DMs,CM,CMs,hOf,upd]
 ·simp only [DMs,DM]
  exact ⟨rows_frz1 rows n hn (by simp) (by simp [hOf,upd]),by simp [CM],trivial⟩
theorem heldBoolSSO (k:Int) (w n:Nat) (hk:0≤k) (hk1:k≤1048576) (hw1:w≤1000) (hn1:n≤1000):DC Try.prog 13 [.c (.msl 0 1 0 n),DI .i64 k] (hB w (mkR k w n)) (fun r h=>r=DI .i64 (k+(w:Nat) * (n:Nat))∧h=hB w (mkR k w n)) :=
 DC.borrowG (frzR (mkR k w n) w n (mkR_len _ _ _) (fun a ha=>by obtain ⟨i,_,rfl⟩:=List.mem_map.1 ha;exact mkB_len _ _) k) (heldBoolSSP k w n hk hk1 hw1 hn1)
def hB2 (w:Nat) (rows:List (List Bool)):List (Option (List C)):=hB w rows++some (rowsM (rows.length+2) w rows.length) :: (rows.map boolsC).map some
def slots (B:Nat) (L:List (List C)) (m:Nat):List (Nat × Option (List C)):=(List.range m).map fun j=>(B+j,L[j]?)
theorem slots_succ (B:Nat) (L:List (List C)) (m:Nat):slots B L (m+1)=slots B L m++[(B+m,L[m]?)]:=by simp [slots,List.range_succ]
theorem hOf_slots (B : Nat) (L : List (List C)) : ∀ (m i : Nat), i < m → hOf (slots B L m) (B + i) = some (L[i]?)
 | 0,i,h=>by omega
 | m+1,i,h=>by
  rw [slots_succ,hOf_app]
  rcases Nat.lt_or_ge i m with h1 | h1
  ·rw [hOf_slots B L m i h1];rfl
  ·obtain rfl:i=m:=by omega
   have:∀ m,m≤i→hOf (slots B L m) (B+i)=none:=fun m=>by
    induction m with
    | zero=>intro _;rfl
    | succ n ih =>
     intro hn
     rw [slots_succ,hOf_app,ih (by omega)]
     simp only [hOf,upd,Option.none_or]
     rw [if_neg (by omega)]
   rw [this i (Nat.le_refl _)]
   simp [hOf,upd]
theorem HpOK_slots {hT hS : Hp} {r : Nat → Option Nat} {fz : List Nat} {L : List (List C)} {B : Nat} (h : ∀ i cs, L[i]? = some cs → ∃ k', r (B + i) = some k' ∧ k' ∉ fz ∧ ∃ cs', hS k' = some (some cs') ∧ CMs hT r hS fz cs cs') : ∀ m, HpOK hT r hS fz (slots B L m)
 | 0=>trivial
 | m+1=>by
  rw [slots_succ]
  refine HpOK_app (HpOK_slots h m) ⟨?_,trivial⟩
  cases hl:L[m]? with
  | none=>trivial
  | some cs =>
   obtain ⟨k',h1,h2,cs',h3,h4⟩:=h m cs hl
   simp only [h1,h3]
   exact ⟨h2,h4⟩
theorem keys_slots (B:Nat) (L:List (List C)):∀ m,L.length≤m→(slots B L m).filterMap (fun p=>p.2.map fun _=>p.1)=(List.range L.length).map (B + ·):=fun m hm=>by
 have:∀ m,(slots B L m).filterMap (fun p=>p.2.map fun _=>p.1)=(List.range (min m L.length)).map (B + ·):=fun m=>by
  induction m with
  | zero=>simp [slots]
  | succ n ih =>
   rw [slots_succ,List.filterMap_append,ih]
   rcases Nat.lt_or_ge n L.length with h | h
   ·rw [List.getElem?_eq_getElem h,show min (n+1) L.length=min n L.length+1 by omega,List.range_succ,List.map_append,show min n L.length=n by omega]
    simp
   ·rw [List.getElem?_eq_none h,show min (n+1) L.length=min n L.length by omega]
    simp
 rw [this m,Nat.min_eq_right hm]
theorem nodup_slots {A : List (Nat × Option (List C))} {L : List (List C)} {b m : Nat} {r : Nat → Option Nat} {g : Nat → Nat} (hm : L.length ≤ m) (hr : ∀ i, i < L.length → r (b + i) = some (g i)) (hg : ∀ i j, i < L.length → j < L.length → g i = g j → i = j)
 (hA:((A.filterMap fun p=>p.2.map fun _=>p.1).filterMap r).Nodup) (hd:∀ k ∈ (A.filterMap fun p=>p.2.map fun _=>p.1).filterMap r,∀ i,i<L.length→k ≠ g i) :
 (((A++slots b L m).filterMap fun p=>p.2.map fun _=>p.1).filterMap r).Nodup:=by
 have:=nodup_blks (A:=A) hr hg hA hd
 rw [List.filterMap_append,keys_blks] at this
 rw [List.filterMap_append,keys_slots b L m hm]
 exact this
theorem RetOb.rowsK {n w K B : Nat} {R : D → List (Option (List C)) → Prop} {hp : Hp} {rows : List (List Bool)} (hl : rows.length = n) (h0 : hp K = some (some (rowsM B w n))) (hr : ∀ i a, rows[i]? = some a → hp (B + i) = some (some (boolsC a)))
 (hKB:K<B∨B+n≤K) (hR:R (.c (.msl 0 1 0 n)) (hB w rows)):RetOb 0 R (.c (.msl K 1 0 n)) hp:=by
 have hk:∀ i,i<n→hOf ((0,some (rowsM 1 w n)) :: blks 1 (rows.map boolsC)) (1+i) ≠ none:=fun i hi=>by
  rw [rows_get,List.getElem?_eq_getElem (by omega)];simp
 have hrr:∀ i,i<n→(fun j=>if j=0 then some K else if j≤n then some (B+(j - 1)) else none) (1+i)=some (B+i):=fun i hi=>by
  simp only [if_neg (show ¬ 1+i=0 by omega),if_pos (show 1+i≤n by omega),show 1+i - 1=i by omega]
 refine RetOb.ofQ (fun j=>if j=0 then some K else if j≤n then some (B+(j - 1)) else none) [] (.c (.msl 0 1 0 n)) (hB w rows) ?_ hR (Nat.zero_le _)
 rw [hB_enum,hl]
 refine ⟨?_,⟨?_,HpOK_blks fun i cs hi=>?_⟩,trivial,?_⟩
 ·simp [DM,CM,hOf,upd]
 ·simp only [if_pos,h0]
  exact ⟨by simp,rowsM_cm fun i hi=>⟨hrr i hi,hk i hi⟩⟩
 ·rw [List.getElem?_map,Option.map_eq_some_iff] at hi
  obtain ⟨a,ha,rfl⟩:=hi
  have:i<n:=by rw [← hl];exact (List.getElem?_eq_some_iff.1 ha).1
  exact ⟨B+i,hrr i this,by simp,_,hr i a ha,CMs.kf (boolsC_kf _)⟩
 ·refine nodup_blks (A:=[(0,some (rowsM 1 w n))]) (g:=fun i=>B+i) (fun i hi=>hrr i (by simpa [hl] using hi)) (fun i j _ _ h=>by omega) (by simp) ?_
  simp
  intro i hi
  omega
theorem rowsM_snoc (b w i:Nat):rowsM b w (i+1)=rowsM b w i++[.msl (b+i) 1 0 w]:=by simp [rowsM,List.range_succ]
theorem slots_ok {hT hS:Hp} {r:Nat→Option Nat} {B m:Nat} {rows:List (List Bool)} (h:∀ i a,rows[i]? = some a→∃ k',r (B+i)=some k'∧hS k'=some (some (boolsC a))):HpOK hT r hS [] (slots B (rows.map boolsC) m) :=
 HpOK_slots (fun i cs hi=>by
  rw [List.getElem?_map,Option.map_eq_some_iff] at hi
  obtain ⟨a,ha,rfl⟩:=hi
  obtain ⟨k',h1,h2⟩:=h i a ha
  exact ⟨k',h1,by simp,_,h2,CMs.kf (boolsC_kf _)⟩) m
theorem CMs_app {hT hS : Hp} {r : Nat → Option Nat} {fz : List Nat} : ∀ {a a' b b' : List C}, CMs hT r hS fz a a' → CMs hT r hS fz b b' → CMs hT r hS fz (a ++ b) (a' ++ b')
 | [],[],_,_,_,h=>h
 | x :: a,y :: a',_,_,h1,h=>by
  simp only [List.cons_append,CMs] at h1 ⊢
  exact ⟨h1.1,CMs_app h1.2 h⟩
 | [],y :: a',_,_,h1,_=>by simp [CMs] at h1
 | x :: a,[],_,_,h1,_=>by simp [CMs] at h1
theorem slots_ne {A:List (Nat × Option (List C))} {L:List (List C)} {B m i:Nat} (h:i<m):hOf (A++slots B L m) (B+i) ≠ none:=by
 rw [hOf_app,hOf_slots B L m i h]
 cases hOf A (B+i)<;>simp
theorem dependsOnIO (p : Pg) {w : Nat} (hw : p.vars.length + p.arrays.length = w) (hw14 : w ≤ 14) (w0 : 0 < w) (hok : progOK p = true) : DC Try.prog 8 [.agg p.cells] []
 (fun r h=>r = .c (.msl 0 1 0 w)∧h=hB w ((depP p).sets.map (bl w))):=by
 have hmx:=mx_eq
 have hv:=programValidI p (by omega) (by omega)
 rw [hok] at hv
 have han:=analysedI p hw hw14 w0 (body_of hok).1 (by have:=(body_of hok).2;omega)
 have hX:=depP_ok p hw hw14
 have hel:=elementsO p hw hw14
 generalize depP p=X at *
 obtain ⟨xs,xt,xr⟩:=X
 obtain ⟨vs,ar,bd⟩:=p
 have hxl:xs.length=w:=hX.len
 have hrow:∀ a ∈ xs,a<2 ^ w:=hX.row
 have hnl:=nI_len xs
 obtain ⟨T,hT⟩:∃ T:Nat→List (List Bool),T=fun i=>(xs.take i).map (bl w):=⟨_,rfl⟩
 have hT0:T 0=[]:=by rw [hT];rfl
 have hTs:∀ i,i<w→T (i+1)=T i++[bl w (dat xs i)]:=fun i hi=>by rw [hT];simp only;rw [List.take_add_one,dat_get (by omega)];simp
 have hTl:∀ i,i≤w→(T i).length=i:=fun i hi=>by rw [hT];simp;omega
 have hTw:T w=xs.map (bl w):=by rw [hT];simp only;rw [← hxl,List.take_length]
 rw [← hTw]
 clear hT hTw
 generalize hR:(fun (r:D) (h:List (Option (List C)))=>r = .c (.msl 0 1 0 w)∧h=hB w (T w))=R
 refine dcZ Try.func8 ?_
 simp only [go_sem]
 iterate 3 ((try (refine drvZ Try.func8 ?_;simp only [go_sem]));((with_reducible and_intros)<;>try exact sd);(try first | refine XK.p hv ok29 ?_ | refine XK.gp hv ok29 ?_))
 refine XK.callG [] han ok30 (fun i' x h=>by simp at h) (hbT ()) (fun d h' ⟨_,e⟩=>by subst e;simp) ?_
 rintro _ _ ⟨rfl,rfl⟩ _
 iterate 5 ((try (refine drvZ Try.func8 ?_;simp only [go_sem,renCs_I,dpB_ren]));((with_reducible and_intros)<;>try exact sd))
 refine Go.loopQ (fun i : Nat => [(1, .c (.ptr 0 0)), (5, .c (.msl 64 1 0 i)), (16, .c (.msl 385 1 0 w)), (17, DI .i64 w), (18, DI .i64 i)])
  (fun i=>[(0,some (Pg.cells ⟨vs,ar,bd⟩)),(64,some (rowsM 2000 w i)),(385,some ((nI xs).map I64))]++slots 2000 ((T i).map boolsC) 14) 4096 (fun i=>i≤w) (fun i=>w - i) ?_ 0 (fun j=>if j=64 then none else some j) [] _ (Nat.zero_le _) ?_
 ·intro i hi again
  have hcl:=rowsM_len 2000 w i
  rcases Nat.lt_or_ge i w with hlt | hge
  ·have hx:(nI xs)[i]? = some ((dat xs i:Nat):Int):=nI_at (by omega)
   have hsn:=rowsM_snoc 2000 w i
   have hel:=hel (dat xs i) (dat_lt hrow i)
   have htk:=hTs i hlt
   have htl:=hTl i hi
   have hm1:(i+1≤mx)=True:=eq_true (by omega)
   have hm2:(1≤mx)=True:=eq_true (by omega)
   generalize dat xs i=q at *
   refine drvL Try.func8 ?_
   simp only [List.cons_append,List.nil_append]
   simp only [go_sem,hlt,hx]
   iterate 6 ((try (refine drvZ Try.func8 ?_;simp only [go_sem,hlt,hx,hcl]));((with_reducible and_intros)<;>try exact sd))
   refine XK.callG [] hel ok31 (fun i' x h=>by simp at h) (hbT ()) (fun d h' ⟨_,e⟩=>by subst e;simp) ?_
   rintro _ _ ⟨rfl,rfl⟩ _
   iterate 6 ((try (refine drvZ Try.func8 ?_;simp only [go_sem,hlt,hx,hcl,boolsC_ren,hm1,hm2]));((with_reducible and_intros)<;>try exact sd))
   have n0:((0:Nat)=2000+i)=False:=eq_false (by omega)
   have n385:((385:Nat)=2000+i)=False:=eq_false (by omega)
   refine again (i+1) (fun j=>if j=64 then some 4672 else if j=2000+i then some 4544 else some j) [] _ (by omega) (by omega) ⟨?_,HpOK_app ⟨?_,?_,?_,trivial⟩ (slots_ok fun j a ha=>?_),trivial,?_⟩
   ·simp [TmOK,DM,CM,hOf,upd,n0,n385]
   ·simp [n0,upd,Pg.cells,isI,CMs,CM,kf]
   ·refine (show 4672 ∉ []∧CMs _ _ _ _ (rowsM 2000 w (i+1)) (rowsM 2000 w i++[.msl 4544 1 0 w]) from ⟨by simp,?_⟩)
    rw [hsn]
    refine CMs_app (rowsM_cm fun j hj=>⟨?_,slots_ne (by omega)⟩) ?_
    ·rw [if_neg (by omega),if_neg (by omega)]
    ·have:=slots_ne (A:=[(0,some (Pg.cells ⟨vs,ar,bd⟩)),(64,some (rowsM 2000 w i++[.msl (2000+i) 1 0 w])),(385,some ((nI xs).map I64))]) (L:=(T (i+1)).map boolsC) (B:=2000) (m:=14) (i:=i) (by omega)
     simp only [CMs,CM,and_true,true_and]
     simp only [if_neg (show ¬ 2000+i=64 by omega),if_pos]
     exact ⟨trivial,this⟩
   ·simp [upd,CMs_I,n385]
   ·rw [htk] at ha
    rcases Nat.lt_or_ge j i with hj | hj
    ·rw [List.getElem?_append_left (by omega)] at ha
     refine ⟨2000+j,by rw [if_neg (by omega),if_neg (by omega)],?_⟩
     simp only [upd]
     repeat rw [if_neg (by omega)]
     rw [hOf_slots _ _ _ _ (by omega),List.getElem?_map,ha]
     rfl
    ·rw [List.getElem?_append_right (by omega),htl] at ha
     obtain rfl:j=i:=by
      have:=(List.getElem?_eq_some_iff.1 ha).1
      simp at this
      omega
     rw [Nat.sub_self] at ha
     simp only [List.getElem?_cons_zero,Option.some.injEq] at ha
     subst ha
     exact ⟨4544,by rw [if_neg (by omega),if_pos rfl],rfl⟩
   ·refine nodup_slots (g:=fun j=>if j=i then 4544 else 2000+j) (by simp;rw [hTl _ hlt];omega) (fun j hj=>?_) (fun j j' hj hj' e=>?_) ?_ ?_
    ·simp only [List.length_map,hTl _ hlt] at hj
     by_cases e:j=i
     ·subst e;simp;omega
     ·simp only [if_neg e];rw [if_neg (by omega),if_neg (by omega)]
    ·simp only [List.length_map,hTl _ hlt] at hj hj'
     split at e<;>split at e<;>omega
    ·simp [n0,n385]
    ·simp only [List.length_map,hTl _ hlt]
     simp [n0,n385]
     refine ⟨fun x hx=>?_,fun x hx=>?_,fun x hx=>?_⟩<;>split<;>omega
  ·have hn:¬ i<w:=by omega
   obtain rfl:i=w:=by omega
   refine drvL Try.func8 ?_
   simp only [List.cons_append,List.nil_append]
   simp only [go_sem,hn]
   iterate 2 ((try (refine drvZ Try.func8 ?_;simp only [go_sem,hn]));((with_reducible and_intros)<;>try exact sd);(try first | refine XK.p hv ok29 ?_ | refine XK.gp hv ok29 ?_))
   refine RetOb.rowsK (n:=i) (w:=i) (K:=64) (B:=2000) (rows:=T i) (hTl i (Nat.le_refl _)) (by simp [upd]) (fun j a ha=>?_) (by omega) (by rw [← hR];exact ⟨rfl,rfl⟩)
   have hj:j<i:=by rw [← hTl i (Nat.le_refl _)];exact (List.getElem?_eq_some_iff.1 ha).1
   simp only [upd]
   rw [if_neg (by omega),if_neg (by omega),if_neg (by omega),hOf_slots _ _ _ _ (by omega),List.getElem?_map,ha]
   rfl
 ·refine ⟨?_,HpOK_app ⟨?_,?_,?_,trivial⟩ (slots_ok fun j a ha=>?_),trivial,?_⟩
  ·simp [TmOK,DM,CM,hOf,upd]
  ·simp [upd,Pg.cells,isI,CMs,CM,kf]
  ·simp [rowsM]
  ·simp [upd,CMs_I,dpB_eq]
  ·rw [hT0] at ha;simp at ha
  ·refine nodup_slots (g:=fun j=>j) (by simp [hT0]) (fun j hj=>by simp [hT0] at hj) (fun j j' hj=>by simp [hT0] at hj) ?_ (fun k hk j hj=>by simp [hT0] at hj)
   simp
theorem appUp_get {r : Nat → Nat} {b : Nat} (hr : ∀ k, r k = b + k) : ∀ (h : List (Option (List C))) (i k : Nat) (hp : Hp), appUp hp (upsFrom r i h) k = if b + i ≤ k ∧ k < b + i + h.length then (h[k - (b + i)]?).map (fun x => x.map (renCs r)) else hp k
 | [],i,k,hp=>by
  simp only [upsFrom,appUp,List.length_nil]
  rw [if_neg (by omega)]
 | x :: l,i,k,hp=>by
  simp only [upsFrom,appUp,List.length_cons]
  rw [appUp_get hr l (i+1) k]
  by_cases h1:k=b+i
  ·subst h1
   rw [if_neg (by omega),if_pos (by omega),hr i]
   simp [upd]
  ·by_cases h2:b+i≤k∧k<b+i+(l.length+1)
   ·rw [if_pos (by omega),if_pos h2]
    obtain ⟨j,hj⟩:∃ j,k - (b+i)=j+1:=⟨k - (b+i) - 1,by omega⟩
    rw [hj,show k - (b+(i+1))=j by omega]
    rfl
   ·rw [if_neg (by omega),if_neg h2,upd,if_neg (by rw [hr];exact h1)]
theorem frzRP (rows:List (List Bool)) (w n:Nat) (hn:rows.length=n) (hw:∀ a ∈ rows,a.length=w):Frz (hpL (hB w rows)) [.c (.msl 0 1 0 n),.c (.isl 1 (rows.map fun a=>[isB a]))] [.c (.isl 1 (rows.map fun a=>[isB a])),.c (.isl 1 (rows.map fun a=>[isB a]))]:=by
 refine Frz.step (fun j=>if j=0 then some 0 else none) ((List.range n).map (1 + ·)) [(0,some (rows.map isB))] (args1:=[.c (.msl 0 1 0 n),.c (.isl 1 (rows.map fun a=>[isB a]))]) ⟨⟨?_,trivial⟩,by simp⟩ ?_ (Frz.of [0] ?_)
 ·simp only [if_pos]
  refine ⟨by simp,?_⟩
  have h0:hpL (hB w rows) 0=some (some (rowsM 1 w n)):=by simp [hpL,hB,hn]
  simp only [h0]
  refine cm_rowsB hn hw fun i a ha=>⟨?_,?_⟩
  ·have:i<n:=by rw [← hn];exact (List.getElem?_eq_some_iff.1 ha).1
   simpa using this
  ·simp [hpL,hB,Nat.add_comm 1 i,ha]
 ·simp only [DMs,DM]
  exact ⟨by simp [CM,hOf,upd],CM.kf rfl,trivial⟩
 ·simp only [DMs,DM]
  exact ⟨rows_frz1 rows n hn (by simp) (by simp [hOf,upd]),CM.kf rfl,trivial⟩
theorem eqBoolSSP (rows:List (List Bool)) (w n:Nat) (hn:rows.length=n) (hw:∀ a ∈ rows,a.length=w) (hw1:w≤1000) (hn1:n≤1000):DC Try.prog 9 [.c (.msl 0 1 0 n),.c (.isl 1 (rows.map fun a=>[isB a]))] (hB w rows) (fun r h=>r=DB true∧h=hB w rows):=by
 have hmx:=mx_eq
 exact DC.borrowG (frzRP rows w n hn hw) (eqBoolSST rows (by omega) fun a ha=>by rw [hw a ha];omega)
theorem isB_yw (a:List Bool):Yw (isB a) (isB a) := .isl 1 _ _ rfl (fun i r r' h h'=>by rw [h] at h';cases h';rfl) (fun i j r r' c c' h h' hc hc'=>by
 rw [h] at h';cases h'
 rw [hc] at hc';cases hc'
 have h1:=List.mem_of_getElem? h
 obtain ⟨b,_,rfl⟩:=List.mem_map.1 h1
 have h2:=List.mem_of_getElem? hc
 simp only [List.mem_singleton] at h2
 subst h2
 exact .nv _ fun k n e=>by cases e)
theorem rowsB_yw (rows:List (List Bool)):Yw (.isl 1 (rows.map fun a=>[isB a])) (.isl 1 (rows.map fun a=>[isB a])) := .isl 1 _ _ rfl (fun i r r' h h'=>by rw [h] at h';cases h';rfl) (fun i j r r' c c' h h' hc hc'=>by
 rw [h] at h';cases h'
 rw [hc] at hc';cases hc'
 have h1:=List.mem_of_getElem? h
 obtain ⟨b,_,rfl⟩:=List.mem_map.1 h1
 have h2:=List.mem_of_getElem? hc
 simp only [List.mem_singleton] at h2
 subst h2
 exact isB_yw b)
end Go.Proofs.Ytbknljofedfpjaa.CtD
