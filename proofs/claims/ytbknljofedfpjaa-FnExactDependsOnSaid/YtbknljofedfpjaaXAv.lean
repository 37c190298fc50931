/- Contracts of functions of the program, one behind the other, as plain data: what each call returns and which blocks it leaves. -/
import Derived.Test.YtbknljofedfpjaaXFacts
import Derived.Test.YtbknljofedfpjaaXAl
import Derived.Test.YtbknljofedfpjaaXAn
import Derived.Test.YtbknljofedfpjaaXAp
import Derived.Test.YtbknljofedfpjaaXAr
import Derived.Test.YtbknljofedfpjaaXAt
import Derived.Test.YtbknljofedfpjaaXAu
import Derived.Test.YtbknljofedfpjaaXAm
import Derived.Test.YtbknljofedfpjaaXAo
import Derived.Test.YtbknljofedfpjaaXAs
set_option linter.unusedVariables false
set_option linter.unusedSimpArgs false
set_option linter.unusedSectionVars false
set_option maxHeartbeats 16000000
set_option maxRecDepth 100000
namespace Go.Proofs.Ytbknljofedfpjaa.CtD
open Go Go.CT CtF CtR
variable [Yn]
def ksR (K B n:Nat):List Nat:=K :: (List.range n).map (B + ·)
theorem ksR_len (K B n:Nat):(ksR K B n).length=n+1:=by simp [ksR]
theorem ksR_0 {K B n:Nat}:(ksR K B n).getD 0 0=K:=rfl
theorem ksR_1 {K B n i:Nat} (h:i<n):(ksR K B n).getD (1+i) 0=B+i:=by
 rw [ksR,Nat.add_comm,List.getD_cons_succ]
 simp [List.getD,h]
theorem rk0_R1 {K B n b i:Nat} (h:i<n):rk0 (ksR K B n) b (1+i)=B+i:=by rw [rk0,ksR_len,if_pos (by omega),ksR_1 h]
theorem rkey_R0 {K B n b:Nat}:rkey (ksR K B n) b 0=K:=by rw [rkey,ksR_len,if_pos (by omega)];rfl
theorem rkey_R1 {K B n b i:Nat} (h:i<n):rkey (ksR K B n) b (1+i)=B+i:=by rw [rkey,ksR_len,if_pos (by omega),ksR_1 h]
theorem renCs_rowsM {r:Nat→Nat} {b B w n:Nat} (h:∀ i,i<n→r (b+i)=B+i):renCs r (rowsM b w n)=rowsM B w n:=by
 unfold rowsM
 have:∀ l:List Nat,(∀ i ∈ l,i<n)→renCs r (l.map fun i=>C.msl (b+i) 1 0 w)=l.map fun i=>C.msl (B+i) 1 0 w:=fun l=>by
  induction l with
  | nil=>intro _;rfl
  | cons a s ih =>
   intro hl
   simp only [List.map_cons,renCs,renC]
   rw [h a (hl a (by simp)),ih fun i hi=>hl i (by simp [hi])]
 exact this _ fun i hi=>by simpa using hi
theorem ksR_nd {K B n:Nat} (h:K<B∨B+n≤K):(ksR K B n).Nodup:=by
 rw [ksR,List.nodup_cons]
 refine ⟨fun hm=>?_,?_⟩
 ·obtain ⟨i,hi,e⟩:=List.mem_map.1 hm
  have:=List.mem_range.1 hi
  omega
 ·rw [List.nodup_iff_pairwise_ne,List.pairwise_map]
  exact List.pairwise_lt_range.imp fun {a b} h=>by omega
theorem hhR {hp : Hp} {K B b w n : Nat} {rows : List (List Bool)} (hn : rows.length = n) (h0 : hp K = some (some (rowsM B w n))) (h1 : ∀ i a, rows[i]? = some a → hp (B + i) = some (some (boolsC a))) :
 ∀ i' x,(hB w rows)[i']? = some x→hp ((ksR K B n).getD i' 0)=some (x.map (renCs (rk0 (ksR K B n) b))):=fun i' x hx=>by
 cases i' with
 | zero =>
  simp only [hB,List.getElem?_cons_zero,Option.some.injEq] at hx
  subst hx
  rw [ksR_0,h0,hn,Option.map_some,renCs_rowsM fun i hi=>rk0_R1 hi]
 | succ i =>
  simp only [hB,List.getElem?_cons_succ,List.getElem?_map,Option.map_map,Option.map_eq_some_iff] at hx
  obtain ⟨a,ha,rfl⟩:=hx
  have hi:i<n:=by rw [← hn];exact (List.getElem?_eq_some_iff.1 ha).1
  rw [Nat.add_comm i 1,ksR_1 hi,h1 i a ha]
  simp [boolsC_ren]
theorem rowsUp {hp : Hp} {K B b w n : Nat} {rows : List (List Bool)} (hn : rows.length = n) (hK : K < B ∨ B + n ≤ K) :
 appUp hp (upsFrom (rkey (ksR K B n) b) 0 (hB w rows)) K=some (some (rowsM B w n))∧(∀ i a,rows[i]? = some a→appUp hp (upsFrom (rkey (ksR K B n) b) 0 (hB w rows)) (B+i)=some (some (boolsC a))) ∧
 ∀ k,k ≠ K→k<B∨B+n≤k→appUp hp (upsFrom (rkey (ksR K B n) b) 0 (hB w rows)) k=hp k:=by
 have hkey:∀ a,a<n+1→rkey (ksR K B n) b a=if a=0 then K else B+(a - 1):=fun a ha=>by
  cases a with
  | zero=>simp [rkey_R0]
  | succ i=>rw [Nat.add_comm i 1,rkey_R1 (by omega),if_neg (by omega)];congr 1;omega
 have hl:(hB w rows).length=n+1:=by simp [hB,hn]
 obtain ⟨h1,h2⟩:=appUp_upsFrom (rkey (ksR K B n) b) (hB w rows) 0 hp (fun x y _ hx _ hy e=>by
  rw [hl] at hx hy
  rw [hkey x (by omega),hkey y (by omega)] at e
  split at e<;>split at e<;>omega)
 rw [hl] at h1 h2
 refine ⟨?_,fun i a ha=>?_,fun k hk hk2=>h2 k fun j hj=>?_⟩
 ·have:=h1 0 (by omega)
  rw [Nat.add_zero,rkey_R0] at this
  rw [this]
  simp only [hB,List.getElem?_cons_zero,Option.map_some,hn]
  rw [renCs_rowsM fun i hi=>rkey_R1 hi]
 ·have hi:i<n:=by rw [← hn];exact (List.getElem?_eq_some_iff.1 ha).1
  have:=h1 (i+1) (by omega)
  rw [Nat.zero_add,Nat.add_comm i 1,rkey_R1 hi] at this
  rw [this]
  rw [Nat.add_comm 1 i]
  simp only [hB,List.getElem?_cons_succ,List.getElem?_map,ha,Option.map_some,boolsC_ren]
 ·rw [Nat.zero_add,hkey j hj]
  split<;>omega
theorem rowsNew {hp : Hp} {b w n : Nat} {rows : List (List Bool)} (hn : rows.length = n) :
 appUp hp (upsFrom (rkey [] b) 0 (hB w rows)) b=some (some (rowsM (b+1) w n))∧(∀ i a,rows[i]? = some a→appUp hp (upsFrom (rkey [] b) 0 (hB w rows)) (b+1+i)=some (some (boolsC a))) ∧
 ∀ k,k<b∨b+n<k→appUp hp (upsFrom (rkey [] b) 0 (hB w rows)) k=hp k:=by
 have hr:∀ k,rkey [] b k=b+k:=fun k=>by simp [rkey]
 have hl:(hB w rows).length=n+1:=by simp [hB,hn]
 refine ⟨?_,fun i a ha=>?_,fun k hk=>?_⟩
 ·rw [appUp_get hr,hl,if_pos (by omega)]
  simp only [Nat.add_zero,Nat.sub_self,hB,List.getElem?_cons_zero,Option.map_some,hn]
  rw [renCs_rowsM (B:=b+1) fun i hi=>by rw [hr];omega]
 ·have hi:i<n:=by rw [← hn];exact (List.getElem?_eq_some_iff.1 ha).1
  rw [appUp_get hr,hl,if_pos (by omega),show b+1+i - (b+0)=i+1 by omega]
  simp only [hB,List.getElem?_cons_succ,List.getElem?_map,ha,Option.map_some,boolsC_ren]
 ·rw [appUp_get hr,hl,if_neg (by omega)]
theorem fm_congr {f g : Nat → Option Nat} : ∀ {l : List Nat}, (∀ a ∈ l, f a = g a) → l.filterMap f = l.filterMap g
 | [],_=>rfl
 | a :: r,h=>by rw [List.filterMap_cons,List.filterMap_cons,h a (by simp),fm_congr fun b hb=>h b (by simp [hb])]
theorem mq_slots {m n w K B K' B' : Nat} {tl : List (Nat × D)} {S : Ms} {A : List (Nat × Option (List C))} {rows : List (List Bool)} (r0 : Nat → Option Nat) (hn : rows.length = n) (h14 : n ≤ 14) (hm : m = 0)
 (hA:∀ p ∈ A,p.1<B∧p.1 ≠ K) (hKB:K<B)
 (ht:TmOK (hOf (A++(K,some (rowsM B w n)) :: slots B (rows.map boolsC) 14)) (fun j=>if j=K then some K' else if j<B then r0 j else some (B' + (j - B))) S.hp [] S.tm tl)
 (hok:HpOK (hOf (A++(K,some (rowsM B w n)) :: slots B (rows.map boolsC) 14)) (fun j=>if j=K then some K' else if j<B then r0 j else some (B' + (j - B))) S.hp [] A)
 (h0:S.hp K'=some (some (rowsM B' w n))) (h1:∀ i a,rows[i]? = some a→S.hp (B' + i)=some (some (boolsC a)))
 (hnd:((A.filterMap fun p=>p.2.map fun _=>p.1).filterMap r0).Nodup) (hd:∀ k ∈ (A.filterMap fun p=>p.2.map fun _=>p.1).filterMap r0,k ≠ K'∧(k<B'∨B' + n≤k)) (hK':K' < B'∨B' + n≤K') :
 Mq m (fun j=>if j=K then some K' else if j<B then r0 j else some (B' + (j - B))) [] tl (A++(K,some (rowsM B w n)) :: slots B (rows.map boolsC) 14) S:=by
 subst hm
 have hr:∀ i,(fun j=>if j=K then some K' else if j<B then r0 j else some (B' + (j - B))) (B+i)=some (B' + i):=fun i=>by
  simp only
  rw [if_neg (by omega),if_neg (by omega),Nat.add_sub_cancel_left]
 have hfA:(A.filterMap fun p=>p.2.map fun _=>p.1).filterMap (fun j=>if j=K then some K' else if j<B then r0 j else some (B' + (j - B)))=(A.filterMap fun p=>p.2.map fun _=>p.1).filterMap r0:=by
  refine fm_congr fun k hk=>?_
  obtain ⟨p,hp,e⟩:=List.mem_filterMap.1 hk
  obtain ⟨_,_,rfl⟩:=Option.map_eq_some_iff.1 e
  obtain ⟨g1,g2⟩:=hA p hp
  rw [if_neg g2,if_pos g1]
 refine ⟨ht,HpOK_app hok ⟨?_,slots_ok fun i a ha=>⟨B' + i,hr i,h1 i a ha⟩⟩,trivial,?_⟩
 ·simp only [if_pos,h0]
  refine ⟨by simp,rowsM_cm fun i hi=>⟨hr i,?_⟩⟩
  have:=slots_ne (A:=A++[(K,some (rowsM B w n))]) (L:=rows.map boolsC) (B:=B) (m:=14) (i:=i) (by omega)
  simpa using this
 ·have:=nodup_slots (A:=A++[(K,some (rowsM B w n))]) (L:=rows.map boolsC) (b:=B) (m:=14) (r:=fun j=>if j=K then some K' else if j<B then r0 j else some (B' + (j - B))) (g:=fun i=>B' + i) (by simp [hn];exact h14) (fun i _=>hr i) (fun i j _ _ h=>by omega) ?_ ?_
  ·simpa using this
  ·rw [List.filterMap_append,List.filterMap_append,hfA]
   simp only [List.filterMap_cons,Option.map_some,List.filterMap_nil,if_pos]
   rw [List.nodup_append]
   exact ⟨hnd,by simp,fun a ha b hb=>by simp only [List.mem_singleton] at hb;subst hb;exact (hd a ha).1⟩
  ·rw [List.filterMap_append,List.filterMap_append,hfA]
   intro k hk i hi
   simp only [List.length_map,hn] at hi
   simp only [List.filterMap_cons,Option.map_some,List.filterMap_nil,if_pos,List.mem_append,List.mem_singleton] at hk
   rcases hk with hk | rfl
   ·have:=(hd k hk).2;omega
   ·omega
theorem mem_blks : ∀ {L : List (List C)} {b : Nat} {p : Nat × Option (List C)}, p ∈ blks b L → ∃ i cs, L[i]? = some cs ∧ p = (b + i, some cs)
 | [],b,p,h=>by simp [blks] at h
 | x :: l,b,p,h=>by
  rw [blks] at h
  rcases List.mem_cons.1 h with rfl | h
  ·exact ⟨0,x,rfl,rfl⟩
  ·obtain ⟨i,cs,h1,h2⟩:=mem_blks h
   exact ⟨i+1,cs,h1,by rw [h2];congr 1;omega⟩
theorem slots_K {A:List (Nat × Option (List C))} {K B:Nat} {X:Option (List C)} {L:List (List C)} (hA:∀ p ∈ A,p.1 ≠ K):hOf (A++(K,X) :: slots B L 14) K=some X:=by
 rw [hOf_app]
 have:hOf A K=none:=by
  induction A with
  | nil=>rfl
  | cons p l ih =>
   rw [hOf,upd,if_neg fun e=>hA p (by simp) e.symm]
   exact ih fun q hq=>hA q (by simp [hq])
 rw [this]
 simp [hOf,upd]
theorem slots_B {A:List (Nat × Option (List C))} {K B i:Nat} {X:Option (List C)} {L:List (List C)} (hA:∀ p ∈ A,p.1<B) (hK:K<B) (hi:i<14):hOf (A++(K,X) :: slots B L 14) (B+i)=some (L[i]?):=by
 rw [hOf_app]
 have:hOf A (B+i)=none:=by
  induction A with
  | nil=>rfl
  | cons p l ih =>
   rw [hOf,upd,if_neg fun e=>by have:=hA p (by simp);omega]
   exact ih fun q hq=>hA q (by simp [hq])
 rw [this]
 simp only [Option.none_or,hOf,upd]
 rw [if_neg (by omega),hOf_slots _ _ _ _ hi]
theorem slots_row {A:List (Nat × Option (List C))} {K B:Nat} {X:Option (List C)} {rows:List (List Bool)} (hA:∀ p ∈ A,p.1<B) (hK:K<B) (h14:rows.length≤14) (i:Nat) (a:List Bool) (h:rows[i]? = some a):hOf (A++(K,X) :: slots B (rows.map boolsC) 14) (B+i)=some (some (boolsC a)):=by
 have:=(List.getElem?_eq_some_iff.1 h).1
 rw [slots_B hA hK (by omega),List.getElem?_map,h];rfl
theorem blks_ne {A:List (Nat × Option (List C))} {K B i:Nat} {X:Option (List C)} {L:List (List C)} (hi:i<L.length):hOf (A++(K,X) :: blks B L) (B+i) ≠ none:=by
 rw [hOf_app,hOf,upd]
 split
 ·cases hOf A (B+i)<;>simp
 ·rw [hOf_blks,if_pos (by omega),Nat.add_sub_cancel_left,List.getElem?_eq_getElem hi]
  cases hOf A (B+i)<;>simp
theorem rowsM_od {hT:Hp} {b w n:Nat} (h:∀ i,i<n→hT (b+i) ≠ none):∀ c ∈ rowsM b w n,Od hT c:=fun c hc=>by
 obtain ⟨i,hi,rfl⟩:=List.mem_map.1 hc
 exact .msl _ _ _ _ (h i (List.mem_range.1 hi))
theorem blks_row {A:List (Nat × Option (List C))} {K B:Nat} {X:Option (List C)} {rows:List (List Bool)} (hA:∀ p ∈ A,p.1<B) (hK:K<B) (i:Nat) (a:List Bool) (h:rows[i]? = some a):hOf (A++(K,X) :: blks B (rows.map boolsC)) (B+i)=some (some (boolsC a)):=by
 rw [hOf_app]
 have:hOf A (B+i)=none:=by
  induction A with
  | nil=>rfl
  | cons p l ih =>
   rw [hOf,upd,if_neg fun e=>by have:=hA p (by simp);omega]
   exact ih fun q hq=>hA q (by simp [hq])
 rw [this]
 simp only [Option.none_or,hOf,upd]
 rw [if_neg (by omega),hOf_blks,if_pos (by omega),Nat.add_sub_cancel_left,List.getElem?_map,h];rfl
theorem HL.blks {hT hp:Hp} {B:Nat} {rows:List (List Bool)} (h:∀ i a,rows[i]? = some a→hp (B+i)=some (some (boolsC a))):∀ p ∈ Go.CT.blks B (rows.map boolsC),∃ cs cs',hp p.1=some (some cs)∧p.2=some cs'∧Sms hT cs cs':=fun p hp=>by
 obtain ⟨i,cs,h1,rfl⟩:=mem_blks hp
 rw [List.getElem?_map,Option.map_eq_some_iff] at h1
 obtain ⟨a,ha,rfl⟩:=h1
 exact ⟨_,_,h i a ha,rfl,.od (boolsC_od a)⟩
theorem markBoolSSN:DC Try.prog 12 [.c (.isl 1 []),DI .i64 1] [] (fun r h'=>r=DI .i64 1∧h'=[]):=by
 have ret:∀ hp:Hp,RetOb 0 (fun r h'=>r=DI .i64 1∧h'=[]) (DI .i64 1) hp:=fun hp=>RetOb.plain ⟨rfl,rfl⟩ rfl
 generalize hR:(fun (r:D) (h:List (Option (List C)))=>r=DI .i64 1∧h=[])=R at ret ⊢
 refine dcZ Try.func12 ?_
 simp only [go_sem]
 iterate 3 ((try (refine drvZ Try.func12 ?_;simp only [go_sem]));((with_reducible and_intros)<;>try exact sd))
 refine Go.loopQ (fun _:Unit=>[(0,.c (.isl 1 [])),(1,DI .i64 1),(5,DI .i64 0)]) (fun _=>[]) 1024 (fun _=>True) (fun _=>0) ?_ () some [] _ trivial ?_
 ·intro _ _ _
  refine drvL Try.func12 ?_
  simp only [go_sem,Int.reduceLT]
  iterate 3 ((try (refine drvZ Try.func12 ?_;simp only [go_sem,Int.reduceLT]));((with_reducible and_intros)<;>try exact sd))
  exact ret _
 ·simp only [go_sem,TmOK,DM,DMs,CM,CMs,forall_eq,exists_eq_left,Mq,HpOK,LowOK]
  all_goals simp
theorem lawXDep (p:Pg) (hp:PgB p):LW Try.prog 3 [.agg p.cells]:=by
 have hmx:=mx_eq
 refine lwZ Try.func3 (.cons (.agg (cyP_co false p)) .nil) fun y=>?_
 have z1:=(szProgram_c p hp 1048576 (by omega) (by omega)).er (.cons (.agg (cyP_co false p)) (.cons (y:=false) (.rfl _) .nil))
 have ret:∀ hp:Hp,RetOb 0 (fun d h=>d=DB true∧h=[]) (DB true) hp:=fun hp=>RetOb.plain (d:=DB true) ⟨rfl,rfl⟩ rfl
 by_cases q1:((szP p:Nat):Int)≤1048576
 ·rw [subZ,if_pos q1] at z1
  have g1:((1048576:Int) - (szP p:Int)<0)=False:=eq_false (by omega)
  have np:=pgN_of (p:=p) (by omega)
  have hls:lsize 5 p.body≤1048576:=by
   have h1:=lsize_le 5 p.body
   have h2:szSL p.body≤szP p:=by unfold szP;omega
   omega
  have c1:=(toProgram_y p np).er (.cons (.agg (cyP_co false p)) .nil)
  have e1:=(eqProgram_c p hp).er (.cons (.agg (cyP_co true p)) (.cons (.agg (cyP_co true p)) .nil))
  cases hok:progOK p with
  | true =>
   have hln:=prog_len hok
   obtain ⟨w,hw⟩:∃ w,p.vars.length+p.arrays.length=w:=⟨_,rfl⟩
   have hs:=(dependsOnSG p hw (by omega) (by omega) (sownPN p np) (by omega) hok).er (.cons (.agg (cyP_co true p)) .nil)
   have hi:=(dependsOnIO p hw (by omega) (by omega) hok).er (.cons (.agg (cyP_co true p)) .nil)
   have hXl:=(depP_ok p hw (by omega)).len
   have hw14:w≤14:=by omega
   have hmk:=markP1 p np (by omega)
   have hyt:=cyP_yt p
   obtain ⟨L,hL⟩:∃ L,(depP p).sets.map (bl w)=L:=⟨_,rfl⟩
   have hLl:L.length=w:=by rw [← hL,List.length_map];exact hXl
   have hLw:∀ a ∈ L,a.length=w:=fun a ha=>by rw [← hL] at ha;obtain ⟨N,_,rfl⟩:=List.mem_map.1 ha;exact bl_len _ _
   have hrw:rowsD w (depP p).sets = .isl 1 (L.map fun a=>[isB a]):=by rw [← hL];simp [rowsD,isB,boolsD,List.map_map,Function.comp]
   have hi2:=(dependsOnI p hw (by omega) (by omega) hok).er (.cons (.agg (cyP_co true p)) .nil)
   rw [hrw] at hs hi2
   rw [hL] at hi
   clear hrw hL hXl
   have hod:=cyP_od (hT:=fun _=>none) p
   have heq2:=eqBoolSST L (by omega) fun a ha=>by rw [hLw a ha];omega
   have heq:=eqBoolSSP L w w hLl hLw (by omega) (by omega)
   have hmb:=markBoolSSO L w w hLl hLw (by omega) (by omega) 1 (by omega) (by omega)
   have hml:=mkR_len 1 w w
   have hhb:=heldBoolSSO 1 w w (by omega) (by omega) (by omega) (by omega)
   have hww:w * w≤14 * 14:=Nat.mul_le_mul hw14 hw14
   have hq0:((1:Int)+(w:Nat) * (w:Nat)<0)=False:=eq_false (by have:=Int.mul_nonneg (Int.natCast_nonneg w) (Int.natCast_nonneg w);omega)
   generalize szP p=s1 at *
   obtain ⟨vs,ar,bd⟩:=p
   simp only [cyP,cyI] at hyt hod c1 e1 hs hi hi2 z1 ⊢
   simp only [go_sem]
   iterate 4 ((try (refine drvZ Try.func3 ?_;simp only [go_sem,g1]));((with_reducible and_intros)<;>try exact sd);(try first | refine XK.p z1 ok5 ?_ | refine XK.gp z1 ok5 ?_ | refine XK.p c1 ok7 ?_ | refine XK.gp c1 ok7 ?_))
   iterate 5 ((try (refine drvZ Try.func3 ?_;simp only [go_sem,g1]));((with_reducible and_intros)<;>try exact sd);(try first | refine XK.p c1 ok7 ?_ | refine XK.gp c1 ok7 ?_ | refine XK.p hs ok6 ?_ | refine XK.gp hs ok6 ?_))
   refine XK.callG [] hi ok8 (fun i' x h=>by simp at h) (hbT ()) (fun d h' ⟨_,e⟩=>by subst e;simp [hB];omega) ?_
   rintro _ _ ⟨rfl,rfl⟩ _
   refine XK.subQ (mq_slots (K:=1000) (B:=2000) (K':=1152) (B':=1153) (n:=w) (w:=w) (A:=[(0,some [.csl false 1 (vs.map fun n=>[I64 n]),.csl false 1 (ar.map fun n=>[I64 n]),.csl false 11 (cySL false bd)]),(960,some [.csl true 1 (vs.map fun n=>[I64 n]),.csl true 1 (ar.map fun n=>[I64 n]),.csl true 11 (cySL true bd)])]) (rows:=L) (tl:=[(1,.c (.ptr 0 0)),(4,.c (.isl 1 (L.map fun a=>[isB a]))),(5,.c (.ptr 960 0)),(22,.c (.msl 1000 1 0 w))]) some hLl (by omega) rfl ?_ (by decide) ?_ ?_ ?_ ?_ ?_ ?_ (by omega)) ?_
   ·simp
   ·simp [TmOK,DM,CM,hOf,upd,rkey,setT,renD,renC,wkey]
   ·simp [HpOK,wkey,(rowsNew (w:=w) hLl).2.2,upd,CMs,CM]
   ·exact (rowsNew hLl).1
   ·exact (rowsNew hLl).2.1
   ·simp
   ·simp
   simp only [List.cons_append,List.nil_append]
   iterate 4 ((try (refine drvZ Try.func3 ?_;simp only [go_sem,g1,boolsC_ren]));((with_reducible and_intros)<;>try exact sd))
   refine XK.callG (ksR 1000 2000 w) heq ok9 (hhR hLl (slots_K (A:=[(0,some [.csl false 1 (vs.map fun n=>[I64 n]),.csl false 1 (ar.map fun n=>[I64 n]),.csl false 11 (cySL false bd)]),(960,some [.csl true 1 (vs.map fun n=>[I64 n]),.csl true 1 (ar.map fun n=>[I64 n]),.csl true 11 (cySL true bd)])]) (K:=1000) (B:=2000) (L:=L.map boolsC) (by simp)) (slots_row (A:=[(0,some [.csl false 1 (vs.map fun n=>[I64 n]),.csl false 1 (ar.map fun n=>[I64 n]),.csl false 11 (cySL false bd)]),(960,some [.csl true 1 (vs.map fun n=>[I64 n]),.csl true 1 (ar.map fun n=>[I64 n]),.csl true 11 (cySL true bd)])]) (K:=1000) (B:=2000) (rows:=L) (by simp) (by omega) (by rw [hLl];exact hw14))) (hbT ()) (fun d h' ⟨_,e⟩=>by subst e;simp [hB,mkR_len,hLl]) ?_ (hks:=by simp [ksR_len,hB,hLl]) (hnd:=ksR_nd (by omega))
   rintro _ _ ⟨rfl,rfl⟩ _
   refine XK.subQ (mq_slots (K:=1000) (B:=2000) (K':=1000) (B':=2000) (n:=w) (w:=w) (A:=[(0,some [.csl false 1 (vs.map fun n=>[I64 n]),.csl false 1 (ar.map fun n=>[I64 n]),.csl false 11 (cySL false bd)]),(960,some [.csl true 1 (vs.map fun n=>[I64 n]),.csl true 1 (ar.map fun n=>[I64 n]),.csl true 11 (cySL true bd)])]) (rows:=L) (tl:=[(1,.c (.ptr 0 0)),(4,.c (.isl 1 (L.map fun a=>[isB a]))),(5,.c (.ptr 960 0)),(6,.c (.msl 1000 1 0 w)),(25,DB true)]) some hLl hw14 rfl ?_ (by decide) ?_ ?_ ?_ ?_ ?_ ?_ (by omega)) ?_
   ·simp
   ·simp [TmOK,DM,CM,hOf,upd,setT,renD,renC]
   ·simp [HpOK,(rowsUp (K:=1000) (B:=2000) (w:=w) hLl (by omega)).2.2,hOf,upd,CMs,CM]
   ·exact (rowsUp hLl (by omega)).1
   ·exact (rowsUp hLl (by omega)).2.1
   ·simp
   ·simp
   simp only [List.cons_append,List.nil_append]
   iterate 6 ((try (refine drvZ Try.func3 ?_;simp only [go_sem,g1]));((with_reducible and_intros)<;>try exact sd);(try first | refine XK.p c1 ok7 ?_ | refine XK.gp c1 ok7 ?_ | refine XK.p e1 ok10 ?_ | refine XK.gp e1 ok10 ?_))
   refine XK.mark [(1, .c (.ptr 0 0)), (4, .c (.isl 1 (L.map fun a => [isB a]))), (6, .c (.msl 1000 1 0 w))] ([(0, some [.csl false 1 (vs.map fun n => [I64 n]), .csl false 1 (ar.map fun n => [I64 n]), .csl false 11 (cySL false bd)])] ++ (1000, some (rowsM 2000 w w)) :: blks 2000 (L.map boolsC)) hmk ok11 (.cons (.agg hyt) (.cons (.c (.v _)) .nil))
    (HL.cons rfl (.od (cyP_od ⟨vs,ar,bd⟩)) (HL.cons rfl (.od (rowsM_od fun i hi=>blks_ne (by simpa [hLl] using hi))) (HL.blks (slots_row (A:=[(0,some [.csl false 1 (vs.map fun n=>[I64 n]),.csl false 1 (ar.map fun n=>[I64 n]),.csl false 11 (cySL false bd)]),(960,some [.csl true 1 (vs.map fun n=>[I64 n]),.csl true 1 (ar.map fun n=>[I64 n]),.csl true 11 (cySL true bd)])]) (K:=1000) (B:=2000) (rows:=L) (by simp) (by omega) (by rw [hLl];exact hw14))))) (ML.cons rfl (.c (.od (.ptr _ _ (by simp [hOf,upd])))) (ML.cons rfl (.c (.yw (rowsB_yw L))) (ML.cons rfl (.c (.od (.msl _ _ _ _ (by simp [hOf,upd])))) ML.nil))) ?_
   rintro n ⟨hn0,hn1⟩
   have hn2:(n<0)=False:=eq_false (by omega)
   refine XK.subQ (mq_slots (K:=1000) (B:=2000) (K':=1000) (B':=2000) (n:=w) (w:=w) (A:=[(0,some [.csl false 1 (vs.map fun n=>[I64 n]),.csl false 1 (ar.map fun n=>[I64 n]),.csl false 11 (cySL false bd)])]) (rows:=L) (tl:=[(1,.c (.ptr 0 0)),(4,.c (.isl 1 (L.map fun a=>[isB a]))),(6,.c (.msl 1000 1 0 w)),(34,DI .i64 n)]) some hLl hw14 rfl ?_ (by decide) ?_ ?_ ?_ ?_ ?_ ?_ (by omega)) ?_
   ·simp
   ·simp [TmOK,DM,CM,hOf,upd,setT,tOf,renD,renC]
   ·simp [HpOK,hOf,upd,CMs,CM]
   ·rfl
   ·exact blks_row (A:=[(0,some [.csl false 1 (vs.map fun n=>[I64 n]),.csl false 1 (ar.map fun n=>[I64 n]),.csl false 11 (cySL false bd)])]) (by simp) (by omega)
   ·simp
   ·simp
   simp only [List.cons_append,List.nil_append]
   iterate 4 ((try (refine drvZ Try.func3 ?_;simp only [go_sem,hn2]));((with_reducible and_intros)<;>try exact sd))
   refine XK.callT 2 false (ksR 1000 2000 w) heq ok9 (hhR hLl (slots_K (A:=[(0,some [.csl false 1 (vs.map fun n=>[I64 n]),.csl false 1 (ar.map fun n=>[I64 n]),.csl false 11 (cySL false bd)])]) (K:=1000) (B:=2000) (L:=L.map boolsC) (by simp)) (slots_row (A:=[(0,some [.csl false 1 (vs.map fun n=>[I64 n]),.csl false 1 (ar.map fun n=>[I64 n]),.csl false 11 (cySL false bd)])]) (K:=1000) (B:=2000) (rows:=L) (by simp) (by omega) (by rw [hLl];exact hw14))) (hbT ()) (fun d h' ⟨_,e⟩=>by subst e;simp [hB,mkR_len,hLl]) ?_ (hks:=by simp [ksR_len,hB,hLl]) (hnd:=ksR_nd (by omega))
   rintro _ _ ⟨rfl,rfl⟩ _
   refine XK.subQ (mq_slots (K:=1000) (B:=2000) (K':=1000) (B':=2000) (n:=w) (w:=w) (A:=[(0,some [.csl false 1 (vs.map fun n=>[I64 n]),.csl false 1 (ar.map fun n=>[I64 n]),.csl false 11 (cySL false bd)])]) (rows:=L) (tl:=[(1,.c (.ptr 0 0)),(4,.c (.isl 1 (L.map fun a=>[isB a]))),(6,.c (.msl 1000 1 0 w)),(36,DB false),(37,DB false),(40,DB true)]) some hLl hw14 rfl ?_ (by decide) ?_ ?_ ?_ ?_ ?_ ?_ (by omega)) ?_
   ·simp
   ·simp [TmOK,DM,CM,hOf,upd,setT,tOf,renD,renC]
   ·simp [HpOK,(rowsUp (K:=1000) (B:=2000) (w:=w) hLl (by omega)).2.2,hOf,upd,CMs,CM]
   ·exact (rowsUp hLl (by omega)).1
   ·exact (rowsUp hLl (by omega)).2.1
   ·simp
   ·simp
   simp only [List.cons_append,List.nil_append]
   iterate 4 ((try (refine drvZ Try.func3 ?_;simp only [go_sem,hn2]));((with_reducible and_intros)<;>try exact sd))
   refine XK.callG (ksR 1000 2000 w) hmb ok12 (hhR hLl (slots_K (A:=[(0,some [.csl false 1 (vs.map fun n=>[I64 n]),.csl false 1 (ar.map fun n=>[I64 n]),.csl false 11 (cySL false bd)])]) (K:=1000) (B:=2000) (L:=L.map boolsC) (by simp)) (slots_row (A:=[(0,some [.csl false 1 (vs.map fun n=>[I64 n]),.csl false 1 (ar.map fun n=>[I64 n]),.csl false 11 (cySL false bd)])]) (K:=1000) (B:=2000) (rows:=L) (by simp) (by omega) (by rw [hLl];exact hw14))) (hbT ()) (fun d h' ⟨_,e⟩=>by subst e;simp [hB,mkR_len,hLl]) ?_ (hks:=by simp [ksR_len,hB,hLl]) (hnd:=ksR_nd (by omega))
   rintro _ _ ⟨rfl,rfl⟩ _
   refine XK.subQ (mq_slots (K:=1000) (B:=2000) (K':=1000) (B':=2000) (n:=w) (w:=w) (A:=[(0,some [.csl false 1 (vs.map fun n=>[I64 n]),.csl false 1 (ar.map fun n=>[I64 n]),.csl false 11 (cySL false bd)])]) (rows:=(mkR 1 w w)) (tl:=[(1,.c (.ptr 0 0)),(4,.c (.isl 1 (L.map fun a=>[isB a]))),(6,.c (.msl 1000 1 0 w)),(45,DI .i64 (1+(w:Nat) * (w:Nat)))]) some hml hw14 rfl ?_ (by decide) ?_ ?_ ?_ ?_ ?_ ?_ (by omega)) ?_
   ·simp
   ·simp [TmOK,DM,CM,hOf,upd,setT,tOf,renD,renC]
   ·simp [HpOK,(rowsUp (K:=1000) (B:=2000) (w:=w) hml (by omega)).2.2,hOf,upd,CMs,CM]
   ·exact (rowsUp hml (by omega)).1
   ·exact (rowsUp hml (by omega)).2.1
   ·simp
   ·simp
   simp only [List.cons_append,List.nil_append]
   iterate 4 ((try (refine drvZ Try.func3 ?_;simp only [go_sem]));((with_reducible and_intros)<;>try exact sd))
   refine XK.callG (ksR 1000 2000 w) hhb ok13 (hhR hml (slots_K (A:=[(0,some [.csl false 1 (vs.map fun n=>[I64 n]),.csl false 1 (ar.map fun n=>[I64 n]),.csl false 11 (cySL false bd)])]) (K:=1000) (B:=2000) (L:=(mkR 1 w w).map boolsC) (by simp)) (slots_row (A:=[(0,some [.csl false 1 (vs.map fun n=>[I64 n]),.csl false 1 (ar.map fun n=>[I64 n]),.csl false 11 (cySL false bd)])]) (K:=1000) (B:=2000) (rows:=(mkR 1 w w)) (by simp) (by omega) (by rw [hml];exact hw14))) (hbT ()) (fun d h' ⟨_,e⟩=>by subst e;simp [hB,mkR_len,hLl]) ?_ (hks:=by simp [ksR_len,hB,hml]) (hnd:=ksR_nd (by omega))
   rintro _ _ ⟨rfl,rfl⟩ _
   refine XK.subQ (mq_slots (K:=1000) (B:=2000) (K':=1000) (B':=2000) (n:=w) (w:=w) (A:=[(0,some [.csl false 1 (vs.map fun n=>[I64 n]),.csl false 1 (ar.map fun n=>[I64 n]),.csl false 11 (cySL false bd)])]) (rows:=(mkR 1 w w)) (tl:=[(1,.c (.ptr 0 0)),(4,.c (.isl 1 (L.map fun a=>[isB a]))),(6,.c (.msl 1000 1 0 w)),(8,DI .i64 (1+(w:Nat) * (w:Nat))),(48,DI .i64 (1+(w:Nat) * (w:Nat)))]) some hml hw14 rfl ?_ (by decide) ?_ ?_ ?_ ?_ ?_ ?_ (by omega)) ?_
   ·simp
   ·simp [TmOK,DM,CM,hOf,upd,setT,tOf,renD,renC]
   ·simp [HpOK,(rowsUp (K:=1000) (B:=2000) (w:=w) hml (by omega)).2.2,hOf,upd,CMs,CM]
   ·exact (rowsUp hml (by omega)).1
   ·exact (rowsUp hml (by omega)).2.1
   ·simp
   ·simp
   simp only [List.cons_append,List.nil_append]
   iterate 12 ((try (refine drvZ Try.func3 ?_;simp only [go_sem,hq0,bne_self_eq_false]));((with_reducible and_intros)<;>try exact sd);(try first | refine XK.p c1 ok7 ?_ | refine XK.gp c1 ok7 ?_ | refine XK.p hi2 ok8 ?_ | refine XK.gp hi2 ok8 ?_ | refine XK.p heq2 ok9 ?_ | refine XK.gp heq2 ok9 ?_))
   refine XK.callG (ksR 1000 2000 w) hhb ok13 (hhR hml (slots_K (A:=[(0,some [.csl false 1 (vs.map fun n=>[I64 n]),.csl false 1 (ar.map fun n=>[I64 n]),.csl false 11 (cySL false bd)])]) (K:=1000) (B:=2000) (L:=(mkR 1 w w).map boolsC) (by simp)) (slots_row (A:=[(0,some [.csl false 1 (vs.map fun n=>[I64 n]),.csl false 1 (ar.map fun n=>[I64 n]),.csl false 11 (cySL false bd)])]) (K:=1000) (B:=2000) (rows:=(mkR 1 w w)) (by simp) (by omega) (by rw [hml];exact hw14))) (hbT ()) (fun d h' ⟨_,e⟩=>by subst e;simp [hB,mkR_len,hLl]) ?_ (hks:=by simp [ksR_len,hB,hml]) (hnd:=ksR_nd (by omega))
   rintro _ _ ⟨rfl,rfl⟩ _
   iterate 5 ((try (refine drvZ Try.func3 ?_;simp only [go_sem,hq0,bne_self_eq_false]));((with_reducible and_intros)<;>try exact sd))
   exact ret _
  | false =>
   have nv:=np.nv
   have nar:=np.na
   have hs:=(dependsOnS0G p (sownPN p np) (by omega) (by omega) (by omega) hok).er (.cons (.agg (cyP_co true p)) .nil)
   have hi:=(dependsOnI0 p (by omega) (by omega) hok).er (.cons (.agg (cyP_co true p)) .nil)
   have hmk:=markP1 p np (by omega)
   have hyt:=cyP_yt p
   have heq:=eqBoolSST [] (by simp) (by simp)
   have hmb:=markBoolSSN
   have hhb:=heldBoolSSP 1 0 0 (by omega) (by omega) (by omega) (by omega)
   have e1':(mkR 1 0 0).map (fun a=>[isB a])=[]:=rfl
   have e2':((1:Int)+((0:Nat):Int) * ((0:Nat):Int))=1:=rfl
   simp only [e1',e2',List.map_nil] at heq hhb
   generalize szP p=s1 at *
   obtain ⟨vs,ar,bd⟩:=p
   simp only [cyP,cyI] at hyt c1 e1 hs hi z1 ⊢
   simp only [go_sem]
   iterate 16 ((try (refine drvZ Try.func3 ?_;simp only [go_sem,g1]));((with_reducible and_intros)<;>try exact sd);(try first | refine XK.p z1 ok5 ?_ | refine XK.gp z1 ok5 ?_ | refine XK.p c1 ok7 ?_ | refine XK.gp c1 ok7 ?_ | refine XK.p hs ok6 ?_ | refine XK.gp hs ok6 ?_ | refine XK.p hi ok8 ?_ | refine XK.gp hi ok8 ?_ | refine XK.p heq ok9 ?_ | refine XK.gp heq ok9 ?_ | refine XK.p e1 ok10 ?_ | refine XK.gp e1 ok10 ?_))
   refine XK.mark [(1, .c (.ptr 0 0)), (4, .c (.isl 1 [])), (6, .c (.isl 1 []))] [(0, some [.csl false 1 (vs.map fun n => [I64 n]), .csl false 1 (ar.map fun n => [I64 n]), .csl false 11 (cySL false bd)])] hmk ok11 (.cons (.agg hyt) (.cons (.c (.v _)) .nil))
    (HL.cons rfl (.od (cyP_od ⟨vs,ar,bd⟩)) HL.nil) (ML.cons rfl (.c (.od (.ptr _ _ (by simp [hOf,upd])))) (ML.cons rfl (.c (.od (.nil _))) (ML.cons rfl (.c (.od (.nil _))) ML.nil))) ?_
   rintro n ⟨hn0,hn1⟩
   have hn2:(n<0)=False:=eq_false (by omega)
   iterate 30 ((try (refine drvZ Try.func3 ?_;simp only [go_sem,hn2,Int.reduceLT,bne_self_eq_false]));((with_reducible and_intros)<;>try exact sd);(try first | refine XK.p c1 ok7 ?_ | refine XK.gp c1 ok7 ?_ | refine XK.p hi ok8 ?_ | refine XK.gp hi ok8 ?_ | refine XK.p heq ok9 ?_ | refine XK.gp heq ok9 ?_ | refine XK.p hmb ok12 ?_ | refine XK.gp hmb ok12 ?_ | refine XK.p hhb ok13 ?_ | refine XK.gp hhb ok13 ?_))
   exact ret _
 ·rw [subZ,if_neg q1] at z1
  obtain ⟨vs,ar,bd⟩:=p
  simp only [cyP,cyI] at *
  simp only [go_sem]
  iterate 4 ((try (refine drvZ Try.func3 ?_;simp only [go_sem]));((with_reducible and_intros)<;>try exact sd);(try first | refine XK.p z1 ok5 ?_ | refine XK.gp z1 ok5 ?_))
  exact ret _
end Go.Proofs.Ytbknljofedfpjaa.CtD
