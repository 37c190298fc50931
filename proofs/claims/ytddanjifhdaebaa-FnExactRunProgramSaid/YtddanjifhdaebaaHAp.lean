/- Contracts of functions of the program, one behind the other, as plain data: what each call returns and which blocks it leaves. -/
import Derived.Test.YtddanjifhdaebaaHFacts
import Derived.Test.YtddanjifhdaebaaHAi
import Derived.Test.YtddanjifhdaebaaHAl
import Derived.Test.YtddanjifhdaebaaHAm
import Derived.Test.YtddanjifhdaebaaHAn
import Derived.Test.YtddanjifhdaebaaHAo
set_option linter.unusedVariables false
set_option linter.unusedSimpArgs false
set_option linter.unusedSectionVars false
set_option maxHeartbeats 16000000
set_option maxRecDepth 100000
namespace Go.Proofs.Ytddanjifhdaebaa.CtR
open Go Go.CT CtF
variable [Yn]
theorem evalS2 (p : Pg) (m : Mm) (hm : MemFits p m) (e : Ex) (tr : List Ev) (hr : right p e = true) (htr : tr.length + 15 ≤ 1073741824) : DC Try.prog 164 [.agg [.msl 0 1 0 p.vars.length, .msl 1 1 0 p.arrays.length], .agg e.cells, .c (.msl 4 2 0 tr.length)]
 [some (m.vals.map I64),some (hdr 2 3 p.arrays.length),some (blk0 m.arrays),some (blk1 m.arrays),some (trC tr)]
 (fun r h=>r = .tup [DI .i64 (evalE m 5 e).1,.c (.msl 5 2 0 (tr++(evalE m 5 e).2).length)]∧h=[some (m.vals.map I64),some (hdr 2 3 p.arrays.length),some (blk0 m.arrays),some (blk1 m.arrays),none,some (trC (tr++(evalE m 5 e).2))]):=by
 have hs:=right_shape hr
 have h:=evalS p m hm 5 e tr hs.1 (by omega)
 unfold evalR at h
 rw [hm.nv,hm.na] at h
 exact h
theorem evalS0 (p : Pg) (m : Mm) (hm : MemFits p m) (e : Ex) (hr : right p e = true) : DC Try.prog 164 [.agg [.msl 0 1 0 p.vars.length, .msl 1 1 0 p.arrays.length], .agg e.cells, .c (.v (.slice none 0 0))]
 [some (m.vals.map I64),some (hdr 2 3 p.arrays.length),some (blk0 m.arrays),some (blk1 m.arrays)]
 (fun r h=>r = .tup [DI .i64 (evalE m 5 e).1,.c (.msl 5 2 0 ([]++(evalE m 5 e).2).length)]∧h=[some (m.vals.map I64),some (hdr 2 3 p.arrays.length),some (blk0 m.arrays),some (blk1 m.arrays),none,some (trC ([]++(evalE m 5 e).2))]) :=
 DC.nilLast (pre:=[.agg [.msl 0 1 0 p.vars.length,.msl 1 1 0 p.arrays.length],.agg e.cells]) (sz:=2) (evalS2 p m hm e [] hr (by simp))
theorem map_setV (m:Mm) (t x:Int):(setV m t x).vals.map I64=(m.vals.map I64).set t.toNat (.v (.int .i64 x)):=by
 unfold setV;exact List.map_set
theorem blk0_set0 (m:Mm) (i x:Int) (h:0<m.arrays.length):blk0 (setA m 0 i x).arrays=(blk0 m.arrays).set i.toNat (.v (.int .i64 x)):=by
 have e:m.arrays[0]? = some (arrAt m 0):=(arrAt_mem (m:=m) (v:=0) (by omega) (by omega)).1
 unfold blk0 setA
 simp only [Int.toNat_zero,List.getElem?_set_self h,Option.getD_some,e]
 exact List.map_set
theorem blk1_set0 (m:Mm) (i x:Int):blk1 (setA m 0 i x).arrays=blk1 m.arrays:=by
 unfold blk1 setA
 simp only [Int.toNat_zero]
 rw [List.getElem?_set_ne (by decide)]
theorem blk1_set1 (m:Mm) (i x:Int) (h:1<m.arrays.length):blk1 (setA m 1 i x).arrays=(blk1 m.arrays).set i.toNat (.v (.int .i64 x)):=by
 have e:m.arrays[1]? = some (arrAt m 1):=(arrAt_mem (m:=m) (v:=1) (by omega) (by omega)).1
 unfold blk1 setA
 simp only [show (1:Int).toNat=1 from rfl,List.getElem?_set_self h,Option.getD_some,e]
 exact List.map_set
theorem blk0_set1 (m:Mm) (i x:Int):blk0 (setA m 1 i x).arrays=blk0 m.arrays:=by
 unfold blk0 setA
 simp only [show (1:Int).toNat=1 from rfl]
 rw [List.getElem?_set_ne (by decide)]
theorem mqRun {S : Ms} {p : Pg} {l : List St1} {M : Mm} {T : List Ev} {i kt n : Nat} {cs c0 c2 c3 : List C} (t2 : S.tm 2 = some (.c (.msl kt 2 0 n))) (t1 : S.tm 1 = some (.c (.isl 11 (St1.cellsL l)))) (t3 : S.tm 3 = some (.c (.ptr 5 0))) (t7 : S.tm 7 = some (DI .i64 i))
 (h0:S.hp 0=some (some c0)) (h1:S.hp 1=some (some (hdr 2 3 p.arrays.length))) (h2:S.hp 2=some (some c2)) (h3:S.hp 3=some (some c3)) (h5:S.hp 5=some (some [.msl 0 1 0 p.vars.length,.msl 1 1 0 p.arrays.length])) (hk:S.hp kt=some (some cs))
 (hkt:6≤kt) (e0:c0=M.vals.map I64) (e2:c2=blk0 M.arrays) (e3:c3=blk1 M.arrays) (hcs:cs=trC T) (hn:n=T.length) :
 Mq 5 (fun j => if j = 20 then some kt else some j) [] [(1, .c (.isl 11 (St1.cellsL l))), (2, .c (.msl 20 2 0 T.length)), (3, .c (.ptr 5 0)), (7, DI .i64 i)]
  [(0,some (M.vals.map I64)),(1,some (hdr 2 3 p.arrays.length)),(2,some (blk0 M.arrays)),(3,some (blk1 M.arrays)),(4,none),(5,some [.msl 0 1 0 p.vars.length,.msl 1 1 0 p.arrays.length]),(20,some (trC T))] S:=by
 subst hcs hn e0 e2 e3
 simp [Mq,TmOK,t1,t2,t3,t7,h0,h1,h2,h3,h5,hk,DM,CM,CMs,HpOK,LowOK,hOf,upd,CMs_I,CMs_tr,CMs_hdr,CMs_b0,CMs_b1]
 omega
theorem mqRep {S : Ms} {p : Pg} {l : List St1} {M : Mm} {T : List Ev} {i j0 kt ks n : Nat} {cs c0 c2 c3 ss : List C} (hss : ∀ c ∈ ss, kf c = true) (t2 : S.tm 2 = some (.c (.msl kt 2 0 n))) (t8 : S.tm 8 = some (.c (.ptr ks 0))) (t1 : S.tm 1 = some (.c (.isl 11 (St1.cellsL l)))) (t3 : S.tm 3 = some (.c (.ptr 5 0))) (t7 : S.tm 7 = some (DI .i64 i)) (t12 : S.tm 12 = some (DI .i64 j0))
 (h0:S.hp 0=some (some c0)) (h1:S.hp 1=some (some (hdr 2 3 p.arrays.length))) (h2:S.hp 2=some (some c2)) (h3:S.hp 3=some (some c3)) (h5:S.hp 5=some (some [.msl 0 1 0 p.vars.length,.msl 1 1 0 p.arrays.length])) (hk:S.hp kt=some (some cs)) (hs:S.hp ks=some (some ss))
 (hkt:6≤kt∧6≤ks∧kt ≠ ks) (e0:c0=M.vals.map I64) (e2:c2=blk0 M.arrays) (e3:c3=blk1 M.arrays) (hcs:cs=trC T) (hn:n=T.length) :
 Mq 5 (fun j => if j = 20 then some kt else if j = 22 then some ks else some j) [] [(1, .c (.isl 11 (St1.cellsL l))), (2, .c (.msl 20 2 0 T.length)), (3, .c (.ptr 5 0)), (7, DI .i64 i), (8, .c (.ptr 22 0)), (12, DI .i64 j0)]
  [(0,some (M.vals.map I64)),(1,some (hdr 2 3 p.arrays.length)),(2,some (blk0 M.arrays)),(3,some (blk1 M.arrays)),(4,none),(5,some [.msl 0 1 0 p.vars.length,.msl 1 1 0 p.arrays.length]),(20,some (trC T)),(22,some ss)] S:=by
 subst hcs hn e0 e2 e3
 have:=@CMs.kf _ (hOf [(0,some (M.vals.map I64)),(1,some (hdr 2 3 p.arrays.length)),(2,some (blk0 M.arrays)),(3,some (blk1 M.arrays)),(4,none),(5,some [.msl 0 1 0 p.vars.length,.msl 1 1 0 p.arrays.length]),(20,some (trC T)),(22,some ss)]) S.hp (fun j=>if j=20 then some kt else if j=22 then some ks else some j) [] ss hss
 refine ⟨?_,⟨?_,?_,?_,?_,?_,?_,?_,?_,?_⟩,?_,?_⟩
 all_goals simp [TmOK,t1,t2,t3,t7,t8,t12,h0,h1,h2,h3,h5,hk,hs,DM,CM,CMs,HpOK,LowOK,hOf,upd,CMs_I,CMs_tr,CMs_hdr,CMs_b0,CMs_b1]
 ·exact CMs.kf hss
 ·omega
theorem cells_kf (k t:Int) (ik iv:Int) (iks:List Ex) (vk vv:Int) (vks:List Ex) (c:Int) (b e:List St1):∀ x ∈ St1.cells (.mk k t (.mk ik iv iks) (.mk vk vv vks) c b e),kf x=true:=by
 simp [St1.cells,Ex.cells,kf]
theorem hhp4 {hp : Hp} {r : Nat → Nat} {k0 k1 k2 k3 : Nat} {h0 h1 h2 h3 : Option (List C)} (e0 : hp k0 = some (h0.map (renCs r))) (e1 : hp k1 = some (h1.map (renCs r))) (e2 : hp k2 = some (h2.map (renCs r))) (e3 : hp k3 = some (h3.map (renCs r))) :
 ∀ i' x,[h0,h1,h2,h3][i']? = some x→hp ([k0,k1,k2,k3].getD i' 0)=some (x.map (renCs r)):=by
 intro i' x hx
 match i',hx with
 | 0,hx=>simp only [List.getElem?_cons_zero,Option.some.injEq] at hx;subst hx;exact e0
 | 1,hx=>simp only [List.getElem?_cons_succ,List.getElem?_cons_zero,Option.some.injEq] at hx;subst hx;exact e1
 | 2,hx=>simp only [List.getElem?_cons_succ,List.getElem?_cons_zero,Option.some.injEq] at hx;subst hx;exact e2
 | 3,hx=>simp only [List.getElem?_cons_succ,List.getElem?_cons_zero,Option.some.injEq] at hx;subst hx;exact e3
 | i' + 4,hx=>simp at hx
def runR (p:Pg) (d:Nat) (m:Mm) (l:List St1) (tr:List Ev) (r:D) (h:List (Option (List C))):Prop :=
 r = .c (.msl 5 2 0 (tr++(runL d m l).2).length)∧h=[some ((runL d m l).1.vals.map I64),some (hdr 2 3 p.arrays.length),some (blk0 (runL d m l).1.arrays),some (blk1 (runL d m l).1.arrays),none,some (trC (tr++(runL d m l).2))]
theorem runOf (p : Pg) (d : Nat)
 (ih : ∀ d', d = d' + 1 → ∀ (m : Mm) (l : List St1) (tr : List Ev), MemFits p m → (∀ s ∈ l, stmtOK p d' s = true) → tr.length + wt d' * lsize d' l ≤ 1073741824 → DC Try.prog 117 [.agg [.msl 0 1 0 p.vars.length, .msl 1 1 0 p.arrays.length], .c (.isl 11 (St1.cellsL l)), .c (.msl 4 2 0 tr.length)]
  [some (m.vals.map I64),some (hdr 2 3 p.arrays.length),some (blk0 m.arrays),some (blk1 m.arrays),some (trC tr)] (runR p d' m l tr))
 (m : Mm) (l : List St1) (tr : List Ev) (hm : MemFits p m) (hok : ∀ s ∈ l, stmtOK p d s = true) (htr : tr.length + wt d * lsize d l ≤ 1073741824) : DC Try.prog 117 [.agg [.msl 0 1 0 p.vars.length, .msl 1 1 0 p.arrays.length], .c (.isl 11 (St1.cellsL l)), .c (.msl 4 2 0 tr.length)]
  [some (m.vals.map I64),some (hdr 2 3 p.arrays.length),some (blk0 m.arrays),some (blk1 m.arrays),some (trC tr)] (runR p d m l tr):=by
 have hmx:=mx_eq
 have ret:∀ (kt n:Nat) (cs:List C) (tr':List Ev) (hp:Hp),tr'=tr++(runL d m l).2→hp 0=some (some ((runL d m l).1.vals.map I64))→hp 1=some (some (hdr 2 3 p.arrays.length))→hp 2=some (some (blk0 (runL d m l).1.arrays))→hp 3=some (some (blk1 (runL d m l).1.arrays)) →
  hp kt=some (some cs)→4≤kt→cs=trC tr'→n=tr'.length→RetOb 5 (runR p d m l tr) (.c (.msl kt 2 0 n)) hp:=by
  rintro kt n cs tr' hp rfl h0 h1 h2 h3 h4 hkt rfl rfl
  refine RetOb.ofQ (fun j=>if j=5 then some kt else some j) [] (.c (.msl 5 2 0 _)) [some ((runL d m l).1.vals.map I64),some (hdr 2 3 p.arrays.length),some (blk0 (runL d m l).1.arrays),some (blk1 (runL d m l).1.arrays),none,some (trC (tr++(runL d m l).2))] ?_ ⟨rfl,rfl⟩ (by simp)
  simp [enumL,hOf,DM,DMs,CM,CMs,HpOK,LowOK,upd,CMs_I,CMs_tr,CMs_hdr,CMs_b0,CMs_b1,h0,h1,h2,h3,h4]
  omega
 refine dc_of_go Try.func117 rfl (by simp) ?_
 refine drv_sound (n:=14) (rs:=_) Try.func117 mo rfl none _ _ ?_
 simp only [go_sem]
 refine drv_sound (n:=100) (rs:=_) Try.func117 mo rfl _ _ _ ?_
 simp only [go_sem]
 refine Go.loopQ (fun i : Nat => [(1, .c (.isl 11 (St1.cellsL l))), (2, .c (.msl 20 2 0 (tr ++ (runL d m (l.take i)).2).length)), (3, .c (.ptr 5 0)), (7, DI .i64 i)])
  (fun i=>[(0,some ((runL d m (l.take i)).1.vals.map I64)),(1,some (hdr 2 3 p.arrays.length)),(2,some (blk0 (runL d m (l.take i)).1.arrays)),(3,some (blk1 (runL d m (l.take i)).1.arrays)),(4,none),(5,some [.msl 0 1 0 p.vars.length,.msl 1 1 0 p.arrays.length]),(20,some (trC (tr++(runL d m (l.take i)).2)))])
  4096 (fun i=>i≤l.length) (fun i=>l.length - i) ?_ 0 (fun j=>if j=20 then some 4 else some j) [] _ (Nat.zero_le _) ?_
 ·intro i hi again
  have hmi:=(runL_ok (l:=l.take i) hm (fun s hs=>hok s (List.mem_of_mem_take hs))).1
  have hbi:=(runL_ok (l:=l.take i) hm (fun s hs=>hok s (List.mem_of_mem_take hs))).2
  rcases Nat.lt_or_ge i l.length with hlt | hge
  ·obtain ⟨⟨k,t,⟨ik,iv,iks⟩,⟨vk,vv,vks⟩,c,b,e⟩,hx⟩:∃ x,l[i]? = some x:=⟨l[i],by simp [hlt]⟩
   have hmem:=List.mem_of_getElem? hx
   have hsk:=hok _ hmem
   have hsucc:=runL_succ d m l i _ hx
   have hlen:(runL d m (l.take i)).2.length+wt d * tsize d (.mk k t (.mk ik iv iks) (.mk vk vv vks) c b e)≤wt d * lsize d l:=by
    have g2:=tsum_succ (tsize d) l i _ hx
    have g3:=tsum_le (tsize d) l (i+1)
    unfold tsum at g2 g3
    have g4:lsize d (l.take i)+tsize d (.mk k t (.mk ik iv iks) (.mk vk vv vks) c b e)≤lsize d l:=by unfold lsize;omega
    have g5:=Nat.mul_le_mul_left (wt d) g4
    rw [Nat.mul_add] at g5
    omega
   generalize hmm:(runL d m (l.take i)).1=mi at *
   generalize htt:tr++(runL d m (l.take i)).2=ti at *
   have hn1:(runL d m (l.take (i+1))).1=(runS d mi (.mk k t (.mk ik iv iks) (.mk vk vv vks) c b e)).1:=by rw [hsucc]
   have hn2:tr++(runL d m (l.take (i+1))).2=ti++(runS d mi (.mk k t (.mk ik iv iks) (.mk vk vv vks) c b e)).2:=by rw [hsucc,← htt,List.append_assoc]
   have htl:ti.length+wt d * tsize d (.mk k t (.mk ik iv iks) (.mk vk vv vks) c b e)≤1073741824:=by rw [← htt,List.length_append];omega
   obtain ⟨d',rfl⟩:∃ d',d=d' + 1:=by
    cases d with
    | zero=>simp [stmtOK] at hsk
    | succ d'=>exact ⟨d',rfl⟩
   have ih:=ih d' rfl
   have hil:=len_le_lsize (d:=d') l
   have hwl:lsize (d' + 1) l≤wt (d' + 1) * lsize (d' + 1) l:=Nat.le_mul_of_pos_left _ (by unfold wt;have:0<3 ^ (d' + 1):=Nat.pow_pos (by decide);omega)
   obtain ⟨hh,hb,he⟩:=stmtOK_succ hsk
   rcases head_kind hh with ⟨hk,ht0,ht1,hr⟩ | ⟨hk,ht0,ht1,hri,hai,hr⟩ | ⟨hk,hr⟩ | ⟨hk,hc1,hc3⟩
   ·have htv:t<mi.vals.length:=by rw [hmi.nv];exact ht1
    have hs:=right_shape hr
    have he1:=evalE_range hmi 5 (.mk vk vv vks) hs.1
    have he2:=evalE_len (m:=mi) 5 (.mk vk vv vks) hs.1
    rcases hk with hk | hk
    ·subst hk
     have hw1:20≤wt (d' + 1) * tsize (d' + 1) (.mk 1 t (.mk ik iv iks) (.mk vk vv vks) c b e):=by
      have g1:=tsize_pos (d:=d') (.mk 1 t (.mk ik iv iks) (.mk vk vv vks) c b e)
      have g2:20≤wt (d' + 1):=by unfold wt;have:0<3 ^ (d' + 1):=Nat.pow_pos (by decide);omega
      have g3:=Nat.mul_le_mul g2 g1
      omega
     have hrun:runS (d' + 1) mi (.mk 1 t (.mk ik iv iks) (.mk vk vv vks) c b e)=(setV mi t (evalE mi 5 (.mk vk vv vks)).1,(evalE mi 5 (.mk vk vv vks)).2):=rfl
     rw [hrun] at hn1 hn2
     refine drvL Try.func117 ?_
     simp only [go_sem,hx,hlt,renCs_I,renCs_hdr,renCs_b0,renCs_b1,renCs_tr]
     iterate 3 (try (refine drvZ Try.func117 ?_;simp only [go_sem,hx,hlt,renCs_I,renCs_hdr,renCs_b0,renCs_b1,renCs_tr]))
     refine XK.callG [0,1,2,3,20] (evalS2 p mi hmi (.mk vk vv vks) ti hr (by omega)) ok164 (hhp5 (by simp [hOf,upd,renCs_I]) (by simp [hOf,upd,renCs_hdr,rk0]) (by simp [hOf,upd,renCs_b0]) (by simp [hOf,upd,renCs_b1]) (by simp [hOf,upd,renCs_tr])) (hbT ()) (fun d h' ⟨_,e⟩=>by subst e;simp) ?_
     rintro _ _ ⟨rfl,rfl⟩ _
     iterate 4 (try (refine drvZ Try.func117 ?_;simp only [go_sem,hx,hlt,renCs_I,renCs_hdr,renCs_b0,renCs_b1,renCs_tr,map_setV]))
     refine ⟨⟨ht0,ht1⟩,by omega,by simp only [InK];omega,?_⟩
     have ag:=again (i+1)
     simp only [hn1,hn2] at ag
     exact ag _ [] _ hlt (by omega) (mqRun rfl rfl rfl rfl rfl rfl rfl rfl rfl rfl (by decide) (map_setV _ _ _).symm rfl rfl rfl rfl)
    ·subst hk
     have hw1:20≤wt (d' + 1) * tsize (d' + 1) (.mk 5 t (.mk ik iv iks) (.mk vk vv vks) c b e):=by
      have g1:=tsize_pos (d:=d') (.mk 5 t (.mk ik iv iks) (.mk vk vv vks) c b e)
      have g2:20≤wt (d' + 1):=by unfold wt;have:0<3 ^ (d' + 1):=Nat.pow_pos (by decide);omega
      have g3:=Nat.mul_le_mul g2 g1
      omega
     have hrun:runS (d' + 1) mi (.mk 5 t (.mk ik iv iks) (.mk vk vv vks) c b e)=(setV mi t (evalE mi 5 (.mk vk vv vks)).1,(evalE mi 5 (.mk vk vv vks)).2++[⟨4,(evalE mi 5 (.mk vk vv vks)).1⟩]):=rfl
     rw [hrun] at hn1 hn2
     refine drvL Try.func117 ?_
     simp only [go_sem,hx,hlt,renCs_I,renCs_hdr,renCs_b0,renCs_b1,renCs_tr]
     iterate 3 (try (refine drvZ Try.func117 ?_;simp only [go_sem,hx,hlt,renCs_I,renCs_hdr,renCs_b0,renCs_b1,renCs_tr]))
     refine XK.callG [0,1,2,3,20] (evalS2 p mi hmi (.mk vk vv vks) ti hr (by omega)) ok164 (hhp5 (by simp [hOf,upd,renCs_I]) (by simp [hOf,upd,renCs_hdr,rk0]) (by simp [hOf,upd,renCs_b0]) (by simp [hOf,upd,renCs_b1]) (by simp [hOf,upd,renCs_tr])) (hbT ()) (fun d h' ⟨_,e⟩=>by subst e;simp) ?_
     rintro _ _ ⟨rfl,rfl⟩ _
     iterate 4 (try (refine drvZ Try.func117 ?_;simp only [go_sem,hx,hlt,renCs_I,renCs_hdr,renCs_b0,renCs_b1,renCs_tr,map_setV]))
     refine ⟨⟨ht0,ht1⟩,by omega,?_⟩
     have htl2:=trC_len (ti++(evalE mi 5 (.mk vk vv vks)).2)
     have hll:(ti++(evalE mi 5 (.mk vk vv vks)).2).length=ti.length+(evalE mi 5 (.mk vk vv vks)).2.length:=List.length_append
     iterate 3 (try (refine drvZ Try.func117 ?_;simp only [go_sem,hx,hlt,renCs_I,renCs_hdr,renCs_b0,renCs_b1,renCs_tr]))
     (with_reducible and_intros)<;>try exact sd
     iterate 2 (try (refine drvZ Try.func117 ?_;simp only [go_sem,hx,hlt,renCs_I,renCs_hdr,renCs_b0,renCs_b1,renCs_tr]))
     (with_reducible and_intros)<;>try exact sd
     have ag:=again (i+1)
     simp only [hn1,hn2] at ag
     exact ag _ [] _ hlt (by omega) (mqRun rfl rfl rfl rfl rfl rfl rfl rfl rfl rfl (by decide) (map_setV _ _ _).symm rfl rfl (by rw [← List.append_assoc];exact (trC_snoc _ ⟨4,_⟩).symm) (by simp;omega))
   ·subst hk
    have htv:t<mi.arrays.length:=by rw [hmi.na];exact ht1
    have hs:=right_shape hr
    have he1:=evalE_range hmi 5 (.mk vk vv vks) hs.1
    have he2:=evalE_len (m:=mi) 5 (.mk vk vv vks) hs.1
    have htl2:=trC_len (ti++(evalE mi 5 (.mk vk vv vks)).2)
    have hll:(ti++(evalE mi 5 (.mk vk vv vks)).2).length=ti.length+(evalE mi 5 (.mk vk vv vks)).2.length:=List.length_append
    have hw1:20≤wt (d' + 1) * tsize (d' + 1) (.mk 2 t (.mk ik iv iks) (.mk vk vv vks) c b e):=by
     have g1:=tsize_pos (d:=d') (.mk 2 t (.mk ik iv iks) (.mk vk vv vks) c b e)
     have g2:20≤wt (d' + 1):=by unfold wt;have:0<3 ^ (d' + 1):=Nat.pow_pos (by decide);omega
     have g3:=Nat.mul_le_mul g2 g1
     omega
    have hsi:=right_shape hri
    have hi1:=evalE_range hmi 5 (.mk ik iv iks) hsi.1
    refine drvL Try.func117 ?_
    simp only [go_sem,hx,hlt,renCs_I,renCs_hdr,renCs_b0,renCs_b1,renCs_tr]
    iterate 3 (try (refine drvZ Try.func117 ?_;simp only [go_sem,hx,hlt,renCs_I,renCs_hdr,renCs_b0,renCs_b1,renCs_tr]))
    refine XK.callG [0,1,2,3,20] (evalS2 p mi hmi (.mk vk vv vks) ti hr (by omega)) ok164 (hhp5 (by simp [hOf,upd,renCs_I]) (by simp [hOf,upd,renCs_hdr,rk0]) (by simp [hOf,upd,renCs_b0]) (by simp [hOf,upd,renCs_b1]) (by simp [hOf,upd,renCs_tr])) (hbT ()) (fun d h' ⟨_,e⟩=>by subst e;simp) ?_
    rintro _ _ ⟨rfl,rfl⟩ _
    iterate 4 (try (refine drvZ Try.func117 ?_;simp only [go_sem,hx,hlt,renCs_I,renCs_hdr,renCs_b0,renCs_b1,renCs_tr]))
    refine XK.callG [0,1,2,3] (evalS0 p mi hmi (.mk ik iv iks) hri) ok164 (hhp4 (by simp [hOf,upd,renCs_I]) (by simp [hOf,upd,renCs_hdr,rk0]) (by simp [hOf,upd,renCs_b0]) (by simp [hOf,upd,renCs_b1])) (hbT ()) (fun d h' ⟨_,e⟩=>by subst e;simp) ?_
    rintro _ _ ⟨rfl,rfl⟩ _
    have hv2:t=0∨t=1:=by have:=hmi.na2;omega
    rcases hv2 with hv2 | hv2
    ·subst hv2
     have hnap:0<mi.arrays.length:=by omega
     have hh:(hdr 2 3 p.arrays.length)[0]? = some (.msl 2 1 0 4):=by
      rw [← hmi.na];unfold hdr;match mi.arrays.length,hnap with | n+1,_=>rfl
     have h4:=(hmi.arr _ (arrAt_mem (m:=mi) (v:=0) (by omega) (by omega)).2).1
     have hbl:(blk0 mi.arrays).length=4:=by
      have e:mi.arrays[0]? = some (arrAt mi 0):=(arrAt_mem (m:=mi) (v:=0) (by omega) (by omega)).1
      unfold blk0;rw [e,Option.getD_some,List.length_map,h4]
     have hx1:=Int.emod_nonneg (evalE mi 5 (.mk ik iv iks)).1 (show (4:Int) ≠ 0 by decide)
     have hx2:=Int.emod_lt_of_pos (evalE mi 5 (.mk ik iv iks)).1 (show (0:Int)<4 by decide)
     have hrun:runS (d' + 1) mi (.mk 2 0 (.mk ik iv iks) (.mk vk vv vks) c b e)=(setA mi 0 ((evalE mi 5 (.mk ik iv iks)).1 % 4) (evalE mi 5 (.mk vk vv vks)).1,(evalE mi 5 (.mk vk vv vks)).2++[⟨3,0 * 4+(evalE mi 5 (.mk ik iv iks)).1 % 4⟩]):=rfl
     rw [hrun] at hn1 hn2
     iterate 3 (try (refine drvZ Try.func117 ?_;simp only [go_sem,hx,hlt,renCs_I,renCs_hdr,renCs_b0,renCs_b1,renCs_tr,hh,hbl]))
     (with_reducible and_intros)<;>try exact sd
     iterate 2 (try (refine drvZ Try.func117 ?_;simp only [go_sem,hx,hlt,renCs_I,renCs_hdr,renCs_b0,renCs_b1,renCs_tr,hh,hbl]))
     refine XK.plain (l3Address 0 _ (by omega) hi1) ok165 ?_ (hbT ())
     iterate 3 (try (refine drvZ Try.func117 ?_;simp only [go_sem,hx,hlt,renCs_I,renCs_hdr,renCs_b0,renCs_b1,renCs_tr]))
     (with_reducible and_intros)<;>try exact sd
     iterate 2 (try (refine drvZ Try.func117 ?_;simp only [go_sem,hx,hlt,renCs_I,renCs_hdr,renCs_b0,renCs_b1,renCs_tr]))
     (with_reducible and_intros)<;>try exact sd
     have ag:=again (i+1)
     simp only [hn1,hn2] at ag
     exact ag _ [] _ hlt (by omega) (mqRun rfl rfl rfl rfl rfl rfl rfl rfl rfl rfl (by decide) rfl (blk0_set0 _ _ _ hnap).symm (blk1_set0 _ _ _).symm (by rw [← List.append_assoc,trC_snoc]<;>try simp only [Int.zero_mul,Int.zero_add]) (by simp;omega))
    ·subst hv2
     have hnap:1<mi.arrays.length:=by omega
     have hh:(hdr 2 3 p.arrays.length)[1]? = some (.msl 3 1 0 4):=by
      rw [← hmi.na];unfold hdr;match mi.arrays.length,hnap with | n+2,_=>rfl
     have h4:=(hmi.arr _ (arrAt_mem (m:=mi) (v:=1) (by omega) (by omega)).2).1
     have hbl:(blk1 mi.arrays).length=4:=by
      have e:mi.arrays[1]? = some (arrAt mi 1):=(arrAt_mem (m:=mi) (v:=1) (by omega) (by omega)).1
      unfold blk1;rw [e,Option.getD_some,List.length_map,h4]
     have hx1:=Int.emod_nonneg (evalE mi 5 (.mk ik iv iks)).1 (show (4:Int) ≠ 0 by decide)
     have hx2:=Int.emod_lt_of_pos (evalE mi 5 (.mk ik iv iks)).1 (show (0:Int)<4 by decide)
     have hrun:runS (d' + 1) mi (.mk 2 1 (.mk ik iv iks) (.mk vk vv vks) c b e)=(setA mi 1 ((evalE mi 5 (.mk ik iv iks)).1 % 4) (evalE mi 5 (.mk vk vv vks)).1,(evalE mi 5 (.mk vk vv vks)).2++[⟨3,1 * 4+(evalE mi 5 (.mk ik iv iks)).1 % 4⟩]):=rfl
     rw [hrun] at hn1 hn2
     iterate 3 (try (refine drvZ Try.func117 ?_;simp only [go_sem,hx,hlt,renCs_I,renCs_hdr,renCs_b0,renCs_b1,renCs_tr,hh,hbl]))
     (with_reducible and_intros)<;>try exact sd
     iterate 2 (try (refine drvZ Try.func117 ?_;simp only [go_sem,hx,hlt,renCs_I,renCs_hdr,renCs_b0,renCs_b1,renCs_tr,hh,hbl]))
     refine XK.plain (l3Address 1 _ (by omega) hi1) ok165 ?_ (hbT ())
     iterate 3 (try (refine drvZ Try.func117 ?_;simp only [go_sem,hx,hlt,renCs_I,renCs_hdr,renCs_b0,renCs_b1,renCs_tr]))
     (with_reducible and_intros)<;>try exact sd
     iterate 2 (try (refine drvZ Try.func117 ?_;simp only [go_sem,hx,hlt,renCs_I,renCs_hdr,renCs_b0,renCs_b1,renCs_tr]))
     (with_reducible and_intros)<;>try exact sd
     have ag:=again (i+1)
     simp only [hn1,hn2] at ag
     exact ag _ [] _ hlt (by omega) (mqRun rfl rfl rfl rfl rfl rfl rfl rfl rfl rfl (by decide) rfl (blk0_set1 _ _ _).symm (blk1_set1 _ _ _ hnap).symm (by rw [← List.append_assoc,trC_snoc]<;>try simp only [Int.zero_mul,Int.zero_add]) (by simp;omega))
   ·subst hk
    have hs:=right_shape hr
    have he1:=evalE_range hmi 5 (.mk vk vv vks) hs.1
    have he2:=evalE_len (m:=mi) 5 (.mk vk vv vks) hs.1
    have htl2:=trC_len (ti++(evalE mi 5 (.mk vk vv vks)).2)
    have hll:(ti++(evalE mi 5 (.mk vk vv vks)).2).length=ti.length+(evalE mi 5 (.mk vk vv vks)).2.length:=List.length_append
    have hw1:20≤wt (d' + 1) * tsize (d' + 1) (.mk 3 t (.mk ik iv iks) (.mk vk vv vks) c b e):=by
     have g1:=tsize_pos (d:=d') (.mk 3 t (.mk ik iv iks) (.mk vk vv vks) c b e)
     have g2:20≤wt (d' + 1):=by unfold wt;have:0<3 ^ (d' + 1):=Nat.pow_pos (by decide);omega
     have g3:=Nat.mul_le_mul g2 g1
     omega
    refine drvL Try.func117 ?_
    simp only [go_sem,hx,hlt,renCs_I,renCs_hdr,renCs_b0,renCs_b1,renCs_tr]
    iterate 3 (try (refine drvZ Try.func117 ?_;simp only [go_sem,hx,hlt,renCs_I,renCs_hdr,renCs_b0,renCs_b1,renCs_tr]))
    refine XK.callG [0,1,2,3,20] (evalS2 p mi hmi (.mk vk vv vks) ti hr (by omega)) ok164 (hhp5 (by simp [hOf,upd,renCs_I]) (by simp [hOf,upd,renCs_hdr,rk0]) (by simp [hOf,upd,renCs_b0]) (by simp [hOf,upd,renCs_b1]) (by simp [hOf,upd,renCs_tr])) (hbT ()) (fun d h' ⟨_,e⟩=>by subst e;simp) ?_
    rintro _ _ ⟨rfl,rfl⟩ _
    iterate 4 (try (refine drvZ Try.func117 ?_;simp only [go_sem,hx,hlt,renCs_I,renCs_hdr,renCs_b0,renCs_b1,renCs_tr]))
    have hw3:wt (d' + 1)=3 * wt d':=by unfold wt;rw [Nat.pow_succ];omega
    have hw4:20≤wt d':=by unfold wt;have:0<3 ^ d':=Nat.pow_pos (by decide);omega
    have hbig:wt (d' + 1) * tsize (d' + 1) (.mk 3 t (.mk ik iv iks) (.mk vk vv vks) c b e)=3 * wt d' + 3 * (wt d' * lsize d' b)+3 * (wt d' * lsize d' e):=by
     rw [show tsize (d' + 1) (.mk 3 t (.mk ik iv iks) (.mk vk vv vks) c b e)=1+lsize d' b+lsize d' e from rfl,hw3,Nat.mul_add,Nat.mul_add,Nat.mul_assoc,Nat.mul_assoc,Nat.mul_assoc];omega
    refine XK.plain (l3Bool _) ok166 ?_ (hbT ())
    iterate 4 (try (refine drvZ Try.func117 ?_;simp only [go_sem,hx,hlt,renCs_I,renCs_hdr,renCs_b0,renCs_b1,renCs_tr]))
    (with_reducible and_intros)<;>try exact sd
    ·intro h0
     have hrun:runS (d' + 1) mi (.mk 3 t (.mk ik iv iks) (.mk vk vv vks) c b e)=((runL d' mi b).1,(evalE mi 5 (.mk vk vv vks)).2++[⟨1,1⟩]++(runL d' mi b).2):=by
      simp only [runS,show ¬ ((3:Int)=4) by decide,show ¬ ((3:Int)=1) by decide,show ¬ ((3:Int)=5) by decide,show ¬ ((3:Int)=2) by decide,if_false]
      rw [if_pos h0];rfl
     rw [hrun] at hn1 hn2
     have hcs:trC (ti++(evalE mi 5 (.mk vk vv vks)).2)++[.v (.int .i64 1),.v (.int .i64 1)]=trC (ti++(evalE mi 5 (.mk vk vv vks)).2++[⟨1,1⟩]):=(trC_snoc _ ⟨1,1⟩).symm
     have hlen5:(ti++(evalE mi 5 (.mk vk vv vks)).2++[(⟨1,1⟩:Ev)]).length=(ti++(evalE mi 5 (.mk vk vv vks)).2).length+1:=by simp;omega
     iterate 3 (try (refine drvZ Try.func117 ?_;simp only [go_sem,hx,hlt,renCs_I,renCs_hdr,renCs_b0,renCs_b1,renCs_tr,h0]))
     have hLb:(ti++(evalE mi 5 (.mk vk vv vks)).2++[(⟨1,1⟩:Ev)]).length+wt d' * lsize d' b≤1073741824:=by
      rw [hlen5];omega
     rw [hcs,← hlen5]
     refine XK.callG [0,1,2,3,6656] (ih mi b (ti++(evalE mi 5 (.mk vk vv vks)).2++[⟨1,1⟩]) hmi hb hLb) ok117 (hhp5 (by simp [hOf,upd,renCs_I]) (by simp [hOf,upd,renCs_hdr,rk0]) (by simp [hOf,upd,renCs_b0]) (by simp [hOf,upd,renCs_b1]) (by simp [hOf,upd,renCs_tr,renCs,renC])) (hbT ()) (fun d h' ⟨_,e⟩=>by subst e;simp) ?_
     rintro _ _ ⟨rfl,rfl⟩ _
     iterate 4 (try (refine drvZ Try.func117 ?_;simp only [go_sem,hx,hlt,renCs_I,renCs_hdr,renCs_b0,renCs_b1,renCs_tr]))
     (with_reducible and_intros)<;>try exact sd
     have ag:=again (i+1)
     simp only [hn1,hn2] at ag
     exact ag _ [] _ hlt (by omega) (mqRun rfl rfl rfl rfl rfl rfl rfl rfl rfl rfl (by decide) rfl rfl rfl (by simp only [List.append_assoc]) (by simp only [List.append_assoc]))
    ·intro h0
     have hrun:runS (d' + 1) mi (.mk 3 t (.mk ik iv iks) (.mk vk vv vks) c b e)=((runL d' mi e).1,(evalE mi 5 (.mk vk vv vks)).2++[⟨1,0⟩]++(runL d' mi e).2):=by
      simp only [runS,show ¬ ((3:Int)=4) by decide,show ¬ ((3:Int)=1) by decide,show ¬ ((3:Int)=5) by decide,show ¬ ((3:Int)=2) by decide,if_false]
      rw [if_neg (fun h=>h h0)];rfl
     rw [hrun] at hn1 hn2
     have hcs:trC (ti++(evalE mi 5 (.mk vk vv vks)).2)++[.v (.int .i64 1),.v (.int .i64 0)]=trC (ti++(evalE mi 5 (.mk vk vv vks)).2++[⟨1,0⟩]):=(trC_snoc _ ⟨1,0⟩).symm
     have hlen5:(ti++(evalE mi 5 (.mk vk vv vks)).2++[(⟨1,0⟩:Ev)]).length=(ti++(evalE mi 5 (.mk vk vv vks)).2).length+1:=by simp;omega
     iterate 3 (try (refine drvZ Try.func117 ?_;simp only [go_sem,hx,hlt,renCs_I,renCs_hdr,renCs_b0,renCs_b1,renCs_tr,h0]))
     have hLb:(ti++(evalE mi 5 (.mk vk vv vks)).2++[(⟨1,0⟩:Ev)]).length+wt d' * lsize d' e≤1073741824:=by
      rw [hlen5];omega
     rw [hcs,← hlen5]
     refine XK.callG [0,1,2,3,6656] (ih mi e (ti++(evalE mi 5 (.mk vk vv vks)).2++[⟨1,0⟩]) hmi he hLb) ok117 (hhp5 (by simp [hOf,upd,renCs_I]) (by simp [hOf,upd,renCs_hdr,rk0]) (by simp [hOf,upd,renCs_b0]) (by simp [hOf,upd,renCs_b1]) (by simp [hOf,upd,renCs_tr,renCs,renC])) (hbT ()) (fun d h' ⟨_,e⟩=>by subst e;simp) ?_
     rintro _ _ ⟨rfl,rfl⟩ _
     iterate 4 (try (refine drvZ Try.func117 ?_;simp only [go_sem,hx,hlt,renCs_I,renCs_hdr,renCs_b0,renCs_b1,renCs_tr]))
     (with_reducible and_intros)<;>try exact sd
     have ag:=again (i+1)
     simp only [hn1,hn2] at ag
     exact ag _ [] _ hlt (by omega) (mqRun rfl rfl rfl rfl rfl rfl rfl rfl rfl rfl (by decide) rfl rfl rfl (by simp only [List.append_assoc]) (by simp only [List.append_assoc]))
   ·subst hk
    have hw:wt (d' + 1)=3 * wt d':=by unfold wt;rw [Nat.pow_succ];omega
    have hts:tsize (d' + 1) (.mk 4 t (.mk ik iv iks) (.mk vk vv vks) c b e)=1+lsize d' b+lsize d' e:=rfl
    have hbig:3 * (wt d' * lsize d' b)≤wt (d' + 1) * tsize (d' + 1) (.mk 4 t (.mk ik iv iks) (.mk vk vv vks) c b e):=by
     rw [hts,hw,Nat.mul_add,Nat.mul_add,Nat.mul_assoc,Nat.mul_assoc,Nat.mul_assoc];omega
    have hit:=fun n=>iterR_ok (p:=p) (f:=fun m=>foldR (runS d') m b) (w:=wt d' * lsize d' b) (fun m hm=>runL_ok hm hb) n mi hmi
    have hrun:runS (d' + 1) mi (.mk 4 t (.mk ik iv iks) (.mk vk vv vks) c b e)=iterR (fun m=>foldR (runS d') m b) c.toNat mi:=by simp only [runS,if_true]
    rw [hrun] at hn1 hn2
    refine drvL Try.func117 ?_
    simp only [go_sem,hx,hlt,renCs_I,renCs_hdr,renCs_b0,renCs_b1,renCs_tr]
    iterate 6 (try (refine drvZ Try.func117 ?_;simp only [go_sem,hx,hlt,renCs_I,renCs_hdr,renCs_b0,renCs_b1,renCs_tr]))
    refine Go.loopQ (fun n : Nat => [(1, .c (.isl 11 (St1.cellsL l))), (2, .c (.msl 20 2 0 (ti ++ (iterR (fun m => foldR (runS d') m b) n mi).2).length)), (3, .c (.ptr 5 0)), (7, DI .i64 i), (8, .c (.ptr 22 0)), (12, DI .i64 n)])
     (fun n=>[(0,some ((iterR (fun m=>foldR (runS d') m b) n mi).1.vals.map I64)),(1,some (hdr 2 3 p.arrays.length)),(2,some (blk0 (iterR (fun m=>foldR (runS d') m b) n mi).1.arrays)),(3,some (blk1 (iterR (fun m=>foldR (runS d') m b) n mi).1.arrays)),(4,none),(5,some [.msl 0 1 0 p.vars.length,.msl 1 1 0 p.arrays.length]),(20,some (trC (ti++(iterR (fun m=>foldR (runS d') m b) n mi).2))),(22,some (St1.cells (.mk 4 t (.mk ik iv iks) (.mk vk vv vks) c b e)))])
     8192 (fun n=>n≤c.toNat) (fun n=>c.toNat - n) ?_ 0 _ [] _ (Nat.zero_le _) (mqRep (cells_kf _ _ _ _ _ _ _ _ _ _ _) rfl rfl rfl rfl rfl rfl rfl rfl rfl rfl rfl rfl rfl (by decide) rfl rfl rfl (by simp [iterR]) (by simp [iterR]))
    intro n hn again2
    refine drvL Try.func117 ?_
    rcases Nat.lt_or_ge n c.toNat with hlt2 | hge2
    ·have hnc:(n:Int)<c:=by omega
     simp only [go_sem,hx,hlt,renCs_I,renCs_hdr,renCs_b0,renCs_b1,renCs_tr,hnc]
     iterate 3 (try (refine drvZ Try.func117 ?_;simp only [go_sem,hx,hlt,renCs_I,renCs_hdr,renCs_b0,renCs_b1,renCs_tr,hnc]))
     have hX:(ti++(iterR (fun m=>foldR (runS d') m b) n mi).2).length+wt d' * lsize d' b≤1073741824:=by
      have g1:=(hit n).2
      have hc3':n+1≤3:=by omega
      have g2:=Nat.mul_le_mul_right (wt d' * lsize d' b) hc3'
      rw [Nat.add_mul] at g2
      rw [List.length_append]
      omega
     refine XK.callG [0,1,2,3,20] (ih (iterR (fun m=>foldR (runS d') m b) n mi).1 b (ti++(iterR (fun m=>foldR (runS d') m b) n mi).2) (hit n).1 hb hX) ok117 (hhp5 (by simp [hOf,upd,renCs_I]) (by simp [hOf,upd,renCs_hdr,rk0]) (by simp [hOf,upd,renCs_b0]) (by simp [hOf,upd,renCs_b1]) (by simp [hOf,upd,renCs_tr])) (hbT ()) (fun d h' ⟨_,e⟩=>by subst e;simp) ?_
     rintro _ _ ⟨rfl,rfl⟩ _
     iterate 3 (try (refine drvZ Try.func117 ?_;simp only [go_sem,hx,hlt,renCs_I,renCs_hdr,renCs_b0,renCs_b1,renCs_tr]))
     refine ⟨by simp only [InK];omega,?_⟩
     exact again2 (n+1) _ [] _ hlt2 (by omega) (mqRep (cells_kf _ _ _ _ _ _ _ _ _ _ _) rfl rfl rfl rfl rfl rfl rfl rfl rfl rfl rfl rfl rfl (by decide) rfl rfl rfl (by simp only [iterR,runL,List.append_assoc]) (by simp only [iterR,runL,List.append_assoc]))
    ·have hnc:¬ (n:Int)<c:=by omega
     simp only [go_sem,hx,hlt,renCs_I,renCs_hdr,renCs_b0,renCs_b1,renCs_tr,hnc]
     iterate 3 (try (refine drvZ Try.func117 ?_;simp only [go_sem,hx,hlt,renCs_I,renCs_hdr,renCs_b0,renCs_b1,renCs_tr,hnc]))
     refine ⟨by simp only [InK];omega,?_⟩
     obtain rfl:n=c.toNat:=by omega
     have ag:=again (i+1)
     simp only [hn1,hn2] at ag
     exact ag _ [] _ hlt (by omega) (mqRun rfl rfl rfl rfl rfl rfl rfl rfl rfl rfl (by decide) rfl rfl rfl rfl rfl)
  ·have hn:¬ i<l.length:=by omega
   obtain rfl:i=l.length:=by omega
   refine drvL Try.func117 ?_
   simp only [go_sem,hn,List.take_length]
   iterate 2 (try (refine drvZ Try.func117 ?_;simp only [go_sem,hn,List.take_length]))
   exact ret _ _ _ _ _ rfl rfl rfl rfl rfl rfl (by omega) rfl rfl
 ·simp only [go_sem,TmOK,DM,DMs,CM,CMs,forall_eq,exists_eq_left,Mq,HpOK,LowOK,CMs_I,CMs_hdr,CMs_b0,CMs_b1,CMs_tr]
  simp [runL,foldR,CMs_tr,CMs_I,CMs_b0,CMs_b1]
end Go.Proofs.Ytddanjifhdaebaa.CtR
