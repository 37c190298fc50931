/- Contracts of functions of the program, one behind the other, as plain data: what each call returns and which blocks it leaves. -/
import Derived.Test.YtddanjifhdaebaaHFacts
import Derived.Test.YtddanjifhdaebaaHAl
import Derived.Test.YtddanjifhdaebaaHAm
import Derived.Test.YtddanjifhdaebaaHAn
import Derived.Test.YtddanjifhdaebaaHAo
import Derived.Test.YtddanjifhdaebaaHAp
set_option linter.unusedVariables false
set_option linter.unusedSimpArgs false
set_option linter.unusedSectionVars false
set_option maxHeartbeats 16000000
set_option maxRecDepth 100000
namespace Go.Proofs.Ytddanjifhdaebaa.CtR
open Go Go.CT CtF
variable [Yn]
def stP' (p:Pg) (m:Mm) (tr:List Ev):List (Option (List C)):=[some [.msl 2 1 0 p.vars.length,.msl 3 1 0 p.arrays.length,.msl 6 2 0 tr.length],none,some (m.vals.map I64),some (hdr 4 5 p.arrays.length),some (blk0 m.arrays),some (blk1 m.arrays),some (trC tr)]
theorem evalI2 (p : Pg) (m : Mm) (hm : MemFits p m) (e : Ex) (tr : List Ev) (hr : right p e = true) (htr : tr.length + 15 ≤ 1073741824) : DC Try.prog 169 [.c (.ptr 0 0), .agg e.cells] [some [.msl 2 1 0 p.vars.length, .msl 3 1 0 p.arrays.length, .msl 1 2 0 tr.length], some (trC tr), some (m.vals.map I64), some (hdr 4 5 p.arrays.length), some (blk0 m.arrays), some (blk1 m.arrays)]
 (fun r h=>r=DI .i64 (evalE m 5 e).1∧h=stP' p m (tr++(evalE m 5 e).2)):=by
 have hs:=right_shape hr
 have h:=evalI p m hm 5 e tr hs.1 (by omega)
 unfold stI stI' at h
 rw [hm.nv,hm.na] at h
 exact h
theorem event2 (p:Pg) (m:Mm) (hm:MemFits p m) (k0 v0:Int) (tr:List Ev) (htr:tr.length+1≤1073741824):DC Try.prog 170 [.c (.ptr 0 0),DI .i64 k0,DI .i64 v0] [some [.msl 2 1 0 p.vars.length,.msl 3 1 0 p.arrays.length,.msl 1 2 0 tr.length],some (trC tr),some (m.vals.map I64),some (hdr 4 5 p.arrays.length),some (blk0 m.arrays),some (blk1 m.arrays)] (fun d h=>d = .tup []∧h=stP' p m (tr++[⟨k0,v0⟩])):=by
 have h:=event m k0 v0 tr htr
 unfold stI stI' at h
 rw [hm.nv,hm.na] at h
 exact h
theorem mqRunI {S : Ms} {p : Pg} {l : List St1} {M : Mm} {T : List Ev} {i kt n : Nat} {cs c2 c4 c5 : List C} (h0 : S.hp 0 = some (some [.msl 2 1 0 p.vars.length, .msl 3 1 0 p.arrays.length, .msl kt 2 0 n])) (t0 : S.tm 0 = some (.c (.ptr 0 0))) (t8 : S.tm 8 = some (.c (.isl 11 (St1.cellsL l)))) (t9 : S.tm 9 = some (DI .i64 l.length)) (t10 : S.tm 10 = some (DI .i64 i))
 (h2:S.hp 2=some (some c2)) (h3:S.hp 3=some (some (hdr 4 5 p.arrays.length))) (h4:S.hp 4=some (some c4)) (h5:S.hp 5=some (some c5)) (hk:S.hp kt=some (some cs))
 (hkt:6≤kt) (e2:c2=M.vals.map I64) (e4:c4=blk0 M.arrays) (e5:c5=blk1 M.arrays) (hcs:cs=trC T) (hn:n=T.length) :
 Mq 6 (fun j => if j = 20 then some kt else some j) [] [(0, .c (.ptr 0 0)), (8, .c (.isl 11 (St1.cellsL l))), (9, DI .i64 l.length), (10, DI .i64 i)]
  [(0,some [.msl 2 1 0 p.vars.length,.msl 3 1 0 p.arrays.length,.msl 20 2 0 T.length]),(1,none),(2,some (M.vals.map I64)),(3,some (hdr 4 5 p.arrays.length)),(4,some (blk0 M.arrays)),(5,some (blk1 M.arrays)),(20,some (trC T))] S:=by
 subst hcs hn e2 e4 e5
 simp [Mq,TmOK,t0,t8,t9,t10,h0,h2,h3,h4,h5,hk,DM,CM,CMs,HpOK,LowOK,hOf,upd,CMs_I,CMs_tr,CMs_hdr,CMs_b0,CMs_b1]
 omega
theorem mqRepI {S : Ms} {p : Pg} {l : List St1} {M : Mm} {T : List Ev} {i j0 kt ks n : Nat} {c : Int} {cs c2 c4 c5 ss : List C} (hss : ∀ c ∈ ss, kf c = true) (h0 : S.hp 0 = some (some [.msl 2 1 0 p.vars.length, .msl 3 1 0 p.arrays.length, .msl kt 2 0 n])) (t5 : S.tm 5 = some (.c (.ptr ks 0))) (t0 : S.tm 0 = some (.c (.ptr 0 0))) (t8 : S.tm 8 = some (.c (.isl 11 (St1.cellsL l)))) (t9 : S.tm 9 = some (DI .i64 l.length)) (t10 : S.tm 10 = some (DI .i64 i)) (t18 : S.tm 18 = some (DI .i64 c)) (t19 : S.tm 19 = some (DI .i64 j0))
 (h2:S.hp 2=some (some c2)) (h3:S.hp 3=some (some (hdr 4 5 p.arrays.length))) (h4:S.hp 4=some (some c4)) (h5:S.hp 5=some (some c5)) (hk:S.hp kt=some (some cs)) (hs:S.hp ks=some (some ss))
 (hkt:6≤kt∧6≤ks∧kt ≠ ks) (e2:c2=M.vals.map I64) (e4:c4=blk0 M.arrays) (e5:c5=blk1 M.arrays) (hcs:cs=trC T) (hn:n=T.length) :
 Mq 6 (fun j => if j = 20 then some kt else if j = 22 then some ks else some j) [] [(0, .c (.ptr 0 0)), (8, .c (.isl 11 (St1.cellsL l))), (9, DI .i64 l.length), (10, DI .i64 i), (5, .c (.ptr 22 0)), (18, DI .i64 c), (19, DI .i64 j0)]
  [(0,some [.msl 2 1 0 p.vars.length,.msl 3 1 0 p.arrays.length,.msl 20 2 0 T.length]),(1,none),(2,some (M.vals.map I64)),(3,some (hdr 4 5 p.arrays.length)),(4,some (blk0 M.arrays)),(5,some (blk1 M.arrays)),(20,some (trC T)),(22,some ss)] S:=by
 subst hcs hn e2 e4 e5
 refine ⟨?_,⟨?_,?_,?_,?_,?_,?_,?_,?_,?_⟩,?_,?_⟩
 all_goals simp [TmOK,t0,t5,t8,t9,t10,t18,t19,h0,h2,h3,h4,h5,hk,hs,DM,CM,CMs,HpOK,LowOK,hOf,upd,CMs_I,CMs_tr,CMs_hdr,CMs_b0,CMs_b1]
 ·exact CMs.kf hss
 ·omega
theorem runIOf (p : Pg) (d : Nat)
 (ih:∀ d',d=d' + 1→∀ (m:Mm) (l:List St1) (tr:List Ev),MemFits p m→(∀ s ∈ l,stmtOK p d' s=true)→tr.length+wt d' * lsize d' l≤1073741824→DC Try.prog 121 [.c (.ptr 0 0),.c (.isl 11 (St1.cellsL l))] [some [.msl 2 1 0 p.vars.length,.msl 3 1 0 p.arrays.length,.msl 1 2 0 tr.length],some (trC tr),some (m.vals.map I64),some (hdr 4 5 p.arrays.length),some (blk0 m.arrays),some (blk1 m.arrays)] (fun r h=>r = .tup []∧h=stP' p (runL d' m l).1 (tr++(runL d' m l).2)))
 (m:Mm) (l:List St1) (tr:List Ev) (hm:MemFits p m) (hok:∀ s ∈ l,stmtOK p d s=true) (htr:tr.length+wt d * lsize d l≤1073741824) :
 DC Try.prog 121 [.c (.ptr 0 0),.c (.isl 11 (St1.cellsL l))] [some [.msl 2 1 0 p.vars.length,.msl 3 1 0 p.arrays.length,.msl 1 2 0 tr.length],some (trC tr),some (m.vals.map I64),some (hdr 4 5 p.arrays.length),some (blk0 m.arrays),some (blk1 m.arrays)] (fun r h=>r = .tup []∧h=stP' p (runL d m l).1 (tr++(runL d m l).2)):=by
 have hmx:=mx_eq
 generalize hR:(fun (r:D) (h:List (Option (List C)))=>r = .tup []∧h=stP' p (runL d m l).1 (tr++(runL d m l).2))=R
 have ret:∀ (kt n:Nat) (cs:List C) (tr':List Ev) (hp:Hp),tr'=tr++(runL d m l).2→hp 0=some (some [.msl 2 1 0 p.vars.length,.msl 3 1 0 p.arrays.length,.msl kt 2 0 n])→hp 2=some (some ((runL d m l).1.vals.map I64))→hp 3=some (some (hdr 4 5 p.arrays.length))→hp 4=some (some (blk0 (runL d m l).1.arrays))→hp 5=some (some (blk1 (runL d m l).1.arrays)) →
  hp kt=some (some cs)→6≤kt→cs=trC tr'→n=tr'.length→RetOb 6 R (.tup []) hp:=by
  rintro kt n cs tr' hp rfl h0 h2 h3 h4 h5 hk hkt rfl rfl
  subst hR
  refine RetOb.ofQ (fun j=>if j=6 then some kt else some j) [] (.tup []) (stP' p (runL d m l).1 (tr++(runL d m l).2)) ?_ ⟨rfl,rfl⟩ (by simp [stP'])
  simp [stP',enumL,hOf,DM,DMs,CM,CMs,HpOK,LowOK,upd,CMs_I,CMs_tr,CMs_hdr,CMs_b0,CMs_b1,h0,h2,h3,h4,h5,hk]
  omega
 refine dcZ Try.func121 ?_
 simp only [go_sem]
 iterate 2 (try (refine drvZ Try.func121 ?_;simp only [go_sem]))
 refine Go.loopQ (fun i : Nat => [(0, .c (.ptr 0 0)), (8, .c (.isl 11 (St1.cellsL l))), (9, DI .i64 l.length), (10, DI .i64 i)])
  (fun i=>[(0,some [.msl 2 1 0 p.vars.length,.msl 3 1 0 p.arrays.length,.msl 20 2 0 (tr++(runL d m (l.take i)).2).length]),(1,none),(2,some ((runL d m (l.take i)).1.vals.map I64)),(3,some (hdr 4 5 p.arrays.length)),(4,some (blk0 (runL d m (l.take i)).1.arrays)),(5,some (blk1 (runL d m (l.take i)).1.arrays)),(20,some (trC (tr++(runL d m (l.take i)).2)))])
  4096 (fun i=>i≤l.length) (fun i=>l.length - i) ?_ 0 (fun j=>if j=20 then some 1 else some j) [] _ (Nat.zero_le _) ?_
 ·intro i hi again
  have hmi:=(runL_ok (l:=l.take i) hm (fun s hs=>hok s (List.mem_of_mem_take hs))).1
  rcases Nat.lt_or_ge i l.length with hlt | hge
  ·obtain ⟨⟨k,t,⟨ik,iv,iks⟩,⟨vk,vv,vks⟩,c,b,e⟩,hx⟩:∃ x,l[i]? = some x:=⟨l[i],by simp [hlt]⟩
   have hmem:=List.mem_of_getElem? hx
   have hsk:=hok _ hmem
   have hsucc:=runL_succ d m l i _ hx
   have hlen:(runL d m (l.take i)).2.length+wt d * tsize d (.mk k t (.mk ik iv iks) (.mk vk vv vks) c b e)≤wt d * lsize d l:=by
    have hbi:=(runL_ok (l:=l.take i) hm (fun s hs=>hok s (List.mem_of_mem_take hs))).2
    have g2:=tsum_succ (tsize d) l i _ hx
    have g3:=tsum_le (tsize d) l (i+1)
    unfold tsum at g2 g3
    have g4:lsize d (l.take i)+tsize d (.mk k t (.mk ik iv iks) (.mk vk vv vks) c b e)≤lsize d l:=by unfold lsize;omega
    have g5:=Nat.mul_le_mul_left (wt d) g4
    rw [Nat.mul_add] at g5
    omega
   generalize hmm:(runL d m (l.take i)).1=mi at *
   generalize htt:tr++(runL d m (l.take i)).2=ti at *
   have hn1:(runL d m (l.take (i+1))).1=(runS d mi (.mk k t (.mk ik iv iks) (.mk vk vv vks) c b e)).1:=by rw [hsucc]
   have hn2:tr++(runL d m (l.take (i+1))).2=ti++(runS d mi (.mk k t (.mk ik iv iks) (.mk vk vv vks) c b e)).2:=by rw [hsucc,← htt,List.append_assoc]
   have htl:ti.length+wt d * tsize d (.mk k t (.mk ik iv iks) (.mk vk vv vks) c b e)≤1073741824:=by rw [← htt,List.length_append];omega
   obtain ⟨d',rfl⟩:∃ d',d=d' + 1:=by
    cases d with
    | zero=>simp [stmtOK] at hsk
    | succ d'=>exact ⟨d',rfl⟩
   have ih:=ih d' rfl
   have hil:=len_le_lsize (d:=d') l
   have hwl:lsize (d' + 1) l≤wt (d' + 1) * lsize (d' + 1) l:=Nat.le_mul_of_pos_left _ (by unfold wt;have:0<3 ^ (d' + 1):=Nat.pow_pos (by decide);omega)
   obtain ⟨hh,hb,he⟩:=stmtOK_succ hsk
   rcases head_kind hh with ⟨hk,ht0,ht1,hr⟩ | ⟨hk,ht0,ht1,hri,hai,hr⟩ | ⟨hk,hr⟩ | ⟨hk,hc1,hc3⟩
   ·have htv:t<mi.vals.length:=by rw [hmi.nv];exact ht1
    rcases hk with hk | hk
    ·subst hk
     have hw1:20≤wt (d' + 1) * tsize (d' + 1) (.mk 1 t (.mk ik iv iks) (.mk vk vv vks) c b e):=by
      have g1:=tsize_pos (d:=d') (.mk 1 t (.mk ik iv iks) (.mk vk vv vks) c b e)
      have g2:20≤wt (d' + 1):=by unfold wt;have:0<3 ^ (d' + 1):=Nat.pow_pos (by decide);omega
      have g3:=Nat.mul_le_mul g2 g1
      omega
     have hs:=right_shape hr
     have he1:=evalE_range hmi 5 (.mk vk vv vks) hs.1
     have he2:=evalE_len (m:=mi) 5 (.mk vk vv vks) hs.1
     have htl2:=trC_len (ti++(evalE mi 5 (.mk vk vv vks)).2)
     have hll:(ti++(evalE mi 5 (.mk vk vv vks)).2).length=ti.length+(evalE mi 5 (.mk vk vv vks)).2.length:=List.length_append
     have hrun:runS (d' + 1) mi (.mk 1 t (.mk ik iv iks) (.mk vk vv vks) c b e)=(setV mi t (evalE mi 5 (.mk vk vv vks)).1,(evalE mi 5 (.mk vk vv vks)).2):=rfl
     rw [hrun] at hn1 hn2
     refine drvL Try.func121 ?_
     simp only [go_sem,hx,hlt,renCs_I,renCs_hdr,renCs_b0,renCs_b1,renCs_tr]
     iterate 3 (try (refine drvZ Try.func121 ?_;simp only [go_sem,hx,hlt,renCs_I,renCs_hdr,renCs_b0,renCs_b1,renCs_tr]))
     refine XK.callG [0,20,2,3,4,5] (evalI2 p mi hmi (.mk vk vv vks) ti hr (by omega)) ok169 (hhp6 (by simp [hOf,upd,renCs,renC,rk0]) (by simp [hOf,upd,renCs_tr,renCs,renC]) (by simp [hOf,upd,renCs_I]) (by simp [hOf,upd,renCs_hdr,rk0]) (by simp [hOf,upd,renCs_b0]) (by simp [hOf,upd,renCs_b1])) (hbT ()) (fun d h' ⟨_,e⟩=>by subst e;simp [stP']) ?_
     rintro _ _ ⟨rfl,rfl⟩ _
     unfold stP'
     iterate 4 (try (refine drvZ Try.func121 ?_;simp only [go_sem,hx,hlt,renCs_I,renCs_hdr,renCs_b0,renCs_b1,renCs_tr]))
     (with_reducible and_intros)<;>try exact sd
     iterate 2 (try (refine drvZ Try.func121 ?_;simp only [go_sem,hx,hlt,renCs_I,renCs_hdr,renCs_b0,renCs_b1,renCs_tr]))
     (with_reducible and_intros)<;>try exact sd
     have ag:=again (i+1)
     simp only [hn1,hn2] at ag
     exact ag _ [] _ hlt (by omega) (mqRunI rfl rfl rfl rfl rfl rfl rfl rfl rfl rfl (by decide) (map_setV _ _ _).symm rfl rfl rfl rfl)
    ·subst hk
     have hw1:20≤wt (d' + 1) * tsize (d' + 1) (.mk 5 t (.mk ik iv iks) (.mk vk vv vks) c b e):=by
      have g1:=tsize_pos (d:=d') (.mk 5 t (.mk ik iv iks) (.mk vk vv vks) c b e)
      have g2:20≤wt (d' + 1):=by unfold wt;have:0<3 ^ (d' + 1):=Nat.pow_pos (by decide);omega
      have g3:=Nat.mul_le_mul g2 g1
      omega
     have hs:=right_shape hr
     have he1:=evalE_range hmi 5 (.mk vk vv vks) hs.1
     have he2:=evalE_len (m:=mi) 5 (.mk vk vv vks) hs.1
     have htl2:=trC_len (ti++(evalE mi 5 (.mk vk vv vks)).2)
     have hll:(ti++(evalE mi 5 (.mk vk vv vks)).2).length=ti.length+(evalE mi 5 (.mk vk vv vks)).2.length:=List.length_append
     have hrun:runS (d' + 1) mi (.mk 5 t (.mk ik iv iks) (.mk vk vv vks) c b e)=(setV mi t (evalE mi 5 (.mk vk vv vks)).1,(evalE mi 5 (.mk vk vv vks)).2++[⟨4,(evalE mi 5 (.mk vk vv vks)).1⟩]):=rfl
     rw [hrun] at hn1 hn2
     refine drvL Try.func121 ?_
     simp only [go_sem,hx,hlt,renCs_I,renCs_hdr,renCs_b0,renCs_b1,renCs_tr]
     iterate 3 (try (refine drvZ Try.func121 ?_;simp only [go_sem,hx,hlt,renCs_I,renCs_hdr,renCs_b0,renCs_b1,renCs_tr]))
     refine XK.callG [0,20,2,3,4,5] (evalI2 p mi hmi (.mk vk vv vks) ti hr (by omega)) ok169 (hhp6 (by simp [hOf,upd,renCs,renC,rk0]) (by simp [hOf,upd,renCs_tr,renCs,renC]) (by simp [hOf,upd,renCs_I]) (by simp [hOf,upd,renCs_hdr,rk0]) (by simp [hOf,upd,renCs_b0]) (by simp [hOf,upd,renCs_b1])) (hbT ()) (fun d h' ⟨_,e⟩=>by subst e;simp [stP']) ?_
     rintro _ _ ⟨rfl,rfl⟩ _
     unfold stP'
     iterate 4 (try (refine drvZ Try.func121 ?_;simp only [go_sem,hx,hlt,renCs_I,renCs_hdr,renCs_b0,renCs_b1,renCs_tr]))
     (with_reducible and_intros)<;>try exact sd
     iterate 2 (try (refine drvZ Try.func121 ?_;simp only [go_sem,hx,hlt,renCs_I,renCs_hdr,renCs_b0,renCs_b1,renCs_tr]))
     (with_reducible and_intros)<;>try exact sd
     refine XK.callG [0,4800,2,3,4,5] (event2 p mi hmi 4 (evalE mi 5 (.mk vk vv vks)).1 (ti++(evalE mi 5 (.mk vk vv vks)).2) (by omega)) ok170 (hhp6 (by simp [hOf,upd,renCs,renC,rk0]) (by simp [hOf,upd,renCs_tr,renCs,renC]) (by simp [hOf,upd,renCs_I]) (by simp [hOf,upd,renCs_hdr,rk0]) (by simp [hOf,upd,renCs_b0]) (by simp [hOf,upd,renCs_b1])) (hbT ()) (fun d h' ⟨_,e⟩=>by subst e;simp [stP']) ?_
     rintro _ _ ⟨rfl,rfl⟩ _
     unfold stP'
     iterate 3 (try (refine drvZ Try.func121 ?_;simp only [go_sem,hx,hlt,renCs_I,renCs_hdr,renCs_b0,renCs_b1,renCs_tr]))
     (with_reducible and_intros)<;>try exact sd
     iterate 2 (try (refine drvZ Try.func121 ?_;simp only [go_sem,hx,hlt,renCs_I,renCs_hdr,renCs_b0,renCs_b1,renCs_tr]))
     (with_reducible and_intros)<;>try exact sd
     have ag:=again (i+1)
     simp only [hn1,hn2] at ag
     exact ag _ [] _ hlt (by omega) (mqRunI rfl rfl rfl rfl rfl rfl rfl rfl rfl rfl (by decide) (map_setV _ _ _).symm rfl rfl (by rw [← List.append_assoc]) (by rw [← List.append_assoc]))
   ·subst hk
    have htv:t<mi.arrays.length:=by rw [hmi.na];exact ht1
    have hw1:60≤wt (d' + 1) * tsize (d' + 1) (.mk 2 t (.mk ik iv iks) (.mk vk vv vks) c b e):=by
     have g1:=tsize_pos (d:=d') (.mk 2 t (.mk ik iv iks) (.mk vk vv vks) c b e)
     have g2:60≤wt (d' + 1):=by unfold wt;rw [Nat.pow_succ];have:0<3 ^ d':=Nat.pow_pos (by decide);omega
     have g3:=Nat.mul_le_mul g2 g1
     omega
    have hs:=right_shape hr
    have he1:=evalE_range hmi 5 (.mk vk vv vks) hs.1
    have he2:=evalE_len (m:=mi) 5 (.mk vk vv vks) hs.1
    have htl2:=trC_len (ti++(evalE mi 5 (.mk vk vv vks)).2)
    have hll:(ti++(evalE mi 5 (.mk vk vv vks)).2).length=ti.length+(evalE mi 5 (.mk vk vv vks)).2.length:=List.length_append
    have hsi:=right_shape hri
    have hi1:=evalE_range hmi 5 (.mk ik iv iks) hsi.1
    have hi2:(evalE mi 5 (.mk ik iv iks)).2=[]:=by
     simp only [atom,Ex.kind,Bool.or_eq_true,beq_iff_eq] at hai
     rcases hai with h | h
     ·subst h;simp [evalE]
     ·subst h;simp [evalE]
    refine drvL Try.func121 ?_
    simp only [go_sem,hx,hlt,renCs_I,renCs_hdr,renCs_b0,renCs_b1,renCs_tr]
    iterate 3 (try (refine drvZ Try.func121 ?_;simp only [go_sem,hx,hlt,renCs_I,renCs_hdr,renCs_b0,renCs_b1,renCs_tr]))
    refine XK.callG [0,20,2,3,4,5] (evalI2 p mi hmi (.mk vk vv vks) ti hr (by omega)) ok169 (hhp6 (by simp [hOf,upd,renCs,renC,rk0]) (by simp [hOf,upd,renCs_tr,renCs,renC]) (by simp [hOf,upd,renCs_I]) (by simp [hOf,upd,renCs_hdr,rk0]) (by simp [hOf,upd,renCs_b0]) (by simp [hOf,upd,renCs_b1])) (hbT ()) (fun d h' ⟨_,e⟩=>by subst e;simp [stP']) ?_
    rintro _ _ ⟨rfl,rfl⟩ _
    unfold stP'
    iterate 4 (try (refine drvZ Try.func121 ?_;simp only [go_sem,hx,hlt,renCs_I,renCs_hdr,renCs_b0,renCs_b1,renCs_tr]))
    (with_reducible and_intros)<;>try exact sd
    iterate 2 (try (refine drvZ Try.func121 ?_;simp only [go_sem,hx,hlt,renCs_I,renCs_hdr,renCs_b0,renCs_b1,renCs_tr]))
    (with_reducible and_intros)<;>try exact sd
    refine XK.callG [0,4800,2,3,4,5] (evalI2 p mi hmi (.mk ik iv iks) (ti++(evalE mi 5 (.mk vk vv vks)).2) hri (by omega)) ok169 (hhp6 (by simp [hOf,upd,renCs,renC,rk0]) (by simp [hOf,upd,renCs_tr,renCs,renC]) (by simp [hOf,upd,renCs_I]) (by simp [hOf,upd,renCs_hdr,rk0]) (by simp [hOf,upd,renCs_b0]) (by simp [hOf,upd,renCs_b1])) (hbT ()) (fun d h' ⟨_,e⟩=>by subst e;simp [stP']) ?_
    rintro _ _ ⟨rfl,rfl⟩ _
    unfold stP'
    rw [hi2,List.append_nil]
    have hv2:t=0∨t=1:=by have:=hmi.na2;omega
    rcases hv2 with hv2 | hv2
    ·subst hv2
     have hnap:0<mi.arrays.length:=by omega
     have hh:(hdr 4 5 p.arrays.length)[0]? = some (.msl 4 1 0 4):=by
      rw [← hmi.na];unfold hdr;match mi.arrays.length,hnap with | n+1,_=>rfl
     have h4:=(hmi.arr _ (arrAt_mem (m:=mi) (v:=0) (by omega) (by omega)).2).1
     have hbl:(blk0 mi.arrays).length=4:=by
      have e:mi.arrays[0]? = some (arrAt mi 0):=(arrAt_mem (m:=mi) (v:=0) (by omega) (by omega)).1
      unfold blk0;rw [e,Option.getD_some,List.length_map,h4]
     have hx1:=Int.emod_nonneg (evalE mi 5 (.mk ik iv iks)).1 (show (4:Int) ≠ 0 by decide)
     have hx2:=Int.emod_lt_of_pos (evalE mi 5 (.mk ik iv iks)).1 (show (0:Int)<4 by decide)
     have hrun:runS (d' + 1) mi (.mk 2 0 (.mk ik iv iks) (.mk vk vv vks) c b e)=(setA mi 0 ((evalE mi 5 (.mk ik iv iks)).1 % 4) (evalE mi 5 (.mk vk vv vks)).1,(evalE mi 5 (.mk vk vv vks)).2++[⟨3,0 * 4+(evalE mi 5 (.mk ik iv iks)).1 % 4⟩]):=rfl
     simp only [Int.zero_mul,Int.zero_add] at hrun
     rw [hrun] at hn1 hn2
     iterate 4 (try (refine drvZ Try.func121 ?_;simp only [go_sem,hx,hlt,renCs_I,renCs_hdr,renCs_b0,renCs_b1,renCs_tr,hh,hbl]))
     (with_reducible and_intros)<;>try exact sd
     refine XK.plain (address 0 _ (by omega) hi1) ok171 ?_ (hbT ())
     iterate 2 (try (refine drvZ Try.func121 ?_;simp only [go_sem,hx,hlt,renCs_I,renCs_hdr,renCs_b0,renCs_b1,renCs_tr]))
     refine XK.callG [0,5632,2,3,4,5] (event2 p mi hmi 3 ((evalE mi 5 (.mk ik iv iks)).1 % 4) (ti++(evalE mi 5 (.mk vk vv vks)).2) (by omega)) ok170 (hhp6 (by simp [hOf,upd,renCs,renC,rk0]) (by simp [hOf,upd,renCs_tr,renCs,renC]) (by simp [hOf,upd,renCs_I]) (by simp [hOf,upd,renCs_hdr,rk0]) (by simp [hOf,upd,renCs_b0]) (by simp [hOf,upd,renCs_b1])) (hbT ()) (fun d h' ⟨_,e⟩=>by subst e;simp [stP']) ?_
     rintro _ _ ⟨rfl,rfl⟩ _
     unfold stP'
     iterate 3 (try (refine drvZ Try.func121 ?_;simp only [go_sem,hx,hlt,renCs_I,renCs_hdr,renCs_b0,renCs_b1,renCs_tr,hh,hbl]))
     (with_reducible and_intros)<;>try exact sd
     iterate 2 (try (refine drvZ Try.func121 ?_;simp only [go_sem,hx,hlt,renCs_I,renCs_hdr,renCs_b0,renCs_b1,renCs_tr,hh,hbl]))
     (with_reducible and_intros)<;>try exact sd
     have ag:=again (i+1)
     simp only [hn1,hn2] at ag
     exact ag _ [] _ hlt (by omega) (mqRunI rfl rfl rfl rfl rfl rfl rfl rfl rfl rfl (by decide) rfl (blk0_set0 _ _ _ hnap).symm (blk1_set0 _ _ _).symm (by rw [← List.append_assoc]) (by rw [← List.append_assoc]))
    ·subst hv2
     have hnap:1<mi.arrays.length:=by omega
     have hh:(hdr 4 5 p.arrays.length)[1]? = some (.msl 5 1 0 4):=by
      rw [← hmi.na];unfold hdr;match mi.arrays.length,hnap with | n+2,_=>rfl
     have h4:=(hmi.arr _ (arrAt_mem (m:=mi) (v:=1) (by omega) (by omega)).2).1
     have hbl:(blk1 mi.arrays).length=4:=by
      have e:mi.arrays[1]? = some (arrAt mi 1):=(arrAt_mem (m:=mi) (v:=1) (by omega) (by omega)).1
      unfold blk1;rw [e,Option.getD_some,List.length_map,h4]
     have hx1:=Int.emod_nonneg (evalE mi 5 (.mk ik iv iks)).1 (show (4:Int) ≠ 0 by decide)
     have hx2:=Int.emod_lt_of_pos (evalE mi 5 (.mk ik iv iks)).1 (show (0:Int)<4 by decide)
     have hrun:runS (d' + 1) mi (.mk 2 1 (.mk ik iv iks) (.mk vk vv vks) c b e)=(setA mi 1 ((evalE mi 5 (.mk ik iv iks)).1 % 4) (evalE mi 5 (.mk vk vv vks)).1,(evalE mi 5 (.mk vk vv vks)).2++[⟨3,1 * 4+(evalE mi 5 (.mk ik iv iks)).1 % 4⟩]):=rfl
     rw [hrun] at hn1 hn2
     iterate 4 (try (refine drvZ Try.func121 ?_;simp only [go_sem,hx,hlt,renCs_I,renCs_hdr,renCs_b0,renCs_b1,renCs_tr,hh,hbl]))
     (with_reducible and_intros)<;>try exact sd
     refine XK.plain (address 1 _ (by omega) hi1) ok171 ?_ (hbT ())
     iterate 2 (try (refine drvZ Try.func121 ?_;simp only [go_sem,hx,hlt,renCs_I,renCs_hdr,renCs_b0,renCs_b1,renCs_tr]))
     refine XK.callG [0,5632,2,3,4,5] (event2 p mi hmi 3 (1 * 4+(evalE mi 5 (.mk ik iv iks)).1 % 4) (ti++(evalE mi 5 (.mk vk vv vks)).2) (by omega)) ok170 (hhp6 (by simp [hOf,upd,renCs,renC,rk0]) (by simp [hOf,upd,renCs_tr,renCs,renC]) (by simp [hOf,upd,renCs_I]) (by simp [hOf,upd,renCs_hdr,rk0]) (by simp [hOf,upd,renCs_b0]) (by simp [hOf,upd,renCs_b1])) (hbT ()) (fun d h' ⟨_,e⟩=>by subst e;simp [stP']) ?_
     rintro _ _ ⟨rfl,rfl⟩ _
     unfold stP'
     iterate 3 (try (refine drvZ Try.func121 ?_;simp only [go_sem,hx,hlt,renCs_I,renCs_hdr,renCs_b0,renCs_b1,renCs_tr,hh,hbl]))
     (with_reducible and_intros)<;>try exact sd
     iterate 2 (try (refine drvZ Try.func121 ?_;simp only [go_sem,hx,hlt,renCs_I,renCs_hdr,renCs_b0,renCs_b1,renCs_tr,hh,hbl]))
     (with_reducible and_intros)<;>try exact sd
     have ag:=again (i+1)
     simp only [hn1,hn2] at ag
     exact ag _ [] _ hlt (by omega) (mqRunI rfl rfl rfl rfl rfl rfl rfl rfl rfl rfl (by decide) rfl (blk0_set1 _ _ _).symm (blk1_set1 _ _ _ hnap).symm (by rw [← List.append_assoc]) (by rw [← List.append_assoc]))
   ·subst hk
    have hw1:20≤wt (d' + 1) * tsize (d' + 1) (.mk 3 t (.mk ik iv iks) (.mk vk vv vks) c b e):=by
     have g1:=tsize_pos (d:=d') (.mk 3 t (.mk ik iv iks) (.mk vk vv vks) c b e)
     have g2:20≤wt (d' + 1):=by unfold wt;have:0<3 ^ (d' + 1):=Nat.pow_pos (by decide);omega
     have g3:=Nat.mul_le_mul g2 g1
     omega
    have hs:=right_shape hr
    have he1:=evalE_range hmi 5 (.mk vk vv vks) hs.1
    have he2:=evalE_len (m:=mi) 5 (.mk vk vv vks) hs.1
    have htl2:=trC_len (ti++(evalE mi 5 (.mk vk vv vks)).2)
    have hll:(ti++(evalE mi 5 (.mk vk vv vks)).2).length=ti.length+(evalE mi 5 (.mk vk vv vks)).2.length:=List.length_append
    have hw3:wt (d' + 1)=3 * wt d':=by unfold wt;rw [Nat.pow_succ];omega
    have hw4:20≤wt d':=by unfold wt;have:0<3 ^ d':=Nat.pow_pos (by decide);omega
    have hbig:wt (d' + 1) * tsize (d' + 1) (.mk 3 t (.mk ik iv iks) (.mk vk vv vks) c b e)=3 * wt d' + 3 * (wt d' * lsize d' b)+3 * (wt d' * lsize d' e):=by
     rw [show tsize (d' + 1) (.mk 3 t (.mk ik iv iks) (.mk vk vv vks) c b e)=1+lsize d' b+lsize d' e from rfl,hw3,Nat.mul_add,Nat.mul_add,Nat.mul_assoc,Nat.mul_assoc,Nat.mul_assoc];omega
    refine drvL Try.func121 ?_
    simp only [go_sem,hx,hlt,renCs_I,renCs_hdr,renCs_b0,renCs_b1,renCs_tr]
    iterate 3 (try (refine drvZ Try.func121 ?_;simp only [go_sem,hx,hlt,renCs_I,renCs_hdr,renCs_b0,renCs_b1,renCs_tr]))
    refine XK.callG [0,20,2,3,4,5] (evalI2 p mi hmi (.mk vk vv vks) ti hr (by omega)) ok169 (hhp6 (by simp [hOf,upd,renCs,renC,rk0]) (by simp [hOf,upd,renCs_tr,renCs,renC]) (by simp [hOf,upd,renCs_I]) (by simp [hOf,upd,renCs_hdr,rk0]) (by simp [hOf,upd,renCs_b0]) (by simp [hOf,upd,renCs_b1])) (hbT ()) (fun d h' ⟨_,e⟩=>by subst e;simp [stP']) ?_
    rintro _ _ ⟨rfl,rfl⟩ _
    unfold stP'
    iterate 4 (try (refine drvZ Try.func121 ?_;simp only [go_sem,hx,hlt,renCs_I,renCs_hdr,renCs_b0,renCs_b1,renCs_tr]))
    (with_reducible and_intros)<;>try exact sd
    iterate 2 (try (refine drvZ Try.func121 ?_;simp only [go_sem,hx,hlt,renCs_I,renCs_hdr,renCs_b0,renCs_b1,renCs_tr]))
    (with_reducible and_intros)<;>try exact sd
    by_cases h0:(evalE mi 5 (.mk vk vv vks)).1=0
    ·have hb0:((evalE mi 5 (.mk vk vv vks)).1 != 0)=false:=by simp [h0]
     have hrun:runS (d' + 1) mi (.mk 3 t (.mk ik iv iks) (.mk vk vv vks) c b e)=((runL d' mi e).1,(evalE mi 5 (.mk vk vv vks)).2++[⟨1,0⟩]++(runL d' mi e).2):=by
      simp only [runS,show ¬ ((3:Int)=4) by decide,show ¬ ((3:Int)=1) by decide,show ¬ ((3:Int)=5) by decide,show ¬ ((3:Int)=2) by decide,if_false]
      rw [if_neg (fun h=>h h0)];rfl
     rw [hrun] at hn1 hn2
     have hlen5:(ti++(evalE mi 5 (.mk vk vv vks)).2++[(⟨1,0⟩:Ev)]).length=(ti++(evalE mi 5 (.mk vk vv vks)).2).length+1:=by simp;omega
     have hLb:(ti++(evalE mi 5 (.mk vk vv vks)).2++[(⟨1,0⟩:Ev)]).length+wt d' * lsize d' e≤1073741824:=by
      rw [hlen5];omega
     refine XK.plain (truth _) ok96 ?_ (hbT ())
     iterate 2 (try (refine drvZ Try.func121 ?_;simp only [go_sem,hx,hlt,renCs_I,renCs_hdr,renCs_b0,renCs_b1,renCs_tr,hb0]))
     refine XK.callG [0,4800,2,3,4,5] (event2 p mi hmi 1 0 (ti++(evalE mi 5 (.mk vk vv vks)).2) (by omega)) ok170 (hhp6 (by simp [hOf,upd,renCs,renC,rk0]) (by simp [hOf,upd,renCs_tr,renCs,renC]) (by simp [hOf,upd,renCs_I]) (by simp [hOf,upd,renCs_hdr,rk0]) (by simp [hOf,upd,renCs_b0]) (by simp [hOf,upd,renCs_b1])) (hbT ()) (fun d h' ⟨_,e⟩=>by subst e;simp [stP']) ?_
     rintro _ _ ⟨rfl,rfl⟩ _
     unfold stP'
     iterate 4 (try (refine drvZ Try.func121 ?_;simp only [go_sem,hx,hlt,renCs_I,renCs_hdr,renCs_b0,renCs_b1,renCs_tr,h0]))
     refine XK.callG [0,5824,2,3,4,5] (ih mi e (ti++(evalE mi 5 (.mk vk vv vks)).2++[⟨1,0⟩]) hmi he hLb) ok121 (hhp6 (by simp [hOf,upd,renCs,renC,rk0]) (by simp [hOf,upd,renCs_tr,renCs,renC]) (by simp [hOf,upd,renCs_I]) (by simp [hOf,upd,renCs_hdr,rk0]) (by simp [hOf,upd,renCs_b0]) (by simp [hOf,upd,renCs_b1])) (hbT ()) (fun d h' ⟨_,e⟩=>by subst e;simp [stP']) ?_
     rintro _ _ ⟨rfl,rfl⟩ _
     unfold stP'
     iterate 4 (try (refine drvZ Try.func121 ?_;simp only [go_sem,hx,hlt,renCs_I,renCs_hdr,renCs_b0,renCs_b1,renCs_tr]))
     (with_reducible and_intros)<;>try exact sd
     have ag:=again (i+1)
     simp only [hn1,hn2] at ag
     exact ag _ [] _ hlt (by omega) (mqRunI rfl rfl rfl rfl rfl rfl rfl rfl rfl rfl (by decide) rfl rfl rfl (by simp only [List.append_assoc]) (by simp only [List.append_assoc]))
    ·have hb0:((evalE mi 5 (.mk vk vv vks)).1 != 0)=true:=by simp [h0]
     have hrun:runS (d' + 1) mi (.mk 3 t (.mk ik iv iks) (.mk vk vv vks) c b e)=((runL d' mi b).1,(evalE mi 5 (.mk vk vv vks)).2++[⟨1,1⟩]++(runL d' mi b).2):=by
      simp only [runS,show ¬ ((3:Int)=4) by decide,show ¬ ((3:Int)=1) by decide,show ¬ ((3:Int)=5) by decide,show ¬ ((3:Int)=2) by decide,if_false]
      rw [if_pos h0];rfl
     rw [hrun] at hn1 hn2
     have hlen5:(ti++(evalE mi 5 (.mk vk vv vks)).2++[(⟨1,1⟩:Ev)]).length=(ti++(evalE mi 5 (.mk vk vv vks)).2).length+1:=by simp;omega
     have hLb:(ti++(evalE mi 5 (.mk vk vv vks)).2++[(⟨1,1⟩:Ev)]).length+wt d' * lsize d' b≤1073741824:=by
      rw [hlen5];omega
     refine XK.plain (truth _) ok96 ?_ (hbT ())
     iterate 2 (try (refine drvZ Try.func121 ?_;simp only [go_sem,hx,hlt,renCs_I,renCs_hdr,renCs_b0,renCs_b1,renCs_tr,hb0]))
     refine XK.callG [0,4800,2,3,4,5] (event2 p mi hmi 1 1 (ti++(evalE mi 5 (.mk vk vv vks)).2) (by omega)) ok170 (hhp6 (by simp [hOf,upd,renCs,renC,rk0]) (by simp [hOf,upd,renCs_tr,renCs,renC]) (by simp [hOf,upd,renCs_I]) (by simp [hOf,upd,renCs_hdr,rk0]) (by simp [hOf,upd,renCs_b0]) (by simp [hOf,upd,renCs_b1])) (hbT ()) (fun d h' ⟨_,e⟩=>by subst e;simp [stP']) ?_
     rintro _ _ ⟨rfl,rfl⟩ _
     unfold stP'
     iterate 4 (try (refine drvZ Try.func121 ?_;simp only [go_sem,hx,hlt,renCs_I,renCs_hdr,renCs_b0,renCs_b1,renCs_tr,h0]))
     refine XK.callG [0,5824,2,3,4,5] (ih mi b (ti++(evalE mi 5 (.mk vk vv vks)).2++[⟨1,1⟩]) hmi hb hLb) ok121 (hhp6 (by simp [hOf,upd,renCs,renC,rk0]) (by simp [hOf,upd,renCs_tr,renCs,renC]) (by simp [hOf,upd,renCs_I]) (by simp [hOf,upd,renCs_hdr,rk0]) (by simp [hOf,upd,renCs_b0]) (by simp [hOf,upd,renCs_b1])) (hbT ()) (fun d h' ⟨_,e⟩=>by subst e;simp [stP']) ?_
     rintro _ _ ⟨rfl,rfl⟩ _
     unfold stP'
     iterate 4 (try (refine drvZ Try.func121 ?_;simp only [go_sem,hx,hlt,renCs_I,renCs_hdr,renCs_b0,renCs_b1,renCs_tr]))
     (with_reducible and_intros)<;>try exact sd
     have ag:=again (i+1)
     simp only [hn1,hn2] at ag
     exact ag _ [] _ hlt (by omega) (mqRunI rfl rfl rfl rfl rfl rfl rfl rfl rfl rfl (by decide) rfl rfl rfl (by simp only [List.append_assoc]) (by simp only [List.append_assoc]))
   ·subst hk
    have hw:wt (d' + 1)=3 * wt d':=by unfold wt;rw [Nat.pow_succ];omega
    have hts:tsize (d' + 1) (.mk 4 t (.mk ik iv iks) (.mk vk vv vks) c b e)=1+lsize d' b+lsize d' e:=rfl
    have hbig:3 * (wt d' * lsize d' b)≤wt (d' + 1) * tsize (d' + 1) (.mk 4 t (.mk ik iv iks) (.mk vk vv vks) c b e):=by
     rw [hts,hw,Nat.mul_add,Nat.mul_add,Nat.mul_assoc,Nat.mul_assoc,Nat.mul_assoc];omega
    have hit:=fun n=>iterR_ok (p:=p) (f:=fun m=>foldR (runS d') m b) (w:=wt d' * lsize d' b) (fun m hm=>runL_ok hm hb) n mi hmi
    have hrun:runS (d' + 1) mi (.mk 4 t (.mk ik iv iks) (.mk vk vv vks) c b e)=iterR (fun m=>foldR (runS d') m b) c.toNat mi:=by simp only [runS,if_true]
    rw [hrun] at hn1 hn2
    refine drvL Try.func121 ?_
    simp only [go_sem,hx,hlt,renCs_I,renCs_hdr,renCs_b0,renCs_b1,renCs_tr]
    iterate 4 (try (refine drvZ Try.func121 ?_;simp only [go_sem,hx,hlt,renCs_I,renCs_hdr,renCs_b0,renCs_b1,renCs_tr]))
    refine Go.loopQ (fun n : Nat => [(0, .c (.ptr 0 0)), (8, .c (.isl 11 (St1.cellsL l))), (9, DI .i64 l.length), (10, DI .i64 i), (5, .c (.ptr 22 0)), (18, DI .i64 c), (19, DI .i64 n)])
     (fun n=>[(0,some [.msl 2 1 0 p.vars.length,.msl 3 1 0 p.arrays.length,.msl 20 2 0 (ti++(iterR (fun m=>foldR (runS d') m b) n mi).2).length]),(1,none),(2,some ((iterR (fun m=>foldR (runS d') m b) n mi).1.vals.map I64)),(3,some (hdr 4 5 p.arrays.length)),(4,some (blk0 (iterR (fun m=>foldR (runS d') m b) n mi).1.arrays)),(5,some (blk1 (iterR (fun m=>foldR (runS d') m b) n mi).1.arrays)),(20,some (trC (ti++(iterR (fun m=>foldR (runS d') m b) n mi).2))),(22,some (St1.cells (.mk 4 t (.mk ik iv iks) (.mk vk vv vks) c b e)))])
     8192 (fun n=>n≤c.toNat) (fun n=>c.toNat - n) ?_ 0 _ [] _ (Nat.zero_le _) (mqRepI (cells_kf _ _ _ _ _ _ _ _ _ _ _) rfl rfl rfl rfl rfl rfl rfl rfl rfl rfl rfl rfl rfl rfl (by decide) rfl rfl rfl (by simp [iterR]) (by simp [iterR]))
    intro n hn again2
    refine drvL Try.func121 ?_
    rcases Nat.lt_or_ge n c.toNat with hlt2 | hge2
    ·have hnc:(n:Int)<c:=by omega
     simp only [go_sem,hx,hlt,renCs_I,renCs_hdr,renCs_b0,renCs_b1,renCs_tr,hnc]
     iterate 3 (try (refine drvZ Try.func121 ?_;simp only [go_sem,hx,hlt,renCs_I,renCs_hdr,renCs_b0,renCs_b1,renCs_tr,hnc]))
     have hX:(ti++(iterR (fun m=>foldR (runS d') m b) n mi).2).length+wt d' * lsize d' b≤1073741824:=by
      have g1:=(hit n).2
      have hc3':n+1≤3:=by omega
      have g2:=Nat.mul_le_mul_right (wt d' * lsize d' b) hc3'
      rw [Nat.add_mul] at g2
      rw [List.length_append]
      omega
     refine XK.callG [0,20,2,3,4,5] (ih (iterR (fun m=>foldR (runS d') m b) n mi).1 b (ti++(iterR (fun m=>foldR (runS d') m b) n mi).2) (hit n).1 hb hX) ok121 (hhp6 (by simp [hOf,upd,renCs,renC,rk0]) (by simp [hOf,upd,renCs_tr,renCs,renC]) (by simp [hOf,upd,renCs_I]) (by simp [hOf,upd,renCs_hdr,rk0]) (by simp [hOf,upd,renCs_b0]) (by simp [hOf,upd,renCs_b1])) (hbT ()) (fun d h' ⟨_,e⟩=>by subst e;simp [stP']) ?_
     rintro _ _ ⟨rfl,rfl⟩ _
     unfold stP'
     iterate 3 (try (refine drvZ Try.func121 ?_;simp only [go_sem,hx,hlt,renCs_I,renCs_hdr,renCs_b0,renCs_b1,renCs_tr]))
     (with_reducible and_intros)<;>try exact sd
     exact again2 (n+1) _ [] _ hlt2 (by omega) (mqRepI (cells_kf _ _ _ _ _ _ _ _ _ _ _) rfl rfl rfl rfl rfl rfl rfl rfl rfl rfl rfl rfl rfl rfl (by decide) rfl rfl rfl (by simp only [iterR,runL,List.append_assoc]) (by simp only [iterR,runL,List.append_assoc]))
    ·have hnc:¬ (n:Int)<c:=by omega
     simp only [go_sem,hx,hlt,renCs_I,renCs_hdr,renCs_b0,renCs_b1,renCs_tr,hnc]
     iterate 3 (try (refine drvZ Try.func121 ?_;simp only [go_sem,hx,hlt,renCs_I,renCs_hdr,renCs_b0,renCs_b1,renCs_tr,hnc]))
     (with_reducible and_intros)<;>try exact sd
     obtain rfl:n=c.toNat:=by omega
     have ag:=again (i+1)
     simp only [hn1,hn2] at ag
     exact ag _ [] _ hlt (by omega) (mqRunI rfl rfl rfl rfl rfl rfl rfl rfl rfl rfl (by decide) rfl rfl rfl rfl rfl)
  ·have hn:¬ i<l.length:=by omega
   obtain rfl:i=l.length:=by omega
   refine drvL Try.func121 ?_
   simp only [go_sem,hn,List.take_length]
   iterate 2 (try (refine drvZ Try.func121 ?_;simp only [go_sem,hn,List.take_length]))
   exact ret _ _ _ _ _ rfl rfl rfl rfl rfl rfl rfl (by omega) rfl rfl
 ·simp only [go_sem,TmOK,DM,DMs,CM,CMs,forall_eq,exists_eq_left,Mq,HpOK,LowOK,CMs_I,CMs_hdr,CMs_b0,CMs_b1,CMs_tr]
  simp [runL,foldR,CMs_tr,CMs_I,CMs_b0,CMs_b1]
end Go.Proofs.Ytddanjifhdaebaa.CtR
