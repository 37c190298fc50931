/- Contracts of functions of the program, one behind the other, as plain data: what each call returns and which blocks it leaves. -/
import Derived.Test.YtddanjifhdaebaaHFacts
import Derived.Test.YtddanjifhdaebaaHAn
import Derived.Test.YtddanjifhdaebaaHAl
import Derived.Test.YtddanjifhdaebaaHAm
set_option linter.unusedVariables false
set_option linter.unusedSimpArgs false
set_option linter.unusedSectionVars false
set_option maxHeartbeats 16000000
set_option maxRecDepth 100000
namespace Go.Proofs.Ytddanjifhdaebaa.CtR
open Go Go.CT CtF
variable [Yn]
def stI (m:Mm) (tr:List Ev):List (Option (List C)):=[some [.msl 2 1 0 m.vals.length,.msl 3 1 0 m.arrays.length,.msl 1 2 0 tr.length],some (trC tr),some (m.vals.map I64),some (hdr 4 5 m.arrays.length),some (blk0 m.arrays),some (blk1 m.arrays)]
def stI' (m:Mm) (tr:List Ev):List (Option (List C)):=[some [.msl 2 1 0 m.vals.length,.msl 3 1 0 m.arrays.length,.msl 6 2 0 tr.length],none,some (m.vals.map I64),some (hdr 4 5 m.arrays.length),some (blk0 m.arrays),some (blk1 m.arrays),some (trC tr)]
theorem RetOb.stI {R : D → List (Option (List C)) → Prop} {m : Mm} {tr : List Ev} {d : D} {hp : Hp} (kt n : Nat) (cs : List C) (hR : R d (stI' m tr)) (hd : kD d) (e0 : hp 0 = some (some [.msl 2 1 0 m.vals.length, .msl 3 1 0 m.arrays.length, .msl kt 2 0 n]))
 (e2:hp 2=some (some (m.vals.map I64))) (e3:hp 3=some (some (hdr 4 5 m.arrays.length))) (e4:hp 4=some (some (blk0 m.arrays))) (e5:hp 5=some (some (blk1 m.arrays))) (ek:hp kt=some (some cs)) (hk:kt=1∨6≤kt) (hcs:cs=trC tr) (hn:n=tr.length):RetOb 6 R d hp:=by
 subst hcs hn
 refine RetOb.ofQ (fun j=>if j=6 then some kt else some j) [] d (CtR.stI' m tr) ⟨DM.kD hd,?_⟩ hR (by simp [CtR.stI'])
 simp [CtR.stI',enumL,hOf,CM,CMs,HpOK,LowOK,upd,CMs_I,CMs_tr,CMs_hdr,CMs_b0,CMs_b1,e0,e2,e3,e4,e5,ek]
 omega
theorem hhp6 {hp : Hp} {r : Nat → Nat} {k0 k1 k2 k3 k4 k5 : Nat} {h0 h1 h2 h3 h4 h5 : Option (List C)} (e0 : hp k0 = some (h0.map (renCs r))) (e1 : hp k1 = some (h1.map (renCs r))) (e2 : hp k2 = some (h2.map (renCs r))) (e3 : hp k3 = some (h3.map (renCs r))) (e4 : hp k4 = some (h4.map (renCs r))) (e5 : hp k5 = some (h5.map (renCs r))) :
 ∀ i' x,[h0,h1,h2,h3,h4,h5][i']? = some x→hp ([k0,k1,k2,k3,k4,k5].getD i' 0)=some (x.map (renCs r)):=by
 intro i' x hx
 match i',hx with
 | 0,hx=>simp only [List.getElem?_cons_zero,Option.some.injEq] at hx;subst hx;exact e0
 | 1,hx=>simp only [List.getElem?_cons_succ,List.getElem?_cons_zero,Option.some.injEq] at hx;subst hx;exact e1
 | 2,hx=>simp only [List.getElem?_cons_succ,List.getElem?_cons_zero,Option.some.injEq] at hx;subst hx;exact e2
 | 3,hx=>simp only [List.getElem?_cons_succ,List.getElem?_cons_zero,Option.some.injEq] at hx;subst hx;exact e3
 | 4,hx=>simp only [List.getElem?_cons_succ,List.getElem?_cons_zero,Option.some.injEq] at hx;subst hx;exact e4
 | 5,hx=>simp only [List.getElem?_cons_succ,List.getElem?_cons_zero,Option.some.injEq] at hx;subst hx;exact e5
 | i' + 6,hx=>simp at hx
theorem event (m : Mm) (k0 v0 : Int) (tr : List Ev) (htr : tr.length + 1 ≤ 1073741824) :
 DC Try.prog 170 [.c (.ptr 0 0),DI .i64 k0,DI .i64 v0] (stI m tr) (fun d h=>d = .tup []∧h=stI' m (tr++[⟨k0,v0⟩])):=by
 have hmx:=mx_eq
 have hl:=trC_len tr
 unfold stI
 refine dc_of_go Try.func170 rfl (by simp) ?_
 refine drv_sound (n:=100) (rs:=_) Try.func170 mo rfl none _ _ ?_
 simp only [go_sem,isI,I64]
 (with_reducible and_intros)<;>try exact sd
 refine RetOb.ofQ (fun j=>if j=6 then some 582 else some j) [] (.tup []) (stI' m (tr++[⟨k0,v0⟩])) ?_ ⟨rfl,rfl⟩ (by simp [stI'])
 simp [stI',enumL,hOf,DM,DMs,CM,CMs,HpOK,LowOK,upd,CMs_I,CMs_tr,CMs_hdr,CMs_b0,CMs_b1,hpL,trC_snoc]
 exact CMs.kf (kf_app (trC_kf _) (by simp [kf]))
theorem evalI (p : Pg) (m : Mm) (hm : MemFits p m) : ∀ (d : Nat) (e : Ex) (tr : List Ev), shape p d e = true → tr.length + cnt d e ≤ 1073741824 → DC Try.prog 169 [.c (.ptr 0 0), .agg e.cells] (stI m tr)
 (fun r h=>r=DI .i64 (evalE m d e).1∧h=stI' m (tr++(evalE m d e).2)):=by
 have hmx:=mx_eq
 intro d
 induction d using Nat.strongRecOn with
 | _ d ih =>
  intro e tr hsh htr
  obtain ⟨k,v,ks⟩:=e
  obtain ⟨d',rfl⟩:∃ d',d=d' + 1:=by
   cases d with
   | zero=>simp [shape] at hsh
   | succ d'=>exact ⟨d',rfl⟩
  obtain ⟨h1,h2,h3⟩:=shape_succ hsh
  obtain ⟨hl3,hla,hv0,hv1⟩:=fits_len h1
  generalize hR:(fun (r:D) (h:List (Option (List C)))=>r=DI .i64 (evalE m (d' + 1) (.mk k v ks)).1∧h=stI' m (tr++(evalE m (d' + 1) (.mk k v ks)).2))=R
  have ret:∀ (x:Int) (kt n:Nat) (cs:List C) (tr':List Ev) (hp:Hp),x=(evalE m (d' + 1) (.mk k v ks)).1→tr'=tr++(evalE m (d' + 1) (.mk k v ks)).2→hp 0=some (some [.msl 2 1 0 m.vals.length,.msl 3 1 0 m.arrays.length,.msl kt 2 0 n]) →
   hp 2=some (some (m.vals.map I64))→hp 3=some (some (hdr 4 5 m.arrays.length))→hp 4=some (some (blk0 m.arrays))→hp 5=some (some (blk1 m.arrays))→hp kt=some (some cs)→(kt=1∨6≤kt)→cs=trC tr'→n=tr'.length→RetOb 6 R (DI .i64 x) hp:=by
   rintro x kt n cs tr' hp rfl rfl e0 e2 e3 e4 e5 ek hk hcs hn
   subst hR
   exact RetOb.stI kt n cs ⟨rfl,rfl⟩ rfl e0 e2 e3 e4 e5 ek hk hcs hn
  unfold stI
  refine dc_of_go Try.func169 rfl (by simp) ?_
  refine drv_sound (n:=14) (rs:=_) Try.func169 mo rfl none _ _ ?_
  simp only [go_sem]
  refine drv_sound (n:=100) (rs:=_) Try.func169 mo rfl _ _ _ ?_
  simp only [go_sem]
  refine Go.loopQ (fun i : Nat => [(0, .c (.ptr 0 0)), (3, .c (.ptr 6 0)), (5, .c (.msl 21 1 0 i)), (9, .c (.isl 3 (Ex.cellsL ks))), (10, DI .i64 ks.length), (11, DI .i64 i)])
   (fun i=>[(0,some [.msl 2 1 0 m.vals.length,.msl 3 1 0 m.arrays.length,.msl 20 2 0 (tr++evs m d' (ks.take i)).length]),(1,none),(2,some (m.vals.map I64)),(3,some (hdr 4 5 m.arrays.length)),(4,some (blk0 m.arrays)),(5,some (blk1 m.arrays)),(6,some (Ex.cells (.mk k v ks))),(20,some (trC (tr++evs m d' (ks.take i)))),(21,some ((vas m d' (ks.take i)).map I64))])
   4096 (fun i=>i≤ks.length) (fun i=>ks.length - i) ?_ 0 (fun j=>if j=20 then some 1 else if j=21 then none else some j) [] _ (Nat.zero_le _) ?_
  ·intro i hi again
   refine drv_sound (n:=100) (rs:=_) Try.func169 mo rfl none _ _ ?_
   rcases Nat.lt_or_ge i ks.length with hlt | hge
   ·obtain ⟨⟨k',v',ks'⟩,hx⟩:∃ x,ks[i]? = some x:=⟨ks[i],by simp [hlt]⟩
    simp only [go_sem,hx,hlt]
    (with_reducible and_intros)<;>try exact sd
    have hmem:=List.mem_of_getElem? hx
    have hsk:=h2 _ hmem
    have hcnt:(tr++evs m d' (ks.take i)).length+cnt d' (.mk k' v' ks')≤1073741824:=by
     have g1:=evs_len_le (m:=m) (fun e he=>evalE_len d' e he) (ks.take i) (fun x hx=>h2 x (List.mem_of_mem_take hx))
     have g2:=tsum_succ (cnt d') ks i _ hx
     have g3:=tsum_le (cnt d') ks (i+1)
     unfold tsum at g2 g3
     simp only [cnt] at htr
     rw [List.length_append]
     omega
    refine XK.callG [0,20,2,3,4,5] (ih d' (by omega) (.mk k' v' ks') (tr++evs m d' (ks.take i)) hsk hcnt) ok169 (hhp6 (by simp [hOf,upd,renCs,renC,rk0]) (by simp [hOf,upd,renCs_tr]) (by simp [hOf,upd,renCs_I]) (by simp [hOf,upd,renCs_hdr,rk0]) (by simp [hOf,upd,renCs_b0]) (by simp [hOf,upd,renCs_b1])) (hbT ()) (fun d h' ⟨_,e⟩=>by subst e;simp [stI,stI']) ?_
    rintro _ _ ⟨rfl,rfl⟩ _
    unfold stI'
    refine drv_sound (n:=100) (rs:=_) Try.func169 mo rfl (some _) _ _ ?_
    simp only [go_sem,hx,hlt,renCs_I,renCs_hdr,renCs_b0,renCs_b1,renCs_tr]
    have hva:=vas_succ m d' ks i _ hx
    have hev:=evs_succ m d' ks i _ hx
    have hvl:(vas m d' (ks.take i)).length=i:=by rw [vas_len,List.length_take];omega
    (with_reducible and_intros)<;>try exact sd
    refine again (i+1) (fun j=>if j=20 then some 4608 else if j=21 then some 4736 else some j) [] _ hlt (by omega) ?_
    simp only [go_sem,TmOK,DM,DMs,CM,CMs,forall_eq,exists_eq_left,Mq,HpOK,LowOK,CMs_I,CMs_hdr,CMs_b0,CMs_b1,CMs_tr,hva,hev]
    simp [CMs_I,CMs_tr,trC_app]
    exact ⟨CMs.kf (kf_app (trC_kf _) (kf_app (trC_kf _) (trC_kf _))),CMs.kf (kf_app (kf_I _) (kf_I [_]))⟩
   ·have hn:¬ i<ks.length:=by omega
    obtain rfl:i=ks.length:=by omega
    have hr0:=vas_range hm h2 0
    have hr1:=vas_range hm h2 1
    have hvx0:=vas_get m d' ks 0
    have hvx1:=vas_get m d' ks 1
    have hvx2:=vas_get m d' ks 2
    have hlen:=evs_len_le (m:=m) (fun e he=>evalE_len d' e he) ks h2
    have hll:(tr++evs m d' ks).length=tr.length+(evs m d' ks).length:=List.length_append
    have htr2:=htr
    simp only [cnt] at htr2
    by_cases hk1:k=1
    ·subst hk1
     have hks:ks=[]:=by simpa [arity] using hla
     subst hks
     simp only [go_sem,hn,List.take_length,Ex.cellsL]
     exact ret _ _ _ _ (tr++evs m d' []) _ (by simp [evalE]) (by simp [evalE,evs]) rfl rfl rfl rfl rfl rfl (by omega) rfl rfl
    by_cases hk2:k=2
    ·subst hk2
     have hks:ks=[]:=by simpa [arity] using hla
     subst hks
     have hx:=(nth_mem (l:=m.vals) hv0 (by rw [hm.nv];exact hv1)).1
     have hvl:v<m.vals.length:=by rw [hm.nv];exact hv1
     simp only [go_sem,hn,List.take_length,Ex.cellsL,hx]
     (with_reducible and_intros)<;>try exact sd
     exact ret _ _ _ _ (tr++evs m d' []) _ (by simp [evalE]) (by simp [evalE,evs]) rfl rfl rfl rfl rfl rfl (by omega) rfl rfl
    by_cases hk3:k=3
    ·subst hk3
     have hl1:ks.length=1:=by simp [arity] at hla;omega
     have hvx0:=hvx0 (by omega)
     simp only [limit] at hv1
     have hna:=hm.na
     have hv2:v=0∨v=1:=by have:=hm.na2;simp at hv1;omega
     rcases hv2 with hv2 | hv2
     ·subst hv2
      have hnap:0<m.arrays.length:=by simp at hv1;omega
      have ha:=arrAt_mem (m:=m) (v:=0) (by omega) (by omega)
      have hh:(hdr 4 5 m.arrays.length)[0]? = some (.msl 4 1 0 4):=by
       unfold hdr;match m.arrays.length,hnap with | n+1,_=>rfl
      have hb:=(blk0_get hm hnap ((vas m d' ks).getD 0 0)).2
      have hx1:=Int.emod_nonneg ((vas m d' ks).getD 0 0) (show (4:Int) ≠ 0 by decide)
      have hx2:=Int.emod_lt_of_pos ((vas m d' ks).getD 0 0) (show (0:Int)<4 by decide)
      have hev:(evalE m (d' + 1) (.mk 3 0 ks))=(nth (arrAt m 0) ((vas m d' ks).getD 0 0 % 4),evs m d' ks++[⟨2,0 * 4+(vas m d' ks).getD 0 0 % 4⟩]):=rfl
      simp only [Int.zero_mul,Int.zero_add] at hev
      simp only [go_sem,hn,List.take_length,hvx0,hh,hb]
      (with_reducible and_intros)<;>try exact sd
      refine XK.plain (address 0 ((vas m d' ks).getD 0 0) (by omega) hr0) ok171 ?_ (hbT ()) (fun _=>by kernel_rfl) (hm:=by simp only [wkey];decide)
      refine drv_sound (n:=100) (rs:=_) Try.func169 mo rfl (some _) _ _ ?_
      simp only [go_sem,hvx0,hh,hb]
      (with_reducible and_intros)<;>try exact sd
      refine XK.callG [0,20,2,3,4,5] (event m 2 ((vas m d' ks).getD 0 0 % 4) (tr++evs m d' ks) (by omega)) ok170 (hhp6 (by simp [hOf,upd,renCs,renC,rk0]) (by simp [hOf,upd,renCs_tr]) (by simp [hOf,upd,renCs_I]) (by simp [hOf,upd,renCs_hdr,rk0]) (by simp [hOf,upd,renCs_b0]) (by simp [hOf,upd,renCs_b1])) (hbT ()) (fun d h' ⟨_,e⟩=>by subst e;simp [stI,stI']) ?_ (fun _=>⟨by kernel_rfl,_,_,⟨rfl,rfl⟩,by simp [stI,stI']⟩)
      rintro _ _ ⟨rfl,rfl⟩ _
      unfold stI'
      refine drv_sound (n:=100) (rs:=_) Try.func169 mo rfl (some _) _ _ ?_
      simp only [go_sem,hvx0,hh,hb,renCs_I,renCs_hdr,renCs_b0,renCs_b1,renCs_tr]
      (with_reducible and_intros)<;>try exact sd
      refine ret _ _ _ _ (tr++evs m d' ks++[⟨2,(vas m d' ks).getD 0 0 % 4⟩]) _ (by rw [hev]) (by rw [hev,List.append_assoc]) rfl rfl rfl rfl rfl rfl (by omega) rfl rfl
     ·subst hv2
      have hnap:1<m.arrays.length:=by simp at hv1;omega
      have ha:=arrAt_mem (m:=m) (v:=1) (by omega) (by omega)
      have hh:(hdr 4 5 m.arrays.length)[1]? = some (.msl 5 1 0 4):=by
       unfold hdr;match m.arrays.length,hnap with | n+2,_=>rfl
      have hb:=(blk1_get hm hnap ((vas m d' ks).getD 0 0)).2
      have hx1:=Int.emod_nonneg ((vas m d' ks).getD 0 0) (show (4:Int) ≠ 0 by decide)
      have hx2:=Int.emod_lt_of_pos ((vas m d' ks).getD 0 0) (show (0:Int)<4 by decide)
      have hev:(evalE m (d' + 1) (.mk 3 1 ks))=(nth (arrAt m 1) ((vas m d' ks).getD 0 0 % 4),evs m d' ks++[⟨2,1 * 4+(vas m d' ks).getD 0 0 % 4⟩]):=rfl
      simp only [go_sem,hn,List.take_length,hvx0,hh,hb]
      (with_reducible and_intros)<;>try exact sd
      refine XK.plain (address 1 ((vas m d' ks).getD 0 0) (by omega) hr0) ok171 ?_ (hbT ()) (fun _=>by kernel_rfl) (hm:=by simp only [wkey];decide)
      refine drv_sound (n:=100) (rs:=_) Try.func169 mo rfl (some _) _ _ ?_
      simp only [go_sem,hvx0,hh,hb]
      (with_reducible and_intros)<;>try exact sd
      refine XK.callG [0,20,2,3,4,5] (event m 2 (1 * 4+(vas m d' ks).getD 0 0 % 4) (tr++evs m d' ks) (by omega)) ok170 (hhp6 (by simp [hOf,upd,renCs,renC,rk0]) (by simp [hOf,upd,renCs_tr]) (by simp [hOf,upd,renCs_I]) (by simp [hOf,upd,renCs_hdr,rk0]) (by simp [hOf,upd,renCs_b0]) (by simp [hOf,upd,renCs_b1])) (hbT ()) (fun d h' ⟨_,e⟩=>by subst e;simp [stI,stI']) ?_ (fun _=>⟨by kernel_rfl,_,_,⟨rfl,rfl⟩,by simp [stI,stI']⟩)
      rintro _ _ ⟨rfl,rfl⟩ _
      unfold stI'
      refine drv_sound (n:=100) (rs:=_) Try.func169 mo rfl (some _) _ _ ?_
      simp only [go_sem,hvx0,hh,hb,renCs_I,renCs_hdr,renCs_b0,renCs_b1,renCs_tr]
      (with_reducible and_intros)<;>try exact sd
      refine ret _ _ _ _ (tr++evs m d' ks++[⟨2,1 * 4+(vas m d' ks).getD 0 0 % 4⟩]) _ (by rw [hev]) (by rw [hev,List.append_assoc]) rfl rfl rfl rfl rfl rfl (by omega) rfl rfl
    have e1:(k == 1)=false:=by simp [hk1]
    have e2:(k == 2)=false:=by simp [hk2]
    have e3:(k == 3)=false:=by simp [hk3]
    by_cases hk11:k=11
    ·subst hk11
     have hl1:ks.length=3:=by simp [arity] at hla;omega
     have hvx0:=hvx0 (by omega)
     have hvx1:=hvx1 (by omega)
     have hvx2:=hvx2 (by omega)
     have hev:(evalE m (d' + 1) (.mk 11 v ks))=(if (vas m d' ks).getD 0 0 ≠ 0 then (vas m d' ks).getD 1 0 else (vas m d' ks).getD 2 0,evs m d' ks):=rfl
     simp only [go_sem,hn,List.take_length,hvx0,hvx1,hvx2]
     refine ⟨by omega,fun h0=>⟨by omega,ret _ _ _ _ (tr++evs m d' ks) _ (by rw [hev];exact (if_pos h0).symm) (by rw [hev]) rfl rfl rfl rfl rfl rfl (by omega) rfl rfl⟩,fun h0=>⟨by omega,ret _ _ _ _ (tr++evs m d' ks) _ (by rw [hev];exact (if_neg fun h=>h h0).symm) (by rw [hev]) rfl rfl rfl rfl rfl rfl (by omega) rfl rfl⟩⟩
    ·have e11:(k == 11)=false:=by simp [hk11]
     have hl1:ks.length=2:=by
      unfold arity at hla
      repeat' split at hla
      all_goals omega
     have hvx0:=hvx0 (by omega)
     have hvx1:=hvx1 (by omega)
     have hev:(evalE m (d' + 1) (.mk k v ks))=(bin k ((vas m d' ks).getD 0 0) ((vas m d' ks).getD 1 0),evs m d' ks):=by
      simp only [evalE,if_neg hk1,if_neg hk2,if_neg hk3,if_neg hk11];rfl
     simp only [go_sem,hn,List.take_length,hk1,hk2,hk3,hk11,e1,e2,e3,e11,hvx0,hvx1]
     (with_reducible and_intros)<;>try exact sd
     refine XK.plain (operate k _ _ hr0 hr1) ok193 ?_ (hbT ()) (fun _=>by kernel_rfl) (hm:=by simp only [wkey];decide)
     refine drv_sound (n:=100) (rs:=_) Try.func169 mo rfl (some _) _ _ ?_
     simp only [go_sem]
     (with_reducible and_intros)<;>try exact sd
     exact ret _ _ _ _ (tr++evs m d' ks) _ (by rw [hev]) (by rw [hev]) rfl rfl rfl rfl rfl rfl (by omega) rfl rfl
  ·simp only [go_sem,TmOK,DM,DMs,CM,CMs,forall_eq,exists_eq_left,Mq,HpOK,LowOK,CMs_I,CMs_hdr,CMs_b0,CMs_b1,CMs_tr]
   simp [evs,vas,CMs_tr,CMs]
def setV (m:Mm) (t x:Int):Mm:=⟨m.vals.set t.toNat x,m.arrays⟩
def setA (m:Mm) (t i x:Int):Mm:=⟨m.vals,m.arrays.set t.toNat ((arrAt m t).set i.toNat x)⟩
def foldR (f : Mm → St1 → Mm × List Ev) : Mm → List St1 → Mm × List Ev
 | m,[]=>(m,[])
 | m,s :: r=>((foldR f (f m s).1 r).1,(f m s).2++(foldR f (f m s).1 r).2)
def iterR (f : Mm → Mm × List Ev) : Nat → Mm → Mm × List Ev
 | 0,m=>(m,[])
 | n+1,m=>((f (iterR f n m).1).1,(iterR f n m).2++(f (iterR f n m).1).2)
theorem foldR_snoc (f : Mm → St1 → Mm × List Ev) : ∀ (l : List St1) (m : Mm) (s : St1), foldR f m (l ++ [s]) = ((f (foldR f m l).1 s).1, (foldR f m l).2 ++ (f (foldR f m l).1 s).2)
 | [],m,s=>by simp [foldR]
 | a :: r,m,s=>by simp only [List.cons_append,foldR,foldR_snoc f r,List.append_assoc]
def runS : Nat → Mm → St1 → Mm × List Ev
 | 0,m,_=>(m,[])
 | d+1,m,.mk k t ix v c b e =>
  if k=4 then iterR (fun m=>foldR (runS d) m b) c.toNat m
  else if k=1 then (setV m t (evalE m 5 v).1,(evalE m 5 v).2)
  else if k=5 then (setV m t (evalE m 5 v).1,(evalE m 5 v).2++[⟨4,(evalE m 5 v).1⟩])
  else if k=2 then (setA m t ((evalE m 5 ix).1 % 4) (evalE m 5 v).1,(evalE m 5 v).2++[⟨3,t * 4+(evalE m 5 ix).1 % 4⟩])
  else if (evalE m 5 v).1 ≠ 0 then ((foldR (runS d) m b).1,(evalE m 5 v).2++[⟨1,1⟩]++(foldR (runS d) m b).2)
  else ((foldR (runS d) m e).1,(evalE m 5 v).2++[⟨1,0⟩]++(foldR (runS d) m e).2)
def runL (d:Nat) (m:Mm) (l:List St1):Mm × List Ev:=foldR (runS d) m l
theorem runL_succ (d : Nat) (m : Mm) (l : List St1) (i : Nat) (s : St1) (h : l[i]? = some s) :
 runL d m (l.take (i+1))=((runS d (runL d m (l.take i)).1 s).1,(runL d m (l.take i)).2++(runS d (runL d m (l.take i)).1 s).2):=by
 unfold runL;rw [List.take_add_one,h];exact foldR_snoc _ _ _ _
theorem set_mem {l:List Int} {i:Nat} {x y:Int} (h:y ∈ l.set i x):y ∈ l∨y=x:=List.mem_or_eq_of_mem_set h
theorem MemFits.setV {p : Pg} {m : Mm} (hm : MemFits p m) {t x : Int} (hx : 0 ≤ x ∧ x ≤ 255) : MemFits p (setV m t x) where
 nv:=by simp [CtR.setV,hm.nv]
 na:=hm.na
 nv12:=hm.nv12
 na2:=hm.na2
 val:=fun y hy=>(set_mem hy).elim (hm.val y) fun h=>by rw [h];exact hx
 arr:=hm.arr
theorem MemFits.setA {p : Pg} {m : Mm} (hm : MemFits p m) {t i x : Int} (ht : 0 ≤ t ∧ t < m.arrays.length) (hx : 0 ≤ x ∧ x ≤ 255) : MemFits p (setA m t i x) where
 nv:=hm.nv
 na:=by simp [CtR.setA,hm.na]
 nv12:=hm.nv12
 na2:=hm.na2
 val:=hm.val
 arr:=fun a ha=>by
  have h4:=hm.arr _ (arrAt_mem ht.1 ht.2).2
  rcases List.mem_or_eq_of_mem_set ha with h | h
  ·exact hm.arr a h
  ·subst h
   exact ⟨by simp [h4.1],fun y hy=>(set_mem hy).elim (h4.2 y) fun h=>by rw [h];exact hx⟩
theorem stmtOK_succ {p : Pg} {d : Nat} {k t : Int} {ix v : Ex} {c : Int} {b e : List St1} (h : stmtOK p (d + 1) (.mk k t ix v c b e) = true) :
 headOK p k t ix v c b.length e.length=true∧(∀ x ∈ b,stmtOK p d x=true)∧(∀ x ∈ e,stmtOK p d x=true):=by
 simp only [stmtOK,Bool.and_eq_true,List.all_eq_true] at h
 exact ⟨h.1.1,h.1.2,h.2⟩
theorem right_shape {p:Pg} {e:Ex} (h:right p e=true):shape p 5 e=true∧cnt 5 e≤15:=by
 simp only [right,Bool.and_eq_true,decide_eq_true_eq] at h
 exact ⟨h.1,by omega⟩
theorem head_kind {p : Pg} {k t : Int} {ix v : Ex} {c : Int} {bn en : Nat} (h : headOK p k t ix v c bn en = true) :
 (k=1∨k=5)∧0≤t∧t<p.vars.length∧right p v=true∨k=2∧0≤t∧t<p.arrays.length∧right p ix=true∧atom ix=true∧right p v=true∨k=3∧right p v=true∨k=4∧1≤c∧c≤3:=by
 unfold headOK parts blk at h
 by_cases h1:k=1∨k=5
 ·left;simp only [if_pos h1] at h;grind
 ·right
  by_cases h2:k=2
  ·left;subst h2;simp at h;grind
  ·right
   by_cases h3:k=3
   ·left;subst h3;simp at h;grind
   ·right
    have h4:k=4:=by grind
    subst h4;simp at h;grind
def wt (d:Nat):Nat:=20 * 3 ^ d
theorem foldR_ok {p : Pg} {f : Mm → St1 → Mm × List Ev} {q : St1 → Bool} {w : St1 → Nat} (hf : ∀ m s, MemFits p m → q s = true → MemFits p (f m s).1 ∧ (f m s).2.length ≤ w s) :
 ∀ (l:List St1) (m:Mm),MemFits p m→(∀ s ∈ l,q s=true)→MemFits p (foldR f m l).1∧(foldR f m l).2.length≤(l.map w).sum
 | [],m,hm,_=>⟨hm,by simp [foldR]⟩
 | a :: r,m,hm,hq=>by
  have h1:=hf m a hm (hq a (by simp))
  have h2:=foldR_ok hf r _ h1.1 fun s hs=>hq s (by simp [hs])
  refine ⟨h2.1,?_⟩
  simp only [foldR,List.length_append,List.map_cons,List.sum_cons]
  omega
theorem iterR_ok {p : Pg} {f : Mm → Mm × List Ev} {w : Nat} (hf : ∀ m, MemFits p m → MemFits p (f m).1 ∧ (f m).2.length ≤ w) : ∀ (n : Nat) (m : Mm), MemFits p m → MemFits p (iterR f n m).1 ∧ (iterR f n m).2.length ≤ n * w
 | 0,m,hm=>⟨hm,by simp [iterR]⟩
 | n+1,m,hm=>by
  have h1:=iterR_ok hf n m hm
  have h2:=hf _ h1.1
  refine ⟨h2.1,?_⟩
  simp only [iterR,List.length_append,Nat.add_mul]
  omega
theorem sum_mul (f : St1 → Nat) (k : Nat) : ∀ l : List St1, (l.map fun s => k * f s).sum = k * (l.map f).sum
 | []=>by simp
 | a :: r=>by simp only [List.map_cons,List.sum_cons,sum_mul f k r,Nat.mul_add]
theorem runS_ok {p : Pg} : ∀ (d : Nat) (m : Mm) (s : St1), MemFits p m → stmtOK p d s = true → MemFits p (runS d m s).1 ∧ (runS d m s).2.length ≤ wt d * tsize d s
 | 0,m,s,_,h=>by simp [stmtOK] at h
 | d+1,m,.mk k t ix v c b e,hm,h=>by
  obtain ⟨hh,hb,he⟩:=stmtOK_succ h
  have fb:=fun m' hm'=>foldR_ok (fun m s hm hs=>runS_ok d m s hm hs) b m' hm' hb
  have fe:=fun m' hm'=>foldR_ok (fun m s hm hs=>runS_ok d m s hm hs) e m' hm' he
  simp only [sum_mul] at fb fe
  have hw:wt (d+1)=3 * wt d:=by unfold wt;rw [Nat.pow_succ];omega
  have hw1:20≤wt d:=by unfold wt;have:0<3 ^ d:=Nat.pow_pos (by decide);omega
  have hts:tsize (d+1) (.mk k t ix v c b e)=1+(b.map (tsize d)).sum+(e.map (tsize d)).sum:=rfl
  have hbig:wt (d+1) * tsize (d+1) (.mk k t ix v c b e)=3 * wt d+3 * (wt d * (b.map (tsize d)).sum)+3 * (wt d * (e.map (tsize d)).sum):=by
   rw [hts,hw,Nat.mul_add,Nat.mul_add,Nat.mul_assoc,Nat.mul_assoc,Nat.mul_assoc];omega
  rw [hbig]
  rcases head_kind hh with ⟨hk,ht0,ht1,hr⟩ | ⟨hk,ht0,ht1,hri,hai,hr⟩ | ⟨hk,hr⟩ | ⟨hk,hc1,hc3⟩
  ·have hs:=right_shape hr
   have he1:=evalE_range hm 5 v hs.1
   have he2:=evalE_len (m:=m) 5 v hs.1
   have hk4:k ≠ 4:=by omega
   rcases hk with hk | hk
   ·subst hk
    simp only [runS,if_neg hk4,if_true]
    exact ⟨hm.setV he1,by omega⟩
   ·subst hk
    simp only [runS,if_neg hk4,if_true,show ¬ ((5:Int)=1) by decide,if_false]
    exact ⟨hm.setV he1,by simp;omega⟩
  ·have hs:=right_shape hr
   have he1:=evalE_range hm 5 v hs.1
   have he2:=evalE_len (m:=m) 5 v hs.1
   subst hk
   simp only [runS,show ¬ ((2:Int)=4) by decide,show ¬ ((2:Int)=1) by decide,show ¬ ((2:Int)=5) by decide,if_false,if_true]
   exact ⟨hm.setA ⟨ht0,by rw [hm.na];exact ht1⟩ he1,by simp;omega⟩
  ·have hs:=right_shape hr
   have he2:=evalE_len (m:=m) 5 v hs.1
   subst hk
   simp only [runS,show ¬ ((3:Int)=4) by decide,show ¬ ((3:Int)=1) by decide,show ¬ ((3:Int)=5) by decide,show ¬ ((3:Int)=2) by decide,if_false]
   have g1:=fb m hm
   have g2:=fe m hm
   split
   ·exact ⟨g1.1,by simp;omega⟩
   ·exact ⟨g2.1,by simp;omega⟩
  ·subst hk
   simp only [runS,if_true]
   have:=iterR_ok (f:=fun m=>foldR (runS d) m b) (fun m hm=>fb m hm) c.toNat m hm
   refine ⟨this.1,Nat.le_trans this.2 ?_⟩
   have hc:c.toNat≤3:=by omega
   have:=Nat.mul_le_mul_right (wt d * (b.map (tsize d)).sum) hc
   omega
theorem runL_ok {p:Pg} {d:Nat} {m:Mm} {l:List St1} (hm:MemFits p m) (h:∀ s ∈ l,stmtOK p d s=true):MemFits p (runL d m l).1∧(runL d m l).2.length≤wt d * lsize d l:=by
 have:=foldR_ok (fun m s hm hs=>runS_ok d m s hm hs) l m hm h
 rw [sum_mul] at this
 exact this
end Go.Proofs.Ytddanjifhdaebaa.CtR
