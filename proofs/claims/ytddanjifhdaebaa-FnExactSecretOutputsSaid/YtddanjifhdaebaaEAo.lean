/- Contracts of functions of the program, one behind the other, as plain data: what each call returns and which blocks it leaves. -/
import Derived.Test.YtddanjifhdaebaaEFacts
import Derived.Test.YtddanjifhdaebaaEAw
import Derived.Test.YtddanjifhdaebaaTG1
import Derived.Test.YtddanjifhdaebaaEAk
import Derived.Test.YtddanjifhdaebaaEAl
import Derived.Test.YtddanjifhdaebaaEAm
import Derived.Test.YtddanjifhdaebaaEAn
set_option linter.unusedVariables false
set_option linter.unusedSimpArgs false
set_option linter.unusedSectionVars false
set_option maxHeartbeats 16000000
set_option maxRecDepth 100000
namespace Go.Proofs.Ytddanjifhdaebaa.CtD
open Go Go.CT CtF CtR
variable [Yn]
abbrev foldD (nv d c:Nat) (l:List St1) (s:Dp):Dp:=l.foldl (depS nv d c) s
theorem runDI {w:Nat} (p:Pg) (hw:p.vars.length+p.arrays.length=w) (hw14:w≤14) (w0:0<w):∀ (d:Nat) (l:List St1) (s:Dp) (c:Nat),Okd w s→c<2 ^ w→(∀ x ∈ l,stmtOK p d x=true)→lsize d l≤1000 →
 DC Try.prog 147 [.c (.ptr 0 0), .c (.isl 11 (St1.cellsL l)), .c (.msl 1 1 0 w), DI .i64 (c : Nat)] [some (dpB p s.tr s.re), some ((nI s.sets).map I64)]
  (fun r h=>r = .c (.msl 2 1 0 w)∧h=[some (dpB p (foldD p.vars.length d c l s).tr (foldD p.vars.length d c l s).re),some ((nI s.sets).map I64),some ((nI (foldD p.vars.length d c l s).sets).map I64)]):=by
 have hmx:=mx_eq
 intro d
 induction d with
 | zero =>
  intro l s c hs hc hok hl
  have hnil:l=[]:=by
   cases l with
   | nil=>rfl
   | cons a r=>have:=hok a (by simp);simp [stmtOK] at this
  subst hnil
  have hcl:=cloneM (nI s.sets) (by rw [nI_len,hs.len];omega) (by rw [nI_len,hs.len];omega)
  rw [nI_len,hs.len] at hcl
  simp only [foldD,List.foldl_nil]
  generalize hR:(fun (r:D) (h:List (Option (List C)))=>r = .c (.msl 2 1 0 w)∧h=_)=R
  have hz:((0:Int)<0)=False:=eq_false (by omega)
  refine dcZ Try.func147 ?_
  simp only [go_sem]
  iterate 2 ((try (refine drvZ Try.func147 ?_;simp only [go_sem]));((with_reducible and_intros)<;>try exact sd))
  refine XK.callG [1] hcl ok98 (hhpG (by simp [HH,upd,hpL,renCs_I])) (hbT ()) (fun d h' ⟨_,e⟩=>by subst e;simp) ?_
  rintro _ _ ⟨rfl,rfl⟩ _
  iterate 3 ((try (refine drvZ Try.func147 ?_;simp only [go_sem,renCs_I,Int.natCast_zero]));((with_reducible and_intros)<;>try exact sd))
  refine Go.loop ?_
  refine drvL Try.func147 ?_
  simp only [go_sem,hz,Int.natCast_zero]
  iterate 3 ((try (refine drvZ Try.func147 ?_;simp only [go_sem,hz,Int.natCast_zero]));((with_reducible and_intros)<;>try exact sd))
  refine RetOb.ofQ (fun j=>if j=2 then some 130 else if j<2 then some j else none) [] (.c (.msl 2 1 0 w)) [some (dpB p s.tr s.re),some ((nI s.sets).map I64),some ((nI s.sets).map I64)] ?_ (by rw [← hR];exact ⟨rfl,rfl⟩) (by simp)
  simp [enumL,DM,DMs,CM,HpOK,LowOK,hOf,upd,hpL]
  repeat' with_reducible apply And.intro
  all_goals first | exact CMs.kf (kf_I _) | exact CMs.kf (dpB_all p _ _)
 | succ d ih =>
  intro l s c hs hc hok hl
  have hsub:=lsize_subs d l
  have hcl:=cloneM (nI s.sets) (by rw [nI_len,hs.len];omega) (by rw [nI_len,hs.len];omega)
  rw [nI_len,hs.len] at hcl
  have hset:=fun (s:Dp) (hs:Okd w s)=>setI p hw hw14 w0 s.sets hs.len hs.row s.re 5
  have hcell:=fun (t:Int) (h0:0≤t) (h1:t<p.arrays.length)=>cellI p (by omega) t.toNat (by omega)
  obtain ⟨vs,ar,bd⟩:=p
  have hw:vs.length+ar.length=w:=hw
  simp only at ih hset hcell ⊢
  have hT:∀ i,Okd w (foldD vs.length (d+1) c (l.take i) s):=fun i=>foldl_ok hc _ hs
  have hTs:∀ i x,l[i]? = some x→foldD vs.length (d+1) c (l.take (i+1)) s=depS vs.length (d+1) c (foldD vs.length (d+1) c (l.take i) s) x:=fun i x h=>by
   unfold foldD;rw [List.take_add_one,h];simp
  have hfin:foldD vs.length (d+1) c (l.take l.length) s=foldD vs.length (d+1) c l s:=by rw [List.take_length]
  have hT0:foldD vs.length (d+1) c (l.take 0) s=s:=rfl
  rw [← hfin]
  obtain ⟨T,hTd⟩:∃ T:Nat→Dp,∀ i,foldD vs.length (d+1) c (l.take i) s=T i:=⟨fun i=>foldD vs.length (d+1) c (l.take i) s,fun _=>rfl⟩
  simp only [hTd] at hT hTs hT0 ⊢
  clear hTd hfin
  generalize hR:(fun (r:D) (h:List (Option (List C)))=>r = .c (.msl 2 1 0 w)∧h=_)=R
  have hc14:=pow14 hw14 hc
  refine dcZ Try.func147 ?_
  simp only [go_sem]
  iterate 2 ((try (refine drvZ Try.func147 ?_;simp only [go_sem]));((with_reducible and_intros)<;>try exact sd))
  refine XK.callG [1] hcl ok98 (hhpG (by simp [HH,upd,hpL,renCs_I])) (hbT ()) (fun d h' ⟨_,e⟩=>by subst e;simp) ?_
  rintro _ _ ⟨rfl,rfl⟩ _
  iterate 3 ((try (refine drvZ Try.func147 ?_;simp only [go_sem,renCs_I]));((with_reducible and_intros)<;>try exact sd))
  refine Go.loopQ (fun i : Nat => [(0, .c (.ptr 0 0)), (2, .c (.msl 2 1 0 w)), (3, DI .i64 c), (16, .c (.isl 11 (St1.cellsL l))), (17, DI .i64 l.length), (18, DI .i64 i)])
   (fun i=>[(0,some (dpB ⟨vs,ar,bd⟩ (T i).tr (T i).re)),(1,some ((nI s.sets).map I64)),(2,some ((nI (T i).sets).map I64))]) 4096 (fun i=>i≤l.length) (fun i=>l.length - i) ?_ 0 (fun j=>if j=2 then some 130 else if j<2 then some j else none) [] _ (Nat.zero_le _) ?_
  ·intro i hi again
   rcases Nat.lt_or_ge i l.length with hlt | hge
   ·obtain ⟨⟨k,t,⟨ik,iv,iks⟩,⟨vk,vv,vks⟩,cc,b,e⟩,hx⟩:∃ x,l[i]? = some x:=⟨l[i],by simp [hlt]⟩
    have hsok:=hok _ (List.mem_of_getElem? hx)
    have hbe:=stmtOK_succ hsok
    have hhk:=head_kind hbe.1
    obtain ⟨s1,s2⟩:=shapeV hsok
    have a1:=tsum_succ (subs d) l i _ hx
    have a2:=tsum_le (subs d) l (i+1)
    simp only [subs,St1.body,St1.els] at a1 a2
    have hTi:=hT i
    have hTn:=hTs i _ hx
    generalize T i=X at *
    simp only at hhk
    have key:k=4∨k=1∨k=5∨k=2∨k=3:=by omega
    rcases key with hk | hk | hk | hk | hk
    ·subst hk
     rw [depS_4] at hTn
     have hfix:∀ n X,fixD (fun s=>b.foldl (depS vs.length d c) s) (n+1) X=if unite X.sets (foldD vs.length d c b X).sets=X.sets then ⟨X.sets,(foldD vs.length d c b X).tr,(foldD vs.length d c b X).re⟩ else fixD (fun s=>b.foldl (depS vs.length d c) s) n ⟨unite X.sets (foldD vs.length d c b X).sets,(foldD vs.length d c b X).tr,(foldD vs.length d c b X).re⟩:=fun _ _=>rfl
     have hfix0:∀ X,fixD (fun s=>b.foldl (depS vs.length d c) s) 0 X=X:=fun _=>rfl
     generalize fixD (fun s=>b.foldl (depS vs.length d c) s)=fx at *
     refine drvL Try.func147 ?_
     simp only [go_sem,hx,hlt]
     iterate 3 ((try (refine drvZ Try.func147 ?_;simp only [go_sem,hx,hlt]));((with_reducible and_intros)<;>try exact sd))
     refine Go.loopQ (fun x : Dp × Nat => [(0, .c (.ptr 0 0)), (2, .c (.msl 2 1 0 w)), (3, DI .i64 c), (10, .c (.ptr 3 0)), (16, .c (.isl 11 (St1.cellsL l))), (17, DI .i64 l.length), (18, DI .i64 i)])
      (fun x=>[(0,some (dpB ⟨vs,ar,bd⟩ x.1.tr x.1.re)),(1,some ((nI s.sets).map I64)),(2,some ((nI x.1.sets).map I64)),(3,some (St1.cells (.mk 4 t (.mk ik iv iks) (.mk vk vv vks) cc b e)))])
      8192 (fun x=>Okd w x.1∧w * 2 ^ w<x.2+x.1.sets.sum∧fx x.2 x.1=T (i+1)) (fun x=>x.2) ?_ (X,FU) (fun j=>if j=3 then some 4288 else if j<3 then some j else none) [] _ ⟨hTi,fu_big hw14 _,hTn.symm⟩ ?_
     ·rintro ⟨X,n⟩ ⟨ho,hn,hf⟩ again2
      have ho:Okd w X:=ho
      have hn:w * 2 ^ w<n+X.sets.sum:=hn
      have hf:fx n X=T (i+1):=hf
      cases n with
      | zero =>
       have:=list_sum_lt (w:=w) ho.row
       rw [ho.len] at this
       omega
      | succ n =>
       obtain ⟨xs,xt,xr⟩:=X
       have r1:=ih b ⟨xs,xt,xr⟩ c ho hc hbe.2.1 (by omega)
       have hy1:Okd w (foldD vs.length d c b ⟨xs,xt,xr⟩):=foldl_ok hc b ho
       simp only [hfix] at hf
       generalize foldD vs.length d c b ⟨xs,xt,xr⟩=Y1 at *
       obtain ⟨ys,yt,yr⟩:=Y1
       simp only at hf r1 hn
       have hxl:xs.length=w:=ho.len
       have hyl:ys.length=w:=hy1.len
       have hul:(unite xs ys).length=w:=by rw [unite_len (by omega)];exact hxl
       have hun:=unitedI xs ys w hxl hyl w0 hw14 (fun x hx=>pow14 hw14 (ho.row x hx)) (fun x hx=>pow14 hw14 (hy1.row x hx))
       have heq:=equalM (nI (unite xs ys)) (nI xs) (by rw [nI_len,hul];omega) (by rw [nI_len,nI_len,hul,hxl])
       rw [nI_len,hul] at heq
       have hxs:=nI_len xs
       have hus:=nI_len (unite xs ys)
       by_cases hq:unite xs ys=xs
       ·have hde:decide (nI (unite xs ys)=nI xs)=true:=by rw [hq];simp
        rw [if_pos hq] at hf
        rw [hde] at heq
        refine drvL Try.func147 ?_
        simp only [go_sem]
        ((try (refine drvZ Try.func147 ?_;simp only [go_sem]));((with_reducible and_intros)<;>try exact sd))
        refine XK.callG [0,2] r1 ok147 (hhpG (by simp [HH,renCs_I,dpB_ren,upd,hOf])) (hbT ()) (fun d h' ⟨_,e⟩=>by subst e;simp) ?_
        rintro _ _ ⟨rfl,rfl⟩ _
        iterate 2 ((try (refine drvZ Try.func147 ?_;simp only [go_sem,renCs_I,dpB_ren]));((with_reducible and_intros)<;>try exact sd))
        refine XK.callG [2,8576] hun ok183 (hhpG (by simp [HH,renCs_I,upd,hOf])) (hbT ()) (fun d h' ⟨_,e⟩=>by subst e;simp) ?_
        rintro _ _ ⟨rfl,rfl⟩ _
        iterate 2 ((try (refine drvZ Try.func147 ?_;simp only [go_sem,renCs_I,dpB_ren]));((with_reducible and_intros)<;>try exact sd))
        refine XK.callG [8640,2] heq ok134 (hhpG (by simp [HH,renCs_I,upd,hOf])) (hbT ()) (fun d h' ⟨_,e⟩=>by subst e;simp) ?_
        rintro _ _ ⟨rfl,rfl⟩ _
        iterate 6 ((try (refine drvZ Try.func147 ?_;simp only [go_sem,renCs_I,dpB_ren]));((with_reducible and_intros)<;>try exact sd))
        refine again (i+1) some [] _ hlt (by omega) ?_
        rw [← hf]
        simp only [go_sem,TmOK,DM,DMs,CM,CMs,forall_eq,exists_eq_left,Mq,HpOK,LowOK]
        simp
        repeat' with_reducible apply And.intro
        all_goals first | exact CMs.kf (kf_I _) | exact CMs.kf (dpB_all ⟨vs,ar,bd⟩ _ _)
       ·have hde:decide (nI (unite xs ys)=nI xs)=false:=by simp;exact fun h=>hq (nI_inj h)
        rw [if_neg hq] at hf
        rw [hde] at heq
        refine drvL Try.func147 ?_
        simp only [go_sem]
        ((try (refine drvZ Try.func147 ?_;simp only [go_sem]));((with_reducible and_intros)<;>try exact sd))
        refine XK.callG [0,2] r1 ok147 (hhpG (by simp [HH,renCs_I,dpB_ren,upd,hOf])) (hbT ()) (fun d h' ⟨_,e⟩=>by subst e;simp) ?_
        rintro _ _ ⟨rfl,rfl⟩ _
        iterate 2 ((try (refine drvZ Try.func147 ?_;simp only [go_sem,renCs_I,dpB_ren]));((with_reducible and_intros)<;>try exact sd))
        refine XK.callG [2,8576] hun ok183 (hhpG (by simp [HH,renCs_I,upd,hOf])) (hbT ()) (fun d h' ⟨_,e⟩=>by subst e;simp) ?_
        rintro _ _ ⟨rfl,rfl⟩ _
        iterate 2 ((try (refine drvZ Try.func147 ?_;simp only [go_sem,renCs_I,dpB_ren]));((with_reducible and_intros)<;>try exact sd))
        refine XK.callG [8640,2] heq ok134 (hhpG (by simp [HH,renCs_I,upd,hOf])) (hbT ()) (fun d h' ⟨_,e⟩=>by subst e;simp) ?_
        rintro _ _ ⟨rfl,rfl⟩ _
        iterate 6 ((try (refine drvZ Try.func147 ?_;simp only [go_sem,renCs_I,dpB_ren]));((with_reducible and_intros)<;>try exact sd))
        have hgrow:=(unite_sum (a:=xs) (b:=ys) (by omega)).2 hq
        refine again2 (⟨unite xs ys,yt,yr⟩,n) (fun j=>if j=2 then some 8640 else if j<4 then some j else none) [] _ ⟨⟨hul,hw14,unite_row ho.row hy1.row,hy1.tr,hy1.re⟩,by show w * 2 ^ w<n+(unite xs ys).sum;omega,hf⟩ (by show n<n+1;omega) ?_
        simp only [go_sem,TmOK,DM,DMs,CM,CMs,forall_eq,exists_eq_left,Mq,HpOK,LowOK]
        simp
        repeat' with_reducible apply And.intro
        all_goals first | exact CMs.kf (kf_I _) | exact CMs.kf (dpB_all ⟨vs,ar,bd⟩ _ _)
     ·simp only [go_sem,TmOK,DM,DMs,CM,CMs,forall_eq,exists_eq_left,Mq,HpOK,LowOK]
      simp
      repeat' with_reducible apply And.intro
      all_goals first | exact CMs.kf (kf_I _) | exact CMs.kf (dpB_all ⟨vs,ar,bd⟩ _ _)
    ·subst hk
     rw [depS_1] at hTn
     have hv:=hset X hTi (.mk vk vv vks) X.tr (s1 (by decide)) hTi.tr
     have hV:=setE_lt (nv:=vs.length) hTi.row 5 (.mk vk vv vks)
     generalize setE vs.length X.sets 5 (.mk vk vv vks)=V at *
     obtain ⟨V1,V2⟩:=V
     obtain ⟨xs,xt,xr⟩:=X
     simp only at hTn hv hV
     have v14:=pow14 hw14 hV.1
     have hxs:=nI_len xs
     have hxl:xs.length=w:=hTi.len
     have hput:=nI_put xs t.toNat (V1 ||| c)
     refine drvL Try.func147 ?_
     simp only [go_sem,hx,hlt]
     iterate 3 ((try (refine drvZ Try.func147 ?_;simp only [go_sem,hx,hlt]));((with_reducible and_intros)<;>try exact sd))
     refine XK.callG [0,2] hv ok184 (hhpG (by simp [HH,renCs_I,dpB_ren,upd,hOf])) (hbT ()) (fun d h' ⟨_,e⟩=>by subst e;simp) ?_
     rintro _ _ ⟨rfl,rfl⟩ _
     iterate 8 ((try (refine drvZ Try.func147 ?_;simp only [go_sem,renCs_I,dpB_ren,hput]));((with_reducible and_intros)<;>try exact sd))
     refine again (i+1) some [] _ hlt (by omega) ?_
     simp only [go_sem,TmOK,DM,DMs,CM,CMs,forall_eq,exists_eq_left,Mq,HpOK,LowOK,hTn]
     simp
     repeat' with_reducible apply And.intro
     all_goals first | exact CMs.kf (kf_I _) | exact CMs.kf (dpB_all ⟨vs,ar,bd⟩ _ _)
    ·subst hk
     rw [depS_5] at hTn
     have hv:=hset X hTi (.mk vk vv vks) X.tr (s1 (by decide)) hTi.tr
     have hV:=setE_lt (nv:=vs.length) hTi.row 5 (.mk vk vv vks)
     generalize setE vs.length X.sets 5 (.mk vk vv vks)=V at *
     obtain ⟨V1,V2⟩:=V
     obtain ⟨xs,xt,xr⟩:=X
     simp only at hTn hv hV
     have v14:=pow14 hw14 hV.1
     have hxs:=nI_len xs
     have hxl:xs.length=w:=hTi.len
     have hput:=nI_put xs t.toNat (V1 ||| c)
     have t14:xt ||| V2<16384:=pow14 hw14 (Nat.or_lt_two_pow hTi.tr hV.2)
     have r14:xr<16384:=pow14 hw14 hTi.re
     have o14:=pow14 hw14 (Nat.or_lt_two_pow hV.1 hc)
     refine drvL Try.func147 ?_
     simp only [go_sem,hx,hlt]
     iterate 3 ((try (refine drvZ Try.func147 ?_;simp only [go_sem,hx,hlt]));((with_reducible and_intros)<;>try exact sd))
     refine XK.callG [0,2] hv ok184 (hhpG (by simp [HH,renCs_I,dpB_ren,upd,hOf])) (hbT ()) (fun d h' ⟨_,e⟩=>by subst e;simp) ?_
     rintro _ _ ⟨rfl,rfl⟩ _
     iterate 10 ((try (refine drvZ Try.func147 ?_;simp only [go_sem,renCs_I,dpB_eq,hput]));((with_reducible and_intros)<;>try exact sd))
     refine again (i+1) some [] _ hlt (by omega) ?_
     simp only [go_sem,TmOK,DM,DMs,CM,CMs,forall_eq,exists_eq_left,Mq,HpOK,LowOK,hTn,dpB_eq]
     simp
     repeat' with_reducible apply And.intro
     all_goals first | exact CMs.kf (kf_I _) | exact CMs.kf (dpB_all ⟨vs,ar,bd⟩ _ _)
    ·subst hk
     rw [depS_2] at hTn
     have hv:=hset X hTi (.mk vk vv vks) X.tr (s1 (by decide)) hTi.tr
     have hV:=setE_lt (nv:=vs.length) hTi.row 5 (.mk vk vv vks)
     generalize setE vs.length X.sets 5 (.mk vk vv vks)=V at *
     obtain ⟨V1,V2⟩:=V
     obtain ⟨xs,xt,xr⟩:=X
     simp only at hTn hv hV
     have v14:=pow14 hw14 hV.1
     have hxs:=nI_len xs
     have hxl:xs.length=w:=hTi.len
     have hix:=setI ⟨vs,ar,bd⟩ hw hw14 w0 xs hxl hTi.row xr 5 (.mk ik iv iks) (xt ||| V2) (s2 rfl) (Nat.or_lt_two_pow hTi.tr hV.2)
     have hI:=setE_lt (nv:=vs.length) hTi.row 5 (.mk ik iv iks)
     generalize setE vs.length xs 5 (.mk ik iv iks)=I at *
     obtain ⟨I1,I2⟩:=I
     simp only at hTn hix hI
     have i14:=pow14 hw14 hI.1
     have hcl2:=hcell t (by omega) (by omega)
     have hvn:((t.toNat:Nat):Int)=t:=by omega
     rw [hvn] at hcl2
     have hi4:((vs.length:Int)+(t.toNat:Int)).toNat=vs.length+t.toNat:=by omega
     have hxq:(nI xs)[vs.length+t.toNat]? = some ((dat xs (vs.length+t.toNat):Nat):Int):=nI_at (by omega)
     have q14:=pow14 hw14 (dat_lt hTi.row (vs.length+t.toNat))
     have hput:=nI_put xs (vs.length+t.toNat) (dat xs (vs.length+t.toNat) ||| (V1 ||| I1 ||| c))
     generalize dat xs (vs.length+t.toNat)=q at *
     have t14:xt ||| V2 ||| I2<16384:=pow14 hw14 (Nat.or_lt_two_pow (Nat.or_lt_two_pow hTi.tr hV.2) hI.2)
     have o14:=pow14 hw14 (Nat.or_lt_two_pow hV.1 hI.1)
     have p14:=pow14 hw14 (Nat.or_lt_two_pow (Nat.or_lt_two_pow hV.1 hI.1) hc)
     refine drvL Try.func147 ?_
     simp only [go_sem,hx,hlt]
     iterate 3 ((try (refine drvZ Try.func147 ?_;simp only [go_sem,hx,hlt]));((with_reducible and_intros)<;>try exact sd))
     refine XK.callG [0,2] hv ok184 (hhpG (by simp [HH,renCs_I,dpB_ren,upd,hOf])) (hbT ()) (fun d h' ⟨_,e⟩=>by subst e;simp) ?_
     rintro _ _ ⟨rfl,rfl⟩ _
     iterate 6 ((try (refine drvZ Try.func147 ?_;simp only [go_sem,renCs_I,dpB_eq]));((with_reducible and_intros)<;>try exact sd))
     refine XK.callG [0,2] hix ok184 (hhpG (by simp [HH,renCs_I,dpB_ren,upd,hOf];rfl)) (hbT ()) (fun d h' ⟨_,e⟩=>by subst e;simp) ?_
     rintro _ _ ⟨rfl,rfl⟩ _
     iterate 10 ((try (refine drvZ Try.func147 ?_;simp only [go_sem,renCs_I,dpB_eq,hxq,hi4,hput]));((with_reducible and_intros)<;>try exact sd);(try first | refine XK.p hcl2 ok152 ?_ | refine XK.gp hcl2 ok152 ?_))
     refine again (i+1) some [] _ hlt (by omega) ?_
     simp only [go_sem,TmOK,DM,DMs,CM,CMs,forall_eq,exists_eq_left,Mq,HpOK,LowOK,hTn,dpB_eq]
     simp
     repeat' with_reducible apply And.intro
     all_goals first | exact CMs.kf (kf_I _) | exact CMs.kf (dpB_all ⟨vs,ar,bd⟩ _ _)
    ·subst hk
     rw [depS_3] at hTn
     have hv:=hset X hTi (.mk vk vv vks) X.tr (s1 (by decide)) hTi.tr
     have hV:=setE_lt (nv:=vs.length) hTi.row 5 (.mk vk vv vks)
     unfold ifN ifY at hTn
     generalize setE vs.length X.sets 5 (.mk vk vv vks)=V at *
     obtain ⟨V1,V2⟩:=V
     obtain ⟨xs,xt,xr⟩:=X
     simp only at hTn hv hV
     have hTn:T (i+1)=⟨unite (foldD vs.length d (c ||| V1) b ⟨xs,xt ||| V2 ||| V1,xr⟩).sets (foldD vs.length d (c ||| V1) e ⟨xs,(foldD vs.length d (c ||| V1) b ⟨xs,xt ||| V2 ||| V1,xr⟩).tr,(foldD vs.length d (c ||| V1) b ⟨xs,xt ||| V2 ||| V1,xr⟩).re⟩).sets,(foldD vs.length d (c ||| V1) e ⟨xs,(foldD vs.length d (c ||| V1) b ⟨xs,xt ||| V2 ||| V1,xr⟩).tr,(foldD vs.length d (c ||| V1) b ⟨xs,xt ||| V2 ||| V1,xr⟩).re⟩).tr,(foldD vs.length d (c ||| V1) e ⟨xs,(foldD vs.length d (c ||| V1) b ⟨xs,xt ||| V2 ||| V1,xr⟩).tr,(foldD vs.length d (c ||| V1) b ⟨xs,xt ||| V2 ||| V1,xr⟩).re⟩).re⟩:=hTn
     have v14:=pow14 hw14 hV.1
     have hxs:=nI_len xs
     have hxl:xs.length=w:=hTi.len
     have t14:xt ||| V2<16384:=pow14 hw14 (Nat.or_lt_two_pow hTi.tr hV.2)
     have ho:=Nat.or_lt_two_pow hc hV.1
     have o14:=pow14 hw14 ho
     have hx1:Okd w ⟨xs,xt ||| V2 ||| V1,xr⟩:=⟨hxl,hw14,hTi.row,Nat.or_lt_two_pow (Nat.or_lt_two_pow hTi.tr hV.2) hV.1,hTi.re⟩
     have r1:=ih b ⟨xs,xt ||| V2 ||| V1,xr⟩ (c ||| V1) hx1 ho hbe.2.1 (by omega)
     have hy1:Okd w (foldD vs.length d (c ||| V1) b ⟨xs,xt ||| V2 ||| V1,xr⟩):=foldl_ok ho b hx1
     generalize foldD vs.length d (c ||| V1) b ⟨xs,xt ||| V2 ||| V1,xr⟩=Y1 at *
     obtain ⟨ys,yt,yr⟩:=Y1
     simp only at hTn r1
     have hx2:Okd w ⟨xs,yt,yr⟩:=⟨hxl,hw14,hTi.row,hy1.tr,hy1.re⟩
     have r2:=ih e ⟨xs,yt,yr⟩ (c ||| V1) hx2 ho hbe.2.2 (by omega)
     have hy2:Okd w (foldD vs.length d (c ||| V1) e ⟨xs,yt,yr⟩):=foldl_ok ho e hx2
     generalize foldD vs.length d (c ||| V1) e ⟨xs,yt,yr⟩=Y2 at *
     obtain ⟨zs,zt,zr⟩:=Y2
     simp only at hTn r2
     have hun:=unitedI ys zs w hy1.len hy2.len w0 hw14 (fun x hx=>pow14 hw14 (hy1.row x hx)) (fun x hx=>pow14 hw14 (hy2.row x hx))
     refine drvL Try.func147 ?_
     simp only [go_sem,hx,hlt]
     iterate 3 ((try (refine drvZ Try.func147 ?_;simp only [go_sem,hx,hlt]));((with_reducible and_intros)<;>try exact sd))
     refine XK.callG [0,2] hv ok184 (hhpG (by simp [HH,renCs_I,dpB_ren,upd,hOf])) (hbT ()) (fun d h' ⟨_,e⟩=>by subst e;simp) ?_
     rintro _ _ ⟨rfl,rfl⟩ _
     iterate 8 ((try (refine drvZ Try.func147 ?_;simp only [go_sem,renCs_I,dpB_eq]));((with_reducible and_intros)<;>try exact sd))
     refine XK.callG [0,2] r1 ok147 (hhpG (by simp [HH,renCs_I,dpB_ren,upd,hOf];rfl)) (hbT ()) (fun d h' ⟨_,e⟩=>by subst e;simp) ?_ (fun _=>⟨by kernel_rfl,_,_,⟨rfl,rfl⟩,by simp⟩)
     rintro _ _ ⟨rfl,rfl⟩ _
     iterate 3 ((try (refine drvZ Try.func147 ?_;simp only [go_sem,renCs_I,dpB_eq]));((with_reducible and_intros)<;>try exact sd))
     refine XK.callG [0,2] r2 ok147 (hhpG (by simp [HH,renCs_I,dpB_ren,upd,hOf];rfl)) (hbT ()) (fun d h' ⟨_,e⟩=>by subst e;simp) ?_ (fun _=>⟨by kernel_rfl,_,_,⟨rfl,rfl⟩,by simp⟩)
     rintro _ _ ⟨rfl,rfl⟩ _
     iterate 3 ((try (refine drvZ Try.func147 ?_;simp only [go_sem,renCs_I,dpB_eq]));((with_reducible and_intros)<;>try exact sd))
     refine XK.callG [6656,7168] hun ok183 (hhpG (by simp [HH,renCs_I,upd,hOf])) (hbT ()) (fun d h' ⟨_,e⟩=>by subst e;simp) ?_ (fun _=>⟨by kernel_rfl,_,_,⟨rfl,rfl⟩,by simp⟩)
     rintro _ _ ⟨rfl,rfl⟩ _
     iterate 4 ((try (refine drvZ Try.func147 ?_;simp only [go_sem,renCs_I,dpB_eq]));((with_reducible and_intros)<;>try exact sd))
     refine again (i+1) (fun j=>if j=2 then some 7232 else if j<2 then some j else none) [] _ hlt (by omega) ?_
     simp only [go_sem,TmOK,DM,DMs,CM,CMs,forall_eq,exists_eq_left,Mq,HpOK,LowOK,hTn,dpB_eq]
     simp
     repeat' with_reducible apply And.intro
     all_goals first | exact CMs.kf (kf_I _) | exact CMs.kf (dpB_all ⟨vs,ar,bd⟩ _ _)
   ·have hn2:¬ i<l.length:=by omega
    obtain rfl:i=l.length:=by omega
    refine drvL Try.func147 ?_
    simp only [go_sem,hn2]
    iterate 3 ((try (refine drvZ Try.func147 ?_;simp only [go_sem,hn2]));((with_reducible and_intros)<;>try exact sd))
    refine RetOb.ofQ some [] (.c (.msl 2 1 0 w)) [some (dpB ⟨vs,ar,bd⟩ (T l.length).tr (T l.length).re),some ((nI s.sets).map I64),some ((nI (T l.length).sets).map I64)] ?_ (by rw [← hR];exact ⟨rfl,rfl⟩) (by simp)
    simp [enumL,DM,DMs,CM,HpOK,LowOK,hOf,upd,hpL]
    exact ⟨CMs.kf (dpB_all ⟨vs,ar,bd⟩ _ _),CMs.kf (kf_I _),CMs.kf (kf_I _)⟩
  ·simp only [go_sem,TmOK,DM,DMs,CM,CMs,forall_eq,exists_eq_left,Mq,HpOK,LowOK,hT0]
   simp
   exact ⟨CMs.kf (dpB_all ⟨vs,ar,bd⟩ _ _),CMs.kf (kf_I _)⟩
def bl (n N:Nat):List Bool:=(List.range n).map fun i=>N.testBit i
theorem bl_len (n N:Nat):(bl n N).length=n:=by simp [bl]
theorem bl_succ (n N:Nat):bl (n+1) N=bl n N++[N.testBit n]:=by simp [bl,List.range_succ]
theorem boolsKeep {hp:Hp} {k w:Nat} {L:List Bool} (hk:hp k=some (some (boolsC L))) (hw:L.length=w):RetOb 0 (fun r h=>r = .c (.msl 0 1 0 w)∧h=[some (boolsC L)]) (.c (.msl k 1 0 w)) hp:=by
 refine RetOb.ofQ (fun j=>if j=0 then some k else none) [] _ [some (boolsC L)] ?_ ⟨rfl,rfl⟩ (by simp)
 have e4:∀ {hT hS:Hp} {r:Nat→Option Nat} {fz:List Nat},CMs hT r hS fz (boolsC L) (boolsC L)=True:=eq_true (CMs.kf (boolsC_kf _))
 simp [enumL,DM,DMs,CM,CMs,HpOK,LowOK,hOf,upd,hk,e4]
theorem elementsO (p:Pg) {w:Nat} (hw:p.vars.length+p.arrays.length=w) (hw14:w≤14) (N:Nat) (hN:N<2 ^ w):DC Try.prog 89 [.agg p.cells,DI .i64 (N:Int)] [] (fun r h=>r = .c (.msl 0 1 0 w)∧h=[some (boolsC (bl w N))]):=by
 have hmx:=mx_eq
 have hce:=cellsI p (by omega) (by omega)
 rw [hw] at hce
 have hN14:=pow14 hw14 hN
 obtain ⟨vs,ar,bd⟩:=p
 generalize hR:(fun (r:D) (h:List (Option (List C)))=>r = .c (.msl 0 1 0 w)∧h=[some (boolsC (bl w N))])=R
 refine dcZ Try.func89 ?_
 simp only [go_sem]
 iterate 3 ((try (refine drvZ Try.func89 ?_;simp only [go_sem]));((with_reducible and_intros)<;>try exact sd);(try first | refine XK.p hce ok95 ?_ | refine XK.gp hce ok95 ?_))
 refine Go.loopQ (fun i:Nat=>[(1,DI .i64 N),(5,.c (.msl 64 1 0 i)),(8,DI .i64 w),(9,DI .i64 i)]) (fun i=>[(64,some (boolsC (bl i N)))]) 4096 (fun i=>i≤w) (fun i=>w - i) ?_ 0 (fun j=>if j=64 then none else some j) [] _ (Nat.zero_le _) ?_
 ·intro i hi again
  have hbl:=bl_len i N
  have hbc:=boolsC_len (bl i N)
  have hsn:=boolsC_snoc (bl i N) (N.testBit i)
  rw [← bl_succ] at hsn
  rcases Nat.lt_or_ge i w with hlt | hge
  ·have htb:=tbit N i
   have hd0:0≤(N:Int) / 2 ^ i:=Int.ediv_nonneg (by omega) (by exact Int.pow_nonneg (by omega))
   have hd1:(N:Int) / 2 ^ i≤N:=Int.ediv_le_self _ (by omega)
   have hdK:InK .i64 ((N:Int) / 2 ^ i):=by
    generalize (N:Int) / 2 ^ i=q at *
    simp only [InK];omega
   have hz:=andZ_nn (k := .i64) (a:=(N:Int) / 2 ^ i) (b:=1) hd0 (by decide) hdK (by simp only [InK];omega)
   rw [show ((1:Int).toNat)=1 from rfl] at hz
   rw [← hz] at htb
   have hbit:(if N.testBit i=true then (1:Int) else 0)=1 ↔ N.testBit i=true:=by cases N.testBit i<;>simp
   generalize bl i N=L at *
   generalize N.testBit i=tb at *
   cases tb
   all_goals
    simp only [if_true,Bool.false_eq_true,if_false] at htb
    refine drvL Try.func89 ?_
    simp only [go_sem,hlt]
    iterate 6 ((try (refine drvZ Try.func89 ?_;simp only [go_sem,hlt,htb,hd0,hdK,hbc,and_self]));((with_reducible and_intros)<;>try exact sd);(try first | refine XK.p hce ok95 ?_ | refine XK.gp hce ok95 ?_))
   all_goals
    refine again (i+1) (fun j=>if j=64 then some 4736 else none) [] _ hlt (by omega) ?_
    simp only [go_sem,TmOK,DM,DMs,CM,CMs,forall_eq,exists_eq_left,Mq,HpOK,LowOK,hsn]
    simp
    rw [← hsn]
    exact CMs.kf (boolsC_kf _)
  ·have hn:¬ i<w:=by omega
   obtain rfl:i=w:=by omega
   refine drvL Try.func89 ?_
   simp only [go_sem,hn]
   iterate 4 ((try (refine drvZ Try.func89 ?_;simp only [go_sem,hn]));((with_reducible and_intros)<;>try exact sd);(try first | refine XK.p hce ok95 ?_ | refine XK.gp hce ok95 ?_))
   rw [← hR]
   exact boolsKeep rfl hbl
 ·simp only [go_sem,TmOK,DM,DMs,CM,CMs,forall_eq,exists_eq_left,Mq,HpOK,LowOK]
  simp [bl,boolsC]
def pws (i:Nat):List Nat:=(List.range i).map fun i=>2 ^ i
theorem pws_len (i:Nat):(pws i).length=i:=by simp [pws]
theorem pws_succ (i:Nat):pws (i+1)=pws i++[2 ^ i]:=by simp [pws,List.range_succ]
theorem start_ok {w:Nat} (hw:w≤14):Okd w (startD w) :=
 ⟨by simp [startD],hw,fun a ha=>by
  obtain ⟨i,hi,rfl⟩:=List.mem_map.1 ha
  exact Nat.pow_lt_pow_right (by omega) (List.mem_range.1 hi),Nat.two_pow_pos w,Nat.two_pow_pos w⟩
theorem nI_snoc (S:List Nat) (x:Nat):(nI (S++[x])).map I64=(nI S).map I64++[.v (.int .i64 (x:Int))]:=by simp [nI]
theorem analysedI (p : Pg) {w : Nat} (hw : p.vars.length + p.arrays.length = w) (hw14 : w ≤ 14) (w0 : 0 < w) (hok : ∀ s ∈ p.body, stmtOK p 5 s = true) (hsz : lsize 5 p.body ≤ 1000) : DC Try.prog 88 [.agg p.cells] []
 (fun r h=>r = .tup [.c (.ptr 0 0),.c (.msl 1 1 0 w)]∧h=[some (dpB p (depP p).tr (depP p).re),some ((nI (depP p).sets).map I64)]):=by
 have hmx:=mx_eq
 have hce:=cellsI p (by omega) (by omega)
 rw [hw] at hce
 have hrun:=runDI p hw hw14 w0 5 p.body (startD w) 0 (start_ok hw14) (Nat.two_pow_pos w) hok hsz
 have hdp:foldD p.vars.length 5 0 p.body (startD w)=depP p:=by unfold depP;rw [hw]
 rw [hdp] at hrun
 have hst:(startD w).sets=pws w:=rfl
 have hst2:(startD w).tr=0:=rfl
 have hst3:(startD w).re=0:=rfl
 rw [hst,hst2,hst3] at hrun
 generalize depP p=X at *
 obtain ⟨xs,xt,xr⟩:=X
 obtain ⟨vs,ar,bd⟩:=p
 simp only at hrun
 generalize hR:(fun (r:D) (h:List (Option (List C)))=>r = .tup [.c (.ptr 0 0),.c (.msl 1 1 0 w)]∧h=_)=R
 refine dcZ Try.func88 ?_
 simp only [go_sem]
 iterate 4 ((try (refine drvZ Try.func88 ?_;simp only [go_sem]));((with_reducible and_intros)<;>try exact sd);(try first | refine XK.p hce ok95 ?_ | refine XK.gp hce ok95 ?_))
 refine Go.loopQ (fun i : Nat => [(1, .c (.ptr 0 0)), (4, .c (.ptr 320 0)), (5, .c (.msl 64 1 0 i)), (11, DI .i64 w), (12, DI .i64 i)])
  (fun i=>[(0,some (Pg.cells ⟨vs,ar,bd⟩)),(320,some (dpB ⟨vs,ar,bd⟩ 0 0)),(64,some ((nI (pws i)).map I64))]) 4096 (fun i=>i≤w) (fun i=>w - i) ?_ 0 (fun j=>if j=64 then none else some j) [] _ (Nat.zero_le _) ?_
 ·intro i hi again
  have hsn:=nI_snoc (pws i) (2 ^ i)
  rw [← pws_succ] at hsn
  have hpl:=pws_len i
  have hnl:=nI_len (pws i)
  rcases Nat.lt_or_ge i w with hlt | hge
  ·have h2:2 ^ i<2 ^ w:=Nat.pow_lt_pow_right (by omega) hlt
   have h3:=pow14 hw14 h2
   have hsh:(1:Int) * 2 ^ i=((2 ^ i:Nat):Int):=by rw [Int.one_mul,Int.natCast_pow];rfl
   have hsh2:(2:Int) ^ i=((2 ^ i:Nat):Int):=by rw [Int.natCast_pow];rfl
   have hi14:i<14:=by omega
   generalize 2 ^ i=q at *
   refine drvL Try.func88 ?_
   simp only [go_sem,hlt]
   iterate 6 ((try (refine drvZ Try.func88 ?_;simp only [go_sem,hlt,hsh,hsh2,Int.one_mul,hnl,hpl]));((with_reducible and_intros)<;>try exact sd);(try first | refine XK.p hce ok95 ?_ | refine XK.gp hce ok95 ?_))
   refine again (i+1) (fun j=>if j=64 then some 4544 else some j) [] _ hlt (by omega) ?_
   simp only [go_sem,TmOK,DM,DMs,CM,CMs,forall_eq,exists_eq_left,Mq,HpOK,LowOK,hsn,dpB_eq]
   simp
   rw [← hsn]
   exact CMs.kf (kf_I _)
  ·have hn:¬ i<w:=by omega
   obtain rfl:i=w:=by omega
   refine drvL Try.func88 ?_
   simp only [go_sem,hn]
   iterate 2 ((try (refine drvZ Try.func88 ?_;simp only [go_sem,hn]));((with_reducible and_intros)<;>try exact sd);(try first | refine XK.p hce ok95 ?_ | refine XK.gp hce ok95 ?_))
   refine XK.callG [320,64] hrun ok147 (hhpG (by simp [HH,renCs_I,dpB_ren,upd,hOf])) (hbT ()) (fun d h' ⟨_,e⟩=>by subst e;simp) ?_
   rintro _ _ ⟨rfl,rfl⟩ _
   iterate 3 ((try (refine drvZ Try.func88 ?_;simp only [go_sem,renCs_I,dpB_ren]));((with_reducible and_intros)<;>try exact sd))
   refine RetOb.ofQ (fun j=>if j=0 then some 320 else if j=1 then some 4480 else none) [] (.tup [.c (.ptr 0 0),.c (.msl 1 1 0 i)]) [some (dpB ⟨vs,ar,bd⟩ xt xr),some ((nI xs).map I64)] ?_ (by rw [← hR];exact ⟨rfl,rfl⟩) (by simp)
   simp [enumL,DM,DMs,CM,HpOK,LowOK,hOf,upd,hpL]
   repeat' with_reducible apply And.intro
   all_goals first | exact CMs.kf (kf_I _) | exact CMs.kf (dpB_all ⟨vs,ar,bd⟩ _ _)
 ·simp only [go_sem,TmOK,DM,DMs,CM,CMs,forall_eq,exists_eq_left,Mq,HpOK,LowOK,dpB_eq]
  simp [pws,nI,hpL]
theorem depP_ok (p:Pg) {w:Nat} (hw:p.vars.length+p.arrays.length=w) (hw14:w≤14):Okd w (depP p):=by
 unfold depP;rw [hw];exact foldl_ok (Nat.two_pow_pos w) _ (start_ok hw14)
theorem traceDependsO (p : Pg) {w : Nat} (hw : p.vars.length + p.arrays.length = w) (hw14 : w ≤ 14) (w0 : 0 < w) (hok : progOK p = true) : DC Try.prog 32 [.agg p.cells] []
 (fun r h=>r = .c (.msl 0 1 0 w)∧h=[some (boolsC (bl w (depP p).tr))]):=by
 have hmx:=mx_eq
 have hv:=programValidI p (by omega) (by omega)
 rw [hok] at hv
 have han:=analysedI p hw hw14 w0 (body_of hok).1 (by have:=(body_of hok).2;omega)
 have hX:=depP_ok p hw hw14
 have hel:=elementsO p hw hw14 (depP p).tr hX.tr
 generalize depP p=X at *
 obtain ⟨xs,xt,xr⟩:=X
 obtain ⟨vs,ar,bd⟩:=p
 simp only at hel
 generalize hR:(fun (r:D) (h:List (Option (List C)))=>r = .c (.msl 0 1 0 w)∧h=[some (boolsC (bl w xt))])=R
 refine dcZ Try.func32 ?_
 simp only [go_sem]
 iterate 3 ((try (refine drvZ Try.func32 ?_;simp only [go_sem]));((with_reducible and_intros)<;>try exact sd);(try first | refine XK.p hv ok87 ?_ | refine XK.gp hv ok87 ?_))
 refine XK.callG [] han ok88 (fun i' x h=>by simp at h) (hbT ()) (fun d h' ⟨_,e⟩=>by subst e;simp) ?_
 rintro _ _ ⟨rfl,rfl⟩ _
 iterate 5 ((try (refine drvZ Try.func32 ?_;simp only [go_sem,renCs_I,dpB_eq,boolsD]));((with_reducible and_intros)<;>try exact sd))
 refine XK.callG [] hel ok89 (fun i' x h=>by simp at h) (hbT ()) (fun d h' ⟨_,e⟩=>by subst e;simp) ?_ (fun _=>⟨by kernel_rfl,_,_,⟨rfl,rfl⟩,by simp⟩)
 rintro _ _ ⟨rfl,rfl⟩ _
 iterate 3 ((try (refine drvZ Try.func32 ?_;simp only [go_sem,boolsC_ren]));((with_reducible and_intros)<;>try exact sd))
 rw [← hR]
 exact boolsKeep rfl (bl_len _ _)
theorem releaseDependsO (p : Pg) {w : Nat} (hw : p.vars.length + p.arrays.length = w) (hw14 : w ≤ 14) (w0 : 0 < w) (hok : progOK p = true) : DC Try.prog 25 [.agg p.cells] []
 (fun r h=>r = .c (.msl 0 1 0 w)∧h=[some (boolsC (bl w (depP p).re))]):=by
 have hmx:=mx_eq
 have hv:=programValidI p (by omega) (by omega)
 rw [hok] at hv
 have han:=analysedI p hw hw14 w0 (body_of hok).1 (by have:=(body_of hok).2;omega)
 have hX:=depP_ok p hw hw14
 have hel:=elementsO p hw hw14 (depP p).re hX.re
 generalize depP p=X at *
 obtain ⟨xs,xt,xr⟩:=X
 obtain ⟨vs,ar,bd⟩:=p
 simp only at hel
 generalize hR:(fun (r:D) (h:List (Option (List C)))=>r = .c (.msl 0 1 0 w)∧h=[some (boolsC (bl w xr))])=R
 refine dcZ Try.func25 ?_
 simp only [go_sem]
 iterate 3 ((try (refine drvZ Try.func25 ?_;simp only [go_sem]));((with_reducible and_intros)<;>try exact sd);(try first | refine XK.p hv ok87 ?_ | refine XK.gp hv ok87 ?_))
 refine XK.callG [] han ok88 (fun i' x h=>by simp at h) (hbT ()) (fun d h' ⟨_,e⟩=>by subst e;simp) ?_
 rintro _ _ ⟨rfl,rfl⟩ _
 iterate 5 ((try (refine drvZ Try.func25 ?_;simp only [go_sem,renCs_I,dpB_eq,boolsD]));((with_reducible and_intros)<;>try exact sd))
 refine XK.callG [] hel ok89 (fun i' x h=>by simp at h) (hbT ()) (fun d h' ⟨_,e⟩=>by subst e;simp) ?_ (fun _=>⟨by kernel_rfl,_,_,⟨rfl,rfl⟩,by simp⟩)
 rintro _ _ ⟨rfl,rfl⟩ _
 iterate 3 ((try (refine drvZ Try.func25 ?_;simp only [go_sem,boolsC_ren]));((with_reducible and_intros)<;>try exact sd))
 rw [← hR]
 exact boolsKeep rfl (bl_len _ _)
def rowsC (w:Nat) (S:List Nat):List C:=S.map fun N=>boolsD (bl w N)
def rowsD (w:Nat) (S:List Nat):C := .isl 1 (S.map fun N=>[boolsD (bl w N)])
theorem rowsC_len (w:Nat) (S:List Nat):(rowsC w S).length=S.length:=by simp [rowsC]
theorem rowsC_kf (w:Nat) (S:List Nat):∀ c ∈ rowsC w S,kf c=true:=fun c hc=>by
 obtain ⟨N,_,rfl⟩:=List.mem_map.1 hc;rfl
theorem rowsC_flat (w:Nat) (S:List Nat):(S.map fun N=>[boolsD (bl w N)]).flatten=rowsC w S:=flat1 _ _
theorem rowsC_succ (w:Nat) (S:List Nat) (i x:Nat) (h:S[i]? = some x):rowsC w (S.take (i+1))=rowsC w (S.take i)++[boolsD (bl w x)]:=by
 unfold rowsC;rw [List.take_add_one,h];simp
theorem joinF (L M : List Bool) (hl : L.length ≤ 1000) (hM : M.length = L.length) :
 DC Try.prog 93 [.c (.msl 0 1 0 L.length),.c (boolsD M)] [some (boolsC L)] (fun r h=>r=DB (jnA L M L.length).1∧h=[some (boolsC (jnA L M L.length).2)]):=by
 have hmx:=mx_eq
 have hfl:=jnA_len L M
 generalize hR:(fun (r:D) (h:List (Option (List C)))=>r=DB (jnA L M L.length).1∧h=[some (boolsC (jnA L M L.length).2)])=R
 refine dcZ Try.func93 ?_
 simp only [go_sem,boolsD,BC,hM]
 ((try (refine drvZ Try.func93 ?_;simp only [go_sem,boolsD,BC,hM]));((with_reducible and_intros)<;>try exact sd))
 refine Go.loopQ (fun i : Nat => [(0, .c (.msl 0 1 0 L.length)), (1, .c (boolsD M)), (5, DB (jnA L M i).1), (6, DI .i64 i)])
  (fun i=>[(0,some (boolsC (jnA L M i).2))]) 4096 (fun i=>i≤L.length) (fun i=>L.length - i) ?_ 0 some [] _ (Nat.zero_le _) ?_
 ·intro i hi again
  have hFi:=hfl i
  rcases Nat.lt_or_ge i L.length with hlt | hge
  ·have a1:M[i]? = some (M.getD i false):=by rw [List.getD_eq_getElem?_getD,List.getElem?_eq_getElem (by omega)];rfl
   have a2:=@boolsC_at _ (jnA L M i).2 i (by omega)
   have hs:jnA L M (i+1)=if M.getD i false && !(jnA L M i).2.getD i false then (true,(jnA L M i).2.set i true) else jnA L M i:=rfl
   have hbl:=boolsC_len (jnA L M i).2
   rw [hFi] at hbl
   generalize jnA L M i=Fi at *
   obtain ⟨c,Li⟩:=Fi
   simp only at hFi hs a2 hbl
   cases hm:M.getD i false with
   | false =>
    rw [hm] at a1 hs
    simp only [Bool.false_and,Bool.false_eq_true,if_false] at hs
    refine drvL Try.func93 ?_
    simp only [go_sem,hlt,a1,a2,boolsD,BC,hM]
    iterate 4 ((try (refine drvZ Try.func93 ?_;simp only [go_sem,hlt,a1,a2,boolsD,BC,hM]));((with_reducible and_intros)<;>try exact sd))
    refine again (i+1) some [] _ hlt (by omega) ?_
    rw [hs]
    simp only [go_sem,TmOK,DM,DMs,CM,CMs,forall_eq,exists_eq_left,Mq,HpOK,LowOK,boolsD,BC,hM]
    simp
    exact CMs.kf (boolsC_kf _)
   | true =>
    rw [hm] at a1 hs
    cases hq:Li.getD i false with
    | true =>
     rw [hq] at a2 hs
     simp only [Bool.true_and,Bool.not_true,Bool.false_eq_true,if_false] at hs
     refine drvL Try.func93 ?_
     simp only [go_sem,hlt,a1,a2,boolsD,BC,hM]
     iterate 4 ((try (refine drvZ Try.func93 ?_;simp only [go_sem,hlt,a1,a2,boolsD,BC,hM]));((with_reducible and_intros)<;>try exact sd))
     refine again (i+1) some [] _ hlt (by omega) ?_
     rw [hs]
     simp only [go_sem,TmOK,DM,DMs,CM,CMs,forall_eq,exists_eq_left,Mq,HpOK,LowOK,boolsD,BC,hM]
     simp
     exact CMs.kf (boolsC_kf _)
    | false =>
     rw [hq] at a2 hs
     simp only [Bool.true_and,Bool.not_false,if_true] at hs
     refine drvL Try.func93 ?_
     simp only [go_sem,hlt,a1,a2,boolsD,BC,hM]
     iterate 5 ((try (refine drvZ Try.func93 ?_;simp only [go_sem,hlt,a1,a2,boolsC_set,hbl,boolsD,BC,hM]));((with_reducible and_intros)<;>try exact sd))
     refine again (i+1) some [] _ hlt (by omega) ?_
     rw [hs]
     simp only [go_sem,TmOK,DM,DMs,CM,CMs,forall_eq,exists_eq_left,Mq,HpOK,LowOK,boolsD,BC,hM]
     simp
     exact CMs.kf (boolsC_kf _)
  ·have hn2:¬ i<L.length:=by omega
   obtain rfl:i=L.length:=by omega
   refine drvL Try.func93 ?_
   simp only [go_sem,hn2,boolsD,BC,hM]
   iterate 2 ((try (refine drvZ Try.func93 ?_;simp only [go_sem,hn2,boolsD,BC,hM]));((with_reducible and_intros)<;>try exact sd))
   refine RetOb.ofQ some [] (DB (jnA L M L.length).1) [some (boolsC (jnA L M L.length).2)] ?_ (by rw [← hR];exact ⟨rfl,rfl⟩) (by simp)
   simp [enumL,DM,DMs,CM,HpOK,LowOK,hOf,upd]
   exact CMs.kf (boolsC_kf _)
 ·simp only [go_sem,TmOK,DM,DMs,CM,CMs,forall_eq,exists_eq_left,Mq,HpOK,LowOK,jnA,boolsD,BC,hM]
  simp
  exact CMs.kf (boolsC_kf _)
theorem bl_at {w N i:Nat} (h:i<w):(bl w N).getD i false=N.testBit i:=by
 rw [List.getD_eq_getElem?_getD,bl,List.getElem?_map,List.getElem?_range h];rfl
theorem bl_ext {w:Nat} {L:List Bool} {N:Nat} (hl:L.length=w) (h:∀ i,i<w→L.getD i false=N.testBit i):L=bl w N:=by
 refine List.ext_getElem (by rw [hl,bl_len]) fun i h1 h2=>?_
 have:=h i (by omega)
 rw [List.getD_eq_getElem?_getD,List.getElem?_eq_getElem h1] at this
 simp only [bl,List.getElem_map,List.getElem_range]
 exact this
theorem jnA_get (L M : List Bool) : ∀ i j, j < i → i ≤ L.length → (jnA L M i).2.getD j false = (L.getD j false || M.getD j false)
 | 0,j,h,_=>by omega
 | i+1,j,h,hl=>by
  have hh:=jnA_hi L M i i (Nat.le_refl _)
  have hle:=jnA_len L M i
  rw [jnA,hh]
  by_cases e:j=i
  ·subst e
   cases hm:M.getD j false<;>cases hL:L.getD j false
   all_goals simp only [Bool.false_and,Bool.true_and,Bool.not_true,Bool.not_false,Bool.false_eq_true,if_false,if_true,Bool.or_false,Bool.or_true]
   ·rw [jnA_hi L M j j (Nat.le_refl _),hL]
   ·rw [jnA_hi L M j j (Nat.le_refl _),hL]
   ·rw [List.getD_eq_getElem?_getD,List.getElem?_set_self (by omega)];rfl
   ·rw [jnA_hi L M j j (Nat.le_refl _),hL]
  ·have ih:=jnA_get L M i j (by omega) (by omega)
   split
   ·rw [← ih,List.getD_eq_getElem?_getD,List.getD_eq_getElem?_getD,List.getElem?_set_ne (by omega)]
   ·exact ih
theorem jn_bits {w a b:Nat}:(jnA (bl w a) (bl w b) w).2=bl w (a ||| b) :=
 bl_ext (by rw [jnA_len,bl_len]) fun i hi=>by rw [jnA_get _ _ w i hi (by rw [bl_len];omega),bl_at hi,bl_at hi,Nat.testBit_or]
theorem jn_flag {w a b:Nat} (ha:a<2 ^ w) (hb:b<2 ^ w):(jnA (bl w a) (bl w b) w).1 = !decide (a ||| b=a):=by
 have h:=jnA_iff (bl w a) (bl w b) w
 cases hc:(jnA (bl w a) (bl w b) w).1 with
 | true =>
  obtain ⟨j,hj,h1,h2⟩:=h.1 hc
  rw [bl_at hj] at h1 h2
  have:a ||| b ≠ a:=fun e=>by
   have:=congrArg (fun x=>x.testBit j) e
   simp only [Nat.testBit_or,h1,h2] at this
   cases this
  simp [this]
 | false =>
  have:a ||| b=a:=by
   refine Nat.eq_of_testBit_eq fun j=>?_
   rw [Nat.testBit_or]
   by_cases hj:j<w
   ·cases h1:b.testBit j with
    | false=>simp
    | true =>
     cases h2:a.testBit j with
     | true=>rfl
     | false=>exact absurd (h.2 ⟨j,hj,by rw [bl_at hj,h1],by rw [bl_at hj,h2]⟩) (by rw [hc];simp)
   ·rw [Nat.testBit_lt_two_pow (Nat.lt_of_lt_of_le hb (Nat.pow_le_pow_right (by omega) (by omega)))];simp
  simp [this]
theorem joinOO (w a b:Nat) (hw:w≤14) (ha:a<2 ^ w) (hb:b<2 ^ w):DC Try.prog 93 [.c (.msl 0 1 0 w),.c (.msl 1 1 0 w)] [some (boolsC (bl w a)),some (boolsC (bl w b))] (fun r h=>r=DB (!decide (a ||| b=a))∧h=[some (boolsC (bl w (a ||| b))),some (boolsC (bl w b))]):=by
 have h:=joinS (bl w a) (bl w b) (by rw [bl_len];omega) (by rw [bl_len,bl_len])
 rw [bl_len,jn_bits,jn_flag ha hb] at h
 exact h
theorem joinOF (w a b:Nat) (hw:w≤14) (ha:a<2 ^ w) (hb:b<2 ^ w):DC Try.prog 93 [.c (.msl 0 1 0 w),.c (boolsD (bl w b))] [some (boolsC (bl w a))] (fun r h=>r=DB (!decide (a ||| b=a))∧h=[some (boolsC (bl w (a ||| b)))]):=by
 have h:=joinF (bl w a) (bl w b) (by rw [bl_len];omega) (by rw [bl_len,bl_len])
 rw [bl_len,jn_bits,jn_flag ha hb] at h
 exact h
end Go.Proofs.Ytddanjifhdaebaa.CtD
