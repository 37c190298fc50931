/- Contracts of functions of the program, one behind the other, as plain data: what each call returns and which blocks it leaves. -/
import Derived.Test.YtbknljofedfpjaaXFacts
import Derived.Test.YtbknljofedfpjaaXAi
import Derived.Test.YtbknljofedfpjaaXAl
import Derived.Test.YtbknljofedfpjaaXAm
import Derived.Test.YtbknljofedfpjaaXAn
set_option linter.unusedVariables false
set_option linter.unusedSimpArgs false
set_option linter.unusedSectionVars false
set_option maxHeartbeats 16000000
set_option maxRecDepth 100000
namespace Go.Proofs.Ytbknljofedfpjaa.CtD
open Go Go.CT CtF CtR
variable [Yn]
theorem setI {w:Nat} (p:Pg) (hw:p.vars.length+p.arrays.length=w) (hw14:w≤14) (w0:0<w) (S:List Nat) (hS:S.length=w) (hr:∀ a ∈ S,a<2 ^ w) (re:Nat):∀ (d:Nat) (e:Ex) (tr:Nat),CtR.shape p d e=true→tr<2 ^ w →
 DC Try.prog 76 [.c (.ptr 0 0),.agg e.cells,.c (.msl 1 1 0 w)] [some (dpB p tr re),some ((nI S).map I64)] (fun r h=>r=DI .i64 ((setE p.vars.length S d e).1:Nat)∧h=[some (dpB p (tr ||| (setE p.vars.length S d e).2) re),some ((nI S).map I64)]):=by
 have hmx:=mx_eq
 intro d
 induction d with
 | zero=>intro e tr h;simp [CtR.shape] at h
 | succ d ih =>
  intro e tr hsh htr
  obtain ⟨k,v,ks⟩:=e
  obtain ⟨g1,g2,g3⟩:=shape_succ hsh
  obtain ⟨hl3,hla,hv0,hv1⟩:=fits_len g1
  have hlim:k=2→v<p.vars.length:=fun hk=>by subst hk;simpa [limit] using hv1
  have hlim3:k=3→v<p.arrays.length:=fun hk=>by subst hk;simpa [limit] using hv1
  have hcell:=cellI p (by omega) v.toNat
  obtain ⟨vs,ar,bd⟩:=p
  have hw:vs.length+ar.length=w:=hw
  simp only at hlim hlim3 ih hcell
  rw [setE_succ]
  simp only at ih ⊢
  have hlt1:=fun e=>pow14 hw14 (setE_lt (nv:=vs.length) hr d e).1
  have hlt2:=fun e=>pow14 hw14 (setE_lt (nv:=vs.length) hr d e).2
  have hltp:=fun e=>(setE_lt (nv:=vs.length) hr d e).2
  have ho:=fun i=>pow14 hw14 (fst1_lt (fun e=>(setE_lt (nv:=vs.length) hr d e).1) ks i)
  have ha:=fun i=>pow14 hw14 (snd1_lt (fun e=>(setE_lt (nv:=vs.length) hr d e).2) ks i)
  have hta:=fun i=>Nat.or_lt_two_pow htr (snd1_lt (fun e=>(setE_lt (nv:=vs.length) hr d e).2) ks i)
  have hda:=fun i=>pow14 hw14 (dat_lt hr i)
  have hf0:fst1 (setE vs.length S d) ks 0=0:=by simp [fst1]
  have hs0:tr ||| snd1 (setE vs.length S d) ks 0=tr:=by simp [snd1]
  have hstep:=fun i x h=>And.intro (fst1_succ (setE vs.length S d) ks i x h) (snd1_succ (setE vs.length S d) ks i x h)
  generalize setE vs.length S d=F at *
  generalize hR:(fun (r:D) (h:List (Option (List C)))=>r=DI .i64 _∧h=_)=R
  refine dcZ Try.func76 ?_
  simp only [go_sem]
  iterate 4 ((try (refine drvZ Try.func76 ?_;simp only [go_sem]));((with_reducible and_intros)<;>try exact sd))
  refine Go.loopQ (fun i : Nat => [(0, .c (.ptr 0 0)), (2, .c (.msl 1 1 0 w)), (4, .c (.ptr 2 0)), (7, DI .i64 (fst1 F ks i : Nat)), (11, .c (.isl 3 (Ex.cellsL ks))), (12, DI .i64 ks.length), (13, DI .i64 i)])
   (fun i=>[(0,some (dpB ⟨vs,ar,bd⟩ (tr ||| snd1 F ks i) re)),(1,some ((nI S).map I64)),(2,some (Ex.cells (.mk k v ks)))])
   4096 (fun i=>i≤ks.length) (fun i=>ks.length - i) ?_ 0 some [] _ (Nat.zero_le _) ?_
  ·intro i hi again
   rcases Nat.lt_or_ge i ks.length with hlt | hge
   ·obtain ⟨⟨k',v',ks'⟩,hx⟩:∃ x,ks[i]? = some x:=⟨ks[i],by simp [hlt]⟩
    obtain ⟨hsc,hsd⟩:=hstep i _ hx
    have hih:=ih (.mk k' v' ks') (tr ||| snd1 F ks i) (g2 _ (List.mem_of_getElem? hx)) (hta i)
    have h1:=hlt1 (.mk k' v' ks')
    have h2:=ho i
    refine drvL Try.func76 ?_
    simp only [go_sem,hx,hlt,dpB_eq]
    iterate 2 ((try (refine drvZ Try.func76 ?_;simp only [go_sem,hx,hlt,dpB_eq]));((with_reducible and_intros)<;>try exact sd))
    refine XK.callG [0,1] hih ok76 (hhpG (by simp [HH,renCs_I,dpB_ren,upd,hOf];rfl)) (hbT ()) (fun d h' ⟨_,e⟩=>by subst e;simp) ?_ (fun _=>⟨by kernel_rfl,_,_,⟨rfl,rfl⟩,by simp⟩)
    rintro _ _ ⟨rfl,rfl⟩ _
    iterate 3 ((try (refine drvZ Try.func76 ?_;simp only [go_sem,hx,hlt,dpB_eq,renCs_I]));((with_reducible and_intros)<;>try exact sd))
    refine again (i+1) some [] _ hlt (by omega) ?_
    simp only [go_sem,TmOK,DM,DMs,CM,CMs,forall_eq,exists_eq_left,Mq,HpOK,LowOK,hsc,hsd,dpB_eq]
    simp [Nat.or_assoc]
    exact CMs.kf (kf_I _)
   ·have hn2:¬ i<ks.length:=by omega
    obtain rfl:i=ks.length:=by omega
    have h2:=ho ks.length
    have h3:=ha ks.length
    have hta:=hta ks.length
    generalize fst1 F ks ks.length=fo at *
    generalize snd1 F ks ks.length=so at *
    have htl:=pow14 hw14 hta
    have key:k=2∨k=3∨(k ≠ 2∧k ≠ 3):=by omega
    rcases key with hk | hk | ⟨hk2,hk3⟩
    ·have hv2:=hlim hk
     have e2:(k == 2)=true:=by simp [hk]
     have f2:(k=2)=True:=by simp [hk]
     have hx:(nI S)[v.toNat]? = some ((dat S v.toNat:Nat):Int):=nI_at (by omega)
     have hd:=hda v.toNat
     generalize dat S v.toNat=q at *
     refine drvL Try.func76 ?_
     simp only [go_sem,hn2,e2,f2,hx,dpB_eq]
     iterate 4 ((try (refine drvZ Try.func76 ?_;simp only [go_sem,hn2,e2,f2,hx,dpB_eq]));((with_reducible and_intros)<;>try exact sd))
     refine RetOb.ofQ some [] (DI .i64 _) [some (dpB ⟨vs,ar,bd⟩ (tr ||| so) re),some ((nI S).map I64)] ?_ (by rw [← hR,if_pos hk];exact ⟨rfl,rfl⟩) (by simp)
     simp [enumL,DM,DMs,HpOK,LowOK,hOf,upd,dpB_eq]
     exact ⟨CM.kf rfl,CMs.kf (dpB_all ⟨vs,ar,bd⟩ _ _),CMs.kf (kf_I _)⟩
    ·have hv3:=hlim3 hk
     have e2:(k == 2)=false:=by simp [hk]
     have f2:(k=2)=False:=by simp [hk]
     have e3:(k == 3)=true:=by simp [hk]
     have f3:(k=3)=True:=by simp [hk]
     have hx:(nI S)[vs.length+v.toNat]? = some ((dat S (vs.length+v.toNat):Nat):Int):=nI_at (by omega)
     have hd:=hda (vs.length+v.toNat)
     have hcell:=hcell (by omega)
     have hvn:((v.toNat:Nat):Int)=v:=by omega
     rw [hvn] at hcell
     have hi4:((vs.length:Int)+(v.toNat:Int)).toNat=vs.length+v.toNat:=by omega
     generalize dat S (vs.length+v.toNat)=q at *
     refine drvL Try.func76 ?_
     simp only [go_sem,hn2,e2,f2,e3,f3,hx,dpB_eq]
     iterate 6 ((try (refine drvZ Try.func76 ?_;simp only [go_sem,hn2,e2,f2,e3,f3,hx,hi4,dpB_eq]));((with_reducible and_intros)<;>try exact sd);(try first | refine XK.p hcell ok62 ?_ | refine XK.gp hcell ok62 ?_))
     refine RetOb.ofQ some [] (DI .i64 _) [some (dpB ⟨vs,ar,bd⟩ (tr ||| (so ||| fo)) re),some ((nI S).map I64)] ?_ (by rw [← hR,if_neg (by omega),if_pos hk];exact ⟨rfl,rfl⟩) (by simp)
     simp [enumL,DM,DMs,HpOK,LowOK,hOf,upd,dpB_eq,Nat.or_assoc]
     exact ⟨CM.kf rfl,CMs.kf (dpB_all ⟨vs,ar,bd⟩ _ _),CMs.kf (kf_I _)⟩
    ·have e2:(k == 2)=false:=by simp [hk2]
     have f2:(k=2)=False:=by simp [hk2]
     have e3:(k == 3)=false:=by simp [hk3]
     have f3:(k=3)=False:=by simp [hk3]
     refine drvL Try.func76 ?_
     simp only [go_sem,hn2,e2,f2,e3,f3,dpB_eq]
     iterate 4 ((try (refine drvZ Try.func76 ?_;simp only [go_sem,hn2,e2,f2,e3,f3,dpB_eq]));((with_reducible and_intros)<;>try exact sd);(try first | refine XK.p hcell ok62 ?_ | refine XK.gp hcell ok62 ?_))
     refine RetOb.ofQ some [] (DI .i64 _) [some (dpB ⟨vs,ar,bd⟩ (tr ||| so) re),some ((nI S).map I64)] ?_ (by rw [← hR,if_neg hk2,if_neg hk3];exact ⟨rfl,rfl⟩) (by simp)
     simp [enumL,DM,DMs,HpOK,LowOK,hOf,upd,dpB_eq]
     exact ⟨CM.kf rfl,CMs.kf (dpB_all ⟨vs,ar,bd⟩ _ _),CMs.kf (kf_I _)⟩
  ·simp only [go_sem,TmOK,DM,DMs,CM,CMs,forall_eq,exists_eq_left,Mq,HpOK,LowOK,hf0,hs0,dpB_eq]
   simp
   exact CMs.kf (kf_I _)
abbrev foldD (nv d c:Nat) (l:List St1) (s:Dp):Dp:=l.foldl (depS nv d c) s
theorem runDI {w:Nat} (p:Pg) (hw:p.vars.length+p.arrays.length=w) (hw14:w≤14) (w0:0<w):∀ (d:Nat) (l:List St1) (s:Dp) (c:Nat),Okd w s→c<2 ^ w→(∀ x ∈ l,stmtOK p d x=true)→lsize d l≤1000 →
 DC Try.prog 57 [.c (.ptr 0 0), .c (.isl 11 (St1.cellsL l)), .c (.msl 1 1 0 w), DI .i64 (c : Nat)] [some (dpB p s.tr s.re), some ((nI s.sets).map I64)]
  (fun r h=>r = .c (.msl 2 1 0 w)∧h=[some (dpB p (foldD p.vars.length d c l s).tr (foldD p.vars.length d c l s).re),some ((nI s.sets).map I64),some ((nI (foldD p.vars.length d c l s).sets).map I64)]):=by
 have hmx:=mx_eq
 intro d
 induction d with
 | zero =>
  intro l s c hs hc hok hl
  have hnil:l=[]:=by
   cases l with
   | nil=>rfl
   | cons a r=>have:=hok a (by simp);simp [stmtOK] at this
  subst hnil
  have hcl:=cloneM (nI s.sets) (by rw [nI_len,hs.len];omega) (by rw [nI_len,hs.len];omega)
  rw [nI_len,hs.len] at hcl
  simp only [foldD,List.foldl_nil]
  generalize hR:(fun (r:D) (h:List (Option (List C)))=>r = .c (.msl 2 1 0 w)∧h=_)=R
  have hz:((0:Int)<0)=False:=eq_false (by omega)
  refine dcZ Try.func57 ?_
  simp only [go_sem]
  iterate 2 ((try (refine drvZ Try.func57 ?_;simp only [go_sem]));((with_reducible and_intros)<;>try exact sd))
  refine XK.callG [1] hcl ok43 (hhpG (by simp [HH,upd,hpL,renCs_I])) (hbT ()) (fun d h' ⟨_,e⟩=>by subst e;simp) ?_
  rintro _ _ ⟨rfl,rfl⟩ _
  iterate 3 ((try (refine drvZ Try.func57 ?_;simp only [go_sem,renCs_I,Int.natCast_zero]));((with_reducible and_intros)<;>try exact sd))
  refine Go.loop ?_
  refine drvL Try.func57 ?_
  simp only [go_sem,hz,Int.natCast_zero]
  iterate 3 ((try (refine drvZ Try.func57 ?_;simp only [go_sem,hz,Int.natCast_zero]));((with_reducible and_intros)<;>try exact sd))
  refine RetOb.ofQ (fun j=>if j=2 then some 130 else if j<2 then some j else none) [] (.c (.msl 2 1 0 w)) [some (dpB p s.tr s.re),some ((nI s.sets).map I64),some ((nI s.sets).map I64)] ?_ (by rw [← hR];exact ⟨rfl,rfl⟩) (by simp)
  simp [enumL,DM,DMs,CM,HpOK,LowOK,hOf,upd,hpL]
  repeat' with_reducible apply And.intro
  all_goals first | exact CMs.kf (kf_I _) | exact CMs.kf (dpB_all p _ _)
 | succ d ih =>
  intro l s c hs hc hok hl
  have hsub:=lsize_subs d l
  have hcl:=cloneM (nI s.sets) (by rw [nI_len,hs.len];omega) (by rw [nI_len,hs.len];omega)
  rw [nI_len,hs.len] at hcl
  have hset:=fun (s:Dp) (hs:Okd w s)=>setI p hw hw14 w0 s.sets hs.len hs.row s.re 5
  have hcell:=fun (t:Int) (h0:0≤t) (h1:t<p.arrays.length)=>cellI p (by omega) t.toNat (by omega)
  obtain ⟨vs,ar,bd⟩:=p
  have hw:vs.length+ar.length=w:=hw
  simp only at ih hset hcell ⊢
  have hT:∀ i,Okd w (foldD vs.length (d+1) c (l.take i) s):=fun i=>foldl_ok hc _ hs
  have hTs:∀ i x,l[i]? = some x→foldD vs.length (d+1) c (l.take (i+1)) s=depS vs.length (d+1) c (foldD vs.length (d+1) c (l.take i) s) x:=fun i x h=>by
   unfold foldD;rw [List.take_add_one,h];simp
  have hfin:foldD vs.length (d+1) c (l.take l.length) s=foldD vs.length (d+1) c l s:=by rw [List.take_length]
  have hT0:foldD vs.length (d+1) c (l.take 0) s=s:=rfl
  rw [← hfin]
  obtain ⟨T,hTd⟩:∃ T:Nat→Dp,∀ i,foldD vs.length (d+1) c (l.take i) s=T i:=⟨fun i=>foldD vs.length (d+1) c (l.take i) s,fun _=>rfl⟩
  simp only [hTd] at hT hTs hT0 ⊢
  clear hTd hfin
  generalize hR:(fun (r:D) (h:List (Option (List C)))=>r = .c (.msl 2 1 0 w)∧h=_)=R
  have hc14:=pow14 hw14 hc
  refine dcZ Try.func57 ?_
  simp only [go_sem]
  iterate 2 ((try (refine drvZ Try.func57 ?_;simp only [go_sem]));((with_reducible and_intros)<;>try exact sd))
  refine XK.callG [1] hcl ok43 (hhpG (by simp [HH,upd,hpL,renCs_I])) (hbT ()) (fun d h' ⟨_,e⟩=>by subst e;simp) ?_
  rintro _ _ ⟨rfl,rfl⟩ _
  iterate 3 ((try (refine drvZ Try.func57 ?_;simp only [go_sem,renCs_I]));((with_reducible and_intros)<;>try exact sd))
  refine Go.loopQ (fun i : Nat => [(0, .c (.ptr 0 0)), (2, .c (.msl 2 1 0 w)), (3, DI .i64 c), (16, .c (.isl 11 (St1.cellsL l))), (17, DI .i64 l.length), (18, DI .i64 i)])
   (fun i=>[(0,some (dpB ⟨vs,ar,bd⟩ (T i).tr (T i).re)),(1,some ((nI s.sets).map I64)),(2,some ((nI (T i).sets).map I64))]) 4096 (fun i=>i≤l.length) (fun i=>l.length - i) ?_ 0 (fun j=>if j=2 then some 130 else if j<2 then some j else none) [] _ (Nat.zero_le _) ?_
  ·intro i hi again
   rcases Nat.lt_or_ge i l.length with hlt | hge
   ·obtain ⟨⟨k,t,⟨ik,iv,iks⟩,⟨vk,vv,vks⟩,cc,b,e⟩,hx⟩:∃ x,l[i]? = some x:=⟨l[i],by simp [hlt]⟩
    have hsok:=hok _ (List.mem_of_getElem? hx)
    have hbe:=stmtOK_succ hsok
    have hhk:=head_kind hbe.1
    obtain ⟨s1,s2⟩:=shapeV hsok
    have a1:=tsum_succ (subs d) l i _ hx
    have a2:=tsum_le (subs d) l (i+1)
    simp only [subs,St1.body,St1.els] at a1 a2
    have hTi:=hT i
    have hTn:=hTs i _ hx
    generalize T i=X at *
    simp only at hhk
    have key:k=4∨k=1∨k=5∨k=2∨k=3:=by omega
    rcases key with hk | hk | hk | hk | hk
    ·subst hk
     rw [depS_4] at hTn
     have hfix:∀ n X,fixD (fun s=>b.foldl (depS vs.length d c) s) (n+1) X=if unite X.sets (foldD vs.length d c b X).sets=X.sets then ⟨X.sets,(foldD vs.length d c b X).tr,(foldD vs.length d c b X).re⟩ else fixD (fun s=>b.foldl (depS vs.length d c) s) n ⟨unite X.sets (foldD vs.length d c b X).sets,(foldD vs.length d c b X).tr,(foldD vs.length d c b X).re⟩:=fun _ _=>rfl
     have hfix0:∀ X,fixD (fun s=>b.foldl (depS vs.length d c) s) 0 X=X:=fun _=>rfl
     generalize fixD (fun s=>b.foldl (depS vs.length d c) s)=fx at *
     refine drvL Try.func57 ?_
     simp only [go_sem,hx,hlt]
     iterate 3 ((try (refine drvZ Try.func57 ?_;simp only [go_sem,hx,hlt]));((with_reducible and_intros)<;>try exact sd))
     refine Go.loopQ (fun x : Dp × Nat => [(0, .c (.ptr 0 0)), (2, .c (.msl 2 1 0 w)), (3, DI .i64 c), (10, .c (.ptr 3 0)), (16, .c (.isl 11 (St1.cellsL l))), (17, DI .i64 l.length), (18, DI .i64 i)])
      (fun x=>[(0,some (dpB ⟨vs,ar,bd⟩ x.1.tr x.1.re)),(1,some ((nI s.sets).map I64)),(2,some ((nI x.1.sets).map I64)),(3,some (St1.cells (.mk 4 t (.mk ik iv iks) (.mk vk vv vks) cc b e)))])
      8192 (fun x=>Okd w x.1∧w * 2 ^ w<x.2+x.1.sets.sum∧fx x.2 x.1=T (i+1)) (fun x=>x.2) ?_ (X,FU) (fun j=>if j=3 then some 4288 else if j<3 then some j else none) [] _ ⟨hTi,fu_big hw14 _,hTn.symm⟩ ?_
     ·rintro ⟨X,n⟩ ⟨ho,hn,hf⟩ again2
      have ho:Okd w X:=ho
      have hn:w * 2 ^ w<n+X.sets.sum:=hn
      have hf:fx n X=T (i+1):=hf
      cases n with
      | zero =>
       have:=list_sum_lt (w:=w) ho.row
       rw [ho.len] at this
       omega
      | succ n =>
       obtain ⟨xs,xt,xr⟩:=X
       have r1:=ih b ⟨xs,xt,xr⟩ c ho hc hbe.2.1 (by omega)
       have hy1:Okd w (foldD vs.length d c b ⟨xs,xt,xr⟩):=foldl_ok hc b ho
       simp only [hfix] at hf
       generalize foldD vs.length d c b ⟨xs,xt,xr⟩=Y1 at *
       obtain ⟨ys,yt,yr⟩:=Y1
       simp only at hf r1 hn
       have hxl:xs.length=w:=ho.len
       have hyl:ys.length=w:=hy1.len
       have hul:(unite xs ys).length=w:=by rw [unite_len (by omega)];exact hxl
       have hun:=unitedI xs ys w hxl hyl w0 hw14 (fun x hx=>pow14 hw14 (ho.row x hx)) (fun x hx=>pow14 hw14 (hy1.row x hx))
       have heq:=equalM (nI (unite xs ys)) (nI xs) (by rw [nI_len,hul];omega) (by rw [nI_len,nI_len,hul,hxl])
       rw [nI_len,hul] at heq
       have hxs:=nI_len xs
       have hus:=nI_len (unite xs ys)
       by_cases hq:unite xs ys=xs
       ·have hde:decide (nI (unite xs ys)=nI xs)=true:=by rw [hq];simp
        rw [if_pos hq] at hf
        rw [hde] at heq
        refine drvL Try.func57 ?_
        simp only [go_sem]
        ((try (refine drvZ Try.func57 ?_;simp only [go_sem]));((with_reducible and_intros)<;>try exact sd))
        refine XK.callG [0,2] r1 ok57 (hhpG (by simp [HH,renCs_I,dpB_ren,upd,hOf])) (hbT ()) (fun d h' ⟨_,e⟩=>by subst e;simp) ?_
        rintro _ _ ⟨rfl,rfl⟩ _
        iterate 2 ((try (refine drvZ Try.func57 ?_;simp only [go_sem,renCs_I,dpB_ren]));((with_reducible and_intros)<;>try exact sd))
        refine XK.callG [2,8576] hun ok74 (hhpG (by simp [HH,renCs_I,upd,hOf])) (hbT ()) (fun d h' ⟨_,e⟩=>by subst e;simp) ?_
        rintro _ _ ⟨rfl,rfl⟩ _
        iterate 2 ((try (refine drvZ Try.func57 ?_;simp only [go_sem,renCs_I,dpB_ren]));((with_reducible and_intros)<;>try exact sd))
        refine XK.callG [8640,2] heq ok75 (hhpG (by simp [HH,renCs_I,upd,hOf])) (hbT ()) (fun d h' ⟨_,e⟩=>by subst e;simp) ?_
        rintro _ _ ⟨rfl,rfl⟩ _
        iterate 6 ((try (refine drvZ Try.func57 ?_;simp only [go_sem,renCs_I,dpB_ren]));((with_reducible and_intros)<;>try exact sd))
        refine again (i+1) some [] _ hlt (by omega) ?_
        rw [← hf]
        simp only [go_sem,TmOK,DM,DMs,CM,CMs,forall_eq,exists_eq_left,Mq,HpOK,LowOK]
        simp
        repeat' with_reducible apply And.intro
        all_goals first | exact CMs.kf (kf_I _) | exact CMs.kf (dpB_all ⟨vs,ar,bd⟩ _ _)
       ·have hde:decide (nI (unite xs ys)=nI xs)=false:=by simp;exact fun h=>hq (nI_inj h)
        rw [if_neg hq] at hf
        rw [hde] at heq
        refine drvL Try.func57 ?_
        simp only [go_sem]
        ((try (refine drvZ Try.func57 ?_;simp only [go_sem]));((with_reducible and_intros)<;>try exact sd))
        refine XK.callG [0,2] r1 ok57 (hhpG (by simp [HH,renCs_I,dpB_ren,upd,hOf])) (hbT ()) (fun d h' ⟨_,e⟩=>by subst e;simp) ?_
        rintro _ _ ⟨rfl,rfl⟩ _
        iterate 2 ((try (refine drvZ Try.func57 ?_;simp only [go_sem,renCs_I,dpB_ren]));((with_reducible and_intros)<;>try exact sd))
        refine XK.callG [2,8576] hun ok74 (hhpG (by simp [HH,renCs_I,upd,hOf])) (hbT ()) (fun d h' ⟨_,e⟩=>by subst e;simp) ?_
        rintro _ _ ⟨rfl,rfl⟩ _
        iterate 2 ((try (refine drvZ Try.func57 ?_;simp only [go_sem,renCs_I,dpB_ren]));((with_reducible and_intros)<;>try exact sd))
        refine XK.callG [8640,2] heq ok75 (hhpG (by simp [HH,renCs_I,upd,hOf])) (hbT ()) (fun d h' ⟨_,e⟩=>by subst e;simp) ?_
        rintro _ _ ⟨rfl,rfl⟩ _
        iterate 6 ((try (refine drvZ Try.func57 ?_;simp only [go_sem,renCs_I,dpB_ren]));((with_reducible and_intros)<;>try exact sd))
        have hgrow:=(unite_sum (a:=xs) (b:=ys) (by omega)).2 hq
        refine again2 (⟨unite xs ys,yt,yr⟩,n) (fun j=>if j=2 then some 8640 else if j<4 then some j else none) [] _ ⟨⟨hul,hw14,unite_row ho.row hy1.row,hy1.tr,hy1.re⟩,by show w * 2 ^ w<n+(unite xs ys).sum;omega,hf⟩ (by show n<n+1;omega) ?_
        simp only [go_sem,TmOK,DM,DMs,CM,CMs,forall_eq,exists_eq_left,Mq,HpOK,LowOK]
        simp
        repeat' with_reducible apply And.intro
        all_goals first | exact CMs.kf (kf_I _) | exact CMs.kf (dpB_all ⟨vs,ar,bd⟩ _ _)
     ·simp only [go_sem,TmOK,DM,DMs,CM,CMs,forall_eq,exists_eq_left,Mq,HpOK,LowOK]
      simp
      repeat' with_reducible apply And.intro
      all_goals first | exact CMs.kf (kf_I _) | exact CMs.kf (dpB_all ⟨vs,ar,bd⟩ _ _)
    ·subst hk
     rw [depS_1] at hTn
     have hv:=hset X hTi (.mk vk vv vks) X.tr (s1 (by decide)) hTi.tr
     have hV:=setE_lt (nv:=vs.length) hTi.row 5 (.mk vk vv vks)
     generalize setE vs.length X.sets 5 (.mk vk vv vks)=V at *
     obtain ⟨V1,V2⟩:=V
     obtain ⟨xs,xt,xr⟩:=X
     simp only at hTn hv hV
     have v14:=pow14 hw14 hV.1
     have hxs:=nI_len xs
     have hxl:xs.length=w:=hTi.len
     have hput:=nI_put xs t.toNat (V1 ||| c)
     refine drvL Try.func57 ?_
     simp only [go_sem,hx,hlt]
     iterate 3 ((try (refine drvZ Try.func57 ?_;simp only [go_sem,hx,hlt]));((with_reducible and_intros)<;>try exact sd))
     refine XK.callG [0,2] hv ok76 (hhpG (by simp [HH,renCs_I,dpB_ren,upd,hOf])) (hbT ()) (fun d h' ⟨_,e⟩=>by subst e;simp) ?_
     rintro _ _ ⟨rfl,rfl⟩ _
     iterate 8 ((try (refine drvZ Try.func57 ?_;simp only [go_sem,renCs_I,dpB_ren,hput]));((with_reducible and_intros)<;>try exact sd))
     refine again (i+1) some [] _ hlt (by omega) ?_
     simp only [go_sem,TmOK,DM,DMs,CM,CMs,forall_eq,exists_eq_left,Mq,HpOK,LowOK,hTn]
     simp
     repeat' with_reducible apply And.intro
     all_goals first | exact CMs.kf (kf_I _) | exact CMs.kf (dpB_all ⟨vs,ar,bd⟩ _ _)
    ·subst hk
     rw [depS_5] at hTn
     have hv:=hset X hTi (.mk vk vv vks) X.tr (s1 (by decide)) hTi.tr
     have hV:=setE_lt (nv:=vs.length) hTi.row 5 (.mk vk vv vks)
     generalize setE vs.length X.sets 5 (.mk vk vv vks)=V at *
     obtain ⟨V1,V2⟩:=V
     obtain ⟨xs,xt,xr⟩:=X
     simp only at hTn hv hV
     have v14:=pow14 hw14 hV.1
     have hxs:=nI_len xs
     have hxl:xs.length=w:=hTi.len
     have hput:=nI_put xs t.toNat (V1 ||| c)
     have t14:xt ||| V2<16384:=pow14 hw14 (Nat.or_lt_two_pow hTi.tr hV.2)
     have r14:xr<16384:=pow14 hw14 hTi.re
     have o14:=pow14 hw14 (Nat.or_lt_two_pow hV.1 hc)
     refine drvL Try.func57 ?_
     simp only [go_sem,hx,hlt]
     iterate 3 ((try (refine drvZ Try.func57 ?_;simp only [go_sem,hx,hlt]));((with_reducible and_intros)<;>try exact sd))
     refine XK.callG [0,2] hv ok76 (hhpG (by simp [HH,renCs_I,dpB_ren,upd,hOf])) (hbT ()) (fun d h' ⟨_,e⟩=>by subst e;simp) ?_
     rintro _ _ ⟨rfl,rfl⟩ _
     iterate 10 ((try (refine drvZ Try.func57 ?_;simp only [go_sem,renCs_I,dpB_eq,hput]));((with_reducible and_intros)<;>try exact sd))
     refine again (i+1) some [] _ hlt (by omega) ?_
     simp only [go_sem,TmOK,DM,DMs,CM,CMs,forall_eq,exists_eq_left,Mq,HpOK,LowOK,hTn,dpB_eq]
     simp
     repeat' with_reducible apply And.intro
     all_goals first | exact CMs.kf (kf_I _) | exact CMs.kf (dpB_all ⟨vs,ar,bd⟩ _ _)
    ·subst hk
     rw [depS_2] at hTn
     have hv:=hset X hTi (.mk vk vv vks) X.tr (s1 (by decide)) hTi.tr
     have hV:=setE_lt (nv:=vs.length) hTi.row 5 (.mk vk vv vks)
     generalize setE vs.length X.sets 5 (.mk vk vv vks)=V at *
     obtain ⟨V1,V2⟩:=V
     obtain ⟨xs,xt,xr⟩:=X
     simp only at hTn hv hV
     have v14:=pow14 hw14 hV.1
     have hxs:=nI_len xs
     have hxl:xs.length=w:=hTi.len
     have hix:=setI ⟨vs,ar,bd⟩ hw hw14 w0 xs hxl hTi.row xr 5 (.mk ik iv iks) (xt ||| V2) (s2 rfl) (Nat.or_lt_two_pow hTi.tr hV.2)
     have hI:=setE_lt (nv:=vs.length) hTi.row 5 (.mk ik iv iks)
     generalize setE vs.length xs 5 (.mk ik iv iks)=I at *
     obtain ⟨I1,I2⟩:=I
     simp only at hTn hix hI
     have i14:=pow14 hw14 hI.1
     have hcl2:=hcell t (by omega) (by omega)
     have hvn:((t.toNat:Nat):Int)=t:=by omega
     rw [hvn] at hcl2
     have hi4:((vs.length:Int)+(t.toNat:Int)).toNat=vs.length+t.toNat:=by omega
     have hxq:(nI xs)[vs.length+t.toNat]? = some ((dat xs (vs.length+t.toNat):Nat):Int):=nI_at (by omega)
     have q14:=pow14 hw14 (dat_lt hTi.row (vs.length+t.toNat))
     have hput:=nI_put xs (vs.length+t.toNat) (dat xs (vs.length+t.toNat) ||| (V1 ||| I1 ||| c))
     generalize dat xs (vs.length+t.toNat)=q at *
     have t14:xt ||| V2 ||| I2<16384:=pow14 hw14 (Nat.or_lt_two_pow (Nat.or_lt_two_pow hTi.tr hV.2) hI.2)
     have o14:=pow14 hw14 (Nat.or_lt_two_pow hV.1 hI.1)
     have p14:=pow14 hw14 (Nat.or_lt_two_pow (Nat.or_lt_two_pow hV.1 hI.1) hc)
     refine drvL Try.func57 ?_
     simp only [go_sem,hx,hlt]
     iterate 3 ((try (refine drvZ Try.func57 ?_;simp only [go_sem,hx,hlt]));((with_reducible and_intros)<;>try exact sd))
     refine XK.callG [0,2] hv ok76 (hhpG (by simp [HH,renCs_I,dpB_ren,upd,hOf])) (hbT ()) (fun d h' ⟨_,e⟩=>by subst e;simp) ?_
     rintro _ _ ⟨rfl,rfl⟩ _
     iterate 6 ((try (refine drvZ Try.func57 ?_;simp only [go_sem,renCs_I,dpB_eq]));((with_reducible and_intros)<;>try exact sd))
     refine XK.callG [0,2] hix ok76 (hhpG (by simp [HH,renCs_I,dpB_ren,upd,hOf];rfl)) (hbT ()) (fun d h' ⟨_,e⟩=>by subst e;simp) ?_
     rintro _ _ ⟨rfl,rfl⟩ _
     iterate 10 ((try (refine drvZ Try.func57 ?_;simp only [go_sem,renCs_I,dpB_eq,hxq,hi4,hput]));((with_reducible and_intros)<;>try exact sd);(try first | refine XK.p hcl2 ok62 ?_ | refine XK.gp hcl2 ok62 ?_))
     refine again (i+1) some [] _ hlt (by omega) ?_
     simp only [go_sem,TmOK,DM,DMs,CM,CMs,forall_eq,exists_eq_left,Mq,HpOK,LowOK,hTn,dpB_eq]
     simp
     repeat' with_reducible apply And.intro
     all_goals first | exact CMs.kf (kf_I _) | exact CMs.kf (dpB_all ⟨vs,ar,bd⟩ _ _)
    ·subst hk
     rw [depS_3] at hTn
     have hv:=hset X hTi (.mk vk vv vks) X.tr (s1 (by decide)) hTi.tr
     have hV:=setE_lt (nv:=vs.length) hTi.row 5 (.mk vk vv vks)
     unfold ifN ifY at hTn
     generalize setE vs.length X.sets 5 (.mk vk vv vks)=V at *
     obtain ⟨V1,V2⟩:=V
     obtain ⟨xs,xt,xr⟩:=X
     simp only at hTn hv hV
     have hTn:T (i+1)=⟨unite (foldD vs.length d (c ||| V1) b ⟨xs,xt ||| V2 ||| V1,xr⟩).sets (foldD vs.length d (c ||| V1) e ⟨xs,(foldD vs.length d (c ||| V1) b ⟨xs,xt ||| V2 ||| V1,xr⟩).tr,(foldD vs.length d (c ||| V1) b ⟨xs,xt ||| V2 ||| V1,xr⟩).re⟩).sets,(foldD vs.length d (c ||| V1) e ⟨xs,(foldD vs.length d (c ||| V1) b ⟨xs,xt ||| V2 ||| V1,xr⟩).tr,(foldD vs.length d (c ||| V1) b ⟨xs,xt ||| V2 ||| V1,xr⟩).re⟩).tr,(foldD vs.length d (c ||| V1) e ⟨xs,(foldD vs.length d (c ||| V1) b ⟨xs,xt ||| V2 ||| V1,xr⟩).tr,(foldD vs.length d (c ||| V1) b ⟨xs,xt ||| V2 ||| V1,xr⟩).re⟩).re⟩:=hTn
     have v14:=pow14 hw14 hV.1
     have hxs:=nI_len xs
     have hxl:xs.length=w:=hTi.len
     have t14:xt ||| V2<16384:=pow14 hw14 (Nat.or_lt_two_pow hTi.tr hV.2)
     have ho:=Nat.or_lt_two_pow hc hV.1
     have o14:=pow14 hw14 ho
     have hx1:Okd w ⟨xs,xt ||| V2 ||| V1,xr⟩:=⟨hxl,hw14,hTi.row,Nat.or_lt_two_pow (Nat.or_lt_two_pow hTi.tr hV.2) hV.1,hTi.re⟩
     have r1:=ih b ⟨xs,xt ||| V2 ||| V1,xr⟩ (c ||| V1) hx1 ho hbe.2.1 (by omega)
     have hy1:Okd w (foldD vs.length d (c ||| V1) b ⟨xs,xt ||| V2 ||| V1,xr⟩):=foldl_ok ho b hx1
     generalize foldD vs.length d (c ||| V1) b ⟨xs,xt ||| V2 ||| V1,xr⟩=Y1 at *
     obtain ⟨ys,yt,yr⟩:=Y1
     simp only at hTn r1
     have hx2:Okd w ⟨xs,yt,yr⟩:=⟨hxl,hw14,hTi.row,hy1.tr,hy1.re⟩
     have r2:=ih e ⟨xs,yt,yr⟩ (c ||| V1) hx2 ho hbe.2.2 (by omega)
     have hy2:Okd w (foldD vs.length d (c ||| V1) e ⟨xs,yt,yr⟩):=foldl_ok ho e hx2
     generalize foldD vs.length d (c ||| V1) e ⟨xs,yt,yr⟩=Y2 at *
     obtain ⟨zs,zt,zr⟩:=Y2
     simp only at hTn r2
     have hun:=unitedI ys zs w hy1.len hy2.len w0 hw14 (fun x hx=>pow14 hw14 (hy1.row x hx)) (fun x hx=>pow14 hw14 (hy2.row x hx))
     refine drvL Try.func57 ?_
     simp only [go_sem,hx,hlt]
     iterate 3 ((try (refine drvZ Try.func57 ?_;simp only [go_sem,hx,hlt]));((with_reducible and_intros)<;>try exact sd))
     refine XK.callG [0,2] hv ok76 (hhpG (by simp [HH,renCs_I,dpB_ren,upd,hOf])) (hbT ()) (fun d h' ⟨_,e⟩=>by subst e;simp) ?_
     rintro _ _ ⟨rfl,rfl⟩ _
     iterate 8 ((try (refine drvZ Try.func57 ?_;simp only [go_sem,renCs_I,dpB_eq]));((with_reducible and_intros)<;>try exact sd))
     refine XK.callG [0,2] r1 ok57 (hhpG (by simp [HH,renCs_I,dpB_ren,upd,hOf];rfl)) (hbT ()) (fun d h' ⟨_,e⟩=>by subst e;simp) ?_ (fun _=>⟨by kernel_rfl,_,_,⟨rfl,rfl⟩,by simp⟩)
     rintro _ _ ⟨rfl,rfl⟩ _
     iterate 3 ((try (refine drvZ Try.func57 ?_;simp only [go_sem,renCs_I,dpB_eq]));((with_reducible and_intros)<;>try exact sd))
     refine XK.callG [0,2] r2 ok57 (hhpG (by simp [HH,renCs_I,dpB_ren,upd,hOf];rfl)) (hbT ()) (fun d h' ⟨_,e⟩=>by subst e;simp) ?_ (fun _=>⟨by kernel_rfl,_,_,⟨rfl,rfl⟩,by simp⟩)
     rintro _ _ ⟨rfl,rfl⟩ _
     iterate 3 ((try (refine drvZ Try.func57 ?_;simp only [go_sem,renCs_I,dpB_eq]));((with_reducible and_intros)<;>try exact sd))
     refine XK.callG [6656,7168] hun ok74 (hhpG (by simp [HH,renCs_I,upd,hOf])) (hbT ()) (fun d h' ⟨_,e⟩=>by subst e;simp) ?_ (fun _=>⟨by kernel_rfl,_,_,⟨rfl,rfl⟩,by simp⟩)
     rintro _ _ ⟨rfl,rfl⟩ _
     iterate 4 ((try (refine drvZ Try.func57 ?_;simp only [go_sem,renCs_I,dpB_eq]));((with_reducible and_intros)<;>try exact sd))
     refine again (i+1) (fun j=>if j=2 then some 7232 else if j<2 then some j else none) [] _ hlt (by omega) ?_
     simp only [go_sem,TmOK,DM,DMs,CM,CMs,forall_eq,exists_eq_left,Mq,HpOK,LowOK,hTn,dpB_eq]
     simp
     repeat' with_reducible apply And.intro
     all_goals first | exact CMs.kf (kf_I _) | exact CMs.kf (dpB_all ⟨vs,ar,bd⟩ _ _)
   ·have hn2:¬ i<l.length:=by omega
    obtain rfl:i=l.length:=by omega
    refine drvL Try.func57 ?_
    simp only [go_sem,hn2]
    iterate 3 ((try (refine drvZ Try.func57 ?_;simp only [go_sem,hn2]));((with_reducible and_intros)<;>try exact sd))
    refine RetOb.ofQ some [] (.c (.msl 2 1 0 w)) [some (dpB ⟨vs,ar,bd⟩ (T l.length).tr (T l.length).re),some ((nI s.sets).map I64),some ((nI (T l.length).sets).map I64)] ?_ (by rw [← hR];exact ⟨rfl,rfl⟩) (by simp)
    simp [enumL,DM,DMs,CM,HpOK,LowOK,hOf,upd,hpL]
    exact ⟨CMs.kf (dpB_all ⟨vs,ar,bd⟩ _ _),CMs.kf (kf_I _),CMs.kf (kf_I _)⟩
  ·simp only [go_sem,TmOK,DM,DMs,CM,CMs,forall_eq,exists_eq_left,Mq,HpOK,LowOK,hT0]
   simp
   exact ⟨CMs.kf (dpB_all ⟨vs,ar,bd⟩ _ _),CMs.kf (kf_I _)⟩
def bl (n N:Nat):List Bool:=(List.range n).map fun i=>N.testBit i
theorem bl_len (n N:Nat):(bl n N).length=n:=by simp [bl]
theorem bl_succ (n N:Nat):bl (n+1) N=bl n N++[N.testBit n]:=by simp [bl,List.range_succ]
theorem boolsFz {F:FuncId} {args:List D} {L:List Bool} {w:Nat} (hw:L.length=w) (h:DC Try.prog F args [] (fun r h=>r = .c (.msl 0 1 0 w)∧h=[some (boolsC L)])):DC Try.prog F args [] (fun r h=>r = .c (boolsD L)∧h=[]) :=
 DC.weaken h fun d h' ⟨e1,e2⟩ _=>by
  subst e1 e2
  refine RetOb.frozen (xs:=L.map fun b=>[BC b]) ⟨rfl,rfl⟩ (by rw [boolsC_flat];rfl) (by simp [hw]) ?_ ?_
  ·intro x hx
   obtain ⟨b,_,rfl⟩:=List.mem_map.1 hx
   rfl
  ·intro x hx c hc
   obtain ⟨b,_,rfl⟩:=List.mem_map.1 hx
   simp only [List.mem_singleton] at hc
   subst hc;rfl
theorem boolsKeep {hp:Hp} {k w:Nat} {L:List Bool} (hk:hp k=some (some (boolsC L))) (hw:L.length=w):RetOb 0 (fun r h=>r = .c (.msl 0 1 0 w)∧h=[some (boolsC L)]) (.c (.msl k 1 0 w)) hp:=by
 refine RetOb.ofQ (fun j=>if j=0 then some k else none) [] _ [some (boolsC L)] ?_ ⟨rfl,rfl⟩ (by simp)
 have e4:∀ {hT hS:Hp} {r:Nat→Option Nat} {fz:List Nat},CMs hT r hS fz (boolsC L) (boolsC L)=True:=eq_true (CMs.kf (boolsC_kf _))
 simp [enumL,DM,DMs,CM,CMs,HpOK,LowOK,hOf,upd,hk,e4]
theorem elementsO (p:Pg) {w:Nat} (hw:p.vars.length+p.arrays.length=w) (hw14:w≤14) (N:Nat) (hN:N<2 ^ w):DC Try.prog 31 [.agg p.cells,DI .i64 (N:Int)] [] (fun r h=>r = .c (.msl 0 1 0 w)∧h=[some (boolsC (bl w N))]):=by
 have hmx:=mx_eq
 have hce:=cellsI p (by omega) (by omega)
 rw [hw] at hce
 have hN14:=pow14 hw14 hN
 obtain ⟨vs,ar,bd⟩:=p
 generalize hR:(fun (r:D) (h:List (Option (List C)))=>r = .c (.msl 0 1 0 w)∧h=[some (boolsC (bl w N))])=R
 refine dcZ Try.func31 ?_
 simp only [go_sem]
 iterate 3 ((try (refine drvZ Try.func31 ?_;simp only [go_sem]));((with_reducible and_intros)<;>try exact sd);(try first | refine XK.p hce ok40 ?_ | refine XK.gp hce ok40 ?_))
 refine Go.loopQ (fun i:Nat=>[(1,DI .i64 N),(5,.c (.msl 64 1 0 i)),(8,DI .i64 w),(9,DI .i64 i)]) (fun i=>[(64,some (boolsC (bl i N)))]) 4096 (fun i=>i≤w) (fun i=>w - i) ?_ 0 (fun j=>if j=64 then none else some j) [] _ (Nat.zero_le _) ?_
 ·intro i hi again
  have hbl:=bl_len i N
  have hbc:=boolsC_len (bl i N)
  have hsn:=boolsC_snoc (bl i N) (N.testBit i)
  rw [← bl_succ] at hsn
  rcases Nat.lt_or_ge i w with hlt | hge
  ·have htb:=tbit N i
   have hd0:0≤(N:Int) / 2 ^ i:=Int.ediv_nonneg (by omega) (by exact Int.pow_nonneg (by omega))
   have hd1:(N:Int) / 2 ^ i≤N:=Int.ediv_le_self _ (by omega)
   have hdK:InK .i64 ((N:Int) / 2 ^ i):=by
    generalize (N:Int) / 2 ^ i=q at *
    simp only [InK];omega
   have hz:=andZ_nn (k := .i64) (a:=(N:Int) / 2 ^ i) (b:=1) hd0 (by decide) hdK (by simp only [InK];omega)
   rw [show ((1:Int).toNat)=1 from rfl] at hz
   rw [← hz] at htb
   have hbit:(if N.testBit i=true then (1:Int) else 0)=1 ↔ N.testBit i=true:=by cases N.testBit i<;>simp
   generalize bl i N=L at *
   generalize N.testBit i=tb at *
   cases tb
   all_goals
    simp only [if_true,Bool.false_eq_true,if_false] at htb
    refine drvL Try.func31 ?_
    simp only [go_sem,hlt]
    iterate 6 ((try (refine drvZ Try.func31 ?_;simp only [go_sem,hlt,htb,hd0,hdK,hbc,and_self]));((with_reducible and_intros)<;>try exact sd);(try first | refine XK.p hce ok40 ?_ | refine XK.gp hce ok40 ?_))
   all_goals
    refine again (i+1) (fun j=>if j=64 then some 4736 else none) [] _ hlt (by omega) ?_
    simp only [go_sem,TmOK,DM,DMs,CM,CMs,forall_eq,exists_eq_left,Mq,HpOK,LowOK,hsn]
    simp
    rw [← hsn]
    exact CMs.kf (boolsC_kf _)
  ·have hn:¬ i<w:=by omega
   obtain rfl:i=w:=by omega
   refine drvL Try.func31 ?_
   simp only [go_sem,hn]
   iterate 4 ((try (refine drvZ Try.func31 ?_;simp only [go_sem,hn]));((with_reducible and_intros)<;>try exact sd);(try first | refine XK.p hce ok40 ?_ | refine XK.gp hce ok40 ?_))
   rw [← hR]
   exact boolsKeep rfl hbl
 ·simp only [go_sem,TmOK,DM,DMs,CM,CMs,forall_eq,exists_eq_left,Mq,HpOK,LowOK]
  simp [bl,boolsC]
theorem elementsI (p:Pg) {w:Nat} (hw:p.vars.length+p.arrays.length=w) (hw14:w≤14) (N:Nat) (hN:N<2 ^ w):DC Try.prog 31 [.agg p.cells,DI .i64 (N:Int)] [] (fun r h=>r = .c (boolsD (bl w N))∧h=[]) :=
 boolsFz (bl_len w N) (elementsO p hw hw14 N hN)
def pws (i:Nat):List Nat:=(List.range i).map fun i=>2 ^ i
theorem pws_len (i:Nat):(pws i).length=i:=by simp [pws]
theorem pws_succ (i:Nat):pws (i+1)=pws i++[2 ^ i]:=by simp [pws,List.range_succ]
theorem start_ok {w:Nat} (hw:w≤14):Okd w (startD w) :=
 ⟨by simp [startD],hw,fun a ha=>by
  obtain ⟨i,hi,rfl⟩:=List.mem_map.1 ha
  exact Nat.pow_lt_pow_right (by omega) (List.mem_range.1 hi),Nat.two_pow_pos w,Nat.two_pow_pos w⟩
theorem nI_snoc (S:List Nat) (x:Nat):(nI (S++[x])).map I64=(nI S).map I64++[.v (.int .i64 (x:Int))]:=by simp [nI]
theorem analysedI (p : Pg) {w : Nat} (hw : p.vars.length + p.arrays.length = w) (hw14 : w ≤ 14) (w0 : 0 < w) (hok : ∀ s ∈ p.body, stmtOK p 5 s = true) (hsz : lsize 5 p.body ≤ 1000) : DC Try.prog 30 [.agg p.cells] []
 (fun r h=>r = .tup [.c (.ptr 0 0),.c (.msl 1 1 0 w)]∧h=[some (dpB p (depP p).tr (depP p).re),some ((nI (depP p).sets).map I64)]):=by
 have hmx:=mx_eq
 have hce:=cellsI p (by omega) (by omega)
 rw [hw] at hce
 have hrun:=runDI p hw hw14 w0 5 p.body (startD w) 0 (start_ok hw14) (Nat.two_pow_pos w) hok hsz
 have hdp:foldD p.vars.length 5 0 p.body (startD w)=depP p:=by unfold depP;rw [hw]
 rw [hdp] at hrun
 have hst:(startD w).sets=pws w:=rfl
 have hst2:(startD w).tr=0:=rfl
 have hst3:(startD w).re=0:=rfl
 rw [hst,hst2,hst3] at hrun
 generalize depP p=X at *
 obtain ⟨xs,xt,xr⟩:=X
 obtain ⟨vs,ar,bd⟩:=p
 simp only at hrun
 generalize hR:(fun (r:D) (h:List (Option (List C)))=>r = .tup [.c (.ptr 0 0),.c (.msl 1 1 0 w)]∧h=_)=R
 refine dcZ Try.func30 ?_
 simp only [go_sem]
 iterate 4 ((try (refine drvZ Try.func30 ?_;simp only [go_sem]));((with_reducible and_intros)<;>try exact sd);(try first | refine XK.p hce ok40 ?_ | refine XK.gp hce ok40 ?_))
 refine Go.loopQ (fun i : Nat => [(1, .c (.ptr 0 0)), (4, .c (.ptr 320 0)), (5, .c (.msl 64 1 0 i)), (11, DI .i64 w), (12, DI .i64 i)])
  (fun i=>[(0,some (Pg.cells ⟨vs,ar,bd⟩)),(320,some (dpB ⟨vs,ar,bd⟩ 0 0)),(64,some ((nI (pws i)).map I64))]) 4096 (fun i=>i≤w) (fun i=>w - i) ?_ 0 (fun j=>if j=64 then none else some j) [] _ (Nat.zero_le _) ?_
 ·intro i hi again
  have hsn:=nI_snoc (pws i) (2 ^ i)
  rw [← pws_succ] at hsn
  have hpl:=pws_len i
  have hnl:=nI_len (pws i)
  rcases Nat.lt_or_ge i w with hlt | hge
  ·have h2:2 ^ i<2 ^ w:=Nat.pow_lt_pow_right (by omega) hlt
   have h3:=pow14 hw14 h2
   have hsh:(1:Int) * 2 ^ i=((2 ^ i:Nat):Int):=by rw [Int.one_mul,Int.natCast_pow];rfl
   have hsh2:(2:Int) ^ i=((2 ^ i:Nat):Int):=by rw [Int.natCast_pow];rfl
   have hi14:i<14:=by omega
   generalize 2 ^ i=q at *
   refine drvL Try.func30 ?_
   simp only [go_sem,hlt]
   iterate 6 ((try (refine drvZ Try.func30 ?_;simp only [go_sem,hlt,hsh,hsh2,Int.one_mul,hnl,hpl]));((with_reducible and_intros)<;>try exact sd);(try first | refine XK.p hce ok40 ?_ | refine XK.gp hce ok40 ?_))
   refine again (i+1) (fun j=>if j=64 then some 4544 else some j) [] _ hlt (by omega) ?_
   simp only [go_sem,TmOK,DM,DMs,CM,CMs,forall_eq,exists_eq_left,Mq,HpOK,LowOK,hsn,dpB_eq]
   simp
   rw [← hsn]
   exact CMs.kf (kf_I _)
  ·have hn:¬ i<w:=by omega
   obtain rfl:i=w:=by omega
   refine drvL Try.func30 ?_
   simp only [go_sem,hn]
   iterate 2 ((try (refine drvZ Try.func30 ?_;simp only [go_sem,hn]));((with_reducible and_intros)<;>try exact sd);(try first | refine XK.p hce ok40 ?_ | refine XK.gp hce ok40 ?_))
   refine XK.callG [320,64] hrun ok57 (hhpG (by simp [HH,renCs_I,dpB_ren,upd,hOf])) (hbT ()) (fun d h' ⟨_,e⟩=>by subst e;simp) ?_
   rintro _ _ ⟨rfl,rfl⟩ _
   iterate 3 ((try (refine drvZ Try.func30 ?_;simp only [go_sem,renCs_I,dpB_ren]));((with_reducible and_intros)<;>try exact sd))
   refine RetOb.ofQ (fun j=>if j=0 then some 320 else if j=1 then some 4480 else none) [] (.tup [.c (.ptr 0 0),.c (.msl 1 1 0 i)]) [some (dpB ⟨vs,ar,bd⟩ xt xr),some ((nI xs).map I64)] ?_ (by rw [← hR];exact ⟨rfl,rfl⟩) (by simp)
   simp [enumL,DM,DMs,CM,HpOK,LowOK,hOf,upd,hpL]
   repeat' with_reducible apply And.intro
   all_goals first | exact CMs.kf (kf_I _) | exact CMs.kf (dpB_all ⟨vs,ar,bd⟩ _ _)
 ·simp only [go_sem,TmOK,DM,DMs,CM,CMs,forall_eq,exists_eq_left,Mq,HpOK,LowOK,dpB_eq]
  simp [pws,nI,hpL]
theorem depP_ok (p:Pg) {w:Nat} (hw:p.vars.length+p.arrays.length=w) (hw14:w≤14):Okd w (depP p):=by
 unfold depP;rw [hw];exact foldl_ok (Nat.two_pow_pos w) _ (start_ok hw14)
def rowsC (w:Nat) (S:List Nat):List C:=S.map fun N=>boolsD (bl w N)
def rowsD (w:Nat) (S:List Nat):C := .isl 1 (S.map fun N=>[boolsD (bl w N)])
theorem rowsC_len (w:Nat) (S:List Nat):(rowsC w S).length=S.length:=by simp [rowsC]
theorem rowsC_kf (w:Nat) (S:List Nat):∀ c ∈ rowsC w S,kf c=true:=fun c hc=>by
 obtain ⟨N,_,rfl⟩:=List.mem_map.1 hc;rfl
theorem rowsC_flat (w:Nat) (S:List Nat):(S.map fun N=>[boolsD (bl w N)]).flatten=rowsC w S:=flat1 _ _
theorem rowsC_succ (w:Nat) (S:List Nat) (i x:Nat) (h:S[i]? = some x):rowsC w (S.take (i+1))=rowsC w (S.take i)++[boolsD (bl w x)]:=by
 unfold rowsC;rw [List.take_add_one,h];simp
theorem dependsOnI (p : Pg) {w : Nat} (hw : p.vars.length + p.arrays.length = w) (hw14 : w ≤ 14) (w0 : 0 < w) (hok : progOK p = true) : DC Try.prog 8 [.agg p.cells] []
 (fun r h=>r = .c (rowsD w (depP p).sets)∧h=[]):=by
 have hmx:=mx_eq
 have hv:=programValidI p (by omega) (by omega)
 rw [hok] at hv
 have han:=analysedI p hw hw14 w0 (body_of hok).1 (by have:=(body_of hok).2;omega)
 have hX:=depP_ok p hw hw14
 have hel:=elementsI p hw hw14
 generalize depP p=X at *
 obtain ⟨xs,xt,xr⟩:=X
 obtain ⟨vs,ar,bd⟩:=p
 have hxl:xs.length=w:=hX.len
 have hrow:∀ a ∈ xs,a<2 ^ w:=hX.row
 have hnl:=nI_len xs
 generalize hR:(fun (r:D) (h:List (Option (List C)))=>r = .c (rowsD w xs)∧h=[])=R
 refine dcZ Try.func8 ?_
 simp only [go_sem]
 iterate 3 ((try (refine drvZ Try.func8 ?_;simp only [go_sem]));((with_reducible and_intros)<;>try exact sd);(try first | refine XK.p hv ok29 ?_ | refine XK.gp hv ok29 ?_))
 refine XK.callG [] han ok30 (fun i' x h=>by simp at h) (hbT ()) (fun d h' ⟨_,e⟩=>by subst e;simp) ?_
 rintro _ _ ⟨rfl,rfl⟩ _
 iterate 5 ((try (refine drvZ Try.func8 ?_;simp only [go_sem,renCs_I,dpB_ren]));((with_reducible and_intros)<;>try exact sd))
 refine Go.loopQ (fun i : Nat => [(1, .c (.ptr 0 0)), (5, .c (.msl 64 1 0 i)), (16, .c (.msl 385 1 0 w)), (17, DI .i64 w), (18, DI .i64 i)])
  (fun i=>[(0,some (Pg.cells ⟨vs,ar,bd⟩)),(64,some (rowsC w (xs.take i))),(385,some ((nI xs).map I64))]) 4096 (fun i=>i≤w) (fun i=>w - i) ?_ 0 (fun j=>if j=64 then none else some j) [] _ (Nat.zero_le _) ?_
 ·intro i hi again
  have hcl:=rowsC_len w (xs.take i)
  rw [List.length_take,hxl,Nat.min_eq_left hi] at hcl
  rcases Nat.lt_or_ge i w with hlt | hge
  ·have hx:(nI xs)[i]? = some ((dat xs i:Nat):Int):=nI_at (by omega)
   have hsn:=rowsC_succ w xs i _ (dat_get (by omega))
   have hel:=hel (dat xs i) (dat_lt hrow i)
   generalize dat xs i=q at *
   refine drvL Try.func8 ?_
   simp only [go_sem,hlt,hx]
   iterate 6 ((try (refine drvZ Try.func8 ?_;simp only [go_sem,hlt,hx,hcl,boolsD]));((with_reducible and_intros)<;>try exact sd);(try first | refine XK.p hel ok31 ?_ | refine XK.gp hel ok31 ?_))
   refine again (i+1) (fun j=>if j=64 then some 4672 else some j) [] _ hlt (by omega) ?_
   simp only [go_sem,TmOK,DM,DMs,CM,CMs,forall_eq,exists_eq_left,Mq,HpOK,LowOK,hsn,boolsD]
   simp
   refine ⟨?_,CMs.kf (kf_I _)⟩
   rw [show rowsC w (List.take i xs)++[C.isl 1 (List.map (fun b=>[BC b]) (bl w q))]=rowsC w (xs.take (i+1)) from hsn.symm]
   exact CMs.kf (rowsC_kf _ _)
  ·have hn:¬ i<w:=by omega
   obtain rfl:i=w:=by omega
   refine drvL Try.func8 ?_
   simp only [go_sem,hn]
   iterate 2 ((try (refine drvZ Try.func8 ?_;simp only [go_sem,hn]));((with_reducible and_intros)<;>try exact sd);(try first | refine XK.p hv ok29 ?_ | refine XK.gp hv ok29 ?_))
   rw [← hxl,List.take_length]
   refine RetOb.frozen (xs:=xs.map fun N=>[boolsD (bl xs.length N)]) (by rw [← hR,← hxl];exact ⟨rfl,rfl⟩) ?_ ?_ ?_ ?_
   ·rw [rowsC_flat];simp [hOf,upd]
   ·simp
   ·intro x hx
    obtain ⟨b,_,rfl⟩:=List.mem_map.1 hx
    rfl
   ·intro x hx c hc
    obtain ⟨b,_,rfl⟩:=List.mem_map.1 hx
    simp only [List.mem_singleton] at hc
    subst hc;rfl
 ·simp only [go_sem,TmOK,DM,DMs,CM,CMs,forall_eq,exists_eq_left,Mq,HpOK,LowOK,dpB_eq]
  simp [rowsC]
  exact CMs.kf (kf_I _)
end Go.Proofs.Ytbknljofedfpjaa.CtD
