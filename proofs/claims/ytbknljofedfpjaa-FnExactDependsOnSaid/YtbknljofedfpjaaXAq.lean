/- Contracts of functions of the program, one behind the other, as plain data: what each call returns and which blocks it leaves. -/
import Derived.Test.YtbknljofedfpjaaXFacts
import Derived.Test.YtbknljofedfpjaaXAi
import Derived.Test.YtbknljofedfpjaaXAl
import Derived.Test.YtbknljofedfpjaaXAm
import Derived.Test.YtbknljofedfpjaaXAn
import Derived.Test.YtbknljofedfpjaaXAo
import Derived.Test.YtbknljofedfpjaaXAp
set_option linter.unusedVariables false
set_option linter.unusedSimpArgs false
set_option linter.unusedSectionVars false
set_option maxHeartbeats 16000000
set_option maxRecDepth 100000
namespace Go.Proofs.Ytbknljofedfpjaa.CtD
open Go Go.CT CtF CtR
variable [Yn]
theorem blockD0 {w : Nat} (p : Pg) (c : Nat) (s : Dp) (hs : Okd w s) : DC Try.prog 25 [.agg (p.cells ++ [rowsD w s.sets, .msl 0 1 0 w, .msl 1 1 0 w]), .c (.isl 11 (St1.cellsL [])), .c (.msl 2 1 0 w)] [some (boolsC (bl w s.tr)), some (boolsC (bl w s.re)), some (boolsC (bl w c))]
 (fun r h=>r = .c (rowsD w s.sets)∧h=[some (boolsC (bl w s.tr)),some (boolsC (bl w s.re)),some (boolsC (bl w c))]):=by
 have hmx:=mx_eq
 generalize hR:(fun (r:D) (h:List (Option (List C)))=>r = .c (rowsD w s.sets)∧h=_)=R
 have hz:((0:Int)<0)=False:=eq_false (by omega)
 obtain ⟨vs,ar,bd⟩:=p
 refine dcZ Try.func25 ?_
 simp only [go_sem]
 iterate 2 ((try (refine drvZ Try.func25 ?_;simp only [go_sem,Int.natCast_zero]));((with_reducible and_intros)<;>try exact sd))
 refine Go.loop ?_
 refine drvL Try.func25 ?_
 simp only [go_sem,hz,Int.natCast_zero]
 iterate 3 ((try (refine drvZ Try.func25 ?_;simp only [go_sem,hz,Int.natCast_zero,rowsD]));((with_reducible and_intros)<;>try exact sd))
 refine RetOb.ofQ some [] (.c (rowsD w s.sets)) [some (boolsC (bl w s.tr)),some (boolsC (bl w s.re)),some (boolsC (bl w c))] ?_ (by rw [← hR];exact ⟨rfl,rfl⟩) (by simp)
 simp [enumL,DM,DMs,CM,HpOK,LowOK,hOf,upd,hpL,rowsD]
 exact ⟨CMs.kf (boolsC_kf _),CMs.kf (boolsC_kf _),CMs.kf (boolsC_kf _)⟩
theorem blockD {w:Nat} (p:Pg) (hw:p.vars.length+p.arrays.length=w) (hw14:w≤14) (w0:0<w):∀ (d:Nat) (l:List St1) (s:Dp) (c:Nat),Okd w s→c<2 ^ w→(∀ x ∈ l,stmtOK p d x=true)→lsize d l≤1000 →
 DC Try.prog 25 [.agg (p.cells ++ [rowsD w s.sets, .msl 0 1 0 w, .msl 1 1 0 w]), .c (.isl 11 (St1.cellsL l)), .c (.msl 2 1 0 w)] [some (boolsC (bl w s.tr)), some (boolsC (bl w s.re)), some (boolsC (bl w c))]
  (fun r h=>r = .c (rowsD w (foldD p.vars.length d c l s).sets)∧h=[some (boolsC (bl w (foldD p.vars.length d c l s).tr)),some (boolsC (bl w (foldD p.vars.length d c l s).re)),some (boolsC (bl w c))]):=by
 have hmx:=mx_eq
 intro d
 induction d with
 | zero =>
  intro l s c hs hc hok hl
  have hnil:l=[]:=by
   cases l with
   | nil=>rfl
   | cons a r=>have:=hok a (by simp);simp [stmtOK] at this
  subst hnil
  exact blockD0 p c s hs
 | succ d ih =>
  intro l s c hs hc hok hl
  have hsub:=lsize_subs d l
  have hex:=fun (s:Dp) (hs:Okd w s)=>exprD p hw hw14 w0 s.sets hs.len hs.row 5
  have hcp:=fun (s:List Nat) (hs:s.length=w)=>copyS hw14 s (by omega)
  obtain ⟨vs,ar,bd⟩:=p
  have hw:vs.length+ar.length=w:=hw
  simp only at ih hex ⊢
  have hT:∀ i,Okd w (foldD vs.length (d+1) c (l.take i) s):=fun i=>foldl_ok hc _ hs
  have hTs:∀ i x,l[i]? = some x→foldD vs.length (d+1) c (l.take (i+1)) s=depS vs.length (d+1) c (foldD vs.length (d+1) c (l.take i) s) x:=fun i x h=>by
   unfold foldD;rw [List.take_add_one,h];simp
  have hfin:foldD vs.length (d+1) c (l.take l.length) s=foldD vs.length (d+1) c l s:=by rw [List.take_length]
  have hT0:foldD vs.length (d+1) c (l.take 0) s=s:=rfl
  rw [← hfin]
  obtain ⟨T,hTd⟩:∃ T:Nat→Dp,∀ i,foldD vs.length (d+1) c (l.take i) s=T i:=⟨fun i=>foldD vs.length (d+1) c (l.take i) s,fun _=>rfl⟩
  simp only [hTd] at hT hTs hT0 ⊢
  clear hTd hfin
  generalize hR:(fun (r:D) (h:List (Option (List C)))=>r = .c (rowsD w (T l.length).sets)∧h=_)=R
  refine dcZ Try.func25 ?_
  simp only [go_sem]
  iterate 2 ((try (refine drvZ Try.func25 ?_;simp only [go_sem]));((with_reducible and_intros)<;>try exact sd))
  refine Go.loopQ (fun i : Nat => [(1, .c (.isl 11 (St1.cellsL l))), (2, .c (.msl 2 1 0 w)), (3, .c (.ptr 3 0)), (7, DI .i64 i)])
   (fun i=>[(0,some (boolsC (bl w (T i).tr))),(1,some (boolsC (bl w (T i).re))),(2,some (boolsC (bl w c))),(3,some (Pg.cells ⟨vs,ar,bd⟩++[rowsD w (T i).sets,.msl 0 1 0 w,.msl 1 1 0 w]))]) 4096 (fun i=>i≤l.length) (fun i=>l.length - i) ?_ 0 (fun j=>if j<4 then some j else none) [] _ (Nat.zero_le _) ?_
  ·intro i hi again
   rcases Nat.lt_or_ge i l.length with hlt | hge
   ·obtain ⟨⟨k,t,⟨ik,iv,iks⟩,⟨vk,vv,vks⟩,cc,b,e⟩,hx⟩:∃ x,l[i]? = some x:=⟨l[i],by simp [hlt]⟩
    have hsok:=hok _ (List.mem_of_getElem? hx)
    have hbe:=stmtOK_succ hsok
    have hhk:=head_kind hbe.1
    obtain ⟨s1,s2⟩:=shapeV hsok
    have a1:=tsum_succ (subs d) l i _ hx
    have a2:=tsum_le (subs d) l (i+1)
    simp only [subs,St1.body,St1.els] at a1 a2
    have hTi:=hT i
    have hTn:=hTs i _ hx
    generalize T i=X at *
    simp only at hhk
    have key:k=4∨k=1∨k=5∨k=2∨k=3:=by omega
    rcases key with hk | hk | hk | hk | hk
    ·subst hk
     rw [depS_4] at hTn
     have hfix:∀ n X,fixD (fun s=>b.foldl (depS vs.length d c) s) (n+1) X=if unite X.sets (foldD vs.length d c b X).sets=X.sets then ⟨X.sets,(foldD vs.length d c b X).tr,(foldD vs.length d c b X).re⟩ else fixD (fun s=>b.foldl (depS vs.length d c) s) n ⟨unite X.sets (foldD vs.length d c b X).sets,(foldD vs.length d c b X).tr,(foldD vs.length d c b X).re⟩:=fun _ _=>rfl
     generalize fixD (fun s=>b.foldl (depS vs.length d c) s)=fx at *
     refine drvL Try.func25 ?_
     simp only [go_sem,hx,hlt]
     iterate 3 ((try (refine drvZ Try.func25 ?_;simp only [go_sem,hx,hlt]));((with_reducible and_intros)<;>try exact sd))
     refine Go.loopQ (fun x : Dp × Nat × Bool => [(1, .c (.isl 11 (St1.cellsL l))), (2, .c (.msl 2 1 0 w)), (3, .c (.ptr 3 0)), (7, DI .i64 i), (8, .c (.ptr 4 0)), (9, DB x.2.2)])
      (fun x=>[(0,some (boolsC (bl w x.1.tr))),(1,some (boolsC (bl w x.1.re))),(2,some (boolsC (bl w c))),(3,some (Pg.cells ⟨vs,ar,bd⟩++[rowsD w x.1.sets,.msl 0 1 0 w,.msl 1 1 0 w])),(4,some (St1.cells (.mk 4 t (.mk ik iv iks) (.mk vk vv vks) cc b e)))])
      8192 (fun x=>Okd w x.1∧(x.2.2=true→w * 2 ^ w<x.2.1+x.1.sets.sum∧fx x.2.1 x.1=T (i+1))∧(x.2.2=false→x.1=T (i+1))) (fun x=>x.2.1) ?_ (X,FU,true) (fun j=>if j=4 then some 4608 else if j<4 then some j else none) [] _ ⟨hTi,fun _=>⟨fu_big hw14 _,hTn.symm⟩,fun h=>by cases h⟩ ?_
     ·rintro ⟨X,n,g⟩ ⟨ho,hn,hf⟩ again2
      have ho:Okd w X:=ho
      cases g with
      | false =>
       have hf:X=T (i+1):=hf rfl
       refine drvL Try.func25 ?_
       simp only [go_sem]
       iterate 2 ((try (refine drvZ Try.func25 ?_;simp only [go_sem]));((with_reducible and_intros)<;>try exact sd))
       refine again (i+1) some [] _ hlt (by omega) ?_
       rw [← hf]
       simp only [go_sem,TmOK,DM,DMs,CM,CMs,forall_eq,exists_eq_left,Mq,HpOK,LowOK,rowsD]
       simp
       repeat' with_reducible apply And.intro
       all_goals exact CMs.kf (boolsC_kf _)
      | true =>
       obtain ⟨hn,hf⟩:w * 2 ^ w<n+X.sets.sum∧fx n X=T (i+1):=hn rfl
       cases n with
       | zero =>
        have:=list_sum_lt (w:=w) ho.row
        rw [ho.len] at this
        have h0:w * 2 ^ w<X.sets.sum:=by simpa using hn
        exact absurd h0 (Nat.not_lt.mpr this)
       | succ n =>
        obtain ⟨xs,xt,xr⟩:=X
        have r1:=ih b ⟨xs,xt,xr⟩ c ho hc hbe.2.1 (by omega)
        have hy1:Okd w (foldD vs.length d c b ⟨xs,xt,xr⟩):=foldl_ok hc b ho
        simp only [hfix] at hf
        generalize foldD vs.length d c b ⟨xs,xt,xr⟩=Y1 at *
        obtain ⟨ys,yt,yr⟩:=Y1
        simp only at hf r1 hn
        have hxl:xs.length=w:=ho.len
        have hyl:ys.length=w:=hy1.len
        have hul:(unite xs ys).length=xs.length:=unite_len (by omega)
        have hc2:=hcp xs hxl
        rw [hxl] at hc2
        refine drvL Try.func25 ?_
        simp only [go_sem,rowsD]
        iterate 2 ((try (refine drvZ Try.func25 ?_;simp only [go_sem,rowsD]));((with_reducible and_intros)<;>try exact sd))
        refine XK.callG [] hc2 ok52 (fun i' x h=>by simp at h) (hbT ()) (fun d h' ⟨_,e⟩=>by subst e;simp [rowsB_len,hxl];omega) ?_
        rintro _ _ ⟨rfl,rfl⟩ _
        rw [up_copy hxl hw14 (hbT ())]
        iterate 2 ((try (refine drvZ Try.func25 ?_;simp only [go_sem,boolsC_ren,rowsD,fam_upd,fam_out,famC_len]));((with_reducible and_intros)<;>try exact sd))
        refine XK.callG [0,1,2] r1 ok25 (hhpG (by simp [HH,upd,hOf,boolsC_ren,fam_out])) (fam_free (hbT ()) (by simp)) (fun d h' ⟨_,e⟩=>by subst e;simp) ?_
        rintro _ _ ⟨rfl,rfl⟩ _
        iterate 3 ((try (refine drvZ Try.func25 ?_;simp only [go_sem,boolsC_ren,rowsD,fam_upd,fam_out,famC_len]));((with_reducible and_intros)<;>try exact sd))
        refine Go.loopH (fun k : Nat => [(1, .c (.isl 11 (St1.cellsL l))), (2, .c (.msl 2 1 0 w)), (3, .c (.ptr 3 0)), (7, DI .i64 i), (8, .c (.ptr 4 0)), (9, DB (chg (unite xs ys) xs k)), (10, .c (.msl 64 1 0 w)), (11, .c (rowsD w ys)), (12, DI .i64 k)])
         (fun k=>fam (hOf [(0,some (boolsC (bl w yt))),(1,some (boolsC (bl w yr))),(2,some (boolsC (bl w c))),(3,some (Pg.cells ⟨vs,ar,bd⟩++[rowsD w xs,.msl 0 1 0 w,.msl 1 1 0 w])),(4,some (St1.cells (.mk 4 t (.mk ik iv iks) (.mk vk vv vks) cc b e))),(64,some (famC 128 w w))]) 128 (rowsB w (mid (unite xs ys) xs k)))
         16384 (fun k=>k≤w) (fun k=>w - k) ?_ 0 (fun j=>if j<5 then some j else if j=64 then some 8384 else some (8385+(j - 128))) [] _ (Nat.zero_le _) ⟨?_,?_⟩
        ·intro k hk again3
         rcases Nat.lt_or_ge k w with hkl | hkg
         ·have hk14:k=0∨k=1∨k=2∨k=3∨k=4∨k=5∨k=6∨k=7∨k=8∨k=9∨k=10∨k=11∨k=12∨k=13:=by omega
          have hml:=mid_len (U:=unite xs ys) (xs:=xs) hul (k:=k) (by omega)
          have hma:=mid_at (U:=unite xs ys) (xs:=xs) hul (k:=k) (by omega)
          have hms:=mid_set (U:=unite xs ys) (xs:=xs) hul (k:=k) (by omega)
          have hdu:=dat_unite (a:=xs) (b:=ys) (by omega) k
          have hj:=joinOF w (dat xs k) (dat ys k) hw14 (dat_lt ho.row k) (dat_lt hy1.row k)
          have hyk:=rows_at (w:=w) (S:=ys) (i:=k) (by omega)
          have hfc:(famC 128 w w)[k]? = some (.msl (128+k) 1 0 w):=famC_at hkl
          refine drvL Try.func25 ?_
          simp only [go_sem,rowsD,fam_out,famC_len,hkl]
          iterate 2 ((try (refine drvZ Try.func25 ?_;simp only [go_sem,rowsD,fam_out,famC_len,hkl,hfc,hyk]));((with_reducible and_intros)<;>try exact sd))
          refine XK.callG (hnd:=by simp) [128+k] hj ok38 (hhpG (by
           simp only [HH,boolsC_ren,Option.map_some,and_true]
           rw [← hma];exact fam_rowq _ (by omega) (by omega))) (fam_free (hbT ()) (by simp)) (fun d h' ⟨_,e⟩=>by subst e;simp) ?_ (fun _=>⟨by rcases hk14 with h | h | h | h | h | h | h | h | h | h | h | h | h | h<;>subst h<;>kernel_rfl,_,_,⟨rfl,rfl⟩,by simp⟩)
          rintro _ _ ⟨rfl,rfl⟩ _
          rw [up_row1 (by omega) (by omega),← hdu,hms]
          iterate 1 (try (refine drvZ Try.func25 ?_;simp only [go_sem,rowsD,fam_out,famC_len,hkl]))
          repeat' with_reducible apply And.intro
          all_goals first | (with_reducible show lgokF _ _ _ _ _ _=true;rcases hk14 with h | h | h | h | h | h | h | h | h | h | h | h | h | h<;>subst h<;>kernel_rfl) | exact sd | skip
          refine again3 (k+1) some [] _ hkl (by omega) ⟨?_,?_⟩
          ·simp only [go_sem,TmOK,DM,DMs,CM,CMs,forall_eq,exists_eq_left,rowsD,fam_out,chg]
          ·refine SubH.rows (by rw [mid_len hul (by omega)];omega) (fun i hi=>rfl) ?_ ?_ ?_ ?_
           ·simp only [go_sem,TmOK,DM,DMs,CM,CMs,forall_eq,exists_eq_left,HpOK,rowsD,fam_out]
            repeat' with_reducible apply And.intro
            all_goals first | exact CMs.kf (boolsC_kf _) | (simp;done) | exact cms_fam (by rw [mid_len hul (by omega)];exact hxl) (by omega) (fun _ _=>rfl) | skip
           ·simp [LowOK,fam_out,upd,hOf]
           ·simp
           ·simp
         ·obtain rfl:w=k:=by omega
          have hn3:¬ w<w:=by omega
          have hce:=chg_end (U:=unite xs ys) (xs:=xs) hul
          have hme:=mid_end (U:=unite xs ys) (xs:=xs) hul
          rw [hxl] at hce hme
          rw [hme]
          refine drvL Try.func25 ?_
          simp only [go_sem,rowsD,fam_out,famC_len,hn3,fam_upd,hce]
          iterate 2 ((try (refine drvZ Try.func25 ?_;simp only [go_sem,rowsD,fam_out,famC_len,hn3,fam_upd]));((with_reducible and_intros)<;>try exact sd))
          have hUw:(unite xs ys).length=w:=by omega
          refine Go.subQ (r := some) (fz := List.range' 128 w) (tl := [(1, .c (.isl 11 (St1.cellsL l))), (2, .c (.msl 2 1 0 w)), (3, .c (.ptr 3 0)), (7, DI .i64 i), (8, .c (.ptr 4 0)), (9, DB (!decide (unite xs ys = xs)))])
           (hl:=[(0,some (boolsC (bl w yt))),(1,some (boolsC (bl w yr))),(2,some (boolsC (bl w c))),(3,some (Pg.cells ⟨vs,ar,bd⟩++[.msl 64 1 0 w,.msl 0 1 0 w,.msl 1 1 0 w])),(4,some (St1.cells (.mk 4 t (.mk ik iv iks) (.mk vk vv vks) cc b e))),(64,some (rowsC w (unite xs ys)))])
           4096 ?_ (again2 (⟨unite xs ys,yt,yr⟩,n,!decide (unite xs ys=xs)) (fun j=>if j<5 then some j else none) [64] _ ⟨⟨hUw,hw14,unite_row ho.row hy1.row,hy1.tr,hy1.re⟩,fun hq=>?_,fun hq=>?_⟩ (by show n<n+1;omega) ?_)
          ·simp only [go_sem,TmOK,DM,DMs,CM,CMs,forall_eq,exists_eq_left,Mq,HpOK,LowOK,fam_out,rowsD]
           repeat' with_reducible apply And.intro
           all_goals first | exact CMs.kf (boolsC_kf _) | (simp [List.mem_range'_1];done) | (simp [List.mem_range'_1];omega) | exact cms_rows hUw (fun i hi=>by simp [List.mem_range'_1];omega) fun i row hi=>fam_row (by omega) hi | skip
          ·have hne:¬ unite xs ys=xs:=by simpa using hq
           rw [if_neg hne] at hf
           have hgrow:=(unite_sum (a:=xs) (b:=ys) (by omega)).2 hne
           exact ⟨by show w * 2 ^ w<n+(unite xs ys).sum;omega,hf⟩
          ·have he:unite xs ys=xs:=by simpa using hq
           rw [if_pos he] at hf
           rw [← hf,he]
          ·simp only [go_sem,TmOK,DM,DMs,CM,CMs,forall_eq,exists_eq_left,Mq,HpOK,LowOK]
           repeat' with_reducible apply And.intro
           all_goals first | exact CMs.kf (boolsC_kf _) | (simp;done) | exact cm_rows (by simp) rfl hUw | skip
        ·simp only [go_sem,TmOK,DM,DMs,CM,CMs,forall_eq,exists_eq_left,rowsD,fam_out,chg]
        ·rw [mid_zero]
         have hr:∀ i,i<w→(if 128+i<5 then some (128+i) else if 128+i=64 then some 8384 else some (8385+(128+i - 128)))=some (8385+i):=fun i hi=>by
          rw [if_neg (by omega),if_neg (by omega)];congr 1;omega
         refine SubH.rows (by omega) (fun i hi=>hr i (by omega)) ?_ ?_ ?_ ?_
         ·simp only [go_sem,TmOK,DM,DMs,CM,CMs,forall_eq,exists_eq_left,HpOK,rowsD,fam_out]
          repeat' with_reducible apply And.intro
          all_goals first | exact CMs.kf (boolsC_kf _) | (simp;done) | exact cms_fam hxl (by omega) hr | skip
         ·simp [LowOK,fam_out,upd,hOf]
         ·simp
         ·simp
     ·simp only [go_sem,TmOK,DM,DMs,CM,CMs,forall_eq,exists_eq_left,Mq,HpOK,LowOK,rowsD]
      simp
      exact ⟨CMs.kf (boolsC_kf _),CMs.kf (boolsC_kf _),CMs.kf (boolsC_kf _)⟩
    ·subst hk
     rw [depS_1] at hTn
     have hv:=hex X hTi (.mk vk vv vks) X.tr (s1 (by decide)) hTi.tr
     have hV:=setE_lt (nv:=vs.length) hTi.row 5 (.mk vk vv vks)
     generalize setE vs.length X.sets 5 (.mk vk vv vks)=V at *
     obtain ⟨V1,V2⟩:=V
     obtain ⟨xs,xt,xr⟩:=X
     simp only at hTn hv hV
     have hj:=joinOO w V1 c hw14 hV.1 hc
     have hc2:=hcp xs hTi.len
     have hxl:xs.length=w:=hTi.len
     rw [hxl] at hc2
     refine drvL Try.func25 ?_
     simp only [go_sem,hx,hlt,rowsD]
     iterate 4 ((try (refine drvZ Try.func25 ?_;simp only [go_sem,hx,hlt,rowsD]));((with_reducible and_intros)<;>try exact sd))
     refine XK.callG [0] hv ok53 (hhpG (by simp [HH,upd,hOf,boolsC_ren])) (hbT ()) (fun d h' ⟨_,e⟩=>by subst e;simp) ?_
     rintro _ _ ⟨rfl,rfl⟩ _
     iterate 4 ((try (refine drvZ Try.func25 ?_;simp only [go_sem,boolsC_ren,rowsD]));((with_reducible and_intros)<;>try exact sd))
     refine XK.callG [5440,2] hj ok38 (hhpG (by simp [HH,upd,hOf,boolsC_ren])) (hbT ()) (fun d h' ⟨_,e⟩=>by subst e;simp) ?_
     rintro _ _ ⟨rfl,rfl⟩ _
     iterate 4 ((try (refine drvZ Try.func25 ?_;simp only [go_sem,boolsC_ren,rowsD]));((with_reducible and_intros)<;>try exact sd))
     refine XK.callG [] hc2 ok52 (fun i' x h=>by simp at h) (hbT ()) (fun d h' ⟨_,e⟩=>by subst e;simp [rowsB_len,hxl];omega) ?_
     rintro _ _ ⟨rfl,rfl⟩ _
     rw [up_copy hxl hw14 (hbT ())]
     iterate 3 ((try (refine drvZ Try.func25 ?_;simp only [go_sem,boolsC_ren,rowsD,fam_upd,fam_out,famC_len]));((with_reducible and_intros)<;>try exact sd))
     refine Go.subQ (r := some) (fz := 5440 :: List.range' 6145 w) (tl := [(1, .c (.isl 11 (St1.cellsL l))), (2, .c (.msl 2 1 0 w)), (3, .c (.ptr 3 0)), (7, DI .i64 (i + 1))])
      (hl:=[(0,some (boolsC (bl w (xt ||| V2)))),(1,some (boolsC (bl w xr))),(2,some (boolsC (bl w c))),(3,some (Pg.cells ⟨vs,ar,bd⟩++[.msl 6144 1 0 w,.msl 0 1 0 w,.msl 1 1 0 w])),(6144,some ((rowsC w xs).set t.toNat (boolsD (bl w (V1 ||| c)))))])
      4096 ?_ (again (i+1) (fun j=>if j<4 then some j else none) [6144] _ hlt (by omega) ?_)
     ·simp only [go_sem,TmOK,DM,DMs,CM,CMs,forall_eq,exists_eq_left,Mq,HpOK,LowOK,fam_out]
      repeat' with_reducible apply And.intro
      all_goals first | exact CMs.kf (boolsC_kf _) | (simp [List.mem_range'_1];done) | (simp [List.mem_range'_1];omega) | exact CMs.set _ (cms_rows hxl (fun i hi=>by simp [List.mem_range'_1];omega) fun i row hi=>fam_row (by omega) hi) (cm_bools (by simp) rfl) | skip
     ·rw [rowsC_set,hTn]
      simp only [go_sem,TmOK,DM,DMs,CM,CMs,forall_eq,exists_eq_left,Mq,HpOK,LowOK]
      repeat' with_reducible apply And.intro
      all_goals first | exact CMs.kf (boolsC_kf _) | (simp;done) | exact cm_rows (by simp) rfl (by simpa using hxl) | skip
    ·subst hk
     rw [depS_5] at hTn
     have hv:=hex X hTi (.mk vk vv vks) X.tr (s1 (by decide)) hTi.tr
     have hV:=setE_lt (nv:=vs.length) hTi.row 5 (.mk vk vv vks)
     generalize setE vs.length X.sets 5 (.mk vk vv vks)=V at *
     obtain ⟨V1,V2⟩:=V
     obtain ⟨xs,xt,xr⟩:=X
     simp only at hTn hv hV
     have hj:=joinOO w V1 c hw14 hV.1 hc
     have ho:=Nat.or_lt_two_pow hV.1 hc
     have hj2:=joinOO w xr (V1 ||| c) hw14 hTi.re ho
     have hj3:=joinOO w (xt ||| V2) (V1 ||| c) hw14 (Nat.or_lt_two_pow hTi.tr hV.2) ho
     have hc2:=hcp xs hTi.len
     have hxl:xs.length=w:=hTi.len
     rw [hxl] at hc2
     refine drvL Try.func25 ?_
     simp only [go_sem,hx,hlt,rowsD]
     iterate 4 ((try (refine drvZ Try.func25 ?_;simp only [go_sem,hx,hlt,rowsD]));((with_reducible and_intros)<;>try exact sd))
     refine XK.callG [0] hv ok53 (hhpG (by simp [HH,upd,hOf,boolsC_ren])) (hbT ()) (fun d h' ⟨_,e⟩=>by subst e;simp) ?_
     rintro _ _ ⟨rfl,rfl⟩ _
     iterate 4 ((try (refine drvZ Try.func25 ?_;simp only [go_sem,boolsC_ren,rowsD]));((with_reducible and_intros)<;>try exact sd))
     refine XK.callG [5440,2] hj ok38 (hhpG (by simp [HH,upd,hOf,boolsC_ren])) (hbT ()) (fun d h' ⟨_,e⟩=>by subst e;simp) ?_
     rintro _ _ ⟨rfl,rfl⟩ _
     iterate 4 ((try (refine drvZ Try.func25 ?_;simp only [go_sem,boolsC_ren,rowsD]));((with_reducible and_intros)<;>try exact sd))
     refine XK.callG [] hc2 ok52 (fun i' x h=>by simp at h) (hbT ()) (fun d h' ⟨_,e⟩=>by subst e;simp [rowsB_len,hxl];omega) ?_
     rintro _ _ ⟨rfl,rfl⟩ _
     rw [up_copy hxl hw14 (hbT ())]
     iterate 3 ((try (refine drvZ Try.func25 ?_;simp only [go_sem,boolsC_ren,rowsD,fam_upd,fam_out,famC_len]));((with_reducible and_intros)<;>try exact sd))
     refine XK.callG [1,5440] hj2 ok38 (hhpG (by simp [HH,upd,hOf,boolsC_ren,fam_out])) (fam_free (hbT ()) (by simp)) (fun d h' ⟨_,e⟩=>by subst e;simp) ?_
     rintro _ _ ⟨rfl,rfl⟩ _
     iterate 2 ((try (refine drvZ Try.func25 ?_;simp only [go_sem,boolsC_ren,rowsD,fam_upd,fam_out,famC_len]));((with_reducible and_intros)<;>try exact sd))
     refine XK.callG [0,5440] hj3 ok38 (hhpG (by simp [HH,upd,hOf,boolsC_ren,fam_out])) (fam_free (hbT ()) (by simp)) (fun d h' ⟨_,e⟩=>by subst e;simp) ?_
     rintro _ _ ⟨rfl,rfl⟩ _
     iterate 2 ((try (refine drvZ Try.func25 ?_;simp only [go_sem,boolsC_ren,rowsD,fam_upd,fam_out,famC_len]));((with_reducible and_intros)<;>try exact sd))
     refine Go.subQ (r := some) (fz := 5440 :: List.range' 6273 w) (tl := [(1, .c (.isl 11 (St1.cellsL l))), (2, .c (.msl 2 1 0 w)), (3, .c (.ptr 3 0)), (7, DI .i64 (i + 1))])
      (hl:=[(0,some (boolsC (bl w (xt ||| V2 ||| (V1 ||| c))))),(1,some (boolsC (bl w (xr ||| (V1 ||| c))))),(2,some (boolsC (bl w c))),(3,some (Pg.cells ⟨vs,ar,bd⟩++[.msl 6272 1 0 w,.msl 0 1 0 w,.msl 1 1 0 w])),(6272,some ((rowsC w xs).set t.toNat (boolsD (bl w (V1 ||| c)))))])
      4096 ?_ (again (i+1) (fun j=>if j<4 then some j else none) [6272] _ hlt (by omega) ?_)
     ·simp only [go_sem,TmOK,DM,DMs,CM,CMs,forall_eq,exists_eq_left,Mq,HpOK,LowOK,fam_out]
      repeat' with_reducible apply And.intro
      all_goals first | exact CMs.kf (boolsC_kf _) | (simp [List.mem_range'_1];done) | (simp [List.mem_range'_1];omega) | exact CMs.set _ (cms_rows hxl (fun i hi=>by simp [List.mem_range'_1];omega) fun i row hi=>fam_row (by omega) hi) (cm_bools (by simp) rfl) | skip
     ·rw [rowsC_set,hTn]
      simp only [go_sem,TmOK,DM,DMs,CM,CMs,forall_eq,exists_eq_left,Mq,HpOK,LowOK]
      repeat' with_reducible apply And.intro
      all_goals first | exact CMs.kf (boolsC_kf _) | (simp;done) | exact cm_rows (by simp) rfl (by simpa using hxl) | skip
    ·subst hk
     rw [depS_2] at hTn
     have hv:=hex X hTi (.mk vk vv vks) X.tr (s1 (by decide)) hTi.tr
     have hV:=setE_lt (nv:=vs.length) hTi.row 5 (.mk vk vv vks)
     generalize setE vs.length X.sets 5 (.mk vk vv vks)=V at *
     obtain ⟨V1,V2⟩:=V
     have hix:=hex X hTi (.mk ik iv iks) (X.tr ||| V2) (s2 rfl) (Nat.or_lt_two_pow hTi.tr hV.2)
     have hI:=setE_lt (nv:=vs.length) hTi.row 5 (.mk ik iv iks)
     generalize setE vs.length X.sets 5 (.mk ik iv iks)=I at *
     obtain ⟨I1,I2⟩:=I
     obtain ⟨xs,xt,xr⟩:=X
     simp only at hTn hv hV hix hI
     have hj1:=joinOO w (xt ||| V2 ||| I2) I1 hw14 (Nat.or_lt_two_pow (Nat.or_lt_two_pow hTi.tr hV.2) hI.2) hI.1
     have hj2:=joinOO w V1 I1 hw14 hV.1 hI.1
     have hj3:=joinOO w (V1 ||| I1) c hw14 (Nat.or_lt_two_pow hV.1 hI.1) hc
     have hq:=dat_lt hTi.row (vs.length+t.toNat)
     have hj4:=joinOO w (dat xs (vs.length+t.toNat)) (V1 ||| I1 ||| c) hw14 hq (Nat.or_lt_two_pow (Nat.or_lt_two_pow hV.1 hI.1) hc)
     have hc2:=hcp xs hTi.len
     have hxl:xs.length=w:=hTi.len
     have hi4:((vs.length:Int)+t).toNat=vs.length+t.toNat:=by omega
     rw [hxl] at hc2
     refine drvL Try.func25 ?_
     simp only [go_sem,hx,hlt,rowsD]
     iterate 4 ((try (refine drvZ Try.func25 ?_;simp only [go_sem,hx,hlt,rowsD]));((with_reducible and_intros)<;>try exact sd))
     refine XK.callG [0] hv ok53 (hhpG (by simp [HH,upd,hOf,boolsC_ren])) (hbT ()) (fun d h' ⟨_,e⟩=>by subst e;simp) ?_
     rintro _ _ ⟨rfl,rfl⟩ _
     iterate 4 ((try (refine drvZ Try.func25 ?_;simp only [go_sem,boolsC_ren,rowsD]));((with_reducible and_intros)<;>try exact sd))
     refine XK.callG [0] hix ok53 (hhpG (by simp [HH,upd,hOf,boolsC_ren])) (hbT ()) (fun d h' ⟨_,e⟩=>by subst e;simp) ?_
     rintro _ _ ⟨rfl,rfl⟩ _
     iterate 4 ((try (refine drvZ Try.func25 ?_;simp only [go_sem,boolsC_ren,rowsD]));((with_reducible and_intros)<;>try exact sd))
     refine XK.callG [0,6592] hj1 ok38 (hhpG (by simp [HH,upd,hOf,boolsC_ren])) (hbT ()) (fun d h' ⟨_,e⟩=>by subst e;simp) ?_
     rintro _ _ ⟨rfl,rfl⟩ _
     iterate 2 ((try (refine drvZ Try.func25 ?_;simp only [go_sem,boolsC_ren,rowsD]));((with_reducible and_intros)<;>try exact sd))
     refine XK.callG [5440,6592] hj2 ok38 (hhpG (by simp [HH,upd,hOf,boolsC_ren])) (hbT ()) (fun d h' ⟨_,e⟩=>by subst e;simp) ?_
     rintro _ _ ⟨rfl,rfl⟩ _
     iterate 2 ((try (refine drvZ Try.func25 ?_;simp only [go_sem,boolsC_ren,rowsD]));((with_reducible and_intros)<;>try exact sd))
     refine XK.callG [5440,2] hj3 ok38 (hhpG (by simp [HH,upd,hOf,boolsC_ren])) (hbT ()) (fun d h' ⟨_,e⟩=>by subst e;simp) ?_
     rintro _ _ ⟨rfl,rfl⟩ _
     iterate 4 ((try (refine drvZ Try.func25 ?_;simp only [go_sem,boolsC_ren,rowsD]));((with_reducible and_intros)<;>try exact sd))
     refine XK.callG [] hc2 ok52 (fun i' x h=>by simp at h) (hbT ()) (fun d h' ⟨_,e⟩=>by subst e;simp [rowsB_len,hxl];omega) ?_
     rintro _ _ ⟨rfl,rfl⟩ _
     rw [up_copy hxl hw14 (hbT ())]
     have hfc:∀ B,(famC B w w)[vs.length+t.toNat]? = some (.msl (B+(vs.length+t.toNat)) 1 0 w):=fun B=>famC_at (by omega)
     iterate 3 ((try (refine drvZ Try.func25 ?_;simp only [go_sem,boolsC_ren,rowsD,fam_upd,fam_out,famC_len,hi4,hfc]));((with_reducible and_intros)<;>try exact sd))
     refine XK.callG (hnd:=by simp;omega) [7489+(vs.length+t.toNat),5440] hj4 ok38 (hhpG (by
      simp only [HH,boolsC_ren,Option.map_some,and_true]
      refine ⟨fam_rowq _ (by omega) (by omega),?_⟩
      simp [upd,hOf,fam_out])) (fam_free (hbT ()) (by simp)) (fun d h' ⟨_,e⟩=>by subst e;simp) ?_
     rintro _ _ ⟨rfl,rfl⟩ _
     rw [up_row2 (by omega) (by omega) (by rfl)]
     have hsl:(xs.set (vs.length+t.toNat) (dat xs (vs.length+t.toNat) ||| (V1 ||| I1 ||| c))).length=w:=by simp [hxl]
     have hsn:T (i+1)=⟨xs.set (vs.length+t.toNat) (dat xs (vs.length+t.toNat) ||| (V1 ||| I1 ||| c)),xt ||| V2 ||| I2 ||| I1,xr⟩:=hTn
     generalize xs.set (vs.length+t.toNat) (dat xs (vs.length+t.toNat) ||| (V1 ||| I1 ||| c))=us at *
     iterate 3 ((try (refine drvZ Try.func25 ?_;simp only [go_sem,boolsC_ren,rowsD,fam_upd,fam_out,famC_len]));((with_reducible and_intros)<;>try exact sd))
     refine Go.subQ (r := some) (fz := List.range' 7489 w) (tl := [(1, .c (.isl 11 (St1.cellsL l))), (2, .c (.msl 2 1 0 w)), (3, .c (.ptr 3 0)), (7, DI .i64 (i + 1))])
      (hl:=[(0,some (boolsC (bl w (xt ||| V2 ||| I2 ||| I1)))),(1,some (boolsC (bl w xr))),(2,some (boolsC (bl w c))),(3,some (Pg.cells ⟨vs,ar,bd⟩++[.msl 7488 1 0 w,.msl 0 1 0 w,.msl 1 1 0 w])),(7488,some (rowsC w us))])
      4096 ?_ (again (i+1) (fun j=>if j<4 then some j else none) [7488] _ hlt (by omega) ?_)
     ·simp only [go_sem,TmOK,DM,DMs,CM,CMs,forall_eq,exists_eq_left,Mq,HpOK,LowOK,fam_out]
      repeat' with_reducible apply And.intro
      all_goals first | exact CMs.kf (boolsC_kf _) | (simp [List.mem_range'_1];done) | (simp [List.mem_range'_1];omega) | exact cms_rows hsl (fun i hi=>by simp [List.mem_range'_1];omega) fun i row hi=>fam_row (by omega) hi | skip
     ·rw [hsn]
      simp only [go_sem,TmOK,DM,DMs,CM,CMs,forall_eq,exists_eq_left,Mq,HpOK,LowOK]
      repeat' with_reducible apply And.intro
      all_goals first | exact CMs.kf (boolsC_kf _) | (simp;done) | exact cm_rows (by simp) rfl hsl | skip
    ·subst hk
     rw [depS_3] at hTn
     have hv:=hex X hTi (.mk vk vv vks) X.tr (s1 (by decide)) hTi.tr
     have hV:=setE_lt (nv:=vs.length) hTi.row 5 (.mk vk vv vks)
     unfold ifN ifY at hTn
     generalize setE vs.length X.sets 5 (.mk vk vv vks)=V at *
     obtain ⟨V1,V2⟩:=V
     obtain ⟨xs,xt,xr⟩:=X
     simp only at hTn hv hV
     have hTn:T (i+1)=⟨unite (foldD vs.length d (c ||| V1) b ⟨xs,xt ||| V2 ||| V1,xr⟩).sets (foldD vs.length d (c ||| V1) e ⟨xs,(foldD vs.length d (c ||| V1) b ⟨xs,xt ||| V2 ||| V1,xr⟩).tr,(foldD vs.length d (c ||| V1) b ⟨xs,xt ||| V2 ||| V1,xr⟩).re⟩).sets,(foldD vs.length d (c ||| V1) e ⟨xs,(foldD vs.length d (c ||| V1) b ⟨xs,xt ||| V2 ||| V1,xr⟩).tr,(foldD vs.length d (c ||| V1) b ⟨xs,xt ||| V2 ||| V1,xr⟩).re⟩).tr,(foldD vs.length d (c ||| V1) e ⟨xs,(foldD vs.length d (c ||| V1) b ⟨xs,xt ||| V2 ||| V1,xr⟩).tr,(foldD vs.length d (c ||| V1) b ⟨xs,xt ||| V2 ||| V1,xr⟩).re⟩).re⟩:=hTn
     have hxl:xs.length=w:=hTi.len
     have ht1:=Nat.or_lt_two_pow hTi.tr hV.2
     have hoc:=Nat.or_lt_two_pow hc hV.1
     have hj1:=joinOO w (xt ||| V2) V1 hw14 ht1 hV.1
     have hj2:=joinOO w c V1 hw14 hc hV.1
     have hx1:Okd w ⟨xs,xt ||| V2 ||| V1,xr⟩:=⟨hxl,hw14,hTi.row,Nat.or_lt_two_pow ht1 hV.1,hTi.re⟩
     have r1:=ih b ⟨xs,xt ||| V2 ||| V1,xr⟩ (c ||| V1) hx1 hoc hbe.2.1 (by omega)
     have hy1:Okd w (foldD vs.length d (c ||| V1) b ⟨xs,xt ||| V2 ||| V1,xr⟩):=foldl_ok hoc b hx1
     generalize foldD vs.length d (c ||| V1) b ⟨xs,xt ||| V2 ||| V1,xr⟩=Y1 at *
     obtain ⟨ys,yt,yr⟩:=Y1
     simp only at hTn r1
     have hx2:Okd w ⟨xs,yt,yr⟩:=⟨hxl,hw14,hTi.row,hy1.tr,hy1.re⟩
     have r2:=ih e ⟨xs,yt,yr⟩ (c ||| V1) hx2 hoc hbe.2.2 (by omega)
     have hy2:Okd w (foldD vs.length d (c ||| V1) e ⟨xs,yt,yr⟩):=foldl_ok hoc e hx2
     generalize foldD vs.length d (c ||| V1) e ⟨xs,yt,yr⟩=Y2 at *
     obtain ⟨zs,zt,zr⟩:=Y2
     simp only at hTn r2
     have hyl:ys.length=w:=hy1.len
     have hzl:zs.length=w:=hy2.len
     have hul:(unite ys zs).length=ys.length:=unite_len (by omega)
     have hc2:=hcp ys hyl
     rw [hyl] at hc2
     have hbl:=bl_len w c
     have hbc:=boolsC_len (bl w c)
     rw [hbl] at hbc
     have htk:(boolsC (bl w c)).take w=boolsC (bl w c):=by rw [List.take_of_length_le (by omega)]
     refine drvL Try.func25 ?_
     simp only [go_sem,hx,hlt,rowsD]
     iterate 4 ((try (refine drvZ Try.func25 ?_;simp only [go_sem,hx,hlt,rowsD]));((with_reducible and_intros)<;>try exact sd))
     refine XK.callG [0] hv ok53 (hhpG (by simp [HH,upd,hOf,boolsC_ren])) (hbT ()) (fun d h' ⟨_,e⟩=>by subst e;simp) ?_
     rintro _ _ ⟨rfl,rfl⟩ _
     iterate 4 ((try (refine drvZ Try.func25 ?_;simp only [go_sem,boolsC_ren,rowsD]));((with_reducible and_intros)<;>try exact sd))
     refine XK.callG [0,5440] hj1 ok38 (hhpG (by simp [HH,upd,hOf,boolsC_ren])) (hbT ()) (fun d h' ⟨_,e⟩=>by subst e;simp) ?_
     rintro _ _ ⟨rfl,rfl⟩ _
     iterate 4 (try (refine drvZ Try.func25 ?_;simp only [go_sem,boolsC_ren,rowsD,hbc,htk]))
     refine ⟨⟨?_,?_,?_⟩,?_⟩
     ·intro k e;cases e;rfl
     ·omega
     ·omega
     refine XK.callG [6592,5440] hj2 ok38 (hhpG (by simp [HH,upd,hOf,boolsC_ren])) (hbT ()) (fun d h' ⟨_,e⟩=>by subst e;simp) ?_
     rintro _ _ ⟨rfl,rfl⟩ _
     iterate 3 ((try (refine drvZ Try.func25 ?_;simp only [go_sem,boolsC_ren,rowsD]));((with_reducible and_intros)<;>try exact sd))
     refine XK.callG [0,1,6592] r1 ok25 (hhpG (by simp [HH,upd,hOf,boolsC_ren])) (hbT ()) (fun d h' ⟨_,e⟩=>by subst e;simp) ?_
     rintro _ _ ⟨rfl,rfl⟩ _
     iterate 3 ((try (refine drvZ Try.func25 ?_;simp only [go_sem,boolsC_ren,rowsD]));((with_reducible and_intros)<;>try exact sd))
     refine XK.callG [0,1,6592] r2 ok25 (hhpG (by simp [HH,upd,hOf,boolsC_ren])) (hbT ()) (fun d h' ⟨_,e⟩=>by subst e;simp) ?_
     rintro _ _ ⟨rfl,rfl⟩ _
     iterate 3 ((try (refine drvZ Try.func25 ?_;simp only [go_sem,boolsC_ren,rowsD]));((with_reducible and_intros)<;>try exact sd))
     refine XK.callG [] hc2 ok52 (fun i' x h=>by simp at h) (hbT ()) (fun d h' ⟨_,e⟩=>by subst e;simp [rowsB_len,hyl];omega) ?_
     rintro _ _ ⟨rfl,rfl⟩ _
     rw [up_copy hyl hw14 (hbT ())]
     iterate 3 ((try (refine drvZ Try.func25 ?_;simp only [go_sem,boolsC_ren,rowsD,fam_upd,fam_out,famC_len]));((with_reducible and_intros)<;>try exact sd))
     refine Go.loopH (fun k : Nat => [(1, .c (.isl 11 (St1.cellsL l))), (2, .c (.msl 2 1 0 w)), (3, .c (.ptr 3 0)), (7, DI .i64 i), (17, .c (rowsD w zs)), (18, DI .i64 k)])
      (fun k=>fam (hOf [(0,some (boolsC (bl w zt))),(1,some (boolsC (bl w zr))),(2,some (boolsC (bl w c))),(3,some (Pg.cells ⟨vs,ar,bd⟩++[.msl 64 1 0 w,.msl 0 1 0 w,.msl 1 1 0 w])),(64,some (famC 128 w w))]) 128 (rowsB w (mid (unite ys zs) ys k)))
      16384 (fun k=>k≤w) (fun k=>w - k) ?_ 0 (fun j=>if j<4 then some j else if j=64 then some 7744 else some (7745+(j - 128))) [] _ (Nat.zero_le _) ⟨?_,?_⟩
     ·intro k hk again3
      rcases Nat.lt_or_ge k w with hkl | hkg
      ·have hk14:k=0∨k=1∨k=2∨k=3∨k=4∨k=5∨k=6∨k=7∨k=8∨k=9∨k=10∨k=11∨k=12∨k=13:=by omega
       have hml:=mid_len (U:=unite ys zs) (xs:=ys) hul (k:=k) (by omega)
       have hma:=mid_at (U:=unite ys zs) (xs:=ys) hul (k:=k) (by omega)
       have hms:=mid_set (U:=unite ys zs) (xs:=ys) hul (k:=k) (by omega)
       have hdu:=dat_unite (a:=ys) (b:=zs) (by omega) k
       have hj:=joinOF w (dat ys k) (dat zs k) hw14 (dat_lt hy1.row k) (dat_lt hy2.row k)
       have hyk:=rows_at (w:=w) (S:=zs) (i:=k) (by omega)
       have hfc:(famC 128 w w)[k]? = some (.msl (128+k) 1 0 w):=famC_at hkl
       refine drvL Try.func25 ?_
       simp only [go_sem,rowsD,fam_out,famC_len,hkl,hzl]
       iterate 2 ((try (refine drvZ Try.func25 ?_;simp only [go_sem,rowsD,fam_out,famC_len,hkl,hfc,hyk,hzl]));((with_reducible and_intros)<;>try exact sd))
       refine XK.callG (hnd:=by simp) [128+k] hj ok38 (hhpG (by
        simp only [HH,boolsC_ren,Option.map_some,and_true]
        rw [← hma];exact fam_rowq _ (by omega) (by omega))) (fam_free (hbT ()) (by simp)) (fun d h' ⟨_,e⟩=>by subst e;simp) ?_ (fun _=>⟨by rcases hk14 with h | h | h | h | h | h | h | h | h | h | h | h | h | h<;>subst h<;>kernel_rfl,_,_,⟨rfl,rfl⟩,by simp⟩)
       rintro _ _ ⟨rfl,rfl⟩ _
       rw [up_row1 (by omega) (by omega),← hdu,hms]
       iterate 1 (try (refine drvZ Try.func25 ?_;simp only [go_sem,rowsD,fam_out,famC_len,hkl]))
       repeat' with_reducible apply And.intro
       all_goals first | (with_reducible show lgokF _ _ _ _ _ _=true;rcases hk14 with h | h | h | h | h | h | h | h | h | h | h | h | h | h<;>subst h<;>kernel_rfl) | exact sd | skip
       refine again3 (k+1) some [] _ hkl (by omega) ⟨?_,?_⟩
       ·simp only [go_sem,TmOK,DM,DMs,CM,CMs,forall_eq,exists_eq_left,rowsD,fam_out]
       ·refine SubH.rows (by rw [mid_len hul (by omega)];omega) (fun i hi=>rfl) ?_ ?_ ?_ ?_
        ·simp only [go_sem,TmOK,DM,DMs,CM,CMs,forall_eq,exists_eq_left,HpOK,rowsD,fam_out]
         repeat' with_reducible apply And.intro
         all_goals first | exact CMs.kf (boolsC_kf _) | (simp;done) | exact cms_fam (by rw [mid_len hul (by omega)];exact hyl) (by omega) (fun _ _=>rfl) | skip
        ·simp [LowOK,fam_out,upd,hOf]
        ·simp
        ·simp
      ·obtain rfl:w=k:=by omega
       have hn3:¬ w<w:=by omega
       have hme:=mid_end (U:=unite ys zs) (xs:=ys) hul
       rw [hyl] at hme
       rw [hme]
       refine drvL Try.func25 ?_
       simp only [go_sem,rowsD,fam_out,famC_len,hn3,fam_upd,hzl]
       iterate 2 ((try (refine drvZ Try.func25 ?_;simp only [go_sem,rowsD,fam_out,famC_len,hn3,fam_upd,hzl]));((with_reducible and_intros)<;>try exact sd))
       have hUw:(unite ys zs).length=w:=by omega
       refine Go.subQ (r := some) (fz := List.range' 128 w) (tl := [(1, .c (.isl 11 (St1.cellsL l))), (2, .c (.msl 2 1 0 w)), (3, .c (.ptr 3 0)), (7, DI .i64 (i + 1))])
        (hl:=[(0,some (boolsC (bl w zt))),(1,some (boolsC (bl w zr))),(2,some (boolsC (bl w c))),(3,some (Pg.cells ⟨vs,ar,bd⟩++[.msl 64 1 0 w,.msl 0 1 0 w,.msl 1 1 0 w])),(64,some (rowsC w (unite ys zs)))])
        4096 ?_ (again (i+1) (fun j=>if j<4 then some j else none) [64] _ hlt (by omega) ?_)
       ·simp only [go_sem,TmOK,DM,DMs,CM,CMs,forall_eq,exists_eq_left,Mq,HpOK,LowOK,fam_out,rowsD]
        repeat' with_reducible apply And.intro
        all_goals first | exact CMs.kf (boolsC_kf _) | (simp [List.mem_range'_1];done) | (simp [List.mem_range'_1];omega) | exact cms_rows hUw (fun i hi=>by simp [List.mem_range'_1];omega) fun i row hi=>fam_row (by omega) hi | skip
       ·rw [hTn]
        simp only [go_sem,TmOK,DM,DMs,CM,CMs,forall_eq,exists_eq_left,Mq,HpOK,LowOK]
        repeat' with_reducible apply And.intro
        all_goals first | exact CMs.kf (boolsC_kf _) | (simp;done) | exact cm_rows (by simp) rfl hUw | skip
     ·simp only [go_sem,TmOK,DM,DMs,CM,CMs,forall_eq,exists_eq_left,rowsD,fam_out]
     ·rw [mid_zero]
      have hr:∀ i,i<w→(if 128+i<4 then some (128+i) else if 128+i=64 then some 7744 else some (7745+(128+i - 128)))=some (7745+i):=fun i hi=>by
       rw [if_neg (by omega),if_neg (by omega)];congr 1;omega
      refine SubH.rows (by omega) (fun i hi=>hr i (by omega)) ?_ ?_ ?_ ?_
      ·simp only [go_sem,TmOK,DM,DMs,CM,CMs,forall_eq,exists_eq_left,HpOK,rowsD,fam_out]
       repeat' with_reducible apply And.intro
       all_goals first | exact CMs.kf (boolsC_kf _) | (simp;done) | exact cms_fam hyl (by omega) hr | skip
      ·simp [LowOK,fam_out,upd,hOf]
      ·simp
      ·simp
   ·have hn2:¬ i<l.length:=by omega
    obtain rfl:i=l.length:=by omega
    refine drvL Try.func25 ?_
    simp only [go_sem,hn2]
    iterate 3 ((try (refine drvZ Try.func25 ?_;simp only [go_sem,hn2,rowsD]));((with_reducible and_intros)<;>try exact sd))
    refine RetOb.ofQ some [] (.c (rowsD w (T l.length).sets)) [some (boolsC (bl w (T l.length).tr)),some (boolsC (bl w (T l.length).re)),some (boolsC (bl w c))] ?_ (by rw [← hR];exact ⟨rfl,rfl⟩) (by simp)
    simp [enumL,DM,DMs,CM,HpOK,LowOK,hOf,upd,hpL,rowsD]
    exact ⟨CMs.kf (boolsC_kf _),CMs.kf (boolsC_kf _),CMs.kf (boolsC_kf _)⟩
  ·simp only [go_sem,TmOK,DM,DMs,CM,CMs,forall_eq,exists_eq_left,Mq,HpOK,LowOK,hT0,rowsD]
   simp
   exact ⟨CMs.kf (boolsC_kf _),CMs.kf (boolsC_kf _),CMs.kf (boolsC_kf _)⟩
theorem sownLE (ks:List Ex) (hlk:ks.length≤2000000) (ih:∀ e ∈ ks,DC Try.prog 79 [.agg e.cells] [] (fun r h=>r = .agg e.cells∧h=[])):DC Try.prog 91 [.c (.isl 3 (Ex.cellsL ks))] [] (fun r h=>r = .c (.isl 3 (Ex.cellsL ks))∧h=[]):=by
 have hmx:=mx_eq
 refine dcZ Try.func91 ?_
 simp only [go_sem]
 iterate 2 ((try (refine drvZ Try.func91 ?_;simp only [go_sem]));((with_reducible and_intros)<;>try exact sd))
 refine Go.loopQ (fun i : Nat => [(3, .c (.msl 64 3 0 i)), (7, .c (.isl 3 (Ex.cellsL ks))), (8, DI .i64 ks.length), (9, DI .i64 i)]) (fun i => [(64, some (exC (ks.take i)))])
  4096 (fun i=>i≤ks.length) (fun i=>ks.length - i) ?_ 0 some [] _ (Nat.zero_le _) ?_
 ·intro i hi again
  rcases Nat.lt_or_ge i ks.length with hlt | hge
  ·obtain ⟨⟨k',v',ks'⟩,hx⟩:∃ x,ks[i]? = some x:=⟨ks[i],by simp [hlt]⟩
   have hsx:ks.take (i+1)=ks.take i++[.mk k' v' ks']:=by rw [List.take_add_one,hx];rfl
   have hel:(exC (ks.take i)).length=i * 3:=by rw [exC_len,List.length_take];congr 1;omega
   have hih:=ih _ (List.mem_of_getElem? hx)
   refine drvL Try.func91 ?_
   simp only [go_sem,hx,hlt]
   iterate 6 ((try (refine drvZ Try.func91 ?_;simp only [go_sem,hx,hlt]));((with_reducible and_intros)<;>try exact sd);(try first | refine XK.p hih ok79 ?_ | refine XK.gp hih ok79 ?_))
   refine again (i+1) (fun j=>if j=64 then some 4672 else some j) [] _ hlt (by omega) ?_
   simp only [go_sem,TmOK,DM,DMs,CM,CMs,forall_eq,exists_eq_left,Mq,HpOK,LowOK,hsx,exC_snoc]
   simp
   exact CMs.kf (kf_app (exC_kf _) (by simp [kf]))
  ·have hn:¬ i<ks.length:=by omega
   obtain rfl:i=ks.length:=by omega
   refine drvL Try.func91 ?_
   simp only [go_sem,hn,List.take_length]
   iterate 2 ((try (refine drvZ Try.func91 ?_;simp only [go_sem,hn,List.take_length]));((with_reducible and_intros)<;>try exact sd))
   refine RetOb.ofQ (fun j=>none) [64] (.c (.isl 3 (Ex.cellsL ks))) [] ?_ ⟨rfl,rfl⟩ (by simp)
   have g1:(Ex.cellsL ks).flatten=exC ks:=by rw [Ex.cellsL_eq];rfl
   have g2:∀ x ∈ Ex.cellsL ks,x.length=3:=fun x hx=>by rw [Ex.cellsL_eq] at hx;obtain ⟨e,_,rfl⟩:=List.mem_map.1 hx;exact Ex.cells_len e
   have g3:∀ x ∈ Ex.cellsL ks,∀ c ∈ x,kf c=true:=fun x hx=>by rw [Ex.cellsL_eq] at hx;obtain ⟨e,_,rfl⟩:=List.mem_map.1 hx;exact ex_kf e
   simp only [enumL,hOf,DM,DMs,CM,CMs,HpOK,LowOK,upd,Ex.cells,Ex.cellsL_length,g1]
   first | (simp;exact ⟨g2,g3⟩) | (simp [g2];exact g3) | exact ⟨g2,g3⟩
 ·simp only [go_sem,TmOK,DM,DMs,CM,CMs,forall_eq,exists_eq_left,Mq,HpOK,LowOK]
  simp [exC,CMs]
theorem sownSO (k t : Int) (ix v : Ex) (c : Int) (b e : List St1) (hi : DC Try.prog 79 [.agg ix.cells] [] (fun r h => r = .agg ix.cells ∧ h = [])) (hv : DC Try.prog 79 [.agg v.cells] [] (fun r h => r = .agg v.cells ∧ h = [])) (hb : DC Try.prog 48 [.c (.isl 11 (St1.cellsL b))] [] (fun r h => r = .c (.isl 11 (St1.cellsL b)) ∧ h = []))
 (he:DC Try.prog 48 [.c (.isl 11 (St1.cellsL e))] [] (fun r h=>r = .c (.isl 11 (St1.cellsL e))∧h=[])):DC Try.prog 67 [.agg (St1.cells (.mk k t ix v c b e))] [] (fun r h=>r = .agg (St1.cells (.mk k t ix v c b e))∧h=[]):=by
 have hmx:=mx_eq
 obtain ⟨ik,iv,iks⟩:=ix
 obtain ⟨vk,vv,vks⟩:=v
 simp only [Ex.cells] at hi hv
 refine dcZ Try.func67 ?_
 simp only [go_sem]
 iterate 8 ((try (refine drvZ Try.func67 ?_;simp only [go_sem]));((with_reducible and_intros)<;>try exact sd);(try first | refine XK.p hi ok79 ?_ | refine XK.gp hi ok79 ?_ | refine XK.p hv ok79 ?_ | refine XK.gp hv ok79 ?_ | refine XK.p hb ok48 ?_ | refine XK.gp hb ok48 ?_ | refine XK.p he ok48 ?_ | refine XK.gp he ok48 ?_))
 exact RetOb.plain ⟨rfl,rfl⟩ (by simp [kD,kf])
theorem sownLS (l:List St1) (hl:l.length≤2000000) (ih:∀ s ∈ l,DC Try.prog 67 [.agg s.cells] [] (fun r h=>r = .agg s.cells∧h=[])):DC Try.prog 48 [.c (.isl 11 (St1.cellsL l))] [] (fun r h=>r = .c (.isl 11 (St1.cellsL l))∧h=[]):=by
 have hmx:=mx_eq
 refine dcZ Try.func48 ?_
 simp only [go_sem]
 iterate 2 ((try (refine drvZ Try.func48 ?_;simp only [go_sem]));((with_reducible and_intros)<;>try exact sd))
 refine Go.loopQ (fun i : Nat => [(3, .c (.msl 64 11 0 i)), (7, .c (.isl 11 (St1.cellsL l))), (8, DI .i64 l.length), (9, DI .i64 i)]) (fun i => [(64, some (stC (l.take i)))])
  4096 (fun i=>i≤l.length) (fun i=>l.length - i) ?_ 0 some [] _ (Nat.zero_le _) ?_
 ·intro i hi again
  rcases Nat.lt_or_ge i l.length with hlt | hge
  ·obtain ⟨⟨k,t,⟨ik,iv,iks⟩,⟨vk,vv,vks⟩,c,b,e⟩,hx⟩:∃ x,l[i]? = some x:=⟨l[i],by simp [hlt]⟩
   have hsx:l.take (i+1)=l.take i++[.mk k t (.mk ik iv iks) (.mk vk vv vks) c b e]:=by rw [List.take_add_one,hx];rfl
   have hel:(stC (l.take i)).length=i * 11:=by rw [stC_len,List.length_take];congr 1;omega
   have hih:=ih _ (List.mem_of_getElem? hx)
   simp only [St1.cells,Ex.cells,List.cons_append,List.nil_append] at hih
   refine drvL Try.func48 ?_
   simp only [go_sem,hx,hlt]
   iterate 6 ((try (refine drvZ Try.func48 ?_;simp only [go_sem,hx,hlt]));((with_reducible and_intros)<;>try exact sd);(try first | refine XK.p hih ok67 ?_ | refine XK.gp hih ok67 ?_))
   refine again (i+1) (fun j=>if j=64 then some 4672 else some j) [] _ hlt (by omega) ?_
   simp only [go_sem,TmOK,DM,DMs,CM,CMs,forall_eq,exists_eq_left,Mq,HpOK,LowOK,hsx,stC_snoc,List.cons_append,List.nil_append]
   simp
   exact CMs.kf (kf_app (stC_kf _) (by simp [kf]))
  ·have hn:¬ i<l.length:=by omega
   obtain rfl:i=l.length:=by omega
   refine drvL Try.func48 ?_
   simp only [go_sem,hn,List.take_length]
   iterate 2 ((try (refine drvZ Try.func48 ?_;simp only [go_sem,hn,List.take_length]));((with_reducible and_intros)<;>try exact sd))
   refine RetOb.ofQ (fun j=>none) [64] (.c (.isl 11 (St1.cellsL l))) [] ?_ ⟨rfl,rfl⟩ (by simp)
   have g1:(St1.cellsL l).flatten=stC l:=by rw [St1.cellsL_eq];rfl
   have g2:∀ x ∈ St1.cellsL l,x.length=11:=fun x hx=>by rw [St1.cellsL_eq] at hx;obtain ⟨e,_,rfl⟩:=List.mem_map.1 hx;exact St1.cells_len e
   have g3:∀ x ∈ St1.cellsL l,∀ c ∈ x,kf c=true:=fun x hx=>by rw [St1.cellsL_eq] at hx;obtain ⟨e,_,rfl⟩:=List.mem_map.1 hx;exact st_kf e
   simp only [enumL,hOf,DM,DMs,CM,CMs,HpOK,LowOK,upd,St1.cellsL_length,g1]
   first | (simp;exact ⟨g2,g3⟩) | (simp [g2];exact g3) | exact ⟨g2,g3⟩
 ·simp only [go_sem,TmOK,DM,DMs,CM,CMs,forall_eq,exists_eq_left,Mq,HpOK,LowOK]
  simp [stC,CMs]
end Go.Proofs.Ytbknljofedfpjaa.CtD
