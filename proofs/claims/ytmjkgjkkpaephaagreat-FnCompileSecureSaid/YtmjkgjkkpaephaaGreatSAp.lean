/- Contracts of functions of the program, one behind the other, as plain data: what each call returns and which blocks it leaves. -/
import Derived.Test.YtmjkgjkkpaephaaGreatSFacts
import Derived.Test.YtmjkgjkkpaephaaGreatSAh
import Derived.Test.YtmjkgjkkpaephaaGreatSAj
import Derived.Test.YtmjkgjkkpaephaaGreatSAl
import Derived.Test.YtmjkgjkkpaephaaGreatSAn
import Derived.Test.YtmjkgjkkpaephaaGreatSAo
import Derived.Test.YtmjkgjkkpaephaaGreatSAk
import Derived.Test.YtmjkgjkkpaephaaGreatSAm
set_option linter.unusedVariables false
set_option linter.unusedSimpArgs false
set_option maxHeartbeats 16000000
set_option maxRecDepth 100000
namespace Go.Proofs.YtmjkgjkkpaephaaGreat.CtD
open Go Go.CT CtF CtR
def hdA (k2 k3 : Nat) : List (List Int) → List C
 | []=>[]
 | [a]=>[.msl k2 1 0 a.length]
 | a :: b :: _=>[.msl k2 1 0 a.length,.msl k3 1 0 b.length]
theorem RetOb.memK {R : D → List (Option (List C)) → Prop} {m : Mm} {hp : Hp} {k0 k1 k2 k3 nv na : Nat} {rc : List C} (hna : m.arrays.length ≤ 2) (hR : R (.agg m.cells) [some rc]) (hrc : ∀ c ∈ rc, kf c = true)
 (hz:hp 0=some (some rc)) (h0:hp k0=some (some (m.vals.map I64))) (h1:hp k1=some (some (hdA k2 k3 m.arrays))) (h2:hp k2=some (some (blk0 m.arrays))) (h3:hp k3=some (some (blk1 m.arrays))) (hv:nv=m.vals.length) (hn:na=m.arrays.length)
 (hne:k0 ≠ k1∧k0 ≠ k2∧k0 ≠ k3∧k1 ≠ k2∧k1 ≠ k3∧k2 ≠ k3∧0 ≠ k0∧0 ≠ k1∧0 ≠ k2∧0 ≠ k3):RetOb 1 R (.agg [.msl k0 1 0 nv,.msl k1 1 0 na]) hp:=by
 subst hv hn
 obtain ⟨va,arr⟩:=m
 obtain ⟨n01,n02,n03,n12,n13,n23,nt0,nt1,nt2,nt3⟩:=hne
 refine RetOb.step (fun j=>if j=0 then some 0 else if j=1 then some k0 else if j=2 then some k1 else none) [k2,k3] (.agg [.msl 1 1 0 va.length,.msl 2 1 0 arr.length]) [(0,some rc),(1,some (va.map I64)),(2,some (arr.map isI))] ?_ ?_
 ·have e3:∀ a:List Int,(a.map fun n=>[C.v (.int .i64 n)]).flatten=a.map I64:=fun a=>flat1 _ a
  have e4:∀ {hT hS:Hp} {r:Nat→Option Nat} {fz:List Nat},CMs hT r hS fz rc rc=True:=eq_true (CMs.kf hrc)
  match arr,hna,h1,h2,h3 with
  | [],_,h1,h2,h3=>simp [DM,DMs,CM,CMs,HpOK,LowOK,hOf,upd,hz,h0,CMs_I,e4,h1,hdA,n01,n02,n03,n12,n13,n23,nt0,nt1,nt2,nt3,Ne.symm n01,Ne.symm nt0,Ne.symm nt1,Ne.symm n23]
  | [a],_,h1,h2,h3 =>
   simp [DM,DMs,CM,CMs,HpOK,LowOK,hOf,upd,hz,h0,CMs_I,e4,h1,h2,hdA,n01,n02,n03,n12,n13,n23,nt0,nt1,nt2,nt3,Ne.symm n01,Ne.symm nt0,Ne.symm nt1,Ne.symm n23,e3,isI,blk0,kf]
  | [a,b],_,h1,h2,h3 =>
   simp [DM,DMs,CM,CMs,HpOK,LowOK,hOf,upd,hz,h0,CMs_I,e4,h1,h2,h3,hdA,n01,n02,n03,n12,n13,n23,nt0,nt1,nt2,nt3,Ne.symm n01,Ne.symm nt0,Ne.symm nt1,Ne.symm n23,e3,isI,blk0,blk1,kf]
 ·refine RetOb.ofQ (fun j=>if j=0 then some 0 else none) [1,2] _ [some rc] ?_ hR (by simp)
  have e4:∀ {hT hS:Hp} {r:Nat→Option Nat} {fz:List Nat},CMs hT r hS fz rc rc=True:=eq_true (CMs.kf hrc)
  simp [enumL,DM,DMs,CM,CMs,HpOK,LowOK,hOf,upd,Mm.cells,isI,flat_I,kf,e4]
  exact (flat1 isI arr).symm
theorem hdr_hdA (k k':Nat) (arr:List (List Int)) (h:arr.length≤2) (h4:∀ a ∈ arr,a.length=4):hdr k k' arr.length=hdA k k' arr:=by
 match arr,h,h4 with
 | [],_,_=>rfl
 | [a],_,h4=>simp [hdr,hdA,h4 a (by simp)]
 | [a,b],_,h4=>simp [hdr,hdA,h4 a (by simp),h4 b (by simp)]
theorem renC_kf (r : Nat → Nat) : ∀ c : C, kf c = true → renC r c = c
 | .v _,_ | .isl _ _,_ | .z,_ | .unk,_ | .eptr _,_ | .met _ _,_=>rfl
 | .msl _ _ _ _,h | .ptr _ _,h | .clo _ _,h=>by simp [kf] at h
theorem renCs_kf (r:Nat→Nat) (cs:List C) (h:∀ c ∈ cs,kf c=true):renCs r cs=cs:=by
 rw [renCs_eq]
 conv=>rhs;rw [← List.map_id cs]
 exact List.map_congr_left fun c hc=>renC_kf r c (h c hc)
theorem renCs_stC (r:Nat→Nat) (l:List St1):renCs r (stC l)=stC l:=renCs_kf r _ (stC_kf l)
theorem l2Copy (p : Pg) (d : Nat) (hv : p.vars.length ≤ 1000) (ha : p.arrays.length ≤ 1000) (hb : p.body.length ≤ 1000) (hs : ∀ s ∈ p.body, SmS d s) : DC Tryz.prog 80 [.agg p.cells] []
 (fun r h=>r = .agg [.msl 0 1 0 p.vars.length,.msl 1 1 0 p.arrays.length,.msl 2 11 0 p.body.length]∧h=[some (p.vars.map I64),some (p.arrays.map I64),some (stC p.body)]):=by
 have hmx:=mx_eq
 have hcb:=l2CopyBlockOwn d p.body (by omega) hs
 generalize hR:(fun (r:D) (h:List (Option (List C)))=>r = .agg [.msl 0 1 0 p.vars.length,.msl 1 1 0 p.arrays.length,.msl 2 11 0 p.body.length]∧h=[some (p.vars.map I64),some (p.arrays.map I64),some (stC p.body)])=R
 obtain ⟨vs,ar,bd⟩:=p
 have hv:vs.length≤1000:=hv
 have ha:ar.length≤1000:=ha
 have hb:bd.length≤1000:=hb
 have hfl:(bd.map St1.cells).flatten=stC bd:=rfl
 refine dcZ Tryz.func80 ?_
 simp only [go_sem,flat_I']
 iterate 2 ((try (refine drvZ Tryz.func80 ?_;simp only [go_sem,flat_I']));((with_reducible and_intros)<;>try exact sd))
 refine XK.callG [] hcb ok122 (fun i' x h=>by simp at h) (hbT ()) (fun d h' ⟨_,e⟩=>by subst e;simp) ?_ (fun _=>⟨by kernel_rfl,_,_,⟨rfl,rfl⟩,by simp⟩)
 rintro _ _ ⟨rfl,rfl⟩ _
 iterate 3 ((try (refine drvZ Tryz.func80 ?_;simp only [go_sem,flat_I',renCs_stC]));((with_reducible and_intros)<;>try exact sd))
 refine RetOb.ofQ (fun j=>if j=0 then some 320 else if j=1 then some 576 else if j=2 then some 768 else none) [] (.agg [.msl 0 1 0 vs.length,.msl 1 1 0 ar.length,.msl 2 11 0 bd.length]) [some (vs.map I64),some (ar.map I64),some (stC bd)] ?_ (by rw [← hR];exact ⟨rfl,rfl⟩) (by simp)
 simp [enumL,hOf,DM,DMs,CM,CMs,HpOK,LowOK,upd,CMs_I]
 exact CMs.kf (stC_kf _)
theorem SmE.any {k v k' v':Int} {ks:List Ex} (h:SmE (.mk k v ks)):SmE (.mk k' v' ks):=by
 cases h with | mk _ _ _ h h2=>exact .mk _ _ _ h h2
theorem fits_take {k:IntKind} {bs:List Int} (h:Fits k bs) (n:Nat):Fits k (bs.take n):=fun x hx=>h x (List.mem_of_mem_take hx)
theorem renCs_rdr (r:Nat→Nat) (bs:List Int) (n:Int):renCs r (rdr bs n)=rdr bs n:=renCs_kf r _ (rdr_kf bs n)
theorem prog_len {p:Pg} (h:progOK p=true):1≤p.vars.length∧p.vars.length≤12∧p.arrays.length≤2:=by
 simp only [progOK,headsOK,Bool.and_eq_true,decide_eq_true_eq] at h
 obtain ⟨⟨⟨⟨⟨_,h1⟩,h2⟩,h3⟩,_⟩,_⟩:=h
 omega
end Go.Proofs.YtmjkgjkkpaephaaGreat.CtD
namespace Go.Proofs.YtmjkgjkkpaephaaGreat.CtR
open Go Go.CT CtF
theorem memSame_refl (m:Mm):memSame m m=true:=by simp [memSame]
theorem trSame_refl (t:List Ev):trSame t t=true:=(trSame_iff t t).2 rfl
theorem foldR_app (f : Mm → St1 → Mm × List Ev) : ∀ (a b : List St1) (m : Mm), foldR f m (a ++ b) = ((foldR f (foldR f m a).1 b).1, (foldR f m a).2 ++ (foldR f (foldR f m a).1 b).2)
 | [],b,m=>by simp [foldR]
 | x :: r,b,m=>by simp only [List.cons_append,foldR,foldR_app f r b,List.append_assoc]
theorem memOK_of {p:Pg} {m:Mm} (h:MemFits p m):memOK p.vars p.arrays m=true:=by
 simp only [memOK,vals01,arrOK,Bool.and_eq_true,decide_eq_true_eq,List.all_eq_true]
 refine ⟨⟨⟨by rw [h.nv],by rw [h.na]⟩,fun x hx=>h.val x hx⟩,fun a ha=>⟨by have:=(h.arr a ha).1;omega,fun x hx=>(h.arr a ha).2 x hx⟩⟩
theorem runP_of {p:Pg} {m:Mm} (h1:progOK p=true) (h2:memOK p.vars p.arrays m=true):runP p m=((runL 5 m p.body).1,(runL 5 m p.body).2,true):=runP_true (by rw [h1,h2];rfl)
theorem lsize_app (d:Nat) (a b:List St1):lsize d (a++b)=lsize d a+lsize d b:=by simp [lsize]
def labB (vs ar:List Int) (k v:Int):Nat:=if k=2 then (nth vs v).toNat else if k=3 then (nth ar v).toNat else 0
def labN (vs ar : List Int) : Nat → Ex → Nat
 | 0,_=>0
 | d+1,.mk k v ks=>(ks.map (labN vs ar d)).foldl (fun a b=>a ||| b) (labB vs ar k v)
def lab3 (l:List Int):Prop:=∀ x ∈ l,0≤x∧x≤3
theorem or3 {a b:Nat} (ha:a≤3) (hb:b≤3):a ||| b≤3:=by
 have:=Nat.or_lt_two_pow (x:=a) (y:=b) (n:=2) (by omega) (by omega)
 omega
theorem nth_lab {l:List Int} (h:lab3 l) (v:Int):0≤nth l v∧nth l v≤3:=by
 unfold nth
 rw [List.getD_eq_getElem?_getD]
 cases hx:l[v.toNat]? with
 | none=>simp
 | some x=>simpa using h x (List.mem_of_getElem? hx)
theorem foldl_or3 : ∀ (l : List Nat) (a : Nat), a ≤ 3 → (∀ x ∈ l, x ≤ 3) → l.foldl (fun a b => a ||| b) a ≤ 3
 | [],a,h,_=>h
 | x :: r,a,h,h2=>foldl_or3 r _ (or3 h (h2 x (by simp))) fun y hy=>h2 y (by simp [hy])
theorem labN_le {vs ar : List Int} (h1 : lab3 vs) (h2 : lab3 ar) : ∀ (d : Nat) (e : Ex), labN vs ar d e ≤ 3
 | 0,_=>Nat.zero_le _
 | d+1,.mk k v ks=>by
  refine foldl_or3 _ _ ?_ fun x hx=>?_
  ·unfold labB
   have:=nth_lab h1 v
   have:=nth_lab h2 v
   split
   ·omega
   ·split<;>omega
  ·obtain ⟨y,_,rfl⟩:=List.mem_map.1 hx
   exact labN_le h1 h2 d y
theorem lab_succ (f:Ex→Nat) (a:Nat) (ks:List Ex) (i:Nat) (x:Ex) (h:ks[i]? = some x):((ks.take (i+1)).map f).foldl (fun a b=>a ||| b) a=((ks.take i).map f).foldl (fun a b=>a ||| b) a ||| f x:=by
 rw [List.take_add_one,h]
 simp
theorem labs_of {p:Pg} (h:progOK p=true):lab3 p.vars∧lab3 p.arrays:=by
 simp only [progOK,headsOK,labs,Bool.and_eq_true,decide_eq_true_eq,List.all_eq_true] at h
 exact ⟨fun x hx=>h.1.1.1.2 x hx,fun x hx=>h.1.1.2 x hx⟩
theorem labelI (p:Pg) (hl:p.vars.length≤mx) (hl2:p.arrays.length≤mx) (h1:lab3 p.vars) (h2:lab3 p.arrays):∀ (d:Nat) (e:Ex),shape p d e=true→DC Tryz.prog 91 [.agg p.cells,.agg e.cells] [] (fun r h=>r=DI .i64 (labN p.vars p.arrays d e)∧h=[]):=by
 have hmx:=mx_eq
 intro d
 induction d with
 | zero=>intro e h;simp [shape] at h
 | succ d ih =>
  intro e hsh
  obtain ⟨k,v,ks⟩:=e
  obtain ⟨g1,g2,g3⟩:=shape_succ hsh
  obtain ⟨hl3,hla,hv0,hv1⟩:=fits_len g1
  obtain ⟨vs,ar,bd⟩:=p
  have h1:lab3 vs:=h1
  have h2:lab3 ar:=h2
  generalize hR:(fun (r:D) (h:List (Option (List C)))=>r=DI .i64 (labN vs ar (d+1) (.mk k v ks))∧h=[])=R
  have hle:=fun e=>labN_le h1 h2 d e
  have hacc:∀ i,((ks.take i).map (labN vs ar d)).foldl (fun a b=>a ||| b) (labB vs ar k v)≤3:=fun i=>by
   have:=labN_le h1 h2 (d+1) (.mk k v (ks.take i))
   exact this
  have hlb:labB vs ar k v≤3:=hacc 0
  have key:k=2∨k=3∨(k ≠ 2∧k ≠ 3):=by omega
  rcases key with hk | hk | ⟨hk2,hk3⟩
  ·have hv1':v<vs.length:=by subst hk;simpa [limit] using hv1
   have hx:=(nth_mem (l:=vs) hv0 hv1').1
   have hB:((labB vs ar k v:Nat):Int)=nth vs v:=by have:=nth_lab h1 v;simp [labB,hk];omega
   have e2:(k == 2)=true:=by simp [hk]
   have e3:(k == 3)=false:=by simp [hk]
   have f2:(k=2)=True:=by simp [hk]
   have f3:(k=3)=False:=by simp [hk]
   refine dcZ Tryz.func91 ?_
   simp only [go_sem]
   iterate 4 ((try (refine drvZ Tryz.func91 ?_;simp only [go_sem,e2,e3,f2,f3,hx]));((with_reducible and_intros)<;>try exact sd))
   refine Go.loopQ (fun i : Nat => [(2, .c (.ptr 0 0)), (5, DI .i64 (((ks.take i).map (labN vs ar d)).foldl (fun a b => a ||| b) (labB vs ar k v) : Nat)), (27, .c (.isl 3 (Ex.cellsL ks))), (28, DI .i64 ks.length), (29, DI .i64 i)]) (fun i => [(0, some (Pg.cells ⟨vs, ar, bd⟩))])
    4096 (fun i=>i≤ks.length) (fun i=>ks.length - i) ?_ 0 some [] _ (Nat.zero_le _) ?_
   ·intro i hi again
    rcases Nat.lt_or_ge i ks.length with hlt | hge
    ·obtain ⟨⟨k',v',ks'⟩,hx⟩:∃ x,ks[i]? = some x:=⟨ks[i],by simp [hlt]⟩
     have hsc:=lab_succ (labN vs ar d) (labB vs ar k v) ks i _ hx
     have ha:=hacc i
     have hb:=hle (.mk k' v' ks')
     have hc:=hacc (i+1)
     rw [hsc] at hc
     generalize ((ks.take i).map (labN vs ar d)).foldl (fun a b=>a ||| b) (labB vs ar k v)=acc at *
     refine drvL Tryz.func91 ?_
     simp only [go_sem,hx,hlt]
     iterate 2 ((try (refine drvZ Tryz.func91 ?_;simp only [go_sem,hx,hlt]));((with_reducible and_intros)<;>try exact sd))
     refine XK.plain (ih (.mk k' v' ks') (g2 _ (List.mem_of_getElem? hx))) ok91 ?_ (hbT ())
     iterate 3 ((try (refine drvZ Tryz.func91 ?_;simp only [go_sem,hx,hlt]));((with_reducible and_intros)<;>try exact sd))
     refine again (i+1) some [] _ hlt (by omega) ?_
     simp only [go_sem,TmOK,DM,DMs,CM,CMs,forall_eq,exists_eq_left,Mq,HpOK,LowOK,hsc]
     simp
     rw [← List.map_take,hsc]
    ·have hn:¬ i<ks.length:=by omega
     obtain rfl:i=ks.length:=by omega
     refine drvL Tryz.func91 ?_
     simp only [go_sem,hn,List.take_length]
     iterate 2 ((try (refine drvZ Tryz.func91 ?_;simp only [go_sem,hn,List.take_length]));((with_reducible and_intros)<;>try exact sd))
     exact RetOb.plain (d:=DI .i64 _) (by rw [← hR];exact ⟨rfl,rfl⟩) rfl
   ·simp only [go_sem,TmOK,DM,DMs,CM,CMs,forall_eq,exists_eq_left,Mq,HpOK,LowOK,List.take_zero,List.map_nil,List.foldl_nil]
    simp [hB]
  ·have hv1':v<ar.length:=by subst hk;simpa [limit] using hv1
   have hx:=(nth_mem (l:=ar) hv0 hv1').1
   have hB:((labB vs ar k v:Nat):Int)=nth ar v:=by have:=nth_lab h2 v;simp [labB,hk];omega
   have e2:(k == 2)=false:=by simp [hk]
   have e3:(k == 3)=true:=by simp [hk]
   have f2:(k=2)=False:=by simp [hk]
   have f3:(k=3)=True:=by simp [hk]
   refine dcZ Tryz.func91 ?_
   simp only [go_sem]
   iterate 4 ((try (refine drvZ Tryz.func91 ?_;simp only [go_sem,e2,e3,f2,f3,hx]));((with_reducible and_intros)<;>try exact sd))
   refine Go.loopQ (fun i : Nat => [(2, .c (.ptr 0 0)), (5, DI .i64 (((ks.take i).map (labN vs ar d)).foldl (fun a b => a ||| b) (labB vs ar k v) : Nat)), (27, .c (.isl 3 (Ex.cellsL ks))), (28, DI .i64 ks.length), (29, DI .i64 i)]) (fun i => [(0, some (Pg.cells ⟨vs, ar, bd⟩))])
    4096 (fun i=>i≤ks.length) (fun i=>ks.length - i) ?_ 0 some [] _ (Nat.zero_le _) ?_
   ·intro i hi again
    rcases Nat.lt_or_ge i ks.length with hlt | hge
    ·obtain ⟨⟨k',v',ks'⟩,hx⟩:∃ x,ks[i]? = some x:=⟨ks[i],by simp [hlt]⟩
     have hsc:=lab_succ (labN vs ar d) (labB vs ar k v) ks i _ hx
     have ha:=hacc i
     have hb:=hle (.mk k' v' ks')
     have hc:=hacc (i+1)
     rw [hsc] at hc
     generalize ((ks.take i).map (labN vs ar d)).foldl (fun a b=>a ||| b) (labB vs ar k v)=acc at *
     refine drvL Tryz.func91 ?_
     simp only [go_sem,hx,hlt]
     iterate 2 ((try (refine drvZ Tryz.func91 ?_;simp only [go_sem,hx,hlt]));((with_reducible and_intros)<;>try exact sd))
     refine XK.plain (ih (.mk k' v' ks') (g2 _ (List.mem_of_getElem? hx))) ok91 ?_ (hbT ())
     iterate 3 ((try (refine drvZ Tryz.func91 ?_;simp only [go_sem,hx,hlt]));((with_reducible and_intros)<;>try exact sd))
     refine again (i+1) some [] _ hlt (by omega) ?_
     simp only [go_sem,TmOK,DM,DMs,CM,CMs,forall_eq,exists_eq_left,Mq,HpOK,LowOK,hsc]
     simp
     rw [← List.map_take,hsc]
    ·have hn:¬ i<ks.length:=by omega
     obtain rfl:i=ks.length:=by omega
     refine drvL Tryz.func91 ?_
     simp only [go_sem,hn,List.take_length]
     iterate 2 ((try (refine drvZ Tryz.func91 ?_;simp only [go_sem,hn,List.take_length]));((with_reducible and_intros)<;>try exact sd))
     exact RetOb.plain (d:=DI .i64 _) (by rw [← hR];exact ⟨rfl,rfl⟩) rfl
   ·simp only [go_sem,TmOK,DM,DMs,CM,CMs,forall_eq,exists_eq_left,Mq,HpOK,LowOK,List.take_zero,List.map_nil,List.foldl_nil]
    simp [hB]
  ·have hB:labB vs ar k v=0:=by simp [labB,hk2,hk3]
   have e2:(k == 2)=false:=by simp [hk2]
   have e3:(k == 3)=false:=by simp [hk3]
   refine dcZ Tryz.func91 ?_
   simp only [go_sem]
   iterate 4 ((try (refine drvZ Tryz.func91 ?_;simp only [go_sem,e2,e3,hk2,hk3]));((with_reducible and_intros)<;>try exact sd))
   refine Go.loopQ (fun i : Nat => [(2, .c (.ptr 0 0)), (5, DI .i64 (((ks.take i).map (labN vs ar d)).foldl (fun a b => a ||| b) (labB vs ar k v) : Nat)), (27, .c (.isl 3 (Ex.cellsL ks))), (28, DI .i64 ks.length), (29, DI .i64 i)]) (fun i => [(0, some (Pg.cells ⟨vs, ar, bd⟩))])
    4096 (fun i=>i≤ks.length) (fun i=>ks.length - i) ?_ 0 some [] _ (Nat.zero_le _) ?_
   ·intro i hi again
    rcases Nat.lt_or_ge i ks.length with hlt | hge
    ·obtain ⟨⟨k',v',ks'⟩,hx⟩:∃ x,ks[i]? = some x:=⟨ks[i],by simp [hlt]⟩
     have hsc:=lab_succ (labN vs ar d) (labB vs ar k v) ks i _ hx
     have ha:=hacc i
     have hb:=hle (.mk k' v' ks')
     have hc:=hacc (i+1)
     rw [hsc] at hc
     generalize ((ks.take i).map (labN vs ar d)).foldl (fun a b=>a ||| b) (labB vs ar k v)=acc at *
     refine drvL Tryz.func91 ?_
     simp only [go_sem,hx,hlt]
     iterate 2 ((try (refine drvZ Tryz.func91 ?_;simp only [go_sem,hx,hlt]));((with_reducible and_intros)<;>try exact sd))
     refine XK.plain (ih (.mk k' v' ks') (g2 _ (List.mem_of_getElem? hx))) ok91 ?_ (hbT ())
     iterate 3 ((try (refine drvZ Tryz.func91 ?_;simp only [go_sem,hx,hlt]));((with_reducible and_intros)<;>try exact sd))
     refine again (i+1) some [] _ hlt (by omega) ?_
     simp only [go_sem,TmOK,DM,DMs,CM,CMs,forall_eq,exists_eq_left,Mq,HpOK,LowOK,hsc]
     simp
     rw [← List.map_take,hsc]
    ·have hn:¬ i<ks.length:=by omega
     obtain rfl:i=ks.length:=by omega
     refine drvL Tryz.func91 ?_
     simp only [go_sem,hn,List.take_length]
     iterate 2 ((try (refine drvZ Tryz.func91 ?_;simp only [go_sem,hn,List.take_length]));((with_reducible and_intros)<;>try exact sd))
     exact RetOb.plain (d:=DI .i64 _) (by rw [← hR];exact ⟨rfl,rfl⟩) rfl
   ·simp only [go_sem,TmOK,DM,DMs,CM,CMs,forall_eq,exists_eq_left,Mq,HpOK,LowOK,List.take_zero,List.map_nil,List.foldl_nil]
    simp [hB]
def ctxI (vs ar:List Int) (s:St1) (c:Nat):Nat:=if s.kind=3 then c ||| labN vs ar 5 s.value else c
def eachF {X : Type} (vs ar : List Int) (step : X → St1 → Nat → X) : Nat → Nat → X → List St1 → X
 | 0,_,x,_=>x
 | d+1,c,x,l=>l.foldl (fun x s=>eachF vs ar step d (ctxI vs ar s c) (eachF vs ar step d (ctxI vs ar s c) (step x s c) s.body) s.els) x
theorem RetOb.two {R:D→List (Option (List C))→Prop} {a b:Int} {hp:Hp} (h:R (.tup [DI .i64 a,DI .i64 b]) []):RetOb 0 R (.tup [DI .i64 a,DI .i64 b]) hp :=
 RetOb.ofQ (fun _=>none) [] (.tup [DI .i64 a,DI .i64 b]) [] (by simp [enumL,DM,DMs,CM,HpOK,LowOK]) h (by simp)
theorem prog_len2 {p:Pg} (h:progOK p=true):1≤p.vars.length∧p.vars.length≤12∧p.arrays.length≤2:=by
 simp only [progOK,headsOK,Bool.and_eq_true,decide_eq_true_eq] at h
 obtain ⟨⟨⟨⟨⟨_,h1⟩,h2⟩,h3⟩,_⟩,_⟩:=h
 omega
theorem hhp_each1 {hp : Hp} {r : Nat → Nat} {h0 : Option (List C)} (e0 : hp 0 = some (h0.map (renCs r))) :
 ∀ i' x,[h0][i']? = some x→hp ([0].getD i' 0)=some (x.map (renCs r)):=by
 intro i' x hx
 match i',hx with
 | 0,hx=>simp only [List.getElem?_cons_zero,List.getElem?_cons_succ,Option.some.injEq] at hx;subst hx;exact e0
 | i' + 1,hx=>simp at hx
theorem rkid_each1 (b:Nat):∀ k,k<1→rk0 [0] b k=k:=fun k hk=>by
 match k,hk with
 | 0,_=>rfl
theorem rkey_each1 (b:Nat):∀ k,k<1→rkey [0] b k=k:=fun k hk=>by
 match k,hk with
 | 0,_=>rfl
theorem each1 {X : Type} (p : Pg) (hl : p.vars.length ≤ mx) (hl2 : p.arrays.length ≤ mx) (h1 : lab3 p.vars) (h2 : lab3 p.arrays) (F : FuncId) (hF : fnOK Tryz.prog F = true)
 (b0:X→List C) (hr0:∀ x r,(∀ k,k<1→r k=k)→renCs r (b0 x)=b0 x) (hc0:∀ x hT hS fz,(∀ k,k<1→hT k ≠ none)→CMs hT some hS fz (b0 x) (b0 x)) (step:X→St1→Nat→X) (Inv:Nat→X→Prop)
 (hcl:∀ d x s (c q:Nat),q<1000→Inv q x→c≤3→stmtOK p d s=true→Inv (q+1) (step x s c)∧DC Tryz.prog F [.agg s.cells,DI .i64 c,.c (.ptr 0 0)] [some (b0 x)] (fun r h=>r = .tup []∧h=[some (b0 (step x s c))])) :
 ∀ (d:Nat) (l:List St1) (x:X) (c q:Nat),Inv q x→c≤3→(∀ s ∈ l,stmtOK p d s=true)→q+lsize d l≤1000 →
  Inv (q+lsize d l) (eachF p.vars p.arrays step d c x l)∧DC Tryz.prog 54 [.agg p.cells,.c (.isl 11 (St1.cellsL l)),DI .i64 c,.c (.clo F [.ptr 0 0])] [some (b0 x)] (fun r h=>r = .tup []∧h=[some (b0 (eachF p.vars p.arrays step d c x l))]):=by
 have hmx:=mx_eq
 intro d
 induction d with
 | zero =>
  intro l x c q hx hc hok hsz
  have hnil:l=[]:=by
   cases l with
   | nil=>rfl
   | cons a r=>have:=hok a (by simp);simp [stmtOK] at this
  subst hnil
  refine ⟨by rw [lsize_zero];exact hx,?_⟩
  obtain ⟨vs,ar,bd⟩:=p
  simp only [eachF]
  generalize hR:(fun (r:D) (h:List (Option (List C)))=>r = .tup []∧h=[some (b0 x)])=R
  refine dcZ Tryz.func54 ?_
  simp only [go_sem,St1.cellsL,Int.natCast_zero]
  refine Go.loop ?_
  have hz:((0:Int)<0)=False:=eq_false (by omega)
  refine drvL Tryz.func54 ?_
  simp only [go_sem,St1.cellsL,Int.natCast_zero,hz]
  refine RetOb.ofQ some [] (.tup []) [some (b0 x)] ?_ (by rw [← hR];exact ⟨rfl,rfl⟩) (by simp)
  simp [enumL,DMs,DM,HpOK,LowOK,hOf,upd,hpL]
  refine hc0 _ _ _ _ ?_
  all_goals (intro k hk;rcases (show k=0 by omega) with rfl<;>simp [upd])
 | succ d ih =>
  intro l x c q hx hc hok hsz
  have hsub:=lsize_subs d l
  have hll:l.length≤1000:=by omega
  let f:X→St1→X:=fun x s=>eachF p.vars p.arrays step d (ctxI p.vars p.arrays s c) (eachF p.vars p.arrays step d (ctxI p.vars p.arrays s c) (step x s c) s.body) s.els
  have hfold:∀ i s,l[i]? = some s→(l.take (i+1)).foldl f x=f ((l.take i).foldl f x) s:=fun i s h=>by
   rw [List.take_add_one,h];simp
  have hres:eachF p.vars p.arrays step (d+1) c x l=l.foldl f x:=rfl
  have hf:∀ (x:X) (s:St1),f x s=eachF p.vars p.arrays step d (ctxI p.vars p.arrays s c) (eachF p.vars p.arrays step d (ctxI p.vars p.arrays s c) (step x s c) s.body) s.els:=fun _ _=>rfl
  clear_value f
  have hlabI:=fun e=>labelI p hl hl2 h1 h2 5 e
  have hlabL:=fun e=>labN_le h1 h2 5 e
  have e0:∀ y b,renCs (rkey [0] b) (b0 y)=b0 y:=fun y b=>hr0 y _ (rkey_each1 b)
  generalize hR:(fun (r:D) (h:List (Option (List C)))=>r = .tup []∧h=[some (b0 (eachF p.vars p.arrays step (d+1) c x l))])=R
  rw [hres] at hR
  rw [hres]
  have hK:∀ (i:Nat) (s:St1),l[i]? = some s→q+tsum (tsize (d+1)) l i+1+lsize d s.body+lsize d s.els≤1000∧tsum (tsize (d+1)) l (i+1)=tsum (tsize (d+1)) l i+1+lsize d s.body+lsize d s.els:=fun i s hi=>by
   have a1:=tsum_succ (tsize (d+1)) l i s hi
   have a2:=tsum_le (tsize (d+1)) l (i+1)
   have a3:=tsize_subs d s
   have a4:lsize (d+1) l=(l.map (tsize (d+1))).sum:=rfl
   simp only [subs] at a3
   omega
  have hround:∀ (i:Nat) (s:St1),l[i]? = some s→∀ y,Inv (q+tsum (tsize (d+1)) l i) y→ctxI p.vars p.arrays s c≤3 ∧
   (Inv (q+tsum (tsize (d+1)) l i+1) (step y s c)∧DC Tryz.prog F [.agg s.cells,DI .i64 c,.c (.ptr 0 0)] [some (b0 y)] (fun r h=>r = .tup []∧h=[some (b0 (step y s c))])):=fun i s hi y hy=>by
   have hmem:=List.mem_of_getElem? hi
   have:=(hK i s hi).1
   refine ⟨?_,hcl (d+1) y s c _ (by omega) hy hc (hok s hmem)⟩
   unfold ctxI
   split
   ·exact or3 hc (hlabL _)
   ·exact hc
  have hsok:∀ (i:Nat) (s:St1),l[i]? = some s→(∀ t ∈ s.body,stmtOK p d t=true)∧(∀ t ∈ s.els,stmtOK p d t=true)∧(s.kind=3→shape p 5 s.value=true):=fun i s hi=>by
   have hs:=hok s (List.mem_of_getElem? hi)
   obtain ⟨k,t,ix,v,cc,b,e⟩:=s
   obtain ⟨g1,g2,g3⟩:=stmtOK_succ hs
   refine ⟨g2,g3,fun hk=>?_⟩
   have hk:k=3:=hk
   subst hk
   rcases head_kind g1 with h | h | h | h
   ·omega
   ·omega
   ·exact (right_shape h.2).1
   ·omega
  have hinv:∀ i,i≤l.length→Inv (q+tsum (tsize (d+1)) l i) ((l.take i).foldl f x):=fun i=>by
   induction i with
   | zero=>intro _;simpa [tsum] using hx
   | succ i ihi =>
    intro hi
    have hs:l[i]? = some l[i]:=by simp [show i<l.length from hi]
    rw [hfold i _ hs,hf,(hK i _ hs).2]
    have hk:=(hK i _ hs).1
    have g:=hround i _ hs _ (ihi (by omega))
    have g2:=hsok i _ hs
    have b1:=(ih _ _ _ _ g.2.1 g.1 g2.1 (by omega)).1
    have b2:=(ih _ _ _ _ b1 g.1 g2.2.1 (by omega)).1
    have e:q+(tsum (tsize (d+1)) l i+1+lsize d l[i].body+lsize d l[i].els)=q+tsum (tsize (d+1)) l i+1+lsize d l[i].body+lsize d l[i].els:=by omega
    rw [e]
    exact b2
  refine ⟨by have:=hinv l.length (Nat.le_refl _);rw [List.take_length] at this;rw [tsum_all _ _ (Nat.le_refl _)] at this;exact this,?_⟩
  obtain ⟨vs,ar,bd⟩:=p
  have h1:lab3 vs:=h1
  have h2:lab3 ar:=h2
  refine dcZ Tryz.func54 ?_
  simp only [go_sem]
  refine Go.loopQ (fun i : Nat => [(2, DI .i64 c), (3, .c (.clo F [.ptr 0 0])), (4, .c (.ptr 1 0)), (11, .c (.isl 11 (St1.cellsL l))), (12, DI .i64 l.length), (13, DI .i64 i)])
   (fun i=>[(0,some (b0 ((l.take i).foldl f x))),(1,some (Pg.cells ⟨vs,ar,bd⟩))]) 4096 (fun i=>i≤l.length) (fun i=>l.length - i) ?_ 0 some [] _ (Nat.zero_le _) ?_
  ·intro i hi again
   have hIi:=hinv i hi
   rcases Nat.lt_or_ge i l.length with hlt | hge
   ·obtain ⟨⟨k,t,⟨ik,iv,iks⟩,⟨vk,vv,vks⟩,cc,b,e⟩,hs⟩:∃ s,l[i]? = some s:=⟨l[i],by simp [hlt]⟩
    have hfi:=hfold i _ hs
    obtain ⟨q1,q4,q5⟩:=hround i _ hs _ hIi
    obtain ⟨q6,q7,q8⟩:=hsok i _ hs
    have hk:=(hK i _ hs).1
    simp only [St1.body,St1.els] at hk
    have ihb:=ih b _ _ _ q4 q1 q6 (by omega)
    have ihe:=ih e _ _ _ ihb.1 q1 q7 (by omega)
    have ihb2:=ihb.2
    have ihe2:=ihe.2
    have hll2:=hlabL (.mk vk vv vks)
    rw [hf] at hfi
    generalize (l.take i).foldl f x=y at *
    refine drvL Tryz.func54 ?_
    simp only [go_sem,hs,hlt]
    iterate 2 ((try (refine drvZ Tryz.func54 ?_;simp only [go_sem,hs,hlt]));((with_reducible and_intros)<;>try exact sd))
    refine XK.callG [0] q5 hF (hhp_each1 (by rw [Option.map_some,hr0 _ _ (rkid_each1 _)];rfl)) (hbT ()) (fun d h' ⟨_,e⟩=>by subst e;simp) ?_
    rintro _ _ ⟨rfl,rfl⟩ _
    by_cases hk:k=3
    ·subst hk
     have hlb:=hlabI (.mk vk vv vks) (q8 rfl)
     have hcx:ctxI vs ar (.mk 3 t (.mk ik iv iks) (.mk vk vv vks) cc b e) c=c ||| labN vs ar 5 (.mk vk vv vks):=by simp [ctxI,St1.kind,St1.value]
     iterate 4 ((try (refine drvZ Tryz.func54 ?_;simp only [go_sem,hs,hlt,e0]));((with_reducible and_intros)<;>try exact sd))
     refine XK.plain hlb ok91 ?_ (hbT ())
     rw [hcx] at ihb2 ihe2 hfi q1
     generalize labN vs ar 5 (.mk vk vv vks)=lb at *
     iterate 4 ((try (refine drvZ Tryz.func54 ?_;simp only [go_sem,hs,hlt,e0]));((with_reducible and_intros)<;>try exact sd))
     refine XK.callG [0] ihb2 ok54 (hhp_each1 (by rw [Option.map_some,hr0 _ _ (rkid_each1 _)];rfl)) (hbT ()) (fun d h' ⟨_,e⟩=>by subst e;simp) ?_
     rintro _ _ ⟨rfl,rfl⟩ _
     iterate 4 ((try (refine drvZ Tryz.func54 ?_;simp only [go_sem,hs,hlt,e0]));((with_reducible and_intros)<;>try exact sd))
     refine XK.callG [0] ihe2 ok54 (hhp_each1 (by rw [Option.map_some,hr0 _ _ (rkid_each1 _)];rfl)) (hbT ()) (fun d h' ⟨_,e⟩=>by subst e;simp) ?_
     rintro _ _ ⟨rfl,rfl⟩ _
     iterate 4 ((try (refine drvZ Tryz.func54 ?_;simp only [go_sem,hs,hlt,e0]));((with_reducible and_intros)<;>try exact sd))
     refine again (i+1) some [] _ hlt (by omega) ?_
     simp only [go_sem,TmOK,DM,DMs,CM,CMs,forall_eq,exists_eq_left,Mq,HpOK,LowOK,hfi]
     simp
     refine hc0 _ _ _ _ ?_
     all_goals (intro k hk;rcases (show k=0 by omega) with rfl<;>simp [upd])
    ·have hkb:(k == 3)=false:=by simp [hk]
     have hcx:ctxI vs ar (.mk k t (.mk ik iv iks) (.mk vk vv vks) cc b e) c=c:=by simp [ctxI,St1.kind,hk]
     rw [hcx] at ihb2 ihe2 hfi
     iterate 4 ((try (refine drvZ Tryz.func54 ?_;simp only [go_sem,hs,hlt,e0,hk,hkb]));((with_reducible and_intros)<;>try exact sd))
     refine XK.callG [0] ihb2 ok54 (hhp_each1 (by rw [Option.map_some,hr0 _ _ (rkid_each1 _)];rfl)) (hbT ()) (fun d h' ⟨_,e⟩=>by subst e;simp) ?_
     rintro _ _ ⟨rfl,rfl⟩ _
     iterate 4 ((try (refine drvZ Tryz.func54 ?_;simp only [go_sem,hs,hlt,e0]));((with_reducible and_intros)<;>try exact sd))
     refine XK.callG [0] ihe2 ok54 (hhp_each1 (by rw [Option.map_some,hr0 _ _ (rkid_each1 _)];rfl)) (hbT ()) (fun d h' ⟨_,e⟩=>by subst e;simp) ?_
     rintro _ _ ⟨rfl,rfl⟩ _
     iterate 4 ((try (refine drvZ Tryz.func54 ?_;simp only [go_sem,hs,hlt,e0]));((with_reducible and_intros)<;>try exact sd))
     refine again (i+1) some [] _ hlt (by omega) ?_
     simp only [go_sem,TmOK,DM,DMs,CM,CMs,forall_eq,exists_eq_left,Mq,HpOK,LowOK,hfi]
     simp
     refine hc0 _ _ _ _ ?_
     all_goals (intro k hk;rcases (show k=0 by omega) with rfl<;>simp [upd])
   ·have hn:¬ i<l.length:=by omega
    obtain rfl:i=l.length:=by omega
    refine drvL Tryz.func54 ?_
    simp only [go_sem,hn,List.take_length]
    iterate 2 ((try (refine drvZ Tryz.func54 ?_;simp only [go_sem,hn,List.take_length]));((with_reducible and_intros)<;>try exact sd))
    refine RetOb.ofQ some [] (.tup []) [some (b0 (l.foldl f x))] ?_ (by rw [← hR];exact ⟨rfl,rfl⟩) (by simp)
    simp [enumL,DMs,DM,HpOK,LowOK,hOf,upd,hpL]
    refine hc0 _ _ _ _ ?_
    all_goals (intro k hk;rcases (show k=0 by omega) with rfl<;>simp [upd])
  ·simp only [go_sem,TmOK,DM,DMs,CM,CMs,forall_eq,exists_eq_left,Mq,HpOK,LowOK,List.take_zero,List.foldl_nil]
   simp
   refine hc0 _ _ _ _ ?_
   all_goals (intro k hk;rcases (show k=0 by omega) with rfl<;>simp [upd])
abbrev BC (b:Bool):C := .v (.bool b)
def boolsC (bs:List Bool):List C:=bs.map BC
theorem boolsC_kf (bs:List Bool):∀ c ∈ boolsC bs,kf c=true:=by
 intro c hc;obtain ⟨x,_,rfl⟩:=List.mem_map.1 hc;rfl
end Go.Proofs.YtmjkgjkkpaephaaGreat.CtR
namespace Go.Proofs.YtmjkgjkkpaephaaGreat.CtD
open Go Go.CT CtF CtR
theorem runP_sm (p:Pg) (m:Mm):(runP p m).1.vals.length≤12∧(runP p m).1.arrays.length≤2∧(∀ a ∈ (runP p m).1.arrays,a.length≤4)∧(runP p m).2.1.length≤1000000:=by
 cases hq:(progOK p && memOK p.vars p.arrays m) with
 | false=>rw [runP_false hq];simp
 | true =>
  rw [runP_true hq]
  have hm:=memFits_of hq
  simp only [Bool.and_eq_true] at hq
  have hb:=body_of hq.1
  have h:=runL_ok hm hb.1
  have h2:=h.2
  rw [wt5] at h2
  refine ⟨by rw [h.1.nv];exact hm.nv12.2,by rw [h.1.na];exact hm.na2,fun a ha=>by have:=(h.1.arr a ha).1;omega,?_⟩
  have:=hb.2
  simp only
  omega
end Go.Proofs.YtmjkgjkkpaephaaGreat.CtD
namespace Go.Proofs.YtmjkgjkkpaephaaGreat.CtR
open Go Go.CT CtF
end Go.Proofs.YtmjkgjkkpaephaaGreat.CtR
namespace Go.Proofs.YtmjkgjkkpaephaaGreat.CtD
open Go Go.CT CtF CtR
theorem ownExpr (p:Pg):∀ (d:Nat) (e:Ex),CtR.shape p d e=true→DC Tryz.prog 159 [.agg e.cells] [] (fun r h=>r = .agg e.cells∧h=[]):=by
 have hmx:=mx_eq
 intro d
 induction d with
 | zero=>intro e h;simp [CtR.shape] at h
 | succ d ih =>
  intro e hsh
  obtain ⟨k,v,ks⟩:=e
  obtain ⟨g1,g2,g3⟩:=shape_succ hsh
  obtain ⟨hl3,hla,hv0,hv1⟩:=fits_len g1
  refine dcZ Tryz.func159 ?_
  simp only [go_sem]
  iterate 2 ((try (refine drvZ Tryz.func159 ?_;simp only [go_sem]));((with_reducible and_intros)<;>try exact sd))
  refine Go.loopQ (fun i : Nat => [(1, .c (.ptr 0 0)), (2, .c (.ptr 64 0)), (3, .c (.ptr 66 0)), (12, .c (.isl 3 (Ex.cellsL ks))), (13, DI .i64 ks.length), (14, DI .i64 i)])
   (fun i=>[(0,some (Ex.cells (.mk k v ks))),(64,some [I64 0,I64 0,.v (.slice none 0 0)]),(66,some [I64 k,I64 v,.msl 67 3 0 i]),(67,some (exC (ks.take i)))])
   4096 (fun i=>i≤ks.length) (fun i=>ks.length - i) ?_ 0 (fun j=>if j=66 then some 448 else if j=67 then none else some j) [] _ (Nat.zero_le _) ?_
  ·intro i hi again
   rcases Nat.lt_or_ge i ks.length with hlt | hge
   ·obtain ⟨⟨k',v',ks'⟩,hx⟩:∃ x,ks[i]? = some x:=⟨ks[i],by simp [hlt]⟩
    have hsx:ks.take (i+1)=ks.take i++[.mk k' v' ks']:=by rw [List.take_add_one,hx];rfl
    have hel:(exC (ks.take i)).length=i * 3:=by rw [exC_len,List.length_take];congr 1;omega
    refine drvL Tryz.func159 ?_
    simp only [go_sem,hx,hlt]
    iterate 2 ((try (refine drvZ Tryz.func159 ?_;simp only [go_sem,hx,hlt]));((with_reducible and_intros)<;>try exact sd))
    refine XK.plain (ih _ (g2 _ (List.mem_of_getElem? hx))) ok159 ?_ (hbT ()) (fun _=>by kernel_rfl)
    iterate 4 ((try (refine drvZ Tryz.func159 ?_;simp only [go_sem,hx,hlt,hel]));((with_reducible and_intros)<;>try exact sd))
    refine again (i+1) (fun j=>if j=67 then some 4736 else some j) [] _ hlt (by omega) ?_
    simp only [go_sem,TmOK,DM,DMs,CM,CMs,forall_eq,exists_eq_left,Mq,HpOK,LowOK,hsx,exC_snoc]
    simp
    exact CMs.kf (kf_app (exC_kf _) (by simp [kf]))
   ·have hn:¬ i<ks.length:=by omega
    obtain rfl:i=ks.length:=by omega
    refine drvL Tryz.func159 ?_
    simp only [go_sem,hn,List.take_length]
    iterate 2 ((try (refine drvZ Tryz.func159 ?_;simp only [go_sem,hn,List.take_length]));((with_reducible and_intros)<;>try exact sd))
    refine RetOb.ofQ (fun j=>none) [67] (.agg (Ex.cells (.mk k v ks))) [] ?_ ⟨rfl,rfl⟩ (by simp)
    have g1:(Ex.cellsL ks).flatten=exC ks:=by rw [Ex.cellsL_eq];rfl
    have g2:∀ x ∈ Ex.cellsL ks,x.length=3:=fun x hx=>by rw [Ex.cellsL_eq] at hx;obtain ⟨e,_,rfl⟩:=List.mem_map.1 hx;exact Ex.cells_len e
    have g3:∀ x ∈ Ex.cellsL ks,∀ c ∈ x,kf c=true:=fun x hx=>by rw [Ex.cellsL_eq] at hx;obtain ⟨e,_,rfl⟩:=List.mem_map.1 hx;exact ex_kf e
    simp only [enumL,hOf,DM,DMs,CM,CMs,HpOK,LowOK,upd,Ex.cells,Ex.cellsL_length,g1]
    first | (simp;exact ⟨g2,g3⟩) | (simp [g2];exact g3) | exact ⟨g2,g3⟩
  ·simp only [go_sem,TmOK,DM,DMs,CM,CMs,forall_eq,exists_eq_left,Mq,HpOK,LowOK]
   simp [exC]
theorem ownExpr0:DC Tryz.prog 159 [.agg (Ex.cells (.mk 0 0 []))] [] (fun r h=>r = .agg (Ex.cells (.mk 0 0 []))∧h=[]):=by
 refine dcZ Tryz.func159 ?_
 simp only [go_sem,Ex.cellsL,Int.natCast_zero]
 iterate 2 ((try (refine drvZ Tryz.func159 ?_;simp only [go_sem,Ex.cellsL,Int.natCast_zero]));((with_reducible and_intros)<;>try exact sd))
 refine Go.loop ?_
 have hz:((0:Int)<0)=False:=eq_false (by omega)
 refine drvL Tryz.func159 ?_
 simp only [go_sem,Ex.cellsL,Int.natCast_zero,hz]
 iterate 2 ((try (refine drvZ Tryz.func159 ?_;simp only [go_sem,Ex.cellsL,Int.natCast_zero,hz]));((with_reducible and_intros)<;>try exact sd))
 refine RetOb.ofQ (fun j=>none) [] (.agg (Ex.cells (.mk 0 0 []))) [] ?_ ⟨rfl,rfl⟩ (by simp)
 simp [enumL,hOf,DM,DMs,CM,CMs,HpOK,LowOK,upd,Ex.cells,Ex.cellsL]
theorem none0_eq {e:Ex} (h:none0 e=true):e = .mk 0 0 []:=by
 obtain ⟨k,v,ks⟩:=e
 simp only [none0,Ex.kind,Ex.value,Ex.kids,Bool.and_eq_true,beq_iff_eq,decide_eq_true_eq] at h
 obtain ⟨⟨rfl,rfl⟩,h3⟩:=h
 have:ks=[]:=List.isEmpty_iff.1 h3
 rw [this]
theorem exprs_of {p : Pg} {d : Nat} {k t : Int} {ix v : Ex} {c : Int} {b e : List St1} (h : stmtOK p (d + 1) (.mk k t ix v c b e) = true) :
 (CtR.shape p 5 ix=true∨ix = .mk 0 0 [])∧(CtR.shape p 5 v=true∨v = .mk 0 0 []):=by
 have h1:=(stmtOK_succ h).1
 have hk:=head_kind h1
 unfold headOK parts at h1
 rcases hk with ⟨hk,_,_,hr⟩ | ⟨rfl,_,_,hr,_,hr2⟩ | ⟨rfl,hr⟩ | ⟨rfl,_⟩
 ·refine ⟨.inr (none0_eq ?_),.inl (right_shape hr).1⟩
  have hk4:k ≠ 4:=by omega
  have hk2:(k == 2)=false:=by simp;omega
  simp [hk4,hk2] at h1
  exact h1.1.2.2
 ·exact ⟨.inl (right_shape hr).1,.inl (right_shape hr2).1⟩
 ·refine ⟨.inr (none0_eq ?_),.inl (right_shape hr).1⟩
  simp at h1
  exact h1.1.2.2
 ·simp at h1
  refine ⟨.inr (none0_eq ?_),.inr (none0_eq ?_)⟩<;>grind
theorem val_none {p:Pg} {d:Nat} {t:Int} {ix v:Ex} {c:Int} {b e:List St1} (h:stmtOK p (d+1) (.mk 4 t ix v c b e)=true):ix = .mk 0 0 []∧v = .mk 0 0 []:=by
 have h1:=(stmtOK_succ h).1
 unfold headOK parts at h1
 simp at h1
 exact ⟨none0_eq (by grind),none0_eq (by grind)⟩
theorem ownE {p:Pg} {e:Ex} (h:CtR.shape p 5 e=true∨e = .mk 0 0 []):DC Tryz.prog 159 [.agg e.cells] [] (fun r h=>r = .agg e.cells∧h=[]):=by
 rcases h with h | rfl
 ·exact ownExpr p 5 e h
 ·exact ownExpr0
theorem ownStmts (p:Pg):∀ (d:Nat) (l:List St1),(∀ s ∈ l,stmtOK p d s=true)→lsize d l≤1000→DC Tryz.prog 99 [.c (.isl 11 (St1.cellsL l))] [] (fun r h=>r = .c (.isl 11 (St1.cellsL l))∧h=[]):=by
 have hmx:=mx_eq
 intro d
 induction d with
 | zero =>
  intro l hok hsz
  have hnil:l=[]:=by
   cases l with
   | nil=>rfl
   | cons a r=>have:=hok a (by simp);simp [stmtOK] at this
  subst hnil
  refine dcZ Tryz.func99 ?_
  simp only [go_sem,St1.cellsL,Int.natCast_zero]
  ((try (refine drvZ Tryz.func99 ?_;simp only [go_sem,St1.cellsL,Int.natCast_zero]));((with_reducible and_intros)<;>try exact sd))
  refine Go.loop ?_
  have hz:((0:Int)<0)=False:=eq_false (by omega)
  refine drvL Tryz.func99 ?_
  simp only [go_sem,St1.cellsL,Int.natCast_zero,hz]
  ((try (refine drvZ Tryz.func99 ?_;simp only [go_sem,St1.cellsL,Int.natCast_zero,hz]));((with_reducible and_intros)<;>try exact sd))
  refine RetOb.ofQ (fun j=>none) [] (.c (.isl 11 [])) [] ?_ ⟨rfl,rfl⟩ (by simp)
  simp [enumL,hOf,DM,CM,HpOK,LowOK,upd]
 | succ d ih =>
  intro l hok hsz
  have hsub:=lsize_subs d l
  refine dcZ Tryz.func99 ?_
  simp only [go_sem]
  ((try (refine drvZ Tryz.func99 ?_;simp only [go_sem]));((with_reducible and_intros)<;>try exact sd))
  refine Go.loopQ (fun i : Nat => [(3, .c (.msl 67 11 0 i)), (6, .c (.isl 11 (St1.cellsL l))), (7, DI .i64 l.length), (8, DI .i64 i)]) (fun i => [(67, some (stC (l.take i)))])
   4096 (fun i=>i≤l.length) (fun i=>l.length - i) ?_ 0 (fun j=>none) [] _ (Nat.zero_le _) ?_
  ·intro i hi again
   rcases Nat.lt_or_ge i l.length with hlt | hge
   ·obtain ⟨⟨k,t,⟨ik,iv,iks⟩,⟨vk,vv,vks⟩,c,b,e⟩,hx⟩:∃ x,l[i]? = some x:=⟨l[i],by simp [hlt]⟩
    have hsx:l.take (i+1)=l.take i++[.mk k t (.mk ik iv iks) (.mk vk vv vks) c b e]:=by rw [List.take_add_one,hx];rfl
    have hel:(stC (l.take i)).length=i * 11:=by rw [stC_len,List.length_take];congr 1;omega
    have hsok:=hok _ (List.mem_of_getElem? hx)
    have hex:=exprs_of hsok
    have hbe:=stmtOK_succ hsok
    have a1:=tsum_succ (subs d) l i _ hx
    have a2:=tsum_le (subs d) l (i+1)
    simp only [subs,St1.body,St1.els] at a1 a2
    have ihb:=ih b hbe.2.1 (by omega)
    have ihe:=ih e hbe.2.2 (by omega)
    refine drvL Tryz.func99 ?_
    simp only [go_sem,hx,hlt]
    iterate 3 ((try (refine drvZ Tryz.func99 ?_;simp only [go_sem,hx,hlt]));((with_reducible and_intros)<;>try exact sd))
    refine XK.plain (ownE hex.1) ok159 ?_ (hbT ()) (fun _=>by kernel_rfl)
    iterate 2 ((try (refine drvZ Tryz.func99 ?_;simp only [go_sem]));((with_reducible and_intros)<;>try exact sd))
    refine XK.plain (ownE hex.2) ok159 ?_ (hbT ()) (fun _=>by kernel_rfl)
    iterate 2 ((try (refine drvZ Tryz.func99 ?_;simp only [go_sem]));((with_reducible and_intros)<;>try exact sd))
    refine XK.plain ihb ok99 ?_ (hbT ()) (fun _=>by kernel_rfl)
    iterate 2 ((try (refine drvZ Tryz.func99 ?_;simp only [go_sem]));((with_reducible and_intros)<;>try exact sd))
    refine XK.plain ihe ok99 ?_ (hbT ()) (fun _=>by kernel_rfl)
    iterate 4 ((try (refine drvZ Tryz.func99 ?_;simp only [go_sem,hel]));((with_reducible and_intros)<;>try exact sd))
    refine again (i+1) (fun j=>if j=67 then some 5760 else some j) [] _ hlt (by omega) ?_
    simp only [go_sem,TmOK,DM,DMs,CM,CMs,forall_eq,exists_eq_left,Mq,HpOK,LowOK,hsx,stC_snoc,List.cons_append,List.nil_append]
    simp
    exact CMs.kf (kf_app (stC_kf _) (by simp [kf]))
   ·have hn:¬ i<l.length:=by omega
    obtain rfl:i=l.length:=by omega
    refine drvL Tryz.func99 ?_
    simp only [go_sem,hn,List.take_length]
    iterate 2 ((try (refine drvZ Tryz.func99 ?_;simp only [go_sem,hn,List.take_length]));((with_reducible and_intros)<;>try exact sd))
    refine RetOb.ofQ (fun j=>none) [67] (.c (.isl 11 (St1.cellsL l))) [] ?_ ⟨rfl,rfl⟩ (by simp)
    have g1:(St1.cellsL l).flatten=stC l:=by rw [St1.cellsL_eq];rfl
    have g2:∀ x ∈ St1.cellsL l,x.length=11:=fun x hx=>by rw [St1.cellsL_eq] at hx;obtain ⟨e,_,rfl⟩:=List.mem_map.1 hx;exact St1.cells_len e
    have g3:∀ x ∈ St1.cellsL l,∀ c ∈ x,kf c=true:=fun x hx=>by rw [St1.cellsL_eq] at hx;obtain ⟨e,_,rfl⟩:=List.mem_map.1 hx;exact st_kf e
    simp only [enumL,hOf,DM,DMs,CM,CMs,HpOK,LowOK,upd,St1.cellsL_length,g1]
    first | (simp;exact ⟨g2,g3⟩) | (simp [g2];exact g3) | exact ⟨g2,g3⟩
  ·simp only [go_sem,TmOK,DM,DMs,CM,CMs,forall_eq,exists_eq_left,Mq,HpOK,LowOK]
   simp [stC]
end Go.Proofs.YtmjkgjkkpaephaaGreat.CtD
namespace Go.Proofs.YtmjkgjkkpaephaaGreat.CtR
end Go.Proofs.YtmjkgjkkpaephaaGreat.CtR
namespace Go.Proofs.YtmjkgjkkpaephaaGreat.CtD
open Go Go.CT CtF CtR
def rel (l:List Ev):List Ev:=l.filter fun e=>e.kind == 4
theorem rel_app (a b:List Ev):rel (a++b)=rel a++rel b:=by simp [rel]
theorem evalE_no4 (m : Mm) : ∀ (d : Nat) (e : Ex), ∀ x ∈ (evalE m d e).2, x.kind ≠ 4
 | 0,e=>by simp [evalE]
 | d+1,.mk k v ks=>by
  have hf:∀ x ∈ (ks.map fun e=>(evalE m d e).2).flatten,x.kind ≠ 4:=fun x hx=>by
   obtain ⟨l,hl,hxl⟩:=List.mem_flatten.1 hx
   obtain ⟨e,_,rfl⟩:=List.mem_map.1 hl
   exact evalE_no4 m d e x hxl
  intro x hx
  simp only [evalE] at hx
  split at hx
  ·cases hx
  split at hx
  ·cases hx
  split at hx
  ·rcases List.mem_append.1 hx with hx | hx
   ·exact hf x hx
   ·rw [List.mem_singleton.1 hx];simp
  split at hx
  ·exact hf x hx
  ·exact hf x hx
theorem rel_eval (m:Mm) (d:Nat) (e:Ex):rel (evalE m d e).2=[]:=by
 unfold rel
 rw [List.filter_eq_nil_iff]
 intro x hx
 simpa using evalE_no4 m d e x hx
theorem len0 {l:List St1} (h:¬ 0<l.length):l=[]:=List.eq_nil_of_length_eq_zero (by omega)
end Go.Proofs.YtmjkgjkkpaephaaGreat.CtD
