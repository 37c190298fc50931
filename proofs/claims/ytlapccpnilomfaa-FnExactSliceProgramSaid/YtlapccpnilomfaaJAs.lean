/- Contracts of functions of the program, one behind the other, as plain data: what each call returns and which blocks it leaves. -/
import Derived.Test.YtlapccpnilomfaaJFacts
import Derived.Test.YtlapccpnilomfaaJAn
import Derived.Test.YtlapccpnilomfaaJAp
import Derived.Test.YtlapccpnilomfaaJAq
import Derived.Test.YtlapccpnilomfaaJAr
set_option linter.unusedVariables false
set_option linter.unusedSimpArgs false
set_option linter.unusedSectionVars false
set_option maxHeartbeats 16000000
set_option maxRecDepth 100000
namespace Go.Proofs.Ytlapccpnilomfaa.CtD
open Go Go.CT CtF CtR
variable [Yn]
def cutS (q : Nat → Bool) (nv : Nat) (f : List St1 → List St1) : St1 → Option St1
 | .mk k t ix v c b e =>
  if k=5 then some (.mk k t ix v c b e) else if k=1 then (if q t.toNat then some (.mk k t ix v c b e) else none) else if k=2 then (if q (nv+t.toNat) then some (.mk k t ix v c b e) else none)
  else if 0<(f b).length+(f e).length then some (.mk k t ix v c (f b) (f e)) else none
def cutL (q : Nat → Bool) (nv : Nat) : Nat → List St1 → List St1
 | 0,_=>[]
 | d+1,l=>l.filterMap (cutS q nv (cutL q nv d))
def addS (q : Nat → Bool) (nv : Nat) (f : List St1 → List St1) (g : List St1 → Nat) (a : Nat) : St1 → Nat
 | .mk k t ix v c b e =>
  let a1:=if k=5∨k=1∨k=2 then a else a ||| (g b ||| g e)
  if (cutS q nv f (.mk k t ix v c b e)).isSome then a1 ||| (occN nv 5 v ||| occN nv 5 ix) else a1
def setN (q : Nat → Bool) (nv : Nat) : Nat → List St1 → Nat
 | 0,_=>0
 | d+1,l=>l.foldl (addS q nv (cutL q nv d) (setN q nv d)) 0
theorem occurring0 (p:Pg):DC Try.prog 45 [.agg p.cells,.agg (Ex.cells (.mk 0 0 []))] [] (fun r h=>r=DI .i64 ((0:Nat):Int)∧h=[]):=by
 obtain ⟨vs,ar,bd⟩:=p
 refine dcZ Try.func45 ?_
 simp only [go_sem,Ex.cellsL,Int.natCast_zero]
 iterate 3 ((try (refine drvZ Try.func45 ?_;simp only [go_sem,Ex.cellsL,Int.natCast_zero]));((with_reducible and_intros)<;>try exact sd))
 refine Go.loop ?_
 have hz:((0:Int)<0)=False:=eq_false (by omega)
 refine drvL Try.func45 ?_
 simp only [go_sem,Ex.cellsL,Int.natCast_zero,hz]
 iterate 2 ((try (refine drvZ Try.func45 ?_;simp only [go_sem,Ex.cellsL,Int.natCast_zero,hz]));((with_reducible and_intros)<;>try exact sd))
 exact RetOb.plain (d:=DI .i64 _) ⟨rfl,rfl⟩ rfl
theorem occE {p:Pg} {e:Ex} (hn:p.vars.length+p.arrays.length≤14) (h:CtR.shape p 5 e=true∨e = .mk 0 0 []):DC Try.prog 45 [.agg p.cells,.agg e.cells] [] (fun r h=>r=DI .i64 (occN p.vars.length 5 e)∧h=[]):=by
 rcases h with h | rfl
 ·exact occurringI p hn 5 e h
 ·exact occurring0 p
theorem occE_lt {p:Pg} {e:Ex} (hn:p.vars.length+p.arrays.length≤14) (h:CtR.shape p 5 e=true∨e = .mk 0 0 []):occN p.vars.length 5 e<16384:=by
 rcases h with h | rfl
 ·exact occN_lt hn 5 e h
 ·simp [occN,occB]
theorem tbit (N k:Nat):((((N:Int) / 2 ^ k).toNat &&& 1:Nat):Int)=if N.testBit k then 1 else 0:=by
 have e:((N:Int) / 2 ^ k).toNat=N / 2 ^ k:=by
  have:((2:Int) ^ k)=((2 ^ k:Nat):Int):=by rw [Int.natCast_pow];rfl
  rw [this,← Int.natCast_ediv];rfl
 rw [e,Nat.and_one_is_mod,Nat.testBit_eq_decide_div_mod_eq]
 by_cases h:N / 2 ^ k % 2=1
 ·simp [h]
 ·have:N / 2 ^ k % 2=0:=by omega
  simp [this]
theorem addS_lt {p:Pg} {q:Nat→Bool} {f:List St1→List St1} {g:List St1→Nat} (hn:p.vars.length+p.arrays.length≤14) {d a:Nat} {s:St1} (ha:a<16384) (hg:∀ l,(∀ x ∈ l,stmtOK p d x=true)→g l<16384) (hs:stmtOK p (d+1) s=true):addS q p.vars.length f g a s<16384:=by
 obtain ⟨k,t,ix,v,c,b,e⟩:=s
 have hx:=exprs_of hs
 have hbe:=stmtOK_succ hs
 simp only [addS]
 have h1:(if k=5∨k=1∨k=2 then a else a ||| (g b ||| g e))<16384:=by
  split
  ·exact ha
  ·exact or_lt ha (or_lt (hg b hbe.2.1) (hg e hbe.2.2))
 split
 ·exact or_lt h1 (or_lt (occE_lt hn hx.2) (occE_lt hn hx.1))
 ·exact h1
theorem setN_lt {p : Pg} {q : Nat → Bool} (hn : p.vars.length + p.arrays.length ≤ 14) : ∀ (d : Nat) (l : List St1), (∀ s ∈ l, stmtOK p d s = true) → setN q p.vars.length d l < 16384
 | 0,l,_=>by simp [setN]
 | d+1,l,h=>by
  simp only [setN]
  have gen:∀ (l:List St1) (a:Nat),a<16384→(∀ s ∈ l,stmtOK p (d+1) s=true)→l.foldl (addS q p.vars.length (cutL q p.vars.length d) (setN q p.vars.length d)) a<16384:=fun l=>by
   induction l with
   | nil=>intro a ha _;exact ha
   | cons s r ih=>intro a ha hs;exact ih _ (addS_lt hn ha (fun l hl=>setN_lt hn d l hl) (hs s (by simp))) fun x hx=>hs x (by simp [hx])
  exact gen l 0 (by decide) h
theorem sliceI (p:Pg) (hn:p.vars.length+p.arrays.length≤14) (N:Nat) (hN:N<16384):∀ (d:Nat) (l:List St1),(∀ s ∈ l,stmtOK p d s=true)→lsize d l≤1000 →
 DC Try.prog 26 [.agg p.cells,.c (.isl 11 (St1.cellsL l)),DI .i64 N] [] (fun r h=>r = .tup [.c (.isl 11 (St1.cellsL (cutL N.testBit p.vars.length d l))),DI .i64 (setN N.testBit p.vars.length d l)]∧h=[]):=by
 have hmx:=mx_eq
 intro d
 induction d with
 | zero =>
  intro l hok hsz
  have hnil:l=[]:=by
   cases l with
   | nil=>rfl
   | cons a r=>have:=hok a (by simp);simp [stmtOK] at this
  subst hnil
  obtain ⟨vs,ar,bd⟩:=p
  refine dcZ Try.func26 ?_
  simp only [go_sem,St1.cellsL,Int.natCast_zero]
  iterate 2 ((try (refine drvZ Try.func26 ?_;simp only [go_sem,St1.cellsL,Int.natCast_zero]));((with_reducible and_intros)<;>try exact sd))
  refine Go.loop ?_
  have hz:((0:Int)<0)=False:=eq_false (by omega)
  refine drvL Try.func26 ?_
  simp only [go_sem,St1.cellsL,Int.natCast_zero,hz]
  iterate 2 ((try (refine drvZ Try.func26 ?_;simp only [go_sem,St1.cellsL,Int.natCast_zero,hz]));((with_reducible and_intros)<;>try exact sd))
  refine RetOb.ofQ (fun j=>none) [] (.tup [.c (.isl 11 []),DI .i64 0]) [] ?_ ⟨by simp [cutL,setN,St1.cellsL],rfl⟩ (by simp)
  simp [enumL,hOf,DM,DMs,CM,HpOK,LowOK,upd]
 | succ d ih =>
  intro l hok hsz
  have hsub:=lsize_subs d l
  have hsetl:=fun l h=>setN_lt (q:=N.testBit) hn d l h
  have hpre:∀ i,(∀ s ∈ l.take i,stmtOK p (d+1) s=true):=fun i s hs=>hok s (List.mem_of_mem_take hs)
  have hsetp:=fun i=>setN_lt (q:=N.testBit) hn (d+1) (l.take i) (hpre i)
  have hcl:∀ {i:Nat} {s:St1},l[i]? = some s→cutL N.testBit p.vars.length (d+1) (l.take (i+1))=cutL N.testBit p.vars.length (d+1) (l.take i)++(cutS N.testBit p.vars.length (cutL N.testBit p.vars.length d) s).toList:=fun {i s} h=>by
   simp only [cutL];rw [List.take_add_one,h,List.filterMap_append]
   cases h2:cutS N.testBit p.vars.length (cutL N.testBit p.vars.length d) s<;>simp [List.filterMap_cons,h2]
  have hst:∀ {i:Nat} {s:St1},l[i]? = some s→setN N.testBit p.vars.length (d+1) (l.take (i+1))=addS N.testBit p.vars.length (cutL N.testBit p.vars.length d) (setN N.testBit p.vars.length d) (setN N.testBit p.vars.length (d+1) (l.take i)) s:=fun {i s} h=>by
   simp only [setN];rw [List.take_add_one,h];simp
  have hcll:∀ i,(cutL N.testBit p.vars.length (d+1) (l.take i)).length≤i:=fun i=>by
   simp only [cutL];exact Nat.le_trans (List.length_filterMap_le _ _) (by simp;omega)
  have hcellI:=fun a h=>cellI p a (by omega) h
  have hoccE:=fun e h=>@occE _ p e hn h
  have hoccL:=fun e h=>@occE_lt _ p e hn h
  obtain ⟨vs,ar,bd⟩:=p
  have hn:vs.length+ar.length≤14:=hn
  simp only at hsetl hsetp hcl hst hcll hcellI hoccE hoccL ih
  generalize hR:(fun (r:D) (h:List (Option (List C)))=>r = .tup [.c (.isl 11 (St1.cellsL (cutL N.testBit vs.length (d+1) l))),DI .i64 (setN N.testBit vs.length (d+1) l)]∧h=[])=R
  refine dcZ Try.func26 ?_
  simp only [go_sem]
  iterate 2 ((try (refine drvZ Try.func26 ?_;simp only [go_sem]));((with_reducible and_intros)<;>try exact sd))
  refine Go.loopQ (fun i : Nat => [(2, DI .i64 N), (3, .c (.ptr 0 0)), (8, .c (.msl 67 11 0 (cutL N.testBit vs.length (d + 1) (l.take i)).length)), (9, DI .i64 (setN N.testBit vs.length (d + 1) (l.take i))), (17, .c (.isl 11 (St1.cellsL l))), (18, DI .i64 l.length), (19, DI .i64 i)])
   (fun i=>[(0,some (Pg.cells ⟨vs,ar,bd⟩)),(67,some (stC (cutL N.testBit vs.length (d+1) (l.take i))))])
   4096 (fun i=>i≤l.length) (fun i=>l.length - i) ?_ 0 (fun j=>if j=67 then none else some j) [] _ (Nat.zero_le _) ?_
  ·intro i hi again
   have hli:=hcll i
   have hsi:=hsetp i
   rcases Nat.lt_or_ge i l.length with hlt | hge
   ·obtain ⟨⟨k,t,⟨ik,iv,iks⟩,⟨vk,vv,vks⟩,c,b,e⟩,hx⟩:∃ x,l[i]? = some x:=⟨l[i],by simp [hlt]⟩
    have hsok:=hok _ (List.mem_of_getElem? hx)
    have hex:=exprs_of hsok
    have hbe:=stmtOK_succ hsok
    have hhk:=head_kind hbe.1
    simp only at hhk
    have a1:=tsum_succ (subs d) l i _ hx
    have a2:=tsum_le (subs d) l (i+1)
    simp only [subs,St1.body,St1.els] at a1 a2
    have ihb:=ih b hbe.2.1 (by omega)
    have ihe:=ih e hbe.2.2 (by omega)
    have hsb:=hsetl b hbe.2.1
    have hse:=hsetl e hbe.2.2
    have ho1:=hoccE _ hex.2
    have ho2:=hoccE _ hex.1
    have hl1:=hoccL _ hex.2
    have hl2:=hoccL _ hex.1
    have hci:=hcl hx
    have hsi2:=hst hx
    have hel:=stC_len (cutL N.testBit vs.length (d+1) (l.take i))
    generalize hCi:cutL N.testBit vs.length (d+1) (l.take i)=Ci at *
    generalize hSi:setN N.testBit vs.length (d+1) (l.take i)=Si at *
    generalize hov:occN vs.length 5 (.mk vk vv vks)=ov at *
    generalize hoi:occN vs.length 5 (.mk ik iv iks)=oi at *
    have hor:=or_lt hl1 hl2
    have hor2:=or_lt hsi hor
    have key:k=5∨k=1∨k=2∨(k ≠ 5∧k ≠ 1∧k ≠ 2):=by omega
    rcases key with hk | hk | hk | ⟨hk5,hk1,hk2⟩
    ·subst hk
     refine drvL Try.func26 ?_
     simp only [go_sem,hx,hlt]
     iterate 4 ((try (refine drvZ Try.func26 ?_;simp only [go_sem]));((with_reducible and_intros)<;>try exact sd))
     have hcut:cutS N.testBit vs.length (cutL N.testBit vs.length d) (.mk 5 t (.mk ik iv iks) (.mk vk vv vks) c b e)=some (.mk 5 t (.mk ik iv iks) (.mk vk vv vks) c b e):=by simp [cutS]
     have hadd:addS N.testBit vs.length (cutL N.testBit vs.length d) (setN N.testBit vs.length d) Si (.mk 5 t (.mk ik iv iks) (.mk vk vv vks) c b e)=Si ||| (ov ||| oi):=by simp only [addS,hcut,Option.isSome_some,if_true,hov,hoi];simp
     rw [hcut,Option.toList_some] at hci
     rw [hadd] at hsi2
     refine XK.plain ho1 ok45 ?_ (hbT ()) (fun _=>by kernel_rfl)
     iterate 2 ((try (refine drvZ Try.func26 ?_;simp only [go_sem]));((with_reducible and_intros)<;>try exact sd))
     refine XK.plain ho2 ok45 ?_ (hbT ()) (fun _=>by kernel_rfl)
     iterate 5 ((try (refine drvZ Try.func26 ?_;simp only [go_sem,hel]));((with_reducible and_intros)<;>try exact sd))
     refine again (i+1) (fun j=>if j=67 then some 5824 else some j) [] _ hlt (by omega) ?_
     simp only [go_sem,TmOK,DM,DMs,CM,CMs,forall_eq,exists_eq_left,Mq,HpOK,LowOK,List.cons_append,List.nil_append,hci,hsi2,stC_snoc,List.length_append]
     simp
     exact CMs.kf (kf_app (stC_kf _) (by simp [kf]))
    ·subst hk
     have ht:0≤t∧t<(vs.length:Int):=by omega
     have hdv0:(0:Int)≤(N:Int) / 2 ^ t.toNat:=Int.ediv_nonneg (by omega) (Int.le_of_lt (Int.pow_pos (by decide)))
     have hdv1:(N:Int) / 2 ^ t.toNat≤N:=Int.ediv_le_self _ (by omega)
     have htb:=tbit N (t.toNat)
     have hz:=andZ_nn (k := .i64) (a:=(N:Int) / 2 ^ (t.toNat)) (b:=1) hdv0 (by decide) (by simp only [InK];omega) (by simp only [InK];omega)
     rw [show ((1:Int).toNat)=1 from rfl] at hz
     rw [← hz] at htb
     have hbits:((IntKind.i64).bits:Int)=64:=rfl
     cases hq:N.testBit (t.toNat) with
     | true =>
      rw [hq] at htb
      skip
      simp only [if_true] at htb
      refine drvL Try.func26 ?_
      simp only [go_sem,hx,hlt]
      iterate 6 ((try (refine drvZ Try.func26 ?_;simp only [go_sem,hbits,htb]));((with_reducible and_intros)<;>try exact sd))
      have hcut:cutS N.testBit vs.length (cutL N.testBit vs.length d) (.mk 1 t (.mk ik iv iks) (.mk vk vv vks) c b e)=some (.mk 1 t (.mk ik iv iks) (.mk vk vv vks) c b e):=by simp [cutS,hq]
      have hadd:addS N.testBit vs.length (cutL N.testBit vs.length d) (setN N.testBit vs.length d) Si (.mk 1 t (.mk ik iv iks) (.mk vk vv vks) c b e)=Si ||| (ov ||| oi):=by simp only [addS,hcut,Option.isSome_some,if_true,hov,hoi];simp
      rw [hcut,Option.toList_some] at hci
      rw [hadd] at hsi2
      refine XK.plain ho1 ok45 ?_ (hbT ()) (fun _=>by kernel_rfl)
      iterate 2 ((try (refine drvZ Try.func26 ?_;simp only [go_sem]));((with_reducible and_intros)<;>try exact sd))
      refine XK.plain ho2 ok45 ?_ (hbT ()) (fun _=>by kernel_rfl)
      iterate 5 ((try (refine drvZ Try.func26 ?_;simp only [go_sem,hel]));((with_reducible and_intros)<;>try exact sd))
      refine again (i+1) (fun j=>if j=67 then some 6336 else some j) [] _ hlt (by omega) ?_
      simp only [go_sem,TmOK,DM,DMs,CM,CMs,forall_eq,exists_eq_left,Mq,HpOK,LowOK,List.cons_append,List.nil_append,hci,hsi2,stC_snoc,List.length_append]
      simp
      exact CMs.kf (kf_app (stC_kf _) (by simp [kf]))
     | false =>
      rw [hq] at htb
      skip
      simp only [Bool.false_eq_true,if_false] at htb
      refine drvL Try.func26 ?_
      simp only [go_sem,hx,hlt]
      iterate 6 ((try (refine drvZ Try.func26 ?_;simp only [go_sem,hbits,htb]));((with_reducible and_intros)<;>try exact sd))
      have hcut:cutS N.testBit vs.length (cutL N.testBit vs.length d) (.mk 1 t (.mk ik iv iks) (.mk vk vv vks) c b e)=none:=by simp [cutS,hq]
      have hadd:addS N.testBit vs.length (cutL N.testBit vs.length d) (setN N.testBit vs.length d) Si (.mk 1 t (.mk ik iv iks) (.mk vk vv vks) c b e)=Si:=by simp only [addS,hcut,Option.isSome_none,Bool.false_eq_true,if_false];simp
      rw [hcut,Option.toList_none,List.append_nil] at hci
      rw [hadd] at hsi2
      refine again (i+1) some [] _ hlt (by omega) ?_
      simp only [go_sem,TmOK,DM,DMs,CM,CMs,forall_eq,exists_eq_left,Mq,HpOK,LowOK,List.cons_append,List.nil_append,hci,hsi2]
      simp
      exact CMs.kf (stC_kf _)
    ·subst hk
     have ht:0≤t∧t<(ar.length:Int):=by omega
     have hdv0:(0:Int)≤(N:Int) / 2 ^ ((vs.length:Int)+t).toNat:=Int.ediv_nonneg (by omega) (Int.le_of_lt (Int.pow_pos (by decide)))
     have hdv1:(N:Int) / 2 ^ ((vs.length:Int)+t).toNat≤N:=Int.ediv_le_self _ (by omega)
     have htb:=tbit N (((vs.length:Int)+t).toNat)
     have hz:=andZ_nn (k := .i64) (a:=(N:Int) / 2 ^ (((vs.length:Int)+t).toNat)) (b:=1) hdv0 (by decide) (by simp only [InK];omega) (by simp only [InK];omega)
     rw [show ((1:Int).toNat)=1 from rfl] at hz
     rw [← hz] at htb
     have hbits:((IntKind.i64).bits:Int)=64:=rfl
     have hpos:((vs.length:Int)+t).toNat=vs.length+t.toNat:=by omega
     cases hq:N.testBit (vs.length+t.toNat) with
     | true =>
      rw [hpos,hq] at htb
      rw [← hpos] at htb
      simp only [if_true] at htb
      refine drvL Try.func26 ?_
      simp only [go_sem,hx,hlt]
      iterate 6 ((try (refine drvZ Try.func26 ?_;simp only [go_sem,hbits,htb]));((with_reducible and_intros)<;>try exact sd))
      refine XK.plain (hcellI t (by omega)) ok44 ?_ (hbT ())
      iterate 6 ((try (refine drvZ Try.func26 ?_;simp only [go_sem,hbits,htb]));((with_reducible and_intros)<;>try exact sd))
      have hcut:cutS N.testBit vs.length (cutL N.testBit vs.length d) (.mk 2 t (.mk ik iv iks) (.mk vk vv vks) c b e)=some (.mk 2 t (.mk ik iv iks) (.mk vk vv vks) c b e):=by simp [cutS,hq]
      have hadd:addS N.testBit vs.length (cutL N.testBit vs.length d) (setN N.testBit vs.length d) Si (.mk 2 t (.mk ik iv iks) (.mk vk vv vks) c b e)=Si ||| (ov ||| oi):=by simp only [addS,hcut,Option.isSome_some,if_true,hov,hoi];simp
      rw [hcut,Option.toList_some] at hci
      rw [hadd] at hsi2
      refine XK.plain ho1 ok45 ?_ (hbT ()) (fun _=>by kernel_rfl)
      iterate 2 ((try (refine drvZ Try.func26 ?_;simp only [go_sem]));((with_reducible and_intros)<;>try exact sd))
      refine XK.plain ho2 ok45 ?_ (hbT ()) (fun _=>by kernel_rfl)
      iterate 5 ((try (refine drvZ Try.func26 ?_;simp only [go_sem,hel]));((with_reducible and_intros)<;>try exact sd))
      refine again (i+1) (fun j=>if j=67 then some 6592 else some j) [] _ hlt (by omega) ?_
      simp only [go_sem,TmOK,DM,DMs,CM,CMs,forall_eq,exists_eq_left,Mq,HpOK,LowOK,List.cons_append,List.nil_append,hci,hsi2,stC_snoc,List.length_append]
      simp
      exact CMs.kf (kf_app (stC_kf _) (by simp [kf]))
     | false =>
      rw [hpos,hq] at htb
      rw [← hpos] at htb
      simp only [Bool.false_eq_true,if_false] at htb
      refine drvL Try.func26 ?_
      simp only [go_sem,hx,hlt]
      iterate 6 ((try (refine drvZ Try.func26 ?_;simp only [go_sem,hbits,htb]));((with_reducible and_intros)<;>try exact sd))
      refine XK.plain (hcellI t (by omega)) ok44 ?_ (hbT ())
      iterate 6 ((try (refine drvZ Try.func26 ?_;simp only [go_sem,hbits,htb]));((with_reducible and_intros)<;>try exact sd))
      have hcut:cutS N.testBit vs.length (cutL N.testBit vs.length d) (.mk 2 t (.mk ik iv iks) (.mk vk vv vks) c b e)=none:=by simp [cutS,hq]
      have hadd:addS N.testBit vs.length (cutL N.testBit vs.length d) (setN N.testBit vs.length d) Si (.mk 2 t (.mk ik iv iks) (.mk vk vv vks) c b e)=Si:=by simp only [addS,hcut,Option.isSome_none,Bool.false_eq_true,if_false];simp
      rw [hcut,Option.toList_none,List.append_nil] at hci
      rw [hadd] at hsi2
      refine again (i+1) some [] _ hlt (by omega) ?_
      simp only [go_sem,TmOK,DM,DMs,CM,CMs,forall_eq,exists_eq_left,Mq,HpOK,LowOK,List.cons_append,List.nil_append,hci,hsi2]
      simp
      exact CMs.kf (stC_kf _)
    ·have e5:(k == 5)=false:=by simp [hk5]
     have e1:(k == 1)=false:=by simp [hk1]
     have e2:(k == 2)=false:=by simp [hk2]
     have hlb:(cutL N.testBit vs.length d b).length≤1000:=by
      cases d with
      | zero=>simp [cutL]
      | succ d=>simp only [cutL];exact Nat.le_trans (List.length_filterMap_le _ _) (by have:=lsize_subs d b;omega)
     have hle:(cutL N.testBit vs.length d e).length≤1000:=by
      cases d with
      | zero=>simp [cutL]
      | succ d=>simp only [cutL];exact Nat.le_trans (List.length_filterMap_le _ _) (by have:=lsize_subs d e;omega)
     have hcS:cutS N.testBit vs.length (cutL N.testBit vs.length d) (.mk k t (.mk ik iv iks) (.mk vk vv vks) c b e)=if 0<(cutL N.testBit vs.length d b).length+(cutL N.testBit vs.length d e).length then some (.mk k t (.mk ik iv iks) (.mk vk vv vks) c (cutL N.testBit vs.length d b) (cutL N.testBit vs.length d e)) else none:=by simp [cutS,hk5,hk1,hk2]
     have hor3:=or_lt hsi (or_lt hsb hse)
     have hor4:=or_lt hor3 hor
     have hor5:=or_lt hsb hse
     refine drvL Try.func26 ?_
     simp only [go_sem,hx,hlt,e5,e1,e2,hk5,hk1,hk2]
     iterate 4 ((try (refine drvZ Try.func26 ?_;simp only [go_sem,e5,e1,e2,hk5,hk1,hk2]));((with_reducible and_intros)<;>try exact sd))
     refine XK.plain ihb ok26 ?_ (hbT ())
     iterate 3 ((try (refine drvZ Try.func26 ?_;simp only [go_sem]));((with_reducible and_intros)<;>try exact sd))
     refine XK.plain ihe ok26 ?_ (hbT ())
     by_cases hpos:0<(cutL N.testBit vs.length d b).length+(cutL N.testBit vs.length d e).length
     ·have hp1:((0:Int)<((cutL N.testBit vs.length d b).length:Int)+((cutL N.testBit vs.length d e).length:Int))=True:=eq_true (by omega)
      rw [if_pos hpos] at hcS
      iterate 6 ((try (refine drvZ Try.func26 ?_;simp only [go_sem,hp1]));((with_reducible and_intros)<;>try exact sd))
      have hcut:cutS N.testBit vs.length (cutL N.testBit vs.length d) (.mk k t (.mk ik iv iks) (.mk vk vv vks) c b e)=some (.mk k t (.mk ik iv iks) (.mk vk vv vks) c (cutL N.testBit vs.length d b) (cutL N.testBit vs.length d e)):=by exact hcS
      have hadd:addS N.testBit vs.length (cutL N.testBit vs.length d) (setN N.testBit vs.length d) Si (.mk k t (.mk ik iv iks) (.mk vk vv vks) c b e)=(Si ||| (setN N.testBit vs.length d b ||| setN N.testBit vs.length d e)) ||| (ov ||| oi):=by simp only [addS,hcut,Option.isSome_some,if_true,hov,hoi];simp [hk5,hk1,hk2]
      rw [hcut,Option.toList_some] at hci
      rw [hadd] at hsi2
      refine XK.plain ho1 ok45 ?_ (hbT ()) (fun _=>by kernel_rfl)
      iterate 2 ((try (refine drvZ Try.func26 ?_;simp only [go_sem]));((with_reducible and_intros)<;>try exact sd))
      refine XK.plain ho2 ok45 ?_ (hbT ()) (fun _=>by kernel_rfl)
      iterate 5 ((try (refine drvZ Try.func26 ?_;simp only [go_sem,hel]));((with_reducible and_intros)<;>try exact sd))
      refine again (i+1) (fun j=>if j=67 then some 8512 else some j) [] _ hlt (by omega) ?_
      simp only [go_sem,TmOK,DM,DMs,CM,CMs,forall_eq,exists_eq_left,Mq,HpOK,LowOK,List.cons_append,List.nil_append,hci,hsi2,stC_snoc,List.length_append]
      simp
      exact CMs.kf (kf_app (stC_kf _) (by simp [kf]))
     ·have hp1:((0:Int)<((cutL N.testBit vs.length d b).length:Int)+((cutL N.testBit vs.length d e).length:Int))=False:=eq_false (by omega)
      rw [if_neg hpos] at hcS
      iterate 6 ((try (refine drvZ Try.func26 ?_;simp only [go_sem,hp1]));((with_reducible and_intros)<;>try exact sd))
      have hcut:cutS N.testBit vs.length (cutL N.testBit vs.length d) (.mk k t (.mk ik iv iks) (.mk vk vv vks) c b e)=none:=by exact hcS
      have hadd:addS N.testBit vs.length (cutL N.testBit vs.length d) (setN N.testBit vs.length d) Si (.mk k t (.mk ik iv iks) (.mk vk vv vks) c b e)=(Si ||| (setN N.testBit vs.length d b ||| setN N.testBit vs.length d e)):=by simp only [addS,hcut,Option.isSome_none,Bool.false_eq_true,if_false];simp [hk5,hk1,hk2]
      rw [hcut,Option.toList_none,List.append_nil] at hci
      rw [hadd] at hsi2
      refine again (i+1) some [] _ hlt (by omega) ?_
      simp only [go_sem,TmOK,DM,DMs,CM,CMs,forall_eq,exists_eq_left,Mq,HpOK,LowOK,List.cons_append,List.nil_append,hci,hsi2]
      simp
      exact CMs.kf (stC_kf _)
   ·have hn2:¬ i<l.length:=by omega
    obtain rfl:i=l.length:=by omega
    refine drvL Try.func26 ?_
    simp only [go_sem,hn2,List.take_length]
    iterate 2 ((try (refine drvZ Try.func26 ?_;simp only [go_sem,hn2,List.take_length]));((with_reducible and_intros)<;>try exact sd))
    generalize hCi:cutL N.testBit vs.length (d+1) l=Ci at *
    refine RetOb.ofQ (fun j=>none) [67] (.tup [.c (.isl 11 (St1.cellsL Ci)),DI .i64 (setN N.testBit vs.length (d+1) l)]) [] ?_ (by rw [← hR];exact ⟨rfl,rfl⟩) (by simp)
    have g1:(St1.cellsL Ci).flatten=stC Ci:=by rw [St1.cellsL_eq];rfl
    have g2:∀ x ∈ St1.cellsL Ci,x.length=11:=fun x hx=>by rw [St1.cellsL_eq] at hx;obtain ⟨e,_,rfl⟩:=List.mem_map.1 hx;exact St1.cells_len e
    have g3:∀ x ∈ St1.cellsL Ci,∀ c ∈ x,kf c=true:=fun x hx=>by rw [St1.cellsL_eq] at hx;obtain ⟨e,_,rfl⟩:=List.mem_map.1 hx;exact st_kf e
    simp only [enumL,hOf,DM,DMs,CM,CMs,HpOK,LowOK,upd,St1.cellsL_length,g1]
    first | (simp;exact ⟨g2,g3⟩) | (simp [g2];exact g3) | exact ⟨g2,g3⟩
  ·simp only [go_sem,TmOK,DM,DMs,CM,CMs,forall_eq,exists_eq_left,Mq,HpOK,LowOK]
   simp [cutL,setN,stC]
def subB (a:Nat) (q:Nat→Bool):Prop:=∀ i,a.testBit i=true→q i=true
theorem subB_or {a b:Nat} {q:Nat→Bool}:subB (a ||| b) q ↔ subB a q∧subB b q:=by
 unfold subB
 constructor
 ·intro h
  exact ⟨fun i hi=>h i (by rw [Nat.testBit_or,hi,Bool.true_or]),fun i hi=>h i (by rw [Nat.testBit_or,hi,Bool.or_true])⟩
 ·rintro ⟨h1,h2⟩ i hi
  rw [Nat.testBit_or,Bool.or_eq_true] at hi
  exact hi.elim (h1 i) (h2 i)
theorem subB_zero (q:Nat→Bool):subB 0 q:=fun i h=>by simp at h
def leB (q q':Nat→Bool):Prop:=∀ i,q i=true→q' i=true
theorem cut_mono (nv:Nat) {q q':Nat→Bool} (h:leB q q'):∀ (d:Nat) (l:List St1),(0<(cutL q nv d l).length→0<(cutL q' nv d l).length)∧∀ r,subB (setN q' nv d l) r→subB (setN q nv d l) r:=by
 intro d
 induction d with
 | zero=>intro l;exact ⟨fun h=>h,fun r h=>h⟩
 | succ d ih =>
  have hS:∀ s,(cutS q nv (cutL q nv d) s).isSome=true→(cutS q' nv (cutL q' nv d) s).isSome=true:=fun s=>by
   obtain ⟨k,t,ix,v,c,b,e⟩:=s
   simp only [cutS]
   by_cases h5:k=5
   ·simp [h5]
   ·by_cases h1:k=1
    ·simp only [h5,h1,if_false,if_true]
     cases hq:q t.toNat with
     | false=>simp
     | true=>simp [h _ hq]
    ·by_cases h2:k=2
     ·simp only [h5,h1,h2,if_false,if_true]
      cases hq:q (nv+t.toNat) with
      | false=>simp
      | true=>simp [h _ hq]
     ·simp only [h5,h1,h2,if_false]
      intro hh
      have:0<(cutL q nv d b).length+(cutL q nv d e).length:=by
       by_cases h0:0<(cutL q nv d b).length+(cutL q nv d e).length
       ·exact h0
       ·rw [if_neg h0] at hh;simp at hh
      have h3:=(ih b).1
      have h4:=(ih e).1
      rw [if_pos (by omega)];rfl
  have hA:∀ s r a a',(subB a' r→subB a r)→subB (addS q' nv (cutL q' nv d) (setN q' nv d) a' s) r→subB (addS q nv (cutL q nv d) (setN q nv d) a s) r:=fun s r a a' haa=>by
   have hss:=hS s
   obtain ⟨k,t,ix,v,c,b,e⟩:=s
   simp only [addS]
   have hb:=(ih b).2 r
   have he:=(ih e).2 r
   have h1:subB (if k=5∨k=1∨k=2 then a' else a' ||| (setN q' nv d b ||| setN q' nv d e)) r→subB (if k=5∨k=1∨k=2 then a else a ||| (setN q nv d b ||| setN q nv d e)) r:=by
    split
    ·exact haa
    ·intro hh
     rw [subB_or,subB_or] at hh ⊢
     exact ⟨haa hh.1,hb hh.2.1,he hh.2.2⟩
   intro hh
   cases hc:(cutS q nv (cutL q nv d) (.mk k t ix v c b e)).isSome with
   | true =>
    rw [hss hc] at hh
    simp only [if_true] at hh ⊢
    rw [subB_or] at hh ⊢
    exact ⟨h1 hh.1,hh.2⟩
   | false =>
    simp only [Bool.false_eq_true,if_false]
    apply h1
    split at hh
    ·exact (subB_or.1 hh).1
    ·exact hh
  intro l
  refine ⟨fun hl=>?_,fun r=>?_⟩
  ·simp only [cutL] at hl ⊢
   obtain ⟨x,hx⟩:=List.exists_mem_of_length_pos hl
   obtain ⟨s,hs,he⟩:=List.mem_filterMap.1 hx
   have:=hS s (by rw [he];rfl)
   obtain ⟨y,hy⟩:=Option.isSome_iff_exists.1 this
   exact List.length_pos_of_mem (List.mem_filterMap.2 ⟨s,hs,hy⟩)
  ·simp only [setN]
   have gen:∀ (l:List St1) (a a':Nat),(subB a' r→subB a r)→subB (l.foldl (addS q' nv (cutL q' nv d) (setN q' nv d)) a') r→subB (l.foldl (addS q nv (cutL q nv d) (setN q nv d)) a) r:=fun l=>by
    induction l with
    | nil=>intro a a' h;exact h
    | cons s t iht=>intro a a' h;exact iht _ _ (hA s r a a' h)
   exact gen l 0 0 (fun h=>h)
structure Least (p : Pg) (ws : List Bool) (q : Nat → Bool) : Prop where
 want:∀ i,ws.getD i false=true→q i=true
 closed:subB (setN q p.vars.length 5 p.body) q
 least:∀ q':Nat→Bool,(∀ i,ws.getD i false=true→q' i=true)→subB (setN q' p.vars.length 5 p.body) q'→leB q q'
theorem Least.eq {p:Pg} {ws:List Bool} {q q':Nat→Bool} (h:Least p ws q) (h':Least p ws q'):q=q':=funext fun i=>by
 have h1:=h.least q' h'.want h'.closed i
 have h2:=h'.least q h.want h.closed i
 cases ha:q i<;>cases hb:q' i<;>simp_all
def accN (ws : List Bool) : Nat → Nat
 | 0=>0
 | i+1=>accN ws i ||| (if ws.getD i false then 1 else 0) * 2 ^ i
theorem accN_bit (ws : List Bool) : ∀ (i j : Nat), (accN ws i).testBit j = (decide (j < i) && ws.getD j false)
 | 0,j=>by simp [accN]
 | i+1,j=>by
  rw [accN,Nat.testBit_or,accN_bit ws i j]
  have hb:((if ws.getD i false then 1 else 0) * 2 ^ i).testBit j=(ws.getD i false && decide (i=j)):=by
   cases hw:ws.getD i false with
   | true=>simp [Nat.testBit_two_pow]
   | false=>simp
  rw [hb]
  by_cases h1:j<i
  ·have:¬ i=j:=by omega
   simp [h1,this,show j<i+1 by omega]
  ·by_cases h2:i=j
   ·subst h2;simp
   ·simp [h1,h2,show ¬ j<i+1 by omega]
theorem accN_lt (ws : List Bool) : ∀ i, i ≤ 14 → accN ws i < 16384
 | 0,_=>by simp [accN]
 | i+1,h=>by
  rw [accN]
  refine or_lt (accN_lt ws i (by omega)) ?_
  have:=pow14 (show i<14 by omega)
  split<;>omega
def slP (p:Pg) (q:Nat→Bool):Pg:=⟨p.vars,p.arrays,cutL q p.vars.length 5 p.body⟩
def sliR (p:Pg) (ws:List Bool) (r:D) (h:List (Option (List C))):Prop :=
 h = [] ∧ (((progOK p && decide (ws.length = p.vars.length + p.arrays.length)) = true ∧ ∃ q, Least p ws q ∧ r = .tup [.agg (Pg.cells (slP p q)), DB true]) ∨
  ((progOK p && decide (ws.length=p.vars.length+p.arrays.length))=false∧r = .tup [.agg (Pg.cells ⟨[],[],[]⟩),DB false]))
theorem setN_le (p:Pg) (h:progOK p=true) (q:Nat→Bool):setN q p.vars.length 5 p.body<16384:=setN_lt (by have:=prog_len h;omega) 5 p.body (body_of h).1
end Go.Proofs.Ytlapccpnilomfaa.CtD
namespace Go.Proofs.Ytlapccpnilomfaa.CtR
end Go.Proofs.Ytlapccpnilomfaa.CtR
namespace Go.Proofs.Ytlapccpnilomfaa.CtD
open Go Go.CT CtF CtR
variable [Yn]
end Go.Proofs.Ytlapccpnilomfaa.CtD
namespace Go.Proofs.Ytlapccpnilomfaa.CtR
end Go.Proofs.Ytlapccpnilomfaa.CtR
namespace Go.Proofs.Ytlapccpnilomfaa.CtD
open Go Go.CT CtF CtR
variable [Yn]
def usesL (nv : Nat) : Nat → Ex → List Bool → List Bool
 | 0,_,L=>L
 | d+1,.mk k v ks,L=>ks.foldl (fun L x=>usesL nv d x L) (if k=2 then L.set v.toNat true else if k=3 then L.set (nv+v.toNat) true else L)
theorem usesL_len (nv : Nat) : ∀ (d : Nat) (e : Ex) (L : List Bool), (usesL nv d e L).length = L.length
 | 0,_,L=>rfl
 | d+1,.mk k v ks,L=>by
  have gen:∀ (ks:List Ex) (L:List Bool),(ks.foldl (fun L x=>usesL nv d x L) L).length=L.length:=fun ks=>by
   induction ks with
   | nil=>intro L;rfl
   | cons a r ih=>intro L;rw [List.foldl_cons,ih,usesL_len nv d a L]
  simp only [usesL]
  rw [gen]
  split
  ·simp
  ·split<;>simp
theorem usesS (p:Pg) (hn:p.vars.length+p.arrays.length≤14):∀ (d:Nat) (e:Ex) (L:List Bool),CtR.shape p d e=true→L.length=p.vars.length+p.arrays.length →
 DC Try.prog 39 [.agg p.cells,.agg e.cells,.c (.msl 0 1 0 L.length)] [some (boolsC L)] (fun r h=>r = .tup []∧h=[some (boolsC (usesL p.vars.length d e L))]):=by
 have hmx:=mx_eq
 intro d
 induction d with
 | zero=>intro e L h;simp [CtR.shape] at h
 | succ d ih =>
  intro e L hsh hL
  obtain ⟨k,v,ks⟩:=e
  obtain ⟨g1,g2,g3⟩:=shape_succ hsh
  obtain ⟨hl3,hla,hv0,hv1⟩:=fits_len g1
  have hlim:k=2→v<p.vars.length:=fun hk=>by subst hk;simpa [limit] using hv1
  have hlim3:k=3→v<p.arrays.length:=fun hk=>by subst hk;simpa [limit] using hv1
  obtain ⟨vs,ar,bd⟩:=p
  have hn:vs.length+ar.length≤14:=hn
  have hL:L.length=vs.length+ar.length:=hL
  simp only at hlim hlim3 ih
  generalize hR:(fun (r:D) (h:List (Option (List C)))=>r = .tup []∧h=[some (boolsC (usesL vs.length (d+1) (.mk k v ks) L))])=R
  obtain ⟨M,hM⟩:∃ M,M=(if k=2 then L.set v.toNat true else if k=3 then L.set (vs.length+v.toNat) true else L):=⟨_,rfl⟩
  have hMl:M.length=L.length:=by rw [hM];split<;>(try split)<;>simp
  have hres:usesL vs.length (d+1) (.mk k v ks) L=ks.foldl (fun L x=>usesL vs.length d x L) M:=by rw [hM];rfl
  have hfl:∀ i,((ks.take i).foldl (fun L x=>usesL vs.length d x L) M).length=L.length:=fun i=>by
   rw [← hMl]
   generalize ks.take i=l
   have gen:∀ (l:List Ex) (L:List Bool),(l.foldl (fun L x=>usesL vs.length d x L) L).length=L.length:=fun l=>by
    induction l with
    | nil=>intro L;rfl
    | cons a r ih=>intro L;rw [List.foldl_cons,ih,usesL_len]
   exact gen l M
  have hfs:∀ i x,ks[i]? = some x→(ks.take (i+1)).foldl (fun L x=>usesL vs.length d x L) M=usesL vs.length d x ((ks.take i).foldl (fun L x=>usesL vs.length d x L) M):=fun i x h=>by
   rw [List.take_add_one,h];simp
  have hbl:=boolsC_len L
  have hMb:boolsC M=boolsC (if k=2 then L.set v.toNat true else if k=3 then L.set (vs.length+v.toNat) true else L):=by rw [hM]
  rw [hres] at hR
  have key:k=2∨k=3∨(k ≠ 2∧k ≠ 3):=by omega
  rcases key with hk | hk | ⟨hk2,hk3⟩
  ·have hv2:=hlim hk
   have e2:(k == 2)=true:=by simp [hk]
   have f2:(k=2)=True:=by simp [hk]
   have e3:(k == 3)=false:=by simp [hk]
   have f3:(k=3)=False:=by simp [hk]
   refine dcZ Try.func39 ?_
   simp only [go_sem,e2,f2,e3,f3]
   iterate 4 ((try (refine drvZ Try.func39 ?_;simp only [go_sem,e2,f2,e3,f3,boolsC_set,hbl]));((with_reducible and_intros)<;>try exact sd))
   refine Go.loopQ (fun i : Nat => [(2, .c (.msl 0 1 0 L.length)), (3, .c (.ptr 1 0)), (4, .c (.ptr 65 0)), (6, DI .i64 i)])
    (fun i=>[(0,some (boolsC ((ks.take i).foldl (fun L x=>usesL vs.length d x L) M))),(1,some (Pg.cells ⟨vs,ar,bd⟩)),(65,some (Ex.cells (.mk k v ks)))])
    4096 (fun i=>i≤ks.length) (fun i=>ks.length - i) ?_ 0 some [] _ (Nat.zero_le _) ?_
   ·intro i hi again
    have hfi:=hfl i
    rcases Nat.lt_or_ge i ks.length with hlt | hge
    ·obtain ⟨⟨k',v',ks'⟩,hx⟩:∃ x,ks[i]? = some x:=⟨ks[i],by simp [hlt]⟩
     have hsc:=hfs i _ hx
     generalize (ks.take i).foldl (fun L x=>usesL vs.length d x L) M=acc at *
     have hih:=ih (.mk k' v' ks') acc (g2 _ (List.mem_of_getElem? hx)) (by omega)
     rw [hfi] at hih
     refine drvL Try.func39 ?_
     simp only [go_sem,hx,hlt]
     iterate 2 ((try (refine drvZ Try.func39 ?_;simp only [go_sem,hx,hlt]));((with_reducible and_intros)<;>try exact sd))
     refine XK.callG [0] hih ok39 (hhp_one (by simp [hOf,upd,boolsC_ren])) (hbT ()) (fun d h' ⟨_,e⟩=>by subst e;simp) ?_ (fun _=>⟨by kernel_rfl,_,_,⟨rfl,rfl⟩,by simp⟩)
     rintro _ _ ⟨rfl,rfl⟩ _
     iterate 3 ((try (refine drvZ Try.func39 ?_;simp only [go_sem,hx,hlt,boolsC_ren]));((with_reducible and_intros)<;>try exact sd))
     refine again (i+1) some [] _ hlt (by omega) ?_
     simp only [go_sem,TmOK,DM,DMs,CM,CMs,forall_eq,exists_eq_left,Mq,HpOK,LowOK,hsc]
     simp
     exact CMs.kf (boolsC_kf _)
    ·have hn2:¬ i<ks.length:=by omega
     obtain rfl:i=ks.length:=by omega
     refine drvL Try.func39 ?_
     simp only [go_sem,hn2,List.take_length]
     iterate 2 ((try (refine drvZ Try.func39 ?_;simp only [go_sem,hn2,List.take_length]));((with_reducible and_intros)<;>try exact sd))
     refine RetOb.ofQ some [] (.tup []) [some (boolsC (ks.foldl (fun L x=>usesL vs.length d x L) M))] ?_ (by rw [← hR];exact ⟨rfl,rfl⟩) (by simp)
     simp [enumL,DM,DMs,HpOK,LowOK,hOf,upd]
     exact CMs.kf (boolsC_kf _)
   ·simp only [go_sem,TmOK,DM,DMs,CM,CMs,forall_eq,exists_eq_left,Mq,HpOK,LowOK,List.take_zero,List.foldl_nil,hM,f2,if_true]
    simp
    exact CMs.kf (boolsC_kf _)
  ·have hv2:=hlim3 hk
   have e2:(k == 2)=false:=by simp [hk]
   have f2:(k=2)=False:=by simp [hk]
   have e3:(k == 3)=true:=by simp [hk]
   have f3:(k=3)=True:=by simp [hk]
   have hpos:((vs.length:Int)+v).toNat=vs.length+v.toNat:=by omega
   refine dcZ Try.func39 ?_
   simp only [go_sem,e2,f2,e3,f3]
   iterate 4 ((try (refine drvZ Try.func39 ?_;simp only [go_sem,e2,f2,e3,f3,boolsC_set,hbl,hpos]));((with_reducible and_intros)<;>try exact sd))
   refine Go.loopQ (fun i : Nat => [(2, .c (.msl 0 1 0 L.length)), (3, .c (.ptr 1 0)), (4, .c (.ptr 65 0)), (6, DI .i64 i)])
    (fun i=>[(0,some (boolsC ((ks.take i).foldl (fun L x=>usesL vs.length d x L) M))),(1,some (Pg.cells ⟨vs,ar,bd⟩)),(65,some (Ex.cells (.mk k v ks)))])
    4096 (fun i=>i≤ks.length) (fun i=>ks.length - i) ?_ 0 some [] _ (Nat.zero_le _) ?_
   ·intro i hi again
    have hfi:=hfl i
    rcases Nat.lt_or_ge i ks.length with hlt | hge
    ·obtain ⟨⟨k',v',ks'⟩,hx⟩:∃ x,ks[i]? = some x:=⟨ks[i],by simp [hlt]⟩
     have hsc:=hfs i _ hx
     generalize (ks.take i).foldl (fun L x=>usesL vs.length d x L) M=acc at *
     have hih:=ih (.mk k' v' ks') acc (g2 _ (List.mem_of_getElem? hx)) (by omega)
     rw [hfi] at hih
     refine drvL Try.func39 ?_
     simp only [go_sem,hx,hlt]
     iterate 2 ((try (refine drvZ Try.func39 ?_;simp only [go_sem,hx,hlt]));((with_reducible and_intros)<;>try exact sd))
     refine XK.callG [0] hih ok39 (hhp_one (by simp [hOf,upd,boolsC_ren])) (hbT ()) (fun d h' ⟨_,e⟩=>by subst e;simp) ?_ (fun _=>⟨by kernel_rfl,_,_,⟨rfl,rfl⟩,by simp⟩)
     rintro _ _ ⟨rfl,rfl⟩ _
     iterate 3 ((try (refine drvZ Try.func39 ?_;simp only [go_sem,hx,hlt,boolsC_ren]));((with_reducible and_intros)<;>try exact sd))
     refine again (i+1) some [] _ hlt (by omega) ?_
     simp only [go_sem,TmOK,DM,DMs,CM,CMs,forall_eq,exists_eq_left,Mq,HpOK,LowOK,hsc]
     simp
     exact CMs.kf (boolsC_kf _)
    ·have hn2:¬ i<ks.length:=by omega
     obtain rfl:i=ks.length:=by omega
     refine drvL Try.func39 ?_
     simp only [go_sem,hn2,List.take_length]
     iterate 2 ((try (refine drvZ Try.func39 ?_;simp only [go_sem,hn2,List.take_length]));((with_reducible and_intros)<;>try exact sd))
     refine RetOb.ofQ some [] (.tup []) [some (boolsC (ks.foldl (fun L x=>usesL vs.length d x L) M))] ?_ (by rw [← hR];exact ⟨rfl,rfl⟩) (by simp)
     simp [enumL,DM,DMs,HpOK,LowOK,hOf,upd]
     exact CMs.kf (boolsC_kf _)
   ·simp only [go_sem,TmOK,DM,DMs,CM,CMs,forall_eq,exists_eq_left,Mq,HpOK,LowOK,List.take_zero,List.foldl_nil,hM,f2,f3,if_true,if_false]
    simp
    exact CMs.kf (boolsC_kf _)
  ·have e2:(k == 2)=false:=by simp [hk2]
   have e3:(k == 3)=false:=by simp [hk3]
   refine dcZ Try.func39 ?_
   simp only [go_sem,hk2,hk3,e2,e3]
   iterate 4 ((try (refine drvZ Try.func39 ?_;simp only [go_sem,hk2,hk3,e2,e3]));((with_reducible and_intros)<;>try exact sd))
   refine Go.loopQ (fun i : Nat => [(2, .c (.msl 0 1 0 L.length)), (3, .c (.ptr 1 0)), (4, .c (.ptr 65 0)), (6, DI .i64 i)])
    (fun i=>[(0,some (boolsC ((ks.take i).foldl (fun L x=>usesL vs.length d x L) M))),(1,some (Pg.cells ⟨vs,ar,bd⟩)),(65,some (Ex.cells (.mk k v ks)))])
    4096 (fun i=>i≤ks.length) (fun i=>ks.length - i) ?_ 0 some [] _ (Nat.zero_le _) ?_
   ·intro i hi again
    have hfi:=hfl i
    rcases Nat.lt_or_ge i ks.length with hlt | hge
    ·obtain ⟨⟨k',v',ks'⟩,hx⟩:∃ x,ks[i]? = some x:=⟨ks[i],by simp [hlt]⟩
     have hsc:=hfs i _ hx
     generalize (ks.take i).foldl (fun L x=>usesL vs.length d x L) M=acc at *
     have hih:=ih (.mk k' v' ks') acc (g2 _ (List.mem_of_getElem? hx)) (by omega)
     rw [hfi] at hih
     refine drvL Try.func39 ?_
     simp only [go_sem,hx,hlt]
     iterate 2 ((try (refine drvZ Try.func39 ?_;simp only [go_sem,hx,hlt]));((with_reducible and_intros)<;>try exact sd))
     refine XK.callG [0] hih ok39 (hhp_one (by simp [hOf,upd,boolsC_ren])) (hbT ()) (fun d h' ⟨_,e⟩=>by subst e;simp) ?_ (fun _=>⟨by kernel_rfl,_,_,⟨rfl,rfl⟩,by simp⟩)
     rintro _ _ ⟨rfl,rfl⟩ _
     iterate 3 ((try (refine drvZ Try.func39 ?_;simp only [go_sem,hx,hlt,boolsC_ren]));((with_reducible and_intros)<;>try exact sd))
     refine again (i+1) some [] _ hlt (by omega) ?_
     simp only [go_sem,TmOK,DM,DMs,CM,CMs,forall_eq,exists_eq_left,Mq,HpOK,LowOK,hsc]
     simp
     exact CMs.kf (boolsC_kf _)
    ·have hn2:¬ i<ks.length:=by omega
     obtain rfl:i=ks.length:=by omega
     refine drvL Try.func39 ?_
     simp only [go_sem,hn2,List.take_length]
     iterate 2 ((try (refine drvZ Try.func39 ?_;simp only [go_sem,hn2,List.take_length]));((with_reducible and_intros)<;>try exact sd))
     refine RetOb.ofQ some [] (.tup []) [some (boolsC (ks.foldl (fun L x=>usesL vs.length d x L) M))] ?_ (by rw [← hR];exact ⟨rfl,rfl⟩) (by simp)
     simp [enumL,DM,DMs,HpOK,LowOK,hOf,upd]
     exact CMs.kf (boolsC_kf _)
   ·simp only [go_sem,TmOK,DM,DMs,CM,CMs,forall_eq,exists_eq_left,Mq,HpOK,LowOK,List.take_zero,List.foldl_nil,hM,hk2,hk3,if_false]
    simp
    exact CMs.kf (boolsC_kf _)
end Go.Proofs.Ytlapccpnilomfaa.CtD
