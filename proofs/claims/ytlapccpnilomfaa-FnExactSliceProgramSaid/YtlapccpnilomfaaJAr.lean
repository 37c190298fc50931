/- Contracts of functions of the program, one behind the other, as plain data: what each call returns and which blocks it leaves. -/
import Derived.Test.YtlapccpnilomfaaJFacts
import Derived.Test.YtlapccpnilomfaaJAp
import Derived.Test.YtlapccpnilomfaaJAq
import Derived.Test.YtlapccpnilomfaaJAn
import Derived.Test.YtlapccpnilomfaaJAo
set_option linter.unusedVariables false
set_option linter.unusedSimpArgs false
set_option linter.unusedSectionVars false
set_option maxHeartbeats 16000000
set_option maxRecDepth 100000
namespace Go.Proofs.Ytlapccpnilomfaa.CtR
open Go Go.CT CtF
variable [Yn]
theorem body_of {p:Pg} (h:progOK p=true):(∀ s ∈ p.body,stmtOK p 5 s=true)∧lsize 5 p.body≤60:=by
 simp only [progOK,Bool.and_eq_true,decide_eq_true_eq,List.all_eq_true] at h
 exact ⟨h.1.2,by omega⟩
def trD (tr:List Ev):C := .isl 2 (tr.map Ev.cells)
theorem RetOb.step {m : Nat} {R : D → List (Option (List C)) → Prop} {d : D} {hp : Hp} (r : Nat → Option Nat) (fz : List Nat) (d' : D) (hl : List (Nat × Option (List C)))
 (hM:DM (hOf hl) r hp fz d' d∧HpOK (hOf hl) r hp fz hl∧LowOK r (hOf hl) m∧((hl.filterMap fun p=>p.2.map fun _=>p.1).filterMap r).Nodup) (hn:RetOb m R d' (hOf hl)):RetOb m R d hp:=fun I w s v H hv=>by
 have h:Mq m r fz [] hl ⟨fun _=>none,hp,0⟩:=⟨trivial,hM.2.1,hM.2.2.1,hM.2.2.2⟩
 obtain ⟨H',E'⟩:=h.subH.sim H
 obtain ⟨I',s',d2,h2,g1,g2,g3,g4,g5⟩:=hn _ w _ v H' (DM.rd H d' d hM.1 hv)
 exact ⟨I',s',d2,h2,g1,g2,g3,E'.trans g4,g5⟩
theorem RetOb.run {R : D → List (Option (List C)) → Prop} {p : Pg} {m : Mm} {tr : List Ev} {ok : Bool} {hp : Hp} {k0 k1 k2 k3 kt n : Nat} {cs : List C} (hm : MemFits p m) (hR : R (.tup [.agg m.cells, .c (trD tr), DB ok]) [])
 (h0:hp k0=some (some (m.vals.map I64))) (h1:hp k1=some (some (hdr k2 k3 p.arrays.length))) (h2:hp k2=some (some (blk0 m.arrays))) (h3:hp k3=some (some (blk1 m.arrays))) (ht:hp kt=some (some cs)) (hcs:cs=trC tr) (hn:n=tr.length)
 (hne:k0 ≠ k1∧k0 ≠ k2∧k0 ≠ k3∧k1 ≠ k2∧k1 ≠ k3∧k2 ≠ k3∧kt ≠ k0∧kt ≠ k1∧kt ≠ k2∧kt ≠ k3):RetOb 0 R (.tup [.agg [.msl k0 1 0 p.vars.length,.msl k1 1 0 p.arrays.length],.c (.msl kt 2 0 n),DB ok]) hp:=by
 subst hcs hn
 obtain ⟨va,arr⟩:=m
 have hnv:va.length=p.vars.length:=hm.nv
 have hna:arr.length=p.arrays.length:=hm.na
 have hna2:=hm.na2
 have h4:∀ a ∈ arr,a.length=4:=fun a ha=>(hm.arr a ha).1
 obtain ⟨n01,n02,n03,n12,n13,n23,nt0,nt1,nt2,nt3⟩:=hne
 rw [← hnv,← hna]
 rw [← hna] at h1 hna2
 refine RetOb.step (fun j=>if j=0 then some k0 else if j=1 then some k1 else if j=2 then some kt else none) [k2,k3] (.tup [.agg [.msl 0 1 0 va.length,.msl 1 1 0 arr.length],.c (.msl 2 2 0 tr.length),DB ok]) [(0,some (va.map I64)),(1,some (arr.map isI)),(2,some (trC tr))] ?_ ?_
 ·have e3:∀ a:List Int,(a.map fun n=>[C.v (.int .i64 n)]).flatten=a.map I64:=fun a=>flat1 _ a
  match arr,hna2,h4,h1,h2,h3 with
  | [],_,h4,h1,h2,h3=>simp [DM,DMs,CM,CMs,HpOK,LowOK,hOf,upd,h0,ht,CMs_I,CMs_tr,h1,hdr,n01,n02,n03,n12,n13,n23,nt0,nt1,nt2,nt3,Ne.symm n01,Ne.symm nt0,Ne.symm nt1,Ne.symm n23]
  | [a],_,h4,h1,h2,h3 =>
   have ha:=h4 a (by simp)
   simp [DM,DMs,CM,CMs,HpOK,LowOK,hOf,upd,h0,ht,CMs_I,CMs_tr,h1,h2,hdr,n01,n02,n03,n12,n13,n23,nt0,nt1,nt2,nt3,Ne.symm n01,Ne.symm nt0,Ne.symm nt1,Ne.symm n23,e3,isI,ha,blk0,kf]
  | [a,b],_,h4,h1,h2,h3 =>
   have ha:=h4 a (by simp)
   have hb:=h4 b (by simp)
   simp [DM,DMs,CM,CMs,HpOK,LowOK,hOf,upd,h0,ht,CMs_I,CMs_tr,h1,h2,h3,hdr,n01,n02,n03,n12,n13,n23,nt0,nt1,nt2,nt3,Ne.symm n01,Ne.symm nt0,Ne.symm nt1,Ne.symm n23,e3,isI,ha,hb,blk0,blk1,kf]
 ·refine RetOb.ofQ (fun _=>none) [0,1,2] _ [] ⟨?_,trivial,trivial,by simp [enumL]⟩ hR (Nat.zero_le _)
  have e4:∀ l:List (List Int),(l.map fun a=>[C.isl 1 (a.map fun n=>[I64 n])]).flatten=l.map isI:=fun l=>flat1 _ l
  have e5:(tr.map Ev.cells).flatten=trC tr:=rfl
  simp [DM,DMs,CM,CMs,hOf,upd,Mm.cells,isI,trD,flat_I,kf,e5]
  exact ⟨(flat1 isI arr).symm,fun a _=>rfl,fun a _ c hc=>by
   simp only [Ev.cells,List.mem_cons,List.not_mem_nil,or_false] at hc
   rcases hc with rfl | rfl<;>rfl⟩
end Go.Proofs.Ytlapccpnilomfaa.CtR
namespace Go.Proofs.Ytlapccpnilomfaa.CtD
open Go Go.CT CtF
variable [Yn]
end Go.Proofs.Ytlapccpnilomfaa.CtD
namespace Go.Proofs.Ytlapccpnilomfaa.CtR
end Go.Proofs.Ytlapccpnilomfaa.CtR
namespace Go.Proofs.Ytlapccpnilomfaa.CtD
open Go Go.CT CtF CtR
variable [Yn]
def AtomE (e:Ex):Prop:=∃ k v,e = .mk k v []∧InK .i64 v∧(k=1∨k=2)
inductive SmE : Ex → Prop
 | mk (k v:Int) (ks:List Ex) (h:ks.length≤3) (h2:∀ x ∈ ks,SmE x):SmE (.mk k v ks)
theorem SmE.atom {e:Ex} (h:AtomE e):SmE e:=by
 obtain ⟨k,v,rfl,_,_⟩:=h
 exact .mk k v [] (by simp) (fun x hx=>by simp at hx)
def exC (l:List Ex):List C:=(l.map Ex.cells).flatten
theorem exC_len (l:List Ex):(exC l).length=l.length * 3:=by
 unfold exC
 induction l with
 | nil=>rfl
 | cons a r ih=>simp only [List.map_cons,List.flatten_cons,List.length_append,ih,Ex.cells_len,List.length_cons];omega
theorem ex_kf (e:Ex):∀ c ∈ e.cells,kf c=true:=by cases e;simp [Ex.cells,kf]
theorem exC_kf (l:List Ex):∀ c ∈ exC l,kf c=true:=by
 unfold exC
 intro c hc
 obtain ⟨x,hx,hc⟩:=List.mem_flatten.1 hc
 obtain ⟨e,_,rfl⟩:=List.mem_map.1 hx
 exact ex_kf e c hc
theorem exC_snoc (l:List Ex) (e:Ex):exC (l++[e])=exC l++e.cells:=by simp [exC]
theorem hhp2 {hp:Hp} {r:Nat→Nat} {k0 k1:Nat} {h0 h1:Option (List C)} (e0:hp k0=some (h0.map (renCs r))) (e1:hp k1=some (h1.map (renCs r))):∀ i' x,[h0,h1][i']? = some x→hp ([k0,k1].getD i' 0)=some (x.map (renCs r)):=by
 intro i' x hx
 match i',hx with
 | 0,hx=>simp only [List.getElem?_cons_zero,Option.some.injEq] at hx;subst hx;exact e0
 | 1,hx=>simp only [List.getElem?_cons_succ,List.getElem?_cons_zero,Option.some.injEq] at hx;subst hx;exact e1
 | i' + 2,hx=>simp at hx
theorem l2CopyExpr (e:Ex) (he:SmE e):DC Try.prog 40 [.agg e.cells] [] (fun r h=>r = .agg e.cells∧h=[]):=by
 have hmx:=mx_eq
 induction he with
 | mk k v ks hlen hall ih =>
  refine dcZ Try.func40 ?_
  simp only [go_sem]
  iterate 2 (try (refine drvZ Try.func40 ?_;simp only [go_sem]))
  refine Go.loopQ (fun i : Nat => [(1, .c (.ptr 0 0)), (2, .c (.ptr 64 0)), (3, .c (.ptr 66 0)), (4, DI .i64 i)])
   (fun i=>[(0,some (Ex.cells (.mk k v ks))),(64,some [I64 0,I64 0,.v (.slice none 0 0)]),(66,some [I64 k,I64 v,.msl 67 3 0 i]),(67,some (exC (ks.take i)))])
   4096 (fun i=>i≤ks.length) (fun i=>ks.length - i) ?_ 0 (fun j=>if j=66 then some 448 else if j=67 then none else some j) [] _ (Nat.zero_le _) ?_
  ·intro i hi again
   rcases Nat.lt_or_ge i ks.length with hlt | hge
   ·obtain ⟨⟨k',v',ks'⟩,hx⟩:∃ x,ks[i]? = some x:=⟨ks[i],by simp [hlt]⟩
    have hsx:ks.take (i+1)=ks.take i++[.mk k' v' ks']:=by rw [List.take_add_one,hx];rfl
    have hel:(exC (ks.take i)).length=i * 3:=by rw [exC_len,List.length_take];congr 1;omega
    refine drvL Try.func40 ?_
    simp only [go_sem,hx,hlt]
    (with_reducible and_intros)<;>try exact sd
    iterate 2 (try (refine drvZ Try.func40 ?_;simp only [go_sem,hx,hlt]))
    (with_reducible and_intros)<;>try exact sd
    refine XK.plain (ih _ (List.mem_of_getElem? hx)) ok40 ?_ (hbT ()) (fun _=>by kernel_rfl)
    iterate 3 (try (refine drvZ Try.func40 ?_;simp only [go_sem,hx,hlt]))
    (with_reducible and_intros)<;>try exact sd
    iterate 2 (try (refine drvZ Try.func40 ?_;simp only [go_sem,hx,hlt]))
    (with_reducible and_intros)<;>try exact sd
    refine again (i+1) (fun j=>if j=67 then some 4992 else some j) [] _ hlt (by omega) ?_
    simp only [go_sem,TmOK,DM,DMs,CM,CMs,forall_eq,exists_eq_left,Mq,HpOK,LowOK,hsx,exC_snoc]
    simp
    exact CMs.kf (kf_app (exC_kf _) (by simp [kf]))
   ·have hn:¬ i<ks.length:=by omega
    obtain rfl:i=ks.length:=by omega
    refine drvL Try.func40 ?_
    simp only [go_sem,hn,List.take_length]
    iterate 2 (try (refine drvZ Try.func40 ?_;simp only [go_sem,hn,List.take_length]))
    refine RetOb.ofQ (fun j=>none) [67] (.agg (Ex.cells (.mk k v ks))) [] ?_ ⟨rfl,rfl⟩ (by simp)
    have g1:(Ex.cellsL ks).flatten=exC ks:=by rw [Ex.cellsL_eq];rfl
    have g2:∀ x ∈ Ex.cellsL ks,x.length=3:=fun x hx=>by rw [Ex.cellsL_eq] at hx;obtain ⟨e,_,rfl⟩:=List.mem_map.1 hx;exact Ex.cells_len e
    have g3:∀ x ∈ Ex.cellsL ks,∀ c ∈ x,kf c=true:=fun x hx=>by rw [Ex.cellsL_eq] at hx;obtain ⟨e,_,rfl⟩:=List.mem_map.1 hx;exact ex_kf e
    simp only [enumL,hOf,DM,DMs,CM,CMs,HpOK,LowOK,upd,Ex.cells,Ex.cellsL_length,g1]
    first | (simp;exact ⟨g2,g3⟩) | (simp [g2];exact g3) | exact ⟨g2,g3⟩
  ·simp only [go_sem,TmOK,DM,DMs,CM,CMs,forall_eq,exists_eq_left,Mq,HpOK,LowOK]
   simp [exC]
def stC (l:List St1):List C:=(l.map St1.cells).flatten
theorem stC_len (l:List St1):(stC l).length=l.length * 11:=by
 unfold stC
 induction l with
 | nil=>rfl
 | cons a r ih=>simp only [List.map_cons,List.flatten_cons,List.length_append,ih,St1.cells_len,List.length_cons];omega
theorem st_kf (s:St1):∀ c ∈ s.cells,kf c=true:=by
 obtain ⟨k,t,ix,v,c,b,e⟩:=s
 intro x hx
 simp only [St1.cells,List.mem_append,List.mem_cons,List.not_mem_nil,or_false] at hx
 rcases hx with ((hx | hx) | hx) | hx
 ·rcases hx with rfl | rfl<;>rfl
 ·exact ex_kf _ _ hx
 ·exact ex_kf _ _ hx
 ·rcases hx with rfl | rfl | rfl<;>rfl
theorem stC_kf (l:List St1):∀ c ∈ stC l,kf c=true:=by
 unfold stC
 intro c hc
 obtain ⟨x,hx,hc⟩:=List.mem_flatten.1 hc
 obtain ⟨e,_,rfl⟩:=List.mem_map.1 hx
 exact st_kf e c hc
theorem stC_snoc (l:List St1) (s:St1):stC (l++[s])=stC l++s.cells:=by simp [stC]
def KS : Nat → Nat
 | 0=>1200
 | d+1=>1200+8 * KS d
theorem SmE.any {k v k' v':Int} {ks:List Ex} (h:SmE (.mk k v ks)):SmE (.mk k' v' ks):=by
 cases h with | mk _ _ _ h h2=>exact .mk _ _ _ h h2
end Go.Proofs.Ytlapccpnilomfaa.CtD
namespace Go.Proofs.Ytlapccpnilomfaa.CtR
open Go Go.CT CtF
variable [Yn]
structure Lv where
 vars:Sl
 arrays:Sl
 body:Sl
def Lv.cells (p:Lv):List C:=[p.vars.c,p.arrays.c,p.body.c]
attribute [go_sem] Lv.cells
end Go.Proofs.Ytlapccpnilomfaa.CtR
namespace Go.Proofs.Ytlapccpnilomfaa.CtD
open Go Go.CT CtF CtR
variable [Yn]
theorem prog_len {p:Pg} (h:progOK p=true):1≤p.vars.length∧p.vars.length≤12∧p.arrays.length≤2:=by
 simp only [progOK,headsOK,Bool.and_eq_true,decide_eq_true_eq] at h
 obtain ⟨⟨⟨⟨⟨_,h1⟩,h2⟩,h3⟩,_⟩,_⟩:=h
 omega
end Go.Proofs.Ytlapccpnilomfaa.CtD
namespace Go.Proofs.Ytlapccpnilomfaa.CtR
open Go Go.CT CtF
variable [Yn]
theorem RetOb.two {R:D→List (Option (List C))→Prop} {a b:Int} {hp:Hp} (h:R (.tup [DI .i64 a,DI .i64 b]) []):RetOb 0 R (.tup [DI .i64 a,DI .i64 b]) hp :=
 RetOb.ofQ (fun _=>none) [] (.tup [DI .i64 a,DI .i64 b]) [] (by simp [enumL,DM,DMs,CM,HpOK,LowOK]) h (by simp)
abbrev BC (b:Bool):C := .v (.bool b)
def boolsC (bs:List Bool):List C:=bs.map BC
def boolsD (bs:List Bool):C := .isl 1 (bs.map fun b=>[BC b])
theorem boolsC_kf (bs:List Bool):∀ c ∈ boolsC bs,kf c=true:=by
 intro c hc;obtain ⟨x,_,rfl⟩:=List.mem_map.1 hc;rfl
theorem boolsC_set (bs:List Bool) (i:Nat) (b:Bool):(boolsC bs).set i (.v (.bool b))=boolsC (bs.set i b):=by
 unfold boolsC;rw [List.map_set]
theorem boolsC_len (bs:List Bool):(boolsC bs).length=bs.length:=by simp [boolsC]
theorem boolsC_ren (r:Nat→Nat) (bs:List Bool):renCs r (boolsC bs)=boolsC bs:=by
 induction bs with
 | nil=>rfl
 | cons a r' ih=>simp only [boolsC,List.map_cons,renCs,renC] at ih ⊢;rw [ih]
theorem boolsC_flat (bs:List Bool):(bs.map fun b=>[BC b]).flatten=boolsC bs:=flat1 _ _
theorem cellI (p:Pg) (a:Int) (hl:p.vars.length≤mx) (ha:0≤a∧a≤1000):DC Try.prog 44 [.agg p.cells,DI .i64 a] [] (fun r h=>r=DI .i64 (p.vars.length+a)∧h=[]):=by
 have hmx:=mx_eq
 obtain ⟨vs,ar,bd⟩:=p
 have hl:vs.length≤mx:=hl
 refine dcZ Try.func44 ?_
 simp only [go_sem]
 iterate 2 ((try (refine drvZ Try.func44 ?_;simp only [go_sem]));((with_reducible and_intros)<;>try exact sd))
 exact RetOb.plain (d:=DI .i64 _) ⟨rfl,rfl⟩ rfl
theorem cellsI (p:Pg) (hl:p.vars.length≤mx) (hl2:p.arrays.length≤mx):DC Try.prog 24 [.agg p.cells] [] (fun r h=>r=DI .i64 ((p.vars.length+p.arrays.length:Nat):Int)∧h=[]):=by
 have hmx:=mx_eq
 obtain ⟨vs,ar,bd⟩:=p
 have hl:vs.length≤mx:=hl
 have hl2:ar.length≤mx:=hl2
 refine dcZ Try.func24 ?_
 simp only [go_sem]
 iterate 2 ((try (refine drvZ Try.func24 ?_;simp only [go_sem]));((with_reducible and_intros)<;>try exact sd))
 exact RetOb.plain (d:=DI .i64 _) ⟨rfl,rfl⟩ rfl
theorem cellsS (p:Pg) (hl:p.vars.length≤mx) (hl2:p.arrays.length≤mx):DC Try.prog 17 [.agg p.cells] [] (fun r h=>r=DI .i64 ((p.vars.length+p.arrays.length:Nat):Int)∧h=[]):=by
 have hmx:=mx_eq
 obtain ⟨vs,ar,bd⟩:=p
 have hl:vs.length≤mx:=hl
 have hl2:ar.length≤mx:=hl2
 refine dcZ Try.func17 ?_
 simp only [go_sem]
 iterate 2 ((try (refine drvZ Try.func17 ?_;simp only [go_sem]));((with_reducible and_intros)<;>try exact sd))
 exact RetOb.plain (d:=DI .i64 _) ⟨rfl,rfl⟩ rfl
def occB (nv:Nat) (k v:Int):Nat:=if k=2 then 2 ^ v.toNat else if k=3 then 2 ^ (nv+v.toNat) else 0
def occN (nv : Nat) : Nat → Ex → Nat
 | 0,_=>0
 | d+1,.mk k v ks=>(ks.map (occN nv d)).foldl (fun a b=>a ||| b) (occB nv k v)
theorem or_lt {a b:Nat} (ha:a<16384) (hb:b<16384):a ||| b<16384:=Nat.or_lt_two_pow (n:=14) ha hb
theorem foldl_or_lt : ∀ (l : List Nat) (a : Nat), a < 16384 → (∀ x ∈ l, x < 16384) → l.foldl (fun a b => a ||| b) a < 16384
 | [],a,h,_=>h
 | x :: r,a,h,h2=>foldl_or_lt r _ (or_lt h (h2 x (by simp))) fun y hy=>h2 y (by simp [hy])
theorem pow14 {n:Nat} (h:n<14):2 ^ n<16384:=Nat.lt_of_lt_of_le (Nat.pow_lt_pow_right (by decide) h) (by decide)
theorem pow14i {n:Nat} (h:2 ^ n<16384):((2:Int) ^ n)<16384:=by
 have e:((2 ^ n:Nat):Int)=(2:Int) ^ n:=Int.natCast_pow 2 n
 omega
theorem occN_lt {p : Pg} (hn : p.vars.length + p.arrays.length ≤ 14) : ∀ (d : Nat) (e : Ex), shape p d e = true → occN p.vars.length d e < 16384
 | 0,_,_=>by simp [occN]
 | d+1,.mk k v ks,h=>by
  obtain ⟨g1,g2,g3⟩:=shape_succ h
  obtain ⟨hl3,hla,hv0,hv1⟩:=fits_len g1
  refine foldl_or_lt _ _ ?_ fun x hx=>?_
  ·unfold occB
   split
   ·rename_i hk;subst hk;simp only [limit] at hv1;exact pow14 (by simp at hv1;omega)
   ·split
    ·rename_i hk;subst hk;simp only [limit] at hv1;exact pow14 (by simp at hv1;omega)
    ·decide
  ·obtain ⟨y,hy,rfl⟩:=List.mem_map.1 hx
   exact occN_lt hn d y (g2 y hy)
theorem or_succ (f:Ex→Nat) (a:Nat) (ks:List Ex) (i:Nat) (x:Ex) (h:ks[i]? = some x):((ks.take (i+1)).map f).foldl (fun a b=>a ||| b) a=((ks.take i).map f).foldl (fun a b=>a ||| b) a ||| f x:=by
 rw [List.take_add_one,h]
 simp
theorem occurringI (p:Pg) (hn:p.vars.length+p.arrays.length≤14):∀ (d:Nat) (e:Ex),shape p d e=true→DC Try.prog 45 [.agg p.cells,.agg e.cells] [] (fun r h=>r=DI .i64 (occN p.vars.length d e)∧h=[]):=by
 have hmx:=mx_eq
 intro d
 induction d with
 | zero=>intro e h;simp [shape] at h
 | succ d ih =>
  intro e hsh
  obtain ⟨k,v,ks⟩:=e
  obtain ⟨g1,g2,g3⟩:=shape_succ hsh
  obtain ⟨hl3,hla,hv0,hv1⟩:=fits_len g1
  have hle:=fun e h=>occN_lt hn d e h
  have hacc0:=fun i=>foldl_or_lt ((ks.take i).map (occN p.vars.length d)) (occB p.vars.length k v)
  have hmem:∀ i,∀ x ∈ (ks.take i).map (occN p.vars.length d),x<16384:=fun i x hx=>by
   obtain ⟨y,hy,rfl⟩:=List.mem_map.1 hx
   exact hle y (g2 y (List.mem_of_mem_take hy))
  have hcell:=cellI p v (by omega)
  have hlim:k=2→v<p.vars.length:=fun hk=>by subst hk;simpa [limit] using hv1
  have hlim3:k=3→v<p.arrays.length:=fun hk=>by subst hk;simpa [limit] using hv1
  obtain ⟨vs,ar,bd⟩:=p
  have hn:vs.length+ar.length≤14:=hn
  simp only at hlim hlim3 hacc0 hmem hcell
  have hob:occB vs.length k v<16384:=by
   unfold occB
   split
   ·rename_i hk;have:=hlim hk;exact pow14 (by omega)
   ·split
    ·rename_i hk;have:=hlim3 hk;exact pow14 (by omega)
    ·decide
  have hacc:=fun i=>hacc0 i hob (hmem i)
  generalize hR:(fun (r:D) (h:List (Option (List C)))=>r=DI .i64 (occN vs.length (d+1) (.mk k v ks))∧h=[])=R
  have key:k=2∨k=3∨(k ≠ 2∧k ≠ 3):=by omega
  rcases key with hk | hk | ⟨hk2,hk3⟩
  ·have hv2:=hlim hk
   have hB:((occB vs.length k v:Nat):Int)=1 * 2 ^ v.toNat:=by unfold occB;rw [if_pos hk,Int.natCast_pow,Int.one_mul];rfl
   have hp:=pow14 (show v.toNat<14 by omega)
   have hpi:((2:Int) ^ v.toNat)<16384:=pow14i hp
   have hpp:(0:Int)<2 ^ v.toNat:=Int.pow_pos (by decide)
   have e2:(k == 2)=true:=by simp [hk]
   have f2:(k=2)=True:=by simp [hk]
   have hbit:((IntKind.i64).bits:Int)=64:=rfl
   refine dcZ Try.func45 ?_
   simp only [go_sem,e2,f2]
   iterate 4 ((try (refine drvZ Try.func45 ?_;simp only [go_sem,e2,f2,hbit]));((with_reducible and_intros)<;>try exact sd))
   refine Go.loopQ (fun i : Nat => [(2, .c (.ptr 0 0)), (5, DI .i64 (((ks.take i).map (occN vs.length d)).foldl (fun a b => a ||| b) (occB vs.length k v) : Nat)), (23, .c (.isl 3 (Ex.cellsL ks))), (24, DI .i64 ks.length), (25, DI .i64 i)]) (fun i => [(0, some (Pg.cells ⟨vs, ar, bd⟩))])
    4096 (fun i=>i≤ks.length) (fun i=>ks.length - i) ?_ 0 some [] _ (Nat.zero_le _) ?_
   ·intro i hi again
    rcases Nat.lt_or_ge i ks.length with hlt | hge
    ·obtain ⟨⟨k',v',ks'⟩,hx⟩:∃ x,ks[i]? = some x:=⟨ks[i],by simp [hlt]⟩
     have hsc:=or_succ (occN vs.length d) (occB vs.length k v) ks i _ hx
     have ha:=hacc i
     have hb:=hle (.mk k' v' ks') (g2 _ (List.mem_of_getElem? hx))
     have hc:=hacc (i+1)
     rw [hsc] at hc
     simp only at hb
     generalize ((ks.take i).map (occN vs.length d)).foldl (fun a b=>a ||| b) (occB vs.length k v)=acc at *
     refine drvL Try.func45 ?_
     simp only [go_sem,hx,hlt]
     iterate 2 ((try (refine drvZ Try.func45 ?_;simp only [go_sem,hx,hlt]));((with_reducible and_intros)<;>try exact sd))
     refine XK.plain (ih (.mk k' v' ks') (g2 _ (List.mem_of_getElem? hx))) ok45 ?_ (hbT ())
     iterate 3 ((try (refine drvZ Try.func45 ?_;simp only [go_sem,hx,hlt]));((with_reducible and_intros)<;>try exact sd))
     refine again (i+1) some [] _ hlt (by omega) ?_
     simp only [go_sem,TmOK,DM,DMs,CM,CMs,forall_eq,exists_eq_left,Mq,HpOK,LowOK,hsc]
     simp
     rw [← List.map_take,hsc]
    ·have hn:¬ i<ks.length:=by omega
     obtain rfl:i=ks.length:=by omega
     refine drvL Try.func45 ?_
     simp only [go_sem,hn,List.take_length]
     iterate 2 ((try (refine drvZ Try.func45 ?_;simp only [go_sem,hn,List.take_length]));((with_reducible and_intros)<;>try exact sd))
     exact RetOb.plain (d:=DI .i64 _) (by rw [← hR];exact ⟨rfl,rfl⟩) rfl
   ·simp only [go_sem,TmOK,DM,DMs,CM,CMs,forall_eq,exists_eq_left,Mq,HpOK,LowOK,List.take_zero,List.map_nil,List.foldl_nil]
    simp [hB]
  ·have hv2:=hlim3 hk
   have hB:((occB vs.length k v:Nat):Int)=1 * 2 ^ ((vs.length:Int)+v).toNat:=by
    have:((vs.length:Int)+v).toNat=vs.length+v.toNat:=by omega
    rw [this];unfold occB;rw [if_neg (by omega),if_pos hk,Int.natCast_pow,Int.one_mul];rfl
   have hp:=pow14 (show ((vs.length:Int)+v).toNat<14 by omega)
   have hpi:((2:Int) ^ ((vs.length:Int)+v).toNat)<16384:=pow14i hp
   have hpp:(0:Int)<2 ^ ((vs.length:Int)+v).toNat:=Int.pow_pos (by decide)
   have e2:(k == 2)=false:=by simp [hk]
   have f2:(k=2)=False:=by simp [hk]
   have e3:(k == 3)=true:=by simp [hk]
   have f3:(k=3)=True:=by simp [hk]
   have hbit:((IntKind.i64).bits:Int)=64:=rfl
   refine dcZ Try.func45 ?_
   simp only [go_sem,e2,f2,e3,f3]
   iterate 4 ((try (refine drvZ Try.func45 ?_;simp only [go_sem,e2,f2,e3,f3,hbit]));((with_reducible and_intros)<;>try exact sd))
   refine XK.plain (hcell (by omega)) ok44 ?_ (hbT ())
   iterate 4 ((try (refine drvZ Try.func45 ?_;simp only [go_sem,e2,f2,e3,f3,hbit]));((with_reducible and_intros)<;>try exact sd))
   refine Go.loopQ (fun i : Nat => [(2, .c (.ptr 0 0)), (5, DI .i64 (((ks.take i).map (occN vs.length d)).foldl (fun a b => a ||| b) (occB vs.length k v) : Nat)), (23, .c (.isl 3 (Ex.cellsL ks))), (24, DI .i64 ks.length), (25, DI .i64 i)]) (fun i => [(0, some (Pg.cells ⟨vs, ar, bd⟩))])
    4096 (fun i=>i≤ks.length) (fun i=>ks.length - i) ?_ 0 some [] _ (Nat.zero_le _) ?_
   ·intro i hi again
    rcases Nat.lt_or_ge i ks.length with hlt | hge
    ·obtain ⟨⟨k',v',ks'⟩,hx⟩:∃ x,ks[i]? = some x:=⟨ks[i],by simp [hlt]⟩
     have hsc:=or_succ (occN vs.length d) (occB vs.length k v) ks i _ hx
     have ha:=hacc i
     have hb:=hle (.mk k' v' ks') (g2 _ (List.mem_of_getElem? hx))
     have hc:=hacc (i+1)
     rw [hsc] at hc
     simp only at hb
     generalize ((ks.take i).map (occN vs.length d)).foldl (fun a b=>a ||| b) (occB vs.length k v)=acc at *
     refine drvL Try.func45 ?_
     simp only [go_sem,hx,hlt]
     iterate 2 ((try (refine drvZ Try.func45 ?_;simp only [go_sem,hx,hlt]));((with_reducible and_intros)<;>try exact sd))
     refine XK.plain (ih (.mk k' v' ks') (g2 _ (List.mem_of_getElem? hx))) ok45 ?_ (hbT ())
     iterate 3 ((try (refine drvZ Try.func45 ?_;simp only [go_sem,hx,hlt]));((with_reducible and_intros)<;>try exact sd))
     refine again (i+1) some [] _ hlt (by omega) ?_
     simp only [go_sem,TmOK,DM,DMs,CM,CMs,forall_eq,exists_eq_left,Mq,HpOK,LowOK,hsc]
     simp
     rw [← List.map_take,hsc]
    ·have hn:¬ i<ks.length:=by omega
     obtain rfl:i=ks.length:=by omega
     refine drvL Try.func45 ?_
     simp only [go_sem,hn,List.take_length]
     iterate 2 ((try (refine drvZ Try.func45 ?_;simp only [go_sem,hn,List.take_length]));((with_reducible and_intros)<;>try exact sd))
     exact RetOb.plain (d:=DI .i64 _) (by rw [← hR];exact ⟨rfl,rfl⟩) rfl
   ·simp only [go_sem,TmOK,DM,DMs,CM,CMs,forall_eq,exists_eq_left,Mq,HpOK,LowOK,List.take_zero,List.map_nil,List.foldl_nil]
    simp [hB]
  ·have hB:occB vs.length k v=0:=by simp [occB,hk2,hk3]
   have e2:(k == 2)=false:=by simp [hk2]
   have e3:(k == 3)=false:=by simp [hk3]
   refine dcZ Try.func45 ?_
   simp only [go_sem,hk2,hk3,e2,e3]
   iterate 4 ((try (refine drvZ Try.func45 ?_;simp only [go_sem,e2,e3,hk2,hk3]));((with_reducible and_intros)<;>try exact sd))
   refine Go.loopQ (fun i : Nat => [(2, .c (.ptr 0 0)), (5, DI .i64 (((ks.take i).map (occN vs.length d)).foldl (fun a b => a ||| b) (occB vs.length k v) : Nat)), (23, .c (.isl 3 (Ex.cellsL ks))), (24, DI .i64 ks.length), (25, DI .i64 i)]) (fun i => [(0, some (Pg.cells ⟨vs, ar, bd⟩))])
    4096 (fun i=>i≤ks.length) (fun i=>ks.length - i) ?_ 0 some [] _ (Nat.zero_le _) ?_
   ·intro i hi again
    rcases Nat.lt_or_ge i ks.length with hlt | hge
    ·obtain ⟨⟨k',v',ks'⟩,hx⟩:∃ x,ks[i]? = some x:=⟨ks[i],by simp [hlt]⟩
     have hsc:=or_succ (occN vs.length d) (occB vs.length k v) ks i _ hx
     have ha:=hacc i
     have hb:=hle (.mk k' v' ks') (g2 _ (List.mem_of_getElem? hx))
     have hc:=hacc (i+1)
     rw [hsc] at hc
     simp only at hb
     generalize ((ks.take i).map (occN vs.length d)).foldl (fun a b=>a ||| b) (occB vs.length k v)=acc at *
     refine drvL Try.func45 ?_
     simp only [go_sem,hx,hlt]
     iterate 2 ((try (refine drvZ Try.func45 ?_;simp only [go_sem,hx,hlt]));((with_reducible and_intros)<;>try exact sd))
     refine XK.plain (ih (.mk k' v' ks') (g2 _ (List.mem_of_getElem? hx))) ok45 ?_ (hbT ())
     iterate 3 ((try (refine drvZ Try.func45 ?_;simp only [go_sem,hx,hlt]));((with_reducible and_intros)<;>try exact sd))
     refine again (i+1) some [] _ hlt (by omega) ?_
     simp only [go_sem,TmOK,DM,DMs,CM,CMs,forall_eq,exists_eq_left,Mq,HpOK,LowOK,hsc]
     simp
     rw [← List.map_take,hsc]
    ·have hn:¬ i<ks.length:=by omega
     obtain rfl:i=ks.length:=by omega
     refine drvL Try.func45 ?_
     simp only [go_sem,hn,List.take_length]
     iterate 2 ((try (refine drvZ Try.func45 ?_;simp only [go_sem,hn,List.take_length]));((with_reducible and_intros)<;>try exact sd))
     exact RetOb.plain (d:=DI .i64 _) (by rw [← hR];exact ⟨rfl,rfl⟩) rfl
   ·simp only [go_sem,TmOK,DM,DMs,CM,CMs,forall_eq,exists_eq_left,Mq,HpOK,LowOK,List.take_zero,List.map_nil,List.foldl_nil]
    simp [hB]
end Go.Proofs.Ytlapccpnilomfaa.CtR
namespace Go.Proofs.Ytlapccpnilomfaa.CtD
open Go Go.CT CtF CtR
variable [Yn]
theorem none0_eq {e:Ex} (h:none0 e=true):e = .mk 0 0 []:=by
 obtain ⟨k,v,ks⟩:=e
 simp only [none0,Ex.kind,Ex.value,Ex.kids,Bool.and_eq_true,beq_iff_eq,decide_eq_true_eq] at h
 obtain ⟨⟨rfl,rfl⟩,h3⟩:=h
 have:ks=[]:=List.isEmpty_iff.1 h3
 rw [this]
theorem exprs_of {p : Pg} {d : Nat} {k t : Int} {ix v : Ex} {c : Int} {b e : List St1} (h : stmtOK p (d + 1) (.mk k t ix v c b e) = true) :
 (CtR.shape p 5 ix=true∨ix = .mk 0 0 [])∧(CtR.shape p 5 v=true∨v = .mk 0 0 []):=by
 have h1:=(stmtOK_succ h).1
 have hk:=head_kind h1
 unfold headOK parts at h1
 rcases hk with ⟨hk,_,_,hr⟩ | ⟨rfl,_,_,hr,_,hr2⟩ | ⟨rfl,hr⟩ | ⟨rfl,_⟩
 ·refine ⟨.inr (none0_eq ?_),.inl (right_shape hr).1⟩
  have hk4:k ≠ 4:=by omega
  have hk2:(k == 2)=false:=by simp;omega
  simp [hk4,hk2] at h1
  exact h1.1.2.2
 ·exact ⟨.inl (right_shape hr).1,.inl (right_shape hr2).1⟩
 ·refine ⟨.inr (none0_eq ?_),.inl (right_shape hr).1⟩
  simp at h1
  exact h1.1.2.2
 ·simp at h1
  refine ⟨.inr (none0_eq ?_),.inr (none0_eq ?_)⟩<;>grind
end Go.Proofs.Ytlapccpnilomfaa.CtD
