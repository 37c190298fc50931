/- Contracts of functions of the program, one behind the other, as plain data: what each call returns and which blocks it leaves. -/
import Derived.Test.YtbknljofedfpjaaXFacts
import Derived.Test.YtbknljofedfpjaaXAl
import Derived.Test.YtbknljofedfpjaaXAm
import Derived.Test.YtbknljofedfpjaaXAi
set_option linter.unusedVariables false
set_option linter.unusedSimpArgs false
set_option linter.unusedSectionVars false
set_option maxHeartbeats 16000000
set_option maxRecDepth 100000
namespace Go.Proofs.Ytbknljofedfpjaa.CtR
open Go Go.CT CtF
variable [Yn]
theorem body_of {p:Pg} (h:progOK p=true):(∀ s ∈ p.body,stmtOK p 5 s=true)∧lsize 5 p.body≤60:=by
  simp only [progOK,Bool.and_eq_true,decide_eq_true_eq,List.all_eq_true] at h
  exact ⟨h.1.2,by omega⟩
def trD (tr:List Ev):C := .isl 2 (tr.map Ev.cells)
theorem RetOb.step {m : Nat} {R : D → List (Option (List C)) → Prop} {d : D} {hp : Hp} (r : Nat → Option Nat) (fz : List Nat) (d' : D) (hl : List (Nat × Option (List C)))
    (hM:DM (hOf hl) r hp fz d' d∧HpOK (hOf hl) r hp fz hl∧LowOK r (hOf hl) m∧((hl.filterMap fun p=>p.2.map fun _=>p.1).filterMap r).Nodup) (hn:RetOb m R d' (hOf hl)):RetOb m R d hp:=fun I w s v H hv=>by
  have h:Mq m r fz [] hl ⟨fun _=>none,hp,0⟩:=⟨trivial,hM.2.1,hM.2.2.1,hM.2.2.2⟩
  obtain ⟨H',E'⟩:=h.subH.sim H
  obtain ⟨I',s',d2,h2,g1,g2,g3,g4,g5⟩:=hn _ w _ v H' (DM.rd H d' d hM.1 hv)
  exact ⟨I',s',d2,h2,g1,g2,g3,E'.trans g4,g5⟩
theorem RetOb.run {R : D → List (Option (List C)) → Prop} {p : Pg} {m : Mm} {tr : List Ev} {ok : Bool} {hp : Hp} {k0 k1 k2 k3 kt n : Nat} {cs : List C} (hm : MemFits p m) (hR : R (.tup [.agg m.cells, .c (trD tr), DB ok]) [])
    (h0:hp k0=some (some (m.vals.map I64))) (h1:hp k1=some (some (hdr k2 k3 p.arrays.length))) (h2:hp k2=some (some (blk0 m.arrays))) (h3:hp k3=some (some (blk1 m.arrays))) (ht:hp kt=some (some cs)) (hcs:cs=trC tr) (hn:n=tr.length)
    (hne:k0 ≠ k1∧k0 ≠ k2∧k0 ≠ k3∧k1 ≠ k2∧k1 ≠ k3∧k2 ≠ k3∧kt ≠ k0∧kt ≠ k1∧kt ≠ k2∧kt ≠ k3):RetOb 0 R (.tup [.agg [.msl k0 1 0 p.vars.length,.msl k1 1 0 p.arrays.length],.c (.msl kt 2 0 n),DB ok]) hp:=by
  subst hcs hn
  obtain ⟨va,arr⟩:=m
  have hnv:va.length=p.vars.length:=hm.nv
  have hna:arr.length=p.arrays.length:=hm.na
  have hna2:=hm.na2
  have h4:∀ a ∈ arr,a.length=4:=fun a ha=>(hm.arr a ha).1
  obtain ⟨n01,n02,n03,n12,n13,n23,nt0,nt1,nt2,nt3⟩:=hne
  rw [← hnv,← hna]
  rw [← hna] at h1 hna2
  refine RetOb.step (fun j=>if j=0 then some k0 else if j=1 then some k1 else if j=2 then some kt else none) [k2,k3] (.tup [.agg [.msl 0 1 0 va.length,.msl 1 1 0 arr.length],.c (.msl 2 2 0 tr.length),DB ok]) [(0,some (va.map I64)),(1,some (arr.map isI)),(2,some (trC tr))] ?_ ?_
  · have e3:∀ a:List Int,(a.map fun n=>[C.v (.int .i64 n)]).flatten=a.map I64:=fun a=>flat1 _ a
    match arr,hna2,h4,h1,h2,h3 with
    | [],_,h4,h1,h2,h3=>simp [DM,DMs,CM,CMs,HpOK,LowOK,hOf,upd,h0,ht,CMs_I,CMs_tr,h1,hdr,n01,n02,n03,n12,n13,n23,nt0,nt1,nt2,nt3,Ne.symm n01,Ne.symm nt0,Ne.symm nt1,Ne.symm n23]
    | [a],_,h4,h1,h2,h3 =>
      have ha:=h4 a (by simp)
      simp [DM,DMs,CM,CMs,HpOK,LowOK,hOf,upd,h0,ht,CMs_I,CMs_tr,h1,h2,hdr,n01,n02,n03,n12,n13,n23,nt0,nt1,nt2,nt3,Ne.symm n01,Ne.symm nt0,Ne.symm nt1,Ne.symm n23,e3,isI,ha,blk0,kf]
    | [a,b],_,h4,h1,h2,h3 =>
      have ha:=h4 a (by simp)
      have hb:=h4 b (by simp)
      simp [DM,DMs,CM,CMs,HpOK,LowOK,hOf,upd,h0,ht,CMs_I,CMs_tr,h1,h2,h3,hdr,n01,n02,n03,n12,n13,n23,nt0,nt1,nt2,nt3,Ne.symm n01,Ne.symm nt0,Ne.symm nt1,Ne.symm n23,e3,isI,ha,hb,blk0,blk1,kf]
  · refine RetOb.ofQ (fun _=>none) [0,1,2] _ [] ⟨?_,trivial,trivial,by simp [enumL]⟩ hR (Nat.zero_le _)
    have e4:∀ l:List (List Int),(l.map fun a=>[C.isl 1 (a.map fun n=>[I64 n])]).flatten=l.map isI:=fun l=>flat1 _ l
    have e5:(tr.map Ev.cells).flatten=trC tr:=rfl
    simp [DM,DMs,CM,CMs,hOf,upd,Mm.cells,isI,trD,flat_I,kf,e5]
    exact ⟨(flat1 isI arr).symm,fun a _=>rfl,fun a _ c hc=>by
      simp only [Ev.cells,List.mem_cons,List.not_mem_nil,or_false] at hc
      rcases hc with rfl | rfl<;>rfl⟩
end Go.Proofs.Ytbknljofedfpjaa.CtR
namespace Go.Proofs.Ytbknljofedfpjaa.CtD
open Go Go.CT CtF
variable [Yn]
end Go.Proofs.Ytbknljofedfpjaa.CtD
namespace Go.Proofs.Ytbknljofedfpjaa.CtR
end Go.Proofs.Ytbknljofedfpjaa.CtR
namespace Go.Proofs.Ytbknljofedfpjaa.CtD
open Go Go.CT CtF CtR
variable [Yn]
def exC (l:List Ex):List C:=(l.map Ex.cells).flatten
theorem exC_len (l:List Ex):(exC l).length=l.length * 3:=by
  unfold exC
  induction l with
  | nil=>rfl
  | cons a r ih=>simp only [List.map_cons,List.flatten_cons,List.length_append,ih,Ex.cells_len,List.length_cons];omega
theorem ex_kf (e:Ex):∀ c ∈ e.cells,kf c=true:=by cases e;simp [Ex.cells,kf]
theorem exC_kf (l:List Ex):∀ c ∈ exC l,kf c=true:=by
  unfold exC
  intro c hc
  obtain ⟨x,hx,hc⟩:=List.mem_flatten.1 hc
  obtain ⟨e,_,rfl⟩:=List.mem_map.1 hx
  exact ex_kf e c hc
theorem exC_snoc (l:List Ex) (e:Ex):exC (l++[e])=exC l++e.cells:=by simp [exC]
def stC (l:List St1):List C:=(l.map St1.cells).flatten
theorem stC_len (l:List St1):(stC l).length=l.length * 11:=by
  unfold stC
  induction l with
  | nil=>rfl
  | cons a r ih=>simp only [List.map_cons,List.flatten_cons,List.length_append,ih,St1.cells_len,List.length_cons];omega
theorem st_kf (s:St1):∀ c ∈ s.cells,kf c=true:=by
  obtain ⟨k,t,ix,v,c,b,e⟩:=s
  intro x hx
  simp only [St1.cells,List.mem_append,List.mem_cons,List.not_mem_nil,or_false] at hx
  rcases hx with ((hx | hx) | hx) | hx
  · rcases hx with rfl | rfl<;>rfl
  · exact ex_kf _ _ hx
  · exact ex_kf _ _ hx
  · rcases hx with rfl | rfl | rfl<;>rfl
theorem stC_kf (l:List St1):∀ c ∈ stC l,kf c=true:=by
  unfold stC
  intro c hc
  obtain ⟨x,hx,hc⟩:=List.mem_flatten.1 hc
  obtain ⟨e,_,rfl⟩:=List.mem_map.1 hx
  exact st_kf e c hc
theorem stC_snoc (l:List St1) (s:St1):stC (l++[s])=stC l++s.cells:=by simp [stC]
theorem prog_len {p:Pg} (h:progOK p=true):1≤p.vars.length∧p.vars.length≤12∧p.arrays.length≤2:=by
  simp only [progOK,headsOK,Bool.and_eq_true,decide_eq_true_eq] at h
  obtain ⟨⟨⟨⟨⟨_,h1⟩,h2⟩,h3⟩,_⟩,_⟩:=h
  omega
end Go.Proofs.Ytbknljofedfpjaa.CtD
namespace Go.Proofs.Ytbknljofedfpjaa.CtR
open Go Go.CT CtF
variable [Yn]
theorem RetOb.two {R:D→List (Option (List C))→Prop} {a b:Int} {hp:Hp} (h:R (.tup [DI .i64 a,DI .i64 b]) []):RetOb 0 R (.tup [DI .i64 a,DI .i64 b]) hp :=
  RetOb.ofQ (fun _=>none) [] (.tup [DI .i64 a,DI .i64 b]) [] (by simp [enumL,DM,DMs,CM,HpOK,LowOK]) h (by simp)
abbrev BC (b:Bool):C := .v (.bool b)
def boolsC (bs:List Bool):List C:=bs.map BC
def boolsD (bs:List Bool):C := .isl 1 (bs.map fun b=>[BC b])
theorem boolsC_kf (bs:List Bool):∀ c ∈ boolsC bs,kf c=true:=by
  intro c hc;obtain ⟨x,_,rfl⟩:=List.mem_map.1 hc;rfl
theorem boolsC_set (bs:List Bool) (i:Nat) (b:Bool):(boolsC bs).set i (.v (.bool b))=boolsC (bs.set i b):=by
  unfold boolsC;rw [List.map_set]
theorem boolsC_len (bs:List Bool):(boolsC bs).length=bs.length:=by simp [boolsC]
theorem boolsC_rep (n:Nat) (b:Bool):(List.replicate n [C.v (.bool b)]).flatten=boolsC (List.replicate n b):=by
  induction n with
  | zero=>rfl
  | succ n ih=>rw [List.replicate_succ,List.flatten_cons,ih,List.replicate_succ];rfl
theorem boolsC_ren (r:Nat→Nat) (bs:List Bool):renCs r (boolsC bs)=boolsC bs:=by
  induction bs with
  | nil=>rfl
  | cons a r' ih=>simp only [boolsC,List.map_cons,renCs,renC] at ih ⊢;rw [ih]
theorem boolsC_flat (bs:List Bool):(bs.map fun b=>[BC b]).flatten=boolsC bs:=flat1 _ _
theorem cellI (p:Pg) (a:Int) (hl:p.vars.length≤mx) (ha:0≤a∧a≤1000):DC Try.prog 62 [.agg p.cells,DI .i64 a] [] (fun r h=>r=DI .i64 (p.vars.length+a)∧h=[]):=by
  have hmx:=mx_eq
  obtain ⟨vs,ar,bd⟩:=p
  have hl:vs.length≤mx:=hl
  refine dcZ Try.func62 ?_
  simp only [go_sem]
  iterate 2 ((try (refine drvZ Try.func62 ?_;simp only [go_sem]));((with_reducible and_intros)<;>try exact sd))
  exact RetOb.plain (d:=DI .i64 _) ⟨rfl,rfl⟩ rfl
theorem cellsI (p:Pg) (hl:p.vars.length≤mx) (hl2:p.arrays.length≤mx):DC Try.prog 40 [.agg p.cells] [] (fun r h=>r=DI .i64 ((p.vars.length+p.arrays.length:Nat):Int)∧h=[]):=by
  have hmx:=mx_eq
  obtain ⟨vs,ar,bd⟩:=p
  have hl:vs.length≤mx:=hl
  have hl2:ar.length≤mx:=hl2
  refine dcZ Try.func40 ?_
  simp only [go_sem]
  iterate 2 ((try (refine drvZ Try.func40 ?_;simp only [go_sem]));((with_reducible and_intros)<;>try exact sd))
  exact RetOb.plain (d:=DI .i64 _) ⟨rfl,rfl⟩ rfl
theorem cellsS (p:Pg) (hl:p.vars.length≤mx) (hl2:p.arrays.length≤mx):DC Try.prog 26 [.agg p.cells] [] (fun r h=>r=DI .i64 ((p.vars.length+p.arrays.length:Nat):Int)∧h=[]):=by
  have hmx:=mx_eq
  obtain ⟨vs,ar,bd⟩:=p
  have hl:vs.length≤mx:=hl
  have hl2:ar.length≤mx:=hl2
  refine dcZ Try.func26 ?_
  simp only [go_sem]
  iterate 2 ((try (refine drvZ Try.func26 ?_;simp only [go_sem]));((with_reducible and_intros)<;>try exact sd))
  exact RetOb.plain (d:=DI .i64 _) ⟨rfl,rfl⟩ rfl
theorem pow14 {n:Nat} (h:n<14):2 ^ n<16384:=Nat.lt_of_lt_of_le (Nat.pow_lt_pow_right (by decide) h) (by decide)
end Go.Proofs.Ytbknljofedfpjaa.CtR
namespace Go.Proofs.Ytbknljofedfpjaa.CtD
open Go Go.CT CtF CtR
variable [Yn]
theorem tbit (N k:Nat):((((N:Int) / 2 ^ k).toNat &&& 1:Nat):Int)=if N.testBit k then 1 else 0:=by
  have e:((N:Int) / 2 ^ k).toNat=N / 2 ^ k:=by
    have:((2:Int) ^ k)=((2 ^ k:Nat):Int):=by rw [Int.natCast_pow];rfl
    rw [this,← Int.natCast_ediv];rfl
  rw [e,Nat.and_one_is_mod,Nat.testBit_eq_decide_div_mod_eq]
  by_cases h:N / 2 ^ k % 2=1
  · simp [h]
  · have:N / 2 ^ k % 2=0:=by omega
    simp [this]
end Go.Proofs.Ytbknljofedfpjaa.CtD
namespace Go.Proofs.Ytbknljofedfpjaa.CtR
end Go.Proofs.Ytbknljofedfpjaa.CtR
namespace Go.Proofs.Ytbknljofedfpjaa.CtD
open Go Go.CT CtF CtR
variable [Yn]
theorem boolsC_at {L:List Bool} {i:Nat} (h:i<L.length):(boolsC L)[i]? = some (.v (.bool (L.getD i false))):=by
  unfold boolsC
  rw [List.getElem?_map,List.getD_eq_getElem?_getD,List.getElem?_eq_getElem h];rfl
end Go.Proofs.Ytbknljofedfpjaa.CtD
namespace Go.Proofs.Ytbknljofedfpjaa.CtF
end Go.Proofs.Ytbknljofedfpjaa.CtF
namespace Go.Proofs.Ytbknljofedfpjaa.CtR
end Go.Proofs.Ytbknljofedfpjaa.CtR
namespace Go.Proofs.Ytbknljofedfpjaa.CtD
open Go Go.CT CtF CtR
variable [Yn]
def jnA (L M : List Bool) : Nat → Bool × List Bool
  | 0=>(false,L)
  | i+1=>if M.getD i false && !(jnA L M i).2.getD i false then (true,(jnA L M i).2.set i true) else jnA L M i
theorem jnA_len (L M : List Bool) : ∀ i, (jnA L M i).2.length = L.length
  | 0=>rfl
  | i+1=>by
    rw [jnA]
    split
    · simp [jnA_len L M i]
    · exact jnA_len L M i
theorem jnA_hi (L M : List Bool) : ∀ i j, i ≤ j → (jnA L M i).2.getD j false = L.getD j false
  | 0,j,_=>rfl
  | i+1,j,h=>by
    rw [jnA]
    split
    · rw [← jnA_hi L M i j (by omega)]
      simp only [List.getD_eq_getElem?_getD]
      rw [List.getElem?_set_ne (by omega)]
    · exact jnA_hi L M i j (by omega)
theorem jnA_iff (L M : List Bool) : ∀ i, (jnA L M i).1 = true ↔ ∃ j, j < i ∧ M.getD j false = true ∧ L.getD j false = false
  | 0=>by simp [jnA]
  | i+1=>by
    have h:=jnA_iff L M i
    have h2:=jnA_hi L M i i (Nat.le_refl _)
    rw [jnA,h2]
    cases hm:M.getD i false with
    | false =>
      simp only [Bool.false_and,Bool.false_eq_true,if_false]
      rw [h]
      constructor
      · rintro ⟨j,a,b,c⟩;exact ⟨j,by omega,b,c⟩
      · rintro ⟨j,a,b,c⟩
        refine ⟨j,?_,b,c⟩
        rcases Nat.lt_or_eq_of_le (Nat.le_of_lt_succ a) with h | rfl
        · exact h
        · rw [hm] at b;cases b
    | true =>
      cases hl:L.getD i false with
      | true =>
        simp only [Bool.true_and,Bool.not_true,Bool.false_eq_true,if_false]
        rw [h]
        constructor
        · rintro ⟨j,a,b,c⟩;exact ⟨j,by omega,b,c⟩
        · rintro ⟨j,a,b,c⟩
          refine ⟨j,?_,b,c⟩
          rcases Nat.lt_or_eq_of_le (Nat.le_of_lt_succ a) with h | rfl
          · exact h
          · rw [hl] at c;cases c
      | false =>
        simp only [Bool.true_and,Bool.not_false,if_true,true_iff]
        exact ⟨i,by omega,hm,hl⟩
theorem joinS (L M : List Bool) (hl : L.length ≤ 1000) (hM : M.length = L.length) :
    DC Try.prog 38 [.c (.msl 0 1 0 L.length),.c (.msl 1 1 0 L.length)] [some (boolsC L),some (boolsC M)] (fun r h=>r=DB (jnA L M L.length).1∧h=[some (boolsC (jnA L M L.length).2),some (boolsC M)]):=by
  have hmx:=mx_eq
  have hfl:=jnA_len L M
  generalize hR:(fun (r:D) (h:List (Option (List C)))=>r=DB (jnA L M L.length).1∧h=[some (boolsC (jnA L M L.length).2),some (boolsC M)])=R
  refine dcZ Try.func38 ?_
  simp only [go_sem]
  ((try (refine drvZ Try.func38 ?_;simp only [go_sem]));((with_reducible and_intros)<;>try exact sd))
  refine Go.loopQ (fun i : Nat => [(0, .c (.msl 0 1 0 L.length)), (1, .c (.msl 1 1 0 L.length)), (5, DB (jnA L M i).1), (6, DI .i64 i)])
    (fun i=>[(0,some (boolsC (jnA L M i).2)),(1,some (boolsC M))]) 4096 (fun i=>i≤L.length) (fun i=>L.length - i) ?_ 0 some [] _ (Nat.zero_le _) ?_
  · intro i hi again
    have hFi:=hfl i
    rcases Nat.lt_or_ge i L.length with hlt | hge
    · have a1:=@boolsC_at _ M i (by omega)
      have a2:=@boolsC_at _ (jnA L M i).2 i (by omega)
      have hs:jnA L M (i+1)=if M.getD i false && !(jnA L M i).2.getD i false then (true,(jnA L M i).2.set i true) else jnA L M i:=rfl
      have hbl:=boolsC_len (jnA L M i).2
      rw [hFi] at hbl
      generalize jnA L M i=Fi at *
      obtain ⟨c,Li⟩:=Fi
      simp only at hFi hs a2 hbl
      cases hm:M.getD i false with
      | false =>
        rw [hm] at a1 hs
        simp only [Bool.false_and,Bool.false_eq_true,if_false] at hs
        refine drvL Try.func38 ?_
        simp only [go_sem,hlt,a1,a2]
        iterate 4 ((try (refine drvZ Try.func38 ?_;simp only [go_sem,hlt,a1,a2]));((with_reducible and_intros)<;>try exact sd))
        refine again (i+1) some [] _ hlt (by omega) ?_
        rw [hs]
        simp only [go_sem,TmOK,DM,DMs,CM,CMs,forall_eq,exists_eq_left,Mq,HpOK,LowOK]
        simp
        exact ⟨CMs.kf (boolsC_kf _),CMs.kf (boolsC_kf _)⟩
      | true =>
        rw [hm] at a1 hs
        cases hq:Li.getD i false with
        | true =>
          rw [hq] at a2 hs
          simp only [Bool.true_and,Bool.not_true,Bool.false_eq_true,if_false] at hs
          refine drvL Try.func38 ?_
          simp only [go_sem,hlt,a1,a2]
          iterate 4 ((try (refine drvZ Try.func38 ?_;simp only [go_sem,hlt,a1,a2]));((with_reducible and_intros)<;>try exact sd))
          refine again (i+1) some [] _ hlt (by omega) ?_
          rw [hs]
          simp only [go_sem,TmOK,DM,DMs,CM,CMs,forall_eq,exists_eq_left,Mq,HpOK,LowOK]
          simp
          exact ⟨CMs.kf (boolsC_kf _),CMs.kf (boolsC_kf _)⟩
        | false =>
          rw [hq] at a2 hs
          simp only [Bool.true_and,Bool.not_false,if_true] at hs
          refine drvL Try.func38 ?_
          simp only [go_sem,hlt,a1,a2]
          iterate 5 ((try (refine drvZ Try.func38 ?_;simp only [go_sem,hlt,a1,a2,boolsC_set,hbl]));((with_reducible and_intros)<;>try exact sd))
          refine again (i+1) some [] _ hlt (by omega) ?_
          rw [hs]
          simp only [go_sem,TmOK,DM,DMs,CM,CMs,forall_eq,exists_eq_left,Mq,HpOK,LowOK]
          simp
          exact ⟨CMs.kf (boolsC_kf _),CMs.kf (boolsC_kf _)⟩
    · have hn2:¬ i<L.length:=by omega
      obtain rfl:i=L.length:=by omega
      refine drvL Try.func38 ?_
      simp only [go_sem,hn2]
      iterate 2 ((try (refine drvZ Try.func38 ?_;simp only [go_sem,hn2]));((with_reducible and_intros)<;>try exact sd))
      refine RetOb.ofQ some [] (DB (jnA L M L.length).1) [some (boolsC (jnA L M L.length).2),some (boolsC M)] ?_ (by rw [← hR];exact ⟨rfl,rfl⟩) (by simp)
      simp [enumL,DM,DMs,CM,HpOK,LowOK,hOf,upd]
      exact ⟨CMs.kf (boolsC_kf _),CMs.kf (boolsC_kf _)⟩
  · simp only [go_sem,TmOK,DM,DMs,CM,CMs,forall_eq,exists_eq_left,Mq,HpOK,LowOK,jnA]
    simp
    exact ⟨CMs.kf (boolsC_kf _),CMs.kf (boolsC_kf _)⟩
end Go.Proofs.Ytbknljofedfpjaa.CtD
namespace Go.Proofs.Ytbknljofedfpjaa.CtF
end Go.Proofs.Ytbknljofedfpjaa.CtF
namespace Go.Proofs.Ytbknljofedfpjaa.CtR
end Go.Proofs.Ytbknljofedfpjaa.CtR
namespace Go.Proofs.Ytbknljofedfpjaa.CtD
open Go Go.CT CtF CtR
variable [Yn]
end Go.Proofs.Ytbknljofedfpjaa.CtD
namespace Go.Proofs.Ytbknljofedfpjaa.CtF
end Go.Proofs.Ytbknljofedfpjaa.CtF
namespace Go.Proofs.Ytbknljofedfpjaa.CtR
end Go.Proofs.Ytbknljofedfpjaa.CtR
namespace Go.Proofs.Ytbknljofedfpjaa.CtD
open Go Go.CT CtF CtR
variable [Yn]
theorem boolsC_snoc (ws:List Bool) (b:Bool):boolsC (ws++[b])=boolsC ws++[.v (.bool b)]:=by simp [boolsC,BC]
end Go.Proofs.Ytbknljofedfpjaa.CtD
namespace Go.Proofs.Ytbknljofedfpjaa.CtF
end Go.Proofs.Ytbknljofedfpjaa.CtF
namespace Go.Proofs.Ytbknljofedfpjaa.CtR
end Go.Proofs.Ytbknljofedfpjaa.CtR
namespace Go.Proofs.Ytbknljofedfpjaa.CtD
open Go Go.CT CtF CtR
variable [Yn]
end Go.Proofs.Ytbknljofedfpjaa.CtD
namespace Go.Proofs.Ytbknljofedfpjaa.CtF
variable [Go.CT.Yn]
end Go.Proofs.Ytbknljofedfpjaa.CtF
namespace Go.Proofs.Ytbknljofedfpjaa.CtR
variable [Go.CT.Yn]
open Go Go.CT CtF
def subL (a b:Nat):Bool:=a ||| b == b
open Go Go.CT CtF
theorem shapeV {p:Pg} {d:Nat} {k t:Int} {ix v:Ex} {c:Int} {b e:List St1} (h:stmtOK p (d+1) (.mk k t ix v c b e)=true):(k ≠ 4→shape p 5 v=true)∧(k=2→shape p 5 ix=true):=by
  have hk:=head_kind (stmtOK_succ h).1
  constructor
  · intro h4
    rcases hk with h | h | h | h
    · exact (right_shape h.2.2.2).1
    · exact (right_shape h.2.2.2.2.2).1
    · exact (right_shape h.2).1
    · exact absurd h.1 h4
  · intro h2
    rcases hk with h | h | h | h
    · exact absurd h.1 (by omega)
    · exact (right_shape h.2.2.2.1).1
    · exact absurd h.1 (by omega)
    · exact absurd h.1 (by omega)
open Go Go.CT CtF
end Go.Proofs.Ytbknljofedfpjaa.CtR
namespace Go.Proofs.Ytbknljofedfpjaa.CtF
end Go.Proofs.Ytbknljofedfpjaa.CtF
namespace Go.Proofs.Ytbknljofedfpjaa.CtR
end Go.Proofs.Ytbknljofedfpjaa.CtR
namespace Go.Proofs.Ytbknljofedfpjaa.CtR
open Go Go.CT CtF
variable [Yn]
theorem le3 {a:Nat} (h:a≤3):a=0∨a=1∨a=2∨a=3:=by omega
theorem subI (a b:Nat) (ha:a≤3) (hb:b≤3):decide (((a ||| b:Nat):Int)=(b:Int))=subL a b:=by
  rcases le3 ha with rfl | rfl | rfl | rfl<;>rcases le3 hb with rfl | rfl | rfl | rfl<;>decide
end Go.Proofs.Ytbknljofedfpjaa.CtR
namespace Go.Proofs.Ytbknljofedfpjaa.CtD
open Go Go.CT CtF CtR
variable [Yn]
end Go.Proofs.Ytbknljofedfpjaa.CtD
namespace Go.Proofs.Ytbknljofedfpjaa.CtR
variable [Go.CT.Yn]
open Go Go.CT CtF
structure Dp where
  sets:List Nat
  tr:Nat
  re:Nat
abbrev orL (l:List Nat):Nat:=l.foldl (fun a b=>a ||| b) 0
def dat (s:List Nat) (i:Nat):Nat:=s.getD i 0
def setE (nv : Nat) (s : List Nat) : Nat → Ex → Nat × Nat
  | 0,_=>(0,0)
  | d+1,.mk k v ks =>
    let o:=orL (ks.map fun e=>(setE nv s d e).1)
    let a:=orL (ks.map fun e=>(setE nv s d e).2)
    if k=2 then (o ||| dat s v.toNat,a) else if k=3 then (o ||| dat s (nv+v.toNat),a ||| o) else (o,a)
def unite (a b:List Nat):List Nat:=List.zipWith (fun x y=>x ||| y) a b
def fixD (f : Dp → Dp) : Nat → Dp → Dp
  | 0,s=>s
  | n+1,s=>if unite s.sets (f s).sets=s.sets then ⟨s.sets,(f s).tr,(f s).re⟩ else fixD f n ⟨unite s.sets (f s).sets,(f s).tr,(f s).re⟩
def FU:Nat:=2 ^ 20
def depS (nv : Nat) : Nat → Nat → Dp → St1 → Dp
  | 0,_,s,_=>s
  | d+1,c,s,.mk k t ix v cc b e =>
    if k=4 then fixD (fun s=>b.foldl (depS nv d c) s) FU s
    else
      let V:=setE nv s.sets 5 v
      if k=2 then
        let I:=setE nv s.sets 5 ix
        ⟨s.sets.set (nv+t.toNat) (dat s.sets (nv+t.toNat) ||| (V.1 ||| I.1 ||| c)),s.tr ||| V.2 ||| I.2 ||| I.1,s.re⟩
      else if k=3 then
        let y:=b.foldl (depS nv d (c ||| V.1)) ⟨s.sets,s.tr ||| V.2 ||| V.1,s.re⟩
        let n:=e.foldl (depS nv d (c ||| V.1)) ⟨s.sets,y.tr,y.re⟩
        ⟨unite y.sets n.sets,n.tr,n.re⟩
      else if k=5 then ⟨s.sets.set t.toNat (V.1 ||| c),s.tr ||| V.2 ||| (V.1 ||| c),s.re ||| (V.1 ||| c)⟩
      else ⟨s.sets.set t.toNat (V.1 ||| c),s.tr ||| V.2,s.re⟩
def startD (w:Nat):Dp:=⟨(List.range w).map fun i=>2 ^ i,0,0⟩
def depP (p:Pg):Dp:=p.body.foldl (depS p.vars.length 5 0) (startD (p.vars.length+p.arrays.length))
theorem depS_4 (nv d c:Nat) (s:Dp) (t:Int) (ix v:Ex) (cc:Int) (b e:List St1):depS nv (d+1) c s (.mk 4 t ix v cc b e)=fixD (fun s=>b.foldl (depS nv d c) s) FU s:=by simp [depS]
theorem depS_1 (nv d c:Nat) (s:Dp) (t:Int) (ix v:Ex) (cc:Int) (b e:List St1):depS nv (d+1) c s (.mk 1 t ix v cc b e)=⟨s.sets.set t.toNat ((setE nv s.sets 5 v).1 ||| c),s.tr ||| (setE nv s.sets 5 v).2,s.re⟩:=by simp [depS]
theorem depS_5 (nv d c:Nat) (s:Dp) (t:Int) (ix v:Ex) (cc:Int) (b e:List St1):depS nv (d+1) c s (.mk 5 t ix v cc b e)=⟨s.sets.set t.toNat ((setE nv s.sets 5 v).1 ||| c),s.tr ||| (setE nv s.sets 5 v).2 ||| ((setE nv s.sets 5 v).1 ||| c),s.re ||| ((setE nv s.sets 5 v).1 ||| c)⟩:=by simp [depS]
theorem depS_2 (nv d c : Nat) (s : Dp) (t : Int) (ix v : Ex) (cc : Int) (b e : List St1) : depS nv (d + 1) c s (.mk 2 t ix v cc b e) =
    ⟨s.sets.set (nv+t.toNat) (dat s.sets (nv+t.toNat) ||| ((setE nv s.sets 5 v).1 ||| (setE nv s.sets 5 ix).1 ||| c)),s.tr ||| (setE nv s.sets 5 v).2 ||| (setE nv s.sets 5 ix).2 ||| (setE nv s.sets 5 ix).1,s.re⟩:=by simp [depS]
def ifY (nv d c:Nat) (s:Dp) (v:Ex) (b:List St1):Dp:=b.foldl (depS nv d (c ||| (setE nv s.sets 5 v).1)) ⟨s.sets,s.tr ||| (setE nv s.sets 5 v).2 ||| (setE nv s.sets 5 v).1,s.re⟩
def ifN (nv d c:Nat) (s:Dp) (v:Ex) (b e:List St1):Dp:=e.foldl (depS nv d (c ||| (setE nv s.sets 5 v).1)) ⟨s.sets,(ifY nv d c s v b).tr,(ifY nv d c s v b).re⟩
theorem depS_3 (nv d c : Nat) (s : Dp) (t : Int) (ix v : Ex) (cc : Int) (b e : List St1) : depS nv (d + 1) c s (.mk 3 t ix v cc b e) =
    ⟨unite (ifY nv d c s v b).sets (ifN nv d c s v b e).sets,(ifN nv d c s v b e).tr,(ifN nv d c s v b e).re⟩:=by simp [depS,ifY,ifN]
theorem dat_set (s:List Nat) (i j x:Nat):dat (s.set i x) j=if i=j∧i<s.length then x else dat s j:=by
  unfold dat
  rw [List.getD_eq_getElem?_getD,List.getD_eq_getElem?_getD,List.getElem?_set]
  by_cases h:i=j
  · subst h
    by_cases h2:i<s.length<;>simp [h2]
  · simp [h]
theorem unite_len {a b:List Nat} (h:b.length=a.length):(unite a b).length=a.length:=by simp [unite,h]
theorem dat_unite {a b:List Nat} (h:b.length=a.length) (i:Nat):dat (unite a b) i=dat a i ||| dat b i:=by
  unfold dat unite
  simp only [List.getD_eq_getElem?_getD,List.getElem?_zipWith]
  by_cases hi:i<a.length
  · have hj:i<b.length:=by omega
    simp [hi,hj]
  · have hj:¬ i<b.length:=by omega
    simp [List.getElem?_eq_none (Nat.not_lt.mp hi),List.getElem?_eq_none (Nat.not_lt.mp hj)]
theorem list_sum_lt {w : Nat} : ∀ {l : List Nat}, (∀ a ∈ l, a < 2 ^ w) → l.sum ≤ l.length * 2 ^ w
  | [],_=>by simp
  | a :: r,h=>by
    have:=list_sum_lt (l:=r) fun b hb=>h b (by simp [hb])
    have:=h a (by simp)
    simp only [List.sum_cons,List.length_cons,Nat.succ_mul];omega
theorem unite_sum : ∀ {a b : List Nat}, b.length = a.length → a.sum ≤ (unite a b).sum ∧ (unite a b ≠ a → a.sum < (unite a b).sum)
  | [],[],_=>by simp [unite]
  | a :: r,b :: q,h=>by
    have ⟨h1,h2⟩:=unite_sum (a:=r) (b:=q) (by simpa using h)
    have e:unite (a :: r) (b :: q)=(a ||| b) :: unite r q:=by simp [unite]
    have h3:a≤a ||| b:=Nat.left_le_or
    rw [e]
    simp only [List.sum_cons]
    refine ⟨by omega,fun hne=>?_⟩
    by_cases h4:unite r q=r
    · have:a ||| b ≠ a:=fun h5=>hne (by rw [h4,h5])
      omega
    · have:=h2 h4
      omega
  | [],_ :: _,h=>by simp at h
  | _ :: _,[],h=>by simp at h
structure Okd (w : Nat) (s : Dp) : Prop where
  len:s.sets.length=w
  le:w≤14
  row:∀ a ∈ s.sets,a<2 ^ w
  tr:s.tr<2 ^ w
  re:s.re<2 ^ w
theorem dat_lt {w:Nat} {s:List Nat} (h:∀ a ∈ s,a<2 ^ w) (i:Nat):dat s i<2 ^ w:=by
  unfold dat
  rw [List.getD_eq_getElem?_getD]
  cases he:s[i]? with
  | none=>simp;exact Nat.two_pow_pos w
  | some a=>exact h a (List.mem_of_getElem? he)
theorem orL_lt {w : Nat} : ∀ {l : List Nat} {a : Nat}, a < 2 ^ w → (∀ x ∈ l, x < 2 ^ w) → l.foldl (fun a b => a ||| b) a < 2 ^ w
  | [],a,h,_=>h
  | b :: r,a,h,hl=>by rw [List.foldl_cons];exact orL_lt (Nat.or_lt_two_pow h (hl b (by simp))) fun x hx=>hl x (by simp [hx])
theorem setE_lt {w nv : Nat} {s : List Nat} (h : ∀ a ∈ s, a < 2 ^ w) : ∀ (d : Nat) (e : Ex), (setE nv s d e).1 < 2 ^ w ∧ (setE nv s d e).2 < 2 ^ w
  | 0,_=>⟨Nat.two_pow_pos w,Nat.two_pow_pos w⟩
  | d+1,.mk k v ks=>by
    have h1:orL (ks.map fun e=>(setE nv s d e).1)<2 ^ w:=orL_lt (Nat.two_pow_pos w) fun x hx=>by
      obtain ⟨e,he,rfl⟩:=List.mem_map.1 hx;exact (setE_lt h d e).1
    have h2:orL (ks.map fun e=>(setE nv s d e).2)<2 ^ w:=orL_lt (Nat.two_pow_pos w) fun x hx=>by
      obtain ⟨e,he,rfl⟩:=List.mem_map.1 hx;exact (setE_lt h d e).2
    simp only [setE]
    split
    · exact ⟨Nat.or_lt_two_pow h1 (dat_lt h _),h2⟩
    · split
      · exact ⟨Nat.or_lt_two_pow h1 (dat_lt h _),Nat.or_lt_two_pow h2 h1⟩
      · exact ⟨h1,h2⟩
theorem set_row {w:Nat} {s:List Nat} (h:∀ a ∈ s,a<2 ^ w) {i x:Nat} (hx:x<2 ^ w):∀ a ∈ s.set i x,a<2 ^ w:=fun a ha=>by
  rcases List.mem_or_eq_of_mem_set ha with h1 | h1
  · exact h a h1
  · rw [h1];exact hx
theorem unite_row {w : Nat} : ∀ {a b : List Nat}, (∀ x ∈ a, x < 2 ^ w) → (∀ x ∈ b, x < 2 ^ w) → ∀ x ∈ unite a b, x < 2 ^ w
  | [],_,_,_,x,hx=>by simp [unite] at hx
  | _ :: _,[],_,_,x,hx=>by simp [unite] at hx
  | a :: r,b :: q,h1,h2,x,hx=>by
    have e:unite (a :: r) (b :: q)=(a ||| b) :: unite r q:=by simp [unite]
    rw [e] at hx
    rcases List.mem_cons.1 hx with h | h
    · rw [h];exact Nat.or_lt_two_pow (h1 a (by simp)) (h2 b (by simp))
    · exact unite_row (fun y hy=>h1 y (by simp [hy])) (fun y hy=>h2 y (by simp [hy])) x h
theorem Okd.unite {w:Nat} {s t:Dp} (h:Okd w s) (h':Okd w t) {a b:Nat} (ha:a<2 ^ w) (hb:b<2 ^ w):Okd w ⟨CtR.unite s.sets t.sets,a,b⟩ :=
  ⟨by rw [unite_len (by rw [h'.len,h.len])];exact h.len,h.le,unite_row h.row h'.row,ha,hb⟩
theorem fix_spec {w : Nat} {f : Dp → Dp} (hf : ∀ s, Okd w s → Okd w (f s)) (Q : Dp → Prop)
    (hQ:∀ s,Okd w s→Q s→Q ⟨unite s.sets (f s).sets,(f s).tr,(f s).re⟩):∀ (n:Nat) (s:Dp),Okd w s→Q s→w * 2 ^ w<n+s.sets.sum →
    ∃ t,Okd w t∧Q t∧fixD f n s=⟨t.sets,(f t).tr,(f t).re⟩∧unite t.sets (f t).sets=t.sets
  | 0,s,h,_,hn=>by
    have:=list_sum_lt (w:=w) h.row
    rw [h.len] at this
    omega
  | n+1,s,h,hq,hn=>by
    have hfs:=hf s h
    unfold fixD
    by_cases he:unite s.sets (f s).sets=s.sets
    · rw [if_pos he]
      exact ⟨s,h,hq,rfl,he⟩
    · rw [if_neg he]
      have h2:=(unite_sum (a:=s.sets) (b:=(f s).sets) (by rw [hfs.len,h.len])).2 he
      exact fix_spec hf Q hQ n _ (h.unite hfs hfs.tr hfs.re) (hQ s h hq) (by show w * 2 ^ w<n+(unite s.sets (f s).sets).sum;omega)
theorem fu_big {w:Nat} (h:w≤14) (x:Nat):w * 2 ^ w<FU+x:=by
  have h1:2 ^ w≤2 ^ 14:=Nat.pow_le_pow_right (by omega) h
  have h2:w * 2 ^ w≤14 * 2 ^ 14:=Nat.mul_le_mul h h1
  unfold FU
  omega
theorem fold_inv {α β : Type} {Q : α → Prop} {f : α → β → α} : ∀ (l : List β) (s : α), Q s → (∀ x ∈ l, ∀ s, Q s → Q (f s x)) → Q (l.foldl f s)
  | [],_,h,_=>h
  | x :: r,s,h,hf=>fold_inv r _ (hf x (by simp) s h) fun y hy=>hf y (by simp [hy])
theorem dep_ok {w nv : Nat} : ∀ (d c : Nat) (s : Dp) (t : St1), c < 2 ^ w → Okd w s → Okd w (depS nv d c s t)
  | 0,_,_,_,_,h=>h
  | d+1,c,s,.mk k t ix v cc b e,hc,h=>by
    have hV:=setE_lt (nv:=nv) h.row 5 v
    have hI:=setE_lt (nv:=nv) h.row 5 ix
    have hl:∀ (c:Nat) (l:List St1) (s:Dp),c<2 ^ w→Okd w s→Okd w (l.foldl (depS nv d c) s):=fun c l s hc h =>
      fold_inv (Q:=Okd w) l s h fun x _ s hs=>dep_ok d c s x hc hs
    have o:=fun {a b:Nat} (h1:a<2 ^ w) (h2:b<2 ^ w)=>Nat.or_lt_two_pow h1 h2
    by_cases k4:k=4
    · subst k4
      rw [depS_4]
      obtain ⟨t,ht,_,e1,_⟩:=fix_spec (f:=fun s=>b.foldl (depS nv d c) s) (fun s hs=>hl c b s hc hs) (fun _=>True) (fun _ _ _=>trivial) FU s h trivial (fu_big h.le _)
      rw [e1]
      have:=hl c b t hc ht
      exact ⟨ht.len,ht.le,ht.row,this.tr,this.re⟩
    by_cases k1:k=1
    · subst k1
      rw [depS_1]
      exact ⟨by simp [h.len],h.le,set_row h.row (o hV.1 hc),o h.tr hV.2,h.re⟩
    by_cases k5:k=5
    · subst k5
      rw [depS_5]
      exact ⟨by simp [h.len],h.le,set_row h.row (o hV.1 hc),o (o h.tr hV.2) (o hV.1 hc),o h.re (o hV.1 hc)⟩
    by_cases k2:k=2
    · subst k2
      rw [depS_2]
      exact ⟨by simp [h.len],h.le,set_row h.row (o (dat_lt h.row _) (o (o hV.1 hI.1) hc)),o (o (o h.tr hV.2) hI.2) hI.1,h.re⟩
    by_cases k3:k=3
    · subst k3
      rw [depS_3]
      have hy:Okd w (ifY nv d c s v b):=hl _ b _ (o hc hV.1) ⟨h.len,h.le,h.row,o (o h.tr hV.2) hV.1,h.re⟩
      have hn:Okd w (ifN nv d c s v b e):=hl _ e _ (o hc hV.1) ⟨h.len,h.le,h.row,hy.tr,hy.re⟩
      exact hy.unite hn hn.tr hn.re
    · have:depS nv (d+1) c s (.mk k t ix v cc b e)=⟨s.sets.set t.toNat ((setE nv s.sets 5 v).1 ||| c),s.tr ||| (setE nv s.sets 5 v).2,s.re⟩:=by simp [depS,k4,k2,k3,k5]
      rw [this]
      exact ⟨by simp [h.len],h.le,set_row h.row (o hV.1 hc),o h.tr hV.2,h.re⟩
open Go Go.CT CtF
theorem foldl_ok {w nv d c:Nat} (hc:c<2 ^ w) (l:List St1) {s:Dp} (h:Okd w s):Okd w (l.foldl (depS nv d c) s) :=
  fold_inv (Q:=Okd w) l s h fun x _ s hs=>dep_ok d c s x hc hs
end Go.Proofs.Ytbknljofedfpjaa.CtR
namespace Go.Proofs.Ytbknljofedfpjaa.CtD
open Go Go.CT CtF CtR
variable [Yn]
def nI (S:List Nat):List Int:=S.map fun (n:Nat)=>(n:Int)
theorem nI_len (S:List Nat):(nI S).length=S.length:=by simp [nI]
theorem nI_at {S:List Nat} {i:Nat} (h:i<S.length):(nI S)[i]? = some ((dat S i:Nat):Int):=by
  unfold nI dat;rw [List.getElem?_map,List.getD_eq_getElem?_getD,List.getElem?_eq_getElem h];rfl
theorem nI_set (S:List Nat) (i x:Nat):(nI S).set i (x:Int)=nI (S.set i x):=by unfold nI;rw [List.map_set]
theorem nI_put (S:List Nat) (i x:Nat):((nI S).map I64).set i (.v (.int .i64 (x:Int)))=(nI (S.set i x)).map I64:=by rw [← nI_set,List.map_set]
theorem nI_inj : ∀ {S T : List Nat}, nI S = nI T → S = T
  | [],[],_=>rfl
  | [],_ :: _,h=>by simp [nI] at h
  | _ :: _,[],h=>by simp [nI] at h
  | a :: r,b :: q,h=>by
    simp only [nI,List.map_cons,List.cons.injEq] at h
    rw [nI_inj (S:=r) (T:=q) h.2,show a=b by omega]
def dpB (p:Pg) (tr re:Nat):List C:=p.cells++[I64 (tr:Int),I64 (re:Int)]
theorem dpB_eq (p:Pg) (tr re:Nat):dpB p tr re=[isI p.vars,isI p.arrays,.isl 11 (St1.cellsL p.body),I64 (tr:Int),I64 (re:Int)]:=rfl
theorem dpB_kf (p:Pg) (tr re:Nat):kfs (dpB p tr re)=true:=by
  rw [dpB_eq];rfl
theorem dpB_ren (r:Nat→Nat) (p:Pg) (tr re:Nat):renCs r (dpB p tr re)=dpB p tr re:=renCs_plain _ (dpB_kf _ _ _)
theorem dpB_all (p:Pg) (tr re:Nat):∀ c ∈ dpB p tr re,kf c=true:=by
  rw [dpB_eq];intro c hc
  simp only [List.mem_cons,List.not_mem_nil,or_false] at hc
  rcases hc with rfl | rfl | rfl | rfl | rfl<;>rfl
theorem pow14 {w x:Nat} (hw:w≤14) (h:x<2 ^ w):x<16384:=by
  have:2 ^ w≤2 ^ 14:=Nat.pow_le_pow_right (by omega) hw
  omega
theorem dat_get {S:List Nat} {i:Nat} (h:i<S.length):S[i]? = some (dat S i):=by
  unfold dat;rw [List.getD_eq_getElem?_getD,List.getElem?_eq_getElem h];rfl
def fst1 (f:Ex→Nat × Nat) (ks:List Ex) (i:Nat):Nat:=orL ((ks.take i).map fun e=>(f e).1)
def snd1 (f:Ex→Nat × Nat) (ks:List Ex) (i:Nat):Nat:=orL ((ks.take i).map fun e=>(f e).2)
theorem fst1_succ (f:Ex→Nat × Nat) (ks:List Ex) (i:Nat) (x:Ex) (h:ks[i]? = some x):fst1 f ks (i+1)=fst1 f ks i ||| (f x).1:=by
  unfold fst1 orL;rw [List.take_add_one,h];simp
theorem snd1_succ (f:Ex→Nat × Nat) (ks:List Ex) (i:Nat) (x:Ex) (h:ks[i]? = some x):snd1 f ks (i+1)=snd1 f ks i ||| (f x).2:=by
  unfold snd1 orL;rw [List.take_add_one,h];simp
theorem fst1_lt {w:Nat} {f:Ex→Nat × Nat} (hf:∀ e,(f e).1<2 ^ w) (ks:List Ex) (i:Nat):fst1 f ks i<2 ^ w:=orL_lt (Nat.two_pow_pos w) fun x hx=>by
  obtain ⟨e,_,rfl⟩:=List.mem_map.1 hx;exact hf e
theorem snd1_lt {w:Nat} {f:Ex→Nat × Nat} (hf:∀ e,(f e).2<2 ^ w) (ks:List Ex) (i:Nat):snd1 f ks i<2 ^ w:=orL_lt (Nat.two_pow_pos w) fun x hx=>by
  obtain ⟨e,_,rfl⟩:=List.mem_map.1 hx;exact hf e
theorem setE_succ (nv : Nat) (S : List Nat) (d : Nat) (k v : Int) (ks : List Ex) : setE nv S (d + 1) (.mk k v ks) =
    (if k = 2 then (fst1 (setE nv S d) ks ks.length ||| dat S v.toNat, snd1 (setE nv S d) ks ks.length)
     else if k=3 then (fst1 (setE nv S d) ks ks.length ||| dat S (nv+v.toNat),snd1 (setE nv S d) ks ks.length ||| fst1 (setE nv S d) ks ks.length)
     else (fst1 (setE nv S d) ks ks.length,snd1 (setE nv S d) ks ks.length)):=by
  simp only [setE,fst1,snd1,List.take_length]
theorem cellI (p:Pg) (hl:p.vars.length≤14) (n:Nat) (hn:n≤14):DC Try.prog 62 [.agg p.cells,DI .i64 (n:Int)] [] (fun r h=>r=DI .i64 ((p.vars.length+n:Nat):Int)∧h=[]):=by
  obtain ⟨vs,ar,bd⟩:=p
  have hl:vs.length≤14:=hl
  simp only
  have hmx:=mx_eq
  generalize hR:(fun (r:D) (h:List (Option (List C)))=>r=DI .i64 ((vs.length+n:Nat):Int)∧h=[])=R
  refine dcZ Try.func62 ?_
  simp only [go_sem]
  iterate 3 ((try (refine drvZ Try.func62 ?_;simp only [go_sem]));((with_reducible and_intros)<;>try exact sd);(try first | refine XK.gs (DB false) ?_))
  refine RetOb.plain (d:=DI .i64 _) ?_ rfl
  rw [← hR]
  exact ⟨by push_cast;rfl,rfl⟩
theorem cloneM (xs:List Int) (hl:xs.length≤1000000) (h0:0<xs.length):DC Try.prog 43 [.c (.msl 0 1 0 xs.length)] [some (xs.map I64)] (fun d h=>d = .c (.msl 1 1 0 xs.length)∧h=[some (xs.map I64),some (xs.map I64)]):=by
  have hmx:=mx_eq
  have ht:List.take xs.length (xs.map I64)=xs.map I64:=List.take_of_length_le (by simp)
  generalize hR:(fun (r:D) (h:List (Option (List C)))=>r = .c (.msl 1 1 0 xs.length)∧h=[some (xs.map I64),some (xs.map I64)])=R
  refine dcZ Try.func43 ?_
  simp only [go_sem,h0]
  iterate 4 ((try (refine drvZ Try.func43 ?_;simp only [go_sem,h0,ht]));((with_reducible and_intros)<;>try exact sd);(try first | refine XK.gs (DB false) ?_))
  refine RetOb.ofQ (fun j=>if j=0 then some 0 else if j=1 then some 321 else none) [] (.c (.msl 1 1 0 xs.length)) [some (xs.map I64),some (xs.map I64)] ?_ (by rw [← hR];exact ⟨rfl,rfl⟩) (by simp)
  simp [enumL,DM,DMs,CM,HpOK,LowOK,hOf,upd,hpL]
  exact CMs.kf (kf_I _)
theorem equalM (xs ys:List Int) (hl:xs.length≤mx) (hlen:xs.length=ys.length):DC Try.prog 75 [.c (.msl 0 1 0 xs.length),.c (.msl 1 1 0 xs.length)] [some (xs.map I64),some (ys.map I64)] (fun r h=>r=DB (decide (xs=ys))∧h=[some (xs.map I64),some (ys.map I64)]):=by
  have hmx:=mx_eq
  have ret:∀ (b:Bool) (hp:Hp),b=decide (xs=ys)→hp 0=some (some (xs.map I64))→hp 1=some (some (ys.map I64))→RetOb 2 (fun r h=>r=DB (decide (xs=ys))∧h=[some (xs.map I64),some (ys.map I64)]) (DB b) hp:=fun b hp h h0 h1=>by
    refine RetOb.ofQ some [] (DB b) [some (xs.map I64),some (ys.map I64)] ?_ ⟨by rw [h],rfl⟩ (by simp)
    simp [enumL,DM,DMs,CM,HpOK,LowOK,hOf,upd,h0,h1]
    exact ⟨CMs.kf (kf_I _),CMs.kf (kf_I _)⟩
  generalize hR:(fun (r:D) (h:List (Option (List C)))=>r=DB (decide (xs=ys))∧h=[some (xs.map I64),some (ys.map I64)])=R at *
  have hb:((xs.length:Int) != xs.length)=false:=by simp
  refine dcZ Try.func75 ?_
  simp only [go_sem,hb]
  iterate 3 ((try (refine drvZ Try.func75 ?_;simp only [go_sem,hb]));((with_reducible and_intros)<;>try exact sd))
  refine Go.loopQ (fun i:Nat=>[(0,.c (.msl 0 1 0 xs.length)),(1,.c (.msl 1 1 0 xs.length)),(12,DI .i64 xs.length),(13,DI .i64 i)]) (fun _=>[(0,some (xs.map I64)),(1,some (ys.map I64))]) 1024 (fun i=>i≤xs.length∧decide (xs=ys)=decide (xs.drop i=ys.drop i)) (fun i=>xs.length - i) ?_ 0 some [] _ ⟨Nat.zero_le _,rfl⟩ ?_
  · intro i hi again
    have hi':=hi.1
    rcases Nat.lt_or_ge i xs.length with hlt | hge
    · obtain ⟨x,hx⟩:∃ x,xs[i]? = some x:=⟨xs[i],by simp [hlt]⟩
      obtain ⟨y,hy⟩:∃ y,ys[i]? = some y:=⟨ys[i]'(by omega),by simp⟩
      have hI:=hi.2
      obtain ⟨_,ex⟩:=List.getElem?_eq_some_iff.1 hx
      obtain ⟨hyl,ey⟩:=List.getElem?_eq_some_iff.1 hy
      rw [List.drop_eq_getElem_cons hlt,List.drop_eq_getElem_cons hyl,ex,ey] at hI
      by_cases hxy:x=y
      · have hq:(x != y)=false:=by simp [hxy]
        refine drvL Try.func75 ?_
        simp only [go_sem,hlt,hx,hy,hq]
        iterate 6 ((try (refine drvZ Try.func75 ?_;simp only [go_sem,hlt,hx,hy,hq]));((with_reducible and_intros)<;>try exact sd);(try first | refine XK.gs (DB false) ?_))
        refine again (i+1) some [] _ ⟨by omega,by rw [hI];simp [hxy]⟩ (by omega) ?_
        simp only [go_sem,TmOK,DM,DMs,CM,CMs,forall_eq,exists_eq_left,Mq,HpOK,LowOK]
        simp
        try exact ⟨CMs.kf (kf_I _),CMs.kf (kf_I _)⟩
      · have hq:(x != y)=true:=by simp [hxy]
        refine drvL Try.func75 ?_
        simp only [go_sem,hlt,hx,hy,hq]
        iterate 6 ((try (refine drvZ Try.func75 ?_;simp only [go_sem,hlt,hx,hy,hq]));((with_reducible and_intros)<;>try exact sd);(try first | refine XK.gs (DB false) ?_))
        exact ret _ _ (by rw [hI];simp [hxy]) rfl rfl
    · have hn:¬ i<xs.length:=by omega
      refine drvL Try.func75 ?_
      simp only [go_sem,hn]
      iterate 6 ((try (refine drvZ Try.func75 ?_;simp only [go_sem,hn]));((with_reducible and_intros)<;>try exact sd);(try first | refine XK.gs (DB false) ?_))
      exact ret _ _ (by rw [hi.2,List.drop_of_length_le hge,List.drop_of_length_le (by omega)];rfl) rfl rfl
  · simp only [go_sem,TmOK,DM,DMs,CM,CMs,forall_eq,exists_eq_left,Mq,HpOK,LowOK]
    simp
    try exact ⟨CMs.kf (kf_I _),CMs.kf (kf_I _)⟩
def uniA (a b : List Nat) : Nat → List Nat
  | 0=>a
  | i+1=>(uniA a b i).set i (dat (uniA a b i) i ||| dat b i)
theorem uniA_len (a b : List Nat) : ∀ i, (uniA a b i).length = a.length
  | 0=>rfl
  | i+1=>by rw [uniA,List.length_set,uniA_len a b i]
theorem uniA_dat (a b : List Nat) : ∀ i j, i ≤ a.length → dat (uniA a b i) j = if j < i then dat a j ||| dat b j else dat a j
  | 0,j,_=>by simp [uniA]
  | i+1,j,h=>by
    have h1:=uniA_dat a b i j (by omega)
    have h2:=uniA_dat a b i i (by omega)
    rw [uniA,dat_set,uniA_len]
    by_cases e:i=j
    · subst e
      rw [if_pos ⟨rfl,by omega⟩,h2,if_neg (by omega),if_pos (by omega)]
    · rw [if_neg (fun x=>e x.1),h1]
      by_cases e2:j<i
      · rw [if_pos e2,if_pos (by omega)]
      · rw [if_neg e2,if_neg (by omega)]
theorem dat_ext {a b:List Nat} (hl:a.length=b.length) (h:∀ i,i<a.length→dat a i=dat b i):a=b:=by
  refine List.ext_getElem hl fun i h1 h2=>?_
  have:=h i h1
  rw [dat,dat,List.getD_eq_getElem?_getD,List.getD_eq_getElem?_getD,List.getElem?_eq_getElem h1,List.getElem?_eq_getElem h2] at this
  exact this
theorem uniA_all {a b:List Nat} (h:b.length=a.length):uniA a b a.length=unite a b :=
  dat_ext (by rw [uniA_len,unite_len h]) fun i hi=>by
    rw [uniA_len] at hi
    rw [uniA_dat a b _ i (Nat.le_refl _),if_pos hi,dat_unite h]
theorem unitedI (a b : List Nat) (n : Nat) (ha : a.length = n) (hb : b.length = n) (h0 : 0 < n) (hn : n ≤ 14) (ra : ∀ x ∈ a, x < 16384) (rb : ∀ x ∈ b, x < 16384) : DC Try.prog 74 [.c (.msl 0 1 0 n), .c (.msl 1 1 0 n)] [some ((nI a).map I64), some ((nI b).map I64)]
    (fun r h=>r = .c (.msl 2 1 0 n)∧h=[some ((nI a).map I64),some ((nI b).map I64),some ((nI (unite a b)).map I64)]):=by
  have hmx:=mx_eq
  rw [← uniA_all (hb.trans ha.symm),ha]
  have hcl:=cloneM (nI a) (by rw [nI_len];omega) (by rw [nI_len];omega)
  rw [nI_len,ha] at hcl
  have hla:=nI_len a
  have hlb:=nI_len b
  generalize hR:(fun (r:D) (h:List (Option (List C)))=>r = .c (.msl 2 1 0 n)∧h=[some ((nI a).map I64),some ((nI b).map I64),some ((nI (uniA a b n)).map I64)])=R
  refine dcZ Try.func74 ?_
  simp only [go_sem]
  iterate 2 ((try (refine drvZ Try.func74 ?_;simp only [go_sem]));((with_reducible and_intros)<;>try exact sd))
  refine XK.callG [0] hcl ok43 (hhpG (by simp [HH,upd,hpL,renCs_I])) (hbT ()) (fun d h' ⟨_,e⟩=>by subst e;simp) ?_
  rintro _ _ ⟨rfl,rfl⟩ _
  iterate 3 ((try (refine drvZ Try.func74 ?_;simp only [go_sem,renCs_I]));((with_reducible and_intros)<;>try exact sd))
  refine Go.loopQ (fun i : Nat => [(5, .c (.msl 2 1 0 n)), (10, .c (.msl 1 1 0 n)), (11, DI .i64 n), (12, DI .i64 i)])
    (fun i=>[(0,some ((nI a).map I64)),(1,some ((nI b).map I64)),(2,some ((nI (uniA a b i)).map I64))]) 1024 (fun i=>i≤n) (fun i=>n - i) ?_ 0 (fun j=>if j=2 then some 130 else if j<2 then some j else none) [] _ (Nat.zero_le _) ?_
  · intro i hi again
    rcases Nat.lt_or_ge i n with hlt | hge
    · have hlu:=uniA_len a b i
      have hx:(nI (uniA a b i))[i]? = some ((dat (uniA a b i) i:Nat):Int):=nI_at (by omega)
      have hy:(nI b)[i]? = some ((dat b i:Nat):Int):=nI_at (by omega)
      have hlU:=nI_len (uniA a b i)
      have hs:=nI_put (uniA a b i) i (dat (uniA a b i) i ||| dat b i)
      have e1:uniA a b (i+1)=(uniA a b i).set i (dat (uniA a b i) i ||| dat b i):=rfl
      have hq:dat (uniA a b i) i<16384:=by
        rw [uniA_dat a b i i (by omega),if_neg (by omega)];exact dat_lt (w:=14) ra i
      have hq2:dat b i<16384:=dat_lt (w:=14) rb i
      generalize uniA a b i=U at *
      generalize dat U i=u at *
      generalize dat b i=v at *
      refine drvL Try.func74 ?_
      simp only [go_sem,hlt,hx,hy]
      iterate 6 ((try (refine drvZ Try.func74 ?_;simp only [go_sem,hlt,hx,hy,hs]));((with_reducible and_intros)<;>try exact sd))
      refine again (i+1) some [] _ hlt (by omega) ?_
      simp only [go_sem,TmOK,DM,DMs,CM,CMs,forall_eq,exists_eq_left,Mq,HpOK,LowOK,e1]
      simp
      exact ⟨CMs.kf (kf_I _),CMs.kf (kf_I _),CMs.kf (kf_I _)⟩
    · have hn2:¬ i<n:=by omega
      obtain rfl:i=n:=by omega
      refine drvL Try.func74 ?_
      simp only [go_sem,hn2]
      iterate 6 ((try (refine drvZ Try.func74 ?_;simp only [go_sem,hn2]));((with_reducible and_intros)<;>try exact sd);(try first | refine XK.gs (DB false) ?_))
      refine RetOb.ofQ some [] (.c (.msl 2 1 0 i)) [some ((nI a).map I64),some ((nI b).map I64),some ((nI (uniA a b i)).map I64)] ?_ (by rw [← hR];exact ⟨rfl,rfl⟩) (by simp)
      simp [enumL,DM,DMs,CM,HpOK,LowOK,hOf,upd,hpL]
      exact ⟨CMs.kf (kf_I _),CMs.kf (kf_I _),CMs.kf (kf_I _)⟩
  · simp only [go_sem,TmOK,DM,DMs,CM,CMs,forall_eq,exists_eq_left,Mq,HpOK,LowOK,uniA]
    simp
    exact ⟨CMs.kf (kf_I _),CMs.kf (kf_I _),CMs.kf (kf_I _)⟩
end Go.Proofs.Ytbknljofedfpjaa.CtD
