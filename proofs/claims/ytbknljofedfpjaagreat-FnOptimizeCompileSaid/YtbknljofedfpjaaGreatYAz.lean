/- Contracts of functions of the program, one behind the other, as plain data: what each call returns and which blocks it leaves. -/
import Derived.Test.YtbknljofedfpjaaGreatYFacts
import Derived.Test.YtbknljofedfpjaaGreatYAj
import Derived.Test.YtbknljofedfpjaaGreatYAk
import Derived.Test.YtbknljofedfpjaaGreatYAm
import Derived.Test.YtbknljofedfpjaaGreatYAr
import Derived.Test.YtbknljofedfpjaaGreatYAs
import Derived.Test.YtbknljofedfpjaaGreatYAt
import Derived.Test.YtbknljofedfpjaaGreatYAw
import Derived.Test.YtbknljofedfpjaaGreatYAy
import Derived.Test.YtbknljofedfpjaaGreatYAo
import Derived.Test.YtbknljofedfpjaaGreatYAq
import Derived.Test.YtbknljofedfpjaaGreatYAx
set_option linter.unusedVariables false
set_option linter.unusedSimpArgs false
set_option linter.unusedSectionVars false
set_option maxHeartbeats 16000000
set_option maxRecDepth 100000
namespace Go.Proofs.YtbknljofedfpjaaGreat.CtD
open Go Go.CT CtF CtR
variable [Yn]
open CtL (In Cd tgt aim WfC atC codeOK thL finJ chase thA folM)
theorem cloneN (xs:List In) (hl:xs.length≤1000000):DC Tryz.prog 110 [.c (.isl 5 (xs.map inX))] [] (fun d h=>d = .c (.msl 0 5 0 xs.length)∧h=[some (inC xs)]):=by
 have hmx:=mx_eq
 cases xs with
 | nil =>
  refine DC.isl0 fun a c=>?_
  refine dc_of_go Tryz.func110 rfl (by simp) ?_
  refine drv_sound (n:=100) (rs:=_) Tryz.func110 mo rfl none _ _ ?_
  cases a with
  | none =>
   simp only [go_sem]
   exact RetOb.newNil ⟨rfl,rfl⟩
  | some a =>
   simp only [go_sem]
   refine ⟨fun k e=>by cases e;rfl,RetOb.new1 ⟨rfl,rfl⟩ (upd_same _ _ _) (by simp [inC])⟩
 | cons a r =>
  have hr:r.length+1≤1000000:=hl
  have hf:=inC_len (a :: r)
  obtain ⟨L,hL⟩:∃ L,inC (a :: r)=L:=⟨_,rfl⟩
  have hL2:((a :: r).map inX).flatten=L:=hL
  rw [hL] at hf ⊢
  have hkf:=inC_kf (a :: r)
  rw [hL] at hkf
  simp only [List.map_cons,List.flatten_cons,List.length_cons] at hL2 hf
  refine dcZ Tryz.func110 ?_
  simp only [go_sem]
  iterate 3 ((try (refine drvZ Tryz.func110 ?_;simp only [go_sem,hL2,hf,List.length_map,List.flatten_cons]));((with_reducible and_intros)<;>try exact sd))
  exact RetOb.new1 ⟨rfl,rfl⟩ (upd_same _ _ _) hkf
theorem followI (c:Cd) (hl:c.list.length≤1000000) (i:Nat) (hi:i<c.list.length):DC Tryz.prog 126 [.agg (cdC c),.c (I64 i)] [] (fun r h=>r = .c (.msl 0 1 0 (folM c.list i).length)∧h=[some ((nI (folM c.list i)).map I64)]):=by
 have hmx:=mx_eq
 obtain ⟨vs,ar,l⟩:=c
 simp only at hl hi
 obtain ⟨x,hx⟩:∃ x,l[i]? = some x:=⟨l[i],by simp [hi]⟩
 have hat:=CtL.atC_get hx
 have htg:=tgtI x
 have ret0:∀ hp:Hp,folM l i=[]→RetOb 0 (fun r h=>r = .c (.msl 0 1 0 (folM l i).length)∧h=[some ((nI (folM l i)).map I64)]) (.c (.v (.slice none 0 0))) hp:=fun hp e=>by
  rw [e];exact RetOb.newNil ⟨rfl,rfl⟩
 have ret:∀ (L:List Nat) (K n:Nat) (hp:Hp),folM l i=L→hp K=some (some ((nI L).map I64))→n=L.length→RetOb 0 (fun r h=>r = .c (.msl 0 1 0 (folM l i).length)∧h=[some ((nI (folM l i)).map I64)]) (.c (.msl K 1 0 n)) hp:=by
  rintro L K n hp rfl hk rfl
  refine RetOb.ofQ (fun j=>if j=0 then some K else none) [] _ _ ?_ ⟨rfl,rfl⟩ (by simp)
  simp [enumL,hOf,DM,CM,HpOK,LowOK,upd,hk,CMs_I]
 have hfo:folM l i=(if 0≤tgt x then [(tgt x).toNat] else [])++(if x.op ≠ 8∧x.op ≠ 13 then [i+1] else []):=by unfold CtL.folM;rw [hat]
 generalize hR:(fun (r:D) (h:List (Option (List C)))=>r = .c (.msl 0 1 0 (folM l i).length)∧h=[some ((nI (folM l i)).map I64)])=R at ret ret0 ⊢
 clear hR
 obtain ⟨op,xa,xb,xc,xd⟩:=x
 unfold inX at htg
 simp only at hfo
 generalize tgt ⟨op,xa,xb,xc,xd⟩=t at *
 simp only [cdC,ints]
 by_cases ht:0≤t
 ·obtain ⟨k,rfl⟩:∃ k:Nat,t=k:=⟨t.toNat,by omega⟩
  rw [if_pos ht,Int.toNat_natCast] at hfo
  by_cases h8:op=8
  ·subst h8
   rw [if_neg (by simp),List.append_nil] at hfo
   refine dcZ Tryz.func126 ?_
   simp only [go_sem,hx,inX,hi]
   iterate 8 ((try (refine drvZ Tryz.func126 ?_;simp only [go_sem,hx,inX,hi,ht,bne_self_eq_false]));((with_reducible and_intros)<;>try exact sd);(try first | refine XK.p htg ok38 ?_ | refine XK.gp htg ok38 ?_))
   exact ret [k] _ _ _ hfo rfl rfl
  ·have n8:(op != 8)=true:=by simp [h8]
   by_cases h13:op=13
   ·subst h13
    rw [if_neg (by simp),List.append_nil] at hfo
    refine dcZ Tryz.func126 ?_
    simp only [go_sem,hx,inX,hi]
    iterate 8 ((try (refine drvZ Tryz.func126 ?_;simp only [go_sem,hx,inX,hi,ht,bne_self_eq_false]));((with_reducible and_intros)<;>try exact sd);(try first | refine XK.p htg ok38 ?_ | refine XK.gp htg ok38 ?_))
    exact ret [k] _ _ _ hfo rfl rfl
   ·have n13:(op != 13)=true:=by simp [h13]
    rw [if_pos ⟨h8,h13⟩] at hfo
    refine dcZ Tryz.func126 ?_
    simp only [go_sem,hx,inX,hi]
    iterate 8 ((try (refine drvZ Tryz.func126 ?_;simp only [go_sem,hx,inX,hi,ht,n8,n13,h8,h13,bne_self_eq_false]));((with_reducible and_intros)<;>try exact sd);(try first | refine XK.p htg ok38 ?_ | refine XK.gp htg ok38 ?_))
    exact ret [k,i+1] _ _ _ hfo rfl rfl
 ·rw [if_neg ht] at hfo
  by_cases h8:op=8
  ·subst h8
   rw [if_neg (by simp),List.append_nil] at hfo
   refine dcZ Tryz.func126 ?_
   simp only [go_sem,hx,inX,hi]
   iterate 8 ((try (refine drvZ Tryz.func126 ?_;simp only [go_sem,hx,inX,hi,ht,bne_self_eq_false]));((with_reducible and_intros)<;>try exact sd);(try first | refine XK.p htg ok38 ?_ | refine XK.gp htg ok38 ?_))
   exact ret0 _ hfo
  ·have n8:(op != 8)=true:=by simp [h8]
   by_cases h13:op=13
   ·subst h13
    rw [if_neg (by simp),List.append_nil] at hfo
    refine dcZ Tryz.func126 ?_
    simp only [go_sem,hx,inX,hi]
    iterate 8 ((try (refine drvZ Tryz.func126 ?_;simp only [go_sem,hx,inX,hi,ht,bne_self_eq_false]));((with_reducible and_intros)<;>try exact sd);(try first | refine XK.p htg ok38 ?_ | refine XK.gp htg ok38 ?_))
    exact ret0 _ hfo
   ·have n13:(op != 13)=true:=by simp [h13]
    rw [if_pos ⟨h8,h13⟩,List.nil_append] at hfo
    refine dcZ Tryz.func126 ?_
    simp only [go_sem,hx,inX,hi]
    iterate 8 ((try (refine drvZ Tryz.func126 ?_;simp only [go_sem,hx,inX,hi,ht,n8,n13,h8,h13,bne_self_eq_false]));((with_reducible and_intros)<;>try exact sd);(try first | refine XK.p htg ok38 ?_ | refine XK.gp htg ok38 ?_))
    exact ret [i+1] _ _ _ hfo rfl rfl
open CtL (In Cd tgt aim WfC atC codeOK Rch rchL folM)
theorem I_kf (L:List Int):∀ c ∈ L.map I64,kf c=true:=fun c hc=>by obtain ⟨_,_,rfl⟩:=List.mem_map.1 hc;rfl
def ffB (S:List Bool):Nat:=S.countP (fun b => !b)
theorem ffB_set {S:List Bool} {i:Nat} (h:S[i]? = some false):ffB (S.set i true)+1=ffB S:=by
 unfold ffB
 have hi:=(List.getElem?_eq_some_iff.1 h).1
 have hv:=(List.getElem?_eq_some_iff.1 h).2
 induction S generalizing i with
 | nil=>simp at hi
 | cons a r ih =>
  cases i with
  | zero=>simp at hv;subst hv;simp
  | succ i =>
   simp only [List.set_cons_succ,List.countP_cons]
   have:=ih (i:=i) (by simpa using h) (by simpa using hi) (by simpa using hv)
   omega
theorem ffB_le (S:List Bool):ffB S≤S.length:=List.countP_le_length
theorem folM_len (C:List In) (i:Nat):(folM C i).length≤2:=by
 unfold CtL.folM
 split<;>split<;>simp
structure RInv (l : List In) (S : List Bool) (Q : List Nat) (W : List Int) : Prop where
 len:S.length=l.length
 q:∀ k ∈ Q,k<l.length∧Rch l k
 s:∀ i,S[i]? = some true→Rch l i
 cl:∀ i,S[i]? = some true→∀ k ∈ folM l i,S[k]? = some true∨k ∈ Q
 z:S[0]? = some true∨0 ∈ Q
 w:W.take Q.length=nI Q
 b:Q.length+3 * ffB S≤3 * l.length+1
 wb:W.length≤3 * l.length+1
theorem nI_app (a b:List Nat):nI (a++b)=nI a++nI b:=by simp [nI]
theorem RInv.pop {l:List In} {S:List Bool} {Q:List Nat} {q:Nat} {W:List Int} (h:RInv l S (Q++[q]) W):W.take Q.length=nI Q∧W[Q.length]? = some (q:Int):=by
 have hw:=h.w
 rw [List.length_append,List.length_singleton,nI_app] at hw
 have h1:(W.take (Q.length+1)).take Q.length=nI Q:=by rw [hw,List.take_append_of_le_length (by rw [nI_len];exact Nat.le_refl _),← nI_len Q,List.take_length]
 rw [List.take_take,Nat.min_eq_left (by omega)] at h1
 refine ⟨h1,?_⟩
 have h2:(W.take (Q.length+1))[Q.length]? = some (q:Int):=by
  rw [hw,List.getElem?_append_right (by rw [nI_len];exact Nat.le_refl _),nI_len,Nat.sub_self];rfl
 rwa [List.getElem?_take_of_lt (by omega)] at h2
theorem RInv.skip {l:List In} {S:List Bool} {Q:List Nat} {q:Nat} {W:List Int} (h:RInv l S (Q++[q]) W) (hs:S[q]? = some true):RInv l S Q W:=by
 refine ⟨h.len,fun k hk=>h.q k (by simp [hk]),h.s,fun i hi k hk=>?_,?_,h.pop.1,by have:=h.b;simp at this;omega,h.wb⟩
 ·rcases h.cl i hi k hk with g | g
  ·exact .inl g
  ·rcases List.mem_append.1 g with g | g
   ·exact .inr g
   ·simp at g;subst g;exact .inl hs
 ·rcases h.z with g | g
  ·exact .inl g
  ·rcases List.mem_append.1 g with g | g
   ·exact .inr g
   ·simp at g;subst g;exact .inl hs
theorem RInv.push {l:List In} {S:List Bool} {Q:List Nat} {q:Nat} {W:List Int} (hw:WfC l) (h:RInv l S (Q++[q]) W) (hs:S[q]? = some false):RInv l (S.set q true) (Q++folM l q) (nI (Q++folM l q))∧(Q++folM l q).length+3 * ffB (S.set q true)<(Q++[q]).length+3 * ffB S:=by
 obtain ⟨hq1,hq2⟩:=h.q q (by simp)
 have hlen:=h.len
 have hf:=ffB_set hs
 have h2:=folM_len l q
 have hb:=h.b
 have hget:∀ i,S[i]? = some true→(S.set q true)[i]? = some true:=fun i hi=>CtL.set_true hi
 have hself:(S.set q true)[q]? = some true:=List.getElem?_set_self (by omega)
 refine ⟨⟨by simp [hlen],fun k hk=>?_,fun i hi=>?_,fun i hi k hk=>?_,?_,by rw [← nI_len (Q++folM l q),List.take_length],?_,?_⟩,?_⟩
 ·rcases List.mem_append.1 hk with hk | hk
  ·exact h.q k (by simp [hk])
  ·exact ⟨CtL.follow_lt hw hq1 hk,.step hq2 hk⟩
 ·rw [List.getElem?_set] at hi
  split at hi
  ·rename_i e;subst e;exact hq2
  ·exact h.s i hi
 ·have g:S[i]? = some true∨i=q:=by
   rw [List.getElem?_set] at hi
   split at hi
   ·rename_i e;exact .inr e.symm
   ·exact .inl hi
  rcases g with g | rfl
  ·rcases h.cl i g k hk with g2 | g2
   ·exact .inl (hget _ g2)
   ·rcases List.mem_append.1 g2 with g2 | g2
    ·exact .inr (by simp [g2])
    ·simp at g2;subst g2;exact .inl hself
  ·exact .inr (by simp [hk])
 ·rcases h.z with g | g
  ·exact .inl (hget _ g)
  ·rcases List.mem_append.1 g with g | g
   ·exact .inr (by simp [g])
   ·simp at g;subst g;exact .inl hself
 ·simp only [List.length_append,List.length_singleton] at hb ⊢;omega
 ·rw [nI_len]
  simp only [List.length_append,List.length_singleton] at hb ⊢;omega
 ·simp only [List.length_append,List.length_singleton] at hb ⊢;omega
theorem reachI (c:Cd) (hl:c.list.length≤1000) (h0:0<c.list.length) (hw:WfC c.list):DC Tryz.prog 111 [.agg (cdC c)] [] (fun r h=>r = .c (.msl 0 1 0 c.list.length)∧h=[some (boolsC (rchL c.list))]):=by
 have hmx:=mx_eq
 have hfo:=fun i hi=>followI c (by omega) i hi
 generalize hR:(fun (r:D) (h:List (Option (List C)))=>r = .c (.msl 0 1 0 c.list.length)∧h=[some (boolsC (rchL c.list))])=R
 obtain ⟨vs,ar,l⟩:=c
 simp only at hl h0 hw hR hfo
 simp only [cdC,ints] at hfo ⊢
 refine dcZ Tryz.func111 ?_
 simp only [go_sem,List.length_map,boolsC_rep]
 iterate 4 ((try (refine drvZ Tryz.func111 ?_;simp only [go_sem,List.length_map,boolsC_rep]));((with_reducible and_intros)<;>try exact sd))
 obtain ⟨S0,hS0⟩:∃ S0,S0=List.replicate l.length false:=⟨_,rfl⟩
 have hi0:RInv l S0 [0] [0]:=by
  subst hS0
  refine ⟨by simp,fun k hk=>?_,fun i hi=>?_,fun i hi=>?_,.inr (by simp),rfl,?_,by simp⟩
  ·simp at hk;subst hk;exact ⟨h0,.start⟩
  ·rw [List.getElem?_replicate] at hi;split at hi<;>simp at hi
  ·rw [List.getElem?_replicate] at hi;split at hi<;>simp at hi
  ·have:=ffB_le (List.replicate l.length false)
   simp only [List.length_replicate] at this
   simp only [List.length_cons,List.length_nil];omega
 rw [← hS0]
 refine Go.loopQ (fun x : List Bool × List Nat × List Int => [(1, .c (.ptr 0 0)), (2, .c (.v (.slice none 0 0))), (3, .c (.msl 300 1 0 l.length)), (4, .c (.msl 400 1 0 x.2.1.length))])
  (fun x=>[(0,some [isI vs,isI ar,.isl 5 (l.map inX)]),(300,some (boolsC x.1)),(400,some (x.2.2.map I64))]) 4096 (fun x=>RInv l x.1 x.2.1 x.2.2) (fun x=>x.2.1.length+3 * ffB x.1) ?_ (S0,[0],[0]) (fun j=>if j=300 then some 320 else if j=400 then some 448 else some j) [] _ hi0 ?_
 ·rintro ⟨S,Q,W⟩ hv again
  simp only at hv again ⊢
  have hbl:=boolsC_len S
  have hsl:=hv.len
  rcases List.eq_nil_or_concat Q with rfl | ⟨Q0,q,rfl⟩
  ·have hS:S=rchL l:=CtL.rchL_of hw h0 hv.len hv.s (hv.z.elim id fun h=>by simp at h) fun i hi k hk=>(hv.cl i hi k hk).elim id fun h=>by simp at h
   refine drvL Tryz.func111 ?_
   simp only [go_sem]
   iterate 4 ((try (refine drvZ Tryz.func111 ?_;simp only [go_sem,Int.reduceLT]));((with_reducible and_intros)<;>try exact sd))
   rw [← hR,hS]
   exact boolsKeep (k:=300) (by simp [upd]) (CtL.rchL_len l)
  ·rw [List.concat_eq_append] at *
   obtain ⟨hp1,hp2⟩:=hv.pop
   obtain ⟨hq1,hq2⟩:=hv.q q (by simp)
   have hwb:=hv.wb
   have hb:=hv.b
   have hwl:Q0.length<W.length:=(List.getElem?_eq_some_iff.1 hp2).1
   have hlq:(Q0++[q]).length=Q0.length+1:=by simp
   have hpos:((0:Int)<(Q0.length:Int)+1)=True:=eq_true (by omega)
   have htk:(W.map I64).take Q0.length=(nI Q0).map I64:=by rw [← List.map_take,hp1]
   obtain ⟨b,hsb⟩:∃ b,S[q]? = some b:=⟨S[q]'(by omega),List.getElem?_eq_getElem (by omega)⟩
   have hsc:=bC_at hsb
   have hwl2:(W.map I64).length=W.length:=List.length_map _
   cases b with
   | true =>
    refine drvL Tryz.func111 ?_
    simp only [hlq]
    simp only [go_sem,hpos]
    iterate 6 ((try (refine drvZ Tryz.func111 ?_;simp only [go_sem,hpos,hp2,hwl2,hwl,hsc,hbl,hsl]));((with_reducible and_intros)<;>try exact sd))
    refine again (S,Q0,W) some [] _ (hv.skip hsb) (by simp only;omega) ?_
    simp only [go_sem,TmOK,DM,DMs,CM,CMs,forall_eq,exists_eq_left,Mq,HpOK,LowOK]
    simp [upd,isI,CMs_I,CMs,CM,kf,CMs_bC]
   | false =>
    have hfq:=hfo q hq1
    refine drvL Tryz.func111 ?_
    simp only [hlq]
    simp only [go_sem,hpos]
    iterate 6 ((try (refine drvZ Tryz.func111 ?_;simp only [go_sem,hpos,hp2,hwl2,hwl,hsc,hbl,hsl]));((with_reducible and_intros)<;>try exact sd))
    refine XK.callG [] hfq ok126 (fun i' x h=>by simp at h) (hbT ()) (fun d h' ⟨_,e⟩=>by subst e;simp) ?_
    rintro _ _ ⟨rfl,rfl⟩ _
    obtain ⟨hp3,hp4⟩:=hv.push hw hsb
    have hfl:=folM_len l q
    have hF:(nI (folM l q)).length=(folM l q).length:=nI_len _
    have hF2:((nI (folM l q)).map I64).take (folM l q).length=(nI (folM l q)).map I64:=by rw [← hF,← List.length_map (f:=I64),List.take_length]
    have hQ2:(nI Q0).length=Q0.length:=nI_len _
    refine XK.shrink 400 Q0.length (W.map I64) rfl ?_
    rw [htk]
    generalize folM l q=F at *
    iterate 4 ((try (refine drvZ Tryz.func111 ?_;simp only [go_sem,renCs_I,htk,hF,hF2,hQ2,hwl2,List.length_map]));((with_reducible and_intros)<;>try exact sd))
    have hset:(boolsC S).set q (.v (.bool true))=boolsC (S.set q true):=boolsC_set _ _ _
    refine again (S.set q true,Q0++F,nI (Q0++F)) (fun j=>if j=400 then some 5952 else some j) [] _ hp3 hp4 ?_
    simp only [go_sem,TmOK,DM,DMs,CM,CMs,forall_eq,exists_eq_left,Mq,HpOK,LowOK,hset]
    simp [upd,isI,CMs_I,CMs,CM,kf,CMs_bC,nI_app,I_app]
    exact CMs.kf (kf_app (I_kf _) (I_kf _))
 ·simp only [go_sem,TmOK,DM,DMs,CM,CMs,forall_eq,exists_eq_left,Mq,HpOK,LowOK]
  simp [upd,isI,CMs_I,CMs,CM,kf,CMs_bC]
open CtL (In Cd tgt aim WfC atC codeOK thL thA finJ chase)
theorem cownI (c:Cd) (h1:c.vars.length≤1000000) (h2:c.arrays.length≤1000000) (h3:c.list.length≤1000000):DC Tryz.prog 62 [.agg (cdC c)] [] (fun r h=>r = .agg [.msl 0 1 0 c.vars.length,.msl 1 1 0 c.arrays.length,.msl 2 5 0 c.list.length]∧h=[some (c.vars.map I64),some (c.arrays.map I64),some (inC c.list)]):=by
 have hmx:=mx_eq
 have k1:=cloneI c.vars h1
 have k2:=cloneI c.arrays h2
 have k3:=cloneN c.list h3
 obtain ⟨vs,ar,l⟩:=c
 simp only at k1 k2 k3
 simp only [cdC,ints] at k1 k2 ⊢
 generalize hR:(fun (r:D) (h:List (Option (List C)))=>r = .agg _∧h=_)=R
 refine dcZ Tryz.func62 ?_
 simp only [go_sem]
 iterate 2 ((try (refine drvZ Tryz.func62 ?_;simp only [go_sem]));((with_reducible and_intros)<;>try exact sd))
 refine XK.callG [] k1 ok33 (fun i' x h=>by simp at h) (hbT ()) (fun d h' ⟨_,e⟩=>by subst e;simp) ?_ (fun _=>⟨by kernel_rfl,_,_,⟨rfl,rfl⟩,by simp⟩)
 rintro _ _ ⟨rfl,rfl⟩ _
 iterate 2 ((try (refine drvZ Tryz.func62 ?_;simp only [go_sem,renCs_I]));((with_reducible and_intros)<;>try exact sd))
 refine XK.callG [] k2 ok33 (fun i' x h=>by simp at h) (hbT ()) (fun d h' ⟨_,e⟩=>by subst e;simp) ?_ (fun _=>⟨by kernel_rfl,_,_,⟨rfl,rfl⟩,by simp⟩)
 rintro _ _ ⟨rfl,rfl⟩ _
 iterate 3 ((try (refine drvZ Tryz.func62 ?_;simp only [go_sem,renCs_I]));((with_reducible and_intros)<;>try exact sd))
 refine XK.callG [] k3 ok110 (fun i' x h=>by simp at h) (hbT ()) (fun d h' ⟨_,e⟩=>by subst e;simp) ?_ (fun _=>⟨by kernel_rfl,_,_,⟨rfl,rfl⟩,by simp⟩)
 rintro _ _ ⟨rfl,rfl⟩ _
 iterate 3 ((try (refine drvZ Tryz.func62 ?_;simp only [go_sem,renCs_I,renCs_in]));((with_reducible and_intros)<;>try exact sd))
 refine RetOb.ofQ (fun j=>if j=0 then some 256 else if j=1 then some 448 else if j=2 then some 640 else none) [] (.agg [.msl 0 1 0 vs.length,.msl 1 1 0 ar.length,.msl 2 5 0 l.length]) [some (vs.map I64),some (ar.map I64),some (inC l)] ?_ (by rw [← hR];exact ⟨rfl,rfl⟩) (by simp)
 simp [enumL,hOf,DM,CM,CMs,HpOK,LowOK,upd,CMs_I,CMs_in]
theorem set_self {α:Type} {l:List α} {i:Nat} {x:α} (h:l[i]? = some x):l.set i x=l:=by
 refine List.ext_getElem? fun j=>?_
 rw [List.getElem?_set]
 split
 ·rename_i e;subst e;rw [if_pos (List.getElem?_eq_some_iff.1 h).1,h]
 ·rfl
theorem RetOb.cdA {R : D → List (Option (List C)) → Prop} {hp : Hp} {vs ar : List Int} {L : List In} {k0 k1 k2 n0 n1 n2 : Nat} (hR : R (.agg [isI vs, isI ar, .isl 5 (L.map inX)]) []) (h0 : hp k0 = some (some (vs.map I64))) (h1 : hp k1 = some (some (ar.map I64))) (h2 : hp k2 = some (some (inC L)))
 (e0:n0=vs.length) (e1:n1=ar.length) (e2:n2=L.length):RetOb 0 R (.agg [.msl k0 1 0 n0,.msl k1 1 0 n1,.msl k2 5 0 n2]) hp:=by
 subst e0 e1 e2
 refine RetOb.ofQ (fun _=>none) [k0,k1,k2] _ [] ⟨?_,trivial,trivial,by simp [enumL]⟩ hR (Nat.zero_le _)
 have g2:=in_len5 L
 have g3:=in_kf5 L
 simp [-List.mem_map,DM,DMs,CM,CMs,isI,h0,h1,h2,in_flat,flat_I',kf]
 have k1:∀ (v:List Int) (x:List C),x ∈ v.map (fun n=>[I64 n])→x.length=1:=fun v x h=>by obtain ⟨_,_,rfl⟩:=List.mem_map.1 h;rfl
 have k2:∀ (v:List Int) (x:List C),x ∈ v.map (fun n=>[I64 n])→∀ c ∈ x,kf c=true:=fun v x hx c hc=>by obtain ⟨_,_,rfl⟩:=List.mem_map.1 hx;simp only [List.mem_singleton] at hc;subst hc;rfl
 exact ⟨⟨k1 vs,k2 vs⟩,⟨k1 ar,k2 ar⟩,g2,g3⟩
def thK (l:List In) (i:Nat):List In:=(l.take i).map (thA l)++l.drop i
theorem thK_len {l:List In} {i:Nat} (h:i≤l.length):(thK l i).length=l.length:=by simp [thK];omega
theorem thK_end (l:List In):thK l l.length=thL l:=by simp [thK,CtL.thL]
theorem threadI (c:Cd) (h1:c.vars.length≤1000000) (h2:c.arrays.length≤1000000) (h3:c.list.length≤1000000) (hw:WfC c.list):DC Tryz.prog 63 [.agg (cdC c)] [] (fun r h=>r = .agg (cdC ⟨c.vars,c.arrays,thL c.list⟩)∧h=[]):=by
 have hmx:=mx_eq
 have k1:=cownI c h1 h2 h3
 obtain ⟨vs,ar,l⟩:=c
 simp only at h1 h2 h3 hw k1
 simp only [cdC,ints] at k1 ⊢
 generalize hR:(fun (r:D) (h:List (Option (List C)))=>r = .agg _∧h=_)=R
 refine dcZ Tryz.func63 ?_
 simp only [go_sem]
 ((try (refine drvZ Tryz.func63 ?_;simp only [go_sem]));((with_reducible and_intros)<;>try exact sd))
 refine XK.callG [] k1 ok62 (fun i' x h=>by simp at h) (hbT ()) (fun d h' ⟨_,e⟩=>by subst e;simp) ?_
 rintro _ _ ⟨rfl,rfl⟩ _
 iterate 3 ((try (refine drvZ Tryz.func63 ?_;simp only [go_sem,renCs_I,renCs_in,List.length_map]));((with_reducible and_intros)<;>try exact sd))
 refine Go.loopQ (fun i : Nat => [(1, .c (.ptr 0 0)), (2, .c (.ptr 64 0)), (3, .c (.ptr 256 0)), (11, .c (.isl 5 (l.map inX))), (12, DI .i64 l.length), (13, DI .i64 i)])
  (fun i=>[(0,some [isI vs,isI ar,.isl 5 (l.map inX)]),(64,some [.v (.slice none 0 0),.v (.slice none 0 0),.v (.slice none 0 0)]),(256,some [.msl 192 1 0 vs.length,.msl 193 1 0 ar.length,.msl 194 5 0 l.length]),(192,some (vs.map I64)),(193,some (ar.map I64)),(194,some (inC (thK l i)))]) 4096 (fun i=>i≤l.length) (fun i=>l.length - i) ?_ 0 some [] _ (Nat.zero_le _) ?_
 ·intro i hi again
  rcases Nat.lt_or_ge i l.length with hlt | hge
  ·obtain ⟨x,hx⟩:∃ x,l[i]? = some x:=⟨l[i],by simp [hlt]⟩
   have hat:=CtL.atC_get hx
   have htg:=tgtI x
   have hto:=fun t=>toI x t
   obtain ⟨w1,w2⟩:=hw i hlt
   rw [hat] at w1 w2
   have hkx:(thK l i)[i]? = some x:=by
    rw [thK,List.getElem?_append_right (by simp;omega),List.length_map,List.length_take,Nat.min_eq_left hi,Nat.sub_self,List.getElem?_drop,Nat.add_zero];exact hx
   have hks:(thK l i).set i (thA l x)=thK l (i+1):=by
    have hd:l.drop i=x :: l.drop (i+1):=by rw [← List.getElem_cons_drop hlt,(List.getElem?_eq_some_iff.1 hx).2]
    have:=snoc_set ((l.take i).map (thA l)) (l.drop (i+1)) x (thA l x)
    rw [List.length_map,List.length_take,Nat.min_eq_left hi] at this
    rw [thK,hd,this,thK,List.take_add_one,hx,List.map_append]
    simp
   have hput:=fun y=>inC_put hkx y
   have hlk:(inC (thK l i)).length=l.length * 5:=by rw [inC_len,thK_len hi]
   have hthA:thA l x=if 0≤tgt x then aim x (finJ l (tgt x).toNat) else x:=rfl
   obtain ⟨op,xa,xb,xc,xd⟩:=x
   unfold inX at htg hto
   have tgo:tgt ⟨op,xa,xb,xc,xd⟩ ≠ -1→op=8∨op=9∨op=10:=fun h=>by
    by_cases h8:op=8
    ·exact .inl h8
    ·by_cases h9:op=9
     ·exact .inr (.inl h9)
     ·by_cases h10:op=10
      ·exact .inr (.inr h10)
      ·exact absurd (CtL.tgt_no (x:=⟨op,xa,xb,xc,xd⟩) h8 h9 h10) h
   have tng:¬ (op=8∨op=9∨op=10)→tgt ⟨op,xa,xb,xc,xd⟩ = -1:=fun h=>CtL.tgt_no (x:=⟨op,xa,xb,xc,xd⟩) (fun e=>h (.inl e)) (fun e=>h (.inr (.inl e))) (fun e=>h (.inr (.inr e)))
   simp only at w1 w2
   generalize tgt ⟨op,xa,xb,xc,xd⟩=t at *
   by_cases ht:0≤t
   ·obtain ⟨k,rfl⟩:∃ k:Nat,t=k:=⟨t.toNat,by omega⟩
    rw [if_pos ht,Int.toNat_natCast] at hthA
    have hk:k<l.length:=by have:=(w1 (tgo (by omega))).2;rwa [Int.toNat_natCast] at this
    refine drvL Tryz.func63 ?_
    simp only [go_sem,hx,inX,hlt]
    iterate 4 ((try (refine drvZ Tryz.func63 ?_;simp only [go_sem,hx,inX,hlt]));((with_reducible and_intros)<;>try exact sd);(try first | refine XK.p htg ok38 ?_ | refine XK.gp htg ok38 ?_))
    have hz0:(0:Int)≤(k:Int):=by omega
    refine Go.loopQ (fun nn : Nat => [(1, .c (.ptr 0 0)), (2, .c (.ptr 64 0)), (3, .c (.ptr 256 0)), (4, DI .i64 i), (5, .c (.ptr 500 0)), (6, DI .i64 (chase l nn k : Nat)), (7, DI .i64 nn), (11, .c (.isl 5 (l.map inX))), (12, DI .i64 l.length), (13, DI .i64 i)])
     (fun nn=>[(0,some [isI vs,isI ar,.isl 5 (l.map inX)]),(64,some [.v (.slice none 0 0),.v (.slice none 0 0),.v (.slice none 0 0)]),(256,some [.msl 192 1 0 vs.length,.msl 193 1 0 ar.length,.msl 194 5 0 l.length]),(192,some (vs.map I64)),(193,some (ar.map I64)),(194,some (inC (thK l i))),(500,some [I64 op,I64 xa,I64 xb,I64 xc,I64 xd])]) 8192 (fun nn=>nn≤l.length) (fun nn=>l.length - nn) ?_ 0 (fun j=>if j=500 then some 4352 else some j) [] _ (Nat.zero_le _) ?_
    ·intro nn hnn again2
     have hcl:=CtL.chase_lt hw nn k hk
     obtain ⟨y,hyx⟩:∃ y,l[chase l nn k]? = some y:=⟨l[chase l nn k],by simp [hcl]⟩
     have hay:=CtL.atC_get hyx
     have hcs:=CtL.chase_succ l nn k
     have hst:=CtL.chase_stop l nn (l.length - nn) k
     rw [Nat.add_sub_cancel' hnn] at hst
     have hya:=(hw _ hcl).1
     rw [hay] at hcs hst hya
     obtain ⟨zo,zA,zb,zc,zd⟩:=y
     simp only at hcs hst hya
     by_cases h8:zo=8
     ·subst h8
      have hcs:=hcs rfl
      obtain ⟨u0,u1⟩:=hya (.inl rfl)
      simp only [tgt,if_true] at u0 u1
      by_cases hq:nn=l.length
      ·subst hq
       have FE:finJ l k=k:=by rw [CtL.finJ,hay,if_pos rfl]
       generalize chase l l.length k=cuR at *
       have hzc:(0:Int)≤(cuR:Int):=by omega
       clear again2
       refine drvL Tryz.func63 ?_
       simp only [go_sem,hzc,hyx,hcl,inX,beq_self_eq_true]
       iterate 4 ((try (refine drvZ Tryz.func63 ?_;simp only [go_sem,hzc,hyx,hcl,inX,beq_self_eq_true,List.length_map]));((with_reducible and_intros)<;>try exact sd);(try first | refine XK.p htg ok38 ?_ | refine XK.gp htg ok38 ?_))
       rw [FE] at hthA
       obtain ⟨y,hy⟩:∃ y,aim ⟨op,xa,xb,xc,xd⟩ (k:Nat)=y:=⟨_,rfl⟩
       have hto:=hto (k:Nat)
       rw [hy] at hto
       rw [hy] at hthA
       have hput:=hput y
       have hks2:=hks
       rw [hthA] at hks2
       rw [hks2] at hput
       obtain ⟨yo,ya,yb,yc,yd⟩:=y
       simp only [putCells,inX] at hput
       simp only [inX] at hto
       iterate 7 ((try (refine drvZ Tryz.func63 ?_;simp only [go_sem,hz0,inX,hlk,hlt,hput,List.length_map,thK_len hi]));((with_reducible and_intros)<;>try exact sd);(try first | refine XK.p hto ok39 ?_ | refine XK.gp hto ok39 ?_ | refine XK.p htg ok38 ?_ | refine XK.gp htg ok38 ?_))
       refine again (i+1) some [] _ hlt (by omega) ?_
       simp only [go_sem,TmOK,DM,DMs,CM,CMs,forall_eq,exists_eq_left,Mq,HpOK,LowOK]
       simp [CMs_I,CMs_in,CMs,CM]
      ·have hq2:((nn:Int) == (l.length:Int))=false:=by simp;omega
       have hq3:¬ ((nn:Int)=(l.length:Int)):=by omega
       generalize chase l nn k=cuR at *
       have hzc:(0:Int)≤(cuR:Int):=by omega
       obtain ⟨a,rfl⟩:∃ a:Nat,zA=a:=⟨zA.toNat,by omega⟩
       rw [Int.toNat_natCast] at hcs
       refine drvL Tryz.func63 ?_
       simp only [go_sem,hzc,hyx,hcl,inX]
       iterate 5 ((try (refine drvZ Tryz.func63 ?_;simp only [go_sem,hzc,hyx,hcl,inX,hq2,hq3,List.length_map]));((with_reducible and_intros)<;>try exact sd);(try first | refine XK.p htg ok38 ?_ | refine XK.gp htg ok38 ?_))
       refine again2 (nn+1) some [] _ (by omega) (by omega) ?_
       rw [hcs]
       simp only [go_sem,TmOK,DM,DMs,CM,CMs,forall_eq,exists_eq_left,Mq,HpOK,LowOK]
       simp [CMs_I,CMs_in,CMs,CM]
     ·have g8:(zo == 8)=false:=by simp [h8]
      have FE:finJ l k=chase l nn k:=by
       have e:=hst h8
       rw [CtL.finJ,e,hay,if_neg h8]
      generalize chase l nn k=cuR at *
      have hzc:(0:Int)≤(cuR:Int):=by omega
      clear again2
      refine drvL Tryz.func63 ?_
      simp only [go_sem,hzc,hyx,hcl,inX,g8,h8]
      iterate 2 ((try (refine drvZ Tryz.func63 ?_;simp only [go_sem,hzc,hyx,hcl,inX,g8,h8,List.length_map]));((with_reducible and_intros)<;>try exact sd))
      rw [FE] at hthA
      obtain ⟨y,hy⟩:∃ y,aim ⟨op,xa,xb,xc,xd⟩ (cuR:Nat)=y:=⟨_,rfl⟩
      have hto:=hto (cuR:Nat)
      rw [hy] at hto
      rw [hy] at hthA
      have hput:=hput y
      have hks2:=hks
      rw [hthA] at hks2
      rw [hks2] at hput
      obtain ⟨yo,ya,yb,yc,yd⟩:=y
      simp only [putCells,inX] at hput
      simp only [inX] at hto
      iterate 7 ((try (refine drvZ Tryz.func63 ?_;simp only [go_sem,hz0,inX,hzc,hlk,hlt,hput,List.length_map,thK_len hi]));((with_reducible and_intros)<;>try exact sd);(try first | refine XK.p hto ok39 ?_ | refine XK.gp hto ok39 ?_ | refine XK.p htg ok38 ?_ | refine XK.gp htg ok38 ?_))
      refine again (i+1) some [] _ hlt (by omega) ?_
      simp only [go_sem,TmOK,DM,DMs,CM,CMs,forall_eq,exists_eq_left,Mq,HpOK,LowOK]
      simp [CMs_I,CMs_in,CMs,CM]
    ·simp only [go_sem,TmOK,DM,DMs,CM,CMs,forall_eq,exists_eq_left,Mq,HpOK,LowOK]
     simp [upd,isI,CMs_I,CMs,CM,kf,CMs_in,CtL.chase]
   ·rw [if_neg ht] at hthA
    obtain rfl:t = -1:=tng fun h=>ht (w1 h).1
    have hl0:0<l.length:=by omega
    obtain ⟨⟨yo,ya,yb,yc,yd⟩,hy0⟩:∃ y,l[0]? = some y:=⟨l[0],by simp [hl0]⟩
    have hm1:(-1:Int).toNat=0:=rfl
    refine drvL Tryz.func63 ?_
    simp only [go_sem,hx,inX,hlt]
    iterate 4 ((try (refine drvZ Tryz.func63 ?_;simp only [go_sem,hx,inX,hlt]));((with_reducible and_intros)<;>try exact sd);(try first | refine XK.p htg ok38 ?_ | refine XK.gp htg ok38 ?_))
    refine Go.loopQ (fun _ : Unit => [(1, .c (.ptr 0 0)), (2, .c (.ptr 64 0)), (3, .c (.ptr 256 0)), (4, DI .i64 i), (6, DI .i64 (-1)), (7, DI .i64 0), (11, .c (.isl 5 (l.map inX))), (12, DI .i64 l.length), (13, DI .i64 i)])
     (fun _=>[(0,some [isI vs,isI ar,.isl 5 (l.map inX)]),(64,some [.v (.slice none 0 0),.v (.slice none 0 0),.v (.slice none 0 0)]),(256,some [.msl 192 1 0 vs.length,.msl 193 1 0 ar.length,.msl 194 5 0 l.length]),(192,some (vs.map I64)),(193,some (ar.map I64)),(194,some (inC (thK l i)))]) 8192 (fun _=>True) (fun _=>0) ?_ () some [] _ trivial ?_
    ·intro _ _ _
     refine drvL Tryz.func63 ?_
     simp only [go_sem,ht,hm1,hy0,inX]
     iterate 4 ((try (refine drvZ Tryz.func63 ?_;simp only [go_sem,ht,hm1,hy0,inX]));((with_reducible and_intros)<;>try exact sd))
     have hsm:thK l (i+1)=thK l i:=by rw [← hks,hthA];exact set_self hkx
     refine again (i+1) some [] _ hlt (by omega) ?_
     rw [hsm]
     simp only [go_sem,TmOK,DM,DMs,CM,CMs,forall_eq,exists_eq_left,Mq,HpOK,LowOK]
     simp [CMs_I,CMs_in,CMs,CM]
    ·simp only [go_sem,TmOK,DM,DMs,CM,CMs,forall_eq,exists_eq_left,Mq,HpOK,LowOK]
     simp [upd,isI,CMs_I,CMs,CM,kf,CMs_in]
  ·have hn:¬ i<l.length:=by omega
   obtain rfl:i=l.length:=by omega
   refine drvL Tryz.func63 ?_
   simp only [go_sem,hn]
   iterate 3 ((try (refine drvZ Tryz.func63 ?_;simp only [go_sem,hn]));((with_reducible and_intros)<;>try exact sd))
   exact RetOb.cdA (L:=thL l) (by rw [← hR];exact ⟨rfl,rfl⟩) rfl rfl (by rw [← thK_end];rfl) rfl rfl (by rw [CtL.thL_len])
 ·simp only [go_sem,TmOK,DM,DMs,CM,CMs,forall_eq,exists_eq_left,Mq,HpOK,LowOK]
  simp [upd,isI,CMs_I,CMs,CM,kf,thK,CMs_in]
open CtL (In Cd)
theorem equalInG (xs ys:List In) (hl:xs.length≤mx) (b:Bool) (hb:b=true ↔ xs=ys):DC Tryz.prog 46 [.c (.isl 5 (xs.map inX)),.c (.isl 5 (ys.map inX))] [] (fun r h=>r=DB b∧h=[]):=by
 have hmx:=mx_eq
 by_cases hne:xs.length=ys.length
 ·have hq:((xs.length:Int) != (ys.length:Int))=false:=by simp [hne]
  have ret:∀ (v:Bool) (hp:Hp),v=b→RetOb 0 (fun r h=>r=DB b∧h=[]) (DB v) hp:=fun v hp e=>by subst e;exact RetOb.plain (d:=DB _) ⟨rfl,rfl⟩ rfl
  generalize hR:(fun (r:D) (h:List (Option (List C)))=>r=DB b∧h=[])=R at ret ⊢
  clear hR
  refine dcZ Tryz.func46 ?_
  simp only [go_sem,List.length_map,hq,hne,bne_self_eq_false]
  iterate 3 ((try (refine drvZ Tryz.func46 ?_;simp only [go_sem,List.length_map,hq,hne,bne_self_eq_false]));((with_reducible and_intros)<;>try exact sd))
  refine Go.loopQ (fun i:Nat=>[(0,.c (.isl 5 (xs.map inX))),(1,.c (.isl 5 (ys.map inX))),(12,DI .i64 ys.length),(13,DI .i64 i)]) (fun _=>[]) 1024 (fun i=>i≤xs.length∧xs.take i=ys.take i) (fun i=>xs.length - i) ?_ 0 some [] _ ⟨Nat.zero_le _,rfl⟩ ?_
  ·intro i ⟨hi,ht⟩ again
   rcases Nat.lt_or_ge i xs.length with hlt | hge
   ·obtain ⟨x,hx⟩:∃ x,xs[i]? = some x:=⟨xs[i],by simp [hlt]⟩
    obtain ⟨y,hy⟩:∃ y,ys[i]? = some y:=⟨ys[i]'(by omega),List.getElem?_eq_getElem (by omega)⟩
    have hlt2:i<ys.length:=by omega
    by_cases hxy:x=y
    ·subst hxy
     obtain ⟨op,xa,xb,xc,xd⟩:=x
     have ht2:xs.take (i+1)=ys.take (i+1):=by rw [List.take_add_one,List.take_add_one,ht,hx,hy]
     refine drvL Tryz.func46 ?_
     simp only [go_sem,hx,hy,hlt2,hlt,inX]
     iterate 4 ((try (refine drvZ Tryz.func46 ?_;simp only [go_sem,hx,hy,hlt2,hlt,inX,bne_self_eq_false,beq_self_eq_true]));((with_reducible and_intros)<;>try exact sd))
     refine again (i+1) some [] _ ⟨hlt,ht2⟩ (by omega) ?_
     simp only [go_sem,TmOK,DM,DMs,CM,CMs,forall_eq,exists_eq_left,Mq,HpOK,LowOK]
     try simp
    ·have hbf:b=false:=by
      cases hbb:b with
      | false=>rfl
      | true =>
       have:=hb.1 hbb
       subst this
       rw [hx] at hy
       simp only [Option.some.injEq] at hy
       exact absurd hy hxy
     obtain ⟨op,xa,xb,xc,xd⟩:=x
     obtain ⟨yo,ya,yb,yc,yd⟩:=y
     refine drvL Tryz.func46 ?_
     simp only [go_sem,hx,hy,hlt2,hlt,inX]
     iterate 3 ((try (refine drvZ Tryz.func46 ?_;simp only [go_sem,hx,hy,hlt2,hlt,inX]));((with_reducible and_intros)<;>try exact sd))
     ·intro _
      exact ret _ _ hbf.symm
     ·rintro ⟨rfl,rfl,rfl,rfl,rfl⟩
      exact absurd rfl hxy
   ·have hn:¬ i<ys.length:=by omega
    have hbt:b=true:=hb.2 (by
     rw [List.take_of_length_le (by omega),List.take_of_length_le (by omega)] at ht
     exact ht)
    refine drvL Tryz.func46 ?_
    simp only [go_sem,hn]
    iterate 3 ((try (refine drvZ Tryz.func46 ?_;simp only [go_sem,hn]));((with_reducible and_intros)<;>try exact sd))
    exact ret _ _ hbt.symm
  ·simp only [go_sem,TmOK,DM,DMs,CM,CMs,forall_eq,exists_eq_left,Mq,HpOK,LowOK]
   simp [hne]
 ·have hbf:b=false:=by
   cases hbb:b with
   | false=>rfl
   | true=>exact absurd (congrArg List.length (hb.1 hbb)) hne
  subst hbf
  have hq:((xs.length:Int) != (ys.length:Int))=true:=by simp;omega
  refine dcZ Tryz.func46 ?_
  simp only [go_sem,List.length_map,hq]
  iterate 2 ((try (refine drvZ Tryz.func46 ?_;simp only [go_sem,List.length_map,hq]));((with_reducible and_intros)<;>try exact sd))
  exact RetOb.plain (d:=DB false) ⟨rfl,rfl⟩ rfl
theorem codeSameV (vs ar:List Int) (l l2:List In) (h1:vs.length≤mx) (h2:ar.length≤mx) (h3:l.length≤mx) (b:Bool) (hb:b=true ↔ l=l2):DC Tryz.prog 11 [.agg (cdC ⟨vs,ar,l⟩),.agg (cdC ⟨vs,ar,l2⟩)] [] (fun r h=>r=DB b∧h=[]):=by
 have hmx:=mx_eq
 have e1:=equalI vs vs h1
 have e2:=equalI ar ar h2
 have e3:=equalInG l l2 h3 b hb
 rw [decide_eq_true rfl] at e1 e2
 unfold cdC
 refine dcZ Tryz.func11 ?_
 simp only [go_sem]
 iterate 6 ((try (refine drvZ Tryz.func11 ?_;simp only [go_sem]));((with_reducible and_intros)<;>try exact sd);(try first | refine XK.p e1 ok45 ?_ | refine XK.gp e1 ok45 ?_ | refine XK.p e2 ok45 ?_ | refine XK.gp e2 ok45 ?_ | refine XK.p e3 ok46 ?_ | refine XK.gp e3 ok46 ?_))
 exact RetOb.plain (d:=DB _) ⟨rfl,rfl⟩ rfl
open CtL (In Cd tgt aim WfC atC codeOK rchL keepT plT aimT trL trC2)
noncomputable def plM (l:List In) (i:Nat):List Int:=(List.range i).map (fun j=>((plT l j:Nat):Int))++List.replicate (l.length - i) 0
theorem plM_len {l:List In} {i:Nat} (h:i≤l.length):(plM l i).length=l.length:=by simp [plM];omega
theorem plM_set {l:List In} {i:Nat} (h:i<l.length):(plM l i).set i ((plT l i:Nat):Int)=plM l (i+1):=by
 have hr:List.replicate (l.length - i) (0:Int)=0 :: List.replicate (l.length - (i+1)) 0:=by rw [show l.length - i=(l.length - (i+1))+1 by omega];rfl
 have:=snoc_set ((List.range i).map (fun j=>((plT l j:Nat):Int))) (List.replicate (l.length - (i+1)) 0) (0:Int) ((plT l i:Nat):Int)
 rw [List.length_map,List.length_range] at this
 rw [plM,hr,this,plM,List.range_succ,List.map_append]
 simp
theorem plM_end (l:List In) {i:Nat} (h:i<l.length):(plM l l.length)[i]? = some ((plT l i:Nat):Int):=by
 rw [plM,List.getElem?_append_left (by simpa using h)]
 simp [h]
noncomputable def dropL (l:List In):List Bool:=(List.range l.length).map fun i => !keepT l i
theorem dropL_len (l:List In):(dropL l).length=l.length:=by simp [dropL]
theorem dropL_at {l:List In} {i:Nat} (h:i<l.length):(dropL l)[i]? = some (!keepT l i):=by simp [dropL,h]
theorem withoutI (c:Cd) (h1:c.vars.length≤1000000) (h2:c.arrays.length≤1000000) (h3:c.list.length≤1000000) (hw:WfC c.list):DC Tryz.prog 112 [.agg (cdC c),.c (boolsD (dropL c.list))] [] (fun r h=>r = .agg (cdC ⟨c.vars,c.arrays,trC2 c.list⟩)∧h=[]):=by
 have hmx:=mx_eq
 have hwt:=fun L h3=>withI c L h1 h2 h3
 obtain ⟨vs,ar,l⟩:=c
 simp only at hw h1 h2 h3 hwt
 simp only [cdC,ints] at hwt ⊢
 generalize hR:(fun (r:D) (h:List (Option (List C)))=>r = .agg _∧h=[])=R
 have hbo:boolsD (dropL l) = .isl 1 ((dropL l).map fun b=>[C.v (.bool b)]):=rfl
 have hdl:=dropL_len l
 rw [hbo]
 refine dcZ Tryz.func112 ?_
 simp only [go_sem]
 iterate 3 ((try (refine drvZ Tryz.func112 ?_;simp only [go_sem,List.length_map]));((with_reducible and_intros)<;>try exact sd))
 have hpl0:(List.replicate l.length [C.v (.int .i64 0)]).flatten=(plM l 0).map I64:=by simp [plM]
 rw [hpl0]
 have hle:=CtL.plT_le l
 refine Go.loopQ (fun i : Nat => [(1, .c (.isl 1 ((dropL l).map fun b => [C.v (.bool b)]))), (2, .c (.ptr 0 0)), (4, .c (.ptr 64 0)), (5, .c (.msl 320 1 0 l.length)), (6, DI .i64 (plT l i : Nat)), (18, DI .i64 l.length), (19, DI .i64 i)])
  (fun i=>[(0,some [isI vs,isI ar,.isl 5 (l.map inX)]),(64,some [.v (.slice none 0 0),.v (.slice none 0 0),.v (.slice none 0 0)]),(320,some ((plM l i).map I64))]) 4096 (fun i=>i≤l.length) (fun i=>l.length - i) ?_ 0 some [] _ (Nat.zero_le _) ?_
 ·intro i hi again
  rcases Nat.lt_or_ge i l.length with hlt | hge
  ·have hdr:=dropL_at hlt
   have a3:=plM_len hi
   have b2:=plM_set hlt
   have b5:((plM l i).map I64).set i (I64 (plT l i:Nat))=(plM l (i+1)).map I64:=by rw [← b2,List.map_set]
   have e5:plT l (i+1)=plT l i+(keepT l i).toNat:=by rw [plT]
   have c1:=hle i
   cases hk:keepT l i with
   | true =>
    rw [hk] at hdr e5
    refine drvL Tryz.func112 ?_
    simp only [go_sem,hlt,hdr]
    iterate 6 ((try (refine drvZ Tryz.func112 ?_;simp only [go_sem,hlt,hdr,a3,hdl,b5,List.length_map]));((with_reducible and_intros)<;>try exact sd))
    refine again (i+1) some [] _ hlt (by omega) ?_
    rw [e5]
    simp only [go_sem,TmOK,DM,DMs,CM,CMs,forall_eq,exists_eq_left,Mq,HpOK,LowOK]
    simp [CMs_I,CMs,CM]
   | false =>
    rw [hk] at hdr e5
    refine drvL Tryz.func112 ?_
    simp only [go_sem,hlt,hdr]
    iterate 6 ((try (refine drvZ Tryz.func112 ?_;simp only [go_sem,hlt,hdr,a3,hdl,b5,List.length_map]));((with_reducible and_intros)<;>try exact sd))
    refine again (i+1) some [] _ hlt (by omega) ?_
    rw [e5]
    simp only [go_sem,TmOK,DM,DMs,CM,CMs,forall_eq,exists_eq_left,Mq,HpOK,LowOK]
    simp [CMs_I,CMs,CM]
  ·have hn:¬ i<l.length:=by omega
   obtain rfl:i=l.length:=by omega
   refine drvL Tryz.func112 ?_
   simp only [go_sem,hn]
   iterate 3 ((try (refine drvZ Tryz.func112 ?_;simp only [go_sem,hn,List.length_map]));((with_reducible and_intros)<;>try exact sd))
   refine Go.loopQ (fun i : Nat => [(1, .c (.isl 1 ((dropL l).map fun b => [C.v (.bool b)]))), (2, .c (.ptr 0 0)), (4, .c (.ptr 64 0)), (5, .c (.msl 320 1 0 l.length)), (8, .c (.msl 1000 5 0 (plT l i))), (35, .c (.isl 5 (l.map inX))), (36, DI .i64 l.length), (37, DI .i64 i)])
    (fun i=>[(0,some [isI vs,isI ar,.isl 5 (l.map inX)]),(64,some [.v (.slice none 0 0),.v (.slice none 0 0),.v (.slice none 0 0)]),(320,some ((plM l l.length).map I64)),(1000,some (inC (trL l i)))]) 4096 (fun i=>i≤l.length) (fun i=>l.length - i) ?_ 0 (fun j=>if j=1000 then none else some j) [] _ (Nat.zero_le _) ?_
   ·intro i hi again
    rcases Nat.lt_or_ge i l.length with hlt | hge
    ·obtain ⟨x,hx⟩:∃ x,l[i]? = some x:=⟨l[i],by simp [hlt]⟩
     have hat:=CtL.atC_get hx
     have hdr:=dropL_at hlt
     have a3:=plM_len (l:=l) (Nat.le_refl _)
     have e2:=CtL.trL_len l i
     have e3:=inC_len (trL l i)
     rw [e2] at e3
     have c1:=hle i
     have e4:trL l (i+1)=trL l i++(if keepT l i then [aimT l x] else []):=by rw [trL,hat]
     have e5:plT l (i+1)=plT l i+(keepT l i).toNat:=by rw [plT]
     have htg:=tgtI x
     have haf:aimT l x=if 0≤tgt x then aim x (plT l (tgt x).toNat) else x:=rfl
     have hto:=fun t=>toI x t
     have hpl:=(hw i hlt).1
     rw [hat] at hpl
     obtain ⟨op,xa,xb,xc,xd⟩:=x
     unfold inX at htg hto
     have tgo:tgt ⟨op,xa,xb,xc,xd⟩ ≠ -1→op=8∨op=9∨op=10:=fun h=>by
      by_cases h8:op=8
      ·exact .inl h8
      ·by_cases h9:op=9
       ·exact .inr (.inl h9)
       ·by_cases h10:op=10
        ·exact .inr (.inr h10)
        ·exact absurd (CtL.tgt_no (x:=⟨op,xa,xb,xc,xd⟩) h8 h9 h10) h
     simp only at hpl
     cases hk:keepT l i with
     | false =>
      rw [hk] at hdr e4 e5
      rw [if_neg (by simp),List.append_nil] at e4
      refine drvL Tryz.func112 ?_
      simp only [go_sem,hx,inX,hlt,hdr]
      iterate 5 ((try (refine drvZ Tryz.func112 ?_;simp only [go_sem,hx,inX,hlt,hdr,a3,hdl,List.length_map]));((with_reducible and_intros)<;>try exact sd))
      refine again (i+1) some [] _ hlt (by omega) ?_
      rw [e4,e5]
      simp only [go_sem,TmOK,DM,DMs,CM,CMs,forall_eq,exists_eq_left,Mq,HpOK,LowOK]
      simp [CMs_I,CMs_in]
     | true =>
      rw [hk] at hdr e4 e5
      rw [if_pos rfl] at e4
      generalize tgt ⟨op,xa,xb,xc,xd⟩=t at *
      by_cases ht:0≤t
      ·obtain ⟨k,rfl⟩:∃ k:Nat,t=k:=⟨t.toNat,by omega⟩
       rw [if_pos ht,Int.toNat_natCast] at haf
       have hk2:k<l.length:=by have:=(hpl (tgo (by omega))).2;rwa [Int.toNat_natCast] at this
       have hpk:((plM l l.length).map I64)[k]? = some (I64 (plT l k:Nat)):=by rw [List.getElem?_map,plM_end l hk2];rfl
       have hto:=hto (plT l k:Nat)
       obtain ⟨y,hy⟩:∃ y,aim ⟨op,xa,xb,xc,xd⟩ (plT l k:Nat)=y:=⟨_,rfl⟩
       rw [hy] at hto haf
       obtain ⟨yo,ya,yb,yc,yd⟩:=y
       rw [haf] at e4
       refine drvL Tryz.func112 ?_
       simp only [go_sem,hx,inX,hlt,hdr]
       iterate 9 ((try (refine drvZ Tryz.func112 ?_;simp only [go_sem,hx,inX,hlt,hdr,a3,hdl,e3,List.length_map,ht,hpk,hk2,plM_end l hk2]));((with_reducible and_intros)<;>try exact sd);(try first | refine XK.p htg ok38 ?_ | refine XK.gp htg ok38 ?_ | refine XK.p hto ok39 ?_ | refine XK.gp hto ok39 ?_))
       refine again (i+1) (fun j=>if j=1000 then some 5760 else some j) [] _ hlt (by omega) ?_
       rw [e4,e5]
       simp only [go_sem,TmOK,DM,DMs,CM,CMs,forall_eq,exists_eq_left,Mq,HpOK,LowOK]
       simp [CMs_I,inC_app,inCc,inCn,inX]
       first | done | exact CMs.kf (kf_app (inC_kf _) (by simp [kf])) | exact ⟨by omega,CMs.kf (kf_app (inC_kf _) (by simp [kf]))⟩
      ·rw [if_neg ht] at haf
       rw [haf] at e4
       refine drvL Tryz.func112 ?_
       simp only [go_sem,hx,inX,hlt,hdr]
       iterate 9 ((try (refine drvZ Tryz.func112 ?_;simp only [go_sem,hx,inX,hlt,hdr,a3,hdl,e3,List.length_map,ht]));((with_reducible and_intros)<;>try exact sd);(try first | refine XK.p htg ok38 ?_ | refine XK.gp htg ok38 ?_ | refine XK.p hto ok39 ?_ | refine XK.gp hto ok39 ?_))
       refine again (i+1) (fun j=>if j=1000 then some 5312 else some j) [] _ hlt (by omega) ?_
       rw [e4,e5]
       simp only [go_sem,TmOK,DM,DMs,CM,CMs,forall_eq,exists_eq_left,Mq,HpOK,LowOK]
       simp [CMs_I,inC_app,inCc,inCn,inX]
       first | done | exact CMs.kf (kf_app (inC_kf _) (by simp [kf])) | exact ⟨by omega,CMs.kf (kf_app (inC_kf _) (by simp [kf]))⟩
    ·have hn:¬ i<l.length:=by omega
     obtain rfl:i=l.length:=by omega
     have hw2:=hwt (trL l l.length) (by have:=hle l.length;rw [CtL.trL_len];omega)
     refine drvL Tryz.func112 ?_
     simp only [go_sem,hn]
     iterate 2 ((try (refine drvZ Tryz.func112 ?_;simp only [go_sem,hn]));((with_reducible and_intros)<;>try exact sd))
     refine XK.freeze 62 1000 5 (plT l l.length) ((trL l l.length).map inX) ?_ rfl rfl (by rw [List.length_map,CtL.trL_len]) (in_len5 _) (in_kf5 _)
     iterate 5 ((try (refine drvZ Tryz.func112 ?_;simp only [go_sem,hn]));((with_reducible and_intros)<;>try exact sd);(try first | refine XK.p hw2 ok40 ?_ | refine XK.gp hw2 ok40 ?_))
     exact RetOb.plain (by rw [← hR];exact ⟨rfl,rfl⟩) (by simp [kD,kf,isI])
   ·simp only [go_sem,TmOK,DM,DMs,CM,CMs,forall_eq,exists_eq_left,Mq,HpOK,LowOK]
    have z0:plT l 0=0:=rfl
    simp [upd,isI,CMs_I,CMs,CM,kf,z0,trL,inC]
 ·simp only [go_sem,TmOK,DM,DMs,CM,CMs,forall_eq,exists_eq_left,Mq,HpOK,LowOK]
  have z0:plT l 0=0:=rfl
  simp [upd,isI,CMs_I,CMs,CM,kf,z0]
end Go.Proofs.YtbknljofedfpjaaGreat.CtD
