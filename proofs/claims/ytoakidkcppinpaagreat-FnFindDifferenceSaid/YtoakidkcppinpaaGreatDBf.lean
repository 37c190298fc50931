/- Contracts of functions of the program, one behind the other, as plain data: what each call returns and which blocks it leaves. -/
import Derived.Test.YtoakidkcppinpaaGreatDFacts
import Derived.Test.YtoakidkcppinpaaGreatDAi
import Derived.Test.YtoakidkcppinpaaGreatDAl
import Derived.Test.YtoakidkcppinpaaGreatDAm
import Derived.Test.YtoakidkcppinpaaGreatDAn
import Derived.Test.YtoakidkcppinpaaGreatDAq
import Derived.Test.YtoakidkcppinpaaGreatDAs
import Derived.Test.YtoakidkcppinpaaGreatDAt
import Derived.Test.YtoakidkcppinpaaGreatDAu
import Derived.Test.YtoakidkcppinpaaGreatDAw
import Derived.Test.YtoakidkcppinpaaGreatDBa
import Derived.Test.YtoakidkcppinpaaGreatDBe
import Derived.Test.YtoakidkcppinpaaGreatDAx
import Derived.Test.YtoakidkcppinpaaGreatDAz
import Derived.Test.YtoakidkcppinpaaGreatDAj
import Derived.Test.YtoakidkcppinpaaGreatDAo
import Derived.Test.YtoakidkcppinpaaGreatDAp
import Derived.Test.YtoakidkcppinpaaGreatDBb
import Derived.Test.YtoakidkcppinpaaGreatDAr
import Derived.Test.YtoakidkcppinpaaGreatDAy
set_option linter.unusedVariables false
set_option linter.unusedSimpArgs false
set_option linter.unusedSectionVars false
set_option maxHeartbeats 16000000
set_option maxRecDepth 100000
namespace Go.Proofs.YtoakidkcppinpaaGreat.CtL
variable [Go.CT.Yn]
open Go Go.CT CtF CtR
def bAt (row:List Bool) (i:Int):Bool:=row.getD i.toNat false
def sAt (l:List Int) (i:Int):Bool:=(nth l i).toNat.testBit 0
def tAft (p:Pg) (x:In) (row:List Bool):List Bool :=
  if x.op=1∨x.op=11 then row.set x.a.toNat false
  else if x.op=2 then row.set x.a.toNat (sAt p.vars x.b)
  else if x.op=4 then row.set x.a.toNat (sAt p.arrays x.b || bAt row x.c)
  else if x.op=6 then row.set x.a.toNat (bAt row x.c || bAt row x.d)
  else if x.op=7 then row.set x.a.toNat (bAt row x.b || (bAt row x.c || bAt row x.d))
  else row
def fnd (p:Pg) (x:In) (row:List Bool):Int :=
  if (x.op=9∨x.op=10)∧bAt row x.a=true then 3
  else if (x.op=4∧bAt row x.c=true)∨(x.op=5∧bAt row x.b=true) then 4
  else if (x.op=3∧bAt row x.b=true∧sAt p.vars x.a=false)∨(x.op=5∧bAt row x.c=true∧sAt p.arrays x.a=false) then 1
  else 0
theorem tAft_len (p:Pg) (x:In) (row:List Bool):(tAft p x row).length=row.length:=by
  unfold tAft;repeat' split
  all_goals simp
structure TaintOK (p : Pg) (l : List In) (T : Nat → Option (List Bool)) : Prop where
  st:∃ row,T 0=some row
  len:∀ i row,T i=some row→row.length=14
  cl:∀ i row,i<l.length→T i=some row→∀ k ∈ folM l i,∃ row',T k=some row'∧∀ r,(tAft p (atC l i) row).getD r false=true→row'.getD r false=true
  fine:∀ i row,i<l.length→T i=some row→fnd p (atC l i) row=0
structure REq (row : List Bool) (r r' : List Int) : Prop where
  l1:r.length=14
  l2:r'.length=14
  lr:row.length=14
  eq:∀ i,row.getD i false=false→r.getD i 0=r'.getD i 0
theorem REq.nth {row:List Bool} {r r':List Int} (h:REq row r r') {i:Int} (hi:bAt row i=false):nth r i=nth r' i:=h.eq _ hi
theorem REq.set {row:List Bool} {r r':List Int} (h:REq row r r') (i:Nat) {b:Bool} {v v':Int} (hv:b=false→v=v'):REq (row.set i b) (r.set i v) (r'.set i v'):=by
  obtain ⟨h1,h2,h3,h4⟩:=h
  refine ⟨by simp [h1],by simp [h2],by simp [h3],fun j hj=>?_⟩
  have h4:=h4 j
  simp only [List.getD_eq_getElem?_getD,List.getElem?_set] at hj h4 ⊢
  by_cases e:i=j
  · subst e
    rw [if_pos rfl] at hj ⊢
    rw [if_pos rfl]
    rw [h1,h2]
    rw [h3] at hj
    by_cases hlt:i<14
    · rw [if_pos hlt] at hj ⊢
      rw [if_pos hlt]
      simp only [Option.getD_some] at hj ⊢
      exact hv hj
    · rw [if_neg hlt,if_neg hlt]
  · rw [if_neg e] at hj ⊢
    rw [if_neg e]
    exact h4 hj
theorem REq.set1 {row:List Bool} {r r':List Int} (h:REq row r r') (i:Nat) {v v':Int} (hv:v=v') (hf:row.getD i false=false):REq row (r.set i v) (r'.set i v'):=by
  have:=h.set i (b:=false) fun _=>hv
  have e:row.set i false=row:=by
    refine List.ext_getElem? fun j=>?_
    rw [List.getElem?_set]
    split
    · rename_i e;subst e
      rw [List.getD_eq_getElem?_getD] at hf
      split
      · rename_i hlt
        rw [List.getElem?_eq_getElem hlt] at hf ⊢
        simp only [Option.getD_some] at hf
        rw [hf]
      · rename_i hlt
        rw [List.getElem?_eq_none (by omega)]
    · rfl
  rw [e] at this
  exact this
theorem REq.mono {row row':List Bool} {r r':List Int} (h:REq row r r') (hl:row'.length=14) (hm:∀ i,row.getD i false=true→row'.getD i false=true):REq row' r r' :=
  ⟨h.l1,h.l2,hl,fun i hi=>h.eq i (by cases q:row.getD i false with
    | false=>rfl
    | true=>rw [hm i q] at hi;cases hi)⟩
theorem lowV {p:Pg} {m m':Mm} (h:LowM 0 p m m') {i:Int} (hi:i.toNat<p.vars.length) (hs:sAt p.vars i=false):CtR.nth m.vals i=CtR.nth m'.vals i:=by
  have:=h.val i.toNat (CtR.nth p.vars i) (by simp [CtR.nth,List.getElem?_eq_getElem hi]) hs
  simp only [CtR.nth,List.getD_eq_getElem?_getD,this]
theorem lowA {p:Pg} {m m':Mm} (h:LowM 0 p m m') {i:Int} (hi:i.toNat<p.arrays.length) (hs:sAt p.arrays i=false):arrAt m i=arrAt m' i:=by
  have:=h.arr i.toNat (CtR.nth p.arrays i) (by simp [CtR.nth,List.getElem?_eq_getElem hi]) hs
  simp only [arrAt,List.getD_eq_getElem?_getD,this]
structure InP (p : Pg) (x : In) : Prop where
  a2:x.op=2→x.b.toNat<p.vars.length
  a4:x.op=4→x.b.toNat<p.arrays.length
theorem step_low {p : Pg} {x : In} {row : List Bool} {r r' : List Int} {m m' : Mm} (pc : Nat) (hx : InP p x) (hr : REq row r r') (hm : LowM 0 p m m') (hf : fnd p x row = 0) (h11 : x.op ≠ 11) :
    tlE x r=tlE x r'∧taken x r=taken x r'∧REq (tAft p x row) (stepM x ⟨pc,r,m⟩).1.regs (stepM x ⟨pc,r',m'⟩).1.regs∧LowM 0 p (stepM x ⟨pc,r,m⟩).1.mem (stepM x ⟨pc,r',m'⟩).1.mem:=by
  obtain ⟨op,a,b,c,d⟩:=x
  obtain ⟨x2,x4⟩:=hx
  simp only at h11 x2 x4
  unfold fnd at hf
  simp only at hf
  by_cases h1:op=1
  · subst h1
    refine ⟨by simp [tlE],by simp [taken],?_,by simpa [stepM] using hm⟩
    simpa [stepM,tAft] using hr.set a.toNat (b:=false) (v:=b) (v':=b) fun _=>rfl
  by_cases h2:op=2
  · subst h2
    refine ⟨by simp [tlE],by simp [taken],?_,by simpa [stepM] using hm⟩
    have:=hr.set a.toNat (b:=sAt p.vars b) (v:=CtR.nth m.vals b) (v':=CtR.nth m'.vals b) fun hb=>lowV hm (x2 rfl) hb
    simpa [stepM,tAft] using this
  by_cases h3:op=3
  · subst h3
    refine ⟨by simp [tlE],by simp [taken],by simpa [stepM,tAft] using hr,?_⟩
    have:=hm.setV (t:=a) (x:=CtR.nth r b) (y:=CtR.nth r' b) (by
      by_cases hs:sAt p.vars a=true
      · exact .inr hs
      · refine .inl (hr.nth ?_)
        cases hb:bAt row b with
        | false=>rfl
        | true=>simp [hb,hs] at hf)
    simpa [stepM] using this
  by_cases h4:op=4
  · subst h4
    have hc:bAt row c=false:=by
      cases hb:bAt row c with
      | false=>rfl
      | true=>simp [hb] at hf
    have e:=hr.nth hc
    refine ⟨by simp [tlE,e],by simp [taken],?_,by simpa [stepM] using hm⟩
    have:=hr.set a.toNat (b:=sAt p.arrays b || bAt row c) (v:=CtR.nth (arrAt m b) (CtR.nth r c % 4)) (v':=CtR.nth (arrAt m' b) (CtR.nth r' c % 4)) fun hb=>by
      rw [Bool.or_eq_false_iff] at hb
      rw [e,lowA hm (x4 rfl) hb.1]
    simpa [stepM,tAft] using this
  by_cases h5:op=5
  · subst h5
    have hb:bAt row b=false:=by
      cases hb:bAt row b with
      | false=>rfl
      | true=>simp [hb] at hf
    have e:=hr.nth hb
    refine ⟨by simp [tlE,e],by simp [taken],by simpa [stepM,tAft] using hr,?_⟩
    have:=hm.setA (t:=a) (i:=CtR.nth r b % 4) (j:=CtR.nth r' b % 4) (x:=CtR.nth r c) (y:=CtR.nth r' c) (by
      by_cases hs:sAt p.arrays a=true
      · exact .inr hs
      · refine .inl ⟨by rw [e],hr.nth ?_⟩
        cases hc:bAt row c with
        | false=>rfl
        | true=>simp [hb,hc,hs] at hf)
    simpa [stepM] using this
  by_cases h6:op=6
  · subst h6
    refine ⟨by simp [tlE],by simp [taken],?_,by simpa [stepM] using hm⟩
    have:=hr.set a.toNat (b:=bAt row c || bAt row d) (v:=bin b (CtR.nth r c) (CtR.nth r d)) (v':=bin b (CtR.nth r' c) (CtR.nth r' d)) fun hb=>by
      rw [Bool.or_eq_false_iff] at hb
      rw [hr.nth hb.1,hr.nth hb.2]
    simpa [stepM,tAft] using this
  by_cases h7:op=7
  · subst h7
    refine ⟨by simp [tlE],by simp [taken],?_,by simpa [stepM] using hm⟩
    have:=hr.set a.toNat (b:=bAt row b || (bAt row c || bAt row d)) (v:=if CtR.nth r b ≠ 0 then CtR.nth r c else CtR.nth r d) (v':=if CtR.nth r' b ≠ 0 then CtR.nth r' c else CtR.nth r' d) fun hb=>by
      rw [Bool.or_eq_false_iff,Bool.or_eq_false_iff] at hb
      rw [hr.nth hb.1,hr.nth hb.2.1,hr.nth hb.2.2]
    simpa [stepM,tAft] using this
  by_cases h8:op=8
  · subst h8
    exact ⟨by simp [tlE],by simp [taken],by simpa [stepM,tAft] using hr,by simpa [stepM] using hm⟩
  by_cases h9:op=9
  · subst h9
    have ha:bAt row a=false:=by
      cases hb:bAt row a with
      | false=>rfl
      | true=>simp [hb] at hf
    have e:=hr.nth ha
    exact ⟨by simp [tlE],by simp [taken,e],by simpa [stepM,tAft] using hr,by simpa [stepM] using hm⟩
  by_cases h10:op=10
  · subst h10
    have ha:bAt row a=false:=by
      cases hb:bAt row a with
      | false=>rfl
      | true=>simp [hb] at hf
    have e:=hr.nth ha
    refine ⟨by simp [tlE],by simp [taken,e],?_,by simpa [stepM] using hm⟩
    have:=hr.set1 a.toNat (v:=(CtR.nth r a+255) % 256) (v':=(CtR.nth r' a+255) % 256) (by rw [e]) ha
    simpa [stepM,tAft] using this
  by_cases h13:op=13
  · subst h13
    exact ⟨by simp [tlE],by simp [taken],by simpa [stepM,tAft] using hr,by simpa [stepM] using hm⟩
  · exact ⟨by simp [tlE,h4,h5,h11],by simp [taken,h8,h9,h10],by simpa [stepM,tAft,h1,h2,h3,h4,h5,h6,h7,h8,h9,h10,h11,h13] using hr,by simpa [stepM,h1,h2,h3,h4,h5,h6,h7,h8,h9,h10,h11,h13] using hm⟩
theorem step_fol {l:List In} (hw:WfC l) {pc:Nat} {r:List Int} {m:Mm} (hs:pc<l.length) (h13:(atC l pc).op ≠ 13):(stepM (atC l pc) ⟨pc,r,m⟩).1.pc ∈ folM l pc:=by
  have hp1:=stpPc (atC l pc) ⟨pc,r,m⟩ h13
  simp only at hp1
  by_cases htk:taken (atC l pc) r=true
  · rw [if_pos htk] at hp1
    have ho:(atC l pc).op=8∨(atC l pc).op=9∨(atC l pc).op=10:=by
      simp only [taken,Bool.or_eq_true,Bool.and_eq_true,decide_eq_true_eq] at htk
      omega
    rw [hp1]
    exact follow_tgt ((hw pc hs).1 ho).1
  · rw [if_neg htk] at hp1
    have h8:(atC l pc).op ≠ 8:=fun h=>by simp [taken,h] at htk
    rw [hp1]
    exact follow_next h8 h13
theorem taint_run {p : Pg} {l : List In} {T : Nat → Option (List Bool)} (hw : WfC l) (hT : TaintOK p l T) (hi : ∀ i, i < l.length → InP p (atC l i)) (h11 : ∀ i, i < l.length → (atC l i).op ≠ 11) : ∀ (N pc : Nat) (r r' : List Int) (m m' : Mm) (row : List Bool) (q q' : Mm × List Ev), pc < l.length → T pc = some row → REq row r r' → LowM 0 p m m' → runM l N ⟨pc, r, m⟩ = some q → runM l N ⟨pc, r', m'⟩ = some q' → q.2 = q'.2
  | 0,_,_,_,_,_,_,_,_,_,_,_,_,h,_=>by simp [runM] at h
  | N+1,pc,r,r',m,m',row,q,q',hpc,hrow,hr,hm,h,h'=>by
    obtain ⟨s1,s2,s3,s4⟩:=step_low pc (hi pc hpc) hr hm (hT.fine pc row hpc hrow) (h11 pc hpc)
    have e1:=stpEv (atC l pc) ⟨pc,r,m⟩
    have e2:=stpEv (atC l pc) ⟨pc,r',m'⟩
    simp only at e1 e2
    rw [← s1] at e2
    rw [runM] at h h'
    simp only at h h'
    by_cases h13:(atC l pc).op=13
    · rw [if_pos h13] at h h'
      simp only [Option.some.injEq] at h h'
      rw [← h,← h',e1,e2]
    · rw [if_neg h13] at h h'
      obtain ⟨q1,hq1,rfl⟩:=Option.map_eq_some_iff.1 h
      obtain ⟨q2,hq2,rfl⟩:=Option.map_eq_some_iff.1 h'
      have p1:=stpPc (atC l pc) ⟨pc,r,m⟩ h13
      have p2:=stpPc (atC l pc) ⟨pc,r',m'⟩ h13
      simp only at p1 p2
      rw [← s2] at p2
      have hk:=step_fol hw (r:=r) (m:=m) hpc h13
      have hlt:=step_lt hw (s:=⟨pc,r,m⟩) hpc
      simp only at hlt
      rw [e1,e2]
      generalize stepM (atC l pc) ⟨pc,r,m⟩=z at *
      generalize stepM (atC l pc) ⟨pc,r',m'⟩=z' at *
      obtain ⟨⟨z1,z2,z3⟩,z4⟩:=z
      obtain ⟨⟨w1,w2,w3⟩,w4⟩:=z'
      simp only at s3 s4 hk hlt p1 p2 hq1 hq2 ⊢
      have e:w1=z1:=by rw [p1,p2]
      subst e
      obtain ⟨row',g1,g2⟩:=hT.cl pc row hpc hrow _ hk
      have:=taint_run hw hT hi h11 N w1 z2 w2 z3 w3 row' q1 q2 hlt g1 (s3.mono (hT.len _ _ g1) g2) s4 hq1 hq2
      rw [this]
end Go.Proofs.YtoakidkcppinpaaGreat.CtL
namespace Go.Proofs.YtoakidkcppinpaaGreat.CtD
open Go Go.CT CtF CtR
variable [Yn]
open CtL (In Cd tgt)
theorem tgtI (x:In):DC Tryz.prog 90 [.agg (inX x)] [] (fun r h=>r=DI .i64 (tgt x)∧h=[]):=by
  have ret:∀ (v:Int) (hp:Hp),v=tgt x→RetOb 0 (fun r h=>r=DI .i64 (tgt x)∧h=[]) (DI .i64 v) hp:=fun v hp e=>by subst e;exact RetOb.plain ⟨rfl,rfl⟩ rfl
  generalize hR:(fun (r:D) (h:List (Option (List C)))=>r=DI .i64 (tgt x)∧h=[])=R at ret ⊢
  clear hR
  obtain ⟨op,a,b,c,d⟩:=x
  unfold inX
  simp only [tgt] at ret
  by_cases h8:op=8
  · subst h8
    refine dcZ Tryz.func90 ?_
    simp only [go_sem]
    iterate 3 ((try (refine drvZ Tryz.func90 ?_;simp only [go_sem]));((with_reducible and_intros)<;>try exact sd))
    exact ret _ _ (by simp)
  · have g8:(op == 8)=false:=by simp [h8]
    by_cases h9:op=9
    · subst h9
      refine dcZ Tryz.func90 ?_
      simp only [go_sem]
      iterate 3 ((try (refine drvZ Tryz.func90 ?_;simp only [go_sem]));((with_reducible and_intros)<;>try exact sd))
      exact ret _ _ (by simp)
    · have g9:(op == 9)=false:=by simp [h9]
      by_cases h10:op=10
      · subst h10
        refine dcZ Tryz.func90 ?_
        simp only [go_sem]
        iterate 3 ((try (refine drvZ Tryz.func90 ?_;simp only [go_sem]));((with_reducible and_intros)<;>try exact sd))
        exact ret _ _ (by simp)
      · have g10:(op == 10)=false:=by simp [h10]
        refine dcZ Tryz.func90 ?_
        simp only [go_sem,g8,g9,g10]
        iterate 3 ((try (refine drvZ Tryz.func90 ?_;simp only [go_sem,g8,g9,g10,h8,h9,h10]));((with_reducible and_intros)<;>try exact sd))
        exact ret _ _ (by simp [h8,h9,h10])
open CtL (In Cd tgt WfC atC codeOK)
theorem bC_at {L:List Bool} {i:Nat} {b:Bool} (h:L[i]? = some b):(boolsC L)[i]? = some (.v (.bool b)):=by rw [boolsC,List.getElem?_map,h];rfl
open CtL (In Cd tgt WfC atC codeOK folM)
theorem followI (c:Cd) (hl:c.list.length≤1000000) (i:Nat) (hi:i<c.list.length):DC Tryz.prog 65 [.agg (cdC c),.c (I64 i)] [] (fun r h=>r = .c (.msl 0 1 0 (folM c.list i).length)∧h=[some ((nI (folM c.list i)).map I64)]):=by
  have hmx:=mx_eq
  obtain ⟨vs,ar,l⟩:=c
  simp only at hl hi
  obtain ⟨x,hx⟩:∃ x,l[i]? = some x:=⟨l[i],by simp [hi]⟩
  have hat:=CtL.atC_get hx
  have htg:=tgtI x
  have ret0:∀ hp:Hp,folM l i=[]→RetOb 0 (fun r h=>r = .c (.msl 0 1 0 (folM l i).length)∧h=[some ((nI (folM l i)).map I64)]) (.c (.v (.slice none 0 0))) hp:=fun hp e=>by
    rw [e];exact RetOb.newNil ⟨rfl,rfl⟩
  have ret:∀ (L:List Nat) (K n:Nat) (hp:Hp),folM l i=L→hp K=some (some ((nI L).map I64))→n=L.length→RetOb 0 (fun r h=>r = .c (.msl 0 1 0 (folM l i).length)∧h=[some ((nI (folM l i)).map I64)]) (.c (.msl K 1 0 n)) hp:=by
    rintro L K n hp rfl hk rfl
    refine RetOb.ofQ (fun j=>if j=0 then some K else none) [] _ _ ?_ ⟨rfl,rfl⟩ (by simp)
    simp [enumL,hOf,DM,CM,HpOK,LowOK,upd,hk,CMs_I]
  have hfo:folM l i=(if 0≤tgt x then [(tgt x).toNat] else [])++(if x.op ≠ 8∧x.op ≠ 13 then [i+1] else []):=by unfold CtL.folM;rw [hat]
  generalize hR:(fun (r:D) (h:List (Option (List C)))=>r = .c (.msl 0 1 0 (folM l i).length)∧h=[some ((nI (folM l i)).map I64)])=R at ret ret0 ⊢
  clear hR
  obtain ⟨op,xa,xb,xc,xd⟩:=x
  unfold inX at htg
  simp only at hfo
  generalize tgt ⟨op,xa,xb,xc,xd⟩=t at *
  simp only [cdC,ints]
  by_cases ht:0≤t
  · obtain ⟨k,rfl⟩:∃ k:Nat,t=k:=⟨t.toNat,by omega⟩
    rw [if_pos ht,Int.toNat_natCast] at hfo
    by_cases h8:op=8
    · subst h8
      rw [if_neg (by simp),List.append_nil] at hfo
      refine dcZ Tryz.func65 ?_
      simp only [go_sem,hx,inX,hi]
      iterate 8 ((try (refine drvZ Tryz.func65 ?_;simp only [go_sem,hx,inX,hi,ht,bne_self_eq_false]));((with_reducible and_intros)<;>try exact sd);(try first | refine XK.p htg ok90 ?_ | refine XK.gp htg ok90 ?_))
      exact ret [k] _ _ _ hfo rfl rfl
    · have n8:(op != 8)=true:=by simp [h8]
      by_cases h13:op=13
      · subst h13
        rw [if_neg (by simp),List.append_nil] at hfo
        refine dcZ Tryz.func65 ?_
        simp only [go_sem,hx,inX,hi]
        iterate 8 ((try (refine drvZ Tryz.func65 ?_;simp only [go_sem,hx,inX,hi,ht,bne_self_eq_false]));((with_reducible and_intros)<;>try exact sd);(try first | refine XK.p htg ok90 ?_ | refine XK.gp htg ok90 ?_))
        exact ret [k] _ _ _ hfo rfl rfl
      · have n13:(op != 13)=true:=by simp [h13]
        rw [if_pos ⟨h8,h13⟩] at hfo
        refine dcZ Tryz.func65 ?_
        simp only [go_sem,hx,inX,hi]
        iterate 8 ((try (refine drvZ Tryz.func65 ?_;simp only [go_sem,hx,inX,hi,ht,n8,n13,h8,h13,bne_self_eq_false]));((with_reducible and_intros)<;>try exact sd);(try first | refine XK.p htg ok90 ?_ | refine XK.gp htg ok90 ?_))
        exact ret [k,i+1] _ _ _ hfo rfl rfl
  · rw [if_neg ht] at hfo
    by_cases h8:op=8
    · subst h8
      rw [if_neg (by simp),List.append_nil] at hfo
      refine dcZ Tryz.func65 ?_
      simp only [go_sem,hx,inX,hi]
      iterate 8 ((try (refine drvZ Tryz.func65 ?_;simp only [go_sem,hx,inX,hi,ht,bne_self_eq_false]));((with_reducible and_intros)<;>try exact sd);(try first | refine XK.p htg ok90 ?_ | refine XK.gp htg ok90 ?_))
      exact ret0 _ hfo
    · have n8:(op != 8)=true:=by simp [h8]
      by_cases h13:op=13
      · subst h13
        rw [if_neg (by simp),List.append_nil] at hfo
        refine dcZ Tryz.func65 ?_
        simp only [go_sem,hx,inX,hi]
        iterate 8 ((try (refine drvZ Tryz.func65 ?_;simp only [go_sem,hx,inX,hi,ht,bne_self_eq_false]));((with_reducible and_intros)<;>try exact sd);(try first | refine XK.p htg ok90 ?_ | refine XK.gp htg ok90 ?_))
        exact ret0 _ hfo
      · have n13:(op != 13)=true:=by simp [h13]
        rw [if_pos ⟨h8,h13⟩,List.nil_append] at hfo
        refine dcZ Tryz.func65 ?_
        simp only [go_sem,hx,inX,hi]
        iterate 8 ((try (refine drvZ Tryz.func65 ?_;simp only [go_sem,hx,inX,hi,ht,n8,n13,h8,h13,bne_self_eq_false]));((with_reducible and_intros)<;>try exact sd);(try first | refine XK.p htg ok90 ?_ | refine XK.gp htg ok90 ?_))
        exact ret [i+1] _ _ _ hfo rfl rfl
open CtL (In Cd tgt WfC atC codeOK folM)
theorem I_kf (L:List Int):∀ c ∈ L.map I64,kf c=true:=fun c hc=>by obtain ⟨_,_,rfl⟩:=List.mem_map.1 hc;rfl
def ffB (S:List Bool):Nat:=S.countP (fun b => !b)
theorem ffB_set {S:List Bool} {i:Nat} (h:S[i]? = some false):ffB (S.set i true)+1=ffB S:=by
  unfold ffB
  have hi:=(List.getElem?_eq_some_iff.1 h).1
  have hv:=(List.getElem?_eq_some_iff.1 h).2
  induction S generalizing i with
  | nil=>simp at hi
  | cons a r ih =>
    cases i with
    | zero=>simp at hv;subst hv;simp
    | succ i =>
      simp only [List.set_cons_succ,List.countP_cons]
      have:=ih (i:=i) (by simpa using h) (by simpa using hi) (by simpa using hv)
      omega
theorem folM_len (C:List In) (i:Nat):(folM C i).length≤2:=by
  unfold CtL.folM
  split<;>split<;>simp
open CtL (In Cd tgt WfC atC codeOK folM)
open CtL (In Cd codeOK inOK kindsOf fOK topOf bAt sAt tAft fnd)
theorem bflR (L:List Bool):(L.map fun b=>[C.v (.bool b)]).flatten=boolsC L:=flat1 _ _
theorem cloneRow (row:List Bool) (hl:row.length=14):DC Tryz.prog 89 [.c (.isl 1 (row.map fun b=>[C.v (.bool b)]))] [] (fun d h=>d = .c (.msl 0 1 0 14)∧h=[some (boolsC row)]):=by
  have hmx:=mx_eq
  cases row with
  | nil=>simp at hl
  | cons a r =>
    have hr:r.length+1=14:=hl
    have hf:=boolsC_len (a :: r)
    obtain ⟨L,hL⟩:∃ L,boolsC (a :: r)=L:=⟨_,rfl⟩
    have hL2:((a :: r).map fun b=>[C.v (.bool b)]).flatten=L:=by rw [← hL];exact bflR _
    rw [hL] at hf ⊢
    have hkf:=boolsC_kf (a :: r)
    rw [hL] at hkf
    simp only [List.map_cons,List.flatten_cons,List.length_cons] at hL2 hf
    refine dcZ Tryz.func89 ?_
    simp only [go_sem]
    iterate 3 ((try (refine drvZ Tryz.func89 ?_;simp only [go_sem,hL2,hf,List.length_map,List.flatten_cons]));((with_reducible and_intros)<;>try exact sd))
    rw [hr]
    exact RetOb.new1 ⟨rfl,rfl⟩ (upd_same _ _ _) hkf
structure Ir (nv na : Nat) (x : In) : Prop where
  o:1≤x.op∧x.op≤13
  a:(x.op=1∨x.op=2∨x.op=4∨x.op=6∨x.op=7∨x.op=9∨x.op=10∨x.op=11)→0≤x.a∧x.a.toNat<14
  a3:x.op=3→0≤x.a∧x.a.toNat<nv
  a5:x.op=5→0≤x.a∧x.a.toNat<na
  b:(x.op=3∨x.op=5∨x.op=7)→0≤x.b∧x.b.toNat<14
  b2:x.op=2→0≤x.b∧x.b.toNat<nv
  b4:x.op=4→0≤x.b∧x.b.toNat<na
  c:(x.op=4∨x.op=5∨x.op=6∨x.op=7)→0≤x.c∧x.c.toNat<14
  d:(x.op=6∨x.op=7)→0≤x.d∧x.d.toNat<14
  c0:0≤x.c∧x.c.toNat<14
theorem ir_of {nv na nl:Nat} {x:In} (h:inOK nv na nl x=true):Ir nv na x:=by
  obtain ⟨op,a,b,c',d⟩:=x
  simp only [inOK,kindsOf,fOK,topOf,Bool.and_eq_true,decide_eq_true_eq] at h
  have key:op=1∨op=2∨op=3∨op=4∨op=5∨op=6∨op=7∨op=8∨op=9∨op=10∨op=11∨op=12∨op=13:=by omega
  rcases key with rfl | rfl | rfl | rfl | rfl | rfl | rfl | rfl | rfl | rfl | rfl | rfl | rfl
  all_goals simp at h
  all_goals constructor
  all_goals simp only
  all_goals omega
theorem row_at {row:List Bool} (hl:row.length=14) {i:Nat} (hi:i<14):row[i]? = some (bAt row i):=by
  simp only [bAt,Int.toNat_natCast,List.getD_eq_getElem?_getD]
  rw [List.getElem?_eq_getElem (by omega)];rfl
theorem lab_at {l:List Int} (h3:lab3 l) {i:Nat} (hi:i<l.length):∃ a:Nat,a≤3∧l[i]? = some (a:Int)∧secL a=sAt l i:=by
  obtain ⟨a,h1,h2⟩:=labX h3 (List.getElem_mem hi)
  refine ⟨a,h1,by rw [List.getElem?_eq_getElem hi,h2],?_⟩
  simp [sAt,secL,nth,List.getElem?_eq_getElem hi,h2]
theorem taftI (c:Cd) (x:In) (row:List Bool) (hl:row.length=14) (hv:lab3 c.vars) (ha:lab3 c.arrays) (h1:c.vars.length≤1000) (h2:c.arrays.length≤1000) (h3:c.list.length≤1000) (hx:Ir c.vars.length c.arrays.length x):DC Tryz.prog 64 [.agg (cdC c),.agg (inX x),.c (.isl 1 (row.map fun b=>[C.v (.bool b)]))] [] (fun r h=>r = .c (.msl 0 1 0 14)∧h=[some (boolsC (tAft (hdC c) x row))]):=by
  have hmx:=mx_eq
  have hcl:=cloneRow row hl
  have hrow:=fun i hi=>row_at hl (i:=i) hi
  have hlab:=fun i hi=>lab_at hv (i:=i) hi
  have hlab2:=fun i hi=>lab_at ha (i:=i) hi
  have hbl:=boolsC_len row
  have ret:∀ (k:Nat) (row':List Bool) (hp:Hp),hp k=some (some (boolsC row'))→row'=tAft (hdC c) x row→RetOb 0 (fun r h=>r = .c (.msl 0 1 0 14)∧h=[some (boolsC (tAft (hdC c) x row))]) (.c (.msl k 1 0 14)) hp:=fun k row' hp h e=>by
    subst e;exact RetOb.new1 ⟨rfl,rfl⟩ h (boolsC_kf _)
  generalize hR:(fun (r:D) (h:List (Option (List C)))=>r = .c (.msl 0 1 0 14)∧h=[some (boolsC (tAft (hdC c) x row))])=R at ret ⊢
  clear hR
  obtain ⟨vs,ar,l⟩:=c
  obtain ⟨op,xa,xb,xc,xd⟩:=x
  obtain ⟨ho,oa,o3,o5,ob,o2,o4,oc,od⟩:=hx
  simp only at h1 h2 h3 ho oa o3 o5 ob o2 o4 oc od hlab hlab2
  simp only [cdC,ints,inX]
  by_cases k1:op=1
  · subst k1
    obtain ⟨a,rfl⟩:∃ k:Nat,xa=k:=⟨xa.toNat,by omega⟩
    have halt:a<14:=by have:=(oa (by omega)).2;rwa [Int.toNat_natCast] at this
    have hb4:(boolsC row).set a (.v (.bool false))=boolsC (row.set a false):=boolsC_set _ _ _
    refine dcZ Tryz.func64 ?_
    simp only [go_sem]
    iterate 2 ((try (refine drvZ Tryz.func64 ?_;simp only [go_sem]));((with_reducible and_intros)<;>try exact sd))
    refine XK.callG [] hcl ok89 (fun i' x h=>by simp at h) (hbT ()) (fun d h' ⟨_,e⟩=>by subst e;simp) ?_
    rintro _ _ ⟨rfl,rfl⟩ _
    iterate 6 ((try (refine drvZ Tryz.func64 ?_;simp only [go_sem,boolsC_ren,halt,hb4,hbl,hl,beq_self_eq_true,Bool.or_true,Bool.true_or,Bool.or_false,Bool.false_or]));((with_reducible and_intros)<;>try exact sd))
    exact ret _ _ _ rfl (by simp [tAft])
  by_cases k11:op=11
  · subst k11
    obtain ⟨a,rfl⟩:∃ k:Nat,xa=k:=⟨xa.toNat,by omega⟩
    have halt:a<14:=by have:=(oa (by omega)).2;rwa [Int.toNat_natCast] at this
    have hb4:(boolsC row).set a (.v (.bool false))=boolsC (row.set a false):=boolsC_set _ _ _
    refine dcZ Tryz.func64 ?_
    simp only [go_sem]
    iterate 2 ((try (refine drvZ Tryz.func64 ?_;simp only [go_sem]));((with_reducible and_intros)<;>try exact sd))
    refine XK.callG [] hcl ok89 (fun i' x h=>by simp at h) (hbT ()) (fun d h' ⟨_,e⟩=>by subst e;simp) ?_
    rintro _ _ ⟨rfl,rfl⟩ _
    iterate 6 ((try (refine drvZ Tryz.func64 ?_;simp only [go_sem,boolsC_ren,halt,hb4,hbl,hl,beq_self_eq_true,Bool.or_true,Bool.true_or,Bool.or_false,Bool.false_or]));((with_reducible and_intros)<;>try exact sd))
    exact ret _ _ _ rfl (by simp [tAft])
  by_cases k2:op=2
  · subst k2
    have o2:=o2 rfl
    obtain ⟨a,rfl⟩:∃ k:Nat,xa=k:=⟨xa.toNat,by omega⟩
    have halt:a<14:=by have:=(oa (by omega)).2;rwa [Int.toNat_natCast] at this
    obtain ⟨b,rfl⟩:∃ k:Nat,xb=k:=⟨xb.toNat,by omega⟩
    have hblt:b<vs.length:=by have:=(o2).2;rwa [Int.toNat_natCast] at this
    obtain ⟨q,hq,hqe,hqs⟩:=hlab b hblt
    have hls:=labelSecretI q hq
    rw [hqs] at hls
    generalize hz:sAt vs b=z at *
    have hb4:(boolsC row).set a (.v (.bool z))=boolsC (row.set a z):=boolsC_set _ _ _
    refine dcZ Tryz.func64 ?_
    simp only [go_sem]
    iterate 2 ((try (refine drvZ Tryz.func64 ?_;simp only [go_sem]));((with_reducible and_intros)<;>try exact sd))
    refine XK.callG [] hcl ok89 (fun i' x h=>by simp at h) (hbT ()) (fun d h' ⟨_,e⟩=>by subst e;simp) ?_
    rintro _ _ ⟨rfl,rfl⟩ _
    iterate 8 ((try (refine drvZ Tryz.func64 ?_;simp only [go_sem,boolsC_ren,halt,hblt,hqe,hb4,hbl,hl,beq_self_eq_true,Bool.or_true,Bool.true_or,Bool.or_false,Bool.false_or]));((with_reducible and_intros)<;>try exact sd);(try first | refine XK.p hls ok24 ?_ | refine XK.gp hls ok24 ?_))
    exact ret _ _ _ rfl (by simp [tAft,hdC,hz])
  by_cases k4:op=4
  · subst k4
    have o4:=o4 rfl
    have oc:=oc (by omega)
    obtain ⟨a,rfl⟩:∃ k:Nat,xa=k:=⟨xa.toNat,by omega⟩
    have halt:a<14:=by have:=(oa (by omega)).2;rwa [Int.toNat_natCast] at this
    obtain ⟨b,rfl⟩:∃ k:Nat,xb=k:=⟨xb.toNat,by omega⟩
    have hblt:b<ar.length:=by have:=(o4).2;rwa [Int.toNat_natCast] at this
    obtain ⟨c,rfl⟩:∃ k:Nat,xc=k:=⟨xc.toNat,by omega⟩
    have hclt:c<14:=by have:=(oc).2;rwa [Int.toNat_natCast] at this
    obtain ⟨q,hq,hqe,hqs⟩:=hlab2 b hblt
    have hls:=labelSecretI q hq
    have hrc:=hrow c hclt
    rw [hqs] at hls
    generalize hz:sAt ar b=z at *
    generalize hy:bAt row c=y at *
    cases z with
    | true =>
      have hb4:(boolsC row).set a (.v (.bool true))=boolsC (row.set a true):=boolsC_set _ _ _
      refine dcZ Tryz.func64 ?_
      simp only [go_sem]
      iterate 2 ((try (refine drvZ Tryz.func64 ?_;simp only [go_sem]));((with_reducible and_intros)<;>try exact sd))
      refine XK.callG [] hcl ok89 (fun i' x h=>by simp at h) (hbT ()) (fun d h' ⟨_,e⟩=>by subst e;simp) ?_
      rintro _ _ ⟨rfl,rfl⟩ _
      iterate 8 ((try (refine drvZ Tryz.func64 ?_;simp only [go_sem,boolsC_ren,halt,hblt,hclt,hqe,hrc,hb4,hbl,hl,beq_self_eq_true,Bool.or_true,Bool.true_or,Bool.or_false,Bool.false_or]));((with_reducible and_intros)<;>try exact sd);(try first | refine XK.p hls ok24 ?_ | refine XK.gp hls ok24 ?_))
      exact ret _ _ _ rfl (by simp [tAft,hdC,hz,hy])
    | false =>
      have hb4:(boolsC row).set a (.v (.bool y))=boolsC (row.set a y):=boolsC_set _ _ _
      refine dcZ Tryz.func64 ?_
      simp only [go_sem]
      iterate 2 ((try (refine drvZ Tryz.func64 ?_;simp only [go_sem]));((with_reducible and_intros)<;>try exact sd))
      refine XK.callG [] hcl ok89 (fun i' x h=>by simp at h) (hbT ()) (fun d h' ⟨_,e⟩=>by subst e;simp) ?_
      rintro _ _ ⟨rfl,rfl⟩ _
      iterate 8 ((try (refine drvZ Tryz.func64 ?_;simp only [go_sem,boolsC_ren,halt,hblt,hclt,hqe,hrc,hb4,hbl,hl,beq_self_eq_true,Bool.or_true,Bool.true_or,Bool.or_false,Bool.false_or]));((with_reducible and_intros)<;>try exact sd);(try first | refine XK.p hls ok24 ?_ | refine XK.gp hls ok24 ?_))
      exact ret _ _ _ rfl (by simp [tAft,hdC,hz,hy])
  by_cases k6:op=6
  · subst k6
    have oc:=oc (by omega)
    have od:=od (by omega)
    obtain ⟨a,rfl⟩:∃ k:Nat,xa=k:=⟨xa.toNat,by omega⟩
    have halt:a<14:=by have:=(oa (by omega)).2;rwa [Int.toNat_natCast] at this
    obtain ⟨c,rfl⟩:∃ k:Nat,xc=k:=⟨xc.toNat,by omega⟩
    have hclt:c<14:=by have:=(oc).2;rwa [Int.toNat_natCast] at this
    obtain ⟨d,rfl⟩:∃ k:Nat,xd=k:=⟨xd.toNat,by omega⟩
    have hdlt:d<14:=by have:=(od).2;rwa [Int.toNat_natCast] at this
    have hrc:=hrow c hclt
    have hrd:=hrow d hdlt
    generalize hy:bAt row c=y at *
    generalize hw:bAt row d=w at *
    cases y with
    | true =>
      have hb4:(boolsC row).set a (.v (.bool true))=boolsC (row.set a true):=boolsC_set _ _ _
      refine dcZ Tryz.func64 ?_
      simp only [go_sem]
      iterate 2 ((try (refine drvZ Tryz.func64 ?_;simp only [go_sem]));((with_reducible and_intros)<;>try exact sd))
      refine XK.callG [] hcl ok89 (fun i' x h=>by simp at h) (hbT ()) (fun d h' ⟨_,e⟩=>by subst e;simp) ?_
      rintro _ _ ⟨rfl,rfl⟩ _
      iterate 8 ((try (refine drvZ Tryz.func64 ?_;simp only [go_sem,boolsC_ren,halt,hclt,hdlt,hrc,hrd,hb4,hbl,hl,beq_self_eq_true,Bool.or_true,Bool.true_or,Bool.or_false,Bool.false_or]));((with_reducible and_intros)<;>try exact sd))
      exact ret _ _ _ rfl (by simp [tAft,hy,hw])
    | false =>
      have hb4:(boolsC row).set a (.v (.bool w))=boolsC (row.set a w):=boolsC_set _ _ _
      refine dcZ Tryz.func64 ?_
      simp only [go_sem]
      iterate 2 ((try (refine drvZ Tryz.func64 ?_;simp only [go_sem]));((with_reducible and_intros)<;>try exact sd))
      refine XK.callG [] hcl ok89 (fun i' x h=>by simp at h) (hbT ()) (fun d h' ⟨_,e⟩=>by subst e;simp) ?_
      rintro _ _ ⟨rfl,rfl⟩ _
      iterate 8 ((try (refine drvZ Tryz.func64 ?_;simp only [go_sem,boolsC_ren,halt,hclt,hdlt,hrc,hrd,hb4,hbl,hl,beq_self_eq_true,Bool.or_true,Bool.true_or,Bool.or_false,Bool.false_or]));((with_reducible and_intros)<;>try exact sd))
      exact ret _ _ _ rfl (by simp [tAft,hy,hw])
  by_cases k7:op=7
  · subst k7
    have ob:=ob (by omega)
    have oc:=oc (by omega)
    have od:=od (by omega)
    obtain ⟨a,rfl⟩:∃ k:Nat,xa=k:=⟨xa.toNat,by omega⟩
    have halt:a<14:=by have:=(oa (by omega)).2;rwa [Int.toNat_natCast] at this
    obtain ⟨b,rfl⟩:∃ k:Nat,xb=k:=⟨xb.toNat,by omega⟩
    have hblt:b<14:=by have:=(ob).2;rwa [Int.toNat_natCast] at this
    obtain ⟨c,rfl⟩:∃ k:Nat,xc=k:=⟨xc.toNat,by omega⟩
    have hclt:c<14:=by have:=(oc).2;rwa [Int.toNat_natCast] at this
    obtain ⟨d,rfl⟩:∃ k:Nat,xd=k:=⟨xd.toNat,by omega⟩
    have hdlt:d<14:=by have:=(od).2;rwa [Int.toNat_natCast] at this
    have hrb:=hrow b hblt
    have hrc:=hrow c hclt
    have hrd:=hrow d hdlt
    generalize hz:bAt row b=z at *
    generalize hy:bAt row c=y at *
    generalize hw:bAt row d=w at *
    cases z with
    | true =>
      have hb4:(boolsC row).set a (.v (.bool true))=boolsC (row.set a true):=boolsC_set _ _ _
      refine dcZ Tryz.func64 ?_
      simp only [go_sem]
      iterate 2 ((try (refine drvZ Tryz.func64 ?_;simp only [go_sem]));((with_reducible and_intros)<;>try exact sd))
      refine XK.callG [] hcl ok89 (fun i' x h=>by simp at h) (hbT ()) (fun d h' ⟨_,e⟩=>by subst e;simp) ?_
      rintro _ _ ⟨rfl,rfl⟩ _
      iterate 8 ((try (refine drvZ Tryz.func64 ?_;simp only [go_sem,boolsC_ren,halt,hblt,hclt,hdlt,hrb,hrc,hrd,hb4,hbl,hl,beq_self_eq_true,Bool.or_true,Bool.true_or,Bool.or_false,Bool.false_or]));((with_reducible and_intros)<;>try exact sd))
      exact ret _ _ _ rfl (by simp [tAft,hy,hw,hz])
    | false =>
      cases y with
      | true =>
        have hb4:(boolsC row).set a (.v (.bool true))=boolsC (row.set a true):=boolsC_set _ _ _
        refine dcZ Tryz.func64 ?_
        simp only [go_sem]
        iterate 2 ((try (refine drvZ Tryz.func64 ?_;simp only [go_sem]));((with_reducible and_intros)<;>try exact sd))
        refine XK.callG [] hcl ok89 (fun i' x h=>by simp at h) (hbT ()) (fun d h' ⟨_,e⟩=>by subst e;simp) ?_
        rintro _ _ ⟨rfl,rfl⟩ _
        iterate 8 ((try (refine drvZ Tryz.func64 ?_;simp only [go_sem,boolsC_ren,halt,hblt,hclt,hdlt,hrb,hrc,hrd,hb4,hbl,hl,beq_self_eq_true,Bool.or_true,Bool.true_or,Bool.or_false,Bool.false_or]));((with_reducible and_intros)<;>try exact sd))
        exact ret _ _ _ rfl (by simp [tAft,hy,hw,hz])
      | false =>
        have hb4:(boolsC row).set a (.v (.bool w))=boolsC (row.set a w):=boolsC_set _ _ _
        refine dcZ Tryz.func64 ?_
        simp only [go_sem]
        iterate 2 ((try (refine drvZ Tryz.func64 ?_;simp only [go_sem]));((with_reducible and_intros)<;>try exact sd))
        refine XK.callG [] hcl ok89 (fun i' x h=>by simp at h) (hbT ()) (fun d h' ⟨_,e⟩=>by subst e;simp) ?_
        rintro _ _ ⟨rfl,rfl⟩ _
        iterate 8 ((try (refine drvZ Tryz.func64 ?_;simp only [go_sem,boolsC_ren,halt,hblt,hclt,hdlt,hrb,hrc,hrd,hb4,hbl,hl,beq_self_eq_true,Bool.or_true,Bool.true_or,Bool.or_false,Bool.false_or]));((with_reducible and_intros)<;>try exact sd))
        exact ret _ _ _ rfl (by simp [tAft,hy,hw,hz])
  have g1:(op == 1)=false:=by simp [k1]
  have g11:(op == 11)=false:=by simp [k11]
  have g2:(op == 2)=false:=by simp [k2]
  have g4:(op == 4)=false:=by simp [k4]
  have g6:(op == 6)=false:=by simp [k6]
  have g7:(op == 7)=false:=by simp [k7]
  refine dcZ Tryz.func64 ?_
  simp only [go_sem]
  iterate 2 ((try (refine drvZ Tryz.func64 ?_;simp only [go_sem]));((with_reducible and_intros)<;>try exact sd))
  refine XK.callG [] hcl ok89 (fun i' x h=>by simp at h) (hbT ()) (fun d h' ⟨_,e⟩=>by subst e;simp) ?_
  rintro _ _ ⟨rfl,rfl⟩ _
  iterate 6 ((try (refine drvZ Tryz.func64 ?_;simp only [go_sem,boolsC_ren,g1,g11,g2,g4,g6,g7,k1,k11,k2,k4,k6,k7,beq_self_eq_true,Bool.or_true,Bool.true_or,Bool.or_false,Bool.false_or]));((with_reducible and_intros)<;>try exact sd))
  exact ret _ _ _ rfl (by simp [tAft,k1,k11,k2,k4,k6,k7])
end Go.Proofs.YtoakidkcppinpaaGreat.CtD
