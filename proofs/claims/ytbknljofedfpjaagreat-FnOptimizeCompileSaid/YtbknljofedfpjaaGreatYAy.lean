/- Contracts of functions of the program, one behind the other, as plain data: what each call returns and which blocks it leaves. -/
import Derived.Test.YtbknljofedfpjaaGreatYFacts
import Derived.Test.YtbknljofedfpjaaGreatYAj
import Derived.Test.YtbknljofedfpjaaGreatYAk
import Derived.Test.YtbknljofedfpjaaGreatYAo
import Derived.Test.YtbknljofedfpjaaGreatYAr
import Derived.Test.YtbknljofedfpjaaGreatYAw
import Derived.Test.YtbknljofedfpjaaGreatYAq
import Derived.Test.YtbknljofedfpjaaGreatYAx
import Derived.Test.YtbknljofedfpjaaGreatYAi
import Derived.Test.YtbknljofedfpjaaGreatYAm
import Derived.Test.YtbknljofedfpjaaGreatYAs
import Derived.Test.YtbknljofedfpjaaGreatYAl
import Derived.Test.YtbknljofedfpjaaGreatYAn
import Derived.Test.YtbknljofedfpjaaGreatYAt
import Derived.Test.YtbknljofedfpjaaGreatYAv
set_option linter.unusedVariables false
set_option linter.unusedSimpArgs false
set_option linter.unusedSectionVars false
set_option maxHeartbeats 16000000
set_option maxRecDepth 100000
namespace Go.Proofs.YtbknljofedfpjaaGreat.CtD
open Go Go.CT CtF CtR
variable [Yn]
theorem TL.nil {tm:Nat→Option D}:∀ p ∈ ([]:List (Nat × D)),tm p.1=some p.2∧WsD p.2:=fun p h=>by simp at h
theorem TL.cons {tm:Nat→Option D} {n:Nat} {d:D} {l:List (Nat × D)} (h1:tm n=some d) (h2:WsD d) (h:∀ p ∈ l,tm p.1=some p.2∧WsD p.2):∀ p ∈ (n,d) :: l,tm p.1=some p.2∧WsD p.2:=fun p hp=>by
  rcases List.mem_cons.1 hp with rfl | hp
  · exact ⟨h1,h2⟩
  · exact h p hp
theorem ML.nil {hT:Hp} {tm:Nat→Option D}:∀ p ∈ ([]:List (Nat × D)),∃ d,tm p.1=some d∧SmD hT d p.2:=fun p h=>by simp at h
theorem ML.cons {hT:Hp} {tm:Nat→Option D} {n:Nat} {d0 d:D} {l:List (Nat × D)} (h1:tm n=some d0) (h2:SmD hT d0 d) (h:∀ p ∈ l,∃ d,tm p.1=some d∧SmD hT d p.2):∀ p ∈ (n,d) :: l,∃ d,tm p.1=some d∧SmD hT d p.2:=fun p hp=>by
  rcases List.mem_cons.1 hp with rfl | hp
  · exact ⟨d0,h1,h2⟩
  · exact h p hp
theorem HL.nil {hT hp:Hp}:∀ p ∈ ([]:List (Nat × Option (List C))),∃ cs cs',hp p.1=some (some cs)∧p.2=some cs'∧Sms hT cs cs':=fun p h=>by simp at h
theorem HL.cons {hT hp : Hp} {n : Nat} {cs0 cs1 : List C} {l : List (Nat × Option (List C))} (h1 : hp n = some (some cs0)) (h2 : Sms hT cs0 cs1) (h : ∀ p ∈ l, ∃ cs cs', hp p.1 = some (some cs) ∧ p.2 = some cs' ∧ Sms hT cs cs') :
    ∀ p ∈ (n,some cs1) :: l,∃ cs cs',hp p.1=some (some cs)∧p.2=some cs'∧Sms hT cs cs':=fun p hp=>by
  rcases List.mem_cons.1 hp with rfl | hp
  · exact ⟨cs0,cs1,h1,rfl,h2⟩
  · exact h p hp
end Go.Proofs.YtbknljofedfpjaaGreat.CtD
namespace Go.Proofs.YtbknljofedfpjaaGreat.CtL
variable [Go.CT.Yn]
open Go Go.CT CtF CtR
def tgt (x:In):Int:=if x.op=8 then x.a else if x.op=9∨x.op=10 then x.b else -1
def aim (x:In) (t:Int):In:=if x.op=8 then ⟨x.op,t,x.b,x.c,x.d⟩ else ⟨x.op,x.a,t,x.c,x.d⟩
theorem aim_op (x:In) (t:Int):(aim x t).op=x.op:=by unfold aim;split<;>rfl
theorem tgt_aim {x:In} {t:Int} (h:x.op=8∨x.op=9∨x.op=10):tgt (aim x t)=t:=by
  unfold tgt aim
  rcases h with h | h | h<;>simp [h]
theorem tgt_no {x:In} (h8:x.op ≠ 8) (h9:x.op ≠ 9) (h10:x.op ≠ 10):tgt x = -1:=by simp [tgt,h8,h9,h10]
def tlE (x:In) (regs:List Int):List Ev :=
  if x.op=4 then [⟨2,x.b * 4+nth regs x.c % 4⟩] else if x.op=5 then [⟨3,x.a * 4+nth regs x.b % 4⟩] else if x.op=11 then [⟨4,nth regs x.a⟩] else []
theorem stpEv (x:In) (s:Mc):(stepM x s).2=⟨5,s.pc⟩ :: tlE x s.regs:=by
  by_cases h1:x.op=1
  · simp [stepM,tlE,h1]
  by_cases h2:x.op=2
  · simp [stepM,tlE,h2]
  by_cases h3:x.op=3
  · simp [stepM,tlE,h3]
  by_cases h4:x.op=4
  · simp [stepM,tlE,h4]
  by_cases h5:x.op=5
  · simp [stepM,tlE,h5]
  by_cases h6:x.op=6
  · simp [stepM,tlE,h6]
  by_cases h7:x.op=7
  · simp [stepM,tlE,h7]
  by_cases h8:x.op=8
  · simp [stepM,tlE,h8]
  by_cases h9:x.op=9
  · simp [stepM,tlE,h9]
  by_cases h10:x.op=10
  · simp [stepM,tlE,h10]
  by_cases h11:x.op=11
  · simp [stepM,tlE,h11]
  by_cases h13:x.op=13
  · simp [stepM,tlE,h13]
  simp [stepM,tlE,h1,h2,h3,h4,h5,h6,h7,h8,h9,h10,h11,h13]
def wrR (x:In) (s:Mc):List Int × Mm:=((stepM x s).1.regs,(stepM x s).1.mem)
def taken (x:In) (regs:List Int):Bool:=decide (x.op=8) || (decide (x.op=9) && decide (nth regs x.a=0)) || (decide (x.op=10) && decide ((nth regs x.a+255) % 256 ≠ 0))
theorem stpPc (x:In) (s:Mc) (h13:x.op ≠ 13):(stepM x s).1.pc=if taken x s.regs then (tgt x).toNat else s.pc+1:=by
  by_cases h1:x.op=1
  · simp [stepM,taken,h1]
  by_cases h2:x.op=2
  · simp [stepM,taken,h2]
  by_cases h3:x.op=3
  · simp [stepM,taken,h3]
  by_cases h4:x.op=4
  · simp [stepM,taken,h4]
  by_cases h5:x.op=5
  · simp [stepM,taken,h5]
  by_cases h6:x.op=6
  · simp [stepM,taken,h6]
  by_cases h7:x.op=7
  · simp [stepM,taken,h7]
  by_cases h8:x.op=8
  · simp [stepM,taken,tgt,h8]
  by_cases h9:x.op=9
  · simp [stepM,taken,tgt,h9]
  by_cases h10:x.op=10
  · by_cases q:(nth s.regs x.a+255) % 256=0<;>simp [stepM,taken,tgt,h10,q]
  by_cases h11:x.op=11
  · simp [stepM,taken,h11]
  simp [stepM,taken,h1,h2,h3,h4,h5,h6,h7,h8,h9,h10,h11,h13]
theorem step_wr (x:In) (pc pc':Nat) (regs:List Int) (mem:Mm):wrR x ⟨pc,regs,mem⟩=wrR x ⟨pc',regs,mem⟩:=by
  by_cases h1:x.op=1
  · simp [wrR,stepM,h1]
  by_cases h2:x.op=2
  · simp [wrR,stepM,h2]
  by_cases h3:x.op=3
  · simp [wrR,stepM,h3]
  by_cases h4:x.op=4
  · simp [wrR,stepM,h4]
  by_cases h5:x.op=5
  · simp [wrR,stepM,h5]
  by_cases h6:x.op=6
  · simp [wrR,stepM,h6]
  by_cases h7:x.op=7
  · simp [wrR,stepM,h7]
  by_cases h8:x.op=8
  · simp [wrR,stepM,h8]
  by_cases h9:x.op=9
  · simp [wrR,stepM,h9]
  by_cases h10:x.op=10
  · simp [wrR,stepM,h10]
  by_cases h11:x.op=11
  · simp [wrR,stepM,h11]
  by_cases h13:x.op=13
  · simp [wrR,stepM,h13]
  simp [wrR,stepM,h1,h2,h3,h4,h5,h6,h7,h8,h9,h10,h11,h13]
theorem aim_ne {x:In} {t:Int} (h8:x.op ≠ 8):aim x t=⟨x.op,x.a,t,x.c,x.d⟩:=by simp [aim,h8]
theorem aim_8 {x:In} {t:Int} (h8:x.op=8):aim x t=⟨x.op,t,x.b,x.c,x.d⟩:=by simp [aim,h8]
theorem aim_wr {x:In} {t:Int} (h:x.op=8∨x.op=9∨x.op=10) (s:Mc):wrR (aim x t) s=wrR x s∧taken (aim x t) s.regs=taken x s.regs∧tlE (aim x t) s.regs=tlE x s.regs:=by
  rcases h with h | h | h
  · rw [aim_8 h];simp [wrR,stepM,taken,tlE,h]
  · rw [aim_ne (by omega)];simp [wrR,stepM,taken,tlE,h]
  · rw [aim_ne (by omega)];simp [wrR,stepM,taken,tlE,h]
theorem step_aim {x y : In} (h13 : x.op ≠ 13) (hy : (y = x ∧ tgt x = -1) ∨ ((x.op = 8 ∨ x.op = 9 ∨ x.op = 10) ∧ ∃ t, y = aim x t)) (pc pos : Nat) (regs : List Int) (mem : Mm) :
    stepM y ⟨pos,regs,mem⟩=(⟨if taken x regs then (tgt y).toNat else pos+1,(stepM x ⟨pc,regs,mem⟩).1.regs,(stepM x ⟨pc,regs,mem⟩).1.mem⟩,⟨5,pos⟩ :: tlE x regs):=by
  have hyo:y.op ≠ 13:=by
    rcases hy with ⟨rfl,_⟩ | ⟨_,t,rfl⟩
    · exact h13
    · rw [aim_op];exact h13
  have hw:wrR y ⟨pos,regs,mem⟩=wrR x ⟨pc,regs,mem⟩∧taken y regs=taken x regs∧tlE y regs=tlE x regs:=by
    rcases hy with ⟨rfl,_⟩ | ⟨h,t,rfl⟩
    · exact ⟨step_wr _ _ _ _ _,rfl,rfl⟩
    · obtain ⟨h1,h2,h3⟩:=aim_wr (t:=t) h ⟨pos,regs,mem⟩
      exact ⟨h1.trans (step_wr _ _ _ _ _),h2,h3⟩
  have e1:=stpEv y ⟨pos,regs,mem⟩
  have e2:=stpPc y ⟨pos,regs,mem⟩ hyo
  obtain ⟨h1,h2,h3⟩:=hw
  simp only at e1 e2
  rw [h2] at e2
  rw [h3] at e1
  generalize hz:stepM y ⟨pos,regs,mem⟩=z at *
  obtain ⟨⟨z1,z2,z3⟩,z4⟩:=z
  have g1:wrR y ⟨pos,regs,mem⟩=(z2,z3):=by simp [wrR,hz]
  rw [g1] at h1
  simp only [wrR,Prod.mk.injEq] at h1
  simp only at e1 e2
  rw [e1,e2,h1.1,h1.2]
theorem atC_get {C:List In} {i:Nat} {x:In} (h:C[i]? = some x):atC C i=x:=by simp [atC,List.getD,h]
theorem atC_lt {C:List In} {i:Nat} (h:i<C.length):C[i]? = some (atC C i):=by simp [atC,List.getD,h]
def WfC (C:List In):Prop:=∀ i,i<C.length→((atC C i).op=8∨(atC C i).op=9∨(atC C i).op=10→0≤tgt (atC C i)∧(tgt (atC C i)).toNat<C.length)∧((atC C i).op ≠ 8→(atC C i).op ≠ 13→i+1<C.length)
theorem wf_of {c:Cd} (h:codeOK c=true):WfC c.list:=by
  simp only [codeOK,Bool.and_eq_true,decide_eq_true_eq,List.all_eq_true] at h
  obtain ⟨⟨⟨⟨_,h1⟩,h2⟩,h3⟩,h4⟩:=h
  intro i hi
  have hx:=h3 _ (List.mem_of_getElem? (atC_lt hi))
  refine ⟨fun ho=>?_,fun h8 h13=>?_⟩
  · simp only [inOK,Bool.and_eq_true,decide_eq_true_eq,fOK] at hx
    rcases ho with ho | ho | ho
    · have hk:kindsOf (atC c.list i).op=[6,0,0,0]:=by simp [kindsOf,ho]
      simp [hk,topOf] at hx
      simp only [tgt,ho,if_true]
      omega
    · have hk:kindsOf (atC c.list i).op=[1,6,0,0]:=by simp [kindsOf,ho]
      simp [hk,topOf] at hx
      simp [tgt,ho]
      omega
    · have hk:kindsOf (atC c.list i).op=[1,6,0,0]:=by simp [kindsOf,ho]
      simp [hk,topOf] at hx
      simp [tgt,ho]
      omega
  · rcases Nat.lt_or_ge (i+1) c.list.length with q | q
    · exact q
    · have:i=c.list.length - 1:=by omega
      simp only [endOK,Bool.or_eq_true,beq_iff_eq] at h4
      rw [← this] at h4
      omega
theorem step_lt {C:List In} (hw:WfC C) {s:Mc} (hs:s.pc<C.length):(stepM (atC C s.pc) s).1.pc<C.length:=by
  by_cases h13:(atC C s.pc).op=13
  · simpa [stepM,h13] using hs
  · rw [stpPc _ _ h13]
    obtain ⟨h1,h2⟩:=hw s.pc hs
    split
    · rename_i ht
      simp only [taken,Bool.or_eq_true,Bool.and_eq_true,decide_eq_true_eq] at ht
      exact (h1 (by omega)).2
    · rename_i ht
      refine h2 (fun h=>?_) h13
      simp [taken,h] at ht
open Go Go.CT CtF CtR
theorem set_true {l:List Bool} {i j:Nat} (h:l[i]? = some true):(l.set j true)[i]? = some true:=by
  rw [List.getElem?_set]
  split
  · rename_i e
    subst e
    rw [if_pos (List.getElem?_eq_some_iff.1 h).1]
  · exact h
open Go Go.CT CtF CtR
def chase (C : List In) : Nat → Nat → Nat
  | 0,t=>t
  | n+1,t=>if (atC C t).op=8 then chase C n (atC C t).a.toNat else t
def finJ (C:List In) (t:Nat):Nat:=if (atC C (chase C C.length t)).op=8 then t else chase C C.length t
def thA (C:List In) (x:In):In:=if 0≤tgt x then aim x (finJ C (tgt x).toNat) else x
def thL (C:List In):List In:=C.map (thA C)
theorem thL_len (C:List In):(thL C).length=C.length:=by simp [thL]
theorem thA_op (C:List In) (x:In):(thA C x).op=x.op:=by unfold thA;split;exact aim_op _ _;rfl
theorem thL_at {C:List In} {i:Nat} (h:i<C.length):atC (thL C) i=thA C (atC C i):=by
  apply atC_get
  rw [thL,List.getElem?_map,atC_lt h];rfl
theorem chase_lt {C : List In} (hw : WfC C) : ∀ (n t : Nat), t < C.length → chase C n t < C.length
  | 0,t,h=>h
  | n+1,t,h=>by
    rw [chase]
    split
    · rename_i h8
      obtain ⟨h1,h2⟩:=(hw t h).1 (.inl h8)
      simp only [tgt,h8,if_true] at h2
      exact chase_lt hw n _ h2
    · exact h
theorem finJ_lt {C:List In} (hw:WfC C) {t:Nat} (h:t<C.length):finJ C t<C.length:=by
  unfold finJ;split
  · exact h
  · exact chase_lt hw _ _ h
theorem thA_form {C:List In} (hw:WfC C) {i:Nat} (hi:i<C.length):(thA C (atC C i)=atC C i∧tgt (atC C i) = -1)∨(((atC C i).op=8∨(atC C i).op=9∨(atC C i).op=10)∧∃ t,thA C (atC C i)=aim (atC C i) t):=by
  unfold thA
  by_cases h:(atC C i).op=8∨(atC C i).op=9∨(atC C i).op=10
  · rw [if_pos ((hw i hi).1 h).1]
    exact .inr ⟨h,_,rfl⟩
  · have:=tgt_no (x:=atC C i) (by omega) (by omega) (by omega)
    rw [if_neg (by omega)]
    exact .inl ⟨rfl,this⟩
theorem tgt_thA {C:List In} {x:In} (h:x.op=8∨x.op=9∨x.op=10) (h0:0≤tgt x):tgt (thA C x)=(finJ C (tgt x).toNat:Nat):=by
  unfold thA;rw [if_pos h0,tgt_aim h]
theorem thL_wf {C:List In} (hw:WfC C):WfC (thL C):=fun i hi=>by
  rw [thL_len] at hi ⊢
  rw [thL_at hi,thA_op]
  obtain ⟨h1,h2⟩:=hw i hi
  refine ⟨fun ho=>?_,h2⟩
  obtain ⟨t0,t1⟩:=h1 ho
  rw [tgt_thA ho t0]
  exact ⟨by omega,by have:=finJ_lt hw t1;simpa using this⟩
theorem chase_succ (C : List In) : ∀ (n t : Nat), (atC C (chase C n t)).op = 8 → chase C (n + 1) t = (atC C (chase C n t)).a.toNat
  | 0,t,h=>by simp only [chase] at h ⊢;rw [if_pos h]
  | n+1,t,h=>by
    by_cases h8:(atC C t).op=8
    · rw [chase,if_pos h8] at h ⊢
      rw [chase_succ C n _ h]
      rw [show chase C (n+1) t=chase C n (atC C t).a.toNat by rw [chase,if_pos h8]]
    · rw [chase,if_neg h8] at h
      exact absurd h h8
theorem chase_stop (C : List In) : ∀ (n d t : Nat), (atC C (chase C n t)).op ≠ 8 → chase C (n + d) t = chase C n t
  | 0,d,t,h=>by
    simp only [chase] at h
    cases d with
    | zero=>rfl
    | succ d=>simp only [Nat.zero_add,chase,if_neg h]
  | n+1,d,t,h=>by
    rw [show n+1+d=(n+d)+1 by omega]
    by_cases h8:(atC C t).op=8
    · rw [chase,if_pos h8] at h
      rw [chase,if_pos h8,chase,if_pos h8]
      exact chase_stop C n d _ h
    · rw [chase,if_neg h8,chase,if_neg h8]
theorem chase_back (C:List In) {k n t:Nat} (hkn:k≤n) (h:(atC C (chase C n t)).op=8):(atC C (chase C k t)).op=8:=Classical.byContradiction fun hk=>by
  have:=chase_stop C k (n - k) t hk
  rw [Nat.add_sub_cancel' hkn] at this
  rw [this] at h
  exact hk h
theorem chase_add (C : List In) : ∀ (n m t : Nat), chase C (n + m) t = chase C m (chase C n t)
  | 0,m,t=>by simp [chase]
  | n+1,m,t=>by
    rw [show n+1+m=(n+m)+1 by omega]
    by_cases h8:(atC C t).op=8
    · rw [chase,if_pos h8,chase_add C n m,chase,if_pos h8]
    · rw [chase,if_neg h8,chase,if_neg h8]
      cases m with
      | zero=>rfl
      | succ m=>rw [chase,if_neg h8]
theorem nodup_below : ∀ (n : Nat) (l : List Nat), l.Nodup → (∀ x ∈ l, x < n) → l.length ≤ n
  | 0,l,_,h=>by
    cases l with
    | nil=>simp
    | cons a r=>have:=h a (by simp);omega
  | n+1,l,hn,h=>by
    have ih:=nodup_below n (l.filter fun x=>decide (x ≠ n)) (List.Pairwise.filter _ hn) fun x hx=>by
      obtain ⟨h1,h2⟩:=List.mem_filter.1 hx
      have:=h x h1
      have:=of_decide_eq_true h2
      omega
    have:∀ l:List Nat,l.Nodup→l.length≤(l.filter fun x=>decide (x ≠ n)).length+1:=fun l=>by
      induction l with
      | nil=>intro _;simp
      | cons a r ihr =>
        intro hnd
        rw [List.nodup_cons] at hnd
        by_cases ha:a=n
        · subst ha
          have hf:(r.filter fun x=>decide (x ≠ a))=r:=List.filter_eq_self.2 fun x hx=>by
            simp only [ne_eq,decide_eq_true_eq]
            intro e;subst e;exact hnd.1 hx
          rw [List.filter_cons,if_neg (by simp),hf]
          simp
        · rw [List.filter_cons,if_pos (by simpa using ha)]
          have:=ihr hnd.2
          simp only [List.length_cons];omega
    have:=this l hn
    omega
theorem chase_cycle {C:List In} (hw:WfC C) {t:Nat} (ht:t<C.length) (h:(atC C (chase C C.length t)).op=8) (k:Nat):(atC C (chase C k t)).op=8:=by
  have hnn:¬ ((List.range (C.length+1)).map fun i=>chase C i t).Nodup:=fun hn=>by
    have:=nodup_below C.length _ hn fun x hx=>by
      obtain ⟨i,_,rfl⟩:=List.mem_map.1 hx
      exact chase_lt hw i t ht
    simp at this
    omega
  have hex:∃ i j,i<j∧j≤C.length∧chase C i t=chase C j t:=Classical.byContradiction fun hno=>hnn (by
    rw [List.nodup_iff_pairwise_ne,List.pairwise_map]
    refine List.pairwise_lt_range.imp_of_mem fun {a b} ha hb hab e=>hno ⟨a,b,hab,?_,e⟩
    have:=List.mem_range.1 hb
    omega)
  obtain ⟨i,j,hij,hj,e⟩:=hex
  -- everything from i on goes round
  have per:∀ m,(atC C (chase C (i+m) t)).op=8:=fun m=>by
    induction m using Nat.strongRecOn with
    | _ m ih =>
      rcases Nat.lt_or_ge m (j - i) with hm | hm
      · exact chase_back C (n:=C.length) (by omega) h
      · have e2:chase C (i+m) t=chase C (i+(m - (j - i))) t:=by
          rw [show i+m=j+(m - (j - i)) by omega,chase_add,← e,← chase_add]
        rw [e2]
        exact ih _ (by omega)
  rcases Nat.lt_or_ge k i with hk | hk
  · exact chase_back C (Nat.le_of_lt hk) (by simpa using per 0)
  · have:=per (k - i)
    rwa [Nat.add_sub_cancel' hk] at this
theorem thL_idem {C:List In} (hw:WfC C):thL (thL C)=thL C:=by
  have hw2:=thL_wf hw
  have key:∀ t,t<C.length→finJ (thL C) (finJ C t)=finJ C t:=fun t ht=>by
    by_cases h8:(atC C (chase C C.length t)).op=8
    · have hall:=chase_cycle hw ht h8
      have e:finJ C t=t:=by rw [finJ,if_pos h8]
      rw [e]
      -- the threaded chain stays on the same jumps
      have hst:∀ k u,(∀ m,(atC C (chase C m u)).op=8)→u<C.length→(atC (thL C) (chase (thL C) k u)).op=8:=fun k=>by
        induction k with
        | zero =>
          intro u hu hlt
          simp only [chase]
          rw [thL_at hlt,thA_op]
          exact hu 0
        | succ k ih =>
          intro u hu hlt
          have h0:=hu 0
          simp only [chase] at h0
          have ha:(atC (thL C) u).op=8:=by rw [thL_at hlt,thA_op];exact h0
          rw [chase,if_pos ha]
          obtain ⟨t0,t1⟩:=(hw u hlt).1 (.inl h0)
          have hv:∀ m,(atC C (chase C m (tgt (atC C u)).toNat)).op=8:=fun m=>by
            have:=hu (m+1)
            rw [chase,if_pos h0] at this
            simpa [tgt,h0] using this
          have hfi:finJ C (tgt (atC C u)).toNat=(tgt (atC C u)).toNat:=by rw [finJ,if_pos (hv _)]
          have hta:(atC (thL C) u).a.toNat=(tgt (atC C u)).toNat:=by
            have h1:=tgt_thA (C:=C) (.inl h0) t0
            rw [hfi] at h1
            have h2:tgt (thA C (atC C u))=(thA C (atC C u)).a:=by simp [tgt,thA_op,h0]
            rw [thL_at hlt,← h2,h1];rfl
          rw [hta]
          exact ih _ hv t1
      rw [finJ,if_pos (hst _ t hall ht)]
    · have e:finJ C t=chase C C.length t:=by rw [finJ,if_neg h8]
      have hlt:=chase_lt hw C.length t ht
      rw [← e] at h8 hlt
      have hn:∀ k,chase (thL C) k (finJ C t)=finJ C t:=fun k=>by
        cases k with
        | zero=>rfl
        | succ k=>rw [chase,if_neg (by rw [thL_at hlt,thA_op];exact h8)]
      rw [finJ,hn,if_neg (by rw [thL_at hlt,thA_op];exact h8)]
  have:∀ x ∈ thL C,thA (thL C) x=x:=fun x hx=>by
    obtain ⟨y,hy,rfl⟩:=List.mem_map.1 hx
    obtain ⟨i,hi⟩:=List.getElem?_of_mem hy
    have hlt:i<C.length:=(List.getElem?_eq_some_iff.1 hi).1
    have hat:=atC_get hi
    subst hat
    by_cases ho:(atC C i).op=8∨(atC C i).op=9∨(atC C i).op=10
    · obtain ⟨t0,t1⟩:=(hw i hlt).1 ho
      have h1:=tgt_thA (C:=C) ho t0
      have h2:thA (thL C) (thA C (atC C i))=aim (thA C (atC C i)) (finJ C (tgt (atC C i)).toNat:Nat):=by
        rw [thA,if_pos (by omega),h1,Int.toNat_natCast,key _ t1]
      rw [h2]
      have h3:thA C (atC C i)=aim (atC C i) (finJ C (tgt (atC C i)).toNat:Nat):=by rw [thA,if_pos t0]
      rw [h3]
      unfold aim
      split<;>simp_all
    · have hno:=tgt_no (x:=atC C i) (by omega) (by omega) (by omega)
      have h3:thA C (atC C i)=atC C i:=by rw [thA,if_neg (by omega)]
      rw [h3,thA,if_neg (by omega)]
  have e:(thL C).map (thA (thL C))=(thL C).map id:=List.map_congr_left fun x hx=>by rw [this x hx];rfl
  rw [show thL (thL C)=(thL C).map (thA (thL C)) from rfl,e,List.map_id]
theorem chase_run {C : List In} (hw : WfC C) : ∀ (k N t : Nat) (r : List Int) (m m' : Mm) (T : List Ev), t < C.length → (atC C (chase C k t)).op ≠ 8 → runM C N ⟨t, r, m⟩ = some (m', T) → ∃ N2 T2, N2 ≤ N ∧ runM C N2 ⟨chase C k t, r, m⟩ = some (m', T2) ∧ prj T2 = prj T
  | 0,N,t,r,m,m',T,_,_,h=>⟨N,T,Nat.le_refl _,h,rfl⟩
  | k+1,N,t,r,m,m',T,ht,hk,h=>by
    by_cases h8:(atC C t).op=8
    · rw [chase,if_pos h8] at hk ⊢
      cases N with
      | zero=>simp [runM] at h
      | succ N =>
        rw [runM] at h
        simp only at h
        rw [if_neg (by omega)] at h
        obtain ⟨q,hq,e⟩:=Option.map_eq_some_iff.1 h
        have hs:stepM (atC C t) ⟨t,r,m⟩=(⟨(atC C t).a.toNat,r,m⟩,[⟨5,t⟩]):=by simp [stepM,h8]
        rw [hs] at hq e
        obtain ⟨t0,t1⟩:=(hw t ht).1 (.inl h8)
        simp only [tgt,h8,if_true] at t1
        obtain ⟨q1,q2⟩:=q
        obtain ⟨N2,T2,hle,hr,hp⟩:=chase_run hw k N _ r m q1 q2 t1 hk hq
        simp only [Prod.mk.injEq] at e
        obtain ⟨rfl,rfl⟩:=e
        exact ⟨N2,T2,by omega,hr,by rw [hp];simp [prj]⟩
    · rw [chase,if_neg h8] at hk ⊢
      exact ⟨N,T,Nat.le_refl _,h,rfl⟩
theorem thread_run {C:List In} (hw:WfC C):∀ (N:Nat) (s:Mc) (m':Mm) (T:List Ev),s.pc<C.length→runM C N s=some (m',T)→∃ N2 T2,runM (thL C) N2 s=some (m',T2)∧prj T2=prj T:=fun N=>by
  induction N using Nat.strongRecOn with
  | _ N ih =>
    intro s m' T hs h
    obtain ⟨pc,r,m⟩:=s
    simp only at hs
    cases N with
    | zero=>simp [runM] at h
    | succ N =>
      have hat:=thL_at hs
      have hop:=thA_op C (atC C pc)
      by_cases h13:(atC C pc).op=13
      · rw [runM] at h
        simp only at h
        rw [if_pos h13] at h
        have hno:=tgt_no (x:=atC C pc) (by omega) (by omega) (by omega)
        have hx:thA C (atC C pc)=atC C pc:=by rw [thA,if_neg (by omega)]
        refine ⟨1,T,?_,rfl⟩
        rw [runM]
        simp only
        rw [hat,hx,if_pos h13]
        exact h
      · rw [runM] at h
        simp only at h
        rw [if_neg h13] at h
        obtain ⟨⟨q1,q2⟩,hq,e⟩:=Option.map_eq_some_iff.1 h
        have hform:=thA_form hw hs
        have s1:=step_aim h13 hform pc pc r m
        have hp1:=stpPc (atC C pc) ⟨pc,r,m⟩ h13
        have hev:=stpEv (atC C pc) ⟨pc,r,m⟩
        have hlt1:=step_lt hw (s:=⟨pc,r,m⟩) hs
        simp only at hp1 hev hlt1
        generalize stepM (atC C pc) ⟨pc,r,m⟩=z at *
        obtain ⟨⟨z1,z2,z3⟩,z4⟩:=z
        simp only at s1 hp1 hq e hev hlt1
        simp only [Prod.mk.injEq] at e
        obtain ⟨rfl,rfl⟩:=e
        have fin:∀ pc2,(∃ N2 T2,runM (thL C) N2 ⟨pc2,z2,z3⟩=some (q1,T2)∧prj T2=prj q2)→(if taken (atC C pc) r then (tgt (thA C (atC C pc))).toNat else pc+1)=pc2→∃ N2 T2,runM (thL C) N2 ⟨pc,r,m⟩=some (q1,T2)∧prj T2=prj (z4++q2):=fun pc2 ⟨N2,T2,h1,h2⟩ hpc=>by
          refine ⟨N2+1,(⟨5,pc⟩ :: tlE (atC C pc) r)++T2,?_,?_⟩
          · rw [runM]
            simp only
            rw [hat,if_neg (by rw [hop];exact h13),s1,hpc]
            simp only
            rw [h1];rfl
          · rw [hev,prj_app,prj_app,h2]
        by_cases htk:taken (atC C pc) r=true
        · have ho:(atC C pc).op=8∨(atC C pc).op=9∨(atC C pc).op=10:=by
            have:=htk
            simp only [taken,Bool.or_eq_true,Bool.and_eq_true,decide_eq_true_eq] at this
            omega
          obtain ⟨t0,t1⟩:=(hw pc hs).1 ho
          rw [if_pos htk] at hp1
          have hft:=tgt_thA (C:=C) ho t0
          subst hp1
          by_cases h8:(atC C (chase C C.length (tgt (atC C pc)).toNat)).op=8
          · have e1:finJ C (tgt (atC C pc)).toNat=(tgt (atC C pc)).toNat:=by rw [finJ,if_pos h8]
            refine fin _ (ih N (by omega) _ _ _ t1 hq) ?_
            rw [if_pos htk,hft,e1];rfl
          · have e1:finJ C (tgt (atC C pc)).toNat=chase C C.length (tgt (atC C pc)).toNat:=by rw [finJ,if_neg h8]
            obtain ⟨N2,T2,hle,hr,hp⟩:=chase_run hw C.length N _ z2 z3 q1 q2 t1 h8 hq
            obtain ⟨N3,T3,h3,h4⟩:=ih N2 (by omega) _ _ _ (chase_lt hw _ _ t1) hr
            refine fin _ ⟨N3,T3,h3,by rw [h4,hp]⟩ ?_
            rw [if_pos htk,hft,e1];rfl
        · rw [if_neg htk] at hp1
          subst hp1
          refine fin _ (ih N (by omega) _ _ _ hlt1 hq) ?_
          rw [if_neg htk]
open Go Go.CT CtF CtR
def folM (C:List In) (i:Nat):List Nat:=(if 0≤tgt (atC C i) then [(tgt (atC C i)).toNat] else [])++(if (atC C i).op ≠ 8∧(atC C i).op ≠ 13 then [i+1] else [])
inductive Rch (C : List In) : Nat → Prop
  | start:Rch C 0
  | step {i k:Nat} (h:Rch C i) (hk:k ∈ folM C i):Rch C k
theorem follow_lt {C:List In} (hw:WfC C) {i k:Nat} (hi:i<C.length) (hk:k ∈ folM C i):k<C.length:=by
  obtain ⟨h1,h2⟩:=hw i hi
  unfold folM at hk
  rcases List.mem_append.1 hk with hk | hk
  · by_cases h0:0≤tgt (atC C i)
    · rw [if_pos h0,List.mem_singleton] at hk
      subst hk
      have ho:(atC C i).op=8∨(atC C i).op=9∨(atC C i).op=10:=Classical.byContradiction fun hn=>by
        rw [tgt_no (by omega) (by omega) (by omega)] at h0
        omega
      exact (h1 ho).2
    · rw [if_neg h0] at hk;simp at hk
  · by_cases h0:(atC C i).op ≠ 8∧(atC C i).op ≠ 13
    · rw [if_pos h0,List.mem_singleton] at hk
      subst hk
      exact h2 h0.1 h0.2
    · rw [if_neg h0] at hk;simp at hk
theorem Rch.lt {C:List In} (hw:WfC C) (h0:0<C.length) {i:Nat} (h:Rch C i):i<C.length:=by
  induction h with
  | start=>exact h0
  | step _ hk ih=>exact follow_lt hw ih hk
open Classical in
noncomputable def rchL (C:List In):List Bool:=(List.range C.length).map fun i=>decide (Rch C i)
theorem rchL_len (C:List In):(rchL C).length=C.length:=by simp [rchL]
theorem rchL_at {C:List In} {i:Nat} (h:i<C.length):((rchL C)[i]? = some true ↔ Rch C i):=by simp [rchL,h]
theorem rchL_of {C:List In} (hw:WfC C) (h0:0<C.length) {S:List Bool} (hl:S.length=C.length) (hs:∀ i,S[i]? = some true→Rch C i) (hz:S[0]? = some true) (hc:∀ i,S[i]? = some true→∀ k ∈ folM C i,S[k]? = some true):S=rchL C:=by
  have hall:∀ i,Rch C i→S[i]? = some true:=fun i h=>by
    induction h with
    | start=>exact hz
    | step _ hk ih=>exact hc _ ih _ hk
  refine List.ext_getElem? fun i=>?_
  rcases Nat.lt_or_ge i C.length with hi | hi
  · have h2:=rchL_at hi
    obtain ⟨b,hb⟩:∃ b,S[i]? = some b:=⟨S[i]'(by omega),List.getElem?_eq_getElem (by omega)⟩
    obtain ⟨b2,hb2⟩:∃ b,(rchL C)[i]? = some b:=⟨(rchL C)[i]'(by rw [rchL_len];exact hi),List.getElem?_eq_getElem _⟩
    rw [hb,hb2]
    cases b with
    | true =>
      have:=h2.2 (hs i hb)
      rw [hb2] at this;rw [← this]
    | false =>
      cases b2 with
      | false=>rfl
      | true =>
        have:=hall i (h2.1 hb2)
        rw [hb] at this;cases this
  · rw [List.getElem?_eq_none (by omega),List.getElem?_eq_none (by rw [rchL_len];exact hi)]
noncomputable def keepT (C:List In) (i:Nat):Bool:=(rchL C).getD i false && !(decide ((atC C i).op=8) && decide ((atC C i).a=(i:Int)+1))
noncomputable def plT (C : List In) : Nat → Nat
  | 0=>0
  | i+1=>plT C i+(keepT C i).toNat
noncomputable def aimT (C:List In) (x:In):In:=if 0≤tgt x then aim x (plT C (tgt x).toNat) else x
noncomputable def trL (C : List In) : Nat → List In
  | 0=>[]
  | k+1=>trL C k++(if keepT C k then [aimT C (atC C k)] else [])
theorem trL_len (C : List In) : ∀ k, (trL C k).length = plT C k
  | 0=>rfl
  | k+1=>by
    rw [trL,List.length_append,trL_len C k,plT]
    cases keepT C k<;>simp
theorem trL_get {C : List In} {i : Nat} {x : In} : ∀ (d k : Nat), (trL C k)[i]? = some x → (trL C (k + d))[i]? = some x
  | 0,k,h=>h
  | d+1,k,h=>by
    rw [← Nat.add_assoc,trL,List.getElem?_append_left]
    · exact trL_get d k h
    · exact (List.getElem?_eq_some_iff.1 (trL_get d k h)).1
noncomputable def trC2 (C:List In):List In:=trL C C.length
theorem tr_at {C:List In} {k:Nat} (hk:k<C.length) (h:keepT C k=true):atC (trC2 C) (plT C k)=aimT C (atC C k):=by
  have e:trC2 C=trL C (k+1+(C.length - (k+1))):=by unfold trC2;congr 1;omega
  rw [e]
  refine atC_get (trL_get _ _ ?_)
  rw [trL,List.getElem?_append_right (by rw [trL_len];exact Nat.le_refl _),trL_len,Nat.sub_self,if_pos h];rfl
theorem plT_mono (C : List In) (i : Nat) : ∀ d, plT C i ≤ plT C (i + d)
  | 0=>Nat.le_refl _
  | d+1=>by have:=plT_mono C i d;rw [← Nat.add_assoc,plT];omega
theorem plT_le (C : List In) : ∀ i, plT C i ≤ i
  | 0=>Nat.le_refl _
  | i+1=>by have:=plT_le C i;rw [plT];cases keepT C i<;>simp<;>omega
theorem keep_of {C:List In} {i:Nat} (hi:i<C.length) (h:Rch C i):keepT C i=true∨((atC C i).op=8∧(atC C i).a=(i:Int)+1∧keepT C i=false):=by
  have hr:(rchL C).getD i false=true:=by rw [List.getD_eq_getElem?_getD,(rchL_at hi).2 h];rfl
  by_cases hj:(atC C i).op=8∧(atC C i).a=(i:Int)+1
  · exact .inr ⟨hj.1,hj.2,by simp [keepT,hj.1,hj.2]⟩
  · refine .inl ?_
    rw [keepT,hr]
    simp only [Bool.true_and,Bool.not_eq_true',Bool.and_eq_false_imp,decide_eq_true_eq,decide_eq_false_iff_not]
    exact fun h1 h2=>hj ⟨h1,h2⟩
theorem keep_rch {C:List In} {i:Nat} (hi:i<C.length) (h:keepT C i=true):Rch C i:=by
  rw [keepT,Bool.and_eq_true] at h
  have:=h.1
  rw [List.getD_eq_getElem?_getD,List.getElem?_eq_getElem (by rw [rchL_len];exact hi)] at this
  refine (rchL_at hi).1 ?_
  rw [List.getElem?_eq_getElem (by rw [rchL_len];exact hi)]
  simpa using this
theorem plT_lt {C : List In} (hw : WfC C) (h0 : 0 < C.length) : ∀ (d k : Nat), C.length = k + d → Rch C k → plT C k < plT C C.length
  | 0,k,hd,h=>by have:=h.lt hw h0;omega
  | d+1,k,hd,h=>by
    have hk:k<C.length:=by omega
    have hm:=plT_mono C (k+1) d
    rw [show k+1+d=C.length by omega] at hm
    rcases keep_of hk h with q | ⟨q1,q2,q3⟩
    · rw [plT,q] at hm
      simp at hm;omega
    · have hf:k+1 ∈ folM C k:=by
        unfold folM
        have ht:tgt (atC C k)=(k:Int)+1:=by simp [tgt,q1,q2]
        rw [if_pos (by omega),ht]
        simp
      have:=plT_lt hw h0 d (k+1) (by omega) (.step h hf)
      have e:plT C (k+1)=plT C k:=by rw [plT,q3];rfl
      rw [e] at this
      exact this
theorem aimT_op (C:List In) (x:In):(aimT C x).op=x.op:=by unfold aimT;split;exact aim_op _ _;rfl
theorem aimT_form {C:List In} (hw:WfC C) {i:Nat} (hi:i<C.length):(aimT C (atC C i)=atC C i∧tgt (atC C i) = -1)∨(((atC C i).op=8∨(atC C i).op=9∨(atC C i).op=10)∧∃ t,aimT C (atC C i)=aim (atC C i) t):=by
  unfold aimT
  by_cases h:(atC C i).op=8∨(atC C i).op=9∨(atC C i).op=10
  · rw [if_pos ((hw i hi).1 h).1]
    exact .inr ⟨h,_,rfl⟩
  · have:=tgt_no (x:=atC C i) (by omega) (by omega) (by omega)
    rw [if_neg (by omega)]
    exact .inl ⟨rfl,this⟩
theorem tgt_aimT {C:List In} {x:In} (h:x.op=8∨x.op=9∨x.op=10) (h0:0≤tgt x):tgt (aimT C x)=(plT C (tgt x).toNat:Nat):=by
  unfold aimT;rw [if_pos h0,tgt_aim h]
theorem follow_tgt {C:List In} {i:Nat} (h:0≤tgt (atC C i)):(tgt (atC C i)).toNat ∈ folM C i:=by
  unfold folM;rw [if_pos h];simp
theorem follow_next {C:List In} {i:Nat} (h8:(atC C i).op ≠ 8) (h13:(atC C i).op ≠ 13):i+1 ∈ folM C i:=List.mem_append_right _ (by rw [if_pos ⟨h8,h13⟩];simp)
theorem trL_mem {C : List In} {j : Nat} : ∀ {k : Nat}, j < plT C k → ∃ i, i < k ∧ keepT C i = true ∧ j = plT C i
  | 0,h=>by simp [plT] at h
  | k+1,h=>by
    by_cases hj:j<plT C k
    · obtain ⟨i,h1,h2,h3⟩:=trL_mem hj
      exact ⟨i,by omega,h2,h3⟩
    · rw [plT] at h
      cases hk:keepT C k with
      | false=>rw [hk] at h;simp at h;omega
      | true=>rw [hk] at h;simp at h;exact ⟨k,by omega,hk,by omega⟩
theorem tr_wf {C:List In} (hw:WfC C) (h0:0<C.length):WfC (trC2 C)∧0<(trC2 C).length∧(trC2 C).length≤C.length:=by
  have hlen:(trC2 C).length=plT C C.length:=trL_len C _
  have hlt:∀ k,Rch C k→plT C k<plT C C.length:=fun k h=>plT_lt hw h0 (C.length - k) k (by have:=h.lt hw h0;omega) h
  refine ⟨fun j hj=>?_,?_,?_⟩
  · rw [hlen] at hj ⊢
    obtain ⟨i,hi,hk,rfl⟩:=trL_mem hj
    rw [tr_at hi hk,aimT_op]
    have hr:=keep_rch hi hk
    obtain ⟨h1,h2⟩:=hw i hi
    refine ⟨fun ho=>?_,fun h8 h13=>?_⟩
    · obtain ⟨t0,t1⟩:=h1 ho
      rw [tgt_aimT ho t0]
      exact ⟨by omega,by have:=hlt _ (.step hr (follow_tgt t0));simpa using this⟩
    · have:=hlt _ (.step hr (follow_next h8 h13))
      rw [plT,hk] at this
      simpa using this
  · rw [hlen]
    have:=hlt 0 .start
    simpa [plT] using this
  · rw [hlen];exact plT_le C _
theorem trim_run {C : List In} (hw : WfC C) : ∀ (N : Nat) (s : Mc) (m' : Mm) (T : List Ev), s.pc < C.length → Rch C s.pc → runM C N s = some (m', T) → ∃ N2 T2, runM (trC2 C) N2 ⟨plT C s.pc, s.regs, s.mem⟩ = some (m', T2) ∧ prj T2 = prj T
  | 0,s,m',T,_,_,h=>by simp [runM] at h
  | N+1,⟨pc,r,m⟩,m',T,hs,hr,h=>by
    simp only at hs hr ⊢
    by_cases h13:(atC C pc).op=13
    · have hk:keepT C pc=true:=(keep_of hs hr).elim id fun q=>by omega
      have hat:=tr_at hs hk
      rw [runM] at h
      simp only at h
      rw [if_pos h13] at h
      have hno:=tgt_no (x:=atC C pc) (by omega) (by omega) (by omega)
      have hx:aimT C (atC C pc)=atC C pc:=by rw [aimT,if_neg (by omega)]
      simp only [Option.some.injEq,Prod.mk.injEq] at h
      obtain ⟨e1,e2⟩:=h
      refine ⟨1,(stepM (atC C pc) ⟨plT C pc,r,m⟩).2,?_,?_⟩
      · rw [runM]
        simp only
        rw [hat,hx,if_pos h13]
        have:(stepM (atC C pc) ⟨plT C pc,r,m⟩).1.mem=m':=by rw [← e1];simp [stepM,h13]
        rw [this]
      · rw [← e2,stpEv,stpEv]
        simp [prj]
    · rw [runM] at h
      simp only at h
      rw [if_neg h13] at h
      obtain ⟨⟨q1,q2⟩,hq,e⟩:=Option.map_eq_some_iff.1 h
      rcases keep_of hs hr with hk | ⟨k8,ka,kf⟩
      · have hat:=tr_at hs hk
        have hform:=aimT_form hw hs
        have s1:=step_aim h13 hform pc (plT C pc) r m
        have hp1:=stpPc (atC C pc) ⟨pc,r,m⟩ h13
        have hev:=stpEv (atC C pc) ⟨pc,r,m⟩
        have hlt1:=step_lt hw (s:=⟨pc,r,m⟩) hs
        simp only at hp1 hev hlt1
        generalize stepM (atC C pc) ⟨pc,r,m⟩=z at *
        obtain ⟨⟨z1,z2,z3⟩,z4⟩:=z
        simp only at s1 hp1 hq e hev hlt1
        simp only [Prod.mk.injEq] at e
        obtain ⟨rfl,rfl⟩:=e
        have hr1:Rch C z1:=by
          by_cases htk:taken (atC C pc) r=true
          · rw [if_pos htk] at hp1
            have ho:(atC C pc).op=8∨(atC C pc).op=9∨(atC C pc).op=10:=by
              simp only [taken,Bool.or_eq_true,Bool.and_eq_true,decide_eq_true_eq] at htk
              omega
            rw [hp1]
            exact .step hr (follow_tgt ((hw pc hs).1 ho).1)
          · rw [if_neg htk] at hp1
            have h8:(atC C pc).op ≠ 8:=fun h=>by simp [taken,h] at htk
            rw [hp1]
            exact .step hr (follow_next h8 h13)
        obtain ⟨N2,T2,h1,h2⟩:=trim_run hw N ⟨z1,z2,z3⟩ q1 q2 hlt1 hr1 hq
        simp only at h1
        have hpp:(if taken (atC C pc) r then (tgt (aimT C (atC C pc))).toNat else plT C pc+1)=plT C z1:=by
          by_cases htk:taken (atC C pc) r=true
          · rw [if_pos htk] at hp1 ⊢
            have ho:(atC C pc).op=8∨(atC C pc).op=9∨(atC C pc).op=10:=by
              simp only [taken,Bool.or_eq_true,Bool.and_eq_true,decide_eq_true_eq] at htk
              omega
            rw [tgt_aimT ho ((hw pc hs).1 ho).1,hp1];rfl
          · rw [if_neg htk] at hp1 ⊢
            rw [hp1,plT,hk];rfl
        refine ⟨N2+1,(⟨5,plT C pc⟩ :: tlE (atC C pc) r)++T2,?_,?_⟩
        · rw [runM]
          simp only
          rw [hat,if_neg (by rw [aimT_op];exact h13),s1,hpp]
          simp only
          rw [h1];rfl
        · rw [hev,prj_app,prj_app,h2]
          simp [prj]
      · have hst:stepM (atC C pc) ⟨pc,r,m⟩=(⟨pc+1,r,m⟩,[⟨5,pc⟩]):=by
          simp [stepM,k8,ka]
        rw [hst] at hq e
        have hf:pc+1 ∈ folM C pc:=by
          have ht:tgt (atC C pc)=(pc:Int)+1:=by simp [tgt,k8,ka]
          have:=follow_tgt (C:=C) (i:=pc) (by omega)
          rw [ht] at this
          rwa [show ((pc:Int)+1).toNat=pc+1 by omega] at this
        have hr1:Rch C (pc+1) := .step hr hf
        obtain ⟨N2,T2,h1,h2⟩:=trim_run hw N ⟨pc+1,r,m⟩ q1 q2 (follow_lt hw hs hf) hr1 hq
        simp only [Prod.mk.injEq] at e
        obtain ⟨rfl,rfl⟩:=e
        have e2:plT C (pc+1)=plT C pc:=by rw [plT,kf];rfl
        simp only at h1
        rw [e2] at h1
        exact ⟨N2,T2,h1,by rw [h2];simp [prj]⟩
theorem aim_self : ∀ (x : In), 0 ≤ tgt x → aim x (tgt x) = x
  | ⟨op,a,b,c,d⟩,h=>by
    simp only [tgt,aim] at h ⊢
    by_cases h8:op=8
    · simp [h8]
    · rw [if_neg h8] at h ⊢
      by_cases h9:op=9∨op=10
      · simp [h8,h9]
      · rw [if_neg h9] at h;omega
theorem tr_same {C:List In} (hw:WfC C) (h:(trC2 C).length=C.length):trC2 C=C:=by
  have hlen:(trC2 C).length=plT C C.length:=trL_len C _
  have hid:∀ d i,C.length=i+d→plT C i=i:=fun d=>by
    induction d with
    | zero=>intro i hi;rw [Nat.add_zero] at hi;rw [← hi,← hlen];exact h
    | succ d ih =>
      intro i hi
      have h1:=ih (i+1) (by omega)
      rw [plT] at h1
      have:=plT_le C i
      cases hk:keepT C i with
      | false=>rw [hk] at h1;simp at h1;omega
      | true=>rw [hk] at h1;simpa using h1
  have hk:∀ i,i<C.length→keepT C i=true:=fun i hi=>by
    have h1:=hid (C.length - i) i (by omega)
    have h2:=hid (C.length - (i+1)) (i+1) (by omega)
    rw [plT,h1] at h2
    cases hk:keepT C i with
    | true=>rfl
    | false=>rw [hk] at h2;simp at h2
  have ha:∀ i,i<C.length→aimT C (atC C i)=atC C i:=fun i hi=>by
    unfold aimT
    by_cases h0:0≤tgt (atC C i)
    · rw [if_pos h0]
      have hlt:=follow_lt hw hi (follow_tgt h0)
      rw [hid (C.length - (tgt (atC C i)).toNat) (tgt (atC C i)).toNat (by omega)]
      rw [show (((tgt (atC C i)).toNat:Nat):Int)=tgt (atC C i) by omega]
      exact aim_self _ h0
    · rw [if_neg h0]
  have key:∀ k,k≤C.length→trL C k=C.take k:=fun k=>by
    induction k with
    | zero=>intro _;rfl
    | succ k ih =>
      intro hkl
      rw [trL,ih (by omega),if_pos (hk k (by omega)),ha k (by omega),List.take_add_one,atC_lt (by omega)]
      rfl
  rw [trC2,key _ (Nat.le_refl _),List.take_length]
noncomputable def optS (C:List In):List In:=trC2 (thL C)
inductive OptR : List In → List In → Prop
  | done {C:List In} (h:optS C=C):OptR C C
  | step {C D:List In} (h:optS C ≠ C) (h':OptR (optS C) D):OptR C D
theorem opt_wf {C:List In} (hw:WfC C) (h0:0<C.length):WfC (optS C)∧0<(optS C).length∧(optS C).length≤C.length:=by
  have h1:=thL_wf hw
  have hl:=thL_len C
  have:=tr_wf h1 (by omega)
  rw [hl] at this
  exact this
open Classical in
noncomputable def optM (C:List In):Nat:=2 * C.length+(if thL C=C then 0 else 1)
theorem optM_lt {C:List In} (hw:WfC C) (h0:0<C.length) (h:optS C ≠ C):optM (optS C)<optM C:=by
  have hwf:=opt_wf hw h0
  have hl:=thL_len C
  rcases Nat.lt_or_ge (optS C).length C.length with q | q
  · unfold optM
    split<;>split<;>omega
  · have e:optS C=thL C:=tr_same (thL_wf hw) (by have:=hwf.2.2;show (optS C).length=_;omega)
    have hne:thL C ≠ C:=fun hh=>h (e.trans hh)
    unfold optM
    rw [e,hl,thL_idem hw,if_pos rfl,if_neg hne]
    omega
theorem OptR.ex : ∀ (n : Nat) (C : List In), optM C ≤ n → WfC C → 0 < C.length → ∃ D, OptR C D
  | 0,C,h,_,h0=>by unfold optM at h;omega
  | n+1,C,h,hw,h0=>by
    by_cases q:optS C=C
    · exact ⟨C,.done q⟩
    · obtain ⟨h1,h2,h3⟩:=opt_wf hw h0
      have:=optM_lt hw h0 q
      obtain ⟨D,hD⟩:=OptR.ex n (optS C) (by omega) h1 h2
      exact ⟨D,.step q hD⟩
theorem OptR.run {C D:List In} (h:OptR C D):WfC C→0<C.length→(WfC D∧0<D.length∧D.length≤C.length)∧∀ (N:Nat) (r:List Int) (m m':Mm) (T:List Ev),runM C N ⟨0,r,m⟩=some (m',T)→∃ N2 T2,runM D N2 ⟨0,r,m⟩=some (m',T2)∧prj T2=prj T:=by
  induction h with
  | done h=>exact fun hw h0=>⟨⟨hw,h0,Nat.le_refl _⟩,fun N r m m' T hr=>⟨N,T,hr,rfl⟩⟩
  | @step C D h h' ih =>
    intro hw h0
    obtain ⟨h1,h2,h3⟩:=opt_wf hw h0
    obtain ⟨⟨g1,g2,g3⟩,g4⟩:=ih h1 h2
    refine ⟨⟨g1,g2,by omega⟩,fun N r m m' T hr=>?_⟩
    obtain ⟨N1,T1,e1,p1⟩:=thread_run hw N _ m' T h0 hr
    obtain ⟨N2,T2,e2,p2⟩:=trim_run (thL_wf hw) N1 _ m' T1 (by rw [thL_len];exact h0) .start e1
    simp only [plT] at e2
    obtain ⟨N3,T3,e3,p3⟩:=g4 N2 r m m' T2 e2
    exact ⟨N3,T3,e3,by rw [p3,p2,p1]⟩
open Go Go.CT CtF CtR
theorem comp_end {p:Pg} {m:Mm} (h:progOK p=true) (hm:memOK p.vars p.arrays m=true):∃ N,runM (compL p) N ⟨0,List.replicate 14 0,m⟩=some ((runL 5 m p.body).1,xP p m):=by
  have hat:At (compL p) 0 (cL 5 0 0 p.body):=⟨[],[halt],by simp [compL],rfl⟩
  obtain ⟨r,h1,h2,_⟩:=seq_run (p:=p) (C:=compL p) (d:=5) (dep:=0) (fun s b m=>cS_run 5 0 s b m (by omega)) p.body 0 m (memFits2 h hm) (body_of h).1 hat (List.replicate 14 0) (by simp)
  have h3:=h1.run (by simpa using compL_end h) (stp (xL 5 0 m p.body)+1)
  rw [if_pos (Nat.le_refl _)] at h3
  refine ⟨stp (xL 5 0 m p.body)+1,?_⟩
  rw [h3]
  simp [xP]
  rfl
end Go.Proofs.YtbknljofedfpjaaGreat.CtL
namespace Go.Proofs.YtbknljofedfpjaaGreat.CtD
open Go Go.CT CtF CtR
variable [Yn]
open CtL (In Cd tgt aim)
theorem tgtI (x:In):DC Tryz.prog 38 [.agg (inX x)] [] (fun r h=>r=DI .i64 (tgt x)∧h=[]):=by
  have ret:∀ (v:Int) (hp:Hp),v=tgt x→RetOb 0 (fun r h=>r=DI .i64 (tgt x)∧h=[]) (DI .i64 v) hp:=fun v hp e=>by subst e;exact RetOb.plain ⟨rfl,rfl⟩ rfl
  generalize hR:(fun (r:D) (h:List (Option (List C)))=>r=DI .i64 (tgt x)∧h=[])=R at ret ⊢
  clear hR
  obtain ⟨op,a,b,c,d⟩:=x
  unfold inX
  simp only [tgt] at ret
  by_cases h8:op=8
  · subst h8
    refine dcZ Tryz.func38 ?_
    simp only [go_sem]
    iterate 3 ((try (refine drvZ Tryz.func38 ?_;simp only [go_sem]));((with_reducible and_intros)<;>try exact sd))
    exact ret _ _ (by simp)
  · have g8:(op == 8)=false:=by simp [h8]
    by_cases h9:op=9
    · subst h9
      refine dcZ Tryz.func38 ?_
      simp only [go_sem]
      iterate 3 ((try (refine drvZ Tryz.func38 ?_;simp only [go_sem]));((with_reducible and_intros)<;>try exact sd))
      exact ret _ _ (by simp)
    · have g9:(op == 9)=false:=by simp [h9]
      by_cases h10:op=10
      · subst h10
        refine dcZ Tryz.func38 ?_
        simp only [go_sem]
        iterate 3 ((try (refine drvZ Tryz.func38 ?_;simp only [go_sem]));((with_reducible and_intros)<;>try exact sd))
        exact ret _ _ (by simp)
      · have g10:(op == 10)=false:=by simp [h10]
        refine dcZ Tryz.func38 ?_
        simp only [go_sem,g8,g9,g10]
        iterate 3 ((try (refine drvZ Tryz.func38 ?_;simp only [go_sem,g8,g9,g10,h8,h9,h10]));((with_reducible and_intros)<;>try exact sd))
        exact ret _ _ (by simp [h8,h9,h10])
theorem tgtS (x:In):DC Tryz.prog 43 [.agg (inX x)] [] (fun r h=>r=DI .i64 (tgt x)∧h=[]):=by
  have ret:∀ (v:Int) (hp:Hp),v=tgt x→RetOb 0 (fun r h=>r=DI .i64 (tgt x)∧h=[]) (DI .i64 v) hp:=fun v hp e=>by subst e;exact RetOb.plain ⟨rfl,rfl⟩ rfl
  generalize hR:(fun (r:D) (h:List (Option (List C)))=>r=DI .i64 (tgt x)∧h=[])=R at ret ⊢
  clear hR
  obtain ⟨op,a,b,c,d⟩:=x
  unfold inX
  simp only [tgt] at ret
  by_cases h8:op=8
  · subst h8
    refine dcZ Tryz.func43 ?_
    simp only [go_sem]
    iterate 3 ((try (refine drvZ Tryz.func43 ?_;simp only [go_sem]));((with_reducible and_intros)<;>try exact sd))
    exact ret _ _ (by simp)
  · have g8:(op == 8)=false:=by simp [h8]
    by_cases h9:op=9
    · subst h9
      refine dcZ Tryz.func43 ?_
      simp only [go_sem]
      iterate 3 ((try (refine drvZ Tryz.func43 ?_;simp only [go_sem]));((with_reducible and_intros)<;>try exact sd))
      exact ret _ _ (by simp)
    · have g9:(op == 9)=false:=by simp [h9]
      by_cases h10:op=10
      · subst h10
        refine dcZ Tryz.func43 ?_
        simp only [go_sem]
        iterate 3 ((try (refine drvZ Tryz.func43 ?_;simp only [go_sem]));((with_reducible and_intros)<;>try exact sd))
        exact ret _ _ (by simp)
      · have g10:(op == 10)=false:=by simp [h10]
        refine dcZ Tryz.func43 ?_
        simp only [go_sem,g8,g9,g10]
        iterate 3 ((try (refine drvZ Tryz.func43 ?_;simp only [go_sem,g8,g9,g10,h8,h9,h10]));((with_reducible and_intros)<;>try exact sd))
        exact ret _ _ (by simp [h8,h9,h10])
theorem toI (x:In) (t:Int):DC Tryz.prog 39 [.agg (inX x),DI .i64 t] [] (fun r h=>r = .agg (inX (aim x t))∧h=[]):=by
  obtain ⟨op,a,b,c,d⟩:=x
  by_cases h8:op=8
  · subst h8
    rw [CtL.aim_8 rfl]
    unfold inX
    refine dcZ Tryz.func39 ?_
    simp only [go_sem]
    iterate 3 ((try (refine drvZ Tryz.func39 ?_;simp only [go_sem]));((with_reducible and_intros)<;>try exact sd))
    exact RetOb.plain ⟨rfl,rfl⟩ (by simp [kD,kf])
  · have g8:(op == 8)=false:=by simp [h8]
    rw [CtL.aim_ne h8]
    unfold inX
    refine dcZ Tryz.func39 ?_
    simp only [go_sem,g8]
    iterate 3 ((try (refine drvZ Tryz.func39 ?_;simp only [go_sem,g8,h8]));((with_reducible and_intros)<;>try exact sd))
    exact RetOb.plain ⟨rfl,rfl⟩ (by simp [kD,kf])
theorem aimS (x:In) (t:Int) (ho:x.op=8∨x.op=9∨x.op=10):DC Tryz.prog 44 [.agg (inX x),DI .i64 t] [] (fun r h=>r = .agg (inX (aim x t))∧h=[]):=by
  obtain ⟨op,a,b,c,d⟩:=x
  simp only at ho
  rcases ho with rfl | rfl | rfl
  · rw [CtL.aim_8 rfl]
    unfold inX
    refine dcZ Tryz.func44 ?_
    simp only [go_sem]
    iterate 3 ((try (refine drvZ Tryz.func44 ?_;simp only [go_sem]));((with_reducible and_intros)<;>try exact sd))
    exact RetOb.plain ⟨rfl,rfl⟩ (by simp [kD,kf])
  all_goals
    rw [CtL.aim_ne (by simp)]
    unfold inX
    refine dcZ Tryz.func44 ?_
    simp only [go_sem]
    iterate 3 ((try (refine drvZ Tryz.func44 ?_;simp only [go_sem]));((with_reducible and_intros)<;>try exact sd))
    exact RetOb.plain ⟨rfl,rfl⟩ (by simp [kD,kf])
open CtL (In Cd tgt aim WfC atC)
open CtL (In Cd tgt aim WfC atC codeOK)
theorem snoc_set {α:Type} (a b:List α) (x y:α):(a++x :: b).set a.length y=a++y :: b:=by simp
theorem bC_at {L:List Bool} {i:Nat} {b:Bool} (h:L[i]? = some b):(boolsC L)[i]? = some (.v (.bool b)):=by rw [boolsC,List.getElem?_map,h];rfl
theorem CMs_bC {hT hS:Hp} {r:Nat→Option Nat} {fz:List Nat} (L:List Bool):CMs hT r hS fz (boolsC L) (boolsC L)=True:=eq_true (CMs.kf (boolsC_kf _))
theorem inCc (x:In) (l:List In):inC (x :: l)=inX x++inC l:=by simp [inC]
theorem inCn:inC []=[]:=rfl
theorem withI (c:Cd) (L:List In) (h1:c.vars.length≤1000000) (h2:c.arrays.length≤1000000) (h3:L.length≤mx):DC Tryz.prog 40 [.agg (cdC c),.c (.isl 5 (L.map inX))] [] (fun r h=>r = .agg (cdC ⟨c.vars,c.arrays,L⟩)∧h=[]):=by
  have hmx:=mx_eq
  have k1:=cloneI c.vars h1
  have k2:=cloneI c.arrays h2
  obtain ⟨vs,ar,l⟩:=c
  simp only at k1 k2
  simp only [cdC,ints] at k1 k2 ⊢
  generalize hR:(fun (r:D) (h:List (Option (List C)))=>r = .agg _∧h=[])=R
  refine dcZ Tryz.func40 ?_
  simp only [go_sem]
  iterate 2 ((try (refine drvZ Tryz.func40 ?_;simp only [go_sem]));((with_reducible and_intros)<;>try exact sd))
  refine XK.callG [] k1 ok33 (fun i' x h=>by simp at h) (hbT ()) (fun d h' ⟨_,e⟩=>by subst e;simp) ?_ (fun _=>⟨by kernel_rfl,_,_,⟨rfl,rfl⟩,by simp⟩)
  rintro _ _ ⟨rfl,rfl⟩ _
  iterate 2 ((try (refine drvZ Tryz.func40 ?_;simp only [go_sem,renCs_I]));((with_reducible and_intros)<;>try exact sd))
  refine XK.callG [] k2 ok33 (fun i' x h=>by simp at h) (hbT ()) (fun d h' ⟨_,e⟩=>by subst e;simp) ?_ (fun _=>⟨by kernel_rfl,_,_,⟨rfl,rfl⟩,by simp⟩)
  rintro _ _ ⟨rfl,rfl⟩ _
  iterate 3 ((try (refine drvZ Tryz.func40 ?_;simp only [go_sem,renCs_I]));((with_reducible and_intros)<;>try exact sd))
  have hgv:=flat_I vs
  have hga:=flat_I ar
  refine RetOb.ofQ (fun _=>none) [256,448] (.agg [isI vs,isI ar,.isl 5 (L.map inX)]) [] ?_ (by rw [← hR];exact ⟨rfl,rfl⟩) (by simp)
  simp [enumL,hOf,DM,CM,CMs,HpOK,LowOK,upd,hgv,hga,kf,isI]
theorem RetOb.noCode {R:D→List (Option (List C))→Prop} {hp:Hp} (hR:R (.tup [.agg (cdC ⟨[],[],[]⟩),DB false]) []):RetOb 0 R (.tup [.agg [.v (.slice none 0 0),.v (.slice none 0 0),.v (.slice none 0 0)],DB false]) hp:=by
  refine RetOb.ofQ (fun _=>none) [] _ [] ⟨?_,trivial,trivial,by simp [enumL]⟩ hR (Nat.zero_le _)
  simp [DM,DMs,CM,CMs,cdC,ints,isI]
theorem RetOb.codeB {R:D→List (Option (List C))→Prop} {hp:Hp} {vs ar:List Int} {L:List In} {b:Bool} (hR:R (.tup [.agg [isI vs,isI ar,.isl 5 (L.map inX)],DB b]) []):RetOb 0 R (.tup [.agg [isI vs,isI ar,.isl 5 (L.map inX)],DB b]) hp:=by
  refine RetOb.ofQ (fun _=>none) [] _ [] ⟨?_,trivial,trivial,by simp [enumL]⟩ hR (Nat.zero_le _)
  simp [DM,DMs,CM,CMs,isI]
open CtL (In Cd tgt aim WfC atC codeOK)
theorem CMs_I1 {hT hS:Hp} {r:Nat→Option Nat} {fz:List Nat} (L:List Int) (z:Int):CMs hT r hS fz (L.map I64++[I64 z]) (L.map I64++[I64 z])=True:=eq_true (CMs.kf (kf_app (fun c hc=>by obtain ⟨_,_,rfl⟩:=List.mem_map.1 hc;rfl) (by simp [kf])))
end Go.Proofs.YtbknljofedfpjaaGreat.CtD
