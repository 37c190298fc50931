/- Contracts of functions of the program, one behind the other, as plain data: what each call returns and which blocks it leaves. -/
import Derived.Test.YtmjkgjkkpaephaaGreatSFacts
import Derived.Test.YtmjkgjkkpaephaaGreatSAh
import Derived.Test.YtmjkgjkkpaephaaGreatSAj
import Derived.Test.YtmjkgjkkpaephaaGreatSAk
import Derived.Test.YtmjkgjkkpaephaaGreatSAl
import Derived.Test.YtmjkgjkkpaephaaGreatSAm
import Derived.Test.YtmjkgjkkpaephaaGreatSAn
import Derived.Test.YtmjkgjkkpaephaaGreatSAp
import Derived.Test.YtmjkgjkkpaephaaGreatSAq
import Derived.Test.YtmjkgjkkpaephaaGreatSAs
import Derived.Test.YtmjkgjkkpaephaaGreatSAt
import Derived.Test.YtmjkgjkkpaephaaGreatSAu
set_option linter.unusedVariables false
set_option linter.unusedSimpArgs false
set_option maxHeartbeats 16000000
set_option maxRecDepth 100000
namespace Go.Proofs.YtmjkgjkkpaephaaGreat.CtL
open Go Go.CT CtF CtR
open CtD (rel rel_app rel_eval)
theorem foldR_one {f:Mm→St1→Mm × List Ev} {m:Mm} {s:St1}:foldR f m [s]=f m s:=by simp [foldR]
theorem pre_run {D n nf nf2 : Nat} {m' : Mm} {o rest : List St1} {x : Mm × List Ev} (h : Agr nf m' (foldR (runS (D + 1)) m' o).1) (hk : ∀ s ∈ o, s.kind = 1)
    (h2:Sim n nf2 x (foldR (runS (D+1)) m' o).1 (foldR (runS (D+1)) (foldR (runS (D+1)) m' o).1 rest)) (hl:nf≤nf2):Sim n nf x m' (foldR (runS (D+1)) m' (o++rest)):=by
  rw [foldR_app]
  exact Sim.pre h (rel_plain o m' fun s hs => .inl (hk s hs)) h2 hl
theorem flow_rel {vs ar:List Int} {s:St1} {c:Nat} (h:flowR vs ar s c=0) (hk:s.kind=5):c=0∧trustL (labN vs ar 5 s.value)=true:=by
  unfold flowR at h
  rw [if_neg (by omega),if_neg (by omega),if_pos hk] at h
  by_cases hc:(trustL (labN vs ar 5 s.value) && c == 0)=true
  · simp only [Bool.and_eq_true,beq_iff_eq] at hc;exact ⟨hc.2,hc.1⟩
  · rw [if_neg hc] at h;omega
theorem stmt_right {q:Pg} {D:Nat} {k t:Int} {ix v:Ex} {c:Int} {b e:List St1} (h:stmtOK q (D+1) (.mk k t ix v c b e)=true) (hk:k ≠ 4):CtR.shape q 5 v=true:=(shapeV h).1 hk
theorem Sim.setV1 {n nf:Nat} {m m':Mm} {evx evy:List Ev} {t x:Int} (h:Agr n m m') (h0:0≤t) (ht:t<n) (hl:n≤m.vals.length) (hl1:n≤m'.vals.length) (hr:rel evx=rel evy):Sim n nf (setV m t x,evx) m' (setV m' t x,evy) :=
  ⟨h.setB h0 ht hl hl1,fun i a b=>by simp only [setV,List.getElem?_set];rw [if_neg (by omega)],hr⟩
theorem Sim.setA1 {n nf:Nat} {m m':Mm} {evx evy:List Ev} {t i x:Int} (h:Agr n m m') (hr:rel evx=rel evy):Sim n nf (setA m t i x,evx) m' (setA m' t i x,evy) :=
  ⟨⟨by unfold setA arrAt;simp only [h.ar],h.va⟩,fun i a b=>rfl,hr⟩
theorem Sim.evs {n nf:Nat} {m':Mm} {x:Mm × List Ev} {y:Mm × List Ev} {ev:List Ev} (h:Sim n nf x m' y) (hr:rel x.2=rel ev):Sim n nf x m' (y.1,ev):=⟨h.ag,h.fr,hr⟩
theorem rel_ev (k v:Int) (h:k ≠ 4):rel [⟨k,v⟩]=[]:=by simp [rel,h]
theorem iter_sim {n nf : Nat} {p q : Pg} {mk : Int} {F G : Mm → Mm × List Ev} (hmk : mk < 0 ∨ (n : Int) ≤ mk ∧ mk < nf)
    (hF:∀ m,MemFits p m→MemFits p (F m).1) (hG:∀ m,MemFits q m→MemFits q (G m).1)
    (hS:∀ m m',MemFits p m→MemFits q m'→Agr n m m'→Sim n nf (bif act mk m' then F m else (m,[])) m' (G m')) {m m':Mm} (hm:MemFits p m) (hm':MemFits q m') (ha:Agr n m m') :
    ∀ c:Nat,Sim n nf (bif act mk m' then iterR F c m else (m,[])) m' (iterR G c m')∧MemFits p (bif act mk m' then iterR F c m else (m,[])).1∧MemFits q (iterR G c m').1
  | 0=>by cases act mk m'<;>exact ⟨Sim.refl ha,hm,hm'⟩
  | c+1=>by
    obtain ⟨h1,h2,h3⟩:=iter_sim hmk hF hG hS hm hm' ha c
    have h4:=hS _ _ h2 h3 h1.ag
    rw [h1.act hmk] at h4
    cases hc:act mk m' with
    | true =>
      rw [hc] at h1 h2 h4
      simp only [cond_true] at h1 h2 h4 ⊢
      exact ⟨h1.seq h4 (Nat.le_refl _),hF _ h2,hG _ h3⟩
    | false =>
      rw [hc] at h1 h2 h4
      simp only [cond_false] at h1 h2 h4 ⊢
      have:=h1.seq h4 (Nat.le_refl _)
      exact ⟨this,hm,hG _ h3⟩
theorem linS_ok {p q : Pg} (hna : q.arrays.length = p.arrays.length) {d D : Nat} (hd : d ≤ D)
    (ih:∀ D,d≤D→∀ mk pc vs l,(∀ s ∈ l,stmtOK p d s=true)→Ext p vs→OKM p mk vs pc→fineL (flowR p.vars p.arrays) p.vars p.arrays d pc l=true→SOK p q vs (fun m=>foldR (runS d) m l) mk D (linB (linS p.arrays d mk pc) vs l))
    (mk:Int) (pc:Nat) (vs:List Int) (s:St1) (hs:stmtOK p (d+1) s=true) (hx:Ext p vs) (hmk:OKM p mk vs pc) (hf:flowR p.vars p.arrays s pc=0)
    (hfb:fineL (flowR p.vars p.arrays) p.vars p.arrays d (ctxI p.vars p.arrays s pc) s.body=true) (hfe:fineL (flowR p.vars p.arrays) p.vars p.arrays d (ctxI p.vars p.arrays s pc) s.els=true) :
    SOK p q vs (fun m=>runS (d+1) m s) mk (D+1) (linS p.arrays (d+1) mk pc vs s):=by
  obtain ⟨k,t,ix,v,c,b,e⟩:=s
  obtain ⟨hh,hb,he⟩:=stmtOK_succ hs
  have hkk:=head_kind hh
  obtain ⟨s1,s2⟩:=shapeV hs
  simp only [St1.body,St1.els] at hfb hfe
  by_cases k4:k=4
  · subst k4
    have hB:=ih D hd mk pc vs b hb hx hmk (by simpa [ctxI,St1.kind] using hfb)
    rw [linS_4]
    refine ⟨hB.more,fun m m' ho hm' hm hl ha=>?_⟩
    have hob:=(stmtOK_succ (ho _ List.mem_cons_self)).2.1
    simp only at hl
    simp only [foldR_one,runS_4]
    refine (iter_sim (p:=p) (q:=q) hmk.rng (fun m hm=>(runL_ok hm hb).1) (fun m hm=>(runL_ok hm hob).1) (fun m m' hm hm' ha=>hB.run m m' hob hm' hm hl ha) hm hm' ha c.toNat).1
  have hxl:=hx.le
  have hsv:=s1 k4
  have hsv2:CtR.shape ⟨vs,p.arrays,[]⟩ 5 v=true:=shape_mono (p:=p) (q:=⟨vs,p.arrays,[]⟩) hxl rfl 5 v hsv
  have hE:=linE_ok (q:=q) (ar:=p.arrays) hna pc 5 vs v hsv2
  have hlab:labN vs p.arrays 5 v=labN p.vars p.arrays 5 v:=by
    obtain ⟨w,rfl⟩:=hx
    exact labN_app (bd:=[]) 5 v (shape_mono (p:=p) (q:=⟨p.vars,p.arrays,[]⟩) (Nat.le_refl _) rfl 5 v hsv)
  have hEm:=more_le hE.more
  -- what the run of the expression's statements gives
  have pre:∀ m m',(∀ s ∈ (linE p.arrays pc 5 vs v).2.1,stmtOK q (D+1) s=true)→MemFits q m'→MemFits p m→(linE p.arrays pc 5 vs v).1.length≤q.vars.length→Agr p.vars.length m m' →
      ∃ m1,(foldR (runS (D+1)) m' (linE p.arrays pc 5 vs v).2.1).1=m1∧Agr vs.length m' m1∧MemFits q m1∧Agr p.vars.length m m1∧(∀ m2,Agr (linE p.arrays pc 5 vs v).1.length m1 m2→(evalE m2 5 (linE p.arrays pc 5 vs v).2.2).1=(evalE m 5 v).1)∧act mk m1=act mk m' :=
    fun m m' ho hm' hm hl ha=>by
      obtain ⟨a1,b1⟩:=hE.run D m' ho hm' hl
      refine ⟨_,rfl,a1,(runL_ok hm' ho).1,ha.trans (a1.le hxl),fun m2 h2=>?_,act_agr a1 ?_⟩
      · rw [b1 m2 h2,evalE_agr (p:=p) (Nat.le_refl _) ha 5 v hsv]
      · rcases hmk.rng with h | h
        · exact .inl h
        · exact .inr ⟨by omega,h.2⟩
  have hkn:=hE.knd
  have hEs:=hE.shp
  have hEmore:=hE.more
  generalize hEe:linE p.arrays pc 5 vs v=E at *
  clear hE
  by_cases k3:k=3
  · subst k3
    have hctx:ctxI p.vars p.arrays (.mk 3 t ix v c b e) pc=pc ||| labN p.vars p.arrays 5 v:=by simp [ctxI,St1.kind,St1.value]
    rw [hctx] at hfb hfe
    rw [linS_3,hEe,hlab]
    generalize labN p.vars p.arrays 5 v=l at *
    have hi:=fun m=>runS_if (d:=d) (m:=m) (k:=3) (t:=t) (ix:=ix) (v:=v) (c:=c) (b:=b) (e:=e) (by omega) (by omega) (by omega) (by omega)
    have hpre:∀ (m:Mm) (b1 b2:Int) (ev:List Ev),rel ((evalE m 5 v).2++[⟨1,b1⟩]++ev)=rel ev:=fun m b1 b2 ev=>by simp only [rel_app,rel_eval,rel_ev 1 b1 (by omega),List.nil_append]
    unfold linI
    dsimp only
    by_cases hsec:secL l=true
    · rw [if_pos hsec]
      have hx2:Ext p (E.1++lab1 pc l++lab1 pc l):=(hx.more hEmore).more ⟨lab1 pc l++lab1 pc l,by simp⟩
      have hl2:(E.1++lab1 pc l++lab1 pc l).length=E.1.length+2:=by simp [lab1]
      have hpc:pc ||| l ≠ 0:=fun h=>by
        have:l=0:=by
          have:=Nat.right_le_or (n:=pc) (m:=l)
          omega
        subst this
        simp [secL] at hsec
      have hm1:OKM p (E.1.length:Int) (E.1++lab1 pc l++lab1 pc l) (pc ||| l) := .inr ⟨by omega,by omega,hpc⟩
      have hB1:=ih (D+1) (by omega) (E.1.length:Int) (pc ||| l) _ b hb hx2 hm1 hfb
      have hx3:=hx2.more hB1.more
      have hm2:OKM p ((E.1.length+1:Nat):Int) (linB (linS p.arrays d (E.1.length:Int) (pc ||| l)) (E.1++lab1 pc l++lab1 pc l) b).1 (pc ||| l):=by
        have:=more_le hB1.more
        exact .inr ⟨by omega,by omega,hpc⟩
      have hB2:=ih (D+1) (by omega) ((E.1.length+1:Nat):Int) (pc ||| l) _ e he hx3 hm2 hfe
      generalize linB (linS p.arrays d (E.1.length:Int) (pc ||| l)) (E.1++lab1 pc l++lab1 pc l) b=B1 at *
      generalize linB (linS p.arrays d ((E.1.length+1:Nat):Int) (pc ||| l)) B1.1 e=B2 at *
      have hle1:=more_le hB1.more
      have hle2:=more_le hB2.more
      obtain ⟨w1,e1⟩:=hEmore
      obtain ⟨w2,e2⟩:=hB1.more
      obtain ⟨w3,e3⟩:=hB2.more
      refine ⟨⟨w1++lab1 pc l++lab1 pc l++w2++w3,by simp only [e3,e2,e1,List.append_assoc]⟩,fun m m' ho hm' hm hl ha=>?_⟩
      simp only at ho hl ⊢
      obtain ⟨m1,q1,q2,q3,q4,q5,q6⟩:=pre m m' (fun s hs=>ho s (by simp [hs])) hm' hm (by omega) ha
      have hoM:∀ s ∈ maskS mk E.1.length E.2.2,stmtOK q (D+1) s=true:=fun s hs=>ho s (by simp [hs])
      have ho1:∀ s ∈ B1.2,stmtOK q (D+1) s=true:=fun s hs=>ho s (by simp [hs])
      have ho2:∀ s ∈ B2.2,stmtOK q (D+1) s=true:=fun s hs=>ho s (by simp [hs])
      have hx0:=q5 m1 (Agr.refl _ _)
      generalize hxv:(evalE m 5 v).1=x at *
      have hlw:E.1.length+1<m1.vals.length:=by rw [q3.nv];omega
      -- the masks
      have hM:(foldR (runS (D+1)) m1 (maskS mk E.1.length E.2.2)).1=setV (setV m1 E.1.length (bif act mk m' then x else 0)) (E.1.length+1:Nat) (bif act mk m' then (if x=0 then 1 else 0) else 0):=by
        have r1:=mask_val (m:=m1) (stmt_right (hoM _ List.mem_cons_self) (by omega))
        have r2:=fun m2=>mask_val (m:=m2) (stmt_right (hoM (asg (E.1.length+1:Nat) (maskE mk (bE 9 (vE E.1.length) (cE 0)) (cE 0))) (by simp [maskS])) (by omega))
        have hact:∀ y,act mk (setV m1 E.1.length y)=act mk m':=fun y=>by
          rw [← q6]
          refine act_agr (n:=E.1.length) (Agr.setV (Nat.le_refl _)) ?_
          rcases hmk.rng with h | h
          · exact .inl h
          · exact .inr ⟨by omega,by omega⟩
        have hn:∀ y,nth (setV m1 E.1.length y).vals (E.1.length:Int)=y:=fun y=>by unfold setV;rw [Int.toNat_natCast];exact nth_set (by omega)
        simp only [maskS,foldR,asg,runS_1]
        rw [r1,r2,hact,q6,hx0]
        simp only [eval_c]
        congr 1
        cases act mk m' with
        | false=>rfl
        | true =>
          simp only [cond_true]
          have:∀ m2,(evalE m2 5 (bE 9 (vE E.1.length) (cE 0))).1=if nth m2.vals E.1.length=0 then 1 else 0:=fun m2=>by simp [evalE,bE,vE,cE,bin]
          rw [this,hn]
      have hMfit:MemFits q (foldR (runS (D+1)) m1 (maskS mk E.1.length E.2.2)).1:=(runL_ok q3 hoM).1
      have hMk:∀ s ∈ maskS mk E.1.length E.2.2,s.kind=1:=by simp [maskS,asg,St1.kind]
      rw [List.append_assoc,List.append_assoc]
      refine pre_run (nf2:=vs.length) (by rw [q1];exact q2) hkn ?_ (Nat.le_refl _)
      rw [q1]
      have hAM:Agr E.1.length m1 (foldR (runS (D+1)) m1 (maskS mk E.1.length E.2.2)).1:=by
        rw [hM]
        exact (Agr.setV (Nat.le_refl _)).trans (Agr.setV (by omega))
      refine pre_run (nf2:=vs.length) (hAM.le hEm) hMk ?_ (Nat.le_refl _)
      generalize hm3:(foldR (runS (D+1)) m1 (maskS mk E.1.length E.2.2)).1=m3 at *
      have hv1:nth m3.vals (E.1.length:Int)=bif act mk m' then x else 0:=by
        rw [hM,← (Agr.setV (n:=E.1.length+1) (Nat.le_refl _)).nth (by omega) (by omega)]
        unfold setV;rw [Int.toNat_natCast];exact nth_set (by omega)
      have hv2:nth m3.vals ((E.1.length+1:Nat):Int)=bif act mk m' then (if x=0 then 1 else 0) else 0:=by
        rw [hM]
        unfold setV;simp only [Int.toNat_natCast];exact nth_set (by simpa using hlw)
      have ha3:Agr p.vars.length m m3:=q4.trans (hAM.le (by omega))
      have g1:=hB1.run m m3 ho1 hMfit hm (by omega) ha3
      have hfit4:MemFits q (foldR (runS (D+1)) m3 B1.2).1:=(runL_ok hMfit ho1).1
      have hact2:=g1.act (mk:=((E.1.length+1:Nat):Int)) (.inr ⟨by omega,by omega⟩)
      have a1:act (E.1.length:Int) m3=(act mk m' && decide (x ≠ 0)):=by
        unfold act at hv1 ⊢
        rw [hv1]
        cases (decide (mk<0) || decide (nth m'.vals mk ≠ 0))<;>simp<;>omega
      have a2:act ((E.1.length+1:Nat):Int) m3=(act mk m' && decide (x=0)):=by
        unfold act at hv2 ⊢
        rw [hv2]
        cases (decide (mk<0) || decide (nth m'.vals mk ≠ 0))<;>by_cases hx:x=0<;>simp [hx]<;>omega
      rw [a1] at g1
      rw [a2] at hact2
      rw [foldR_app]
      cases hac:act mk m' with
      | false =>
        simp only [hac,Bool.false_and,cond_false] at g1 hact2 ⊢
        have g2:=hB2.run m _ ho2 hfit4 hm hl g1.ag
        rw [hact2] at g2
        simp only [cond_false] at g2
        have h:=g1.seq g2 hle1
        exact ⟨h.ag,fun i a b=>h.fr i a (by omega),h.re⟩
      | true =>
        by_cases hz:x=0
        · simp only [hac,hz,decide_true,decide_false,ne_eq,not_true_eq_false,Bool.and_false,Bool.true_and,cond_false,cond_true] at g1 hact2 ⊢
          have g2:=hB2.run m _ ho2 hfit4 hm hl g1.ag
          rw [hact2] at g2
          simp only [cond_true] at g2
          have h:=g1.seq g2 hle1
          rw [(hi m).2 (by rw [hxv];exact hz)]
          refine ⟨h.ag,fun i a b=>h.fr i a (by omega),?_⟩
          simp only
          rw [hpre m 0 0]
          simpa using h.re
        · simp only [hac,hz,decide_true,decide_false,ne_eq,not_false_eq_true,Bool.and_false,Bool.true_and,cond_false,cond_true] at g1 hact2 ⊢
          have hmb:MemFits p (foldR (runS d) m b).1:=(runL_ok hm hb).1
          have g2:=hB2.run _ _ ho2 hfit4 hmb hl g1.ag
          rw [hact2] at g2
          simp only [cond_false] at g2
          have h:=g1.seq g2 hle1
          rw [(hi m).1 (by rw [hxv];exact hz)]
          refine ⟨h.ag,fun i a b=>h.fr i a (by omega),?_⟩
          simp only
          rw [hpre m 1 0]
          simpa using h.re
    · rw [if_neg hsec]
      have hx2:Ext p E.1:=hx.more hEmore
      have hmk2:OKM p mk E.1 (pc ||| l):=by
        rcases hmk with h | ⟨h1,h2,h3⟩
        · exact .inl h
        · refine .inr ⟨h1,by omega,fun h=>h3 ?_⟩
          have:=Nat.left_le_or (n:=pc) (m:=l)
          omega
      have hB1:=ih D hd mk (pc ||| l) E.1 b hb hx2 hmk2 hfb
      have hx3:=hx2.more hB1.more
      have hmk3:=hmk2.more (more_le hB1.more)
      have hB2:=ih D hd mk (pc ||| l) _ e he hx3 hmk3 hfe
      generalize linB (linS p.arrays d mk (pc ||| l)) E.1 b=B1 at *
      generalize linB (linS p.arrays d mk (pc ||| l)) B1.1 e=B2 at *
      have hle1:=more_le hB1.more
      have hle2:=more_le hB2.more
      obtain ⟨w1,e1⟩:=hEmore
      obtain ⟨w2,e2⟩:=hB1.more
      obtain ⟨w3,e3⟩:=hB2.more
      refine ⟨⟨w1++w2++w3,by simp only [e3,e2,e1,List.append_assoc]⟩,fun m m' ho hm' hm hl ha=>?_⟩
      simp only at ho hl ⊢
      obtain ⟨m1,q1,q2,q3,q4,q5,q6⟩:=pre m m' (fun s hs=>ho s (by simp [hs])) hm' hm (by omega) ha
      have hoI:=stmtOK_succ (ho (.mk 3 0 e0 E.2.2 0 B1.2 B2.2) (by simp))
      have hx0:=q5 m1 (Agr.refl _ _)
      refine pre_run (nf2:=vs.length) (by rw [q1];exact q2) hkn ?_ (Nat.le_refl _)
      rw [q1,foldR_one]
      have hi2:=runS_if (d:=D) (m:=m1) (k:=3) (t:=0) (ix:=e0) (v:=E.2.2) (c:=0) (b:=B1.2) (e:=B2.2) (by omega) (by omega) (by omega) (by omega)
      have hpre2:∀ (b1:Int) (ev:List Ev),rel ((evalE m1 5 E.2.2).2++[⟨1,b1⟩]++ev)=rel ev:=fun b1 ev=>by simp only [rel_app,rel_eval,rel_ev 1 b1 (by omega),List.nil_append]
      by_cases hz:(evalE m 5 v).1=0
      · rw [hi2.2 (by rw [hx0];exact hz)]
        have g:=hB2.run m m1 hoI.2.2 q3 hm hl q4
        rw [q6] at g
        refine ⟨?_,fun i a b=>g.fr i a (by omega),?_⟩
        · cases hac:act mk m'<;>simp only [hac,cond_true,cond_false] at g ⊢
          · exact g.ag
          · rw [(hi m).2 hz];exact g.ag
        · simp only [hpre2]
          cases hac:act mk m'<;>simp only [hac,cond_true,cond_false] at g ⊢
          · exact g.re
          · rw [(hi m).2 hz];simp only [hpre m 0 0];exact g.re
      · rw [hi2.1 (by rw [hx0];exact hz)]
        have g:=hB1.run m m1 hoI.2.1 q3 hm (by omega) q4
        rw [q6] at g
        refine ⟨?_,fun i a b=>g.fr i a (by omega),?_⟩
        · cases hac:act mk m'<;>simp only [hac,cond_true,cond_false] at g ⊢
          · exact g.ag
          · rw [(hi m).1 hz];exact g.ag
        · simp only [hpre2]
          cases hac:act mk m'<;>simp only [hac,cond_true,cond_false] at g ⊢
          · exact g.re
          · rw [(hi m).1 hz];simp only [hpre m 1 0];exact g.re
  rw [linS_o k4 k3,hEe]
  by_cases k5:k=5
  · subst k5
    rw [linO_5]
    have hpc:=(flow_rel hf rfl).1
    have hmk0:mk<0:=by
      rcases hmk with h | ⟨_,_,h3⟩
      · exact h
      · exact absurd hpc h3
    have ht:0≤t∧t<p.vars.length:=by omega
    refine ⟨hEmore,fun m m' ho hm' hm hl ha=>?_⟩
    obtain ⟨m1,q1,q2,q3,q4,q5,q6⟩:=pre m m' (fun s hs=>ho s (by simp [hs])) hm' hm hl ha
    refine pre_run (nf2:=vs.length) (by rw [q1];exact q2) hkn ?_ (Nat.le_refl _)
    have hact:act mk m'=true:=by simp [act,hmk0]
    rw [q1,foldR_one,hact,runS_5,cond_true,runS_5,q5 m1 (Agr.refl _ _)]
    exact Sim.setV1 q4 ht.1 ht.2 (by rw [hm.nv];exact Nat.le_refl _) (by rw [q3.nv];simp only at hl;omega) (by simp only [rel_app,rel_eval])
  by_cases k1:k=1
  · subst k1
    rw [linO_1]
    have ht:0≤t∧t<p.vars.length:=by omega
    refine ⟨hEmore,fun m m' ho hm' hm hl ha=>?_⟩
    simp only at ho hl ⊢
    obtain ⟨m1,q1,q2,q3,q4,q5,q6⟩:=pre m m' (fun s hs=>ho s (by simp [hs])) hm' hm hl ha
    refine pre_run (nf2:=vs.length) (by rw [q1];exact q2) hkn ?_ (Nat.le_refl _)
    have hr:=mask_val (m:=m1) (stmt_right (ho (asg t (maskE mk E.2.2 (vE t))) (by simp)) (by omega))
    rw [q6,q5 m1 (Agr.refl _ _),eval_v] at hr
    rw [q1,foldR_one,asg]
    simp only [runS_1,hr]
    cases hac:act mk m' with
    | true =>
      simp only [cond_true]
      exact Sim.setV1 q4 ht.1 ht.2 (by rw [hm.nv];exact Nat.le_refl _) (by rw [q3.nv];omega) (by simp only [rel_eval])
    | false =>
      simp only [cond_false]
      rw [setV_self ht.1 (by rw [q3.nv];omega)]
      exact Sim.evs (x:=(m,[])) (y:=(m1,[])) (Sim.refl q4) (by rw [rel_eval];rfl)
  have k2:k=2:=by omega
  subst k2
  have ht:0≤t∧t<p.arrays.length:=by omega
  rw [linO_2]
  have hsi:=s2 rfl
  have hai:atom ix=true:=by
    rcases hkk with h | h | h | h
    · omega
    · exact h.2.2.2.2.1
    · omega
    · omega
  have hi:∀ (m:Mm),evalE m 5 ix=(atV m ix,[]):=fun m=>eval_atom hsi hai
  by_cases hsec:secL (labN E.1 p.arrays 5 ix)=true
  · rw [if_pos hsec]
    obtain ⟨w1,e1⟩:=hEmore
    refine ⟨⟨w1++lab1 (labN E.1 p.arrays 5 E.2.2) pc,by simp only [e1,List.append_assoc]⟩,fun m m' ho hm' hm hl ha=>?_⟩
    simp only [List.length_append,lab1,List.length_singleton] at ho hl ⊢
    obtain ⟨m1,q1,q2,q3,q4,q5,q6⟩:=pre m m' (fun s hs=>ho s (by simp [hs])) hm' hm (by omega) ha
    refine pre_run (nf2:=vs.length) (by rw [q1];exact q2) hkn ?_ (Nat.le_refl _)
    have hx0:=q5 m1 (Agr.refl _ _)
    rw [q1,show asg (E.1.length:Int) E.2.2 :: stoS mk E.1.length t ix=[asg (E.1.length:Int) E.2.2]++stoS mk E.1.length t ix from rfl]
    have hs1:(foldR (runS (D+1)) m1 [asg (E.1.length:Int) E.2.2]).1=setV m1 E.1.length (evalE m 5 v).1:=by rw [foldR_one,asg,runS_1,hx0]
    have hA2:Agr E.1.length m1 (setV m1 E.1.length (evalE m 5 v).1):=Agr.setV (Nat.le_refl _)
    refine pre_run (nf2:=vs.length) (by rw [hs1];exact hA2.le hEm) (by simp [asg,St1.kind]) ?_ (Nat.le_refl _)
    rw [hs1]
    generalize hm2:setV m1 (E.1.length:Int) (evalE m 5 v).1=m2 at *
    have ha2:Agr p.vars.length m m2:=q4.trans (hA2.le (by omega))
    have hact:act mk m2=act mk m':=by
      rw [← q6]
      refine act_agr hA2 ?_
      rcases hmk.rng with h | h
      · exact .inl h
      · exact .inr ⟨by omega,by omega⟩
    have hatv:atV m2 ix=atV m ix:=atV_agr hsi hai (Nat.le_refl _) ha2
    have hnv:nth m2.vals (E.1.length:Int)=(evalE m 5 v).1:=by
      rw [← hm2];unfold setV;rw [Int.toNat_natCast];exact nth_set (by rw [q3.nv];omega)
    have hir:=evalE_range hm 5 ix hsi
    rw [hi] at hir
    have har:m2.arrays=m.arrays:=ha2.ar.symm
    have hat:arrAt m2 t=arrAt m t:=by unfold arrAt;rw [har]
    have h4:=(hm.arr _ (arrAt_mem (m:=m) ht.1 (by rw [hm.na];exact ht.2)).2).1
    have hr:=run_stoS (D:=D) (w:=E.1.length) (t:=t) (mk:=mk) (m:=m2) hsi hai (by rw [hatv];exact hir.1) ht.1 (by rw [har,hm.na];exact ht.2) (by rw [hat];exact h4)
    have hrel:rel (foldR (runS (D+1)) m2 (stoS mk E.1.length t ix)).2=[]:=rel_plain _ _ (by simp [stoS,stoN,sto,St1.kind])
    rw [hact,hatv,hnv] at hr
    generalize foldR (runS (D+1)) m2 (stoS mk E.1.length t ix)=Y at *
    obtain ⟨Y1,Y2⟩:=Y
    simp only at hr hrel
    rw [hr]
    cases hac:act mk m' with
    | true =>
      simp only [cond_true]
      rw [runS_2,hi]
      exact Sim.setA1 ha2 (by simp only [rel_app,rel_eval,rel_ev 3 _ (by omega),hrel,List.nil_append,List.append_nil];try rfl)
    | false =>
      simp only [cond_false]
      exact Sim.evs (x:=(m,[])) (y:=(m2,[])) (Sim.refl ha2) (by rw [hrel];rfl)
  · rw [if_neg hsec]
    refine ⟨hEmore,fun m m' ho hm' hm hl ha=>?_⟩
    simp only at ho hl ⊢
    obtain ⟨m1,q1,q2,q3,q4,q5,q6⟩:=pre m m' (fun s hs=>ho s (by simp [hs])) hm' hm hl ha
    refine pre_run (nf2:=vs.length) (by rw [q1];exact q2) hkn ?_ (Nat.le_refl _)
    have hr:=mask_val (m:=m1) (stmt_right (ho (sto t ix (maskE mk E.2.2 (rdE t ix))) (by simp)) (by omega))
    have hrd:(evalE m1 5 (rdE t ix)).1=nth (arrAt m1 t) (atV m1 ix % 4):=by
      have:=eval_atom (m:=m1) (d:=3) hsi hai
      rw [rdE,evalE]
      simp [this]
    have hatv:atV m1 ix=atV m ix:=atV_agr hsi hai (Nat.le_refl _) q4
    rw [q6,q5 m1 (Agr.refl _ _),hrd] at hr
    rw [hatv] at hr
    rw [q1,foldR_one,sto]
    simp only [runS_2,hr,hi,hatv]
    cases hac:act mk m' with
    | true =>
      simp only [cond_true]
      exact Sim.setA1 q4 (by simp only [rel_app,rel_eval,rel_ev 3 _ (by omega)])
    | false =>
      simp only [cond_false]
      have h4:=(q3.arr _ (arrAt_mem (m:=m1) ht.1 (by rw [q3.na,hna];exact ht.2)).2).1
      rw [setA_self ht.1 (by rw [q3.na,hna];exact ht.2) (by omega) (by omega)]
      exact Sim.evs (x:=(m,[])) (y:=(m1,[])) (Sim.refl q4) (by simp only [rel_app,rel_eval,rel_ev 3 _ (by omega)];rfl)
theorem linB_ok {p q:Pg} (hna:q.arrays.length=p.arrays.length):∀ (d D:Nat),d≤D→∀ mk pc vs l,(∀ s ∈ l,stmtOK p d s=true)→Ext p vs→OKM p mk vs pc→fineL (flowR p.vars p.arrays) p.vars p.arrays d pc l=true →
    SOK p q vs (fun m=>foldR (runS d) m l) mk D (linB (linS p.arrays d mk pc) vs l)
  | 0,D,_,mk,pc,vs,l,hok,hx,hmk,hf=>by
    match l,hok with
    | [],_=>exact linB_of [] vs (by simp) hx hmk (by simp)
    | s :: r,hok=>exact absurd (hok s (by simp)) (by simp [stmtOK])
  | d+1,0,h,_,_,_,_,_,_,_,_=>by omega
  | d+1,D+1,h,mk,pc,vs,l,hok,hx,hmk,hf=>by
    simp only [fineL,List.all_eq_true,Bool.and_eq_true,beq_iff_eq] at hf
    exact linB_of l vs hok hx hmk fun s hs vs hx hmk=>linS_ok hna (by omega) (fun D hD=>linB_ok hna d D hD) mk pc vs s (hok s hs) hx hmk (hf s hs).1.1 (hf s hs).1.2 (hf s hs).2
def Sub (a b:Nat):Prop:=∀ β,a.testBit β=true→b.testBit β=true
theorem Sub.refl (a:Nat):Sub a a:=fun _ h=>h
theorem Sub.trans {a b c:Nat} (h:Sub a b) (g:Sub b c):Sub a c:=fun β x=>g β (h β x)
theorem Sub.zero (a:Nat):Sub 0 a:=fun β h=>by simp at h
theorem Sub.or {a b c:Nat}:Sub (a ||| b) c ↔ Sub a c∧Sub b c:=by
  constructor
  · exact fun h=>⟨fun β x=>h β (by simp [x]),fun β x=>h β (by simp [x])⟩
  · rintro ⟨h1,h2⟩ β x
    rw [Nat.testBit_or,Bool.or_eq_true] at x
    exact x.elim (h1 β) (h2 β)
theorem Sub.left (a b:Nat):Sub a (a ||| b):=fun β h=>by simp [h]
theorem Sub.right (a b:Nat):Sub b (a ||| b):=fun β h=>by simp [h]
theorem Sub.l {a b c:Nat} (h:Sub a b):Sub a (b ||| c):=h.trans (Sub.left _ _)
theorem Sub.r {a b c:Nat} (h:Sub a c):Sub a (b ||| c):=h.trans (Sub.right _ _)
theorem sub_iff {a b:Nat}:subL a b=true ↔ Sub a b:=by
  constructor
  · exact fun h β x=>subL_bit h x
  · intro h
    have:a ||| b=b:=Nat.eq_of_testBit_eq fun β=>by
      rw [Nat.testBit_or]
      cases hx:a.testBit β with
      | false=>simp
      | true=>simp [h β hx]
    simp [subL,this]
theorem labN_sub {vs ar:List Int} {d:Nat} {k v:Int} {ks:List Ex} {L:Nat}:Sub (labN vs ar (d+1) (.mk k v ks)) L ↔ Sub (labB vs ar k v) L∧∀ x ∈ ks,Sub (labN vs ar d x) L:=by
  have key:∀ (l:List Ex) (a:Nat),Sub ((l.map (labN vs ar d)).foldl (fun a b=>a ||| b) a) L ↔ Sub a L∧∀ x ∈ l,Sub (labN vs ar d x) L:=by
    intro l
    induction l with
    | nil=>simp
    | cons x r ih =>
      intro a
      simp only [List.map_cons,List.foldl_cons,ih,Sub.or,List.mem_cons,forall_eq_or_imp,and_assoc]
  rw [labN]
  exact key ks _
theorem lab_c {vs ar : List Int} {n : Int} {L : Nat} : ∀ D, Sub (labN vs ar D (cE n)) L
  | 0=>Sub.zero _
  | D+1=>by rw [cE,labN_sub];exact ⟨by simp [labB,Sub.zero],by simp⟩
theorem lab_v {vs ar : List Int} {w : Int} {L : Nat} (h : Sub (nth vs w).toNat L) : ∀ D, Sub (labN vs ar D (vE w)) L
  | 0=>Sub.zero _
  | D+1=>by rw [vE,labN_sub];exact ⟨by simpa [labB] using h,by simp⟩
theorem lab_k {vs ar : List Int} {k v : Int} {ks : List Ex} {L : Nat} (h1 : Sub (labB vs ar k v) L) (h2 : ∀ D, ∀ x ∈ ks, Sub (labN vs ar D x) L) : ∀ D, Sub (labN vs ar D (.mk k v ks)) L
  | 0=>Sub.zero _
  | D+1=>labN_sub.2 ⟨h1,h2 D⟩
theorem lab_sel {vs ar:List Int} {a b c:Ex} {L:Nat} (h1:∀ D,Sub (labN vs ar D a) L) (h2:∀ D,Sub (labN vs ar D b) L) (h3:∀ D,Sub (labN vs ar D c) L):∀ D,Sub (labN vs ar D (selE a b c)) L :=
  lab_k (by simp [labB,Sub.zero]) fun D x hx=>by
    simp at hx
    rcases hx with rfl | rfl | rfl
    · exact h1 D
    · exact h2 D
    · exact h3 D
theorem lab_b {vs ar:List Int} {k:Int} {a b:Ex} {L:Nat} (hk:k ≠ 2∧k ≠ 3) (h1:∀ D,Sub (labN vs ar D a) L) (h2:∀ D,Sub (labN vs ar D b) L):∀ D,Sub (labN vs ar D (bE k a b)) L :=
  lab_k (by simp [labB,hk,Sub.zero]) fun D x hx=>by
    simp at hx
    rcases hx with rfl | rfl
    · exact h1 D
    · exact h2 D
theorem lab_hit {vs ar:List Int} {k:Int} {a:Ex} {L:Nat} (h1:∀ D,Sub (labN vs ar D a) L):∀ D,Sub (labN vs ar D (hitE a k)) L :=
  lab_b (by omega) (lab_b (by omega) h1 fun D=>lab_c D) fun D=>lab_c D
theorem lab_rd {vs ar:List Int} {t:Int} {a:Ex} {L:Nat} (h1:Sub (nth ar t).toNat L) (h2:∀ D,Sub (labN vs ar D a) L):∀ D,Sub (labN vs ar D (rdE t a)) L :=
  lab_k (by simpa [labB] using h1) fun D x hx=>by simp at hx;subst hx;exact h2 D
theorem lab_mask {vs ar:List Int} {mk:Int} {e f:Ex} {L:Nat} (hm:mk<0∨Sub (nth vs mk).toNat L) (h1:∀ D,Sub (labN vs ar D e) L) (h2:∀ D,Sub (labN vs ar D f) L):∀ D,Sub (labN vs ar D (maskE mk e f)) L:=by
  unfold maskE
  by_cases h:mk<0
  · rw [if_pos h];exact h1
  · rw [if_neg h]
    exact lab_sel (fun D=>lab_v (hm.resolve_left h) D) h1 h2
theorem sec_k {vs ar : List Int} {k v : Int} {ks : List Ex} (h : k ≠ 3) (h2 : ∀ D, ∀ x ∈ ks, secE vs ar D x = false) : ∀ D, secE vs ar D (.mk k v ks) = false
  | 0=>rfl
  | D+1=>by
    simp only [secE,Bool.or_eq_false_iff,Bool.and_eq_false_iff,List.any_eq_false]
    exact ⟨.inl (by simpa using h),fun x hx=>by rw [h2 D x hx];simp⟩
theorem sec_rd {vs ar : List Int} {t : Int} {a : Ex} (h : ∀ D, secL (labN vs ar D a) = false) (h2 : ∀ D, secE vs ar D a = false) : ∀ D, secE vs ar D (rdE t a) = false
  | 0=>rfl
  | D+1=>by simp [rdE,secE,kid0,h D,h2 D]
theorem sec_sel {vs ar:List Int} {a b c:Ex} (h1:∀ D,secE vs ar D a=false) (h2:∀ D,secE vs ar D b=false) (h3:∀ D,secE vs ar D c=false):∀ D,secE vs ar D (selE a b c)=false :=
  sec_k (by omega) fun D x hx=>by
    simp at hx
    rcases hx with rfl | rfl | rfl
    · exact h1 D
    · exact h2 D
    · exact h3 D
theorem sec_b {vs ar:List Int} {k:Int} {a b:Ex} (hk:k ≠ 3) (h1:∀ D,secE vs ar D a=false) (h2:∀ D,secE vs ar D b=false):∀ D,secE vs ar D (bE k a b)=false :=
  sec_k hk fun D x hx=>by
    simp at hx
    rcases hx with rfl | rfl
    · exact h1 D
    · exact h2 D
theorem sec_c {vs ar:List Int} {n:Int}:∀ D,secE vs ar D (cE n)=false:=sec_k (by omega) (by simp)
theorem sec_v {vs ar:List Int} {n:Int}:∀ D,secE vs ar D (vE n)=false:=sec_k (by omega) (by simp)
theorem sec_hit {vs ar:List Int} {k:Int} {a:Ex} (h:∀ D,secE vs ar D a=false):∀ D,secE vs ar D (hitE a k)=false:=sec_b (by omega) (sec_b (by omega) h sec_c) sec_c
theorem sec_mask {vs ar:List Int} {mk:Int} {e f:Ex} (h1:∀ D,secE vs ar D e=false) (h2:∀ D,secE vs ar D f=false):∀ D,secE vs ar D (maskE mk e f)=false:=by
  unfold maskE
  by_cases h:mk<0
  · rw [if_pos h];exact h1
  · rw [if_neg h];exact sec_sel sec_v h1 h2
theorem sec_atom {vs ar:List Int} {p:Pg} {d:Nat} {a:Ex} (hs:CtR.shape p d a=true) (ha:atom a=true):∀ D,secE vs ar D a=false:=by
  obtain ⟨k,v,rfl,hk⟩:=atom_mk hs ha
  exact sec_k (by omega) (by simp)
theorem sec_rdc {vs ar:List Int} {t n:Int}:∀ D,secE vs ar D (rdE t (cE n))=false :=
  sec_rd (fun D=>by
    have:Sub (labN vs ar D (cE n)) 0:=lab_c D
    cases h:secL (labN vs ar D (cE n)) with
    | false=>rfl
    | true=>exact absurd (this 0 h) (by simp)) sec_c
theorem lab_atom {F more vs ar:List Int} {bd:List St1} {d:Nat} {a:Ex} (hF:F=vs++more) (hs:CtR.shape ⟨vs,ar,bd⟩ d a=true) (ha:atom a=true):∀ D,Sub (labN F ar D a) (labN vs ar d a):=by
  match d,hs with
  | 0,hs=>simp [CtR.shape] at hs
  | d+1,hs =>
    have hl:=labN_app (more:=more) (d+1) a hs
    rw [← hF] at hl
    rw [← hl]
    obtain ⟨k,v,rfl,hk⟩:=atom_mk hs ha
    exact lab_k ((labN_sub.1 (Sub.refl _)).1) (by simp)
def Fn1 (F ar:List Int) (pc:Nat) (s:St1):Prop:=s.body=[]∧s.els=[]∧s.kind ≠ 3∧∀ c,Sub c pc→flowR F ar s c=0∧leakR F ar s c=0
theorem fn_asg {F ar:List Int} {pc:Nat} {w:Int} {e:Ex} (h1:∀ D,Sub (labN F ar D e) (nth F w).toNat) (h2:∀ D,secE F ar D e=false) (h3:Sub pc (nth F w).toNat):Fn1 F ar pc (asg w e):=by
  refine ⟨rfl,rfl,by simp [asg,St1.kind],fun c hc=>⟨?_,?_⟩⟩
  · have h:subL (labN F ar 5 e ||| c) (nth F w).toNat=true:=sub_iff.2 (Sub.or.2 ⟨h1 5,hc.trans h3⟩)
    simp [flowR,asg,St1.kind,St1.target,storedN,St1.value,h]
  · simp [leakR,asg,St1.kind,St1.value,St1.index,h2]
theorem fn_sto {F ar:List Int} {pc:Nat} {t:Int} {i e:Ex} (h1:∀ D,Sub (labN F ar D e) (nth ar t).toNat) (h2:∀ D,secE F ar D e=false) (h3:Sub pc (nth ar t).toNat) (h4:∀ D,Sub (labN F ar D i) (nth ar t).toNat) (h5:∀ D,secL (labN F ar D i)=false):Fn1 F ar pc (sto t i e):=by
  refine ⟨rfl,rfl,by simp [sto,St1.kind],fun c hc=>⟨?_,?_⟩⟩
  · have h:subL (labN F ar 5 e ||| c ||| labN F ar 5 i) (nth ar t).toNat=true:=sub_iff.2 (Sub.or.2 ⟨Sub.or.2 ⟨h1 5,hc.trans h3⟩,h4 5⟩)
    simp [flowR,sto,St1.kind,St1.target,storedN,St1.value,St1.index,h]
  · simp [leakR,sto,St1.kind,St1.value,St1.index,h2,h5]
theorem nth_last {a b:List Int} {x:Int}:nth (a++([x]++b)) (a.length:Int)=x:=by
  unfold nth
  rw [List.getD_eq_getElem?_getD,Int.toNat_natCast,List.getElem?_append_right (Nat.le_refl _),Nat.sub_self]
  rfl
structure TyE (F ar : List Int) (L pc : Nat) (vs : List Int) (R : List Int × List St1 × Ex) : Prop where
  lab:∀ D,Sub (labN F ar D R.2.2) (L ||| pc)
  sec:∀ D,secE F ar D R.2.2=false
  fin:∀ s ∈ R.2.1,Fn1 F ar pc s
theorem tyK {ar : List Int} {pc d : Nat} (hE : ∀ F vs e, CtR.shape ⟨vs, ar, []⟩ d e = true → (∃ w, F = (linE ar pc d vs e).1 ++ w) → TyE F ar (labN vs ar d e) pc vs (linE ar pc d vs e))
    (hM:∀ vs e,CtR.shape ⟨vs,ar,[]⟩ d e=true→∃ w,(linE ar pc d vs e).1=vs++w):∀ (ks:List Ex) (F vs:List Int),(∀ x ∈ ks,CtR.shape ⟨vs,ar,[]⟩ d x=true)→(∃ w,F=(linK (linE ar pc d) vs ks).1++w) →
    (∀ x ∈ (linK (linE ar pc d) vs ks).2.2,(∃ y ∈ ks,∀ D,Sub (labN F ar D x) (labN vs ar d y ||| pc))∧∀ D,secE F ar D x=false)∧(∀ s ∈ (linK (linE ar pc d) vs ks).2.1,Fn1 F ar pc s)∧∃ w,(linK (linE ar pc d) vs ks).1=vs++w
  | [],F,vs,_,_=>⟨by simp [linK],by simp [linK],⟨[],by simp [linK]⟩⟩
  | e :: r,F,vs,hs,hF=>by
    obtain ⟨w1,e1⟩:=hM vs e (hs e (by simp))
    have hsr:∀ x ∈ r,CtR.shape ⟨(linE ar pc d vs e).1,ar,[]⟩ d x=true:=fun x hx=>shape_mono (p:=⟨vs,ar,[]⟩) (q:=⟨(linE ar pc d vs e).1,ar,[]⟩) (by simp only [e1,List.length_append];omega) rfl d x (hs x (by simp [hx]))
    obtain ⟨a2,b2,w2,e2⟩:=tyK hE hM r F (linE ar pc d vs e).1 hsr hF
    obtain ⟨wF,eF⟩:=hF
    simp only [linK] at eF ⊢
    have h1:=hE F vs e (hs e (by simp)) ⟨w2++wF,by rw [eF,e2,List.append_assoc]⟩
    refine ⟨fun x hx=>?_,fun s hs=>?_,⟨w1++w2,by rw [e2,e1,List.append_assoc]⟩⟩
    · simp only [List.mem_cons] at hx
      rcases hx with rfl | hx
      · exact ⟨⟨e,by simp,h1.lab⟩,h1.sec⟩
      · obtain ⟨⟨y,hy,g⟩,g2⟩:=a2 x hx
        refine ⟨⟨y,by simp [hy],fun D=>?_⟩,g2⟩
        have:=labN_app (more:=w1) d y (hs y (by simp [hy]))
        rw [← this,← e1]
        exact g D
    · rcases List.mem_append.1 hs with hs | hs
      · exact h1.fin s hs
      · exact b2 s hs
theorem tyE {ar : List Int} {pc : Nat} : ∀ (d : Nat) (F vs : List Int) (e : Ex), CtR.shape ⟨vs, ar, []⟩ d e = true → (∃ w, F = (linE ar pc d vs e).1 ++ w) → TyE F ar (labN vs ar d e) pc vs (linE ar pc d vs e)
  | 0,F,vs,e,h,_=>by simp [CtR.shape] at h
  | d+1,F,vs,.mk k v ks,h,hF=>by
    by_cases k3:k=3
    · subst k3
      obtain ⟨a,rfl,hs,ha,hv0,hv1⟩:=read_kid h
      rw [lin_read hs ha] at hF ⊢
      have har:Sub (nth ar v).toNat (labN vs ar (d+1) (.mk 3 v [a])):=by
        have:=(labN_sub (vs:=vs) (ar:=ar) (d:=d) (k:=3) (v:=v) (ks:=[a])).1 (Sub.refl _)
        simpa [labB] using this.1
      have hka:Sub (labN vs ar d a) (labN vs ar (d+1) (.mk 3 v [a])):=((labN_sub (vs:=vs) (ar:=ar) (d:=d) (k:=3) (v:=v) (ks:=[a])).1 (Sub.refl _)).2 a (by simp)
      by_cases hc:secL (labN vs ar d a)=true
      · rw [if_pos hc] at hF ⊢
        obtain ⟨w,eF⟩:=hF
        simp only at eF
        have eF':F=vs++(lab1 (labN vs ar (d+1) (.mk 3 v [a])) pc++w):=by rw [eF,List.append_assoc]
        have hla:=lab_atom eF' hs ha
        generalize labN vs ar (d+1) (.mk 3 v [a])=L at *
        have hn:nth F (vs.length:Int)=((L ||| pc:Nat):Int):=by rw [eF'];exact nth_last
        have hnn:(nth F (vs.length:Int)).toNat=L ||| pc:=by rw [hn];rfl
        have hsa:∀ D,secE F ar D a=false:=sec_atom hs ha
        refine ⟨fun D=>lab_v (by rw [hnn];exact Sub.refl _) D,sec_v,fun s hs=>?_⟩
        have one:∀ k:Nat,Fn1 F ar pc (readN vs.length v a k):=fun k=>by
          refine fn_asg ?_ (sec_sel (sec_hit hsa) sec_rdc sec_v) (by rw [hnn];exact Sub.right _ _)
          rw [hnn]
          exact lab_sel (lab_hit fun D=>((hla D).trans hka).l) (lab_rd har.l fun D=>lab_c D) fun D=>lab_v (by rw [hnn];exact Sub.refl _) D
        simp only [readS,List.mem_cons,List.not_mem_nil,or_false] at hs
        rcases hs with rfl | rfl | rfl | rfl
        · refine fn_asg ?_ sec_rdc (by rw [hnn];exact Sub.right _ _)
          rw [hnn]
          exact lab_rd har.l fun D=>lab_c D
        · exact one 1
        · exact one 2
        · exact one 3
      · rw [if_neg hc] at hF ⊢
        obtain ⟨w,eF⟩:=hF
        simp only at eF
        have hla:=lab_atom eF hs ha
        have hsa:∀ D,secE F ar D a=false:=sec_atom hs ha
        refine ⟨fun D=>?_,fun D=>?_,by simp⟩
        · exact lab_rd (t:=v) (a:=a) har.l (fun D=>((hla D).trans hka).l) D
        · refine sec_rd (t:=v) (a:=a) (fun D=>?_) hsa D
          cases h:secL (labN F ar D a) with
          | false=>rfl
          | true=>exact absurd (hla D 0 h) (by simpa [secL] using hc)
    · obtain ⟨g1,g2,g3⟩:=shape_succ h
      obtain ⟨_,gb,c,gl⟩:=fits_len g1
      have he:linE ar pc (d+1) vs (.mk k v ks)=((linK (linE ar pc d) vs ks).1,(linK (linE ar pc d) vs ks).2.1,.mk k v (linK (linE ar pc d) vs ks).2.2):=by
        rw [linE,if_neg (fun h=>k3 h.1)]
      rw [he] at hF ⊢
      obtain ⟨a2,b2,w2,e2⟩:=tyK (fun F vs e hs hF=>tyE d F vs e hs hF) (fun vs e hs=>(linE_ok (q:=⟨[],ar,[]⟩) rfl pc d vs e hs).more) ks F vs g2 hF
      obtain ⟨wF,eF⟩:=hF
      simp only at eF
      have hL:=(labN_sub (vs:=vs) (ar:=ar) (d:=d) (k:=k) (v:=v) (ks:=ks)).1 (Sub.refl _)
      refine ⟨lab_k ?_ fun D x hx=>?_,sec_k k3 fun D x hx=>(a2 x hx).2 D,b2⟩
      · have:labB F ar k v=labB vs ar k v:=by
          unfold labB
          by_cases k2:k=2
          · subst k2
            rw [if_pos rfl,if_pos rfl,eF,e2,List.append_assoc,nth_app c (by simpa [limit] using gl)]
          · rw [if_neg k2,if_neg k2]
        rw [this]
        exact hL.1.l
      · obtain ⟨⟨y,hy,g⟩,_⟩:=a2 x hx
        exact (g D).trans (Sub.or.2 ⟨(hL.2 y hy).l,Sub.right _ _⟩)
theorem secE_lab {vs ar : List Int} : ∀ (d : Nat) (e : Ex), secL (labN vs ar d e) = false → secE vs ar d e = false
  | 0,_,_=>rfl
  | d+1,.mk k v ks,h=>by
    have hk:∀ x ∈ ks,secL (labN vs ar d x)=false:=fun x hx=>by
      have:=((labN_sub (vs:=vs) (ar:=ar) (d:=d) (k:=k) (v:=v) (ks:=ks)).1 (Sub.refl _)).2 x hx 0
      cases hx:secL (labN vs ar d x) with
      | false=>rfl
      | true=>exact absurd (this hx) (by simpa [secL] using h)
    simp only [secE,Bool.or_eq_false_iff,List.any_eq_false,Bool.and_eq_false_iff]
    refine ⟨?_,fun x hx=>by rw [secE_lab d x (hk x hx)];simp⟩
    match ks,hk with
    | [],_ =>
      right
      cases d<;>simp [kid0,labN,labB,secL]
    | a :: r,hk=>exact .inr (hk a (by simp))
theorem lin_id {ar : List Int} {pc : Nat} : ∀ (d : Nat) (vs : List Int) (e : Ex), CtR.shape ⟨vs, ar, []⟩ d e = true → secE vs ar d e = false → linE ar pc d vs e = (vs, [], e)
  | 0,vs,e,_,_=>rfl
  | d+1,vs,.mk k v ks,hs,h=>by
    obtain ⟨g1,g2,g3⟩:=shape_succ hs
    simp only [secE,Bool.or_eq_false_iff,List.any_eq_false,Bool.and_eq_false_iff] at h
    have key:∀ l:List Ex,(∀ x ∈ l,x ∈ ks)→linK (linE ar pc d) vs l=(vs,[],l):=by
      intro l
      induction l with
      | nil=>intro _;rfl
      | cons a r ih =>
        intro hl
        have h1:=lin_id (pc:=pc) d vs a (g2 a (hl a (by simp))) (by simpa using h.2 a (hl a (by simp)))
        have h2:=ih fun x hx=>hl x (by simp [hx])
        simp only [linK,h1,h2,List.nil_append]
    have hk:=key ks fun x hx=>hx
    rw [linE,hk]
    simp only
    rw [if_neg]
    rintro ⟨k3,hsec⟩
    rcases h.1 with h1 | h1
    · simp [k3] at h1
    · rw [h1] at hsec;cases hsec
end Go.Proofs.YtmjkgjkkpaephaaGreat.CtL
