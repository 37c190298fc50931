/- Contracts of functions of the program, one behind the other, as plain data: what each call returns and which blocks it leaves. -/
import Derived.Test.YtbknljofedfpjaaGreatXFacts
import Derived.Test.YtbknljofedfpjaaGreatXAi
import Derived.Test.YtbknljofedfpjaaGreatXAk
import Derived.Test.YtbknljofedfpjaaGreatXAm
import Derived.Test.YtbknljofedfpjaaGreatXAn
import Derived.Test.YtbknljofedfpjaaGreatXAp
import Derived.Test.YtbknljofedfpjaaGreatXAq
import Derived.Test.YtbknljofedfpjaaGreatXAr
import Derived.Test.YtbknljofedfpjaaGreatXAs
import Derived.Test.YtbknljofedfpjaaGreatXAv
import Derived.Test.YtbknljofedfpjaaGreatXAo
import Derived.Test.YtbknljofedfpjaaGreatXAu
import Derived.Test.YtbknljofedfpjaaGreatXAl
import Derived.Test.YtbknljofedfpjaaGreatXAt
set_option linter.unusedVariables false
set_option linter.unusedSimpArgs false
set_option linter.unusedSectionVars false
set_option maxHeartbeats 16000000
set_option maxRecDepth 100000
namespace Go.Proofs.YtbknljofedfpjaaGreat.CtD
open Go Go.CT CtF CtR
variable [Yn]
open CtL (In Cd Mc stepM kindsOf topOf fOK inOK endOK codeOK)
theorem hdrL {n:Nat} (h:n≤2):(hdr 4 5 n).length=n:=by
  unfold hdr
  match n,h with
  | 0,_=>rfl
  | 1,_=>rfl
  | 2,_=>rfl
theorem step4 (c : Cd) (s : Mc) (a b c' d : Int) (hc1 : c.list.length ≤ 400) (hs : MOK c s) (hx : c.list[s.pc]? = some ⟨4, a, b, c', d⟩) (h : inOK c.vars.length c.arrays.length c.list.length ⟨4, a, b, c', d⟩ = true) :
    DC Tryz.prog 107 [.c (.ptr 0 0),.agg (cdC c)] (stB s) (stepR ⟨4,a,b,c',d⟩ s):=by
  have hmx:=mx_eq
  obtain ⟨h1,h2,h3,h4⟩:=hs
  have hbl:=blk_len h4
  have hb0:=fun h x h0 h4'=>blk0_at h4 h (x:=x) h0 h4'
  have hb1:=fun h x h0 h4'=>blk1_at h4 h (x:=x) h0 h4'
  have hnv:=h4.nv
  have hna:=h4.na
  have hn12:=h4.nv12
  have hn2:=h4.na2
  have hpcx:(s.pc:Int)+1=((s.pc+1:Nat):Int):=by omega
  obtain ⟨vs,ar,l⟩:=c
  obtain ⟨pc,rg,m⟩:=s
  simp only [hdC] at h1 h2 h3 hnv hna hn12 hn2 hx hc1 hbl hb0 hb1
  simp only [inOK,kindsOf,fOK,topOf,Bool.and_eq_true,decide_eq_true_eq] at h
  simp at h
  have hxl:(l.map inX)[pc]? = some (inX ⟨4,a,b,c',d⟩):=by rw [List.getElem?_map,hx];rfl
  have hrr:=fun (i:Int) (h0:0≤i) (h1:i≤13)=>nth_lt (l:=rg) (i:=i) h0 (by omega)
  have hrl:(rg.map I64).length=14:=by rw [List.length_map];exact h2
  have hrg:=fun (i:Int) (h0:0≤i) (h1:i≤13)=>reg_rng h2 h3 (i:=i) h0 h1
  have hvl:(m.vals.map I64).length=m.vals.length:=List.length_map _
  have hvv:=fun (i:Int) (h0:0≤i) (h1:i<m.vals.length)=>nth_lt (l:=m.vals) (i:=i) h0 h1
  have ret:∀ (K n:Nat) (pcv:Int) (cs c1 c2 c4 c5:List C) (hp:Hp),hp 0=some (some [.v (.int .i64 pcv),.msl 1 1 0 14,.msl 2 1 0 m.vals.length,.msl 3 1 0 m.arrays.length])→hp 1=some (some c1)→hp 2=some (some c2)→hp 3=some (some (hdr 4 5 m.arrays.length))→hp 4=some (some c4)→hp 5=some (some c5)→hp K=some (some cs)→6≤K →
      pcv=((stepM ⟨4,a,b,c',d⟩ ⟨pc,rg,m⟩).1.pc:Int)→c1=(stepM ⟨4,a,b,c',d⟩ ⟨pc,rg,m⟩).1.regs.map I64→c2=(stepM ⟨4,a,b,c',d⟩ ⟨pc,rg,m⟩).1.mem.vals.map I64→(stepM ⟨4,a,b,c',d⟩ ⟨pc,rg,m⟩).1.mem.vals.length=m.vals.length→(stepM ⟨4,a,b,c',d⟩ ⟨pc,rg,m⟩).1.mem.arrays.length=m.arrays.length →
      c4=blk0 (stepM ⟨4,a,b,c',d⟩ ⟨pc,rg,m⟩).1.mem.arrays→c5=blk1 (stepM ⟨4,a,b,c',d⟩ ⟨pc,rg,m⟩).1.mem.arrays→cs=trC (stepM ⟨4,a,b,c',d⟩ ⟨pc,rg,m⟩).2→n=(stepM ⟨4,a,b,c',d⟩ ⟨pc,rg,m⟩).2.length→RetOb 6 (stepR ⟨4,a,b,c',d⟩ ⟨pc,rg,m⟩) (.c (.msl K 2 0 n)) hp:=by
    rintro K n pcv cs c1 c2 c4 c5 hp q0 q1 q2 q3 q4 q5 qk hK e0 rfl rfl f1 f2 rfl rfl rfl rfl
    subst e0
    refine RetOb.ofQ (fun j=>if j=6 then some K else some j) [] (.c (.msl 6 2 0 _)) (stB (stepM ⟨4,a,b,c',d⟩ ⟨pc,rg,m⟩).1++[some (trC (stepM ⟨4,a,b,c',d⟩ ⟨pc,rg,m⟩).2)]) ?_ ⟨rfl,rfl⟩ (by simp [stB])
    simp [stB,enumL,hOf,DM,DMs,CM,CMs,HpOK,LowOK,upd,CMs_I,CMs_tr,CMs_hdr,CMs_b0,CMs_b1,f1,f2,q0,q1,q2,q3,q4,q5,qk]
    omega
  generalize hR:stepR ⟨4,a,b,c',d⟩ ⟨pc,rg,m⟩=R at ret ⊢
  clear hR
  unfold stB cdC
  have hv:=hrr c' (by omega) (by omega)
  have hrc:=hrg c' (by omega) (by omega)
  have had:=CtR.address b (nth rg c') (by omega) (hrg _ (by omega) (by omega))
  have hmod:0≤nth rg c' % 4∧nth rg c' % 4<4:=by omega
  have hhl:=hdrL (n:=m.arrays.length) (by omega)
  have hb01:b=0∨b=1:=by omega
  rcases hb01 with rfl | rfl
  · have hh:=hdr0 (n:=m.arrays.length) (by omega)
    have hbb:=hb0 (by omega) _ hmod.1 hmod.2
    have hl4:=hbl.1 (by omega)
    refine dcZ Tryz.func107 ?_
    simp only [go_sem,hxl,inX,hrl,hvl,set_I,hv,hh,hbb,hl4,hhl]
    iterate 22 ((try (refine drvZ Tryz.func107 ?_;simp only [go_sem,hxl,inX,hrl,hvl,set_I,hv,hh,hbb,hl4,hhl]));((with_reducible and_intros)<;>try exact sd);(try first | refine XK.p had ok105 ?_ | refine XK.gp had ok105 ?_))
    exact ret _ _ _ _ _ _ _ _ _ rfl rfl rfl rfl rfl rfl rfl (by decide) (by simp [stepM]) (by simp [stepM]) (by simp [stepM]) (by simp [stepM]) (by simp [stepM]) (by simp [stepM]) (by simp [stepM]) (by simp [stepM,trC,Ev.cells]) (by simp [stepM])
  · have hh:=hdr1 (n:=m.arrays.length) (by omega)
    have hbb:=hb1 (by omega) _ hmod.1 hmod.2
    have hl4:=hbl.2 (by omega)
    refine dcZ Tryz.func107 ?_
    simp only [go_sem,hxl,inX,hrl,hvl,set_I,hv,hh,hbb,hl4,hhl]
    iterate 22 ((try (refine drvZ Tryz.func107 ?_;simp only [go_sem,hxl,inX,hrl,hvl,set_I,hv,hh,hbb,hl4,hhl]));((with_reducible and_intros)<;>try exact sd);(try first | refine XK.p had ok105 ?_ | refine XK.gp had ok105 ?_))
    exact ret _ _ _ _ _ _ _ _ _ rfl rfl rfl rfl rfl rfl rfl (by decide) (by simp [stepM]) (by simp [stepM]) (by simp [stepM]) (by simp [stepM]) (by simp [stepM]) (by simp [stepM]) (by simp [stepM]) (by simp [stepM,trC,Ev.cells]) (by simp [stepM])
theorem step5 (c : Cd) (s : Mc) (a b c' d : Int) (hc1 : c.list.length ≤ 400) (hs : MOK c s) (hx : c.list[s.pc]? = some ⟨5, a, b, c', d⟩) (h : inOK c.vars.length c.arrays.length c.list.length ⟨5, a, b, c', d⟩ = true) :
    DC Tryz.prog 107 [.c (.ptr 0 0),.agg (cdC c)] (stB s) (stepR ⟨5,a,b,c',d⟩ s):=by
  have hmx:=mx_eq
  obtain ⟨h1,h2,h3,h4⟩:=hs
  have hbl:=blk_len h4
  have hb0:=fun h x h0 h4'=>blk0_at h4 h (x:=x) h0 h4'
  have hb1:=fun h x h0 h4'=>blk1_at h4 h (x:=x) h0 h4'
  have hnv:=h4.nv
  have hna:=h4.na
  have hn12:=h4.nv12
  have hn2:=h4.na2
  have hpcx:(s.pc:Int)+1=((s.pc+1:Nat):Int):=by omega
  obtain ⟨vs,ar,l⟩:=c
  obtain ⟨pc,rg,m⟩:=s
  simp only [hdC] at h1 h2 h3 hnv hna hn12 hn2 hx hc1 hbl hb0 hb1
  simp only [inOK,kindsOf,fOK,topOf,Bool.and_eq_true,decide_eq_true_eq] at h
  simp at h
  have hxl:(l.map inX)[pc]? = some (inX ⟨5,a,b,c',d⟩):=by rw [List.getElem?_map,hx];rfl
  have hrr:=fun (i:Int) (h0:0≤i) (h1:i≤13)=>nth_lt (l:=rg) (i:=i) h0 (by omega)
  have hrl:(rg.map I64).length=14:=by rw [List.length_map];exact h2
  have hrg:=fun (i:Int) (h0:0≤i) (h1:i≤13)=>reg_rng h2 h3 (i:=i) h0 h1
  have hvl:(m.vals.map I64).length=m.vals.length:=List.length_map _
  have hvv:=fun (i:Int) (h0:0≤i) (h1:i<m.vals.length)=>nth_lt (l:=m.vals) (i:=i) h0 h1
  have ret:∀ (K n:Nat) (pcv:Int) (cs c1 c2 c4 c5:List C) (hp:Hp),hp 0=some (some [.v (.int .i64 pcv),.msl 1 1 0 14,.msl 2 1 0 m.vals.length,.msl 3 1 0 m.arrays.length])→hp 1=some (some c1)→hp 2=some (some c2)→hp 3=some (some (hdr 4 5 m.arrays.length))→hp 4=some (some c4)→hp 5=some (some c5)→hp K=some (some cs)→6≤K →
      pcv=((stepM ⟨5,a,b,c',d⟩ ⟨pc,rg,m⟩).1.pc:Int)→c1=(stepM ⟨5,a,b,c',d⟩ ⟨pc,rg,m⟩).1.regs.map I64→c2=(stepM ⟨5,a,b,c',d⟩ ⟨pc,rg,m⟩).1.mem.vals.map I64→(stepM ⟨5,a,b,c',d⟩ ⟨pc,rg,m⟩).1.mem.vals.length=m.vals.length→(stepM ⟨5,a,b,c',d⟩ ⟨pc,rg,m⟩).1.mem.arrays.length=m.arrays.length →
      c4=blk0 (stepM ⟨5,a,b,c',d⟩ ⟨pc,rg,m⟩).1.mem.arrays→c5=blk1 (stepM ⟨5,a,b,c',d⟩ ⟨pc,rg,m⟩).1.mem.arrays→cs=trC (stepM ⟨5,a,b,c',d⟩ ⟨pc,rg,m⟩).2→n=(stepM ⟨5,a,b,c',d⟩ ⟨pc,rg,m⟩).2.length→RetOb 6 (stepR ⟨5,a,b,c',d⟩ ⟨pc,rg,m⟩) (.c (.msl K 2 0 n)) hp:=by
    rintro K n pcv cs c1 c2 c4 c5 hp q0 q1 q2 q3 q4 q5 qk hK e0 rfl rfl f1 f2 rfl rfl rfl rfl
    subst e0
    refine RetOb.ofQ (fun j=>if j=6 then some K else some j) [] (.c (.msl 6 2 0 _)) (stB (stepM ⟨5,a,b,c',d⟩ ⟨pc,rg,m⟩).1++[some (trC (stepM ⟨5,a,b,c',d⟩ ⟨pc,rg,m⟩).2)]) ?_ ⟨rfl,rfl⟩ (by simp [stB])
    simp [stB,enumL,hOf,DM,DMs,CM,CMs,HpOK,LowOK,upd,CMs_I,CMs_tr,CMs_hdr,CMs_b0,CMs_b1,f1,f2,q0,q1,q2,q3,q4,q5,qk]
    omega
  generalize hR:stepR ⟨5,a,b,c',d⟩ ⟨pc,rg,m⟩=R at ret ⊢
  clear hR
  unfold stB cdC
  have hv:=hrr b (by omega) (by omega)
  have hw:=hrr c' (by omega) (by omega)
  have hrc:=hrg b (by omega) (by omega)
  have had:=CtR.address a (nth rg b) (by omega) (hrg _ (by omega) (by omega))
  have hmod:0≤nth rg b % 4∧nth rg b % 4<4:=by omega
  have hhl:=hdrL (n:=m.arrays.length) (by omega)
  have hb01:a=0∨a=1:=by omega
  rcases hb01 with rfl | rfl
  · have hh:=hdr0 (n:=m.arrays.length) (by omega)
    have hbb:=hb0 (by omega) _ hmod.1 hmod.2
    have hl4:=hbl.1 (by omega)
    refine dcZ Tryz.func107 ?_
    simp only [go_sem,hxl,inX,hrl,hvl,set_I,hv,hw,hh,hbb,hl4,hhl]
    iterate 22 ((try (refine drvZ Tryz.func107 ?_;simp only [go_sem,hxl,inX,hrl,hvl,set_I,hv,hw,hh,hbb,hl4,hhl]));((with_reducible and_intros)<;>try exact sd);(try first | refine XK.p had ok105 ?_ | refine XK.gp had ok105 ?_))
    exact ret _ _ _ _ _ _ _ _ _ rfl rfl rfl rfl rfl rfl rfl (by decide) (by simp [stepM]) (by simp [stepM]) (by simp [stepM,setA]) (by simp [stepM,setA]) (by simp [stepM,setA]) (by simp only [stepM];simp;rw [blk0_set0 _ _ _ (by omega)]) (by simp only [stepM];simp;rw [blk1_set0]) (by simp [stepM,trC,Ev.cells]) (by simp [stepM])
  · have hh:=hdr1 (n:=m.arrays.length) (by omega)
    have hbb:=hb1 (by omega) _ hmod.1 hmod.2
    have hl4:=hbl.2 (by omega)
    refine dcZ Tryz.func107 ?_
    simp only [go_sem,hxl,inX,hrl,hvl,set_I,hv,hw,hh,hbb,hl4,hhl]
    iterate 22 ((try (refine drvZ Tryz.func107 ?_;simp only [go_sem,hxl,inX,hrl,hvl,set_I,hv,hw,hh,hbb,hl4,hhl]));((with_reducible and_intros)<;>try exact sd);(try first | refine XK.p had ok105 ?_ | refine XK.gp had ok105 ?_))
    exact ret _ _ _ _ _ _ _ _ _ rfl rfl rfl rfl rfl rfl rfl (by decide) (by simp [stepM]) (by simp [stepM]) (by simp [stepM,setA]) (by simp [stepM,setA]) (by simp [stepM,setA]) (by simp only [stepM];simp;rw [blk0_set1]) (by simp only [stepM];simp;rw [blk1_set1 _ _ _ (by omega)]) (by simp [stepM,trC,Ev.cells]) (by simp [stepM])
theorem step7 (c : Cd) (s : Mc) (a b c' d : Int) (hc1 : c.list.length ≤ 400) (hs : MOK c s) (hx : c.list[s.pc]? = some ⟨7, a, b, c', d⟩) (h : inOK c.vars.length c.arrays.length c.list.length ⟨7, a, b, c', d⟩ = true) :
    DC Tryz.prog 107 [.c (.ptr 0 0),.agg (cdC c)] (stB s) (stepR ⟨7,a,b,c',d⟩ s):=by
  have hmx:=mx_eq
  obtain ⟨h1,h2,h3,h4⟩:=hs
  have hbl:=blk_len h4
  have hb0:=fun h x h0 h4'=>blk0_at h4 h (x:=x) h0 h4'
  have hb1:=fun h x h0 h4'=>blk1_at h4 h (x:=x) h0 h4'
  have hnv:=h4.nv
  have hna:=h4.na
  have hn12:=h4.nv12
  have hn2:=h4.na2
  have hpcx:(s.pc:Int)+1=((s.pc+1:Nat):Int):=by omega
  obtain ⟨vs,ar,l⟩:=c
  obtain ⟨pc,rg,m⟩:=s
  simp only [hdC] at h1 h2 h3 hnv hna hn12 hn2 hx hc1 hbl hb0 hb1
  simp only [inOK,kindsOf,fOK,topOf,Bool.and_eq_true,decide_eq_true_eq] at h
  simp at h
  have hxl:(l.map inX)[pc]? = some (inX ⟨7,a,b,c',d⟩):=by rw [List.getElem?_map,hx];rfl
  have hrr:=fun (i:Int) (h0:0≤i) (h1:i≤13)=>nth_lt (l:=rg) (i:=i) h0 (by omega)
  have hrl:(rg.map I64).length=14:=by rw [List.length_map];exact h2
  have hrg:=fun (i:Int) (h0:0≤i) (h1:i≤13)=>reg_rng h2 h3 (i:=i) h0 h1
  have hvl:(m.vals.map I64).length=m.vals.length:=List.length_map _
  have hvv:=fun (i:Int) (h0:0≤i) (h1:i<m.vals.length)=>nth_lt (l:=m.vals) (i:=i) h0 h1
  have ret:∀ (K n:Nat) (pcv:Int) (cs c1 c2 c4 c5:List C) (hp:Hp),hp 0=some (some [.v (.int .i64 pcv),.msl 1 1 0 14,.msl 2 1 0 m.vals.length,.msl 3 1 0 m.arrays.length])→hp 1=some (some c1)→hp 2=some (some c2)→hp 3=some (some (hdr 4 5 m.arrays.length))→hp 4=some (some c4)→hp 5=some (some c5)→hp K=some (some cs)→6≤K →
      pcv=((stepM ⟨7,a,b,c',d⟩ ⟨pc,rg,m⟩).1.pc:Int)→c1=(stepM ⟨7,a,b,c',d⟩ ⟨pc,rg,m⟩).1.regs.map I64→c2=(stepM ⟨7,a,b,c',d⟩ ⟨pc,rg,m⟩).1.mem.vals.map I64→(stepM ⟨7,a,b,c',d⟩ ⟨pc,rg,m⟩).1.mem.vals.length=m.vals.length→(stepM ⟨7,a,b,c',d⟩ ⟨pc,rg,m⟩).1.mem.arrays.length=m.arrays.length →
      c4=blk0 (stepM ⟨7,a,b,c',d⟩ ⟨pc,rg,m⟩).1.mem.arrays→c5=blk1 (stepM ⟨7,a,b,c',d⟩ ⟨pc,rg,m⟩).1.mem.arrays→cs=trC (stepM ⟨7,a,b,c',d⟩ ⟨pc,rg,m⟩).2→n=(stepM ⟨7,a,b,c',d⟩ ⟨pc,rg,m⟩).2.length→RetOb 6 (stepR ⟨7,a,b,c',d⟩ ⟨pc,rg,m⟩) (.c (.msl K 2 0 n)) hp:=by
    rintro K n pcv cs c1 c2 c4 c5 hp q0 q1 q2 q3 q4 q5 qk hK e0 rfl rfl f1 f2 rfl rfl rfl rfl
    subst e0
    refine RetOb.ofQ (fun j=>if j=6 then some K else some j) [] (.c (.msl 6 2 0 _)) (stB (stepM ⟨7,a,b,c',d⟩ ⟨pc,rg,m⟩).1++[some (trC (stepM ⟨7,a,b,c',d⟩ ⟨pc,rg,m⟩).2)]) ?_ ⟨rfl,rfl⟩ (by simp [stB])
    simp [stB,enumL,hOf,DM,DMs,CM,CMs,HpOK,LowOK,upd,CMs_I,CMs_tr,CMs_hdr,CMs_b0,CMs_b1,f1,f2,q0,q1,q2,q3,q4,q5,qk]
    omega
  generalize hR:stepR ⟨7,a,b,c',d⟩ ⟨pc,rg,m⟩=R at ret ⊢
  clear hR
  unfold stB cdC
  have hv:=hrr b (by omega) (by omega)
  have hw:=hrr c' (by omega) (by omega)
  have hu:=hrr d (by omega) (by omega)
  by_cases hz:nth rg b=0
  · have g1:(nth rg b != 0)=false:=by simp [hz]
    refine dcZ Tryz.func107 ?_
    simp only [go_sem,hxl,inX,hrl,hvl,set_I,hv,hw,hu,hz,g1,bne_self_eq_false]
    iterate 20 ((try (refine drvZ Tryz.func107 ?_;simp only [go_sem,hxl,inX,hrl,hvl,set_I,hv,hw,hu,hz,g1,bne_self_eq_false]));((with_reducible and_intros)<;>try exact sd))
    exact ret _ _ _ _ _ _ _ _ _ rfl rfl rfl rfl rfl rfl rfl (by decide) (by simp [stepM]) (by simp [stepM,hz]) (by simp [stepM]) (by simp [stepM]) (by simp [stepM]) (by simp [stepM]) (by simp [stepM]) (by simp [stepM,trC,Ev.cells]) (by simp [stepM])
  · have g1:(nth rg b != 0)=true:=by simp [hz]
    refine dcZ Tryz.func107 ?_
    simp only [go_sem,hxl,inX,hrl,hvl,set_I,hv,hw,hu,hz,g1]
    iterate 20 ((try (refine drvZ Tryz.func107 ?_;simp only [go_sem,hxl,inX,hrl,hvl,set_I,hv,hw,hu,hz,g1]));((with_reducible and_intros)<;>try exact sd))
    exact ret _ _ _ _ _ _ _ _ _ rfl rfl rfl rfl rfl rfl rfl (by decide) (by simp [stepM]) (by simp [stepM,hz]) (by simp [stepM]) (by simp [stepM]) (by simp [stepM]) (by simp [stepM]) (by simp [stepM]) (by simp [stepM,trC,Ev.cells]) (by simp [stepM])
theorem step9 (c : Cd) (s : Mc) (a b c' d : Int) (hc1 : c.list.length ≤ 400) (hs : MOK c s) (hx : c.list[s.pc]? = some ⟨9, a, b, c', d⟩) (h : inOK c.vars.length c.arrays.length c.list.length ⟨9, a, b, c', d⟩ = true) :
    DC Tryz.prog 107 [.c (.ptr 0 0),.agg (cdC c)] (stB s) (stepR ⟨9,a,b,c',d⟩ s):=by
  have hmx:=mx_eq
  obtain ⟨h1,h2,h3,h4⟩:=hs
  have hbl:=blk_len h4
  have hb0:=fun h x h0 h4'=>blk0_at h4 h (x:=x) h0 h4'
  have hb1:=fun h x h0 h4'=>blk1_at h4 h (x:=x) h0 h4'
  have hnv:=h4.nv
  have hna:=h4.na
  have hn12:=h4.nv12
  have hn2:=h4.na2
  have hpcx:(s.pc:Int)+1=((s.pc+1:Nat):Int):=by omega
  obtain ⟨vs,ar,l⟩:=c
  obtain ⟨pc,rg,m⟩:=s
  simp only [hdC] at h1 h2 h3 hnv hna hn12 hn2 hx hc1 hbl hb0 hb1
  simp only [inOK,kindsOf,fOK,topOf,Bool.and_eq_true,decide_eq_true_eq] at h
  simp at h
  have hxl:(l.map inX)[pc]? = some (inX ⟨9,a,b,c',d⟩):=by rw [List.getElem?_map,hx];rfl
  have hrr:=fun (i:Int) (h0:0≤i) (h1:i≤13)=>nth_lt (l:=rg) (i:=i) h0 (by omega)
  have hrl:(rg.map I64).length=14:=by rw [List.length_map];exact h2
  have hrg:=fun (i:Int) (h0:0≤i) (h1:i≤13)=>reg_rng h2 h3 (i:=i) h0 h1
  have hvl:(m.vals.map I64).length=m.vals.length:=List.length_map _
  have hvv:=fun (i:Int) (h0:0≤i) (h1:i<m.vals.length)=>nth_lt (l:=m.vals) (i:=i) h0 h1
  have ret:∀ (K n:Nat) (pcv:Int) (cs c1 c2 c4 c5:List C) (hp:Hp),hp 0=some (some [.v (.int .i64 pcv),.msl 1 1 0 14,.msl 2 1 0 m.vals.length,.msl 3 1 0 m.arrays.length])→hp 1=some (some c1)→hp 2=some (some c2)→hp 3=some (some (hdr 4 5 m.arrays.length))→hp 4=some (some c4)→hp 5=some (some c5)→hp K=some (some cs)→6≤K →
      pcv=((stepM ⟨9,a,b,c',d⟩ ⟨pc,rg,m⟩).1.pc:Int)→c1=(stepM ⟨9,a,b,c',d⟩ ⟨pc,rg,m⟩).1.regs.map I64→c2=(stepM ⟨9,a,b,c',d⟩ ⟨pc,rg,m⟩).1.mem.vals.map I64→(stepM ⟨9,a,b,c',d⟩ ⟨pc,rg,m⟩).1.mem.vals.length=m.vals.length→(stepM ⟨9,a,b,c',d⟩ ⟨pc,rg,m⟩).1.mem.arrays.length=m.arrays.length →
      c4=blk0 (stepM ⟨9,a,b,c',d⟩ ⟨pc,rg,m⟩).1.mem.arrays→c5=blk1 (stepM ⟨9,a,b,c',d⟩ ⟨pc,rg,m⟩).1.mem.arrays→cs=trC (stepM ⟨9,a,b,c',d⟩ ⟨pc,rg,m⟩).2→n=(stepM ⟨9,a,b,c',d⟩ ⟨pc,rg,m⟩).2.length→RetOb 6 (stepR ⟨9,a,b,c',d⟩ ⟨pc,rg,m⟩) (.c (.msl K 2 0 n)) hp:=by
    rintro K n pcv cs c1 c2 c4 c5 hp q0 q1 q2 q3 q4 q5 qk hK e0 rfl rfl f1 f2 rfl rfl rfl rfl
    subst e0
    refine RetOb.ofQ (fun j=>if j=6 then some K else some j) [] (.c (.msl 6 2 0 _)) (stB (stepM ⟨9,a,b,c',d⟩ ⟨pc,rg,m⟩).1++[some (trC (stepM ⟨9,a,b,c',d⟩ ⟨pc,rg,m⟩).2)]) ?_ ⟨rfl,rfl⟩ (by simp [stB])
    simp [stB,enumL,hOf,DM,DMs,CM,CMs,HpOK,LowOK,upd,CMs_I,CMs_tr,CMs_hdr,CMs_b0,CMs_b1,f1,f2,q0,q1,q2,q3,q4,q5,qk]
    omega
  generalize hR:stepR ⟨9,a,b,c',d⟩ ⟨pc,rg,m⟩=R at ret ⊢
  clear hR
  unfold stB cdC
  have hv:=hrr a (by omega) (by omega)
  have htb:b=((b.toNat:Nat):Int):=by omega
  by_cases hz:nth rg a=0
  · have g1:(nth rg a == 0)=true:=by simp [hz]
    refine dcZ Tryz.func107 ?_
    simp only [go_sem,hxl,inX,hrl,hvl,set_I,hv,hz,g1,beq_self_eq_true]
    iterate 20 ((try (refine drvZ Tryz.func107 ?_;simp only [go_sem,hxl,inX,hrl,hvl,set_I,hv,hz,g1,beq_self_eq_true]));((with_reducible and_intros)<;>try exact sd))
    exact ret _ _ _ _ _ _ _ _ _ rfl rfl rfl rfl rfl rfl rfl (by decide) (by simp [stepM,hz];omega) (by simp [stepM]) (by simp [stepM]) (by simp [stepM]) (by simp [stepM]) (by simp [stepM]) (by simp [stepM]) (by simp [stepM,trC,Ev.cells]) (by simp [stepM])
  · have g1:(nth rg a == 0)=false:=by simp [hz]
    refine dcZ Tryz.func107 ?_
    simp only [go_sem,hxl,inX,hrl,hvl,set_I,hv,hz,g1]
    iterate 20 ((try (refine drvZ Tryz.func107 ?_;simp only [go_sem,hxl,inX,hrl,hvl,set_I,hv,hz,g1]));((with_reducible and_intros)<;>try exact sd))
    exact ret _ _ _ _ _ _ _ _ _ rfl rfl rfl rfl rfl rfl rfl (by decide) (by simp [stepM,hz]) (by simp [stepM]) (by simp [stepM]) (by simp [stepM]) (by simp [stepM]) (by simp [stepM]) (by simp [stepM]) (by simp [stepM,trC,Ev.cells]) (by simp [stepM])
theorem step10 (c : Cd) (s : Mc) (a b c' d : Int) (hc1 : c.list.length ≤ 400) (hs : MOK c s) (hx : c.list[s.pc]? = some ⟨10, a, b, c', d⟩) (h : inOK c.vars.length c.arrays.length c.list.length ⟨10, a, b, c', d⟩ = true) :
    DC Tryz.prog 107 [.c (.ptr 0 0),.agg (cdC c)] (stB s) (stepR ⟨10,a,b,c',d⟩ s):=by
  have hmx:=mx_eq
  obtain ⟨h1,h2,h3,h4⟩:=hs
  have hbl:=blk_len h4
  have hb0:=fun h x h0 h4'=>blk0_at h4 h (x:=x) h0 h4'
  have hb1:=fun h x h0 h4'=>blk1_at h4 h (x:=x) h0 h4'
  have hnv:=h4.nv
  have hna:=h4.na
  have hn12:=h4.nv12
  have hn2:=h4.na2
  have hpcx:(s.pc:Int)+1=((s.pc+1:Nat):Int):=by omega
  obtain ⟨vs,ar,l⟩:=c
  obtain ⟨pc,rg,m⟩:=s
  simp only [hdC] at h1 h2 h3 hnv hna hn12 hn2 hx hc1 hbl hb0 hb1
  simp only [inOK,kindsOf,fOK,topOf,Bool.and_eq_true,decide_eq_true_eq] at h
  simp at h
  have hxl:(l.map inX)[pc]? = some (inX ⟨10,a,b,c',d⟩):=by rw [List.getElem?_map,hx];rfl
  have hrr:=fun (i:Int) (h0:0≤i) (h1:i≤13)=>nth_lt (l:=rg) (i:=i) h0 (by omega)
  have hrl:(rg.map I64).length=14:=by rw [List.length_map];exact h2
  have hrg:=fun (i:Int) (h0:0≤i) (h1:i≤13)=>reg_rng h2 h3 (i:=i) h0 h1
  have hvl:(m.vals.map I64).length=m.vals.length:=List.length_map _
  have hvv:=fun (i:Int) (h0:0≤i) (h1:i<m.vals.length)=>nth_lt (l:=m.vals) (i:=i) h0 h1
  have ret:∀ (K n:Nat) (pcv:Int) (cs c1 c2 c4 c5:List C) (hp:Hp),hp 0=some (some [.v (.int .i64 pcv),.msl 1 1 0 14,.msl 2 1 0 m.vals.length,.msl 3 1 0 m.arrays.length])→hp 1=some (some c1)→hp 2=some (some c2)→hp 3=some (some (hdr 4 5 m.arrays.length))→hp 4=some (some c4)→hp 5=some (some c5)→hp K=some (some cs)→6≤K →
      pcv=((stepM ⟨10,a,b,c',d⟩ ⟨pc,rg,m⟩).1.pc:Int)→c1=(stepM ⟨10,a,b,c',d⟩ ⟨pc,rg,m⟩).1.regs.map I64→c2=(stepM ⟨10,a,b,c',d⟩ ⟨pc,rg,m⟩).1.mem.vals.map I64→(stepM ⟨10,a,b,c',d⟩ ⟨pc,rg,m⟩).1.mem.vals.length=m.vals.length→(stepM ⟨10,a,b,c',d⟩ ⟨pc,rg,m⟩).1.mem.arrays.length=m.arrays.length →
      c4=blk0 (stepM ⟨10,a,b,c',d⟩ ⟨pc,rg,m⟩).1.mem.arrays→c5=blk1 (stepM ⟨10,a,b,c',d⟩ ⟨pc,rg,m⟩).1.mem.arrays→cs=trC (stepM ⟨10,a,b,c',d⟩ ⟨pc,rg,m⟩).2→n=(stepM ⟨10,a,b,c',d⟩ ⟨pc,rg,m⟩).2.length→RetOb 6 (stepR ⟨10,a,b,c',d⟩ ⟨pc,rg,m⟩) (.c (.msl K 2 0 n)) hp:=by
    rintro K n pcv cs c1 c2 c4 c5 hp q0 q1 q2 q3 q4 q5 qk hK e0 rfl rfl f1 f2 rfl rfl rfl rfl
    subst e0
    refine RetOb.ofQ (fun j=>if j=6 then some K else some j) [] (.c (.msl 6 2 0 _)) (stB (stepM ⟨10,a,b,c',d⟩ ⟨pc,rg,m⟩).1++[some (trC (stepM ⟨10,a,b,c',d⟩ ⟨pc,rg,m⟩).2)]) ?_ ⟨rfl,rfl⟩ (by simp [stB])
    simp [stB,enumL,hOf,DM,DMs,CM,CMs,HpOK,LowOK,upd,CMs_I,CMs_tr,CMs_hdr,CMs_b0,CMs_b1,f1,f2,q0,q1,q2,q3,q4,q5,qk]
    omega
  generalize hR:stepR ⟨10,a,b,c',d⟩ ⟨pc,rg,m⟩=R at ret ⊢
  clear hR
  unfold stB cdC
  have hv:=hrr a (by omega) (by omega)
  have hrc:=hrg a (by omega) (by omega)
  have htb:b=((b.toNat:Nat):Int):=by omega
  obtain ⟨y,hy⟩:∃ y,y=(nth rg a+255) % 256:=⟨_,rfl⟩
  have hs2:(rg.set a.toNat y)[a.toNat]? = some y:=List.getElem?_set_self (by omega)
  have hsl:((rg.set a.toNat y).map I64).length=14:=by simp [h2]
  by_cases hz:y=0
  · subst hz
    have hq:(nth rg a+255) % 256=0:=hy.symm
    refine dcZ Tryz.func107 ?_
    simp only [go_sem,hxl,inX,hrl,hvl,set_I,hv,← hy,hs2,hsl,bne_self_eq_false]
    iterate 22 ((try (refine drvZ Tryz.func107 ?_;simp only [go_sem,hxl,inX,hrl,hvl,set_I,hv,← hy,hs2,hsl,bne_self_eq_false]));((with_reducible and_intros)<;>try exact sd))
    exact ret _ _ _ _ _ _ _ _ _ rfl rfl rfl rfl rfl rfl rfl (by decide) (by simp [stepM,hq]) (by simp [stepM,hq]) (by simp [stepM]) (by simp [stepM]) (by simp [stepM]) (by simp [stepM]) (by simp [stepM]) (by simp [stepM,trC,Ev.cells]) (by simp [stepM])
  · have g1:(y != 0)=true:=by simp [hz]
    have hq:(nth rg a+255) % 256 ≠ 0:=by rw [← hy];exact hz
    refine dcZ Tryz.func107 ?_
    simp only [go_sem,hxl,inX,hrl,hvl,set_I,hv,← hy,hs2,hsl,hz,g1]
    iterate 22 ((try (refine drvZ Tryz.func107 ?_;simp only [go_sem,hxl,inX,hrl,hvl,set_I,hv,← hy,hs2,hsl,hz,g1]));((with_reducible and_intros)<;>try exact sd))
    exact ret _ _ _ _ _ _ _ _ _ rfl rfl rfl rfl rfl rfl rfl (by decide) (by simp [stepM,hq];omega) (by simp [stepM,hy]) (by simp [stepM]) (by simp [stepM]) (by simp [stepM]) (by simp [stepM]) (by simp [stepM]) (by simp [stepM,trC,Ev.cells]) (by simp [stepM])
open CtL (In Cd Mc stepM kindsOf topOf fOK inOK endOK codeOK runM atC halt)
theorem stepI (c : Cd) (s : Mc) (x : In) (hc1 : c.list.length ≤ 400) (hs : MOK c s) (hx : c.list[s.pc]? = some x) (h : inOK c.vars.length c.arrays.length c.list.length x = true) :
    DC Tryz.prog 107 [.c (.ptr 0 0),.agg (cdC c)] (stB s) (stepR x s):=by
  obtain ⟨op,a,b,c',d⟩:=x
  have ho:1≤op∧op≤13:=by
    simp only [inOK,Bool.and_eq_true,decide_eq_true_eq] at h
    exact ⟨h.1.1.1.1.1,h.1.1.1.1.2⟩
  have key:op=1∨op=2∨op=3∨op=4∨op=5∨op=6∨op=7∨op=8∨op=9∨op=10∨op=11∨op=12∨op=13:=by omega
  rcases key with rfl | rfl | rfl | rfl | rfl | rfl | rfl | rfl | rfl | rfl | rfl | rfl | rfl
  · exact step1 c s a b c' d hc1 hs hx h
  · exact step2 c s a b c' d hc1 hs hx h
  · exact step3 c s a b c' d hc1 hs hx h
  · exact step4 c s a b c' d hc1 hs hx h
  · exact step5 c s a b c' d hc1 hs hx h
  · exact step6 c s a b c' d hc1 hs hx h
  · exact step7 c s a b c' d hc1 hs hx h
  · exact step8 c s a b c' d hc1 hs hx h
  · exact step9 c s a b c' d hc1 hs hx h
  · exact step10 c s a b c' d hc1 hs hx h
  · exact step11 c s a b c' d hc1 hs hx h
  · exact step12 c s a b c' d hc1 hs hx h
  · exact step13 c s a b c' d hc1 hs hx h
theorem regs_set {l:List Int} (h14:l.length=14) (h:∀ r ∈ l,0≤r∧r≤255) {i:Nat} {x:Int} (hx:0≤x∧x≤255):(l.set i x).length=14∧∀ r ∈ l.set i x,0≤r∧r≤255 :=
  ⟨by simp [h14],fun r hr=>(List.mem_or_eq_of_mem_set hr).elim (h r) fun e=>by rw [e];exact hx⟩
theorem step_ok {c:Cd} {s:Mc} {x:In} (hc:codeOK c=true) (hs:MOK c s) (hx:c.list[s.pc]? = some x):MOK c (stepM x s).1:=by
  have hcl:=code_len hc
  have h:=(by simp only [codeOK,Bool.and_eq_true,List.all_eq_true] at hc;exact hc.1.2 x (List.mem_of_getElem? hx):inOK c.vars.length c.arrays.length c.list.length x=true)
  have hend:s.pc+1=c.list.length→x.op=13∨x.op=8:=fun e=>by
    simp only [codeOK,endOK,Bool.and_eq_true,Bool.or_eq_true,beq_iff_eq] at hc
    have:atC c.list (c.list.length - 1)=x:=by
      rw [show c.list.length - 1=s.pc by omega];simp [atC,List.getD,hx]
    rw [this] at hc
    exact hc.2
  obtain ⟨h1,h2,h3,h4⟩:=hs
  obtain ⟨op,a,b,c',d⟩:=x
  simp only at hend
  have hnv:=h4.nv
  have hna:=h4.na
  simp only [hdC] at hnv hna
  have hrg:=fun (i:Int) (h0:0≤i) (h1:i≤13)=>reg_rng h2 h3 (i:=i) h0 h1
  simp only [inOK,kindsOf,fOK,topOf,Bool.and_eq_true,decide_eq_true_eq] at h
  have key:op=1∨op=2∨op=3∨op=4∨op=5∨op=6∨op=7∨op=8∨op=9∨op=10∨op=11∨op=12∨op=13:=by omega
  rcases key with rfl | rfl | rfl | rfl | rfl | rfl | rfl | rfl | rfl | rfl | rfl | rfl | rfl
  all_goals simp at h hend
  · have:=regs_set h2 h3 (i:=a.toNat) (x:=b) (by omega)
    exact ⟨by simp [stepM];omega,by simpa [stepM] using this.1,by simpa [stepM] using this.2,by simpa [stepM] using h4⟩
  · have hv:=h4.val _ (nth_mem (l:=s.mem.vals) (i:=b) (by omega) (by omega)).2
    have:=regs_set h2 h3 (i:=a.toNat) (x:=nth s.mem.vals b) hv
    exact ⟨by simp [stepM];omega,by simpa [stepM] using this.1,by simpa [stepM] using this.2,by simpa [stepM] using h4⟩
  · exact ⟨by simp [stepM];omega,by simpa [stepM] using h2,by simpa [stepM] using h3,by simpa [stepM] using h4.setV (t:=a) (hrg b (by omega) (by omega))⟩
  · have hr:=hrg c' (by omega) (by omega)
    have ha:=h4.arr _ (arrAt_mem (m:=s.mem) (v:=b) (by omega) (by omega)).2
    have hv:=ha.2 _ (nth_mem (l:=arrAt s.mem b) (i:=nth s.regs c' % 4) (by omega) (by rw [ha.1];omega)).2
    have:=regs_set h2 h3 (i:=a.toNat) (x:=nth (arrAt s.mem b) (nth s.regs c' % 4)) hv
    exact ⟨by simp [stepM];omega,by simpa [stepM] using this.1,by simpa [stepM] using this.2,by simpa [stepM] using h4⟩
  · exact ⟨by simp [stepM];omega,by simpa [stepM] using h2,by simpa [stepM] using h3,by simpa [stepM] using h4.setA (t:=a) (i:=nth s.regs b % 4) ⟨by omega,by omega⟩ (hrg c' (by omega) (by omega))⟩
  · have:=regs_set h2 h3 (i:=a.toNat) (x:=bin b (nth s.regs c') (nth s.regs d)) (bin_range (hrg _ (by omega) (by omega)) (hrg _ (by omega) (by omega)))
    exact ⟨by simp [stepM];omega,by simpa [stepM] using this.1,by simpa [stepM] using this.2,by simpa [stepM] using h4⟩
  · have:=regs_set h2 h3 (i:=a.toNat) (x:=if nth s.regs b ≠ 0 then nth s.regs c' else nth s.regs d) (by split;exact hrg _ (by omega) (by omega);exact hrg _ (by omega) (by omega))
    exact ⟨by simp [stepM];omega,by simpa [stepM] using this.1,by simpa [stepM] using this.2,by simpa [stepM] using h4⟩
  · exact ⟨by simp [stepM];omega,by simpa [stepM] using h2,by simpa [stepM] using h3,by simpa [stepM] using h4⟩
  · exact ⟨by simp only [stepM];simp;split<;>omega,by simpa [stepM] using h2,by simpa [stepM] using h3,by simpa [stepM] using h4⟩
  · have:=regs_set h2 h3 (i:=a.toNat) (x:=(nth s.regs a+255) % 256) (by omega)
    exact ⟨by simp only [stepM];simp;split<;>omega,by simpa [stepM] using this.1,by simpa [stepM] using this.2,by simpa [stepM] using h4⟩
  · exact ⟨by simp [stepM];omega,by simpa [stepM] using h2,by simpa [stepM] using h3,by simpa [stepM] using h4⟩
  · exact ⟨by simp [stepM];omega,by simpa [stepM] using h2,by simpa [stepM] using h3,by simpa [stepM] using h4⟩
  · exact ⟨by simp [stepM];exact h1,by simpa [stepM] using h2,by simpa [stepM] using h3,by simpa [stepM] using h4⟩
theorem step_len (x:In) (s:Mc):(stepM x s).2.length≤2:=by
  unfold stepM
  by_cases h1:x.op=1
  · rw [if_pos h1];simp
  rw [if_neg h1]
  by_cases h2:x.op=2
  · rw [if_pos h2];simp
  rw [if_neg h2]
  by_cases h3:x.op=3
  · rw [if_pos h3];simp
  rw [if_neg h3]
  by_cases h4:x.op=4
  · rw [if_pos h4];simp
  rw [if_neg h4]
  by_cases h5:x.op=5
  · rw [if_pos h5];simp
  rw [if_neg h5]
  by_cases h6:x.op=6
  · rw [if_pos h6];simp
  rw [if_neg h6]
  by_cases h7:x.op=7
  · rw [if_pos h7];simp
  rw [if_neg h7]
  by_cases h8:x.op=8
  · rw [if_pos h8];simp
  rw [if_neg h8]
  by_cases h9:x.op=9
  · rw [if_pos h9];simp
  rw [if_neg h9]
  by_cases h10:x.op=10
  · rw [if_pos h10];simp
  rw [if_neg h10]
  by_cases h11:x.op=11
  · rw [if_pos h11];simp
  rw [if_neg h11]
  by_cases h13:x.op=13
  · rw [if_pos h13];simp
  rw [if_neg h13]
  simp
open CtL (In Cd Mc stepM kindsOf topOf fOK inOK endOK codeOK runM atC halt)
def exQ (o:Option (Mm × List Ev)) (b:Bool) (s:Mc) (T:List Ev):Prop:=match o with | some q=>b=true∧s.mem=q.1∧T=q.2 | none=>b=false
open CtL (In Cd Mc stepM kindsOf topOf fOK inOK endOK codeOK runM atC halt)
theorem drawTwoRuns (bs:List Int) (hb:Fits .u8 bs) (hl:bs.length≤mx):DC Tryz.prog 6 [bytesD bs] [] (trR 0):=by
  have hmx:=mx_eq
  have hop:=l17Open bs hl
  have hb':=fits_take hb 2000
  have hl':(bs.take 2000).length≤2000:=by rw [List.length_take];omega
  generalize hR:trR 0=R
  generalize hbs:bs.take 2000=b2 at *
  unfold bytesD
  unfold bytesD at hop
  refine dcZ Tryz.func6 ?_
  simp only [go_sem]
  ((try (refine drvZ Tryz.func6 ?_;simp only [go_sem]));((with_reducible and_intros)<;>try exact sd))
  refine XK.callG [] hop ok28 (fun i' x h=>by simp at h) (hbT ()) (fun d h' ⟨_,e⟩=>by subst e;simp) ?_
  rintro _ _ ⟨rfl,rfl⟩ _
  iterate 2 ((try (refine drvZ Tryz.func6 ?_;simp only [go_sem,renCs_rdr]));((with_reducible and_intros)<;>try exact sd))
  have hty:=l2Program b2 0 hb' hl' (by omega)
  refine XK.callG [256] hty ok29 (hhp_one (by simp [upd,renCs_rdr])) (hbT ()) (fun d h' ⟨_,_,_,_,_,_,e⟩=>by subst e;simp) ?_
  rintro _ _ ⟨p,rfl,hp,n1,hn1,hn2,rfl⟩ _
  have hln:=prog_len hp.ok
  have hlab:=labs_of hp.ok
  have hme:=l3Memory b2 n1 p hb' hl' (by omega) ⟨hln.1,hln.2.1⟩ hln.2.2
  have hse:=fun n m h1 h2=>secrets b2 n p m hb' hl' h1 h2 hlab.1 hlab.2 0 1 (.inl ⟨rfl,rfl⟩)
  obtain ⟨vs,ar,bd⟩:=p
  iterate 2 ((try (refine drvZ Tryz.func6 ?_;simp only [go_sem,renCs_rdr]));((with_reducible and_intros)<;>try exact sd))
  refine XK.callG [256] hme ok30 (hhp_one (by simp [upd,renCs_rdr])) (hbT ()) (fun d h' ⟨_,_,_,_,_,_,e⟩=>by subst e;simp) ?_
  rintro _ _ ⟨m,rfl,hm,n2,hn3,hn4,rfl⟩ _
  have hse:=hse n2 m (by omega) hm
  obtain ⟨va,arr⟩:=m
  iterate 3 ((try (refine drvZ Tryz.func6 ?_;simp only [go_sem,renCs_rdr,Mm.cells]));((with_reducible and_intros)<;>try exact sd))
  refine XK.callG [256] hse ok31 (hhp_one (by simp [upd,renCs_rdr])) (hbT ()) (fun d h' ⟨_,_,_,_,_,_,_,e⟩=>by subst e;simp) ?_ (fun _=>⟨by kernel_rfl,_,_,⟨⟨va,arr⟩,rfl,hm,.refl _ _ _,n2,by omega,by omega,rfl⟩,by simp⟩)
  rintro _ _ ⟨m2,rfl,hm2,hlo,n3,hn5,hn6,rfl⟩ _
  obtain ⟨va2,arr2⟩:=m2
  iterate 3 ((try (refine drvZ Tryz.func6 ?_;simp only [go_sem,renCs_rdr,Mm.cells]));((with_reducible and_intros)<;>try exact sd))
  refine RetOb.ofQ (fun _=>none) [] (.tup [.agg (Pg.cells ⟨vs,ar,bd⟩),.agg (Mm.cells ⟨va,arr⟩),.agg (Mm.cells ⟨va2,arr2⟩)]) [] ?_ (by rw [← hR];exact ⟨_,_,_,rfl,hp,hm,hm2,hlo,rfl⟩) (by simp)
  simp [enumL,DM,DMs,CM,CMs,HpOK,LowOK,hOf,Pg.cells,Mm.cells,isI]
open CtL (In Cd compP)
theorem compiledI0 (p:Pg) (hv:p.vars.length≤2000000) (ha:p.arrays.length≤2000000) (hok:progOK p=false):DC Tryz.prog 32 [.agg p.cells] [] (fun r h=>r = .tup [.c (.v (.pointer none)),DB false]∧h=[]):=by
  have hmx:=mx_eq
  have hpv:=programValidI p (by omega) (by omega)
  rw [hok] at hpv
  generalize hR:(fun (r:D) (h:List (Option (List C)))=>r = .tup [.c (.v (.pointer none)),DB false]∧h=[])=R
  obtain ⟨vs,ar,bd⟩:=p
  refine dcZ Tryz.func32 ?_
  simp only [go_sem]
  iterate 5 ((try (refine drvZ Tryz.func32 ?_;simp only [go_sem]));((with_reducible and_intros)<;>try exact sd);(try first | refine XK.p hpv ok89 ?_ | refine XK.gp hpv ok89 ?_))
  subst hR
  refine RetOb.ofQ (fun _=>none) [] (.tup [.c (.v (.pointer none)),DB false]) [] ?_ ⟨rfl,rfl⟩ (by simp)
  simp [enumL,DM,DMs,CM,CMs,HpOK,LowOK]
theorem compProgI0 (p:Pg) (hv:p.vars.length≤2000000) (ha:p.arrays.length≤2000000) (hok:progOK p=false):DC Tryz.prog 7 [.agg p.cells] [] (fun r h=>r = .tup [.agg (cdC (compP p).1),DB (compP p).2]∧h=[]):=by
  have hmx:=mx_eq
  have hc:=compiledI0 p hv ha hok
  generalize hR:(fun (r:D) (h:List (Option (List C)))=>r = .tup [.agg (cdC (compP p).1),DB (compP p).2]∧h=[])=R
  rw [show compP p=(⟨[],[],[]⟩,false) from if_neg fun h=>absurd h.1 (by simp [hok])] at hR
  obtain ⟨vs,ar,bd⟩:=p
  refine dcZ Tryz.func7 ?_
  simp only [go_sem]
  iterate 2 ((try (refine drvZ Tryz.func7 ?_;simp only [go_sem]));((with_reducible and_intros)<;>try exact sd))
  refine XK.callG [] hc ok32 (fun i' x h=>by simp at h) (hbT ()) (fun d h' ⟨_,e⟩=>by subst e;simp) ?_
  rintro _ _ ⟨rfl,rfl⟩ _
  iterate 5 ((try (refine drvZ Tryz.func7 ?_;simp only [go_sem]));((with_reducible and_intros)<;>try exact sd))
  exact RetOb.cd0 (by rw [← hR];exact ⟨rfl,rfl⟩)
theorem compProgIA (p:Pg) (hv:p.vars.length≤2000000) (ha:p.arrays.length≤2000000):DC Tryz.prog 7 [.agg p.cells] [] (fun r h=>r = .tup [.agg (cdC (compP p).1),DB (compP p).2]∧h=[]):=by
  cases hok:progOK p with
  | true=>exact compProgI p hv ha hok
  | false=>exact compProgI0 p hv ha hok
theorem compP_cases (p:Pg):(compP p=(⟨[],[],[]⟩,false))∨(progOK p=true∧CtL.lenL 5 p.body+1≤400∧compP p=(⟨p.vars,p.arrays,CtL.compL p⟩,true)):=by
  unfold compP
  split
  · next h=>exact .inr ⟨h.1,h.2,rfl⟩
  · exact .inl rfl
end Go.Proofs.YtbknljofedfpjaaGreat.CtD
namespace Go.Proofs.YtbknljofedfpjaaGreat.CtL
variable [Go.CT.Yn]
open Go Go.CT CtF CtR
end Go.Proofs.YtbknljofedfpjaaGreat.CtL
namespace Go.Proofs.YtbknljofedfpjaaGreat.CtD
open Go Go.CT CtF CtR
variable [Yn]
def SmN (m:Mm):Prop:=m.vals.length≤14∧m.arrays.length≤2∧∀ a ∈ m.arrays,a.length≤4
def Bnt (m m':Mm):Prop:=∀ vs ar:List Int,memOK vs ar m=true→memOK vs ar m'=true→m'=m
theorem Bnt.refl (m:Mm):Bnt m m:=fun _ _ _ _=>rfl
theorem memOK_parts {vs ar:List Int} {m:Mm} (h:memOK vs ar m=true):m.vals.length=vs.length∧m.arrays.length=ar.length∧(∀ x ∈ m.vals,0≤x∧x≤255)∧∀ a ∈ m.arrays,a.length=4:=by
  have h2:=memOK_len h
  refine ⟨h2.1,h2.2.1,?_,h2.2.2⟩
  simp only [memOK,Bool.and_eq_true,vals01] at h
  have:=h.1.2
  simp at this
  exact this
theorem Bnt.long {va:List Int} {arr:List (List Int)} (x:Int):Bnt ⟨va,arr⟩ ⟨va++[x],arr⟩:=fun vs ar h h'=>by
  have h1:=(memOK_parts h).1
  have h2:=(memOK_parts h').1
  simp at h1 h2
  omega
theorem Bnt.bad {x w:Int} {r:List Int} {arr:List (List Int)} (hw:w ∈ ([-1,256,9223372036854775807]:List Int)):Bnt ⟨x :: r,arr⟩ ⟨w :: r,arr⟩:=fun vs ar h h'=>by
  have h2:=(memOK_parts h').2.2.1 w (by simp)
  simp at hw
  omega
theorem Bnt.short {va:List Int} {arr arr':List (List Int)} {a:List Int} (h3:a.length=3):Bnt ⟨va,arr⟩ ⟨va,a :: arr'⟩:=fun vs ar h h'=>by
  have h2:=(memOK_parts h').2.2.2 a (by simp)
  omega
theorem Bnt.none {m:Mm}:Bnt m ⟨[],[]⟩:=fun vs ar h h'=>by
  have h1:=memOK_parts h
  have h2:=memOK_parts h'
  obtain ⟨va,arr⟩:=m
  simp at h1 h2
  have e1:va=[]:=List.length_eq_zero_iff.1 (by omega)
  have e2:arr=[]:=List.length_eq_zero_iff.1 (by omega)
  rw [e1,e2]
def bnR (bs:List Int) (n:Nat) (m0:Mm) (r:D) (h:List (Option (List C))):Prop:=∃ m:Mm,r = .agg m.cells∧SmN m∧Bnt m0 m∧rdL bs n 5 h
theorem l3BendB (bs:List Int) (n:Nat) (m:Mm) (hb:Fits .u8 bs) (hl:bs.length≤2000) (hn:n≤274877906944) (hv:m.vals.length≤13) (ha:m.arrays.length≤2) (h4:∀ a ∈ m.arrays,a.length=4):DC Tryz.prog 49 [.c (.ptr 0 0),.agg m.cells] [some (rdr bs n)] (bnR bs n m):=by
  have hmx:=mx_eq
  have hcp:=l3Copy m (by omega) ha h4
  generalize hR:bnR bs n m=R
  unfold memB at hcp
  obtain ⟨va,arr⟩:=m
  have hv:va.length≤13:=hv
  have ha:arr.length≤2:=ha
  have h4:∀ a ∈ arr,a.length=4:=h4
  have hfin:∀ (k0 nv na:Nat) (n':Nat) (va':List Int) (hp:Hp),va'.length≤14→Bnt ⟨va,arr⟩ ⟨va',arr⟩→n≤n'→n'≤n+5→hp 0=some (some (rdr bs n'))→hp k0=some (some (va'.map I64))→hp 194=some (some (hdr 195 196 arr.length))→hp 195=some (some (blk0 arr))→hp 196=some (some (blk1 arr))→nv=va'.length→na=arr.length →
      (k0 ≠ 194∧k0 ≠ 195∧k0 ≠ 196∧0 ≠ k0)→RetOb 1 R (.agg [.msl k0 1 0 nv,.msl 194 1 0 na]) hp:=fun k0 nv na n' va' hp g1 gb g2 g3 g4 g5 g6 g7 g8 g9 g10 ⟨e1,e2,e3,e4⟩ =>
    RetOb.memK (m := ⟨va', arr⟩) (k2 := 195) (k3 := 196) ha (by rw [← hR]; exact ⟨⟨va', arr⟩, rfl, ⟨g1, ha, fun a h => by have := h4 a h; omega⟩, gb, n', g2, g3, rfl⟩) (rdr_kf bs n') g4 g5 (by rw [g6, hdr_hdA _ _ _ ha h4]) g7 g8 g9 g10
      ⟨e1,e2,e3,by decide,by decide,by decide,e4,by decide,by decide,by decide⟩
  refine dcZ Tryz.func49 ?_
  simp only [go_sem,Mm.cells,rdr]
  ((try (refine drvZ Tryz.func49 ?_;simp only [go_sem,rdr]));((with_reducible and_intros)<;>try exact sd))
  refine XK.callG [] hcp ok88 (fun i' x h=>by simp at h) (hbT ()) (fun d h' ⟨_,e⟩=>by subst e;simp) ?_
  rintro _ _ ⟨rfl,rfl⟩ _
  iterate 3 ((try (refine drvZ Tryz.func49 ?_;simp only [go_sem,renCs_I,renCs_hdr,renCs_b0,renCs_b1,rdr]));((with_reducible and_intros)<;>try exact sd))
  refine XK.callG [0] (pick bs n 60 hb hl (by omega) (by simp only [InK];omega)) ok71 (hhp_one rfl) (hbT ()) (fun d h' ⟨v,_,_,e⟩=>by subst e;simp) ?_
  rintro _ _ ⟨v,rfl,hpv,rfl⟩ _
  have hpv:v=0∨v=1∨v=2∨v=3∨(v ≠ 0∧v ≠ 1∧v ≠ 2∧v ≠ 3):=by omega
  rcases hpv with rfl | rfl | rfl | rfl | ⟨h0,h1,h2,h3⟩
  · iterate 4 ((try (refine drvZ Tryz.func49 ?_;simp only [go_sem,rdr]));((with_reducible and_intros)<;>try exact sd))
    exact hfin 833 _ _ (n+1) (va++[0]) _ (by simp;omega) (Bnt.long _) (by omega) (by omega) rfl (by rw [i_snoc];rfl) rfl rfl rfl (by simp) rfl (by decide)
  · cases va with
    | nil =>
      have hz:((0:Int)<0)=False:=eq_false (by omega)
      iterate 5 ((try (refine drvZ Tryz.func49 ?_;simp only [go_sem,rdr,Int.natCast_zero,hz]));((with_reducible and_intros)<;>try exact sd))
      exact hfin 193 _ _ (n+1) [] _ (by simp) (Bnt.refl _) (by omega) (by omega) rfl rfl rfl rfl rfl rfl rfl (by decide)
    | cons x r =>
      have hz:((0:Int)<(r.length:Int)+1)=True:=eq_true (by omega)
      have hv:r.length+1≤13:=hv
      iterate 5 ((try (refine drvZ Tryz.func49 ?_;simp only [go_sem,rdr,hz]));((with_reducible and_intros)<;>try exact sd))
      refine XK.callG [0,1217] (numO bs (n+1) [-1,256,9223372036854775807] hb hl (by omega) (by decide) (by decide)) ok73 (hhp2 rfl rfl) (hbT ()) (fun d h' ⟨_,_,_,e⟩=>by subst e;simp) ?_ (fun _=>⟨by kernel_rfl,_,_,⟨-1,rfl,by simp,rfl⟩,by simp⟩)
      rintro _ _ ⟨w,rfl,hw,rfl⟩ _
      iterate 5 ((try (refine drvZ Tryz.func49 ?_;simp only [go_sem,rdr,hz]));((with_reducible and_intros)<;>try exact sd))
      exact hfin 193 _ _ (n+2) (w :: r) _ (by simp;omega) (Bnt.bad hw) (by omega) (by omega) rfl rfl rfl rfl rfl rfl rfl (by decide)
  · match arr,ha,h4 with
    | [],ha,h4 =>
      have hz:((0:Int)<0)=False:=eq_false (by omega)
      iterate 6 ((try (refine drvZ Tryz.func49 ?_;simp only [go_sem,rdr,Int.natCast_zero,hz]));((with_reducible and_intros)<;>try exact sd))
      exact hfin 193 _ _ (n+1) va _ (by omega) (Bnt.refl _) (by omega) (by omega) rfl rfl rfl rfl rfl rfl rfl (by decide)
    | a :: rest,ha,h4 =>
      have hz:((0:Int)<(rest.length:Int)+1)=True:=eq_true (by omega)
      have ha4:a.length=4:=h4 a (by simp)
      have hrl:rest.length+1≤2:=ha
      iterate 6 ((try (refine drvZ Tryz.func49 ?_;simp only [go_sem,rdr,hz,hdr]));((with_reducible and_intros)<;>try exact sd))
      have hsp:a.map I64=(a.take 3).map I64++(a.drop 3).map I64:=by rw [← List.map_append,List.take_append_drop]
      refine RetOb.shrink (k:=195) (cs:=(a.take 3).map I64) (ds:=(a.drop 3).map I64) ?_ ?_
      · rw [← hsp];rfl
      have ha3:(a.take 3).length=3:=by rw [List.length_take];omega
      match rest,hrl with
      | [],_ =>
        exact RetOb.memK (m:=⟨va,[a.take 3]⟩) (k0:=193) (k1:=194) (k2:=195) (k3:=196) (rc:=rdr bs ((n+1:Nat):Int)) (by simp) (by rw [← hR];exact ⟨⟨va,[a.take 3]⟩,rfl,⟨by simp only;omega,by simp,by simp;omega⟩,Bnt.short ha3,n+1,by omega,by omega,rfl⟩) (rdr_kf _ _) rfl rfl (by simp [upd,hdA,ha3]) rfl rfl rfl rfl (by decide)
      | [b],_ =>
        have hb4:b.length=4:=h4 b (by simp)
        exact RetOb.memK (m:=⟨va,[a.take 3,b]⟩) (k0:=193) (k1:=194) (k2:=195) (k3:=196) (rc:=rdr bs ((n+1:Nat):Int)) (by simp) (by rw [← hR];exact ⟨⟨va,[a.take 3,b]⟩,rfl,⟨by simp only;omega,by simp,by simp [hb4];omega⟩,Bnt.short ha3,n+1,by omega,by omega,rfl⟩) (rdr_kf _ _) rfl rfl (by simp [upd,hdA,ha3,hb4]) rfl rfl rfl rfl (by decide)
  · iterate 6 ((try (refine drvZ Tryz.func49 ?_;simp only [go_sem,rdr]));((with_reducible and_intros)<;>try exact sd))
    refine RetOb.ofQ (fun j=>if j=0 then some 0 else none) [] (.agg (Mm.cells ⟨[],[]⟩)) [some (rdr bs ((n+1:Nat):Int))] ?_ ?_ (by simp)
    · simp [enumL,hOf,DM,DMs,CM,CMs,HpOK,LowOK,upd,rdr,Mm.cells,isI,kf]
    · rw [← hR];exact ⟨⟨[],[]⟩,rfl,⟨by simp,by simp,by simp⟩,Bnt.none,n+1,by omega,by omega,rfl⟩
  · have e0:(v == 0)=false:=by simp [h0]
    have e1:(v == 1)=false:=by simp [h1]
    have e2:(v == 2)=false:=by simp [h2]
    have e3:(v == 3)=false:=by simp [h3]
    iterate 6 ((try (refine drvZ Tryz.func49 ?_;simp only [go_sem,rdr,h0,h1,h2,h3,e0,e1,e2,e3]));((with_reducible and_intros)<;>try exact sd))
    exact hfin 193 _ _ (n+1) va _ (by omega) (Bnt.refl _) (by omega) (by omega) rfl rfl rfl rfl rfl rfl rfl (by decide)
structure MemG (p : Pg) (m : Mm) : Prop where
  nv:m.vals.length=p.vars.length
  na:m.arrays.length=p.arrays.length
  val:∀ x ∈ m.vals,0≤x∧x≤255
  arr:∀ a ∈ m.arrays,a.length=4∧∀ x ∈ a,0≤x∧x≤255
def mgR (bs:List Int) (n:Nat) (p:Pg) (r:D) (h:List (Option (List C))):Prop:=∃ m:Mm,r = .agg m.cells∧MemG p m∧rdL bs n 30 h
theorem l3MemoryG (bs:List Int) (n:Nat) (p:Pg) (hb:Fits .u8 bs) (hl:bs.length≤2000) (hn:n≤274877906944) (hp:p.vars.length≤13) (hp2:p.arrays.length≤2):DC Tryz.prog 30 [.c (.ptr 0 0),.agg p.cells] [some (rdr bs n)] (mgR bs n p):=by
  have hmx:=mx_eq
  have hval:=fun n h=>l3Value bs n hb hl h
  generalize hR:mgR bs n p=R
  obtain ⟨vs,ar,bd⟩:=p
  have hp:vs.length≤13:=hp
  have hp2:ar.length≤2:=hp2
  refine dcZ Tryz.func30 ?_
  simp only [go_sem,rdr]
  ((try (refine drvZ Tryz.func30 ?_;simp only [go_sem,rdr]));((with_reducible and_intros)<;>try exact sd))
  refine Go.loopQ (fun x : Nat × List Int => [(0, .c (.ptr 0 0)), (3, .c (.ptr 1 0)), (4, .c (.ptr 65 0)), (5, .c (.ptr 66 0)), (6, DI .i64 x.2.length)])
    (fun x=>[(0,some (rdr bs x.1)),(1,some (Pg.cells ⟨vs,ar,bd⟩)),(65,some [.v (.slice none 0 0),.v (.slice none 0 0)]),(66,some [.msl 67 1 0 x.2.length,.v (.slice none 0 0)]),(67,some (x.2.map I64))])
    4096 (fun x=>x.2.length≤vs.length∧n≤x.1∧x.1≤n+x.2.length∧∀ y ∈ x.2,0≤y∧y≤255) (fun x=>vs.length - x.2.length) ?_ (n,[]) (fun j=>if j=66 then some 193 else if j=67 then none else some j) [] _ (by simp) ?_
  · rintro ⟨pos,l⟩ ⟨hi1,hi2,hi3,hi4⟩ again
    simp only at hi1 hi2 hi3 hi4
    rcases Nat.lt_or_ge l.length vs.length with hlt | hge
    · refine drvL Tryz.func30 ?_
      simp only [go_sem,rdr,hlt]
      iterate 3 ((try (refine drvZ Tryz.func30 ?_;simp only [go_sem,rdr]));((with_reducible and_intros)<;>try exact sd))
      refine XK.callG [0] (hval pos (by omega)) ok87 (hhp_one rfl) (hbT ()) (fun d h' ⟨_,_,_,_,_,_,e⟩=>by subst e;simp) ?_ (fun _=>⟨by kernel_rfl,_,_,⟨0,rfl,by omega,pos,by omega,by omega,rfl⟩,by simp⟩)
      rintro _ _ ⟨v,rfl,hv,pos',hp1,hp3,rfl⟩ _
      iterate 4 ((try (refine drvZ Tryz.func30 ?_;simp only [go_sem,rdr]));((with_reducible and_intros)<;>try exact sd))
      refine again (pos',l++[v]) (fun j=>if j=67 then some 4736 else some j) [] _ ⟨by simp;omega,by omega,by simp;omega,rI l v hi4 hv⟩ (by simp;omega) ?_
      simp only [go_sem,TmOK,DM,DMs,CM,CMs,forall_eq,exists_eq_left,Mq,HpOK,LowOK,rdr,i_snoc]
      simp
      exact CMs.kf (kf_app (kf_I _) (by simp [kf]))
    · have hnl:¬ l.length<vs.length:=by omega
      refine drvL Tryz.func30 ?_
      simp only [go_sem,rdr,hnl]
      iterate 3 ((try (refine drvZ Tryz.func30 ?_;simp only [go_sem,rdr]));((with_reducible and_intros)<;>try exact sd))
      refine Go.loopQ (fun x : Nat × List (List Int) => [(0, .c (.ptr 0 0)), (3, .c (.ptr 1 0)), (4, .c (.ptr 65 0)), (5, .c (.ptr 66 0)), (7, DI .i64 x.2.length)])
        (fun x=>[(0,some (rdr bs x.1)),(1,some (Pg.cells ⟨vs,ar,bd⟩)),(65,some [.v (.slice none 0 0),.v (.slice none 0 0)]),(66,some [isI l,.msl 68 1 0 x.2.length]),(68,some (x.2.map isI))])
        8192 (fun x=>x.2.length≤ar.length∧n≤x.1∧x.1≤n+l.length+4 * x.2.length∧∀ a ∈ x.2,a.length=4∧∀ y ∈ a,0≤y∧y≤255) (fun x=>ar.length - x.2.length) ?_ (pos,[]) (fun j=>if j=68 then none else some j) [67] _ (by simp;omega) ?_
      · clear again
        rintro ⟨pos,arrs⟩ ⟨hj1,hj2,hj3,hj4⟩ again
        simp only at hj1 hj2 hj3 hj4
        rcases Nat.lt_or_ge arrs.length ar.length with hlt | hge2
        · refine drvL Tryz.func30 ?_
          simp only [go_sem,rdr,hlt]
          iterate 3 ((try (refine drvZ Tryz.func30 ?_;simp only [go_sem,rdr]));((with_reducible and_intros)<;>try exact sd))
          refine Go.loopQ (fun x : Nat × List Int => [(0, .c (.ptr 0 0)), (3, .c (.ptr 1 0)), (4, .c (.ptr 65 0)), (5, .c (.ptr 66 0)), (7, DI .i64 arrs.length), (8, .c (.msl 69 1 0 x.2.length)), (9, DI .i64 x.2.length)])
            (fun x=>[(0,some (rdr bs x.1)),(1,some (Pg.cells ⟨vs,ar,bd⟩)),(65,some [.v (.slice none 0 0),.v (.slice none 0 0)]),(66,some [isI l,.msl 68 1 0 arrs.length]),(68,some (arrs.map isI)),(69,some (x.2.map I64))])
            16384 (fun x=>x.2.length≤4∧pos≤x.1∧x.1≤pos+x.2.length∧∀ y ∈ x.2,0≤y∧y≤255) (fun x=>4 - x.2.length) ?_ (pos,[]) (fun j=>if j=69 then some 8512 else some j) [] _ (by simp) ?_
          · rintro ⟨ps,a⟩ ⟨hk1,hk2,hk3,hk4⟩ again2
            simp only at hk1 hk2 hk3 hk4
            rcases Nat.lt_or_ge a.length 4 with hlt2 | hge3
            · have h4:((a.length:Int)<4)=True:=eq_true (by omega)
              refine drvL Tryz.func30 ?_
              simp only [go_sem,rdr,h4]
              iterate 3 ((try (refine drvZ Tryz.func30 ?_;simp only [go_sem,rdr]));((with_reducible and_intros)<;>try exact sd))
              refine XK.callG [0] (hval ps (by omega)) ok87 (hhp_one rfl) (hbT ()) (fun d h' ⟨_,_,_,_,_,_,e⟩=>by subst e;simp) ?_
              rintro _ _ ⟨v,rfl,hv,ps',hp1,hp3,rfl⟩ _
              iterate 4 ((try (refine drvZ Tryz.func30 ?_;simp only [go_sem,rdr]));((with_reducible and_intros)<;>try exact sd))
              refine again2 (ps',a++[v]) (fun j=>if j=69 then some 16768 else some j) [] _ ⟨by simp;omega,by omega,by simp;omega,rI a v hk4 hv⟩ (by simp;omega) ?_
              simp only [go_sem,TmOK,DM,DMs,CM,CMs,forall_eq,exists_eq_left,Mq,HpOK,LowOK,rdr,i_snoc]
              simp
              exact ⟨CMs.kf (kf_A _),CMs.kf (kf_app (kf_I _) (by simp [kf]))⟩
            · have h4:((a.length:Int)<4)=False:=eq_false (by omega)
              have ha4:a.length=4:=by omega
              refine drv_sound (n:=3) (rs:=_) Tryz.func30 mo rfl none _ _ ?_
              simp only [go_sem,rdr]
              refine XK.freeze 8 69 1 a.length (a.map fun n=>[I64 n]) ?_ (by rw [flat_I];rfl) rfl (by simp) (by simp) (by simp [kf])
              iterate 6 ((try (refine drvZ Tryz.func30 ?_;simp only [go_sem,rdr,h4]));((with_reducible and_intros)<;>try exact sd))
              refine again (ps,arrs++[a]) (fun j=>if j=68 then some 16768 else some j) [] _ ⟨by simp;omega,by omega,by simp;omega,?_⟩ (by simp;omega) ?_
              · intro b hb2
                rcases List.mem_append.1 hb2 with h3 | h3
                · exact hj4 b h3
                · rw [List.mem_singleton.1 h3];exact ⟨ha4,hk4⟩
              · simp only [go_sem,TmOK,DM,DMs,CM,CMs,forall_eq,exists_eq_left,Mq,HpOK,LowOK,rdr,a_snoc]
                simp
                exact CMs.kf (kf_app (kf_A _) (by simp [kf]))
          · simp only [go_sem,TmOK,DM,DMs,CM,CMs,forall_eq,exists_eq_left,Mq,HpOK,LowOK,rdr]
            simp [CMs]
            exact CMs.kf (kf_A _)
        · have hnl:¬ arrs.length<ar.length:=by omega
          refine drvL Tryz.func30 ?_
          simp only [go_sem,rdr,hnl]
          iterate 3 ((try (refine drvZ Tryz.func30 ?_;simp only [go_sem,rdr]));((with_reducible and_intros)<;>try exact sd))
          refine RetOb.ofQ (fun j=>if j=0 then some 0 else none) [68] (.agg (Mm.cells ⟨l,arrs⟩)) [some (rdr bs pos)] ?_ ?_ (by simp)
          · simp [enumL,hOf,DM,DMs,CM,CMs,HpOK,LowOK,upd,rdr,Mm.cells,isI,hdF,kf]
            exact (flat1 isI arrs).symm
          · rw [← hR];exact ⟨⟨l,arrs⟩,rfl,⟨by simp only;omega,by simp only;omega,hi4,hj4⟩,pos,by omega,by omega,rfl⟩
      · simp only [go_sem,TmOK,DM,DMs,CM,CMs,forall_eq,exists_eq_left,Mq,HpOK,LowOK,rdr]
        simp [CMs,kf,flat_I']
  · simp only [go_sem,TmOK,DM,DMs,CM,CMs,forall_eq,exists_eq_left,Mq,HpOK,LowOK,rdr]
    simp [CMs]
end Go.Proofs.YtbknljofedfpjaaGreat.CtD
