/- Contracts of functions of the program, one behind the other, as plain data: what each call returns and which blocks it leaves. -/
import Derived.Test.YtbknljofedfpjaaGreatYFacts
import Derived.Test.YtbknljofedfpjaaGreatYAi
import Derived.Test.YtbknljofedfpjaaGreatYAk
import Derived.Test.YtbknljofedfpjaaGreatYAm
import Derived.Test.YtbknljofedfpjaaGreatYAn
import Derived.Test.YtbknljofedfpjaaGreatYAr
import Derived.Test.YtbknljofedfpjaaGreatYAs
import Derived.Test.YtbknljofedfpjaaGreatYAt
import Derived.Test.YtbknljofedfpjaaGreatYAv
import Derived.Test.YtbknljofedfpjaaGreatYAo
import Derived.Test.YtbknljofedfpjaaGreatYAl
import Derived.Test.YtbknljofedfpjaaGreatYAq
import Derived.Test.YtbknljofedfpjaaGreatYAu
import Derived.Test.YtbknljofedfpjaaGreatYAp
set_option linter.unusedVariables false
set_option linter.unusedSimpArgs false
set_option linter.unusedSectionVars false
set_option maxHeartbeats 16000000
set_option maxRecDepth 100000
namespace Go.Proofs.YtbknljofedfpjaaGreat.CtD
open Go Go.CT CtF CtR
variable [Yn]
open CtL (In Cd Mc stepM kindsOf topOf fOK inOK endOK codeOK)
theorem hdrL {n:Nat} (h:n≤2):(hdr 4 5 n).length=n:=by
  unfold hdr
  match n,h with
  | 0,_=>rfl
  | 1,_=>rfl
  | 2,_=>rfl
theorem step4 (c : Cd) (s : Mc) (a b c' d : Int) (hc1 : c.list.length ≤ 400) (hs : MOK c s) (hx : c.list[s.pc]? = some ⟨4, a, b, c', d⟩) (h : inOK c.vars.length c.arrays.length c.list.length ⟨4, a, b, c', d⟩ = true) :
    DC Tryz.prog 107 [.c (.ptr 0 0),.agg (cdC c)] (stB s) (stepR ⟨4,a,b,c',d⟩ s):=by
  have hmx:=mx_eq
  obtain ⟨h1,h2,h3,h4⟩:=hs
  have hbl:=blk_len h4
  have hb0:=fun h x h0 h4'=>blk0_at h4 h (x:=x) h0 h4'
  have hb1:=fun h x h0 h4'=>blk1_at h4 h (x:=x) h0 h4'
  have hnv:=h4.nv
  have hna:=h4.na
  have hn12:=h4.nv12
  have hn2:=h4.na2
  have hpcx:(s.pc:Int)+1=((s.pc+1:Nat):Int):=by omega
  obtain ⟨vs,ar,l⟩:=c
  obtain ⟨pc,rg,m⟩:=s
  simp only [hdC] at h1 h2 h3 hnv hna hn12 hn2 hx hc1 hbl hb0 hb1
  simp only [inOK,kindsOf,fOK,topOf,Bool.and_eq_true,decide_eq_true_eq] at h
  simp at h
  have hxl:(l.map inX)[pc]? = some (inX ⟨4,a,b,c',d⟩):=by rw [List.getElem?_map,hx];rfl
  have hrr:=fun (i:Int) (h0:0≤i) (h1:i≤13)=>nth_lt (l:=rg) (i:=i) h0 (by omega)
  have hrl:(rg.map I64).length=14:=by rw [List.length_map];exact h2
  have hrg:=fun (i:Int) (h0:0≤i) (h1:i≤13)=>reg_rng h2 h3 (i:=i) h0 h1
  have hvl:(m.vals.map I64).length=m.vals.length:=List.length_map _
  have hvv:=fun (i:Int) (h0:0≤i) (h1:i<m.vals.length)=>nth_lt (l:=m.vals) (i:=i) h0 h1
  have ret:∀ (K n:Nat) (pcv:Int) (cs c1 c2 c4 c5:List C) (hp:Hp),hp 0=some (some [.v (.int .i64 pcv),.msl 1 1 0 14,.msl 2 1 0 m.vals.length,.msl 3 1 0 m.arrays.length])→hp 1=some (some c1)→hp 2=some (some c2)→hp 3=some (some (hdr 4 5 m.arrays.length))→hp 4=some (some c4)→hp 5=some (some c5)→hp K=some (some cs)→6≤K →
      pcv=((stepM ⟨4,a,b,c',d⟩ ⟨pc,rg,m⟩).1.pc:Int)→c1=(stepM ⟨4,a,b,c',d⟩ ⟨pc,rg,m⟩).1.regs.map I64→c2=(stepM ⟨4,a,b,c',d⟩ ⟨pc,rg,m⟩).1.mem.vals.map I64→(stepM ⟨4,a,b,c',d⟩ ⟨pc,rg,m⟩).1.mem.vals.length=m.vals.length→(stepM ⟨4,a,b,c',d⟩ ⟨pc,rg,m⟩).1.mem.arrays.length=m.arrays.length →
      c4=blk0 (stepM ⟨4,a,b,c',d⟩ ⟨pc,rg,m⟩).1.mem.arrays→c5=blk1 (stepM ⟨4,a,b,c',d⟩ ⟨pc,rg,m⟩).1.mem.arrays→cs=trC (stepM ⟨4,a,b,c',d⟩ ⟨pc,rg,m⟩).2→n=(stepM ⟨4,a,b,c',d⟩ ⟨pc,rg,m⟩).2.length→RetOb 6 (stepR ⟨4,a,b,c',d⟩ ⟨pc,rg,m⟩) (.c (.msl K 2 0 n)) hp:=by
    rintro K n pcv cs c1 c2 c4 c5 hp q0 q1 q2 q3 q4 q5 qk hK e0 rfl rfl f1 f2 rfl rfl rfl rfl
    subst e0
    refine RetOb.ofQ (fun j=>if j=6 then some K else some j) [] (.c (.msl 6 2 0 _)) (stB (stepM ⟨4,a,b,c',d⟩ ⟨pc,rg,m⟩).1++[some (trC (stepM ⟨4,a,b,c',d⟩ ⟨pc,rg,m⟩).2)]) ?_ ⟨rfl,rfl⟩ (by simp [stB])
    simp [stB,enumL,hOf,DM,DMs,CM,CMs,HpOK,LowOK,upd,CMs_I,CMs_tr,CMs_hdr,CMs_b0,CMs_b1,f1,f2,q0,q1,q2,q3,q4,q5,qk]
    omega
  generalize hR:stepR ⟨4,a,b,c',d⟩ ⟨pc,rg,m⟩=R at ret ⊢
  clear hR
  unfold stB cdC
  have hv:=hrr c' (by omega) (by omega)
  have hrc:=hrg c' (by omega) (by omega)
  have had:=CtR.address b (nth rg c') (by omega) (hrg _ (by omega) (by omega))
  have hmod:0≤nth rg c' % 4∧nth rg c' % 4<4:=by omega
  have hhl:=hdrL (n:=m.arrays.length) (by omega)
  have hb01:b=0∨b=1:=by omega
  rcases hb01 with rfl | rfl
  · have hh:=hdr0 (n:=m.arrays.length) (by omega)
    have hbb:=hb0 (by omega) _ hmod.1 hmod.2
    have hl4:=hbl.1 (by omega)
    refine dcZ Tryz.func107 ?_
    simp only [go_sem,hxl,inX,hrl,hvl,set_I,hv,hh,hbb,hl4,hhl]
    iterate 22 ((try (refine drvZ Tryz.func107 ?_;simp only [go_sem,hxl,inX,hrl,hvl,set_I,hv,hh,hbb,hl4,hhl]));((with_reducible and_intros)<;>try exact sd);(try first | refine XK.p had ok105 ?_ | refine XK.gp had ok105 ?_))
    exact ret _ _ _ _ _ _ _ _ _ rfl rfl rfl rfl rfl rfl rfl (by decide) (by simp [stepM]) (by simp [stepM]) (by simp [stepM]) (by simp [stepM]) (by simp [stepM]) (by simp [stepM]) (by simp [stepM]) (by simp [stepM,trC,Ev.cells]) (by simp [stepM])
  · have hh:=hdr1 (n:=m.arrays.length) (by omega)
    have hbb:=hb1 (by omega) _ hmod.1 hmod.2
    have hl4:=hbl.2 (by omega)
    refine dcZ Tryz.func107 ?_
    simp only [go_sem,hxl,inX,hrl,hvl,set_I,hv,hh,hbb,hl4,hhl]
    iterate 22 ((try (refine drvZ Tryz.func107 ?_;simp only [go_sem,hxl,inX,hrl,hvl,set_I,hv,hh,hbb,hl4,hhl]));((with_reducible and_intros)<;>try exact sd);(try first | refine XK.p had ok105 ?_ | refine XK.gp had ok105 ?_))
    exact ret _ _ _ _ _ _ _ _ _ rfl rfl rfl rfl rfl rfl rfl (by decide) (by simp [stepM]) (by simp [stepM]) (by simp [stepM]) (by simp [stepM]) (by simp [stepM]) (by simp [stepM]) (by simp [stepM]) (by simp [stepM,trC,Ev.cells]) (by simp [stepM])
theorem step5 (c : Cd) (s : Mc) (a b c' d : Int) (hc1 : c.list.length ≤ 400) (hs : MOK c s) (hx : c.list[s.pc]? = some ⟨5, a, b, c', d⟩) (h : inOK c.vars.length c.arrays.length c.list.length ⟨5, a, b, c', d⟩ = true) :
    DC Tryz.prog 107 [.c (.ptr 0 0),.agg (cdC c)] (stB s) (stepR ⟨5,a,b,c',d⟩ s):=by
  have hmx:=mx_eq
  obtain ⟨h1,h2,h3,h4⟩:=hs
  have hbl:=blk_len h4
  have hb0:=fun h x h0 h4'=>blk0_at h4 h (x:=x) h0 h4'
  have hb1:=fun h x h0 h4'=>blk1_at h4 h (x:=x) h0 h4'
  have hnv:=h4.nv
  have hna:=h4.na
  have hn12:=h4.nv12
  have hn2:=h4.na2
  have hpcx:(s.pc:Int)+1=((s.pc+1:Nat):Int):=by omega
  obtain ⟨vs,ar,l⟩:=c
  obtain ⟨pc,rg,m⟩:=s
  simp only [hdC] at h1 h2 h3 hnv hna hn12 hn2 hx hc1 hbl hb0 hb1
  simp only [inOK,kindsOf,fOK,topOf,Bool.and_eq_true,decide_eq_true_eq] at h
  simp at h
  have hxl:(l.map inX)[pc]? = some (inX ⟨5,a,b,c',d⟩):=by rw [List.getElem?_map,hx];rfl
  have hrr:=fun (i:Int) (h0:0≤i) (h1:i≤13)=>nth_lt (l:=rg) (i:=i) h0 (by omega)
  have hrl:(rg.map I64).length=14:=by rw [List.length_map];exact h2
  have hrg:=fun (i:Int) (h0:0≤i) (h1:i≤13)=>reg_rng h2 h3 (i:=i) h0 h1
  have hvl:(m.vals.map I64).length=m.vals.length:=List.length_map _
  have hvv:=fun (i:Int) (h0:0≤i) (h1:i<m.vals.length)=>nth_lt (l:=m.vals) (i:=i) h0 h1
  have ret:∀ (K n:Nat) (pcv:Int) (cs c1 c2 c4 c5:List C) (hp:Hp),hp 0=some (some [.v (.int .i64 pcv),.msl 1 1 0 14,.msl 2 1 0 m.vals.length,.msl 3 1 0 m.arrays.length])→hp 1=some (some c1)→hp 2=some (some c2)→hp 3=some (some (hdr 4 5 m.arrays.length))→hp 4=some (some c4)→hp 5=some (some c5)→hp K=some (some cs)→6≤K →
      pcv=((stepM ⟨5,a,b,c',d⟩ ⟨pc,rg,m⟩).1.pc:Int)→c1=(stepM ⟨5,a,b,c',d⟩ ⟨pc,rg,m⟩).1.regs.map I64→c2=(stepM ⟨5,a,b,c',d⟩ ⟨pc,rg,m⟩).1.mem.vals.map I64→(stepM ⟨5,a,b,c',d⟩ ⟨pc,rg,m⟩).1.mem.vals.length=m.vals.length→(stepM ⟨5,a,b,c',d⟩ ⟨pc,rg,m⟩).1.mem.arrays.length=m.arrays.length →
      c4=blk0 (stepM ⟨5,a,b,c',d⟩ ⟨pc,rg,m⟩).1.mem.arrays→c5=blk1 (stepM ⟨5,a,b,c',d⟩ ⟨pc,rg,m⟩).1.mem.arrays→cs=trC (stepM ⟨5,a,b,c',d⟩ ⟨pc,rg,m⟩).2→n=(stepM ⟨5,a,b,c',d⟩ ⟨pc,rg,m⟩).2.length→RetOb 6 (stepR ⟨5,a,b,c',d⟩ ⟨pc,rg,m⟩) (.c (.msl K 2 0 n)) hp:=by
    rintro K n pcv cs c1 c2 c4 c5 hp q0 q1 q2 q3 q4 q5 qk hK e0 rfl rfl f1 f2 rfl rfl rfl rfl
    subst e0
    refine RetOb.ofQ (fun j=>if j=6 then some K else some j) [] (.c (.msl 6 2 0 _)) (stB (stepM ⟨5,a,b,c',d⟩ ⟨pc,rg,m⟩).1++[some (trC (stepM ⟨5,a,b,c',d⟩ ⟨pc,rg,m⟩).2)]) ?_ ⟨rfl,rfl⟩ (by simp [stB])
    simp [stB,enumL,hOf,DM,DMs,CM,CMs,HpOK,LowOK,upd,CMs_I,CMs_tr,CMs_hdr,CMs_b0,CMs_b1,f1,f2,q0,q1,q2,q3,q4,q5,qk]
    omega
  generalize hR:stepR ⟨5,a,b,c',d⟩ ⟨pc,rg,m⟩=R at ret ⊢
  clear hR
  unfold stB cdC
  have hv:=hrr b (by omega) (by omega)
  have hw:=hrr c' (by omega) (by omega)
  have hrc:=hrg b (by omega) (by omega)
  have had:=CtR.address a (nth rg b) (by omega) (hrg _ (by omega) (by omega))
  have hmod:0≤nth rg b % 4∧nth rg b % 4<4:=by omega
  have hhl:=hdrL (n:=m.arrays.length) (by omega)
  have hb01:a=0∨a=1:=by omega
  rcases hb01 with rfl | rfl
  · have hh:=hdr0 (n:=m.arrays.length) (by omega)
    have hbb:=hb0 (by omega) _ hmod.1 hmod.2
    have hl4:=hbl.1 (by omega)
    refine dcZ Tryz.func107 ?_
    simp only [go_sem,hxl,inX,hrl,hvl,set_I,hv,hw,hh,hbb,hl4,hhl]
    iterate 22 ((try (refine drvZ Tryz.func107 ?_;simp only [go_sem,hxl,inX,hrl,hvl,set_I,hv,hw,hh,hbb,hl4,hhl]));((with_reducible and_intros)<;>try exact sd);(try first | refine XK.p had ok105 ?_ | refine XK.gp had ok105 ?_))
    exact ret _ _ _ _ _ _ _ _ _ rfl rfl rfl rfl rfl rfl rfl (by decide) (by simp [stepM]) (by simp [stepM]) (by simp [stepM,setA]) (by simp [stepM,setA]) (by simp [stepM,setA]) (by simp only [stepM];simp;rw [blk0_set0 _ _ _ (by omega)]) (by simp only [stepM];simp;rw [blk1_set0]) (by simp [stepM,trC,Ev.cells]) (by simp [stepM])
  · have hh:=hdr1 (n:=m.arrays.length) (by omega)
    have hbb:=hb1 (by omega) _ hmod.1 hmod.2
    have hl4:=hbl.2 (by omega)
    refine dcZ Tryz.func107 ?_
    simp only [go_sem,hxl,inX,hrl,hvl,set_I,hv,hw,hh,hbb,hl4,hhl]
    iterate 22 ((try (refine drvZ Tryz.func107 ?_;simp only [go_sem,hxl,inX,hrl,hvl,set_I,hv,hw,hh,hbb,hl4,hhl]));((with_reducible and_intros)<;>try exact sd);(try first | refine XK.p had ok105 ?_ | refine XK.gp had ok105 ?_))
    exact ret _ _ _ _ _ _ _ _ _ rfl rfl rfl rfl rfl rfl rfl (by decide) (by simp [stepM]) (by simp [stepM]) (by simp [stepM,setA]) (by simp [stepM,setA]) (by simp [stepM,setA]) (by simp only [stepM];simp;rw [blk0_set1]) (by simp only [stepM];simp;rw [blk1_set1 _ _ _ (by omega)]) (by simp [stepM,trC,Ev.cells]) (by simp [stepM])
theorem step7 (c : Cd) (s : Mc) (a b c' d : Int) (hc1 : c.list.length ≤ 400) (hs : MOK c s) (hx : c.list[s.pc]? = some ⟨7, a, b, c', d⟩) (h : inOK c.vars.length c.arrays.length c.list.length ⟨7, a, b, c', d⟩ = true) :
    DC Tryz.prog 107 [.c (.ptr 0 0),.agg (cdC c)] (stB s) (stepR ⟨7,a,b,c',d⟩ s):=by
  have hmx:=mx_eq
  obtain ⟨h1,h2,h3,h4⟩:=hs
  have hbl:=blk_len h4
  have hb0:=fun h x h0 h4'=>blk0_at h4 h (x:=x) h0 h4'
  have hb1:=fun h x h0 h4'=>blk1_at h4 h (x:=x) h0 h4'
  have hnv:=h4.nv
  have hna:=h4.na
  have hn12:=h4.nv12
  have hn2:=h4.na2
  have hpcx:(s.pc:Int)+1=((s.pc+1:Nat):Int):=by omega
  obtain ⟨vs,ar,l⟩:=c
  obtain ⟨pc,rg,m⟩:=s
  simp only [hdC] at h1 h2 h3 hnv hna hn12 hn2 hx hc1 hbl hb0 hb1
  simp only [inOK,kindsOf,fOK,topOf,Bool.and_eq_true,decide_eq_true_eq] at h
  simp at h
  have hxl:(l.map inX)[pc]? = some (inX ⟨7,a,b,c',d⟩):=by rw [List.getElem?_map,hx];rfl
  have hrr:=fun (i:Int) (h0:0≤i) (h1:i≤13)=>nth_lt (l:=rg) (i:=i) h0 (by omega)
  have hrl:(rg.map I64).length=14:=by rw [List.length_map];exact h2
  have hrg:=fun (i:Int) (h0:0≤i) (h1:i≤13)=>reg_rng h2 h3 (i:=i) h0 h1
  have hvl:(m.vals.map I64).length=m.vals.length:=List.length_map _
  have hvv:=fun (i:Int) (h0:0≤i) (h1:i<m.vals.length)=>nth_lt (l:=m.vals) (i:=i) h0 h1
  have ret:∀ (K n:Nat) (pcv:Int) (cs c1 c2 c4 c5:List C) (hp:Hp),hp 0=some (some [.v (.int .i64 pcv),.msl 1 1 0 14,.msl 2 1 0 m.vals.length,.msl 3 1 0 m.arrays.length])→hp 1=some (some c1)→hp 2=some (some c2)→hp 3=some (some (hdr 4 5 m.arrays.length))→hp 4=some (some c4)→hp 5=some (some c5)→hp K=some (some cs)→6≤K →
      pcv=((stepM ⟨7,a,b,c',d⟩ ⟨pc,rg,m⟩).1.pc:Int)→c1=(stepM ⟨7,a,b,c',d⟩ ⟨pc,rg,m⟩).1.regs.map I64→c2=(stepM ⟨7,a,b,c',d⟩ ⟨pc,rg,m⟩).1.mem.vals.map I64→(stepM ⟨7,a,b,c',d⟩ ⟨pc,rg,m⟩).1.mem.vals.length=m.vals.length→(stepM ⟨7,a,b,c',d⟩ ⟨pc,rg,m⟩).1.mem.arrays.length=m.arrays.length →
      c4=blk0 (stepM ⟨7,a,b,c',d⟩ ⟨pc,rg,m⟩).1.mem.arrays→c5=blk1 (stepM ⟨7,a,b,c',d⟩ ⟨pc,rg,m⟩).1.mem.arrays→cs=trC (stepM ⟨7,a,b,c',d⟩ ⟨pc,rg,m⟩).2→n=(stepM ⟨7,a,b,c',d⟩ ⟨pc,rg,m⟩).2.length→RetOb 6 (stepR ⟨7,a,b,c',d⟩ ⟨pc,rg,m⟩) (.c (.msl K 2 0 n)) hp:=by
    rintro K n pcv cs c1 c2 c4 c5 hp q0 q1 q2 q3 q4 q5 qk hK e0 rfl rfl f1 f2 rfl rfl rfl rfl
    subst e0
    refine RetOb.ofQ (fun j=>if j=6 then some K else some j) [] (.c (.msl 6 2 0 _)) (stB (stepM ⟨7,a,b,c',d⟩ ⟨pc,rg,m⟩).1++[some (trC (stepM ⟨7,a,b,c',d⟩ ⟨pc,rg,m⟩).2)]) ?_ ⟨rfl,rfl⟩ (by simp [stB])
    simp [stB,enumL,hOf,DM,DMs,CM,CMs,HpOK,LowOK,upd,CMs_I,CMs_tr,CMs_hdr,CMs_b0,CMs_b1,f1,f2,q0,q1,q2,q3,q4,q5,qk]
    omega
  generalize hR:stepR ⟨7,a,b,c',d⟩ ⟨pc,rg,m⟩=R at ret ⊢
  clear hR
  unfold stB cdC
  have hv:=hrr b (by omega) (by omega)
  have hw:=hrr c' (by omega) (by omega)
  have hu:=hrr d (by omega) (by omega)
  by_cases hz:nth rg b=0
  · have g1:(nth rg b != 0)=false:=by simp [hz]
    refine dcZ Tryz.func107 ?_
    simp only [go_sem,hxl,inX,hrl,hvl,set_I,hv,hw,hu,hz,g1,bne_self_eq_false]
    iterate 20 ((try (refine drvZ Tryz.func107 ?_;simp only [go_sem,hxl,inX,hrl,hvl,set_I,hv,hw,hu,hz,g1,bne_self_eq_false]));((with_reducible and_intros)<;>try exact sd))
    exact ret _ _ _ _ _ _ _ _ _ rfl rfl rfl rfl rfl rfl rfl (by decide) (by simp [stepM]) (by simp [stepM,hz]) (by simp [stepM]) (by simp [stepM]) (by simp [stepM]) (by simp [stepM]) (by simp [stepM]) (by simp [stepM,trC,Ev.cells]) (by simp [stepM])
  · have g1:(nth rg b != 0)=true:=by simp [hz]
    refine dcZ Tryz.func107 ?_
    simp only [go_sem,hxl,inX,hrl,hvl,set_I,hv,hw,hu,hz,g1]
    iterate 20 ((try (refine drvZ Tryz.func107 ?_;simp only [go_sem,hxl,inX,hrl,hvl,set_I,hv,hw,hu,hz,g1]));((with_reducible and_intros)<;>try exact sd))
    exact ret _ _ _ _ _ _ _ _ _ rfl rfl rfl rfl rfl rfl rfl (by decide) (by simp [stepM]) (by simp [stepM,hz]) (by simp [stepM]) (by simp [stepM]) (by simp [stepM]) (by simp [stepM]) (by simp [stepM]) (by simp [stepM,trC,Ev.cells]) (by simp [stepM])
theorem step9 (c : Cd) (s : Mc) (a b c' d : Int) (hc1 : c.list.length ≤ 400) (hs : MOK c s) (hx : c.list[s.pc]? = some ⟨9, a, b, c', d⟩) (h : inOK c.vars.length c.arrays.length c.list.length ⟨9, a, b, c', d⟩ = true) :
    DC Tryz.prog 107 [.c (.ptr 0 0),.agg (cdC c)] (stB s) (stepR ⟨9,a,b,c',d⟩ s):=by
  have hmx:=mx_eq
  obtain ⟨h1,h2,h3,h4⟩:=hs
  have hbl:=blk_len h4
  have hb0:=fun h x h0 h4'=>blk0_at h4 h (x:=x) h0 h4'
  have hb1:=fun h x h0 h4'=>blk1_at h4 h (x:=x) h0 h4'
  have hnv:=h4.nv
  have hna:=h4.na
  have hn12:=h4.nv12
  have hn2:=h4.na2
  have hpcx:(s.pc:Int)+1=((s.pc+1:Nat):Int):=by omega
  obtain ⟨vs,ar,l⟩:=c
  obtain ⟨pc,rg,m⟩:=s
  simp only [hdC] at h1 h2 h3 hnv hna hn12 hn2 hx hc1 hbl hb0 hb1
  simp only [inOK,kindsOf,fOK,topOf,Bool.and_eq_true,decide_eq_true_eq] at h
  simp at h
  have hxl:(l.map inX)[pc]? = some (inX ⟨9,a,b,c',d⟩):=by rw [List.getElem?_map,hx];rfl
  have hrr:=fun (i:Int) (h0:0≤i) (h1:i≤13)=>nth_lt (l:=rg) (i:=i) h0 (by omega)
  have hrl:(rg.map I64).length=14:=by rw [List.length_map];exact h2
  have hrg:=fun (i:Int) (h0:0≤i) (h1:i≤13)=>reg_rng h2 h3 (i:=i) h0 h1
  have hvl:(m.vals.map I64).length=m.vals.length:=List.length_map _
  have hvv:=fun (i:Int) (h0:0≤i) (h1:i<m.vals.length)=>nth_lt (l:=m.vals) (i:=i) h0 h1
  have ret:∀ (K n:Nat) (pcv:Int) (cs c1 c2 c4 c5:List C) (hp:Hp),hp 0=some (some [.v (.int .i64 pcv),.msl 1 1 0 14,.msl 2 1 0 m.vals.length,.msl 3 1 0 m.arrays.length])→hp 1=some (some c1)→hp 2=some (some c2)→hp 3=some (some (hdr 4 5 m.arrays.length))→hp 4=some (some c4)→hp 5=some (some c5)→hp K=some (some cs)→6≤K →
      pcv=((stepM ⟨9,a,b,c',d⟩ ⟨pc,rg,m⟩).1.pc:Int)→c1=(stepM ⟨9,a,b,c',d⟩ ⟨pc,rg,m⟩).1.regs.map I64→c2=(stepM ⟨9,a,b,c',d⟩ ⟨pc,rg,m⟩).1.mem.vals.map I64→(stepM ⟨9,a,b,c',d⟩ ⟨pc,rg,m⟩).1.mem.vals.length=m.vals.length→(stepM ⟨9,a,b,c',d⟩ ⟨pc,rg,m⟩).1.mem.arrays.length=m.arrays.length →
      c4=blk0 (stepM ⟨9,a,b,c',d⟩ ⟨pc,rg,m⟩).1.mem.arrays→c5=blk1 (stepM ⟨9,a,b,c',d⟩ ⟨pc,rg,m⟩).1.mem.arrays→cs=trC (stepM ⟨9,a,b,c',d⟩ ⟨pc,rg,m⟩).2→n=(stepM ⟨9,a,b,c',d⟩ ⟨pc,rg,m⟩).2.length→RetOb 6 (stepR ⟨9,a,b,c',d⟩ ⟨pc,rg,m⟩) (.c (.msl K 2 0 n)) hp:=by
    rintro K n pcv cs c1 c2 c4 c5 hp q0 q1 q2 q3 q4 q5 qk hK e0 rfl rfl f1 f2 rfl rfl rfl rfl
    subst e0
    refine RetOb.ofQ (fun j=>if j=6 then some K else some j) [] (.c (.msl 6 2 0 _)) (stB (stepM ⟨9,a,b,c',d⟩ ⟨pc,rg,m⟩).1++[some (trC (stepM ⟨9,a,b,c',d⟩ ⟨pc,rg,m⟩).2)]) ?_ ⟨rfl,rfl⟩ (by simp [stB])
    simp [stB,enumL,hOf,DM,DMs,CM,CMs,HpOK,LowOK,upd,CMs_I,CMs_tr,CMs_hdr,CMs_b0,CMs_b1,f1,f2,q0,q1,q2,q3,q4,q5,qk]
    omega
  generalize hR:stepR ⟨9,a,b,c',d⟩ ⟨pc,rg,m⟩=R at ret ⊢
  clear hR
  unfold stB cdC
  have hv:=hrr a (by omega) (by omega)
  have htb:b=((b.toNat:Nat):Int):=by omega
  by_cases hz:nth rg a=0
  · have g1:(nth rg a == 0)=true:=by simp [hz]
    refine dcZ Tryz.func107 ?_
    simp only [go_sem,hxl,inX,hrl,hvl,set_I,hv,hz,g1,beq_self_eq_true]
    iterate 20 ((try (refine drvZ Tryz.func107 ?_;simp only [go_sem,hxl,inX,hrl,hvl,set_I,hv,hz,g1,beq_self_eq_true]));((with_reducible and_intros)<;>try exact sd))
    exact ret _ _ _ _ _ _ _ _ _ rfl rfl rfl rfl rfl rfl rfl (by decide) (by simp [stepM,hz];omega) (by simp [stepM]) (by simp [stepM]) (by simp [stepM]) (by simp [stepM]) (by simp [stepM]) (by simp [stepM]) (by simp [stepM,trC,Ev.cells]) (by simp [stepM])
  · have g1:(nth rg a == 0)=false:=by simp [hz]
    refine dcZ Tryz.func107 ?_
    simp only [go_sem,hxl,inX,hrl,hvl,set_I,hv,hz,g1]
    iterate 20 ((try (refine drvZ Tryz.func107 ?_;simp only [go_sem,hxl,inX,hrl,hvl,set_I,hv,hz,g1]));((with_reducible and_intros)<;>try exact sd))
    exact ret _ _ _ _ _ _ _ _ _ rfl rfl rfl rfl rfl rfl rfl (by decide) (by simp [stepM,hz]) (by simp [stepM]) (by simp [stepM]) (by simp [stepM]) (by simp [stepM]) (by simp [stepM]) (by simp [stepM]) (by simp [stepM,trC,Ev.cells]) (by simp [stepM])
theorem step10 (c : Cd) (s : Mc) (a b c' d : Int) (hc1 : c.list.length ≤ 400) (hs : MOK c s) (hx : c.list[s.pc]? = some ⟨10, a, b, c', d⟩) (h : inOK c.vars.length c.arrays.length c.list.length ⟨10, a, b, c', d⟩ = true) :
    DC Tryz.prog 107 [.c (.ptr 0 0),.agg (cdC c)] (stB s) (stepR ⟨10,a,b,c',d⟩ s):=by
  have hmx:=mx_eq
  obtain ⟨h1,h2,h3,h4⟩:=hs
  have hbl:=blk_len h4
  have hb0:=fun h x h0 h4'=>blk0_at h4 h (x:=x) h0 h4'
  have hb1:=fun h x h0 h4'=>blk1_at h4 h (x:=x) h0 h4'
  have hnv:=h4.nv
  have hna:=h4.na
  have hn12:=h4.nv12
  have hn2:=h4.na2
  have hpcx:(s.pc:Int)+1=((s.pc+1:Nat):Int):=by omega
  obtain ⟨vs,ar,l⟩:=c
  obtain ⟨pc,rg,m⟩:=s
  simp only [hdC] at h1 h2 h3 hnv hna hn12 hn2 hx hc1 hbl hb0 hb1
  simp only [inOK,kindsOf,fOK,topOf,Bool.and_eq_true,decide_eq_true_eq] at h
  simp at h
  have hxl:(l.map inX)[pc]? = some (inX ⟨10,a,b,c',d⟩):=by rw [List.getElem?_map,hx];rfl
  have hrr:=fun (i:Int) (h0:0≤i) (h1:i≤13)=>nth_lt (l:=rg) (i:=i) h0 (by omega)
  have hrl:(rg.map I64).length=14:=by rw [List.length_map];exact h2
  have hrg:=fun (i:Int) (h0:0≤i) (h1:i≤13)=>reg_rng h2 h3 (i:=i) h0 h1
  have hvl:(m.vals.map I64).length=m.vals.length:=List.length_map _
  have hvv:=fun (i:Int) (h0:0≤i) (h1:i<m.vals.length)=>nth_lt (l:=m.vals) (i:=i) h0 h1
  have ret:∀ (K n:Nat) (pcv:Int) (cs c1 c2 c4 c5:List C) (hp:Hp),hp 0=some (some [.v (.int .i64 pcv),.msl 1 1 0 14,.msl 2 1 0 m.vals.length,.msl 3 1 0 m.arrays.length])→hp 1=some (some c1)→hp 2=some (some c2)→hp 3=some (some (hdr 4 5 m.arrays.length))→hp 4=some (some c4)→hp 5=some (some c5)→hp K=some (some cs)→6≤K →
      pcv=((stepM ⟨10,a,b,c',d⟩ ⟨pc,rg,m⟩).1.pc:Int)→c1=(stepM ⟨10,a,b,c',d⟩ ⟨pc,rg,m⟩).1.regs.map I64→c2=(stepM ⟨10,a,b,c',d⟩ ⟨pc,rg,m⟩).1.mem.vals.map I64→(stepM ⟨10,a,b,c',d⟩ ⟨pc,rg,m⟩).1.mem.vals.length=m.vals.length→(stepM ⟨10,a,b,c',d⟩ ⟨pc,rg,m⟩).1.mem.arrays.length=m.arrays.length →
      c4=blk0 (stepM ⟨10,a,b,c',d⟩ ⟨pc,rg,m⟩).1.mem.arrays→c5=blk1 (stepM ⟨10,a,b,c',d⟩ ⟨pc,rg,m⟩).1.mem.arrays→cs=trC (stepM ⟨10,a,b,c',d⟩ ⟨pc,rg,m⟩).2→n=(stepM ⟨10,a,b,c',d⟩ ⟨pc,rg,m⟩).2.length→RetOb 6 (stepR ⟨10,a,b,c',d⟩ ⟨pc,rg,m⟩) (.c (.msl K 2 0 n)) hp:=by
    rintro K n pcv cs c1 c2 c4 c5 hp q0 q1 q2 q3 q4 q5 qk hK e0 rfl rfl f1 f2 rfl rfl rfl rfl
    subst e0
    refine RetOb.ofQ (fun j=>if j=6 then some K else some j) [] (.c (.msl 6 2 0 _)) (stB (stepM ⟨10,a,b,c',d⟩ ⟨pc,rg,m⟩).1++[some (trC (stepM ⟨10,a,b,c',d⟩ ⟨pc,rg,m⟩).2)]) ?_ ⟨rfl,rfl⟩ (by simp [stB])
    simp [stB,enumL,hOf,DM,DMs,CM,CMs,HpOK,LowOK,upd,CMs_I,CMs_tr,CMs_hdr,CMs_b0,CMs_b1,f1,f2,q0,q1,q2,q3,q4,q5,qk]
    omega
  generalize hR:stepR ⟨10,a,b,c',d⟩ ⟨pc,rg,m⟩=R at ret ⊢
  clear hR
  unfold stB cdC
  have hv:=hrr a (by omega) (by omega)
  have hrc:=hrg a (by omega) (by omega)
  have htb:b=((b.toNat:Nat):Int):=by omega
  obtain ⟨y,hy⟩:∃ y,y=(nth rg a+255) % 256:=⟨_,rfl⟩
  have hs2:(rg.set a.toNat y)[a.toNat]? = some y:=List.getElem?_set_self (by omega)
  have hsl:((rg.set a.toNat y).map I64).length=14:=by simp [h2]
  by_cases hz:y=0
  · subst hz
    have hq:(nth rg a+255) % 256=0:=hy.symm
    refine dcZ Tryz.func107 ?_
    simp only [go_sem,hxl,inX,hrl,hvl,set_I,hv,← hy,hs2,hsl,bne_self_eq_false]
    iterate 22 ((try (refine drvZ Tryz.func107 ?_;simp only [go_sem,hxl,inX,hrl,hvl,set_I,hv,← hy,hs2,hsl,bne_self_eq_false]));((with_reducible and_intros)<;>try exact sd))
    exact ret _ _ _ _ _ _ _ _ _ rfl rfl rfl rfl rfl rfl rfl (by decide) (by simp [stepM,hq]) (by simp [stepM,hq]) (by simp [stepM]) (by simp [stepM]) (by simp [stepM]) (by simp [stepM]) (by simp [stepM]) (by simp [stepM,trC,Ev.cells]) (by simp [stepM])
  · have g1:(y != 0)=true:=by simp [hz]
    have hq:(nth rg a+255) % 256 ≠ 0:=by rw [← hy];exact hz
    refine dcZ Tryz.func107 ?_
    simp only [go_sem,hxl,inX,hrl,hvl,set_I,hv,← hy,hs2,hsl,hz,g1]
    iterate 22 ((try (refine drvZ Tryz.func107 ?_;simp only [go_sem,hxl,inX,hrl,hvl,set_I,hv,← hy,hs2,hsl,hz,g1]));((with_reducible and_intros)<;>try exact sd))
    exact ret _ _ _ _ _ _ _ _ _ rfl rfl rfl rfl rfl rfl rfl (by decide) (by simp [stepM,hq];omega) (by simp [stepM,hy]) (by simp [stepM]) (by simp [stepM]) (by simp [stepM]) (by simp [stepM]) (by simp [stepM]) (by simp [stepM,trC,Ev.cells]) (by simp [stepM])
open CtL (In Cd Mc stepM kindsOf topOf fOK inOK endOK codeOK runM atC halt)
theorem stepI (c : Cd) (s : Mc) (x : In) (hc1 : c.list.length ≤ 400) (hs : MOK c s) (hx : c.list[s.pc]? = some x) (h : inOK c.vars.length c.arrays.length c.list.length x = true) :
    DC Tryz.prog 107 [.c (.ptr 0 0),.agg (cdC c)] (stB s) (stepR x s):=by
  obtain ⟨op,a,b,c',d⟩:=x
  have ho:1≤op∧op≤13:=by
    simp only [inOK,Bool.and_eq_true,decide_eq_true_eq] at h
    exact ⟨h.1.1.1.1.1,h.1.1.1.1.2⟩
  have key:op=1∨op=2∨op=3∨op=4∨op=5∨op=6∨op=7∨op=8∨op=9∨op=10∨op=11∨op=12∨op=13:=by omega
  rcases key with rfl | rfl | rfl | rfl | rfl | rfl | rfl | rfl | rfl | rfl | rfl | rfl | rfl
  · exact step1 c s a b c' d hc1 hs hx h
  · exact step2 c s a b c' d hc1 hs hx h
  · exact step3 c s a b c' d hc1 hs hx h
  · exact step4 c s a b c' d hc1 hs hx h
  · exact step5 c s a b c' d hc1 hs hx h
  · exact step6 c s a b c' d hc1 hs hx h
  · exact step7 c s a b c' d hc1 hs hx h
  · exact step8 c s a b c' d hc1 hs hx h
  · exact step9 c s a b c' d hc1 hs hx h
  · exact step10 c s a b c' d hc1 hs hx h
  · exact step11 c s a b c' d hc1 hs hx h
  · exact step12 c s a b c' d hc1 hs hx h
  · exact step13 c s a b c' d hc1 hs hx h
theorem regs_set {l:List Int} (h14:l.length=14) (h:∀ r ∈ l,0≤r∧r≤255) {i:Nat} {x:Int} (hx:0≤x∧x≤255):(l.set i x).length=14∧∀ r ∈ l.set i x,0≤r∧r≤255 :=
  ⟨by simp [h14],fun r hr=>(List.mem_or_eq_of_mem_set hr).elim (h r) fun e=>by rw [e];exact hx⟩
theorem step_ok {c:Cd} {s:Mc} {x:In} (hc:codeOK c=true) (hs:MOK c s) (hx:c.list[s.pc]? = some x):MOK c (stepM x s).1:=by
  have hcl:=code_len hc
  have h:=(by simp only [codeOK,Bool.and_eq_true,List.all_eq_true] at hc;exact hc.1.2 x (List.mem_of_getElem? hx):inOK c.vars.length c.arrays.length c.list.length x=true)
  have hend:s.pc+1=c.list.length→x.op=13∨x.op=8:=fun e=>by
    simp only [codeOK,endOK,Bool.and_eq_true,Bool.or_eq_true,beq_iff_eq] at hc
    have:atC c.list (c.list.length - 1)=x:=by
      rw [show c.list.length - 1=s.pc by omega];simp [atC,List.getD,hx]
    rw [this] at hc
    exact hc.2
  obtain ⟨h1,h2,h3,h4⟩:=hs
  obtain ⟨op,a,b,c',d⟩:=x
  simp only at hend
  have hnv:=h4.nv
  have hna:=h4.na
  simp only [hdC] at hnv hna
  have hrg:=fun (i:Int) (h0:0≤i) (h1:i≤13)=>reg_rng h2 h3 (i:=i) h0 h1
  simp only [inOK,kindsOf,fOK,topOf,Bool.and_eq_true,decide_eq_true_eq] at h
  have key:op=1∨op=2∨op=3∨op=4∨op=5∨op=6∨op=7∨op=8∨op=9∨op=10∨op=11∨op=12∨op=13:=by omega
  rcases key with rfl | rfl | rfl | rfl | rfl | rfl | rfl | rfl | rfl | rfl | rfl | rfl | rfl
  all_goals simp at h hend
  · have:=regs_set h2 h3 (i:=a.toNat) (x:=b) (by omega)
    exact ⟨by simp [stepM];omega,by simpa [stepM] using this.1,by simpa [stepM] using this.2,by simpa [stepM] using h4⟩
  · have hv:=h4.val _ (nth_mem (l:=s.mem.vals) (i:=b) (by omega) (by omega)).2
    have:=regs_set h2 h3 (i:=a.toNat) (x:=nth s.mem.vals b) hv
    exact ⟨by simp [stepM];omega,by simpa [stepM] using this.1,by simpa [stepM] using this.2,by simpa [stepM] using h4⟩
  · exact ⟨by simp [stepM];omega,by simpa [stepM] using h2,by simpa [stepM] using h3,by simpa [stepM] using h4.setV (t:=a) (hrg b (by omega) (by omega))⟩
  · have hr:=hrg c' (by omega) (by omega)
    have ha:=h4.arr _ (arrAt_mem (m:=s.mem) (v:=b) (by omega) (by omega)).2
    have hv:=ha.2 _ (nth_mem (l:=arrAt s.mem b) (i:=nth s.regs c' % 4) (by omega) (by rw [ha.1];omega)).2
    have:=regs_set h2 h3 (i:=a.toNat) (x:=nth (arrAt s.mem b) (nth s.regs c' % 4)) hv
    exact ⟨by simp [stepM];omega,by simpa [stepM] using this.1,by simpa [stepM] using this.2,by simpa [stepM] using h4⟩
  · exact ⟨by simp [stepM];omega,by simpa [stepM] using h2,by simpa [stepM] using h3,by simpa [stepM] using h4.setA (t:=a) (i:=nth s.regs b % 4) ⟨by omega,by omega⟩ (hrg c' (by omega) (by omega))⟩
  · have:=regs_set h2 h3 (i:=a.toNat) (x:=bin b (nth s.regs c') (nth s.regs d)) (bin_range (hrg _ (by omega) (by omega)) (hrg _ (by omega) (by omega)))
    exact ⟨by simp [stepM];omega,by simpa [stepM] using this.1,by simpa [stepM] using this.2,by simpa [stepM] using h4⟩
  · have:=regs_set h2 h3 (i:=a.toNat) (x:=if nth s.regs b ≠ 0 then nth s.regs c' else nth s.regs d) (by split;exact hrg _ (by omega) (by omega);exact hrg _ (by omega) (by omega))
    exact ⟨by simp [stepM];omega,by simpa [stepM] using this.1,by simpa [stepM] using this.2,by simpa [stepM] using h4⟩
  · exact ⟨by simp [stepM];omega,by simpa [stepM] using h2,by simpa [stepM] using h3,by simpa [stepM] using h4⟩
  · exact ⟨by simp only [stepM];simp;split<;>omega,by simpa [stepM] using h2,by simpa [stepM] using h3,by simpa [stepM] using h4⟩
  · have:=regs_set h2 h3 (i:=a.toNat) (x:=(nth s.regs a+255) % 256) (by omega)
    exact ⟨by simp only [stepM];simp;split<;>omega,by simpa [stepM] using this.1,by simpa [stepM] using this.2,by simpa [stepM] using h4⟩
  · exact ⟨by simp [stepM];omega,by simpa [stepM] using h2,by simpa [stepM] using h3,by simpa [stepM] using h4⟩
  · exact ⟨by simp [stepM];omega,by simpa [stepM] using h2,by simpa [stepM] using h3,by simpa [stepM] using h4⟩
  · exact ⟨by simp [stepM];exact h1,by simpa [stepM] using h2,by simpa [stepM] using h3,by simpa [stepM] using h4⟩
theorem step_len (x:In) (s:Mc):(stepM x s).2.length≤2:=by
  unfold stepM
  by_cases h1:x.op=1
  · rw [if_pos h1];simp
  rw [if_neg h1]
  by_cases h2:x.op=2
  · rw [if_pos h2];simp
  rw [if_neg h2]
  by_cases h3:x.op=3
  · rw [if_pos h3];simp
  rw [if_neg h3]
  by_cases h4:x.op=4
  · rw [if_pos h4];simp
  rw [if_neg h4]
  by_cases h5:x.op=5
  · rw [if_pos h5];simp
  rw [if_neg h5]
  by_cases h6:x.op=6
  · rw [if_pos h6];simp
  rw [if_neg h6]
  by_cases h7:x.op=7
  · rw [if_pos h7];simp
  rw [if_neg h7]
  by_cases h8:x.op=8
  · rw [if_pos h8];simp
  rw [if_neg h8]
  by_cases h9:x.op=9
  · rw [if_pos h9];simp
  rw [if_neg h9]
  by_cases h10:x.op=10
  · rw [if_pos h10];simp
  rw [if_neg h10]
  by_cases h11:x.op=11
  · rw [if_pos h11];simp
  rw [if_neg h11]
  by_cases h13:x.op=13
  · rw [if_pos h13];simp
  rw [if_neg h13]
  simp
theorem ranFn (pc : Int) (T E : List Ev) (hT : T.length ≤ 100000) (hE : E.length ≤ 100) : DC Tryz.prog 117 [DI .i64 pc, .c (.msl 2 2 0 E.length), .c (.ptr 0 0)] [some [.msl 1 2 0 T.length], some (trC T), some (trC E)]
    (fun r h=>r = .tup []∧h=[some [.msl 3 2 0 (T++E).length],none,some (trC E),some (trC (T++E))]):=by
  have hmx:=mx_eq
  have h1:=trC_len T
  have h2:=trC_len E
  have h3:(trC E).take (E.length * 2)=trC E:=by rw [← h2,List.take_length]
  refine dcZ Tryz.func117 ?_
  simp only [go_sem,h1,h2,h3]
  iterate 3 ((try (refine drvZ Tryz.func117 ?_;simp only [go_sem,h1,h2,h3]));((with_reducible and_intros)<;>try exact sd))
  refine RetOb.ofQ (fun j=>if j=3 then some 131 else some j) [] (.tup []) [some [.msl 3 2 0 (T++E).length],none,some (trC E),some (trC (T++E))] ?_ ⟨rfl,rfl⟩ (by simp)
  simp [enumL,hOf,DM,DMs,CM,CMs,HpOK,LowOK,upd,hpL,CMs_tr,trC_app]
  exact CMs.kf (kf_app (trC_kf T) (trC_kf E))
open CtL (In Cd Mc stepM kindsOf topOf fOK inOK endOK codeOK runM atC halt)
def exQ (o:Option (Mm × List Ev)) (b:Bool) (s:Mc) (T:List Ev):Prop:=match o with | some q=>b=true∧s.mem=q.1∧T=q.2 | none=>b=false
def exR (c:Cd) (s0:Mc) (r:D) (h:List (Option (List C))):Prop :=
  ∃ (b:Bool) (s':Mc) (T':List Ev),r=DB b∧h=stB s'++[some [.msl 8 2 0 T'.length],none,some (trC T')]∧MOK c s'∧T'.length≤40000∧exQ (runM c.list 20000 s0) b s' T'
theorem executeI (c:Cd) (hc:codeOK c=true) (s0:Mc) (hs0:MOK c s0):DC Tryz.prog 56 [.agg (cdC c),.c (.ptr 0 0),.c (.clo 117 [.ptr 6 0])] (stB s0++[some [.msl 7 2 0 0],some []]) (exR c s0):=by
  have hmx:=mx_eq
  have hcl:=code_len hc
  have ret:∀ (b:Bool) (s':Mc) (T':List Ev) (K n:Nat) (cs c0 c1 c2 c3 c4 c5:List C) (hp:Hp),hp 0=some (some c0)→hp 1=some (some c1)→hp 2=some (some c2)→hp 3=some (some c3)→hp 4=some (some c4)→hp 5=some (some c5)→hp 6=some (some [.msl K 2 0 n])→hp 7 ≠ none→hp K=some (some cs)→8≤K →
      c0=[I64 s'.pc,.msl 1 1 0 14,.msl 2 1 0 s'.mem.vals.length,.msl 3 1 0 s'.mem.arrays.length]→c1=s'.regs.map I64→c2=s'.mem.vals.map I64→c3=hdr 4 5 s'.mem.arrays.length→c4=blk0 s'.mem.arrays→c5=blk1 s'.mem.arrays→cs=trC T'→n=T'.length→MOK c s'→T'.length≤40000→exQ (runM c.list 20000 s0) b s' T'→RetOb 8 (exR c s0) (DB b) hp:=by
    rintro b s' T' K n cs c0 c1 c2 c3 c4 c5 hp q0 q1 q2 q3 q4 q5 q6 q7 qk hK rfl rfl rfl rfl rfl rfl rfl rfl hm hT hq
    refine RetOb.ofQ (fun j=>if j=8 then some K else some j) [] (DB b) (stB s'++[some [.msl 8 2 0 T'.length],none,some (trC T')]) ?_ ⟨b,s',T',rfl,rfl,hm,hT,hq⟩ (by simp [stB])
    simp [stB,enumL,hOf,DM,DMs,CM,CMs,HpOK,LowOK,upd,CMs_I,CMs_tr,CMs_hdr,CMs_b0,CMs_b1,q0,q1,q2,q3,q4,q5,q6,q7,qk]
    omega
  generalize hR:exR c s0=R at ret ⊢
  clear hR
  have hstep:=fun s x hs hx h=>stepI c s x (by omega) hs hx h
  obtain ⟨vs,ar,l⟩:=c
  simp only at hcl ret
  unfold stB cdC
  refine dcZ Tryz.func56 ?_
  simp only [go_sem]
  iterate 2 ((try (refine drvZ Tryz.func56 ?_;simp only [go_sem]));((with_reducible and_intros)<;>try exact sd))
  refine Go.loopQ (fun x : Nat × Mc × List Ev => [(1, .c (.ptr 0 0)), (2, .c (.clo 117 [.ptr 6 0])), (3, .c (.ptr 8 0)), (8, DI .i64 x.1)])
    (fun x=>[(0,some [I64 x.2.1.pc,.msl 1 1 0 14,.msl 2 1 0 x.2.1.mem.vals.length,.msl 3 1 0 x.2.1.mem.arrays.length]),(1,some (x.2.1.regs.map I64)),(2,some (x.2.1.mem.vals.map I64)),(3,some (hdr 4 5 x.2.1.mem.arrays.length)),(4,some (blk0 x.2.1.mem.arrays)),(5,some (blk1 x.2.1.mem.arrays)),(6,some [.msl 20 2 0 x.2.2.length]),(7,none),(8,some [isI vs,isI ar,.isl 5 (l.map inX)]),(20,some (trC x.2.2))])
    8192 (fun x=>x.1≤20000∧MOK ⟨vs,ar,l⟩ x.2.1∧x.2.2.length≤2 * x.1∧runM l 20000 s0=(runM l (20000 - x.1) x.2.1).map fun q=>(q.1,x.2.2++q.2)) (fun x=>20000 - x.1) ?_ (0,s0,[]) (fun j=>if j=20 then some 7 else some j) [] _ ⟨by simp,hs0,by simp,by simp⟩ ?_
  · rintro ⟨i,s,T⟩ ⟨hi,hs,hT,hrun⟩ again
    simp only at hi hs hT hrun again ⊢
    rcases Nat.lt_or_ge i 20000 with hlt | hge
    · obtain ⟨x,hx⟩:∃ x,l[s.pc]? = some x:=⟨l[s.pc]'hs.pc,by simp⟩
      have hxi:inOK vs.length ar.length l.length x=true:=by
        have hc':=hc
        simp only [codeOK,Bool.and_eq_true,List.all_eq_true] at hc'
        exact hc'.1.2 x (List.mem_of_getElem? hx)
      have hst:=hstep s x hs hx hxi
      have hso:=step_ok hc hs hx
      have hel:=step_len x s
      have hat:atC l s.pc=x:=by simp [atC,List.getD,hx]
      have hxl:(l.map inX)[s.pc]? = some (inX x):=by rw [List.getElem?_map,hx];rfl
      have hlt':(i:Int)<20000:=by omega
      have hpl:s.pc<l.length:=hs.pc
      have hrn:runM l (20000 - i) s=if x.op=13 then some ((stepM x s).1.mem,(stepM x s).2) else (runM l (20000 - (i+1)) (stepM x s).1).map fun q=>(q.1,(stepM x s).2++q.2):=by
        rw [show 20000 - i=(20000 - (i+1))+1 by omega,CtL.runM,hat]
      unfold stepR at hst
      generalize stepM x s=y at *
      obtain ⟨s2,E⟩:=y
      simp only at hst hso hel hrn
      have hrf:=ranFn s.pc T E (by omega) (by omega)
      unfold stB cdC at hst
      obtain ⟨op,xa,xb,xc,xd⟩:=x
      simp only at hrn
      refine drvL Tryz.func56 ?_
      simp only [go_sem,hlt']
      iterate 3 ((try (refine drvZ Tryz.func56 ?_;simp only [go_sem,hlt']));((with_reducible and_intros)<;>try exact sd))
      refine XK.callG [0,1,2,3,4,5] hst ok107 (hhpG (by simp [HH,upd,hOf,hpL,renCs_I,renCs_hdr,renCs_b0,renCs_b1,renCs,renC,rk0])) (hbT ()) (fun d h' ⟨_,e⟩=>by subst e;simp [stB]) ?_
      rintro _ _ ⟨rfl,rfl⟩ _
      ((try (refine drvZ Tryz.func56 ?_;simp only [go_sem,stB,renCs_I,renCs_hdr,renCs_b0,renCs_b1,renCs_tr]));((with_reducible and_intros)<;>try exact sd))
      refine XK.callG [6,20,8832] hrf ok117 (hhpG (by simp [HH,upd,hOf,hpL,appUp,upsFrom,rkey,renCs_tr,renCs,renC,rk0])) (hbT ()) (fun d h' ⟨_,e⟩=>by subst e;simp) ?_
      rintro _ _ ⟨rfl,rfl⟩ _
      have hgx:(l.map inX)[s.pc]? = some [I64 op,I64 xa,I64 xb,I64 xc,I64 xd]:=hxl
      by_cases h13:op=13
      · subst h13
        iterate 3 ((try (refine drvZ Tryz.func56 ?_;simp only [go_sem,hgx,hpl,renCs_tr,List.length_map]));((with_reducible and_intros)<;>try exact sd))
        rw [if_pos rfl] at hrn
        refine ret true s2 (T++E) _ _ _ _ _ _ _ _ _ _ rfl rfl rfl rfl rfl rfl rfl (by simp [upd,hOf,appUp,upsFrom,rkey]) rfl (by decide) rfl rfl rfl rfl rfl rfl rfl rfl hso (by rw [List.length_append];omega) ?_
        rw [hrun,hrn]
        exact ⟨rfl,rfl,rfl⟩
      · have g13:(op == 13)=false:=by simp [h13]
        iterate 3 ((try (refine drvZ Tryz.func56 ?_;simp only [go_sem,hgx,hpl,renCs_tr,List.length_map,g13,h13]));((with_reducible and_intros)<;>try exact sd))
        rw [if_neg h13] at hrn
        refine again (i+1,s2,T++E) (fun j=>if j=20 then some 8896 else some j) [] _ ⟨hlt,hso,by rw [List.length_append];omega,?_⟩ (by simp only;omega) ?_
        · rw [hrun,hrn,Option.map_map]
          congr 1
          funext q
          simp
        · simp only [go_sem,TmOK,DM,DMs,CM,CMs,forall_eq,exists_eq_left,Mq,HpOK,LowOK]
          simp [upd,hOf,hpL,CMs_I,CMs_tr,CMs_hdr,CMs_b0,CMs_b1,CM]
    · obtain rfl:i=20000:=by omega
      have hz:(((20000:Nat):Int)<20000)=False:=eq_false (by decide)
      refine drvL Tryz.func56 ?_
      simp only [go_sem,hz]
      iterate 3 ((try (refine drvZ Tryz.func56 ?_;simp only [go_sem,hz]));((with_reducible and_intros)<;>try exact sd))
      refine ret false s T _ _ _ _ _ _ _ _ _ _ rfl rfl rfl rfl rfl rfl rfl (by simp [upd,hOf]) rfl (by decide) rfl rfl rfl rfl rfl rfl rfl rfl hs (by omega) ?_
      rw [hrun,Nat.sub_self,CtL.runM]
      exact rfl
  · simp only [go_sem,TmOK,DM,DMs,CM,CMs,forall_eq,exists_eq_left,Mq,HpOK,LowOK]
    simp [upd,hOf,hpL,CMs_I,CMs_tr,CMs_hdr,CMs_b0,CMs_b1,CM,trC,CMs]
open CtL (In Cd Mc stepM kindsOf topOf fOK inOK endOK codeOK runM atC halt runC)
def ranR (c:Cd) (m:Mm) (r:D) (h:List (Option (List C))):Prop :=
  (∃ (s':Mc) (T':List Ev),r = .tup [.c (.ptr 0 0),.c (.msl 6 2 0 T'.length),DB true]∧h=stB s'++[some (trC T')]∧MOK c s'∧T'.length≤40000∧runC c m=(s'.mem,T',true)) ∨
  (r = .tup [.c (.v (.pointer none)),.c (.v (.slice none 0 0)),DB false]∧h=[]∧runC c m=(⟨[],[]⟩,[],false))
theorem runC_memF {c:Cd} {m:Mm} (h:memOK c.vars c.arrays m=false):runC c m=(⟨[],[]⟩,[],false):=by
  simp [runC,h]
theorem ranI (c:Cd) (m:Mm) (hc:codeOK c=true):DC Tryz.prog 68 [.agg (cdC c),.agg m.cells] [] (ranR c m):=by
  have hmx:=mx_eq
  have hcl:=code_len hc
  have hst:=startI c m hc
  cases hm:memOK c.vars c.arrays m with
  | true =>
    have hml:=memOK_len hm
    rw [show stmR c m=fun r h=>r = .tup [.agg [I64 0,.msl 0 1 0 14,.msl 1 1 0 m.vals.length,.msl 2 1 0 m.arrays.length],DB true]∧h=mcB 0 (List.replicate 14 0) m by funext r h;simp [stmR,hm]] at hst
    have hmf:MemFits (hdC c) m:=by
      have g:=hm
      simp only [memOK,arrOK,vals01,Bool.and_eq_true,decide_eq_true_eq,List.all_eq_true] at g
      obtain ⟨⟨⟨g1,g2⟩,g3⟩,g4⟩:=g
      exact ⟨by simp only [hdC];omega,by simp only [hdC];omega,by simp only [hdC];omega,by simp only [hdC];omega,g3,fun a ha=>⟨by have:=(g4 a ha).1;omega,(g4 a ha).2⟩⟩
    have hM:MOK c ⟨0,List.replicate 14 0,m⟩:=⟨by simp;omega,by simp,by simp,hmf⟩
    have hex:=executeI c hc _ hM
    have hrf:runC c m=match runM c.list 20000 ⟨0,List.replicate 14 0,m⟩ with | some q=>(q.1,q.2,true) | none=>(⟨[],[]⟩,[],false):=by unfold runC;rw [hc,hm];rfl
    generalize hZ:List.replicate 14 (0:Int)=Z at *
    generalize hR:ranR c m=R
    obtain ⟨vs,ar,l⟩:=c
    obtain ⟨va,arr⟩:=m
    unfold stB at hex
    simp only [cdC,ints] at hst hex ⊢
    refine dcZ Tryz.func68 ?_
    simp only [go_sem,Mm.cells]
    iterate 3 ((try (refine drvZ Tryz.func68 ?_;simp only [go_sem,Mm.cells]));((with_reducible and_intros)<;>try exact sd))
    refine XK.callG [] hst ok55 (fun i' x h=>by simp at h) (hbT ()) (fun d h' ⟨_,e⟩=>by subst e;simp) ?_
    rintro _ _ ⟨rfl,rfl⟩ _
    iterate 4 ((try (refine drvZ Tryz.func68 ?_;simp only [go_sem,Mm.cells,renCs_I,renCs_hdr,renCs_b0,renCs_b1]));((with_reducible and_intros)<;>try exact sd))
    refine XK.subQ (r := fun j => if j = 0 then some 704 else if j = 1 then some 448 else if j = 2 then some 449 else if j = 3 then some 450 else if j = 4 then some 451 else if j = 5 then some 452 else if j = 6 then some 1024 else none) (fz := [])
      (tl:=[(7,.c (.ptr 0 0)),(9,.c (.ptr 6 0)),(18,.agg [isI vs,isI ar,.isl 5 (l.map inX)]),(19,.c (.clo 117 [.ptr 6 0]))])
      (hl:=[(0,some [I64 0,.msl 1 1 0 14,.msl 2 1 0 va.length,.msl 3 1 0 arr.length]),(1,some (Z.map I64)),(2,some (va.map I64)),(3,some (hdr 4 5 arr.length)),(4,some (blk0 arr)),(5,some (blk1 arr)),(6,some [.msl 7 2 0 0]),(7,some [])]) ?_ ?_
    · simp [Mq,TmOK,DM,DMs,CM,CMs,HpOK,LowOK,hOf,upd,CMs_I,CMs_hdr,CMs_b0,CMs_b1,isI,kf,inX]
    refine XK.callG [0,1,2,3,4,5,6,7] hex ok56 (hhpG (by simp [HH,upd,hOf,hpL,renCs_I,renCs_hdr,renCs_b0,renCs_b1,renCs,renC,rk0])) (hbT ()) (fun d h' ⟨_,_,_,_,e,_⟩=>by subst e;simp [stB]) ?_
    rintro _ _ ⟨b,s',T',rfl,rfl,hMs,hT,hq⟩ _
    have hrf:(b=true∧runC ⟨vs,ar,l⟩ ⟨va,arr⟩=(s'.mem,T',true))∨(b=false∧runC ⟨vs,ar,l⟩ ⟨va,arr⟩=(⟨[],[]⟩,[],false)):=by
      rw [hrf]
      unfold exQ at hq
      revert hq
      show (match runM l 20000 ⟨0,Z,⟨va,arr⟩⟩ with | some q=>b=true∧s'.mem=q.1∧T'=q.2 | none=>b=false)→(b=true∧(match runM l 20000 ⟨0,Z,⟨va,arr⟩⟩ with | some q=>(q.1,q.2,true) | none=>(⟨[],[]⟩,[],false))=(s'.mem,T',true))∨(b=false∧(match runM l 20000 ⟨0,Z,⟨va,arr⟩⟩ with | some q=>(q.1,q.2,true) | none=>(⟨[],[]⟩,[],false))=(⟨[],[]⟩,[],false))
      generalize runM l 20000 ⟨0,Z,⟨va,arr⟩⟩=o
      cases o with
      | none=>exact fun h => .inr ⟨h,rfl⟩
      | some q=>exact fun ⟨q1,q2,q3⟩ => .inl ⟨q1,by rw [q2,q3]⟩
    cases b with
    | true =>
      replace hrf:=hrf.elim And.right fun h=>absurd h.1 (by simp)
      iterate 3 ((try (refine drvZ Tryz.func68 ?_;simp only [go_sem,stB,renCs_I,renCs_hdr,renCs_b0,renCs_b1,renCs_tr]));((with_reducible and_intros)<;>try exact sd))
      refine RetOb.ofQ (fun j=>if j=6 then some 1216 else if j<6 then some j else none) [] (.tup [.c (.ptr 0 0),.c (.msl 6 2 0 T'.length),DB true]) (stB s'++[some (trC T')]) ?_ (by rw [← hR];exact .inl ⟨s',T',rfl,rfl,hMs,hT,hrf⟩) (by simp [stB])
      simp [stB,enumL,hOf,DM,DMs,CM,CMs,HpOK,LowOK,upd,CMs_I,CMs_tr,CMs_hdr,CMs_b0,CMs_b1]
    | false =>
      replace hrf:=hrf.elim (fun h=>absurd h.1 (by simp)) And.right
      iterate 3 ((try (refine drvZ Tryz.func68 ?_;simp only [go_sem,stB,renCs_I,renCs_hdr,renCs_b0,renCs_b1,renCs_tr]));((with_reducible and_intros)<;>try exact sd))
      refine RetOb.ofQ (fun _=>none) [] (.tup [.c (.v (.pointer none)),.c (.v (.slice none 0 0)),DB false]) [] ?_ (by rw [← hR];exact .inr ⟨rfl,rfl,hrf⟩) (by simp)
      simp [enumL,DM,DMs,CM,CMs,HpOK,LowOK]
  | false =>
    rw [show stmR c m=fun r h=>r = .tup [.agg [I64 0,.v (.slice none 0 0),.v (.slice none 0 0),.v (.slice none 0 0)],DB false]∧h=[] by funext r h;simp [stmR,hm]] at hst
    have hrf:=runC_memF hm
    generalize hR:ranR c m=R
    obtain ⟨vs,ar,l⟩:=c
    obtain ⟨va,arr⟩:=m
    simp only [cdC,ints] at hst ⊢
    refine dcZ Tryz.func68 ?_
    simp only [go_sem,Mm.cells]
    iterate 5 ((try (refine drvZ Tryz.func68 ?_;simp only [go_sem,Mm.cells]));((with_reducible and_intros)<;>try exact sd);(try first | refine XK.p hst ok55 ?_ | refine XK.gp hst ok55 ?_))
    refine RetOb.ofQ (fun _=>none) [] (.tup [.c (.v (.pointer none)),.c (.v (.slice none 0 0)),DB false]) [] ?_ (by rw [← hR];exact .inr ⟨rfl,rfl,hrf⟩) (by simp)
    simp [enumL,DM,DMs,CM,CMs,HpOK,LowOK]
theorem runCodeI (c:Cd) (m:Mm) (hc:codeOK c=true):DC Tryz.prog 19 [.agg (cdC c),.agg m.cells] [] (fun r h=>r = .tup [.agg (runC c m).1.cells,.c (trD (runC c m).2.1),DB (runC c m).2.2]∧h=[]):=by
  have hmx:=mx_eq
  have hcl:=code_len hc
  have hrn:=ranI c m hc
  generalize hR:(fun (r:D) (h:List (Option (List C)))=>r = .tup [.agg (runC c m).1.cells,.c (trD (runC c m).2.1),DB (runC c m).2.2]∧h=[])=R
  unfold ranR at hrn
  obtain ⟨vs,ar,l⟩:=c
  obtain ⟨va,arr⟩:=m
  simp only [cdC,ints] at hrn ⊢
  refine dcZ Tryz.func19 ?_
  simp only [go_sem,Mm.cells]
  iterate 2 ((try (refine drvZ Tryz.func19 ?_;simp only [go_sem,Mm.cells]));((with_reducible and_intros)<;>try exact sd))
  refine XK.callG [] hrn ok68 (fun i' x h=>by simp at h) (hbT ()) (fun d h' e=>by rcases e with ⟨_,_,_,e,_⟩ | ⟨_,e,_⟩<;>subst e<;>simp [stB]) ?_
  rintro _ _ (⟨s',T',rfl,rfl,hMs,hT,hrf⟩ | ⟨rfl,rfl,hrf⟩) _
  · have hl:=hMs.mem
    iterate 4 ((try (refine drvZ Tryz.func19 ?_;simp only [go_sem,stB,renCs_I,renCs_hdr,renCs_b0,renCs_b1,renCs_tr]));((with_reducible and_intros)<;>try exact sd))
    rw [hl.nv,hl.na]
    refine RetOb.run hl ?_ rfl rfl rfl rfl rfl rfl rfl (by decide)
    subst hR
    rw [hrf]
    exact ⟨rfl,rfl⟩
  · iterate 4 ((try (refine drvZ Tryz.func19 ?_;simp only [go_sem]));((with_reducible and_intros)<;>try exact sd))
    refine RetOb.noRun ?_ (.inl rfl)
    subst hR
    rw [hrf]
    exact ⟨rfl,rfl⟩
open CtL (In Cd compP)
theorem compiledI0 (p:Pg) (hv:p.vars.length≤2000000) (ha:p.arrays.length≤2000000) (hok:progOK p=false):DC Tryz.prog 32 [.agg p.cells] [] (fun r h=>r = .tup [.c (.v (.pointer none)),DB false]∧h=[]):=by
  have hmx:=mx_eq
  have hpv:=programValidI p (by omega) (by omega)
  rw [hok] at hpv
  generalize hR:(fun (r:D) (h:List (Option (List C)))=>r = .tup [.c (.v (.pointer none)),DB false]∧h=[])=R
  obtain ⟨vs,ar,bd⟩:=p
  refine dcZ Tryz.func32 ?_
  simp only [go_sem]
  iterate 5 ((try (refine drvZ Tryz.func32 ?_;simp only [go_sem]));((with_reducible and_intros)<;>try exact sd);(try first | refine XK.p hpv ok89 ?_ | refine XK.gp hpv ok89 ?_))
  subst hR
  refine RetOb.ofQ (fun _=>none) [] (.tup [.c (.v (.pointer none)),DB false]) [] ?_ ⟨rfl,rfl⟩ (by simp)
  simp [enumL,DM,DMs,CM,CMs,HpOK,LowOK]
theorem compProgI0 (p:Pg) (hv:p.vars.length≤2000000) (ha:p.arrays.length≤2000000) (hok:progOK p=false):DC Tryz.prog 7 [.agg p.cells] [] (fun r h=>r = .tup [.agg (cdC (compP p).1),DB (compP p).2]∧h=[]):=by
  have hmx:=mx_eq
  have hc:=compiledI0 p hv ha hok
  generalize hR:(fun (r:D) (h:List (Option (List C)))=>r = .tup [.agg (cdC (compP p).1),DB (compP p).2]∧h=[])=R
  rw [show compP p=(⟨[],[],[]⟩,false) from if_neg fun h=>absurd h.1 (by simp [hok])] at hR
  obtain ⟨vs,ar,bd⟩:=p
  refine dcZ Tryz.func7 ?_
  simp only [go_sem]
  iterate 2 ((try (refine drvZ Tryz.func7 ?_;simp only [go_sem]));((with_reducible and_intros)<;>try exact sd))
  refine XK.callG [] hc ok32 (fun i' x h=>by simp at h) (hbT ()) (fun d h' ⟨_,e⟩=>by subst e;simp) ?_
  rintro _ _ ⟨rfl,rfl⟩ _
  iterate 5 ((try (refine drvZ Tryz.func7 ?_;simp only [go_sem]));((with_reducible and_intros)<;>try exact sd))
  exact RetOb.cd0 (by rw [← hR];exact ⟨rfl,rfl⟩)
theorem compProgIA (p:Pg) (hv:p.vars.length≤2000000) (ha:p.arrays.length≤2000000):DC Tryz.prog 7 [.agg p.cells] [] (fun r h=>r = .tup [.agg (cdC (compP p).1),DB (compP p).2]∧h=[]):=by
  cases hok:progOK p with
  | true=>exact compProgI p hv ha hok
  | false=>exact compProgI0 p hv ha hok
theorem runM_len {l : List In} : ∀ (n : Nat) (s : CtL.Mc) (q : Mm × List Ev), CtL.runM l n s = some q → q.2.length ≤ 2 * n
  | 0,s,q,h=>by simp [CtL.runM] at h
  | n+1,s,q,h=>by
    have h2:=step_len (CtL.atC l s.pc) s
    rw [CtL.runM] at h
    split at h
    · cases h;simp only;omega
    · rw [Option.map_eq_some_iff] at h
      obtain ⟨q',h3,rfl⟩:=h
      have:=runM_len n _ q' h3
      simp only [List.length_append]
      omega
theorem runC_len (c:Cd) (m:Mm):(CtL.runC c m).2.1.length≤40000:=by
  unfold CtL.runC
  split
  · split
    · next q e=>exact runM_len _ _ _ e
    · simp
  · simp
theorem compP_cases (p:Pg):(compP p=(⟨[],[],[]⟩,false))∨(progOK p=true∧CtL.lenL 5 p.body+1≤400∧compP p=(⟨p.vars,p.arrays,CtL.compL p⟩,true)):=by
  unfold compP
  split
  · next h=>exact .inr ⟨h.1,h.2,rfl⟩
  · exact .inl rfl
end Go.Proofs.YtbknljofedfpjaaGreat.CtD
namespace Go.Proofs.YtbknljofedfpjaaGreat.CtL
variable [Go.CT.Yn]
open Go Go.CT CtF CtR
end Go.Proofs.YtbknljofedfpjaaGreat.CtL
namespace Go.Proofs.YtbknljofedfpjaaGreat.CtD
open Go Go.CT CtF CtR
variable [Yn]
end Go.Proofs.YtbknljofedfpjaaGreat.CtD
