/- Contracts of functions of the program, one behind the other, as plain data: what each call returns and which blocks it leaves. -/
import Derived.Test.YtddanjifhdaebaaIFacts
import Derived.Test.YtddanjifhdaebaaIAi
import Derived.Test.YtddanjifhdaebaaIAk
import Derived.Test.YtddanjifhdaebaaIAl
import Derived.Test.YtddanjifhdaebaaIAm
import Derived.Test.YtddanjifhdaebaaIAn
import Derived.Test.YtddanjifhdaebaaIAp
set_option linter.unusedVariables false
set_option linter.unusedSimpArgs false
set_option linter.unusedSectionVars false
set_option maxHeartbeats 16000000
set_option maxRecDepth 100000
namespace Go.Proofs.Ytddanjifhdaebaa.CtD
open Go Go.CT CtF CtR
variable [Yn]
open CtL (In Cd Mc stepM kindsOf topOf fOK inOK endOK codeOK)
theorem exec1 (c : Cd) (s : Mc) (T : List Ev) (hT : T.length ≤ 100000) (a b c' d : Int) (hc1 : c.list.length ≤ 400) (hs : MOK c s) (hx : c.list[s.pc]? = some ⟨1, a, b, c', d⟩) (h : inOK c.vars.length c.arrays.length c.list.length ⟨1, a, b, c', d⟩ = true) :
 DC Try.prog 176 [.agg (cdC c),.agg (mcA s),.c (.msl 5 2 0 T.length)] (exB s T) (exeR ⟨1,a,b,c',d⟩ s T):=by
 have hmx:=mx_eq
 have hmv:=l6MoveO c ⟨1,a,b,c',d⟩ s hc1 hs h (by
  have:=hs.len
  simp [stepM,this])
 obtain ⟨h1,h2,h3,h4⟩:=hs
 have hbl:=blk_len h4
 have hb0:=fun h x h0 h4'=>blk0_at h4 h (x:=x) h0 h4'
 have hb1:=fun h x h0 h4'=>blk1_at h4 h (x:=x) h0 h4'
 have hnv:=h4.nv
 have hna:=h4.na
 have hn12:=h4.nv12
 have hn2:=h4.na2
 obtain ⟨vs,ar,l⟩:=c
 obtain ⟨pc,rg,m⟩:=s
 simp only [hdC] at h1 h2 h3 hnv hna hn12 hn2 hx hc1 hbl hb0 hb1 hmv
 simp only [inOK,kindsOf,fOK,topOf,Bool.and_eq_true,decide_eq_true_eq] at h
 simp at h
 have hxl:(l.map inX)[pc]? = some (inX ⟨1,a,b,c',d⟩):=by rw [List.getElem?_map,hx];rfl
 have hrr:=fun (i:Int) (h0:0≤i) (h1:i≤13)=>nth_lt (l:=rg) (i:=i) h0 (by omega)
 have hrl:(rg.map I64).length=14:=by rw [List.length_map];exact h2
 have hrg:=fun (i:Int) (h0:0≤i) (h1:i≤13)=>reg_rng h2 h3 (i:=i) h0 h1
 have htl:=trC_len T
 have htl2:(trC T++[.v (.int .i64 5),I64 (pc:Int)]).length=(T.length+1) * 2:=by simp [htl];omega
 have hvl:(m.vals.map I64).length=m.vals.length:=List.length_map _
 have hvv:=fun (i:Int) (h0:0≤i) (h1:i<m.vals.length)=>nth_lt (l:=m.vals) (i:=i) h0 h1
 have ret:∀ (K n:Nat) (pcv:Int) (cs c1 c2 c4 c5:List C) (hp:Hp),hp 0=some (some c1)→hp 1=some (some c2)→hp 2=some (some (hdr 3 4 m.arrays.length))→hp 3=some (some c4)→hp 4=some (some c5)→hp K=some (some cs)→5≤K →
  pcv=((stepM ⟨1,a,b,c',d⟩ ⟨pc,rg,m⟩).1.pc:Int)→c1=(stepM ⟨1,a,b,c',d⟩ ⟨pc,rg,m⟩).1.regs.map I64→c2=(stepM ⟨1,a,b,c',d⟩ ⟨pc,rg,m⟩).1.mem.vals.map I64→(stepM ⟨1,a,b,c',d⟩ ⟨pc,rg,m⟩).1.mem.vals.length=m.vals.length→(stepM ⟨1,a,b,c',d⟩ ⟨pc,rg,m⟩).1.mem.arrays.length=m.arrays.length →
  c4=blk0 (stepM ⟨1,a,b,c',d⟩ ⟨pc,rg,m⟩).1.mem.arrays→c5=blk1 (stepM ⟨1,a,b,c',d⟩ ⟨pc,rg,m⟩).1.mem.arrays→cs=trC (T++(stepM ⟨1,a,b,c',d⟩ ⟨pc,rg,m⟩).2)→n=(T++(stepM ⟨1,a,b,c',d⟩ ⟨pc,rg,m⟩).2).length→RetOb 6 (exeR ⟨1,a,b,c',d⟩ ⟨pc,rg,m⟩ T) (.tup [.agg [.v (.int .i64 pcv),.msl 0 1 0 14,.msl 1 1 0 m.vals.length,.msl 2 1 0 m.arrays.length],.c (.msl K 2 0 n)]) hp:=by
  rintro K n pcv cs c1 c2 c4 c5 hp q1 q2 q3 q4 q5 qk hK e0 rfl rfl f1 f2 rfl rfl rfl rfl
  subst e0
  refine RetOb.ofQ (fun j=>if j=6 then some K else some j) [] (.tup [.agg (mcA (stepM ⟨1,a,b,c',d⟩ ⟨pc,rg,m⟩).1),.c (.msl 6 2 0 (T++(stepM ⟨1,a,b,c',d⟩ ⟨pc,rg,m⟩).2).length)]) (exB' (stepM ⟨1,a,b,c',d⟩ ⟨pc,rg,m⟩).1 (T++(stepM ⟨1,a,b,c',d⟩ ⟨pc,rg,m⟩).2)) ?_ ⟨rfl,rfl⟩ (by simp [exB'])
  simp [exB',mcA,enumL,hOf,DM,DMs,CM,CMs,HpOK,LowOK,upd,CMs_I,CMs_tr,CMs_hdr,CMs_b0,CMs_b1,f1,f2,q1,q2,q3,q4,q5,qk]
  omega
 generalize hR:exeR ⟨1,a,b,c',d⟩ ⟨pc,rg,m⟩ T=R at ret ⊢
 clear hR
 unfold exB mcA cdC
 simp only
 refine dcZ Try.func176 ?_
 simp only [go_sem,hxl,inX,hrl,hvl,set_I]
 iterate 14 ((try (refine drvZ Try.func176 ?_;simp only [go_sem,hxl,inX,hrl,hvl,set_I]));((with_reducible and_intros)<;>try exact sd))
 refine XK.callG [0] hmv ok200 (hhp_one (by simp [-List.map_set,hpL,upd,renCs_I,stepM,set_I])) (hbT ()) (fun d h' ⟨_,e⟩=>by subst e;simp) ?_
 rintro _ _ ⟨rfl,rfl⟩ _
 iterate 4 ((try (refine drvZ Try.func176 ?_;simp only [go_sem,renCs_I]));((with_reducible and_intros)<;>try exact sd))
 exact ret _ _ _ _ _ _ _ _ _ rfl rfl rfl rfl rfl rfl (by decide) rfl (by simp [stepM]) (by simp [stepM]) (by simp [stepM]) (by simp [stepM]) (by simp [stepM]) (by simp [stepM]) (by simp [stepM,trC,Ev.cells]) (by simp [stepM])
theorem exec2 (c : Cd) (s : Mc) (T : List Ev) (hT : T.length ≤ 100000) (a b c' d : Int) (hc1 : c.list.length ≤ 400) (hs : MOK c s) (hx : c.list[s.pc]? = some ⟨2, a, b, c', d⟩) (h : inOK c.vars.length c.arrays.length c.list.length ⟨2, a, b, c', d⟩ = true) :
 DC Try.prog 176 [.agg (cdC c),.agg (mcA s),.c (.msl 5 2 0 T.length)] (exB s T) (exeR ⟨2,a,b,c',d⟩ s T):=by
 have hmx:=mx_eq
 have hmv:=l6MoveO c ⟨2,a,b,c',d⟩ s hc1 hs h (by
  have:=hs.len
  simp [stepM,this])
 obtain ⟨h1,h2,h3,h4⟩:=hs
 have hbl:=blk_len h4
 have hb0:=fun h x h0 h4'=>blk0_at h4 h (x:=x) h0 h4'
 have hb1:=fun h x h0 h4'=>blk1_at h4 h (x:=x) h0 h4'
 have hnv:=h4.nv
 have hna:=h4.na
 have hn12:=h4.nv12
 have hn2:=h4.na2
 obtain ⟨vs,ar,l⟩:=c
 obtain ⟨pc,rg,m⟩:=s
 simp only [hdC] at h1 h2 h3 hnv hna hn12 hn2 hx hc1 hbl hb0 hb1 hmv
 simp only [inOK,kindsOf,fOK,topOf,Bool.and_eq_true,decide_eq_true_eq] at h
 simp at h
 have hxl:(l.map inX)[pc]? = some (inX ⟨2,a,b,c',d⟩):=by rw [List.getElem?_map,hx];rfl
 have hrr:=fun (i:Int) (h0:0≤i) (h1:i≤13)=>nth_lt (l:=rg) (i:=i) h0 (by omega)
 have hrl:(rg.map I64).length=14:=by rw [List.length_map];exact h2
 have hrg:=fun (i:Int) (h0:0≤i) (h1:i≤13)=>reg_rng h2 h3 (i:=i) h0 h1
 have htl:=trC_len T
 have htl2:(trC T++[.v (.int .i64 5),I64 (pc:Int)]).length=(T.length+1) * 2:=by simp [htl];omega
 have hvl:(m.vals.map I64).length=m.vals.length:=List.length_map _
 have hvv:=fun (i:Int) (h0:0≤i) (h1:i<m.vals.length)=>nth_lt (l:=m.vals) (i:=i) h0 h1
 have ret:∀ (K n:Nat) (pcv:Int) (cs c1 c2 c4 c5:List C) (hp:Hp),hp 0=some (some c1)→hp 1=some (some c2)→hp 2=some (some (hdr 3 4 m.arrays.length))→hp 3=some (some c4)→hp 4=some (some c5)→hp K=some (some cs)→5≤K →
  pcv=((stepM ⟨2,a,b,c',d⟩ ⟨pc,rg,m⟩).1.pc:Int)→c1=(stepM ⟨2,a,b,c',d⟩ ⟨pc,rg,m⟩).1.regs.map I64→c2=(stepM ⟨2,a,b,c',d⟩ ⟨pc,rg,m⟩).1.mem.vals.map I64→(stepM ⟨2,a,b,c',d⟩ ⟨pc,rg,m⟩).1.mem.vals.length=m.vals.length→(stepM ⟨2,a,b,c',d⟩ ⟨pc,rg,m⟩).1.mem.arrays.length=m.arrays.length →
  c4=blk0 (stepM ⟨2,a,b,c',d⟩ ⟨pc,rg,m⟩).1.mem.arrays→c5=blk1 (stepM ⟨2,a,b,c',d⟩ ⟨pc,rg,m⟩).1.mem.arrays→cs=trC (T++(stepM ⟨2,a,b,c',d⟩ ⟨pc,rg,m⟩).2)→n=(T++(stepM ⟨2,a,b,c',d⟩ ⟨pc,rg,m⟩).2).length→RetOb 6 (exeR ⟨2,a,b,c',d⟩ ⟨pc,rg,m⟩ T) (.tup [.agg [.v (.int .i64 pcv),.msl 0 1 0 14,.msl 1 1 0 m.vals.length,.msl 2 1 0 m.arrays.length],.c (.msl K 2 0 n)]) hp:=by
  rintro K n pcv cs c1 c2 c4 c5 hp q1 q2 q3 q4 q5 qk hK e0 rfl rfl f1 f2 rfl rfl rfl rfl
  subst e0
  refine RetOb.ofQ (fun j=>if j=6 then some K else some j) [] (.tup [.agg (mcA (stepM ⟨2,a,b,c',d⟩ ⟨pc,rg,m⟩).1),.c (.msl 6 2 0 (T++(stepM ⟨2,a,b,c',d⟩ ⟨pc,rg,m⟩).2).length)]) (exB' (stepM ⟨2,a,b,c',d⟩ ⟨pc,rg,m⟩).1 (T++(stepM ⟨2,a,b,c',d⟩ ⟨pc,rg,m⟩).2)) ?_ ⟨rfl,rfl⟩ (by simp [exB'])
  simp [exB',mcA,enumL,hOf,DM,DMs,CM,CMs,HpOK,LowOK,upd,CMs_I,CMs_tr,CMs_hdr,CMs_b0,CMs_b1,f1,f2,q1,q2,q3,q4,q5,qk]
  omega
 generalize hR:exeR ⟨2,a,b,c',d⟩ ⟨pc,rg,m⟩ T=R at ret ⊢
 clear hR
 unfold exB mcA cdC
 simp only
 have hv:=hvv b (by omega) (by omega)
 refine dcZ Try.func176 ?_
 simp only [go_sem,hxl,inX,hrl,hvl,set_I,hv]
 iterate 16 ((try (refine drvZ Try.func176 ?_;simp only [go_sem,hxl,inX,hrl,hvl,set_I,hv]));((with_reducible and_intros)<;>try exact sd))
 refine XK.callG [0] hmv ok200 (hhp_one (by simp [-List.map_set,hpL,upd,renCs_I,stepM,set_I])) (hbT ()) (fun d h' ⟨_,e⟩=>by subst e;simp) ?_
 rintro _ _ ⟨rfl,rfl⟩ _
 iterate 4 ((try (refine drvZ Try.func176 ?_;simp only [go_sem,renCs_I]));((with_reducible and_intros)<;>try exact sd))
 exact ret _ _ _ _ _ _ _ _ _ rfl rfl rfl rfl rfl rfl (by decide) rfl (by simp [stepM]) (by simp [stepM]) (by simp [stepM]) (by simp [stepM]) (by simp [stepM]) (by simp [stepM]) (by simp [stepM,trC,Ev.cells]) (by simp [stepM])
theorem exec3 (c : Cd) (s : Mc) (T : List Ev) (hT : T.length ≤ 100000) (a b c' d : Int) (hc1 : c.list.length ≤ 400) (hs : MOK c s) (hx : c.list[s.pc]? = some ⟨3, a, b, c', d⟩) (h : inOK c.vars.length c.arrays.length c.list.length ⟨3, a, b, c', d⟩ = true) :
 DC Try.prog 176 [.agg (cdC c),.agg (mcA s),.c (.msl 5 2 0 T.length)] (exB s T) (exeR ⟨3,a,b,c',d⟩ s T):=by
 have hmx:=mx_eq
 have hmv:=l6MoveO c ⟨3,a,b,c',d⟩ s hc1 hs h (by
  have:=hs.len
  simp [stepM,this])
 obtain ⟨h1,h2,h3,h4⟩:=hs
 have hbl:=blk_len h4
 have hb0:=fun h x h0 h4'=>blk0_at h4 h (x:=x) h0 h4'
 have hb1:=fun h x h0 h4'=>blk1_at h4 h (x:=x) h0 h4'
 have hnv:=h4.nv
 have hna:=h4.na
 have hn12:=h4.nv12
 have hn2:=h4.na2
 obtain ⟨vs,ar,l⟩:=c
 obtain ⟨pc,rg,m⟩:=s
 simp only [hdC] at h1 h2 h3 hnv hna hn12 hn2 hx hc1 hbl hb0 hb1 hmv
 simp only [inOK,kindsOf,fOK,topOf,Bool.and_eq_true,decide_eq_true_eq] at h
 simp at h
 have hxl:(l.map inX)[pc]? = some (inX ⟨3,a,b,c',d⟩):=by rw [List.getElem?_map,hx];rfl
 have hrr:=fun (i:Int) (h0:0≤i) (h1:i≤13)=>nth_lt (l:=rg) (i:=i) h0 (by omega)
 have hrl:(rg.map I64).length=14:=by rw [List.length_map];exact h2
 have hrg:=fun (i:Int) (h0:0≤i) (h1:i≤13)=>reg_rng h2 h3 (i:=i) h0 h1
 have htl:=trC_len T
 have htl2:(trC T++[.v (.int .i64 5),I64 (pc:Int)]).length=(T.length+1) * 2:=by simp [htl];omega
 have hvl:(m.vals.map I64).length=m.vals.length:=List.length_map _
 have hvv:=fun (i:Int) (h0:0≤i) (h1:i<m.vals.length)=>nth_lt (l:=m.vals) (i:=i) h0 h1
 have ret:∀ (K n:Nat) (pcv:Int) (cs c1 c2 c4 c5:List C) (hp:Hp),hp 0=some (some c1)→hp 1=some (some c2)→hp 2=some (some (hdr 3 4 m.arrays.length))→hp 3=some (some c4)→hp 4=some (some c5)→hp K=some (some cs)→5≤K →
  pcv=((stepM ⟨3,a,b,c',d⟩ ⟨pc,rg,m⟩).1.pc:Int)→c1=(stepM ⟨3,a,b,c',d⟩ ⟨pc,rg,m⟩).1.regs.map I64→c2=(stepM ⟨3,a,b,c',d⟩ ⟨pc,rg,m⟩).1.mem.vals.map I64→(stepM ⟨3,a,b,c',d⟩ ⟨pc,rg,m⟩).1.mem.vals.length=m.vals.length→(stepM ⟨3,a,b,c',d⟩ ⟨pc,rg,m⟩).1.mem.arrays.length=m.arrays.length →
  c4=blk0 (stepM ⟨3,a,b,c',d⟩ ⟨pc,rg,m⟩).1.mem.arrays→c5=blk1 (stepM ⟨3,a,b,c',d⟩ ⟨pc,rg,m⟩).1.mem.arrays→cs=trC (T++(stepM ⟨3,a,b,c',d⟩ ⟨pc,rg,m⟩).2)→n=(T++(stepM ⟨3,a,b,c',d⟩ ⟨pc,rg,m⟩).2).length→RetOb 6 (exeR ⟨3,a,b,c',d⟩ ⟨pc,rg,m⟩ T) (.tup [.agg [.v (.int .i64 pcv),.msl 0 1 0 14,.msl 1 1 0 m.vals.length,.msl 2 1 0 m.arrays.length],.c (.msl K 2 0 n)]) hp:=by
  rintro K n pcv cs c1 c2 c4 c5 hp q1 q2 q3 q4 q5 qk hK e0 rfl rfl f1 f2 rfl rfl rfl rfl
  subst e0
  refine RetOb.ofQ (fun j=>if j=6 then some K else some j) [] (.tup [.agg (mcA (stepM ⟨3,a,b,c',d⟩ ⟨pc,rg,m⟩).1),.c (.msl 6 2 0 (T++(stepM ⟨3,a,b,c',d⟩ ⟨pc,rg,m⟩).2).length)]) (exB' (stepM ⟨3,a,b,c',d⟩ ⟨pc,rg,m⟩).1 (T++(stepM ⟨3,a,b,c',d⟩ ⟨pc,rg,m⟩).2)) ?_ ⟨rfl,rfl⟩ (by simp [exB'])
  simp [exB',mcA,enumL,hOf,DM,DMs,CM,CMs,HpOK,LowOK,upd,CMs_I,CMs_tr,CMs_hdr,CMs_b0,CMs_b1,f1,f2,q1,q2,q3,q4,q5,qk]
  omega
 generalize hR:exeR ⟨3,a,b,c',d⟩ ⟨pc,rg,m⟩ T=R at ret ⊢
 clear hR
 unfold exB mcA cdC
 simp only
 have hv:=hrr b (by omega) (by omega)
 refine dcZ Try.func176 ?_
 simp only [go_sem,hxl,inX,hrl,hvl,set_I,hv]
 iterate 16 ((try (refine drvZ Try.func176 ?_;simp only [go_sem,hxl,inX,hrl,hvl,set_I,hv]));((with_reducible and_intros)<;>try exact sd))
 refine XK.callG [0] hmv ok200 (hhp_one (by simp [-List.map_set,hpL,upd,renCs_I,stepM,set_I])) (hbT ()) (fun d h' ⟨_,e⟩=>by subst e;simp) ?_
 rintro _ _ ⟨rfl,rfl⟩ _
 iterate 4 ((try (refine drvZ Try.func176 ?_;simp only [go_sem,renCs_I]));((with_reducible and_intros)<;>try exact sd))
 exact ret _ _ _ _ _ _ _ _ _ rfl rfl rfl rfl rfl rfl (by decide) rfl (by simp [stepM]) (by simp [stepM,setV]) (by simp [stepM,setV]) (by simp [stepM,setV]) (by simp [stepM,setV]) (by simp [stepM,setV]) (by simp [stepM,trC,Ev.cells]) (by simp [stepM])
theorem exec6 (c : Cd) (s : Mc) (T : List Ev) (hT : T.length ≤ 100000) (a b c' d : Int) (hc1 : c.list.length ≤ 400) (hs : MOK c s) (hx : c.list[s.pc]? = some ⟨6, a, b, c', d⟩) (h : inOK c.vars.length c.arrays.length c.list.length ⟨6, a, b, c', d⟩ = true) :
 DC Try.prog 176 [.agg (cdC c),.agg (mcA s),.c (.msl 5 2 0 T.length)] (exB s T) (exeR ⟨6,a,b,c',d⟩ s T):=by
 have hmx:=mx_eq
 have hmv:=l6MoveO c ⟨6,a,b,c',d⟩ s hc1 hs h (by
  have:=hs.len
  simp [stepM,this])
 obtain ⟨h1,h2,h3,h4⟩:=hs
 have hbl:=blk_len h4
 have hb0:=fun h x h0 h4'=>blk0_at h4 h (x:=x) h0 h4'
 have hb1:=fun h x h0 h4'=>blk1_at h4 h (x:=x) h0 h4'
 have hnv:=h4.nv
 have hna:=h4.na
 have hn12:=h4.nv12
 have hn2:=h4.na2
 obtain ⟨vs,ar,l⟩:=c
 obtain ⟨pc,rg,m⟩:=s
 simp only [hdC] at h1 h2 h3 hnv hna hn12 hn2 hx hc1 hbl hb0 hb1 hmv
 simp only [inOK,kindsOf,fOK,topOf,Bool.and_eq_true,decide_eq_true_eq] at h
 simp at h
 have hxl:(l.map inX)[pc]? = some (inX ⟨6,a,b,c',d⟩):=by rw [List.getElem?_map,hx];rfl
 have hrr:=fun (i:Int) (h0:0≤i) (h1:i≤13)=>nth_lt (l:=rg) (i:=i) h0 (by omega)
 have hrl:(rg.map I64).length=14:=by rw [List.length_map];exact h2
 have hrg:=fun (i:Int) (h0:0≤i) (h1:i≤13)=>reg_rng h2 h3 (i:=i) h0 h1
 have htl:=trC_len T
 have htl2:(trC T++[.v (.int .i64 5),I64 (pc:Int)]).length=(T.length+1) * 2:=by simp [htl];omega
 have hvl:(m.vals.map I64).length=m.vals.length:=List.length_map _
 have hvv:=fun (i:Int) (h0:0≤i) (h1:i<m.vals.length)=>nth_lt (l:=m.vals) (i:=i) h0 h1
 have ret:∀ (K n:Nat) (pcv:Int) (cs c1 c2 c4 c5:List C) (hp:Hp),hp 0=some (some c1)→hp 1=some (some c2)→hp 2=some (some (hdr 3 4 m.arrays.length))→hp 3=some (some c4)→hp 4=some (some c5)→hp K=some (some cs)→5≤K →
  pcv=((stepM ⟨6,a,b,c',d⟩ ⟨pc,rg,m⟩).1.pc:Int)→c1=(stepM ⟨6,a,b,c',d⟩ ⟨pc,rg,m⟩).1.regs.map I64→c2=(stepM ⟨6,a,b,c',d⟩ ⟨pc,rg,m⟩).1.mem.vals.map I64→(stepM ⟨6,a,b,c',d⟩ ⟨pc,rg,m⟩).1.mem.vals.length=m.vals.length→(stepM ⟨6,a,b,c',d⟩ ⟨pc,rg,m⟩).1.mem.arrays.length=m.arrays.length →
  c4=blk0 (stepM ⟨6,a,b,c',d⟩ ⟨pc,rg,m⟩).1.mem.arrays→c5=blk1 (stepM ⟨6,a,b,c',d⟩ ⟨pc,rg,m⟩).1.mem.arrays→cs=trC (T++(stepM ⟨6,a,b,c',d⟩ ⟨pc,rg,m⟩).2)→n=(T++(stepM ⟨6,a,b,c',d⟩ ⟨pc,rg,m⟩).2).length→RetOb 6 (exeR ⟨6,a,b,c',d⟩ ⟨pc,rg,m⟩ T) (.tup [.agg [.v (.int .i64 pcv),.msl 0 1 0 14,.msl 1 1 0 m.vals.length,.msl 2 1 0 m.arrays.length],.c (.msl K 2 0 n)]) hp:=by
  rintro K n pcv cs c1 c2 c4 c5 hp q1 q2 q3 q4 q5 qk hK e0 rfl rfl f1 f2 rfl rfl rfl rfl
  subst e0
  refine RetOb.ofQ (fun j=>if j=6 then some K else some j) [] (.tup [.agg (mcA (stepM ⟨6,a,b,c',d⟩ ⟨pc,rg,m⟩).1),.c (.msl 6 2 0 (T++(stepM ⟨6,a,b,c',d⟩ ⟨pc,rg,m⟩).2).length)]) (exB' (stepM ⟨6,a,b,c',d⟩ ⟨pc,rg,m⟩).1 (T++(stepM ⟨6,a,b,c',d⟩ ⟨pc,rg,m⟩).2)) ?_ ⟨rfl,rfl⟩ (by simp [exB'])
  simp [exB',mcA,enumL,hOf,DM,DMs,CM,CMs,HpOK,LowOK,upd,CMs_I,CMs_tr,CMs_hdr,CMs_b0,CMs_b1,f1,f2,q1,q2,q3,q4,q5,qk]
  omega
 generalize hR:exeR ⟨6,a,b,c',d⟩ ⟨pc,rg,m⟩ T=R at ret ⊢
 clear hR
 unfold exB mcA cdC
 simp only
 have hv:=hrr c' (by omega) (by omega)
 have hw:=hrr d (by omega) (by omega)
 have hop:=CtR.l3Bin b (nth rg c') (nth rg d) (hrg _ (by omega) (by omega)) (hrg _ (by omega) (by omega))
 refine dcZ Try.func176 ?_
 simp only [go_sem,hxl,inX,hrl,hvl,set_I,hv,hw]
 iterate 18 ((try (refine drvZ Try.func176 ?_;simp only [go_sem,hxl,inX,hrl,hvl,set_I,hv,hw]));((with_reducible and_intros)<;>try exact sd);(try first | refine XK.p hop ok189 ?_ | refine XK.gp hop ok189 ?_))
 refine XK.callG [0] hmv ok200 (hhp_one (by simp [-List.map_set,hpL,upd,renCs_I,stepM,set_I])) (hbT ()) (fun d h' ⟨_,e⟩=>by subst e;simp) ?_
 rintro _ _ ⟨rfl,rfl⟩ _
 iterate 4 ((try (refine drvZ Try.func176 ?_;simp only [go_sem,renCs_I]));((with_reducible and_intros)<;>try exact sd))
 exact ret _ _ _ _ _ _ _ _ _ rfl rfl rfl rfl rfl rfl (by decide) rfl (by simp [stepM]) (by simp [stepM]) (by simp [stepM]) (by simp [stepM]) (by simp [stepM]) (by simp [stepM]) (by simp [stepM,trC,Ev.cells]) (by simp [stepM])
theorem exec7 (c : Cd) (s : Mc) (T : List Ev) (hT : T.length ≤ 100000) (a b c' d : Int) (hc1 : c.list.length ≤ 400) (hs : MOK c s) (hx : c.list[s.pc]? = some ⟨7, a, b, c', d⟩) (h : inOK c.vars.length c.arrays.length c.list.length ⟨7, a, b, c', d⟩ = true) :
 DC Try.prog 176 [.agg (cdC c),.agg (mcA s),.c (.msl 5 2 0 T.length)] (exB s T) (exeR ⟨7,a,b,c',d⟩ s T):=by
 have hmx:=mx_eq
 have hmv:=l6MoveO c ⟨7,a,b,c',d⟩ s hc1 hs h (by
  have:=hs.len
  simp [stepM,this])
 obtain ⟨h1,h2,h3,h4⟩:=hs
 have hbl:=blk_len h4
 have hb0:=fun h x h0 h4'=>blk0_at h4 h (x:=x) h0 h4'
 have hb1:=fun h x h0 h4'=>blk1_at h4 h (x:=x) h0 h4'
 have hnv:=h4.nv
 have hna:=h4.na
 have hn12:=h4.nv12
 have hn2:=h4.na2
 obtain ⟨vs,ar,l⟩:=c
 obtain ⟨pc,rg,m⟩:=s
 simp only [hdC] at h1 h2 h3 hnv hna hn12 hn2 hx hc1 hbl hb0 hb1 hmv
 simp only [inOK,kindsOf,fOK,topOf,Bool.and_eq_true,decide_eq_true_eq] at h
 simp at h
 have hxl:(l.map inX)[pc]? = some (inX ⟨7,a,b,c',d⟩):=by rw [List.getElem?_map,hx];rfl
 have hrr:=fun (i:Int) (h0:0≤i) (h1:i≤13)=>nth_lt (l:=rg) (i:=i) h0 (by omega)
 have hrl:(rg.map I64).length=14:=by rw [List.length_map];exact h2
 have hrg:=fun (i:Int) (h0:0≤i) (h1:i≤13)=>reg_rng h2 h3 (i:=i) h0 h1
 have htl:=trC_len T
 have htl2:(trC T++[.v (.int .i64 5),I64 (pc:Int)]).length=(T.length+1) * 2:=by simp [htl];omega
 have hvl:(m.vals.map I64).length=m.vals.length:=List.length_map _
 have hvv:=fun (i:Int) (h0:0≤i) (h1:i<m.vals.length)=>nth_lt (l:=m.vals) (i:=i) h0 h1
 have ret:∀ (K n:Nat) (pcv:Int) (cs c1 c2 c4 c5:List C) (hp:Hp),hp 0=some (some c1)→hp 1=some (some c2)→hp 2=some (some (hdr 3 4 m.arrays.length))→hp 3=some (some c4)→hp 4=some (some c5)→hp K=some (some cs)→5≤K →
  pcv=((stepM ⟨7,a,b,c',d⟩ ⟨pc,rg,m⟩).1.pc:Int)→c1=(stepM ⟨7,a,b,c',d⟩ ⟨pc,rg,m⟩).1.regs.map I64→c2=(stepM ⟨7,a,b,c',d⟩ ⟨pc,rg,m⟩).1.mem.vals.map I64→(stepM ⟨7,a,b,c',d⟩ ⟨pc,rg,m⟩).1.mem.vals.length=m.vals.length→(stepM ⟨7,a,b,c',d⟩ ⟨pc,rg,m⟩).1.mem.arrays.length=m.arrays.length →
  c4=blk0 (stepM ⟨7,a,b,c',d⟩ ⟨pc,rg,m⟩).1.mem.arrays→c5=blk1 (stepM ⟨7,a,b,c',d⟩ ⟨pc,rg,m⟩).1.mem.arrays→cs=trC (T++(stepM ⟨7,a,b,c',d⟩ ⟨pc,rg,m⟩).2)→n=(T++(stepM ⟨7,a,b,c',d⟩ ⟨pc,rg,m⟩).2).length→RetOb 6 (exeR ⟨7,a,b,c',d⟩ ⟨pc,rg,m⟩ T) (.tup [.agg [.v (.int .i64 pcv),.msl 0 1 0 14,.msl 1 1 0 m.vals.length,.msl 2 1 0 m.arrays.length],.c (.msl K 2 0 n)]) hp:=by
  rintro K n pcv cs c1 c2 c4 c5 hp q1 q2 q3 q4 q5 qk hK e0 rfl rfl f1 f2 rfl rfl rfl rfl
  subst e0
  refine RetOb.ofQ (fun j=>if j=6 then some K else some j) [] (.tup [.agg (mcA (stepM ⟨7,a,b,c',d⟩ ⟨pc,rg,m⟩).1),.c (.msl 6 2 0 (T++(stepM ⟨7,a,b,c',d⟩ ⟨pc,rg,m⟩).2).length)]) (exB' (stepM ⟨7,a,b,c',d⟩ ⟨pc,rg,m⟩).1 (T++(stepM ⟨7,a,b,c',d⟩ ⟨pc,rg,m⟩).2)) ?_ ⟨rfl,rfl⟩ (by simp [exB'])
  simp [exB',mcA,enumL,hOf,DM,DMs,CM,CMs,HpOK,LowOK,upd,CMs_I,CMs_tr,CMs_hdr,CMs_b0,CMs_b1,f1,f2,q1,q2,q3,q4,q5,qk]
  omega
 generalize hR:exeR ⟨7,a,b,c',d⟩ ⟨pc,rg,m⟩ T=R at ret ⊢
 clear hR
 unfold exB mcA cdC
 simp only
 have hv:=hrr b (by omega) (by omega)
 have hw:=hrr c' (by omega) (by omega)
 have hu:=hrr d (by omega) (by omega)
 by_cases hz:nth rg b=0
 ·have g1:(nth rg b != 0)=false:=by simp [hz]
  refine dcZ Try.func176 ?_
  simp only [go_sem,hxl,inX,hrl,hvl,set_I,hv,hw,hu,hz,g1,bne_self_eq_false]
  iterate 20 ((try (refine drvZ Try.func176 ?_;simp only [go_sem,hxl,inX,hrl,hvl,set_I,hv,hw,hu,hz,g1,bne_self_eq_false]));((with_reducible and_intros)<;>try exact sd))
  refine XK.callG [0] hmv ok200 (hhp_one (by simp [-List.map_set,hpL,upd,renCs_I,stepM,set_I,hz])) (hbT ()) (fun d h' ⟨_,e⟩=>by subst e;simp) ?_
  rintro _ _ ⟨rfl,rfl⟩ _
  iterate 4 ((try (refine drvZ Try.func176 ?_;simp only [go_sem,renCs_I]));((with_reducible and_intros)<;>try exact sd))
  exact ret _ _ _ _ _ _ _ _ _ rfl rfl rfl rfl rfl rfl (by decide) rfl (by simp [stepM,hz]) (by simp [stepM]) (by simp [stepM]) (by simp [stepM]) (by simp [stepM]) (by simp [stepM]) (by simp [stepM,trC,Ev.cells]) (by simp [stepM])
 ·have g1:(nth rg b != 0)=true:=by simp [hz]
  refine dcZ Try.func176 ?_
  simp only [go_sem,hxl,inX,hrl,hvl,set_I,hv,hw,hu,hz,g1]
  iterate 20 ((try (refine drvZ Try.func176 ?_;simp only [go_sem,hxl,inX,hrl,hvl,set_I,hv,hw,hu,hz,g1]));((with_reducible and_intros)<;>try exact sd))
  refine XK.callG [0] hmv ok200 (hhp_one (by simp [-List.map_set,hpL,upd,renCs_I,stepM,set_I,hz])) (hbT ()) (fun d h' ⟨_,e⟩=>by subst e;simp) ?_
  rintro _ _ ⟨rfl,rfl⟩ _
  iterate 4 ((try (refine drvZ Try.func176 ?_;simp only [go_sem,renCs_I]));((with_reducible and_intros)<;>try exact sd))
  exact ret _ _ _ _ _ _ _ _ _ rfl rfl rfl rfl rfl rfl (by decide) rfl (by simp [stepM,hz]) (by simp [stepM]) (by simp [stepM]) (by simp [stepM]) (by simp [stepM]) (by simp [stepM]) (by simp [stepM,trC,Ev.cells]) (by simp [stepM])
theorem exec8 (c : Cd) (s : Mc) (T : List Ev) (hT : T.length ≤ 100000) (a b c' d : Int) (hc1 : c.list.length ≤ 400) (hs : MOK c s) (hx : c.list[s.pc]? = some ⟨8, a, b, c', d⟩) (h : inOK c.vars.length c.arrays.length c.list.length ⟨8, a, b, c', d⟩ = true) :
 DC Try.prog 176 [.agg (cdC c),.agg (mcA s),.c (.msl 5 2 0 T.length)] (exB s T) (exeR ⟨8,a,b,c',d⟩ s T):=by
 have hmx:=mx_eq
 have hmv:=l6MoveO c ⟨8,a,b,c',d⟩ s hc1 hs h (by
  have:=hs.len
  simp [stepM,this])
 obtain ⟨h1,h2,h3,h4⟩:=hs
 have hbl:=blk_len h4
 have hb0:=fun h x h0 h4'=>blk0_at h4 h (x:=x) h0 h4'
 have hb1:=fun h x h0 h4'=>blk1_at h4 h (x:=x) h0 h4'
 have hnv:=h4.nv
 have hna:=h4.na
 have hn12:=h4.nv12
 have hn2:=h4.na2
 obtain ⟨vs,ar,l⟩:=c
 obtain ⟨pc,rg,m⟩:=s
 simp only [hdC] at h1 h2 h3 hnv hna hn12 hn2 hx hc1 hbl hb0 hb1 hmv
 simp only [inOK,kindsOf,fOK,topOf,Bool.and_eq_true,decide_eq_true_eq] at h
 simp at h
 have hxl:(l.map inX)[pc]? = some (inX ⟨8,a,b,c',d⟩):=by rw [List.getElem?_map,hx];rfl
 have hrr:=fun (i:Int) (h0:0≤i) (h1:i≤13)=>nth_lt (l:=rg) (i:=i) h0 (by omega)
 have hrl:(rg.map I64).length=14:=by rw [List.length_map];exact h2
 have hrg:=fun (i:Int) (h0:0≤i) (h1:i≤13)=>reg_rng h2 h3 (i:=i) h0 h1
 have htl:=trC_len T
 have htl2:(trC T++[.v (.int .i64 5),I64 (pc:Int)]).length=(T.length+1) * 2:=by simp [htl];omega
 have hvl:(m.vals.map I64).length=m.vals.length:=List.length_map _
 have hvv:=fun (i:Int) (h0:0≤i) (h1:i<m.vals.length)=>nth_lt (l:=m.vals) (i:=i) h0 h1
 have ret:∀ (K n:Nat) (pcv:Int) (cs c1 c2 c4 c5:List C) (hp:Hp),hp 0=some (some c1)→hp 1=some (some c2)→hp 2=some (some (hdr 3 4 m.arrays.length))→hp 3=some (some c4)→hp 4=some (some c5)→hp K=some (some cs)→5≤K →
  pcv=((stepM ⟨8,a,b,c',d⟩ ⟨pc,rg,m⟩).1.pc:Int)→c1=(stepM ⟨8,a,b,c',d⟩ ⟨pc,rg,m⟩).1.regs.map I64→c2=(stepM ⟨8,a,b,c',d⟩ ⟨pc,rg,m⟩).1.mem.vals.map I64→(stepM ⟨8,a,b,c',d⟩ ⟨pc,rg,m⟩).1.mem.vals.length=m.vals.length→(stepM ⟨8,a,b,c',d⟩ ⟨pc,rg,m⟩).1.mem.arrays.length=m.arrays.length →
  c4=blk0 (stepM ⟨8,a,b,c',d⟩ ⟨pc,rg,m⟩).1.mem.arrays→c5=blk1 (stepM ⟨8,a,b,c',d⟩ ⟨pc,rg,m⟩).1.mem.arrays→cs=trC (T++(stepM ⟨8,a,b,c',d⟩ ⟨pc,rg,m⟩).2)→n=(T++(stepM ⟨8,a,b,c',d⟩ ⟨pc,rg,m⟩).2).length→RetOb 6 (exeR ⟨8,a,b,c',d⟩ ⟨pc,rg,m⟩ T) (.tup [.agg [.v (.int .i64 pcv),.msl 0 1 0 14,.msl 1 1 0 m.vals.length,.msl 2 1 0 m.arrays.length],.c (.msl K 2 0 n)]) hp:=by
  rintro K n pcv cs c1 c2 c4 c5 hp q1 q2 q3 q4 q5 qk hK e0 rfl rfl f1 f2 rfl rfl rfl rfl
  subst e0
  refine RetOb.ofQ (fun j=>if j=6 then some K else some j) [] (.tup [.agg (mcA (stepM ⟨8,a,b,c',d⟩ ⟨pc,rg,m⟩).1),.c (.msl 6 2 0 (T++(stepM ⟨8,a,b,c',d⟩ ⟨pc,rg,m⟩).2).length)]) (exB' (stepM ⟨8,a,b,c',d⟩ ⟨pc,rg,m⟩).1 (T++(stepM ⟨8,a,b,c',d⟩ ⟨pc,rg,m⟩).2)) ?_ ⟨rfl,rfl⟩ (by simp [exB'])
  simp [exB',mcA,enumL,hOf,DM,DMs,CM,CMs,HpOK,LowOK,upd,CMs_I,CMs_tr,CMs_hdr,CMs_b0,CMs_b1,f1,f2,q1,q2,q3,q4,q5,qk]
  omega
 generalize hR:exeR ⟨8,a,b,c',d⟩ ⟨pc,rg,m⟩ T=R at ret ⊢
 clear hR
 unfold exB mcA cdC
 simp only
 refine dcZ Try.func176 ?_
 simp only [go_sem,hxl,inX,hrl,hvl,set_I]
 iterate 16 ((try (refine drvZ Try.func176 ?_;simp only [go_sem,hxl,inX,hrl,hvl,set_I]));((with_reducible and_intros)<;>try exact sd))
 refine XK.callG [0] hmv ok200 (hhp_one (by simp [-List.map_set,hpL,upd,renCs_I,stepM,set_I])) (hbT ()) (fun d h' ⟨_,e⟩=>by subst e;simp) ?_
 rintro _ _ ⟨rfl,rfl⟩ _
 iterate 4 ((try (refine drvZ Try.func176 ?_;simp only [go_sem,renCs_I]));((with_reducible and_intros)<;>try exact sd))
 exact ret _ _ _ _ _ _ _ _ _ rfl rfl rfl rfl rfl rfl (by decide) rfl (by simp [stepM]) (by simp [stepM]) (by simp [stepM]) (by simp [stepM]) (by simp [stepM]) (by simp [stepM]) (by simp [stepM,trC,Ev.cells]) (by simp [stepM])
theorem exec9 (c : Cd) (s : Mc) (T : List Ev) (hT : T.length ≤ 100000) (a b c' d : Int) (hc1 : c.list.length ≤ 400) (hs : MOK c s) (hx : c.list[s.pc]? = some ⟨9, a, b, c', d⟩) (h : inOK c.vars.length c.arrays.length c.list.length ⟨9, a, b, c', d⟩ = true) :
 DC Try.prog 176 [.agg (cdC c),.agg (mcA s),.c (.msl 5 2 0 T.length)] (exB s T) (exeR ⟨9,a,b,c',d⟩ s T):=by
 have hmx:=mx_eq
 have hmv:=l6MoveO c ⟨9,a,b,c',d⟩ s hc1 hs h (by
  have:=hs.len
  simp [stepM,this])
 obtain ⟨h1,h2,h3,h4⟩:=hs
 have hbl:=blk_len h4
 have hb0:=fun h x h0 h4'=>blk0_at h4 h (x:=x) h0 h4'
 have hb1:=fun h x h0 h4'=>blk1_at h4 h (x:=x) h0 h4'
 have hnv:=h4.nv
 have hna:=h4.na
 have hn12:=h4.nv12
 have hn2:=h4.na2
 obtain ⟨vs,ar,l⟩:=c
 obtain ⟨pc,rg,m⟩:=s
 simp only [hdC] at h1 h2 h3 hnv hna hn12 hn2 hx hc1 hbl hb0 hb1 hmv
 simp only [inOK,kindsOf,fOK,topOf,Bool.and_eq_true,decide_eq_true_eq] at h
 simp at h
 have hxl:(l.map inX)[pc]? = some (inX ⟨9,a,b,c',d⟩):=by rw [List.getElem?_map,hx];rfl
 have hrr:=fun (i:Int) (h0:0≤i) (h1:i≤13)=>nth_lt (l:=rg) (i:=i) h0 (by omega)
 have hrl:(rg.map I64).length=14:=by rw [List.length_map];exact h2
 have hrg:=fun (i:Int) (h0:0≤i) (h1:i≤13)=>reg_rng h2 h3 (i:=i) h0 h1
 have htl:=trC_len T
 have htl2:(trC T++[.v (.int .i64 5),I64 (pc:Int)]).length=(T.length+1) * 2:=by simp [htl];omega
 have hvl:(m.vals.map I64).length=m.vals.length:=List.length_map _
 have hvv:=fun (i:Int) (h0:0≤i) (h1:i<m.vals.length)=>nth_lt (l:=m.vals) (i:=i) h0 h1
 have ret:∀ (K n:Nat) (pcv:Int) (cs c1 c2 c4 c5:List C) (hp:Hp),hp 0=some (some c1)→hp 1=some (some c2)→hp 2=some (some (hdr 3 4 m.arrays.length))→hp 3=some (some c4)→hp 4=some (some c5)→hp K=some (some cs)→5≤K →
  pcv=((stepM ⟨9,a,b,c',d⟩ ⟨pc,rg,m⟩).1.pc:Int)→c1=(stepM ⟨9,a,b,c',d⟩ ⟨pc,rg,m⟩).1.regs.map I64→c2=(stepM ⟨9,a,b,c',d⟩ ⟨pc,rg,m⟩).1.mem.vals.map I64→(stepM ⟨9,a,b,c',d⟩ ⟨pc,rg,m⟩).1.mem.vals.length=m.vals.length→(stepM ⟨9,a,b,c',d⟩ ⟨pc,rg,m⟩).1.mem.arrays.length=m.arrays.length →
  c4=blk0 (stepM ⟨9,a,b,c',d⟩ ⟨pc,rg,m⟩).1.mem.arrays→c5=blk1 (stepM ⟨9,a,b,c',d⟩ ⟨pc,rg,m⟩).1.mem.arrays→cs=trC (T++(stepM ⟨9,a,b,c',d⟩ ⟨pc,rg,m⟩).2)→n=(T++(stepM ⟨9,a,b,c',d⟩ ⟨pc,rg,m⟩).2).length→RetOb 6 (exeR ⟨9,a,b,c',d⟩ ⟨pc,rg,m⟩ T) (.tup [.agg [.v (.int .i64 pcv),.msl 0 1 0 14,.msl 1 1 0 m.vals.length,.msl 2 1 0 m.arrays.length],.c (.msl K 2 0 n)]) hp:=by
  rintro K n pcv cs c1 c2 c4 c5 hp q1 q2 q3 q4 q5 qk hK e0 rfl rfl f1 f2 rfl rfl rfl rfl
  subst e0
  refine RetOb.ofQ (fun j=>if j=6 then some K else some j) [] (.tup [.agg (mcA (stepM ⟨9,a,b,c',d⟩ ⟨pc,rg,m⟩).1),.c (.msl 6 2 0 (T++(stepM ⟨9,a,b,c',d⟩ ⟨pc,rg,m⟩).2).length)]) (exB' (stepM ⟨9,a,b,c',d⟩ ⟨pc,rg,m⟩).1 (T++(stepM ⟨9,a,b,c',d⟩ ⟨pc,rg,m⟩).2)) ?_ ⟨rfl,rfl⟩ (by simp [exB'])
  simp [exB',mcA,enumL,hOf,DM,DMs,CM,CMs,HpOK,LowOK,upd,CMs_I,CMs_tr,CMs_hdr,CMs_b0,CMs_b1,f1,f2,q1,q2,q3,q4,q5,qk]
  omega
 generalize hR:exeR ⟨9,a,b,c',d⟩ ⟨pc,rg,m⟩ T=R at ret ⊢
 clear hR
 unfold exB mcA cdC
 simp only
 refine dcZ Try.func176 ?_
 simp only [go_sem,hxl,inX,hrl,hvl,set_I]
 iterate 18 ((try (refine drvZ Try.func176 ?_;simp only [go_sem,hxl,inX,hrl,hvl,set_I]));((with_reducible and_intros)<;>try exact sd))
 refine XK.callG [0] hmv ok200 (hhp_one (by simp [-List.map_set,hpL,upd,renCs_I,stepM,set_I])) (hbT ()) (fun d h' ⟨_,e⟩=>by subst e;simp) ?_
 rintro _ _ ⟨rfl,rfl⟩ _
 iterate 4 ((try (refine drvZ Try.func176 ?_;simp only [go_sem,renCs_I]));((with_reducible and_intros)<;>try exact sd))
 exact ret _ _ _ _ _ _ _ _ _ rfl rfl rfl rfl rfl rfl (by decide) rfl (by simp [stepM]) (by simp [stepM]) (by simp [stepM]) (by simp [stepM]) (by simp [stepM]) (by simp [stepM]) (by simp [stepM,trC,Ev.cells]) (by simp [stepM])
theorem exec10 (c : Cd) (s : Mc) (T : List Ev) (hT : T.length ≤ 100000) (a b c' d : Int) (hc1 : c.list.length ≤ 400) (hs : MOK c s) (hx : c.list[s.pc]? = some ⟨10, a, b, c', d⟩) (h : inOK c.vars.length c.arrays.length c.list.length ⟨10, a, b, c', d⟩ = true) :
 DC Try.prog 176 [.agg (cdC c),.agg (mcA s),.c (.msl 5 2 0 T.length)] (exB s T) (exeR ⟨10,a,b,c',d⟩ s T):=by
 have hmx:=mx_eq
 have hmv:=l6MoveO c ⟨10,a,b,c',d⟩ s hc1 hs h (by
  have:=hs.len
  simp [stepM,this])
 obtain ⟨h1,h2,h3,h4⟩:=hs
 have hbl:=blk_len h4
 have hb0:=fun h x h0 h4'=>blk0_at h4 h (x:=x) h0 h4'
 have hb1:=fun h x h0 h4'=>blk1_at h4 h (x:=x) h0 h4'
 have hnv:=h4.nv
 have hna:=h4.na
 have hn12:=h4.nv12
 have hn2:=h4.na2
 obtain ⟨vs,ar,l⟩:=c
 obtain ⟨pc,rg,m⟩:=s
 simp only [hdC] at h1 h2 h3 hnv hna hn12 hn2 hx hc1 hbl hb0 hb1 hmv
 simp only [inOK,kindsOf,fOK,topOf,Bool.and_eq_true,decide_eq_true_eq] at h
 simp at h
 have hxl:(l.map inX)[pc]? = some (inX ⟨10,a,b,c',d⟩):=by rw [List.getElem?_map,hx];rfl
 have hrr:=fun (i:Int) (h0:0≤i) (h1:i≤13)=>nth_lt (l:=rg) (i:=i) h0 (by omega)
 have hrl:(rg.map I64).length=14:=by rw [List.length_map];exact h2
 have hrg:=fun (i:Int) (h0:0≤i) (h1:i≤13)=>reg_rng h2 h3 (i:=i) h0 h1
 have htl:=trC_len T
 have htl2:(trC T++[.v (.int .i64 5),I64 (pc:Int)]).length=(T.length+1) * 2:=by simp [htl];omega
 have hvl:(m.vals.map I64).length=m.vals.length:=List.length_map _
 have hvv:=fun (i:Int) (h0:0≤i) (h1:i<m.vals.length)=>nth_lt (l:=m.vals) (i:=i) h0 h1
 have ret:∀ (K n:Nat) (pcv:Int) (cs c1 c2 c4 c5:List C) (hp:Hp),hp 0=some (some c1)→hp 1=some (some c2)→hp 2=some (some (hdr 3 4 m.arrays.length))→hp 3=some (some c4)→hp 4=some (some c5)→hp K=some (some cs)→5≤K →
  pcv=((stepM ⟨10,a,b,c',d⟩ ⟨pc,rg,m⟩).1.pc:Int)→c1=(stepM ⟨10,a,b,c',d⟩ ⟨pc,rg,m⟩).1.regs.map I64→c2=(stepM ⟨10,a,b,c',d⟩ ⟨pc,rg,m⟩).1.mem.vals.map I64→(stepM ⟨10,a,b,c',d⟩ ⟨pc,rg,m⟩).1.mem.vals.length=m.vals.length→(stepM ⟨10,a,b,c',d⟩ ⟨pc,rg,m⟩).1.mem.arrays.length=m.arrays.length →
  c4=blk0 (stepM ⟨10,a,b,c',d⟩ ⟨pc,rg,m⟩).1.mem.arrays→c5=blk1 (stepM ⟨10,a,b,c',d⟩ ⟨pc,rg,m⟩).1.mem.arrays→cs=trC (T++(stepM ⟨10,a,b,c',d⟩ ⟨pc,rg,m⟩).2)→n=(T++(stepM ⟨10,a,b,c',d⟩ ⟨pc,rg,m⟩).2).length→RetOb 6 (exeR ⟨10,a,b,c',d⟩ ⟨pc,rg,m⟩ T) (.tup [.agg [.v (.int .i64 pcv),.msl 0 1 0 14,.msl 1 1 0 m.vals.length,.msl 2 1 0 m.arrays.length],.c (.msl K 2 0 n)]) hp:=by
  rintro K n pcv cs c1 c2 c4 c5 hp q1 q2 q3 q4 q5 qk hK e0 rfl rfl f1 f2 rfl rfl rfl rfl
  subst e0
  refine RetOb.ofQ (fun j=>if j=6 then some K else some j) [] (.tup [.agg (mcA (stepM ⟨10,a,b,c',d⟩ ⟨pc,rg,m⟩).1),.c (.msl 6 2 0 (T++(stepM ⟨10,a,b,c',d⟩ ⟨pc,rg,m⟩).2).length)]) (exB' (stepM ⟨10,a,b,c',d⟩ ⟨pc,rg,m⟩).1 (T++(stepM ⟨10,a,b,c',d⟩ ⟨pc,rg,m⟩).2)) ?_ ⟨rfl,rfl⟩ (by simp [exB'])
  simp [exB',mcA,enumL,hOf,DM,DMs,CM,CMs,HpOK,LowOK,upd,CMs_I,CMs_tr,CMs_hdr,CMs_b0,CMs_b1,f1,f2,q1,q2,q3,q4,q5,qk]
  omega
 generalize hR:exeR ⟨10,a,b,c',d⟩ ⟨pc,rg,m⟩ T=R at ret ⊢
 clear hR
 unfold exB mcA cdC
 simp only
 have hv:=hrr a (by omega) (by omega)
 have hrc:=hrg a (by omega) (by omega)
 refine dcZ Try.func176 ?_
 simp only [go_sem,hxl,inX,hrl,hvl,set_I,hv]
 iterate 20 ((try (refine drvZ Try.func176 ?_;simp only [go_sem,hxl,inX,hrl,hvl,set_I,hv]));((with_reducible and_intros)<;>try exact sd))
 refine XK.callG [0] hmv ok200 (hhp_one (by simp [-List.map_set,hpL,upd,renCs_I,stepM,set_I])) (hbT ()) (fun d h' ⟨_,e⟩=>by subst e;simp) ?_
 rintro _ _ ⟨rfl,rfl⟩ _
 iterate 4 ((try (refine drvZ Try.func176 ?_;simp only [go_sem,renCs_I]));((with_reducible and_intros)<;>try exact sd))
 exact ret _ _ _ _ _ _ _ _ _ rfl rfl rfl rfl rfl rfl (by decide) rfl (by simp [stepM]) (by simp [stepM]) (by simp [stepM]) (by simp [stepM]) (by simp [stepM]) (by simp [stepM]) (by simp [stepM,trC,Ev.cells]) (by simp [stepM])
theorem exec11 (c : Cd) (s : Mc) (T : List Ev) (hT : T.length ≤ 100000) (a b c' d : Int) (hc1 : c.list.length ≤ 400) (hs : MOK c s) (hx : c.list[s.pc]? = some ⟨11, a, b, c', d⟩) (h : inOK c.vars.length c.arrays.length c.list.length ⟨11, a, b, c', d⟩ = true) :
 DC Try.prog 176 [.agg (cdC c),.agg (mcA s),.c (.msl 5 2 0 T.length)] (exB s T) (exeR ⟨11,a,b,c',d⟩ s T):=by
 have hmx:=mx_eq
 have hmv:=l6MoveO c ⟨11,a,b,c',d⟩ s hc1 hs h (by
  have:=hs.len
  simp [stepM,this])
 obtain ⟨h1,h2,h3,h4⟩:=hs
 have hbl:=blk_len h4
 have hb0:=fun h x h0 h4'=>blk0_at h4 h (x:=x) h0 h4'
 have hb1:=fun h x h0 h4'=>blk1_at h4 h (x:=x) h0 h4'
 have hnv:=h4.nv
 have hna:=h4.na
 have hn12:=h4.nv12
 have hn2:=h4.na2
 obtain ⟨vs,ar,l⟩:=c
 obtain ⟨pc,rg,m⟩:=s
 simp only [hdC] at h1 h2 h3 hnv hna hn12 hn2 hx hc1 hbl hb0 hb1 hmv
 simp only [inOK,kindsOf,fOK,topOf,Bool.and_eq_true,decide_eq_true_eq] at h
 simp at h
 have hxl:(l.map inX)[pc]? = some (inX ⟨11,a,b,c',d⟩):=by rw [List.getElem?_map,hx];rfl
 have hrr:=fun (i:Int) (h0:0≤i) (h1:i≤13)=>nth_lt (l:=rg) (i:=i) h0 (by omega)
 have hrl:(rg.map I64).length=14:=by rw [List.length_map];exact h2
 have hrg:=fun (i:Int) (h0:0≤i) (h1:i≤13)=>reg_rng h2 h3 (i:=i) h0 h1
 have htl:=trC_len T
 have htl2:(trC T++[.v (.int .i64 5),I64 (pc:Int)]).length=(T.length+1) * 2:=by simp [htl];omega
 have hvl:(m.vals.map I64).length=m.vals.length:=List.length_map _
 have hvv:=fun (i:Int) (h0:0≤i) (h1:i<m.vals.length)=>nth_lt (l:=m.vals) (i:=i) h0 h1
 have ret:∀ (K n:Nat) (pcv:Int) (cs c1 c2 c4 c5:List C) (hp:Hp),hp 0=some (some c1)→hp 1=some (some c2)→hp 2=some (some (hdr 3 4 m.arrays.length))→hp 3=some (some c4)→hp 4=some (some c5)→hp K=some (some cs)→5≤K →
  pcv=((stepM ⟨11,a,b,c',d⟩ ⟨pc,rg,m⟩).1.pc:Int)→c1=(stepM ⟨11,a,b,c',d⟩ ⟨pc,rg,m⟩).1.regs.map I64→c2=(stepM ⟨11,a,b,c',d⟩ ⟨pc,rg,m⟩).1.mem.vals.map I64→(stepM ⟨11,a,b,c',d⟩ ⟨pc,rg,m⟩).1.mem.vals.length=m.vals.length→(stepM ⟨11,a,b,c',d⟩ ⟨pc,rg,m⟩).1.mem.arrays.length=m.arrays.length →
  c4=blk0 (stepM ⟨11,a,b,c',d⟩ ⟨pc,rg,m⟩).1.mem.arrays→c5=blk1 (stepM ⟨11,a,b,c',d⟩ ⟨pc,rg,m⟩).1.mem.arrays→cs=trC (T++(stepM ⟨11,a,b,c',d⟩ ⟨pc,rg,m⟩).2)→n=(T++(stepM ⟨11,a,b,c',d⟩ ⟨pc,rg,m⟩).2).length→RetOb 6 (exeR ⟨11,a,b,c',d⟩ ⟨pc,rg,m⟩ T) (.tup [.agg [.v (.int .i64 pcv),.msl 0 1 0 14,.msl 1 1 0 m.vals.length,.msl 2 1 0 m.arrays.length],.c (.msl K 2 0 n)]) hp:=by
  rintro K n pcv cs c1 c2 c4 c5 hp q1 q2 q3 q4 q5 qk hK e0 rfl rfl f1 f2 rfl rfl rfl rfl
  subst e0
  refine RetOb.ofQ (fun j=>if j=6 then some K else some j) [] (.tup [.agg (mcA (stepM ⟨11,a,b,c',d⟩ ⟨pc,rg,m⟩).1),.c (.msl 6 2 0 (T++(stepM ⟨11,a,b,c',d⟩ ⟨pc,rg,m⟩).2).length)]) (exB' (stepM ⟨11,a,b,c',d⟩ ⟨pc,rg,m⟩).1 (T++(stepM ⟨11,a,b,c',d⟩ ⟨pc,rg,m⟩).2)) ?_ ⟨rfl,rfl⟩ (by simp [exB'])
  simp [exB',mcA,enumL,hOf,DM,DMs,CM,CMs,HpOK,LowOK,upd,CMs_I,CMs_tr,CMs_hdr,CMs_b0,CMs_b1,f1,f2,q1,q2,q3,q4,q5,qk]
  omega
 generalize hR:exeR ⟨11,a,b,c',d⟩ ⟨pc,rg,m⟩ T=R at ret ⊢
 clear hR
 unfold exB mcA cdC
 simp only
 have hv:=hrr a (by omega) (by omega)
 refine dcZ Try.func176 ?_
 simp only [go_sem,hxl,inX,hrl,hvl,set_I,hv]
 iterate 20 ((try (refine drvZ Try.func176 ?_;simp only [go_sem,hxl,inX,hrl,hvl,set_I,hv]));((with_reducible and_intros)<;>try exact sd))
 refine XK.callG [0] hmv ok200 (hhp_one (by simp [-List.map_set,hpL,upd,renCs_I,stepM,set_I])) (hbT ()) (fun d h' ⟨_,e⟩=>by subst e;simp) ?_
 rintro _ _ ⟨rfl,rfl⟩ _
 iterate 4 ((try (refine drvZ Try.func176 ?_;simp only [go_sem,renCs_I]));((with_reducible and_intros)<;>try exact sd))
 exact ret _ _ _ _ _ _ _ _ _ rfl rfl rfl rfl rfl rfl (by decide) rfl (by simp [stepM]) (by simp [stepM]) (by simp [stepM]) (by simp [stepM]) (by simp [stepM]) (by simp [stepM]) (by simp [stepM,trC,Ev.cells]) (by simp [stepM])
theorem exec12 (c : Cd) (s : Mc) (T : List Ev) (hT : T.length ≤ 100000) (a b c' d : Int) (hc1 : c.list.length ≤ 400) (hs : MOK c s) (hx : c.list[s.pc]? = some ⟨12, a, b, c', d⟩) (h : inOK c.vars.length c.arrays.length c.list.length ⟨12, a, b, c', d⟩ = true) :
 DC Try.prog 176 [.agg (cdC c),.agg (mcA s),.c (.msl 5 2 0 T.length)] (exB s T) (exeR ⟨12,a,b,c',d⟩ s T):=by
 have hmx:=mx_eq
 have hmv:=l6MoveO c ⟨12,a,b,c',d⟩ s hc1 hs h (by
  have:=hs.len
  simp [stepM,this])
 obtain ⟨h1,h2,h3,h4⟩:=hs
 have hbl:=blk_len h4
 have hb0:=fun h x h0 h4'=>blk0_at h4 h (x:=x) h0 h4'
 have hb1:=fun h x h0 h4'=>blk1_at h4 h (x:=x) h0 h4'
 have hnv:=h4.nv
 have hna:=h4.na
 have hn12:=h4.nv12
 have hn2:=h4.na2
 obtain ⟨vs,ar,l⟩:=c
 obtain ⟨pc,rg,m⟩:=s
 simp only [hdC] at h1 h2 h3 hnv hna hn12 hn2 hx hc1 hbl hb0 hb1 hmv
 simp only [inOK,kindsOf,fOK,topOf,Bool.and_eq_true,decide_eq_true_eq] at h
 simp at h
 have hxl:(l.map inX)[pc]? = some (inX ⟨12,a,b,c',d⟩):=by rw [List.getElem?_map,hx];rfl
 have hrr:=fun (i:Int) (h0:0≤i) (h1:i≤13)=>nth_lt (l:=rg) (i:=i) h0 (by omega)
 have hrl:(rg.map I64).length=14:=by rw [List.length_map];exact h2
 have hrg:=fun (i:Int) (h0:0≤i) (h1:i≤13)=>reg_rng h2 h3 (i:=i) h0 h1
 have htl:=trC_len T
 have htl2:(trC T++[.v (.int .i64 5),I64 (pc:Int)]).length=(T.length+1) * 2:=by simp [htl];omega
 have hvl:(m.vals.map I64).length=m.vals.length:=List.length_map _
 have hvv:=fun (i:Int) (h0:0≤i) (h1:i<m.vals.length)=>nth_lt (l:=m.vals) (i:=i) h0 h1
 have ret:∀ (K n:Nat) (pcv:Int) (cs c1 c2 c4 c5:List C) (hp:Hp),hp 0=some (some c1)→hp 1=some (some c2)→hp 2=some (some (hdr 3 4 m.arrays.length))→hp 3=some (some c4)→hp 4=some (some c5)→hp K=some (some cs)→5≤K →
  pcv=((stepM ⟨12,a,b,c',d⟩ ⟨pc,rg,m⟩).1.pc:Int)→c1=(stepM ⟨12,a,b,c',d⟩ ⟨pc,rg,m⟩).1.regs.map I64→c2=(stepM ⟨12,a,b,c',d⟩ ⟨pc,rg,m⟩).1.mem.vals.map I64→(stepM ⟨12,a,b,c',d⟩ ⟨pc,rg,m⟩).1.mem.vals.length=m.vals.length→(stepM ⟨12,a,b,c',d⟩ ⟨pc,rg,m⟩).1.mem.arrays.length=m.arrays.length →
  c4=blk0 (stepM ⟨12,a,b,c',d⟩ ⟨pc,rg,m⟩).1.mem.arrays→c5=blk1 (stepM ⟨12,a,b,c',d⟩ ⟨pc,rg,m⟩).1.mem.arrays→cs=trC (T++(stepM ⟨12,a,b,c',d⟩ ⟨pc,rg,m⟩).2)→n=(T++(stepM ⟨12,a,b,c',d⟩ ⟨pc,rg,m⟩).2).length→RetOb 6 (exeR ⟨12,a,b,c',d⟩ ⟨pc,rg,m⟩ T) (.tup [.agg [.v (.int .i64 pcv),.msl 0 1 0 14,.msl 1 1 0 m.vals.length,.msl 2 1 0 m.arrays.length],.c (.msl K 2 0 n)]) hp:=by
  rintro K n pcv cs c1 c2 c4 c5 hp q1 q2 q3 q4 q5 qk hK e0 rfl rfl f1 f2 rfl rfl rfl rfl
  subst e0
  refine RetOb.ofQ (fun j=>if j=6 then some K else some j) [] (.tup [.agg (mcA (stepM ⟨12,a,b,c',d⟩ ⟨pc,rg,m⟩).1),.c (.msl 6 2 0 (T++(stepM ⟨12,a,b,c',d⟩ ⟨pc,rg,m⟩).2).length)]) (exB' (stepM ⟨12,a,b,c',d⟩ ⟨pc,rg,m⟩).1 (T++(stepM ⟨12,a,b,c',d⟩ ⟨pc,rg,m⟩).2)) ?_ ⟨rfl,rfl⟩ (by simp [exB'])
  simp [exB',mcA,enumL,hOf,DM,DMs,CM,CMs,HpOK,LowOK,upd,CMs_I,CMs_tr,CMs_hdr,CMs_b0,CMs_b1,f1,f2,q1,q2,q3,q4,q5,qk]
  omega
 generalize hR:exeR ⟨12,a,b,c',d⟩ ⟨pc,rg,m⟩ T=R at ret ⊢
 clear hR
 unfold exB mcA cdC
 simp only
 refine dcZ Try.func176 ?_
 simp only [go_sem,hxl,inX,hrl,hvl,set_I]
 iterate 20 ((try (refine drvZ Try.func176 ?_;simp only [go_sem,hxl,inX,hrl,hvl,set_I]));((with_reducible and_intros)<;>try exact sd))
 refine XK.callG [0] hmv ok200 (hhp_one (by simp [-List.map_set,hpL,upd,renCs_I,stepM,set_I])) (hbT ()) (fun d h' ⟨_,e⟩=>by subst e;simp) ?_
 rintro _ _ ⟨rfl,rfl⟩ _
 iterate 4 ((try (refine drvZ Try.func176 ?_;simp only [go_sem,renCs_I]));((with_reducible and_intros)<;>try exact sd))
 exact ret _ _ _ _ _ _ _ _ _ rfl rfl rfl rfl rfl rfl (by decide) rfl (by simp [stepM]) (by simp [stepM]) (by simp [stepM]) (by simp [stepM]) (by simp [stepM]) (by simp [stepM]) (by simp [stepM,trC,Ev.cells]) (by simp [stepM])
theorem exec13 (c : Cd) (s : Mc) (T : List Ev) (hT : T.length ≤ 100000) (a b c' d : Int) (hc1 : c.list.length ≤ 400) (hs : MOK c s) (hx : c.list[s.pc]? = some ⟨13, a, b, c', d⟩) (h : inOK c.vars.length c.arrays.length c.list.length ⟨13, a, b, c', d⟩ = true) :
 DC Try.prog 176 [.agg (cdC c),.agg (mcA s),.c (.msl 5 2 0 T.length)] (exB s T) (exeR ⟨13,a,b,c',d⟩ s T):=by
 have hmx:=mx_eq
 have hmv:=l6MoveO c ⟨13,a,b,c',d⟩ s hc1 hs h (by
  have:=hs.len
  simp [stepM,this])
 obtain ⟨h1,h2,h3,h4⟩:=hs
 have hbl:=blk_len h4
 have hb0:=fun h x h0 h4'=>blk0_at h4 h (x:=x) h0 h4'
 have hb1:=fun h x h0 h4'=>blk1_at h4 h (x:=x) h0 h4'
 have hnv:=h4.nv
 have hna:=h4.na
 have hn12:=h4.nv12
 have hn2:=h4.na2
 obtain ⟨vs,ar,l⟩:=c
 obtain ⟨pc,rg,m⟩:=s
 simp only [hdC] at h1 h2 h3 hnv hna hn12 hn2 hx hc1 hbl hb0 hb1 hmv
 simp only [inOK,kindsOf,fOK,topOf,Bool.and_eq_true,decide_eq_true_eq] at h
 simp at h
 have hxl:(l.map inX)[pc]? = some (inX ⟨13,a,b,c',d⟩):=by rw [List.getElem?_map,hx];rfl
 have hrr:=fun (i:Int) (h0:0≤i) (h1:i≤13)=>nth_lt (l:=rg) (i:=i) h0 (by omega)
 have hrl:(rg.map I64).length=14:=by rw [List.length_map];exact h2
 have hrg:=fun (i:Int) (h0:0≤i) (h1:i≤13)=>reg_rng h2 h3 (i:=i) h0 h1
 have htl:=trC_len T
 have htl2:(trC T++[.v (.int .i64 5),I64 (pc:Int)]).length=(T.length+1) * 2:=by simp [htl];omega
 have hvl:(m.vals.map I64).length=m.vals.length:=List.length_map _
 have hvv:=fun (i:Int) (h0:0≤i) (h1:i<m.vals.length)=>nth_lt (l:=m.vals) (i:=i) h0 h1
 have ret:∀ (K n:Nat) (pcv:Int) (cs c1 c2 c4 c5:List C) (hp:Hp),hp 0=some (some c1)→hp 1=some (some c2)→hp 2=some (some (hdr 3 4 m.arrays.length))→hp 3=some (some c4)→hp 4=some (some c5)→hp K=some (some cs)→5≤K →
  pcv=((stepM ⟨13,a,b,c',d⟩ ⟨pc,rg,m⟩).1.pc:Int)→c1=(stepM ⟨13,a,b,c',d⟩ ⟨pc,rg,m⟩).1.regs.map I64→c2=(stepM ⟨13,a,b,c',d⟩ ⟨pc,rg,m⟩).1.mem.vals.map I64→(stepM ⟨13,a,b,c',d⟩ ⟨pc,rg,m⟩).1.mem.vals.length=m.vals.length→(stepM ⟨13,a,b,c',d⟩ ⟨pc,rg,m⟩).1.mem.arrays.length=m.arrays.length →
  c4=blk0 (stepM ⟨13,a,b,c',d⟩ ⟨pc,rg,m⟩).1.mem.arrays→c5=blk1 (stepM ⟨13,a,b,c',d⟩ ⟨pc,rg,m⟩).1.mem.arrays→cs=trC (T++(stepM ⟨13,a,b,c',d⟩ ⟨pc,rg,m⟩).2)→n=(T++(stepM ⟨13,a,b,c',d⟩ ⟨pc,rg,m⟩).2).length→RetOb 6 (exeR ⟨13,a,b,c',d⟩ ⟨pc,rg,m⟩ T) (.tup [.agg [.v (.int .i64 pcv),.msl 0 1 0 14,.msl 1 1 0 m.vals.length,.msl 2 1 0 m.arrays.length],.c (.msl K 2 0 n)]) hp:=by
  rintro K n pcv cs c1 c2 c4 c5 hp q1 q2 q3 q4 q5 qk hK e0 rfl rfl f1 f2 rfl rfl rfl rfl
  subst e0
  refine RetOb.ofQ (fun j=>if j=6 then some K else some j) [] (.tup [.agg (mcA (stepM ⟨13,a,b,c',d⟩ ⟨pc,rg,m⟩).1),.c (.msl 6 2 0 (T++(stepM ⟨13,a,b,c',d⟩ ⟨pc,rg,m⟩).2).length)]) (exB' (stepM ⟨13,a,b,c',d⟩ ⟨pc,rg,m⟩).1 (T++(stepM ⟨13,a,b,c',d⟩ ⟨pc,rg,m⟩).2)) ?_ ⟨rfl,rfl⟩ (by simp [exB'])
  simp [exB',mcA,enumL,hOf,DM,DMs,CM,CMs,HpOK,LowOK,upd,CMs_I,CMs_tr,CMs_hdr,CMs_b0,CMs_b1,f1,f2,q1,q2,q3,q4,q5,qk]
  omega
 generalize hR:exeR ⟨13,a,b,c',d⟩ ⟨pc,rg,m⟩ T=R at ret ⊢
 clear hR
 unfold exB mcA cdC
 simp only
 refine dcZ Try.func176 ?_
 simp only [go_sem,hxl,inX,hrl,hvl,set_I]
 iterate 20 ((try (refine drvZ Try.func176 ?_;simp only [go_sem,hxl,inX,hrl,hvl,set_I]));((with_reducible and_intros)<;>try exact sd))
 refine XK.callG [0] hmv ok200 (hhp_one (by simp [-List.map_set,hpL,upd,renCs_I,stepM,set_I])) (hbT ()) (fun d h' ⟨_,e⟩=>by subst e;simp) ?_
 rintro _ _ ⟨rfl,rfl⟩ _
 iterate 4 ((try (refine drvZ Try.func176 ?_;simp only [go_sem,renCs_I]));((with_reducible and_intros)<;>try exact sd))
 exact ret _ _ _ _ _ _ _ _ _ rfl rfl rfl rfl rfl rfl (by decide) rfl (by simp [stepM]) (by simp [stepM]) (by simp [stepM]) (by simp [stepM]) (by simp [stepM]) (by simp [stepM]) (by simp [stepM,trC,Ev.cells]) (by simp [stepM])
end Go.Proofs.Ytddanjifhdaebaa.CtD
