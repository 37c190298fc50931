/- Contracts of functions of the program, one behind the other, as plain data: what each call returns and which blocks it leaves. -/
import Derived.Test.YtbknljofedfpjaaGreatXFacts
import Derived.Test.YtbknljofedfpjaaGreatXAi
import Derived.Test.YtbknljofedfpjaaGreatXAk
import Derived.Test.YtbknljofedfpjaaGreatXAm
import Derived.Test.YtbknljofedfpjaaGreatXAn
import Derived.Test.YtbknljofedfpjaaGreatXAp
import Derived.Test.YtbknljofedfpjaaGreatXAq
import Derived.Test.YtbknljofedfpjaaGreatXAr
import Derived.Test.YtbknljofedfpjaaGreatXAs
set_option linter.unusedVariables false
set_option linter.unusedSimpArgs false
set_option linter.unusedSectionVars false
set_option maxHeartbeats 16000000
set_option maxRecDepth 100000
namespace Go.Proofs.YtbknljofedfpjaaGreat.CtD
open Go Go.CT CtF CtR
variable [Yn]
open CtL (In Cd Mc stepM kindsOf topOf fOK inOK endOK codeOK)
def stB (s:Mc):List (Option (List C)):=[some [I64 s.pc,.msl 1 1 0 14,.msl 2 1 0 s.mem.vals.length,.msl 3 1 0 s.mem.arrays.length],some (s.regs.map I64),some (s.mem.vals.map I64),some (hdr 4 5 s.mem.arrays.length),some (blk0 s.mem.arrays),some (blk1 s.mem.arrays)]
def hdC (c:Cd):Pg:=⟨c.vars,c.arrays,[]⟩
structure MOK (c : Cd) (s : Mc) : Prop where
 pc:s.pc<c.list.length
 len:s.regs.length=14
 reg:∀ r ∈ s.regs,0≤r∧r≤255
 mem:MemFits (hdC c) s.mem
def stepR (x:In) (s:Mc) (r:D) (h:List (Option (List C))):Prop:=r = .c (.msl 6 2 0 (stepM x s).2.length)∧h=stB (stepM x s).1++[some (trC (stepM x s).2)]
theorem nth_lt {l:List Int} {i:Int} (h0:0≤i) (h:i<l.length):(l.map I64)[i.toNat]? = some (I64 (nth l i)):=by
 rw [List.getElem?_map,(nth_mem h0 h).1];rfl
theorem set_I (l:List Int) (i:Nat) (x:Int):(l.map I64).set i (.v (.int .i64 x))=(l.set i x).map I64:=(List.map_set).symm
theorem hdr0 {n:Nat} (h:0<n):(hdr 4 5 n)[0]? = some (.msl 4 1 0 4):=by
 unfold hdr
 match n,h with
 | n+1,_=>rfl
theorem hdr1 {n:Nat} (h:1<n):(hdr 4 5 n)[1]? = some (.msl 5 1 0 4):=by
 unfold hdr
 match n,h with
 | n+2,_=>rfl
theorem blk0_at {p:Pg} {m:Mm} (hm:MemFits p m) (h:0<m.arrays.length) {x:Int} (h0:0≤x) (h4:x<4):(blk0 m.arrays)[x.toNat]? = some (I64 (nth (arrAt m 0) x)):=by
 have e:m.arrays[0]? = some (arrAt m 0):=(arrAt_mem (m:=m) (v:=0) (by omega) (by omega)).1
 have hl:=(hm.arr _ (arrAt_mem (m:=m) (v:=0) (by omega) (by omega)).2).1
 unfold blk0
 rw [e]
 exact nth_lt h0 (by simp only [Option.getD_some];omega)
theorem blk1_at {p:Pg} {m:Mm} (hm:MemFits p m) (h:1<m.arrays.length) {x:Int} (h0:0≤x) (h4:x<4):(blk1 m.arrays)[x.toNat]? = some (I64 (nth (arrAt m 1) x)):=by
 have e:m.arrays[1]? = some (arrAt m 1):=(arrAt_mem (m:=m) (v:=1) (by omega) (by omega)).1
 have hl:=(hm.arr _ (arrAt_mem (m:=m) (v:=1) (by omega) (by omega)).2).1
 unfold blk1
 rw [e]
 exact nth_lt h0 (by simp only [Option.getD_some];omega)
theorem blk_len {p:Pg} {m:Mm} (hm:MemFits p m):(0<m.arrays.length→(blk0 m.arrays).length=4)∧(1<m.arrays.length→(blk1 m.arrays).length=4):=by
 refine ⟨fun h=>?_,fun h=>?_⟩
 ·have e:m.arrays[0]? = some (arrAt m 0):=(arrAt_mem (m:=m) (v:=0) (by omega) (by omega)).1
  have hl:=(hm.arr _ (arrAt_mem (m:=m) (v:=0) (by omega) (by omega)).2).1
  simp [blk0,e,hl]
 ·have e:m.arrays[1]? = some (arrAt m 1):=(arrAt_mem (m:=m) (v:=1) (by omega) (by omega)).1
  have hl:=(hm.arr _ (arrAt_mem (m:=m) (v:=1) (by omega) (by omega)).2).1
  simp [blk1,e,hl]
theorem reg_rng {l:List Int} (h14:l.length=14) (h:∀ r ∈ l,0≤r∧r≤255) {i:Int} (h0:0≤i) (h1:i≤13):0≤nth l i∧nth l i≤255:=h _ (nth_mem h0 (by omega)).2
theorem step1 (c : Cd) (s : Mc) (a b c' d : Int) (hc1 : c.list.length ≤ 400) (hs : MOK c s) (hx : c.list[s.pc]? = some ⟨1, a, b, c', d⟩) (h : inOK c.vars.length c.arrays.length c.list.length ⟨1, a, b, c', d⟩ = true) :
 DC Tryz.prog 107 [.c (.ptr 0 0),.agg (cdC c)] (stB s) (stepR ⟨1,a,b,c',d⟩ s):=by
 have hmx:=mx_eq
 obtain ⟨h1,h2,h3,h4⟩:=hs
 have hbl:=blk_len h4
 have hb0:=fun h x h0 h4'=>blk0_at h4 h (x:=x) h0 h4'
 have hb1:=fun h x h0 h4'=>blk1_at h4 h (x:=x) h0 h4'
 have hnv:=h4.nv
 have hna:=h4.na
 have hn12:=h4.nv12
 have hn2:=h4.na2
 have hpcx:(s.pc:Int)+1=((s.pc+1:Nat):Int):=by omega
 obtain ⟨vs,ar,l⟩:=c
 obtain ⟨pc,rg,m⟩:=s
 simp only [hdC] at h1 h2 h3 hnv hna hn12 hn2 hx hc1 hbl hb0 hb1
 simp only [inOK,kindsOf,fOK,topOf,Bool.and_eq_true,decide_eq_true_eq] at h
 simp at h
 have hxl:(l.map inX)[pc]? = some (inX ⟨1,a,b,c',d⟩):=by rw [List.getElem?_map,hx];rfl
 have hrr:=fun (i:Int) (h0:0≤i) (h1:i≤13)=>nth_lt (l:=rg) (i:=i) h0 (by omega)
 have hrl:(rg.map I64).length=14:=by rw [List.length_map];exact h2
 have hrg:=fun (i:Int) (h0:0≤i) (h1:i≤13)=>reg_rng h2 h3 (i:=i) h0 h1
 have hvl:(m.vals.map I64).length=m.vals.length:=List.length_map _
 have hvv:=fun (i:Int) (h0:0≤i) (h1:i<m.vals.length)=>nth_lt (l:=m.vals) (i:=i) h0 h1
 have ret:∀ (K n:Nat) (pcv:Int) (cs c1 c2 c4 c5:List C) (hp:Hp),hp 0=some (some [.v (.int .i64 pcv),.msl 1 1 0 14,.msl 2 1 0 m.vals.length,.msl 3 1 0 m.arrays.length])→hp 1=some (some c1)→hp 2=some (some c2)→hp 3=some (some (hdr 4 5 m.arrays.length))→hp 4=some (some c4)→hp 5=some (some c5)→hp K=some (some cs)→6≤K →
  pcv=((stepM ⟨1,a,b,c',d⟩ ⟨pc,rg,m⟩).1.pc:Int)→c1=(stepM ⟨1,a,b,c',d⟩ ⟨pc,rg,m⟩).1.regs.map I64→c2=(stepM ⟨1,a,b,c',d⟩ ⟨pc,rg,m⟩).1.mem.vals.map I64→(stepM ⟨1,a,b,c',d⟩ ⟨pc,rg,m⟩).1.mem.vals.length=m.vals.length→(stepM ⟨1,a,b,c',d⟩ ⟨pc,rg,m⟩).1.mem.arrays.length=m.arrays.length →
  c4=blk0 (stepM ⟨1,a,b,c',d⟩ ⟨pc,rg,m⟩).1.mem.arrays→c5=blk1 (stepM ⟨1,a,b,c',d⟩ ⟨pc,rg,m⟩).1.mem.arrays→cs=trC (stepM ⟨1,a,b,c',d⟩ ⟨pc,rg,m⟩).2→n=(stepM ⟨1,a,b,c',d⟩ ⟨pc,rg,m⟩).2.length→RetOb 6 (stepR ⟨1,a,b,c',d⟩ ⟨pc,rg,m⟩) (.c (.msl K 2 0 n)) hp:=by
  rintro K n pcv cs c1 c2 c4 c5 hp q0 q1 q2 q3 q4 q5 qk hK e0 rfl rfl f1 f2 rfl rfl rfl rfl
  subst e0
  refine RetOb.ofQ (fun j=>if j=6 then some K else some j) [] (.c (.msl 6 2 0 _)) (stB (stepM ⟨1,a,b,c',d⟩ ⟨pc,rg,m⟩).1++[some (trC (stepM ⟨1,a,b,c',d⟩ ⟨pc,rg,m⟩).2)]) ?_ ⟨rfl,rfl⟩ (by simp [stB])
  simp [stB,enumL,hOf,DM,DMs,CM,CMs,HpOK,LowOK,upd,CMs_I,CMs_tr,CMs_hdr,CMs_b0,CMs_b1,f1,f2,q0,q1,q2,q3,q4,q5,qk]
  omega
 generalize hR:stepR ⟨1,a,b,c',d⟩ ⟨pc,rg,m⟩=R at ret ⊢
 clear hR
 unfold stB cdC
 refine dcZ Tryz.func107 ?_
 simp only [go_sem,hxl,inX,hrl,hvl,set_I]
 iterate 14 ((try (refine drvZ Tryz.func107 ?_;simp only [go_sem,hxl,inX,hrl,hvl,set_I]));((with_reducible and_intros)<;>try exact sd))
 exact ret _ _ _ _ _ _ _ _ _ rfl rfl rfl rfl rfl rfl rfl (by decide) (by simp [stepM]) (by simp [stepM]) (by simp [stepM]) (by simp [stepM]) (by simp [stepM]) (by simp [stepM]) (by simp [stepM]) (by simp [stepM,trC,Ev.cells]) (by simp [stepM])
theorem step2 (c : Cd) (s : Mc) (a b c' d : Int) (hc1 : c.list.length ≤ 400) (hs : MOK c s) (hx : c.list[s.pc]? = some ⟨2, a, b, c', d⟩) (h : inOK c.vars.length c.arrays.length c.list.length ⟨2, a, b, c', d⟩ = true) :
 DC Tryz.prog 107 [.c (.ptr 0 0),.agg (cdC c)] (stB s) (stepR ⟨2,a,b,c',d⟩ s):=by
 have hmx:=mx_eq
 obtain ⟨h1,h2,h3,h4⟩:=hs
 have hbl:=blk_len h4
 have hb0:=fun h x h0 h4'=>blk0_at h4 h (x:=x) h0 h4'
 have hb1:=fun h x h0 h4'=>blk1_at h4 h (x:=x) h0 h4'
 have hnv:=h4.nv
 have hna:=h4.na
 have hn12:=h4.nv12
 have hn2:=h4.na2
 have hpcx:(s.pc:Int)+1=((s.pc+1:Nat):Int):=by omega
 obtain ⟨vs,ar,l⟩:=c
 obtain ⟨pc,rg,m⟩:=s
 simp only [hdC] at h1 h2 h3 hnv hna hn12 hn2 hx hc1 hbl hb0 hb1
 simp only [inOK,kindsOf,fOK,topOf,Bool.and_eq_true,decide_eq_true_eq] at h
 simp at h
 have hxl:(l.map inX)[pc]? = some (inX ⟨2,a,b,c',d⟩):=by rw [List.getElem?_map,hx];rfl
 have hrr:=fun (i:Int) (h0:0≤i) (h1:i≤13)=>nth_lt (l:=rg) (i:=i) h0 (by omega)
 have hrl:(rg.map I64).length=14:=by rw [List.length_map];exact h2
 have hrg:=fun (i:Int) (h0:0≤i) (h1:i≤13)=>reg_rng h2 h3 (i:=i) h0 h1
 have hvl:(m.vals.map I64).length=m.vals.length:=List.length_map _
 have hvv:=fun (i:Int) (h0:0≤i) (h1:i<m.vals.length)=>nth_lt (l:=m.vals) (i:=i) h0 h1
 have ret:∀ (K n:Nat) (pcv:Int) (cs c1 c2 c4 c5:List C) (hp:Hp),hp 0=some (some [.v (.int .i64 pcv),.msl 1 1 0 14,.msl 2 1 0 m.vals.length,.msl 3 1 0 m.arrays.length])→hp 1=some (some c1)→hp 2=some (some c2)→hp 3=some (some (hdr 4 5 m.arrays.length))→hp 4=some (some c4)→hp 5=some (some c5)→hp K=some (some cs)→6≤K →
  pcv=((stepM ⟨2,a,b,c',d⟩ ⟨pc,rg,m⟩).1.pc:Int)→c1=(stepM ⟨2,a,b,c',d⟩ ⟨pc,rg,m⟩).1.regs.map I64→c2=(stepM ⟨2,a,b,c',d⟩ ⟨pc,rg,m⟩).1.mem.vals.map I64→(stepM ⟨2,a,b,c',d⟩ ⟨pc,rg,m⟩).1.mem.vals.length=m.vals.length→(stepM ⟨2,a,b,c',d⟩ ⟨pc,rg,m⟩).1.mem.arrays.length=m.arrays.length →
  c4=blk0 (stepM ⟨2,a,b,c',d⟩ ⟨pc,rg,m⟩).1.mem.arrays→c5=blk1 (stepM ⟨2,a,b,c',d⟩ ⟨pc,rg,m⟩).1.mem.arrays→cs=trC (stepM ⟨2,a,b,c',d⟩ ⟨pc,rg,m⟩).2→n=(stepM ⟨2,a,b,c',d⟩ ⟨pc,rg,m⟩).2.length→RetOb 6 (stepR ⟨2,a,b,c',d⟩ ⟨pc,rg,m⟩) (.c (.msl K 2 0 n)) hp:=by
  rintro K n pcv cs c1 c2 c4 c5 hp q0 q1 q2 q3 q4 q5 qk hK e0 rfl rfl f1 f2 rfl rfl rfl rfl
  subst e0
  refine RetOb.ofQ (fun j=>if j=6 then some K else some j) [] (.c (.msl 6 2 0 _)) (stB (stepM ⟨2,a,b,c',d⟩ ⟨pc,rg,m⟩).1++[some (trC (stepM ⟨2,a,b,c',d⟩ ⟨pc,rg,m⟩).2)]) ?_ ⟨rfl,rfl⟩ (by simp [stB])
  simp [stB,enumL,hOf,DM,DMs,CM,CMs,HpOK,LowOK,upd,CMs_I,CMs_tr,CMs_hdr,CMs_b0,CMs_b1,f1,f2,q0,q1,q2,q3,q4,q5,qk]
  omega
 generalize hR:stepR ⟨2,a,b,c',d⟩ ⟨pc,rg,m⟩=R at ret ⊢
 clear hR
 unfold stB cdC
 have hv:=hvv b (by omega) (by omega)
 refine dcZ Tryz.func107 ?_
 simp only [go_sem,hxl,inX,hrl,hvl,set_I,hv]
 iterate 16 ((try (refine drvZ Tryz.func107 ?_;simp only [go_sem,hxl,inX,hrl,hvl,set_I,hv]));((with_reducible and_intros)<;>try exact sd))
 exact ret _ _ _ _ _ _ _ _ _ rfl rfl rfl rfl rfl rfl rfl (by decide) (by simp [stepM]) (by simp [stepM]) (by simp [stepM]) (by simp [stepM]) (by simp [stepM]) (by simp [stepM]) (by simp [stepM]) (by simp [stepM,trC,Ev.cells]) (by simp [stepM])
theorem step3 (c : Cd) (s : Mc) (a b c' d : Int) (hc1 : c.list.length ≤ 400) (hs : MOK c s) (hx : c.list[s.pc]? = some ⟨3, a, b, c', d⟩) (h : inOK c.vars.length c.arrays.length c.list.length ⟨3, a, b, c', d⟩ = true) :
 DC Tryz.prog 107 [.c (.ptr 0 0),.agg (cdC c)] (stB s) (stepR ⟨3,a,b,c',d⟩ s):=by
 have hmx:=mx_eq
 obtain ⟨h1,h2,h3,h4⟩:=hs
 have hbl:=blk_len h4
 have hb0:=fun h x h0 h4'=>blk0_at h4 h (x:=x) h0 h4'
 have hb1:=fun h x h0 h4'=>blk1_at h4 h (x:=x) h0 h4'
 have hnv:=h4.nv
 have hna:=h4.na
 have hn12:=h4.nv12
 have hn2:=h4.na2
 have hpcx:(s.pc:Int)+1=((s.pc+1:Nat):Int):=by omega
 obtain ⟨vs,ar,l⟩:=c
 obtain ⟨pc,rg,m⟩:=s
 simp only [hdC] at h1 h2 h3 hnv hna hn12 hn2 hx hc1 hbl hb0 hb1
 simp only [inOK,kindsOf,fOK,topOf,Bool.and_eq_true,decide_eq_true_eq] at h
 simp at h
 have hxl:(l.map inX)[pc]? = some (inX ⟨3,a,b,c',d⟩):=by rw [List.getElem?_map,hx];rfl
 have hrr:=fun (i:Int) (h0:0≤i) (h1:i≤13)=>nth_lt (l:=rg) (i:=i) h0 (by omega)
 have hrl:(rg.map I64).length=14:=by rw [List.length_map];exact h2
 have hrg:=fun (i:Int) (h0:0≤i) (h1:i≤13)=>reg_rng h2 h3 (i:=i) h0 h1
 have hvl:(m.vals.map I64).length=m.vals.length:=List.length_map _
 have hvv:=fun (i:Int) (h0:0≤i) (h1:i<m.vals.length)=>nth_lt (l:=m.vals) (i:=i) h0 h1
 have ret:∀ (K n:Nat) (pcv:Int) (cs c1 c2 c4 c5:List C) (hp:Hp),hp 0=some (some [.v (.int .i64 pcv),.msl 1 1 0 14,.msl 2 1 0 m.vals.length,.msl 3 1 0 m.arrays.length])→hp 1=some (some c1)→hp 2=some (some c2)→hp 3=some (some (hdr 4 5 m.arrays.length))→hp 4=some (some c4)→hp 5=some (some c5)→hp K=some (some cs)→6≤K →
  pcv=((stepM ⟨3,a,b,c',d⟩ ⟨pc,rg,m⟩).1.pc:Int)→c1=(stepM ⟨3,a,b,c',d⟩ ⟨pc,rg,m⟩).1.regs.map I64→c2=(stepM ⟨3,a,b,c',d⟩ ⟨pc,rg,m⟩).1.mem.vals.map I64→(stepM ⟨3,a,b,c',d⟩ ⟨pc,rg,m⟩).1.mem.vals.length=m.vals.length→(stepM ⟨3,a,b,c',d⟩ ⟨pc,rg,m⟩).1.mem.arrays.length=m.arrays.length →
  c4=blk0 (stepM ⟨3,a,b,c',d⟩ ⟨pc,rg,m⟩).1.mem.arrays→c5=blk1 (stepM ⟨3,a,b,c',d⟩ ⟨pc,rg,m⟩).1.mem.arrays→cs=trC (stepM ⟨3,a,b,c',d⟩ ⟨pc,rg,m⟩).2→n=(stepM ⟨3,a,b,c',d⟩ ⟨pc,rg,m⟩).2.length→RetOb 6 (stepR ⟨3,a,b,c',d⟩ ⟨pc,rg,m⟩) (.c (.msl K 2 0 n)) hp:=by
  rintro K n pcv cs c1 c2 c4 c5 hp q0 q1 q2 q3 q4 q5 qk hK e0 rfl rfl f1 f2 rfl rfl rfl rfl
  subst e0
  refine RetOb.ofQ (fun j=>if j=6 then some K else some j) [] (.c (.msl 6 2 0 _)) (stB (stepM ⟨3,a,b,c',d⟩ ⟨pc,rg,m⟩).1++[some (trC (stepM ⟨3,a,b,c',d⟩ ⟨pc,rg,m⟩).2)]) ?_ ⟨rfl,rfl⟩ (by simp [stB])
  simp [stB,enumL,hOf,DM,DMs,CM,CMs,HpOK,LowOK,upd,CMs_I,CMs_tr,CMs_hdr,CMs_b0,CMs_b1,f1,f2,q0,q1,q2,q3,q4,q5,qk]
  omega
 generalize hR:stepR ⟨3,a,b,c',d⟩ ⟨pc,rg,m⟩=R at ret ⊢
 clear hR
 unfold stB cdC
 have hv:=hrr b (by omega) (by omega)
 refine dcZ Tryz.func107 ?_
 simp only [go_sem,hxl,inX,hrl,hvl,set_I,hv]
 iterate 16 ((try (refine drvZ Tryz.func107 ?_;simp only [go_sem,hxl,inX,hrl,hvl,set_I,hv]));((with_reducible and_intros)<;>try exact sd))
 exact ret _ _ _ _ _ _ _ _ _ rfl rfl rfl rfl rfl rfl rfl (by decide) (by simp [stepM]) (by simp [stepM]) (by simp [stepM,setV]) (by simp [stepM,setV]) (by simp [stepM,setV]) (by simp [stepM,setV]) (by simp [stepM,setV]) (by simp [stepM,trC,Ev.cells]) (by simp [stepM])
theorem step6 (c : Cd) (s : Mc) (a b c' d : Int) (hc1 : c.list.length ≤ 400) (hs : MOK c s) (hx : c.list[s.pc]? = some ⟨6, a, b, c', d⟩) (h : inOK c.vars.length c.arrays.length c.list.length ⟨6, a, b, c', d⟩ = true) :
 DC Tryz.prog 107 [.c (.ptr 0 0),.agg (cdC c)] (stB s) (stepR ⟨6,a,b,c',d⟩ s):=by
 have hmx:=mx_eq
 obtain ⟨h1,h2,h3,h4⟩:=hs
 have hbl:=blk_len h4
 have hb0:=fun h x h0 h4'=>blk0_at h4 h (x:=x) h0 h4'
 have hb1:=fun h x h0 h4'=>blk1_at h4 h (x:=x) h0 h4'
 have hnv:=h4.nv
 have hna:=h4.na
 have hn12:=h4.nv12
 have hn2:=h4.na2
 have hpcx:(s.pc:Int)+1=((s.pc+1:Nat):Int):=by omega
 obtain ⟨vs,ar,l⟩:=c
 obtain ⟨pc,rg,m⟩:=s
 simp only [hdC] at h1 h2 h3 hnv hna hn12 hn2 hx hc1 hbl hb0 hb1
 simp only [inOK,kindsOf,fOK,topOf,Bool.and_eq_true,decide_eq_true_eq] at h
 simp at h
 have hxl:(l.map inX)[pc]? = some (inX ⟨6,a,b,c',d⟩):=by rw [List.getElem?_map,hx];rfl
 have hrr:=fun (i:Int) (h0:0≤i) (h1:i≤13)=>nth_lt (l:=rg) (i:=i) h0 (by omega)
 have hrl:(rg.map I64).length=14:=by rw [List.length_map];exact h2
 have hrg:=fun (i:Int) (h0:0≤i) (h1:i≤13)=>reg_rng h2 h3 (i:=i) h0 h1
 have hvl:(m.vals.map I64).length=m.vals.length:=List.length_map _
 have hvv:=fun (i:Int) (h0:0≤i) (h1:i<m.vals.length)=>nth_lt (l:=m.vals) (i:=i) h0 h1
 have ret:∀ (K n:Nat) (pcv:Int) (cs c1 c2 c4 c5:List C) (hp:Hp),hp 0=some (some [.v (.int .i64 pcv),.msl 1 1 0 14,.msl 2 1 0 m.vals.length,.msl 3 1 0 m.arrays.length])→hp 1=some (some c1)→hp 2=some (some c2)→hp 3=some (some (hdr 4 5 m.arrays.length))→hp 4=some (some c4)→hp 5=some (some c5)→hp K=some (some cs)→6≤K →
  pcv=((stepM ⟨6,a,b,c',d⟩ ⟨pc,rg,m⟩).1.pc:Int)→c1=(stepM ⟨6,a,b,c',d⟩ ⟨pc,rg,m⟩).1.regs.map I64→c2=(stepM ⟨6,a,b,c',d⟩ ⟨pc,rg,m⟩).1.mem.vals.map I64→(stepM ⟨6,a,b,c',d⟩ ⟨pc,rg,m⟩).1.mem.vals.length=m.vals.length→(stepM ⟨6,a,b,c',d⟩ ⟨pc,rg,m⟩).1.mem.arrays.length=m.arrays.length →
  c4=blk0 (stepM ⟨6,a,b,c',d⟩ ⟨pc,rg,m⟩).1.mem.arrays→c5=blk1 (stepM ⟨6,a,b,c',d⟩ ⟨pc,rg,m⟩).1.mem.arrays→cs=trC (stepM ⟨6,a,b,c',d⟩ ⟨pc,rg,m⟩).2→n=(stepM ⟨6,a,b,c',d⟩ ⟨pc,rg,m⟩).2.length→RetOb 6 (stepR ⟨6,a,b,c',d⟩ ⟨pc,rg,m⟩) (.c (.msl K 2 0 n)) hp:=by
  rintro K n pcv cs c1 c2 c4 c5 hp q0 q1 q2 q3 q4 q5 qk hK e0 rfl rfl f1 f2 rfl rfl rfl rfl
  subst e0
  refine RetOb.ofQ (fun j=>if j=6 then some K else some j) [] (.c (.msl 6 2 0 _)) (stB (stepM ⟨6,a,b,c',d⟩ ⟨pc,rg,m⟩).1++[some (trC (stepM ⟨6,a,b,c',d⟩ ⟨pc,rg,m⟩).2)]) ?_ ⟨rfl,rfl⟩ (by simp [stB])
  simp [stB,enumL,hOf,DM,DMs,CM,CMs,HpOK,LowOK,upd,CMs_I,CMs_tr,CMs_hdr,CMs_b0,CMs_b1,f1,f2,q0,q1,q2,q3,q4,q5,qk]
  omega
 generalize hR:stepR ⟨6,a,b,c',d⟩ ⟨pc,rg,m⟩=R at ret ⊢
 clear hR
 unfold stB cdC
 have hv:=hrr c' (by omega) (by omega)
 have hw:=hrr d (by omega) (by omega)
 have hop:=CtR.operate b (nth rg c') (nth rg d) (hrg _ (by omega) (by omega)) (hrg _ (by omega) (by omega))
 refine dcZ Tryz.func107 ?_
 simp only [go_sem,hxl,inX,hrl,hvl,set_I,hv,hw]
 iterate 18 ((try (refine drvZ Tryz.func107 ?_;simp only [go_sem,hxl,inX,hrl,hvl,set_I,hv,hw]));((with_reducible and_intros)<;>try exact sd);(try first | refine XK.p hop ok147 ?_ | refine XK.gp hop ok147 ?_))
 exact ret _ _ _ _ _ _ _ _ _ rfl rfl rfl rfl rfl rfl rfl (by decide) (by simp [stepM]) (by simp [stepM]) (by simp [stepM]) (by simp [stepM]) (by simp [stepM]) (by simp [stepM]) (by simp [stepM]) (by simp [stepM,trC,Ev.cells]) (by simp [stepM])
theorem step8 (c : Cd) (s : Mc) (a b c' d : Int) (hc1 : c.list.length ≤ 400) (hs : MOK c s) (hx : c.list[s.pc]? = some ⟨8, a, b, c', d⟩) (h : inOK c.vars.length c.arrays.length c.list.length ⟨8, a, b, c', d⟩ = true) :
 DC Tryz.prog 107 [.c (.ptr 0 0),.agg (cdC c)] (stB s) (stepR ⟨8,a,b,c',d⟩ s):=by
 have hmx:=mx_eq
 obtain ⟨h1,h2,h3,h4⟩:=hs
 have hbl:=blk_len h4
 have hb0:=fun h x h0 h4'=>blk0_at h4 h (x:=x) h0 h4'
 have hb1:=fun h x h0 h4'=>blk1_at h4 h (x:=x) h0 h4'
 have hnv:=h4.nv
 have hna:=h4.na
 have hn12:=h4.nv12
 have hn2:=h4.na2
 have hpcx:(s.pc:Int)+1=((s.pc+1:Nat):Int):=by omega
 obtain ⟨vs,ar,l⟩:=c
 obtain ⟨pc,rg,m⟩:=s
 simp only [hdC] at h1 h2 h3 hnv hna hn12 hn2 hx hc1 hbl hb0 hb1
 simp only [inOK,kindsOf,fOK,topOf,Bool.and_eq_true,decide_eq_true_eq] at h
 simp at h
 have hxl:(l.map inX)[pc]? = some (inX ⟨8,a,b,c',d⟩):=by rw [List.getElem?_map,hx];rfl
 have hrr:=fun (i:Int) (h0:0≤i) (h1:i≤13)=>nth_lt (l:=rg) (i:=i) h0 (by omega)
 have hrl:(rg.map I64).length=14:=by rw [List.length_map];exact h2
 have hrg:=fun (i:Int) (h0:0≤i) (h1:i≤13)=>reg_rng h2 h3 (i:=i) h0 h1
 have hvl:(m.vals.map I64).length=m.vals.length:=List.length_map _
 have hvv:=fun (i:Int) (h0:0≤i) (h1:i<m.vals.length)=>nth_lt (l:=m.vals) (i:=i) h0 h1
 have ret:∀ (K n:Nat) (pcv:Int) (cs c1 c2 c4 c5:List C) (hp:Hp),hp 0=some (some [.v (.int .i64 pcv),.msl 1 1 0 14,.msl 2 1 0 m.vals.length,.msl 3 1 0 m.arrays.length])→hp 1=some (some c1)→hp 2=some (some c2)→hp 3=some (some (hdr 4 5 m.arrays.length))→hp 4=some (some c4)→hp 5=some (some c5)→hp K=some (some cs)→6≤K →
  pcv=((stepM ⟨8,a,b,c',d⟩ ⟨pc,rg,m⟩).1.pc:Int)→c1=(stepM ⟨8,a,b,c',d⟩ ⟨pc,rg,m⟩).1.regs.map I64→c2=(stepM ⟨8,a,b,c',d⟩ ⟨pc,rg,m⟩).1.mem.vals.map I64→(stepM ⟨8,a,b,c',d⟩ ⟨pc,rg,m⟩).1.mem.vals.length=m.vals.length→(stepM ⟨8,a,b,c',d⟩ ⟨pc,rg,m⟩).1.mem.arrays.length=m.arrays.length →
  c4=blk0 (stepM ⟨8,a,b,c',d⟩ ⟨pc,rg,m⟩).1.mem.arrays→c5=blk1 (stepM ⟨8,a,b,c',d⟩ ⟨pc,rg,m⟩).1.mem.arrays→cs=trC (stepM ⟨8,a,b,c',d⟩ ⟨pc,rg,m⟩).2→n=(stepM ⟨8,a,b,c',d⟩ ⟨pc,rg,m⟩).2.length→RetOb 6 (stepR ⟨8,a,b,c',d⟩ ⟨pc,rg,m⟩) (.c (.msl K 2 0 n)) hp:=by
  rintro K n pcv cs c1 c2 c4 c5 hp q0 q1 q2 q3 q4 q5 qk hK e0 rfl rfl f1 f2 rfl rfl rfl rfl
  subst e0
  refine RetOb.ofQ (fun j=>if j=6 then some K else some j) [] (.c (.msl 6 2 0 _)) (stB (stepM ⟨8,a,b,c',d⟩ ⟨pc,rg,m⟩).1++[some (trC (stepM ⟨8,a,b,c',d⟩ ⟨pc,rg,m⟩).2)]) ?_ ⟨rfl,rfl⟩ (by simp [stB])
  simp [stB,enumL,hOf,DM,DMs,CM,CMs,HpOK,LowOK,upd,CMs_I,CMs_tr,CMs_hdr,CMs_b0,CMs_b1,f1,f2,q0,q1,q2,q3,q4,q5,qk]
  omega
 generalize hR:stepR ⟨8,a,b,c',d⟩ ⟨pc,rg,m⟩=R at ret ⊢
 clear hR
 unfold stB cdC
 have hta:a=((a.toNat:Nat):Int):=by omega
 refine dcZ Tryz.func107 ?_
 simp only [go_sem,hxl,inX,hrl,hvl,set_I]
 iterate 16 ((try (refine drvZ Tryz.func107 ?_;simp only [go_sem,hxl,inX,hrl,hvl,set_I]));((with_reducible and_intros)<;>try exact sd))
 exact ret _ _ _ _ _ _ _ _ _ rfl rfl rfl rfl rfl rfl rfl (by decide) (by simp [stepM];omega) (by simp [stepM]) (by simp [stepM]) (by simp [stepM]) (by simp [stepM]) (by simp [stepM]) (by simp [stepM]) (by simp [stepM,trC,Ev.cells]) (by simp [stepM])
theorem step12 (c : Cd) (s : Mc) (a b c' d : Int) (hc1 : c.list.length ≤ 400) (hs : MOK c s) (hx : c.list[s.pc]? = some ⟨12, a, b, c', d⟩) (h : inOK c.vars.length c.arrays.length c.list.length ⟨12, a, b, c', d⟩ = true) :
 DC Tryz.prog 107 [.c (.ptr 0 0),.agg (cdC c)] (stB s) (stepR ⟨12,a,b,c',d⟩ s):=by
 have hmx:=mx_eq
 obtain ⟨h1,h2,h3,h4⟩:=hs
 have hbl:=blk_len h4
 have hb0:=fun h x h0 h4'=>blk0_at h4 h (x:=x) h0 h4'
 have hb1:=fun h x h0 h4'=>blk1_at h4 h (x:=x) h0 h4'
 have hnv:=h4.nv
 have hna:=h4.na
 have hn12:=h4.nv12
 have hn2:=h4.na2
 have hpcx:(s.pc:Int)+1=((s.pc+1:Nat):Int):=by omega
 obtain ⟨vs,ar,l⟩:=c
 obtain ⟨pc,rg,m⟩:=s
 simp only [hdC] at h1 h2 h3 hnv hna hn12 hn2 hx hc1 hbl hb0 hb1
 simp only [inOK,kindsOf,fOK,topOf,Bool.and_eq_true,decide_eq_true_eq] at h
 simp at h
 have hxl:(l.map inX)[pc]? = some (inX ⟨12,a,b,c',d⟩):=by rw [List.getElem?_map,hx];rfl
 have hrr:=fun (i:Int) (h0:0≤i) (h1:i≤13)=>nth_lt (l:=rg) (i:=i) h0 (by omega)
 have hrl:(rg.map I64).length=14:=by rw [List.length_map];exact h2
 have hrg:=fun (i:Int) (h0:0≤i) (h1:i≤13)=>reg_rng h2 h3 (i:=i) h0 h1
 have hvl:(m.vals.map I64).length=m.vals.length:=List.length_map _
 have hvv:=fun (i:Int) (h0:0≤i) (h1:i<m.vals.length)=>nth_lt (l:=m.vals) (i:=i) h0 h1
 have ret:∀ (K n:Nat) (pcv:Int) (cs c1 c2 c4 c5:List C) (hp:Hp),hp 0=some (some [.v (.int .i64 pcv),.msl 1 1 0 14,.msl 2 1 0 m.vals.length,.msl 3 1 0 m.arrays.length])→hp 1=some (some c1)→hp 2=some (some c2)→hp 3=some (some (hdr 4 5 m.arrays.length))→hp 4=some (some c4)→hp 5=some (some c5)→hp K=some (some cs)→6≤K →
  pcv=((stepM ⟨12,a,b,c',d⟩ ⟨pc,rg,m⟩).1.pc:Int)→c1=(stepM ⟨12,a,b,c',d⟩ ⟨pc,rg,m⟩).1.regs.map I64→c2=(stepM ⟨12,a,b,c',d⟩ ⟨pc,rg,m⟩).1.mem.vals.map I64→(stepM ⟨12,a,b,c',d⟩ ⟨pc,rg,m⟩).1.mem.vals.length=m.vals.length→(stepM ⟨12,a,b,c',d⟩ ⟨pc,rg,m⟩).1.mem.arrays.length=m.arrays.length →
  c4=blk0 (stepM ⟨12,a,b,c',d⟩ ⟨pc,rg,m⟩).1.mem.arrays→c5=blk1 (stepM ⟨12,a,b,c',d⟩ ⟨pc,rg,m⟩).1.mem.arrays→cs=trC (stepM ⟨12,a,b,c',d⟩ ⟨pc,rg,m⟩).2→n=(stepM ⟨12,a,b,c',d⟩ ⟨pc,rg,m⟩).2.length→RetOb 6 (stepR ⟨12,a,b,c',d⟩ ⟨pc,rg,m⟩) (.c (.msl K 2 0 n)) hp:=by
  rintro K n pcv cs c1 c2 c4 c5 hp q0 q1 q2 q3 q4 q5 qk hK e0 rfl rfl f1 f2 rfl rfl rfl rfl
  subst e0
  refine RetOb.ofQ (fun j=>if j=6 then some K else some j) [] (.c (.msl 6 2 0 _)) (stB (stepM ⟨12,a,b,c',d⟩ ⟨pc,rg,m⟩).1++[some (trC (stepM ⟨12,a,b,c',d⟩ ⟨pc,rg,m⟩).2)]) ?_ ⟨rfl,rfl⟩ (by simp [stB])
  simp [stB,enumL,hOf,DM,DMs,CM,CMs,HpOK,LowOK,upd,CMs_I,CMs_tr,CMs_hdr,CMs_b0,CMs_b1,f1,f2,q0,q1,q2,q3,q4,q5,qk]
  omega
 generalize hR:stepR ⟨12,a,b,c',d⟩ ⟨pc,rg,m⟩=R at ret ⊢
 clear hR
 unfold stB cdC
 refine dcZ Tryz.func107 ?_
 simp only [go_sem,hxl,inX,hrl,hvl,set_I]
 iterate 18 ((try (refine drvZ Tryz.func107 ?_;simp only [go_sem,hxl,inX,hrl,hvl,set_I]));((with_reducible and_intros)<;>try exact sd))
 exact ret _ _ _ _ _ _ _ _ _ rfl rfl rfl rfl rfl rfl rfl (by decide) (by simp [stepM]) (by simp [stepM]) (by simp [stepM]) (by simp [stepM]) (by simp [stepM]) (by simp [stepM]) (by simp [stepM]) (by simp [stepM,trC,Ev.cells]) (by simp [stepM])
theorem step13 (c : Cd) (s : Mc) (a b c' d : Int) (hc1 : c.list.length ≤ 400) (hs : MOK c s) (hx : c.list[s.pc]? = some ⟨13, a, b, c', d⟩) (h : inOK c.vars.length c.arrays.length c.list.length ⟨13, a, b, c', d⟩ = true) :
 DC Tryz.prog 107 [.c (.ptr 0 0),.agg (cdC c)] (stB s) (stepR ⟨13,a,b,c',d⟩ s):=by
 have hmx:=mx_eq
 obtain ⟨h1,h2,h3,h4⟩:=hs
 have hbl:=blk_len h4
 have hb0:=fun h x h0 h4'=>blk0_at h4 h (x:=x) h0 h4'
 have hb1:=fun h x h0 h4'=>blk1_at h4 h (x:=x) h0 h4'
 have hnv:=h4.nv
 have hna:=h4.na
 have hn12:=h4.nv12
 have hn2:=h4.na2
 have hpcx:(s.pc:Int)+1=((s.pc+1:Nat):Int):=by omega
 obtain ⟨vs,ar,l⟩:=c
 obtain ⟨pc,rg,m⟩:=s
 simp only [hdC] at h1 h2 h3 hnv hna hn12 hn2 hx hc1 hbl hb0 hb1
 simp only [inOK,kindsOf,fOK,topOf,Bool.and_eq_true,decide_eq_true_eq] at h
 simp at h
 have hxl:(l.map inX)[pc]? = some (inX ⟨13,a,b,c',d⟩):=by rw [List.getElem?_map,hx];rfl
 have hrr:=fun (i:Int) (h0:0≤i) (h1:i≤13)=>nth_lt (l:=rg) (i:=i) h0 (by omega)
 have hrl:(rg.map I64).length=14:=by rw [List.length_map];exact h2
 have hrg:=fun (i:Int) (h0:0≤i) (h1:i≤13)=>reg_rng h2 h3 (i:=i) h0 h1
 have hvl:(m.vals.map I64).length=m.vals.length:=List.length_map _
 have hvv:=fun (i:Int) (h0:0≤i) (h1:i<m.vals.length)=>nth_lt (l:=m.vals) (i:=i) h0 h1
 have ret:∀ (K n:Nat) (pcv:Int) (cs c1 c2 c4 c5:List C) (hp:Hp),hp 0=some (some [.v (.int .i64 pcv),.msl 1 1 0 14,.msl 2 1 0 m.vals.length,.msl 3 1 0 m.arrays.length])→hp 1=some (some c1)→hp 2=some (some c2)→hp 3=some (some (hdr 4 5 m.arrays.length))→hp 4=some (some c4)→hp 5=some (some c5)→hp K=some (some cs)→6≤K →
  pcv=((stepM ⟨13,a,b,c',d⟩ ⟨pc,rg,m⟩).1.pc:Int)→c1=(stepM ⟨13,a,b,c',d⟩ ⟨pc,rg,m⟩).1.regs.map I64→c2=(stepM ⟨13,a,b,c',d⟩ ⟨pc,rg,m⟩).1.mem.vals.map I64→(stepM ⟨13,a,b,c',d⟩ ⟨pc,rg,m⟩).1.mem.vals.length=m.vals.length→(stepM ⟨13,a,b,c',d⟩ ⟨pc,rg,m⟩).1.mem.arrays.length=m.arrays.length →
  c4=blk0 (stepM ⟨13,a,b,c',d⟩ ⟨pc,rg,m⟩).1.mem.arrays→c5=blk1 (stepM ⟨13,a,b,c',d⟩ ⟨pc,rg,m⟩).1.mem.arrays→cs=trC (stepM ⟨13,a,b,c',d⟩ ⟨pc,rg,m⟩).2→n=(stepM ⟨13,a,b,c',d⟩ ⟨pc,rg,m⟩).2.length→RetOb 6 (stepR ⟨13,a,b,c',d⟩ ⟨pc,rg,m⟩) (.c (.msl K 2 0 n)) hp:=by
  rintro K n pcv cs c1 c2 c4 c5 hp q0 q1 q2 q3 q4 q5 qk hK e0 rfl rfl f1 f2 rfl rfl rfl rfl
  subst e0
  refine RetOb.ofQ (fun j=>if j=6 then some K else some j) [] (.c (.msl 6 2 0 _)) (stB (stepM ⟨13,a,b,c',d⟩ ⟨pc,rg,m⟩).1++[some (trC (stepM ⟨13,a,b,c',d⟩ ⟨pc,rg,m⟩).2)]) ?_ ⟨rfl,rfl⟩ (by simp [stB])
  simp [stB,enumL,hOf,DM,DMs,CM,CMs,HpOK,LowOK,upd,CMs_I,CMs_tr,CMs_hdr,CMs_b0,CMs_b1,f1,f2,q0,q1,q2,q3,q4,q5,qk]
  omega
 generalize hR:stepR ⟨13,a,b,c',d⟩ ⟨pc,rg,m⟩=R at ret ⊢
 clear hR
 unfold stB cdC
 refine dcZ Tryz.func107 ?_
 simp only [go_sem,hxl,inX,hrl,hvl,set_I]
 iterate 18 ((try (refine drvZ Tryz.func107 ?_;simp only [go_sem,hxl,inX,hrl,hvl,set_I]));((with_reducible and_intros)<;>try exact sd))
 exact ret _ _ _ _ _ _ _ _ _ rfl rfl rfl rfl rfl rfl rfl (by decide) (by simp [stepM]) (by simp [stepM]) (by simp [stepM]) (by simp [stepM]) (by simp [stepM]) (by simp [stepM]) (by simp [stepM]) (by simp [stepM,trC,Ev.cells]) (by simp [stepM])
theorem step11 (c : Cd) (s : Mc) (a b c' d : Int) (hc1 : c.list.length ≤ 400) (hs : MOK c s) (hx : c.list[s.pc]? = some ⟨11, a, b, c', d⟩) (h : inOK c.vars.length c.arrays.length c.list.length ⟨11, a, b, c', d⟩ = true) :
 DC Tryz.prog 107 [.c (.ptr 0 0),.agg (cdC c)] (stB s) (stepR ⟨11,a,b,c',d⟩ s):=by
 have hmx:=mx_eq
 obtain ⟨h1,h2,h3,h4⟩:=hs
 have hbl:=blk_len h4
 have hb0:=fun h x h0 h4'=>blk0_at h4 h (x:=x) h0 h4'
 have hb1:=fun h x h0 h4'=>blk1_at h4 h (x:=x) h0 h4'
 have hnv:=h4.nv
 have hna:=h4.na
 have hn12:=h4.nv12
 have hn2:=h4.na2
 have hpcx:(s.pc:Int)+1=((s.pc+1:Nat):Int):=by omega
 obtain ⟨vs,ar,l⟩:=c
 obtain ⟨pc,rg,m⟩:=s
 simp only [hdC] at h1 h2 h3 hnv hna hn12 hn2 hx hc1 hbl hb0 hb1
 simp only [inOK,kindsOf,fOK,topOf,Bool.and_eq_true,decide_eq_true_eq] at h
 simp at h
 have hxl:(l.map inX)[pc]? = some (inX ⟨11,a,b,c',d⟩):=by rw [List.getElem?_map,hx];rfl
 have hrr:=fun (i:Int) (h0:0≤i) (h1:i≤13)=>nth_lt (l:=rg) (i:=i) h0 (by omega)
 have hrl:(rg.map I64).length=14:=by rw [List.length_map];exact h2
 have hrg:=fun (i:Int) (h0:0≤i) (h1:i≤13)=>reg_rng h2 h3 (i:=i) h0 h1
 have hvl:(m.vals.map I64).length=m.vals.length:=List.length_map _
 have hvv:=fun (i:Int) (h0:0≤i) (h1:i<m.vals.length)=>nth_lt (l:=m.vals) (i:=i) h0 h1
 have ret:∀ (K n:Nat) (pcv:Int) (cs c1 c2 c4 c5:List C) (hp:Hp),hp 0=some (some [.v (.int .i64 pcv),.msl 1 1 0 14,.msl 2 1 0 m.vals.length,.msl 3 1 0 m.arrays.length])→hp 1=some (some c1)→hp 2=some (some c2)→hp 3=some (some (hdr 4 5 m.arrays.length))→hp 4=some (some c4)→hp 5=some (some c5)→hp K=some (some cs)→6≤K →
  pcv=((stepM ⟨11,a,b,c',d⟩ ⟨pc,rg,m⟩).1.pc:Int)→c1=(stepM ⟨11,a,b,c',d⟩ ⟨pc,rg,m⟩).1.regs.map I64→c2=(stepM ⟨11,a,b,c',d⟩ ⟨pc,rg,m⟩).1.mem.vals.map I64→(stepM ⟨11,a,b,c',d⟩ ⟨pc,rg,m⟩).1.mem.vals.length=m.vals.length→(stepM ⟨11,a,b,c',d⟩ ⟨pc,rg,m⟩).1.mem.arrays.length=m.arrays.length →
  c4=blk0 (stepM ⟨11,a,b,c',d⟩ ⟨pc,rg,m⟩).1.mem.arrays→c5=blk1 (stepM ⟨11,a,b,c',d⟩ ⟨pc,rg,m⟩).1.mem.arrays→cs=trC (stepM ⟨11,a,b,c',d⟩ ⟨pc,rg,m⟩).2→n=(stepM ⟨11,a,b,c',d⟩ ⟨pc,rg,m⟩).2.length→RetOb 6 (stepR ⟨11,a,b,c',d⟩ ⟨pc,rg,m⟩) (.c (.msl K 2 0 n)) hp:=by
  rintro K n pcv cs c1 c2 c4 c5 hp q0 q1 q2 q3 q4 q5 qk hK e0 rfl rfl f1 f2 rfl rfl rfl rfl
  subst e0
  refine RetOb.ofQ (fun j=>if j=6 then some K else some j) [] (.c (.msl 6 2 0 _)) (stB (stepM ⟨11,a,b,c',d⟩ ⟨pc,rg,m⟩).1++[some (trC (stepM ⟨11,a,b,c',d⟩ ⟨pc,rg,m⟩).2)]) ?_ ⟨rfl,rfl⟩ (by simp [stB])
  simp [stB,enumL,hOf,DM,DMs,CM,CMs,HpOK,LowOK,upd,CMs_I,CMs_tr,CMs_hdr,CMs_b0,CMs_b1,f1,f2,q0,q1,q2,q3,q4,q5,qk]
  omega
 generalize hR:stepR ⟨11,a,b,c',d⟩ ⟨pc,rg,m⟩=R at ret ⊢
 clear hR
 unfold stB cdC
 have hv:=hrr a (by omega) (by omega)
 refine dcZ Tryz.func107 ?_
 simp only [go_sem,hxl,inX,hrl,hvl,set_I,hv]
 iterate 18 ((try (refine drvZ Tryz.func107 ?_;simp only [go_sem,hxl,inX,hrl,hvl,set_I,hv]));((with_reducible and_intros)<;>try exact sd))
 exact ret _ _ _ _ _ _ _ _ _ rfl rfl rfl rfl rfl rfl rfl (by decide) (by simp [stepM]) (by simp [stepM]) (by simp [stepM]) (by simp [stepM]) (by simp [stepM]) (by simp [stepM]) (by simp [stepM]) (by simp [stepM,trC,Ev.cells]) (by simp [stepM])
end Go.Proofs.YtbknljofedfpjaaGreat.CtD
