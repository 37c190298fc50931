/- Contracts of functions of the program, one behind the other, as plain data: what each call returns and which blocks it leaves. -/
import Derived.Test.YtbknljofedfpjaaGreatYFacts
import Derived.Test.YtbknljofedfpjaaGreatYAi
import Derived.Test.YtbknljofedfpjaaGreatYAk
import Derived.Test.YtbknljofedfpjaaGreatYAr
import Derived.Test.YtbknljofedfpjaaGreatYAs
import Derived.Test.YtbknljofedfpjaaGreatYAt
import Derived.Test.YtbknljofedfpjaaGreatYAu
import Derived.Test.YtbknljofedfpjaaGreatYAm
import Derived.Test.YtbknljofedfpjaaGreatYAn
set_option linter.unusedVariables false
set_option linter.unusedSimpArgs false
set_option linter.unusedSectionVars false
set_option maxHeartbeats 16000000
set_option maxRecDepth 100000
namespace Go.Proofs.YtbknljofedfpjaaGreat.CtD
open Go Go.CT CtF CtR
variable [Yn]
open CtL (In Cd kindsOf topOf fOK inOK endOK codeOK atC halt)
theorem cvFn (c : Cd) (h1 : c.vars.length ≤ mx) (h2 : c.arrays.length ≤ mx) (h3 : c.list.length ≤ mx) (x : In) (h : inOK c.vars.length c.arrays.length c.list.length x = true) :
 DC Tryz.prog 95 [.agg (inX x),.c (.eptr (cdC c))] [] (fun r h=>r=DB false∧h=[]):=by
 have hio:=instrOkT c h1 h2 h3 x h
 unfold cdC at hio ⊢
 obtain ⟨op,a,b,c',d⟩:=x
 unfold inX at hio ⊢
 refine dcZ Tryz.func95 ?_
 simp only [go_sem]
 iterate 4 ((try (refine drvZ Tryz.func95 ?_;simp only [go_sem]));((with_reducible and_intros)<;>try exact sd);(try first | refine XK.p hio ok96 ?_ | refine XK.gp hio ok96 ?_))
 exact RetOb.plain (d:=DB false) ⟨rfl,rfl⟩ rfl
theorem indexFuncN (cc : List C) (xs : List In) (hl : xs.length ≤ mx) (hg : ∀ x ∈ xs, DC Tryz.prog 95 [.agg (inX x), .c (.eptr cc)] [] (fun r h => r = DB false ∧ h = [])) :
 DC Tryz.prog 127 [.c (.isl 5 (xs.map inX)),.c (.clo 95 [.eptr cc])] [] (fun d h=>d=DI .i64 (-1)∧h=[]):=by
 have hmx:=mx_eq
 refine dcZ Tryz.func127 ?_
 simp only [go_sem]
 ((try (refine drvZ Tryz.func127 ?_;simp only [go_sem]));((with_reducible and_intros)<;>try exact sd))
 refine Go.loopQ (fun i:Nat=>[(0,.c (.isl 5 (xs.map inX))),(1,.c (.clo 95 [.eptr cc])),(7,DI .i64 xs.length),(8,DI .i64 i)]) (fun _=>[]) 1024 (fun i=>i≤xs.length) (fun i=>xs.length - i) ?_ 0 some [] _ (Nat.zero_le _) ?_
 ·intro i hi again
  rcases Nat.lt_or_ge i xs.length with hlt | hge
  ·obtain ⟨⟨op,a,b,c,d⟩,hx⟩:∃ x,xs[i]? = some x:=⟨xs[i],by simp [hlt]⟩
   have hgx:=hg _ (List.mem_of_getElem? hx)
   simp only [inX] at hgx
   refine drvL Tryz.func127 ?_
   simp only [go_sem,hx,hlt,inX]
   iterate 5 ((try (refine drvZ Tryz.func127 ?_;simp only [go_sem,hx,hlt,inX]));((with_reducible and_intros)<;>try exact sd);(try first | refine XK.p hgx ok95 ?_ | refine XK.gp hgx ok95 ?_))
   refine again (i+1) some [] _ hlt (by omega) ?_
   simp only [go_sem,TmOK,DM,DMs,CM,CMs,forall_eq,exists_eq_left,Mq,HpOK,LowOK]
   first | done | (simp;done) | (simp;exact CM.kf rfl) | exact CM.kf rfl
  ·have hn:¬ i<xs.length:=by omega
   refine drvL Tryz.func127 ?_
   simp only [go_sem,hn]
   iterate 3 ((try (refine drvZ Tryz.func127 ?_;simp only [go_sem,hn]));((with_reducible and_intros)<;>try exact sd))
   exact RetOb.plain (d:=DI .i64 (-1)) ⟨rfl,rfl⟩ rfl
 ·simp only [go_sem,TmOK,DM,DMs,CM,CMs,forall_eq,exists_eq_left,Mq,HpOK,LowOK]
  first | done | (simp;done) | (simp;exact CM.kf rfl) | exact CM.kf rfl
theorem containsFuncN (cc : List C) (xs : List In) (hl : xs.length ≤ mx) (hg : ∀ x ∈ xs, DC Tryz.prog 95 [.agg (inX x), .c (.eptr cc)] [] (fun r h => r = DB false ∧ h = [])) :
 DC Tryz.prog 83 [.c (.isl 5 (xs.map inX)),.c (.clo 95 [.eptr cc])] [] (fun d h=>d=DB false∧h=[]):=by
 have hif:=indexFuncN cc xs hl hg
 refine dcZ Tryz.func83 ?_
 simp only [go_sem]
 iterate 3 ((try (refine drvZ Tryz.func83 ?_;simp only [go_sem,Int.reduceLE]));((with_reducible and_intros)<;>try exact sd);(try first | refine XK.p hif ok127 ?_ | refine XK.gp hif ok127 ?_))
 exact RetOb.plain (d:=DB false) ⟨rfl,rfl⟩ rfl
theorem codeValidT (c:Cd) (h1:c.vars.length≤mx) (h2:c.arrays.length≤mx) (h3:c.list.length≤mx) (h:codeOK c=true):DC Tryz.prog 35 [.agg (cdC c)] [] (fun r h=>r=DB true∧h=[]):=by
 have hmx:=mx_eq
 have hfn:=fun x hx=>cvFn c h1 h2 h3 x hx
 obtain ⟨vs,ar,l⟩:=c
 simp only [codeOK,Bool.and_eq_true,decide_eq_true_eq,List.all_eq_true] at h
 obtain ⟨⟨⟨⟨hh,hl1⟩,hl2⟩,hall⟩,hend⟩:=h
 simp only at h1 h2 h3 hfn
 have hcf:=containsFuncN (cdC ⟨vs,ar,l⟩) l h3 fun x hx=>hfn x (hall x hx)
 have hde:=declared vs ar h1 h2
 rw [hh] at hde
 have hw:=CtR.within l.length 1 400
 rw [decide_eq_true hl1,decide_eq_true hl2] at hw
 obtain ⟨x,hx⟩:∃ x,l[l.length - 1]? = some x:=⟨l[l.length - 1]'(by omega),by simp⟩
 have hat:atC l (l.length - 1)=x:=by simp [atC,List.getD,hx]
 simp only [endOK,hat,Bool.or_eq_true,beq_iff_eq] at hend
 have hpos:((l.length:Int) - 1).toNat=l.length - 1:=by omega
 obtain ⟨op,xa,xb,xc,xd⟩:=x
 simp only at hend
 unfold cdC at hcf ⊢
 refine dcZ Tryz.func35 ?_
 simp only [go_sem]
 iterate 6 ((try (refine drvZ Tryz.func35 ?_;simp only [go_sem,List.length_map]));((with_reducible and_intros)<;>try exact sd);(try first | refine XK.p hde ok94 ?_ | refine XK.gp hde ok94 ?_ | refine XK.p hw ok70 ?_ | refine XK.gp hw ok70 ?_))
 refine XK.subQ (r := some) (fz := [0]) (tl := [(1, .c (.eptr [isI vs, isI ar, .isl 5 (l.map inX)])), (2, DB false), (17, DB false), (19, .when true (.c (.isl 5 (l.map inX)))), (20, .when true (.c (.clo 95 [.eptr [isI vs, isI ar, .isl 5 (l.map inX)]])))])
  (hl:=[]) ?_ ?_
 ·simp only [go_sem,TmOK,DM,DMs,CM,CMs,forall_eq,exists_eq_left,Mq,HpOK,LowOK]
  simp
 have hget:(l.map inX)[l.length - 1]? = some (inX ⟨op,xa,xb,xc,xd⟩):=by rw [List.getElem?_map,hx];rfl
 rcases hend with rfl | rfl
 ·iterate 9 ((try (refine drvZ Tryz.func35 ?_;simp only [go_sem,List.length_map,hpos,hget,inX]));((with_reducible and_intros)<;>try exact sd);(try first | refine XK.p hcf ok83 ?_ | refine XK.gp hcf ok83 ?_))
  exact RetOb.plain (d:=DB true) ⟨rfl,rfl⟩ rfl
 ·iterate 9 ((try (refine drvZ Tryz.func35 ?_;simp only [go_sem,List.length_map,hpos,hget,inX]));((with_reducible and_intros)<;>try exact sd);(try first | refine XK.p hcf ok83 ?_ | refine XK.gp hcf ok83 ?_))
  exact RetOb.plain (d:=DB true) ⟨rfl,rfl⟩ rfl
open CtL (In Cd codeOK)
abbrev mcB (k:Nat) (rg:List Int) (m:Mm):List (Option (List C)):=[some (rg.map I64),some (m.vals.map I64),some (hdr (k+3) (k+4) m.arrays.length),some (blk0 m.arrays),some (blk1 m.arrays)]
theorem startedI (m:Mm) (hv:m.vals.length≤1000) (ha:m.arrays.length≤2) (h4:∀ a ∈ m.arrays,a.length=4):DC Tryz.prog 106 [.agg m.cells] [] (fun r h=>r = .agg [I64 0,.msl 0 1 0 14,.msl 1 1 0 m.vals.length,.msl 2 1 0 m.arrays.length]∧h=mcB 0 (List.replicate 14 0) m):=by
 have hmx:=mx_eq
 have how:=own m hv ha h4
 unfold memB at how
 obtain ⟨va,arr⟩:=m
 refine dcZ Tryz.func106 ?_
 simp only [go_sem,Mm.cells]
 iterate 2 ((try (refine drvZ Tryz.func106 ?_;simp only [go_sem,Mm.cells]));((with_reducible and_intros)<;>try exact sd))
 refine XK.callG [] how ok53 (fun i' x h=>by simp at h) (hbT ()) (fun d h' ⟨_,e⟩=>by subst e;simp) ?_ (fun _=>⟨by kernel_rfl,_,_,⟨rfl,rfl⟩,by simp⟩)
 rintro _ _ ⟨rfl,rfl⟩ _
 iterate 4 ((try (refine drvZ Tryz.func106 ?_;simp only [go_sem,Mm.cells,renCs_I,renCs_hdr,renCs_b0,renCs_b1]));((with_reducible and_intros)<;>try exact sd))
 obtain ⟨Z,hZ⟩:∃ Z,Z=List.replicate 14 (0:Int):=⟨_,rfl⟩
 have e14:(List.replicate 14 [C.v (.int .i64 0)]).flatten=Z.map I64:=by rw [hZ];rfl
 rw [← hZ]
 refine RetOb.ofQ (fun j=>if j=0 then some 128 else if j=1 then some 256 else if j=2 then some 257 else if j=3 then some 258 else if j=4 then some 259 else none) [] (.agg [I64 0,.msl 0 1 0 14,.msl 1 1 0 va.length,.msl 2 1 0 arr.length]) (mcB 0 Z ⟨va,arr⟩) ?_ ⟨rfl,rfl⟩ (by simp)
 rw [e14]
 simp [mcB,enumL,hOf,DM,CMs,CM,HpOK,LowOK,upd,CMs_I,appUp,upsFrom,rkey,wkey,renCs_I,renCs_hdr,renCs_b0,renCs_b1,CMs_b0,CMs_b1,CMs_hdr]
open CtL (In Cd codeOK)
theorem code_len {c:Cd} (h:codeOK c=true):1≤c.vars.length∧c.vars.length≤12∧c.arrays.length≤2∧1≤c.list.length∧c.list.length≤400:=by
 simp only [codeOK,headsOK,Bool.and_eq_true,decide_eq_true_eq] at h
 obtain ⟨⟨⟨⟨⟨⟨⟨⟨h1,h2⟩,h3⟩,_⟩,_⟩,h4⟩,h5⟩,_⟩,_⟩:=h
 omega
theorem memOK_len {vs ar:List Int} {m:Mm} (h:memOK vs ar m=true):m.vals.length=vs.length∧m.arrays.length=ar.length∧∀ a ∈ m.arrays,a.length=4:=by
 simp only [memOK,Bool.and_eq_true,decide_eq_true_eq,List.all_eq_true] at h
 refine ⟨by omega,by omega,fun a ha=>?_⟩
 have:=h.2 a ha
 simp only [arrOK,Bool.and_eq_true,decide_eq_true_eq,beq_iff_eq] at this
 omega
def stmR (c:Cd) (m:Mm) (r:D) (h:List (Option (List C))):Prop :=
 if memOK c.vars c.arrays m=true then r = .tup [.agg [I64 0,.msl 0 1 0 14,.msl 1 1 0 m.vals.length,.msl 2 1 0 m.arrays.length],DB true]∧h=mcB 0 (List.replicate 14 0) m
 else r = .tup [.agg [I64 0,.v (.slice none 0 0),.v (.slice none 0 0),.v (.slice none 0 0)],DB false]∧h=[]
theorem startI (c:Cd) (m:Mm) (h:codeOK c=true):DC Tryz.prog 55 [.agg (cdC c),.agg m.cells] [] (stmR c m):=by
 have hmx:=mx_eq
 have hcl:=code_len h
 have hcv:=codeValidT c (by omega) (by omega) (by omega) h
 have him:=isMemory c.vars c.arrays m (by omega) (by omega)
 cases hm:memOK c.vars c.arrays m with
 | true =>
  have hml:=memOK_len hm
  have hst:=startedI m (by omega) (by omega) hml.2.2
  rw [show stmR c m=fun r h=>r = .tup [.agg [I64 0,.msl 0 1 0 14,.msl 1 1 0 m.vals.length,.msl 2 1 0 m.arrays.length],DB true]∧h=mcB 0 (List.replicate 14 0) m by funext r h;simp [stmR,hm]]
  rw [hm] at him
  generalize hZ:List.replicate 14 (0:Int)=Z at *
  generalize hR:(fun (r:D) (h:List (Option (List C)))=>r = .tup [.agg [I64 0,.msl 0 1 0 14,.msl 1 1 0 m.vals.length,.msl 2 1 0 m.arrays.length],DB true]∧h=mcB 0 Z m)=R
  obtain ⟨vs,ar,l⟩:=c
  obtain ⟨va,arr⟩:=m
  simp only [cdC,ints] at hcv him ⊢
  refine dcZ Tryz.func55 ?_
  simp only [go_sem,Mm.cells]
  iterate 5 ((try (refine drvZ Tryz.func55 ?_;simp only [go_sem,Mm.cells]));((with_reducible and_intros)<;>try exact sd);(try first | refine XK.p hcv ok35 ?_ | refine XK.gp hcv ok35 ?_ | refine XK.p him ok101 ?_ | refine XK.gp him ok101 ?_))
  refine XK.callG [] hst ok106 (fun i' x h=>by simp at h) (hbT ()) (fun d h' ⟨_,e⟩=>by subst e;simp) ?_
  rintro _ _ ⟨rfl,rfl⟩ _
  iterate 4 ((try (refine drvZ Tryz.func55 ?_;simp only [go_sem,Mm.cells,renCs_I,renCs_hdr,renCs_b0,renCs_b1]));((with_reducible and_intros)<;>try exact sd))
  refine RetOb.ofQ (fun j=>if j=0 then some 1088 else if j=1 then some 1089 else if j=2 then some 1090 else if j=3 then some 1091 else if j=4 then some 1092 else none) [] (.tup [.agg [I64 0,.msl 0 1 0 14,.msl 1 1 0 va.length,.msl 2 1 0 arr.length],DB true]) (mcB 0 Z ⟨va,arr⟩) ?_ (by rw [← hR];exact ⟨rfl,rfl⟩) (by simp)
  simp [mcB,enumL,hOf,DM,DMs,CMs,CM,HpOK,LowOK,upd,CMs_I,appUp,upsFrom,rkey,wkey,renCs_I,renCs_hdr,renCs_b0,renCs_b1,CMs_b0,CMs_b1,CMs_hdr]
 | false =>
  rw [show stmR c m=fun r h=>r = .tup [.agg [I64 0,.v (.slice none 0 0),.v (.slice none 0 0),.v (.slice none 0 0)],DB false]∧h=[] by funext r h;simp [stmR,hm]]
  rw [hm] at him
  obtain ⟨vs,ar,l⟩:=c
  obtain ⟨va,arr⟩:=m
  simp only [cdC,ints] at hcv him ⊢
  refine dcZ Tryz.func55 ?_
  simp only [go_sem,Mm.cells]
  iterate 6 ((try (refine drvZ Tryz.func55 ?_;simp only [go_sem,Mm.cells]));((with_reducible and_intros)<;>try exact sd);(try first | refine XK.p hcv ok35 ?_ | refine XK.gp hcv ok35 ?_ | refine XK.p him ok101 ?_ | refine XK.gp him ok101 ?_))
  refine RetOb.ofQ (fun _=>none) [] (.tup [.agg [I64 0,.v (.slice none 0 0),.v (.slice none 0 0),.v (.slice none 0 0)],DB false]) [] ?_ ⟨rfl,rfl⟩ (by simp)
  simp [enumL,DM,DMs,CM,CMs,HpOK,LowOK]
open CtL (In Cd Mc stepM kindsOf topOf fOK inOK endOK codeOK)
def stB (s:Mc):List (Option (List C)):=[some [I64 s.pc,.msl 1 1 0 14,.msl 2 1 0 s.mem.vals.length,.msl 3 1 0 s.mem.arrays.length],some (s.regs.map I64),some (s.mem.vals.map I64),some (hdr 4 5 s.mem.arrays.length),some (blk0 s.mem.arrays),some (blk1 s.mem.arrays)]
def hdC (c:Cd):Pg:=⟨c.vars,c.arrays,[]⟩
structure MOK (c : Cd) (s : Mc) : Prop where
 pc:s.pc<c.list.length
 len:s.regs.length=14
 reg:∀ r ∈ s.regs,0≤r∧r≤255
 mem:MemFits (hdC c) s.mem
def stepR (x:In) (s:Mc) (r:D) (h:List (Option (List C))):Prop:=r = .c (.msl 6 2 0 (stepM x s).2.length)∧h=stB (stepM x s).1++[some (trC (stepM x s).2)]
theorem nth_lt {l:List Int} {i:Int} (h0:0≤i) (h:i<l.length):(l.map I64)[i.toNat]? = some (I64 (nth l i)):=by
 rw [List.getElem?_map,(nth_mem h0 h).1];rfl
theorem set_I (l:List Int) (i:Nat) (x:Int):(l.map I64).set i (.v (.int .i64 x))=(l.set i x).map I64:=(List.map_set).symm
theorem hdr0 {n:Nat} (h:0<n):(hdr 4 5 n)[0]? = some (.msl 4 1 0 4):=by
 unfold hdr
 match n,h with
 | n+1,_=>rfl
theorem hdr1 {n:Nat} (h:1<n):(hdr 4 5 n)[1]? = some (.msl 5 1 0 4):=by
 unfold hdr
 match n,h with
 | n+2,_=>rfl
theorem blk0_at {p:Pg} {m:Mm} (hm:MemFits p m) (h:0<m.arrays.length) {x:Int} (h0:0≤x) (h4:x<4):(blk0 m.arrays)[x.toNat]? = some (I64 (nth (arrAt m 0) x)):=by
 have e:m.arrays[0]? = some (arrAt m 0):=(arrAt_mem (m:=m) (v:=0) (by omega) (by omega)).1
 have hl:=(hm.arr _ (arrAt_mem (m:=m) (v:=0) (by omega) (by omega)).2).1
 unfold blk0
 rw [e]
 exact nth_lt h0 (by simp only [Option.getD_some];omega)
theorem blk1_at {p:Pg} {m:Mm} (hm:MemFits p m) (h:1<m.arrays.length) {x:Int} (h0:0≤x) (h4:x<4):(blk1 m.arrays)[x.toNat]? = some (I64 (nth (arrAt m 1) x)):=by
 have e:m.arrays[1]? = some (arrAt m 1):=(arrAt_mem (m:=m) (v:=1) (by omega) (by omega)).1
 have hl:=(hm.arr _ (arrAt_mem (m:=m) (v:=1) (by omega) (by omega)).2).1
 unfold blk1
 rw [e]
 exact nth_lt h0 (by simp only [Option.getD_some];omega)
theorem blk_len {p:Pg} {m:Mm} (hm:MemFits p m):(0<m.arrays.length→(blk0 m.arrays).length=4)∧(1<m.arrays.length→(blk1 m.arrays).length=4):=by
 refine ⟨fun h=>?_,fun h=>?_⟩
 ·have e:m.arrays[0]? = some (arrAt m 0):=(arrAt_mem (m:=m) (v:=0) (by omega) (by omega)).1
  have hl:=(hm.arr _ (arrAt_mem (m:=m) (v:=0) (by omega) (by omega)).2).1
  simp [blk0,e,hl]
 ·have e:m.arrays[1]? = some (arrAt m 1):=(arrAt_mem (m:=m) (v:=1) (by omega) (by omega)).1
  have hl:=(hm.arr _ (arrAt_mem (m:=m) (v:=1) (by omega) (by omega)).2).1
  simp [blk1,e,hl]
theorem reg_rng {l:List Int} (h14:l.length=14) (h:∀ r ∈ l,0≤r∧r≤255) {i:Int} (h0:0≤i) (h1:i≤13):0≤nth l i∧nth l i≤255:=h _ (nth_mem h0 (by omega)).2
theorem step1 (c : Cd) (s : Mc) (a b c' d : Int) (hc1 : c.list.length ≤ 400) (hs : MOK c s) (hx : c.list[s.pc]? = some ⟨1, a, b, c', d⟩) (h : inOK c.vars.length c.arrays.length c.list.length ⟨1, a, b, c', d⟩ = true) :
 DC Tryz.prog 107 [.c (.ptr 0 0),.agg (cdC c)] (stB s) (stepR ⟨1,a,b,c',d⟩ s):=by
 have hmx:=mx_eq
 obtain ⟨h1,h2,h3,h4⟩:=hs
 have hbl:=blk_len h4
 have hb0:=fun h x h0 h4'=>blk0_at h4 h (x:=x) h0 h4'
 have hb1:=fun h x h0 h4'=>blk1_at h4 h (x:=x) h0 h4'
 have hnv:=h4.nv
 have hna:=h4.na
 have hn12:=h4.nv12
 have hn2:=h4.na2
 have hpcx:(s.pc:Int)+1=((s.pc+1:Nat):Int):=by omega
 obtain ⟨vs,ar,l⟩:=c
 obtain ⟨pc,rg,m⟩:=s
 simp only [hdC] at h1 h2 h3 hnv hna hn12 hn2 hx hc1 hbl hb0 hb1
 simp only [inOK,kindsOf,fOK,topOf,Bool.and_eq_true,decide_eq_true_eq] at h
 simp at h
 have hxl:(l.map inX)[pc]? = some (inX ⟨1,a,b,c',d⟩):=by rw [List.getElem?_map,hx];rfl
 have hrr:=fun (i:Int) (h0:0≤i) (h1:i≤13)=>nth_lt (l:=rg) (i:=i) h0 (by omega)
 have hrl:(rg.map I64).length=14:=by rw [List.length_map];exact h2
 have hrg:=fun (i:Int) (h0:0≤i) (h1:i≤13)=>reg_rng h2 h3 (i:=i) h0 h1
 have hvl:(m.vals.map I64).length=m.vals.length:=List.length_map _
 have hvv:=fun (i:Int) (h0:0≤i) (h1:i<m.vals.length)=>nth_lt (l:=m.vals) (i:=i) h0 h1
 have ret:∀ (K n:Nat) (pcv:Int) (cs c1 c2 c4 c5:List C) (hp:Hp),hp 0=some (some [.v (.int .i64 pcv),.msl 1 1 0 14,.msl 2 1 0 m.vals.length,.msl 3 1 0 m.arrays.length])→hp 1=some (some c1)→hp 2=some (some c2)→hp 3=some (some (hdr 4 5 m.arrays.length))→hp 4=some (some c4)→hp 5=some (some c5)→hp K=some (some cs)→6≤K →
  pcv=((stepM ⟨1,a,b,c',d⟩ ⟨pc,rg,m⟩).1.pc:Int)→c1=(stepM ⟨1,a,b,c',d⟩ ⟨pc,rg,m⟩).1.regs.map I64→c2=(stepM ⟨1,a,b,c',d⟩ ⟨pc,rg,m⟩).1.mem.vals.map I64→(stepM ⟨1,a,b,c',d⟩ ⟨pc,rg,m⟩).1.mem.vals.length=m.vals.length→(stepM ⟨1,a,b,c',d⟩ ⟨pc,rg,m⟩).1.mem.arrays.length=m.arrays.length →
  c4=blk0 (stepM ⟨1,a,b,c',d⟩ ⟨pc,rg,m⟩).1.mem.arrays→c5=blk1 (stepM ⟨1,a,b,c',d⟩ ⟨pc,rg,m⟩).1.mem.arrays→cs=trC (stepM ⟨1,a,b,c',d⟩ ⟨pc,rg,m⟩).2→n=(stepM ⟨1,a,b,c',d⟩ ⟨pc,rg,m⟩).2.length→RetOb 6 (stepR ⟨1,a,b,c',d⟩ ⟨pc,rg,m⟩) (.c (.msl K 2 0 n)) hp:=by
  rintro K n pcv cs c1 c2 c4 c5 hp q0 q1 q2 q3 q4 q5 qk hK e0 rfl rfl f1 f2 rfl rfl rfl rfl
  subst e0
  refine RetOb.ofQ (fun j=>if j=6 then some K else some j) [] (.c (.msl 6 2 0 _)) (stB (stepM ⟨1,a,b,c',d⟩ ⟨pc,rg,m⟩).1++[some (trC (stepM ⟨1,a,b,c',d⟩ ⟨pc,rg,m⟩).2)]) ?_ ⟨rfl,rfl⟩ (by simp [stB])
  simp [stB,enumL,hOf,DM,DMs,CM,CMs,HpOK,LowOK,upd,CMs_I,CMs_tr,CMs_hdr,CMs_b0,CMs_b1,f1,f2,q0,q1,q2,q3,q4,q5,qk]
  omega
 generalize hR:stepR ⟨1,a,b,c',d⟩ ⟨pc,rg,m⟩=R at ret ⊢
 clear hR
 unfold stB cdC
 refine dcZ Tryz.func107 ?_
 simp only [go_sem,hxl,inX,hrl,hvl,set_I]
 iterate 14 ((try (refine drvZ Tryz.func107 ?_;simp only [go_sem,hxl,inX,hrl,hvl,set_I]));((with_reducible and_intros)<;>try exact sd))
 exact ret _ _ _ _ _ _ _ _ _ rfl rfl rfl rfl rfl rfl rfl (by decide) (by simp [stepM]) (by simp [stepM]) (by simp [stepM]) (by simp [stepM]) (by simp [stepM]) (by simp [stepM]) (by simp [stepM]) (by simp [stepM,trC,Ev.cells]) (by simp [stepM])
theorem step2 (c : Cd) (s : Mc) (a b c' d : Int) (hc1 : c.list.length ≤ 400) (hs : MOK c s) (hx : c.list[s.pc]? = some ⟨2, a, b, c', d⟩) (h : inOK c.vars.length c.arrays.length c.list.length ⟨2, a, b, c', d⟩ = true) :
 DC Tryz.prog 107 [.c (.ptr 0 0),.agg (cdC c)] (stB s) (stepR ⟨2,a,b,c',d⟩ s):=by
 have hmx:=mx_eq
 obtain ⟨h1,h2,h3,h4⟩:=hs
 have hbl:=blk_len h4
 have hb0:=fun h x h0 h4'=>blk0_at h4 h (x:=x) h0 h4'
 have hb1:=fun h x h0 h4'=>blk1_at h4 h (x:=x) h0 h4'
 have hnv:=h4.nv
 have hna:=h4.na
 have hn12:=h4.nv12
 have hn2:=h4.na2
 have hpcx:(s.pc:Int)+1=((s.pc+1:Nat):Int):=by omega
 obtain ⟨vs,ar,l⟩:=c
 obtain ⟨pc,rg,m⟩:=s
 simp only [hdC] at h1 h2 h3 hnv hna hn12 hn2 hx hc1 hbl hb0 hb1
 simp only [inOK,kindsOf,fOK,topOf,Bool.and_eq_true,decide_eq_true_eq] at h
 simp at h
 have hxl:(l.map inX)[pc]? = some (inX ⟨2,a,b,c',d⟩):=by rw [List.getElem?_map,hx];rfl
 have hrr:=fun (i:Int) (h0:0≤i) (h1:i≤13)=>nth_lt (l:=rg) (i:=i) h0 (by omega)
 have hrl:(rg.map I64).length=14:=by rw [List.length_map];exact h2
 have hrg:=fun (i:Int) (h0:0≤i) (h1:i≤13)=>reg_rng h2 h3 (i:=i) h0 h1
 have hvl:(m.vals.map I64).length=m.vals.length:=List.length_map _
 have hvv:=fun (i:Int) (h0:0≤i) (h1:i<m.vals.length)=>nth_lt (l:=m.vals) (i:=i) h0 h1
 have ret:∀ (K n:Nat) (pcv:Int) (cs c1 c2 c4 c5:List C) (hp:Hp),hp 0=some (some [.v (.int .i64 pcv),.msl 1 1 0 14,.msl 2 1 0 m.vals.length,.msl 3 1 0 m.arrays.length])→hp 1=some (some c1)→hp 2=some (some c2)→hp 3=some (some (hdr 4 5 m.arrays.length))→hp 4=some (some c4)→hp 5=some (some c5)→hp K=some (some cs)→6≤K →
  pcv=((stepM ⟨2,a,b,c',d⟩ ⟨pc,rg,m⟩).1.pc:Int)→c1=(stepM ⟨2,a,b,c',d⟩ ⟨pc,rg,m⟩).1.regs.map I64→c2=(stepM ⟨2,a,b,c',d⟩ ⟨pc,rg,m⟩).1.mem.vals.map I64→(stepM ⟨2,a,b,c',d⟩ ⟨pc,rg,m⟩).1.mem.vals.length=m.vals.length→(stepM ⟨2,a,b,c',d⟩ ⟨pc,rg,m⟩).1.mem.arrays.length=m.arrays.length →
  c4=blk0 (stepM ⟨2,a,b,c',d⟩ ⟨pc,rg,m⟩).1.mem.arrays→c5=blk1 (stepM ⟨2,a,b,c',d⟩ ⟨pc,rg,m⟩).1.mem.arrays→cs=trC (stepM ⟨2,a,b,c',d⟩ ⟨pc,rg,m⟩).2→n=(stepM ⟨2,a,b,c',d⟩ ⟨pc,rg,m⟩).2.length→RetOb 6 (stepR ⟨2,a,b,c',d⟩ ⟨pc,rg,m⟩) (.c (.msl K 2 0 n)) hp:=by
  rintro K n pcv cs c1 c2 c4 c5 hp q0 q1 q2 q3 q4 q5 qk hK e0 rfl rfl f1 f2 rfl rfl rfl rfl
  subst e0
  refine RetOb.ofQ (fun j=>if j=6 then some K else some j) [] (.c (.msl 6 2 0 _)) (stB (stepM ⟨2,a,b,c',d⟩ ⟨pc,rg,m⟩).1++[some (trC (stepM ⟨2,a,b,c',d⟩ ⟨pc,rg,m⟩).2)]) ?_ ⟨rfl,rfl⟩ (by simp [stB])
  simp [stB,enumL,hOf,DM,DMs,CM,CMs,HpOK,LowOK,upd,CMs_I,CMs_tr,CMs_hdr,CMs_b0,CMs_b1,f1,f2,q0,q1,q2,q3,q4,q5,qk]
  omega
 generalize hR:stepR ⟨2,a,b,c',d⟩ ⟨pc,rg,m⟩=R at ret ⊢
 clear hR
 unfold stB cdC
 have hv:=hvv b (by omega) (by omega)
 refine dcZ Tryz.func107 ?_
 simp only [go_sem,hxl,inX,hrl,hvl,set_I,hv]
 iterate 16 ((try (refine drvZ Tryz.func107 ?_;simp only [go_sem,hxl,inX,hrl,hvl,set_I,hv]));((with_reducible and_intros)<;>try exact sd))
 exact ret _ _ _ _ _ _ _ _ _ rfl rfl rfl rfl rfl rfl rfl (by decide) (by simp [stepM]) (by simp [stepM]) (by simp [stepM]) (by simp [stepM]) (by simp [stepM]) (by simp [stepM]) (by simp [stepM]) (by simp [stepM,trC,Ev.cells]) (by simp [stepM])
theorem step3 (c : Cd) (s : Mc) (a b c' d : Int) (hc1 : c.list.length ≤ 400) (hs : MOK c s) (hx : c.list[s.pc]? = some ⟨3, a, b, c', d⟩) (h : inOK c.vars.length c.arrays.length c.list.length ⟨3, a, b, c', d⟩ = true) :
 DC Tryz.prog 107 [.c (.ptr 0 0),.agg (cdC c)] (stB s) (stepR ⟨3,a,b,c',d⟩ s):=by
 have hmx:=mx_eq
 obtain ⟨h1,h2,h3,h4⟩:=hs
 have hbl:=blk_len h4
 have hb0:=fun h x h0 h4'=>blk0_at h4 h (x:=x) h0 h4'
 have hb1:=fun h x h0 h4'=>blk1_at h4 h (x:=x) h0 h4'
 have hnv:=h4.nv
 have hna:=h4.na
 have hn12:=h4.nv12
 have hn2:=h4.na2
 have hpcx:(s.pc:Int)+1=((s.pc+1:Nat):Int):=by omega
 obtain ⟨vs,ar,l⟩:=c
 obtain ⟨pc,rg,m⟩:=s
 simp only [hdC] at h1 h2 h3 hnv hna hn12 hn2 hx hc1 hbl hb0 hb1
 simp only [inOK,kindsOf,fOK,topOf,Bool.and_eq_true,decide_eq_true_eq] at h
 simp at h
 have hxl:(l.map inX)[pc]? = some (inX ⟨3,a,b,c',d⟩):=by rw [List.getElem?_map,hx];rfl
 have hrr:=fun (i:Int) (h0:0≤i) (h1:i≤13)=>nth_lt (l:=rg) (i:=i) h0 (by omega)
 have hrl:(rg.map I64).length=14:=by rw [List.length_map];exact h2
 have hrg:=fun (i:Int) (h0:0≤i) (h1:i≤13)=>reg_rng h2 h3 (i:=i) h0 h1
 have hvl:(m.vals.map I64).length=m.vals.length:=List.length_map _
 have hvv:=fun (i:Int) (h0:0≤i) (h1:i<m.vals.length)=>nth_lt (l:=m.vals) (i:=i) h0 h1
 have ret:∀ (K n:Nat) (pcv:Int) (cs c1 c2 c4 c5:List C) (hp:Hp),hp 0=some (some [.v (.int .i64 pcv),.msl 1 1 0 14,.msl 2 1 0 m.vals.length,.msl 3 1 0 m.arrays.length])→hp 1=some (some c1)→hp 2=some (some c2)→hp 3=some (some (hdr 4 5 m.arrays.length))→hp 4=some (some c4)→hp 5=some (some c5)→hp K=some (some cs)→6≤K →
  pcv=((stepM ⟨3,a,b,c',d⟩ ⟨pc,rg,m⟩).1.pc:Int)→c1=(stepM ⟨3,a,b,c',d⟩ ⟨pc,rg,m⟩).1.regs.map I64→c2=(stepM ⟨3,a,b,c',d⟩ ⟨pc,rg,m⟩).1.mem.vals.map I64→(stepM ⟨3,a,b,c',d⟩ ⟨pc,rg,m⟩).1.mem.vals.length=m.vals.length→(stepM ⟨3,a,b,c',d⟩ ⟨pc,rg,m⟩).1.mem.arrays.length=m.arrays.length →
  c4=blk0 (stepM ⟨3,a,b,c',d⟩ ⟨pc,rg,m⟩).1.mem.arrays→c5=blk1 (stepM ⟨3,a,b,c',d⟩ ⟨pc,rg,m⟩).1.mem.arrays→cs=trC (stepM ⟨3,a,b,c',d⟩ ⟨pc,rg,m⟩).2→n=(stepM ⟨3,a,b,c',d⟩ ⟨pc,rg,m⟩).2.length→RetOb 6 (stepR ⟨3,a,b,c',d⟩ ⟨pc,rg,m⟩) (.c (.msl K 2 0 n)) hp:=by
  rintro K n pcv cs c1 c2 c4 c5 hp q0 q1 q2 q3 q4 q5 qk hK e0 rfl rfl f1 f2 rfl rfl rfl rfl
  subst e0
  refine RetOb.ofQ (fun j=>if j=6 then some K else some j) [] (.c (.msl 6 2 0 _)) (stB (stepM ⟨3,a,b,c',d⟩ ⟨pc,rg,m⟩).1++[some (trC (stepM ⟨3,a,b,c',d⟩ ⟨pc,rg,m⟩).2)]) ?_ ⟨rfl,rfl⟩ (by simp [stB])
  simp [stB,enumL,hOf,DM,DMs,CM,CMs,HpOK,LowOK,upd,CMs_I,CMs_tr,CMs_hdr,CMs_b0,CMs_b1,f1,f2,q0,q1,q2,q3,q4,q5,qk]
  omega
 generalize hR:stepR ⟨3,a,b,c',d⟩ ⟨pc,rg,m⟩=R at ret ⊢
 clear hR
 unfold stB cdC
 have hv:=hrr b (by omega) (by omega)
 refine dcZ Tryz.func107 ?_
 simp only [go_sem,hxl,inX,hrl,hvl,set_I,hv]
 iterate 16 ((try (refine drvZ Tryz.func107 ?_;simp only [go_sem,hxl,inX,hrl,hvl,set_I,hv]));((with_reducible and_intros)<;>try exact sd))
 exact ret _ _ _ _ _ _ _ _ _ rfl rfl rfl rfl rfl rfl rfl (by decide) (by simp [stepM]) (by simp [stepM]) (by simp [stepM,setV]) (by simp [stepM,setV]) (by simp [stepM,setV]) (by simp [stepM,setV]) (by simp [stepM,setV]) (by simp [stepM,trC,Ev.cells]) (by simp [stepM])
theorem step6 (c : Cd) (s : Mc) (a b c' d : Int) (hc1 : c.list.length ≤ 400) (hs : MOK c s) (hx : c.list[s.pc]? = some ⟨6, a, b, c', d⟩) (h : inOK c.vars.length c.arrays.length c.list.length ⟨6, a, b, c', d⟩ = true) :
 DC Tryz.prog 107 [.c (.ptr 0 0),.agg (cdC c)] (stB s) (stepR ⟨6,a,b,c',d⟩ s):=by
 have hmx:=mx_eq
 obtain ⟨h1,h2,h3,h4⟩:=hs
 have hbl:=blk_len h4
 have hb0:=fun h x h0 h4'=>blk0_at h4 h (x:=x) h0 h4'
 have hb1:=fun h x h0 h4'=>blk1_at h4 h (x:=x) h0 h4'
 have hnv:=h4.nv
 have hna:=h4.na
 have hn12:=h4.nv12
 have hn2:=h4.na2
 have hpcx:(s.pc:Int)+1=((s.pc+1:Nat):Int):=by omega
 obtain ⟨vs,ar,l⟩:=c
 obtain ⟨pc,rg,m⟩:=s
 simp only [hdC] at h1 h2 h3 hnv hna hn12 hn2 hx hc1 hbl hb0 hb1
 simp only [inOK,kindsOf,fOK,topOf,Bool.and_eq_true,decide_eq_true_eq] at h
 simp at h
 have hxl:(l.map inX)[pc]? = some (inX ⟨6,a,b,c',d⟩):=by rw [List.getElem?_map,hx];rfl
 have hrr:=fun (i:Int) (h0:0≤i) (h1:i≤13)=>nth_lt (l:=rg) (i:=i) h0 (by omega)
 have hrl:(rg.map I64).length=14:=by rw [List.length_map];exact h2
 have hrg:=fun (i:Int) (h0:0≤i) (h1:i≤13)=>reg_rng h2 h3 (i:=i) h0 h1
 have hvl:(m.vals.map I64).length=m.vals.length:=List.length_map _
 have hvv:=fun (i:Int) (h0:0≤i) (h1:i<m.vals.length)=>nth_lt (l:=m.vals) (i:=i) h0 h1
 have ret:∀ (K n:Nat) (pcv:Int) (cs c1 c2 c4 c5:List C) (hp:Hp),hp 0=some (some [.v (.int .i64 pcv),.msl 1 1 0 14,.msl 2 1 0 m.vals.length,.msl 3 1 0 m.arrays.length])→hp 1=some (some c1)→hp 2=some (some c2)→hp 3=some (some (hdr 4 5 m.arrays.length))→hp 4=some (some c4)→hp 5=some (some c5)→hp K=some (some cs)→6≤K →
  pcv=((stepM ⟨6,a,b,c',d⟩ ⟨pc,rg,m⟩).1.pc:Int)→c1=(stepM ⟨6,a,b,c',d⟩ ⟨pc,rg,m⟩).1.regs.map I64→c2=(stepM ⟨6,a,b,c',d⟩ ⟨pc,rg,m⟩).1.mem.vals.map I64→(stepM ⟨6,a,b,c',d⟩ ⟨pc,rg,m⟩).1.mem.vals.length=m.vals.length→(stepM ⟨6,a,b,c',d⟩ ⟨pc,rg,m⟩).1.mem.arrays.length=m.arrays.length →
  c4=blk0 (stepM ⟨6,a,b,c',d⟩ ⟨pc,rg,m⟩).1.mem.arrays→c5=blk1 (stepM ⟨6,a,b,c',d⟩ ⟨pc,rg,m⟩).1.mem.arrays→cs=trC (stepM ⟨6,a,b,c',d⟩ ⟨pc,rg,m⟩).2→n=(stepM ⟨6,a,b,c',d⟩ ⟨pc,rg,m⟩).2.length→RetOb 6 (stepR ⟨6,a,b,c',d⟩ ⟨pc,rg,m⟩) (.c (.msl K 2 0 n)) hp:=by
  rintro K n pcv cs c1 c2 c4 c5 hp q0 q1 q2 q3 q4 q5 qk hK e0 rfl rfl f1 f2 rfl rfl rfl rfl
  subst e0
  refine RetOb.ofQ (fun j=>if j=6 then some K else some j) [] (.c (.msl 6 2 0 _)) (stB (stepM ⟨6,a,b,c',d⟩ ⟨pc,rg,m⟩).1++[some (trC (stepM ⟨6,a,b,c',d⟩ ⟨pc,rg,m⟩).2)]) ?_ ⟨rfl,rfl⟩ (by simp [stB])
  simp [stB,enumL,hOf,DM,DMs,CM,CMs,HpOK,LowOK,upd,CMs_I,CMs_tr,CMs_hdr,CMs_b0,CMs_b1,f1,f2,q0,q1,q2,q3,q4,q5,qk]
  omega
 generalize hR:stepR ⟨6,a,b,c',d⟩ ⟨pc,rg,m⟩=R at ret ⊢
 clear hR
 unfold stB cdC
 have hv:=hrr c' (by omega) (by omega)
 have hw:=hrr d (by omega) (by omega)
 have hop:=CtR.operate b (nth rg c') (nth rg d) (hrg _ (by omega) (by omega)) (hrg _ (by omega) (by omega))
 refine dcZ Tryz.func107 ?_
 simp only [go_sem,hxl,inX,hrl,hvl,set_I,hv,hw]
 iterate 18 ((try (refine drvZ Tryz.func107 ?_;simp only [go_sem,hxl,inX,hrl,hvl,set_I,hv,hw]));((with_reducible and_intros)<;>try exact sd);(try first | refine XK.p hop ok147 ?_ | refine XK.gp hop ok147 ?_))
 exact ret _ _ _ _ _ _ _ _ _ rfl rfl rfl rfl rfl rfl rfl (by decide) (by simp [stepM]) (by simp [stepM]) (by simp [stepM]) (by simp [stepM]) (by simp [stepM]) (by simp [stepM]) (by simp [stepM]) (by simp [stepM,trC,Ev.cells]) (by simp [stepM])
theorem step8 (c : Cd) (s : Mc) (a b c' d : Int) (hc1 : c.list.length ≤ 400) (hs : MOK c s) (hx : c.list[s.pc]? = some ⟨8, a, b, c', d⟩) (h : inOK c.vars.length c.arrays.length c.list.length ⟨8, a, b, c', d⟩ = true) :
 DC Tryz.prog 107 [.c (.ptr 0 0),.agg (cdC c)] (stB s) (stepR ⟨8,a,b,c',d⟩ s):=by
 have hmx:=mx_eq
 obtain ⟨h1,h2,h3,h4⟩:=hs
 have hbl:=blk_len h4
 have hb0:=fun h x h0 h4'=>blk0_at h4 h (x:=x) h0 h4'
 have hb1:=fun h x h0 h4'=>blk1_at h4 h (x:=x) h0 h4'
 have hnv:=h4.nv
 have hna:=h4.na
 have hn12:=h4.nv12
 have hn2:=h4.na2
 have hpcx:(s.pc:Int)+1=((s.pc+1:Nat):Int):=by omega
 obtain ⟨vs,ar,l⟩:=c
 obtain ⟨pc,rg,m⟩:=s
 simp only [hdC] at h1 h2 h3 hnv hna hn12 hn2 hx hc1 hbl hb0 hb1
 simp only [inOK,kindsOf,fOK,topOf,Bool.and_eq_true,decide_eq_true_eq] at h
 simp at h
 have hxl:(l.map inX)[pc]? = some (inX ⟨8,a,b,c',d⟩):=by rw [List.getElem?_map,hx];rfl
 have hrr:=fun (i:Int) (h0:0≤i) (h1:i≤13)=>nth_lt (l:=rg) (i:=i) h0 (by omega)
 have hrl:(rg.map I64).length=14:=by rw [List.length_map];exact h2
 have hrg:=fun (i:Int) (h0:0≤i) (h1:i≤13)=>reg_rng h2 h3 (i:=i) h0 h1
 have hvl:(m.vals.map I64).length=m.vals.length:=List.length_map _
 have hvv:=fun (i:Int) (h0:0≤i) (h1:i<m.vals.length)=>nth_lt (l:=m.vals) (i:=i) h0 h1
 have ret:∀ (K n:Nat) (pcv:Int) (cs c1 c2 c4 c5:List C) (hp:Hp),hp 0=some (some [.v (.int .i64 pcv),.msl 1 1 0 14,.msl 2 1 0 m.vals.length,.msl 3 1 0 m.arrays.length])→hp 1=some (some c1)→hp 2=some (some c2)→hp 3=some (some (hdr 4 5 m.arrays.length))→hp 4=some (some c4)→hp 5=some (some c5)→hp K=some (some cs)→6≤K →
  pcv=((stepM ⟨8,a,b,c',d⟩ ⟨pc,rg,m⟩).1.pc:Int)→c1=(stepM ⟨8,a,b,c',d⟩ ⟨pc,rg,m⟩).1.regs.map I64→c2=(stepM ⟨8,a,b,c',d⟩ ⟨pc,rg,m⟩).1.mem.vals.map I64→(stepM ⟨8,a,b,c',d⟩ ⟨pc,rg,m⟩).1.mem.vals.length=m.vals.length→(stepM ⟨8,a,b,c',d⟩ ⟨pc,rg,m⟩).1.mem.arrays.length=m.arrays.length →
  c4=blk0 (stepM ⟨8,a,b,c',d⟩ ⟨pc,rg,m⟩).1.mem.arrays→c5=blk1 (stepM ⟨8,a,b,c',d⟩ ⟨pc,rg,m⟩).1.mem.arrays→cs=trC (stepM ⟨8,a,b,c',d⟩ ⟨pc,rg,m⟩).2→n=(stepM ⟨8,a,b,c',d⟩ ⟨pc,rg,m⟩).2.length→RetOb 6 (stepR ⟨8,a,b,c',d⟩ ⟨pc,rg,m⟩) (.c (.msl K 2 0 n)) hp:=by
  rintro K n pcv cs c1 c2 c4 c5 hp q0 q1 q2 q3 q4 q5 qk hK e0 rfl rfl f1 f2 rfl rfl rfl rfl
  subst e0
  refine RetOb.ofQ (fun j=>if j=6 then some K else some j) [] (.c (.msl 6 2 0 _)) (stB (stepM ⟨8,a,b,c',d⟩ ⟨pc,rg,m⟩).1++[some (trC (stepM ⟨8,a,b,c',d⟩ ⟨pc,rg,m⟩).2)]) ?_ ⟨rfl,rfl⟩ (by simp [stB])
  simp [stB,enumL,hOf,DM,DMs,CM,CMs,HpOK,LowOK,upd,CMs_I,CMs_tr,CMs_hdr,CMs_b0,CMs_b1,f1,f2,q0,q1,q2,q3,q4,q5,qk]
  omega
 generalize hR:stepR ⟨8,a,b,c',d⟩ ⟨pc,rg,m⟩=R at ret ⊢
 clear hR
 unfold stB cdC
 have hta:a=((a.toNat:Nat):Int):=by omega
 refine dcZ Tryz.func107 ?_
 simp only [go_sem,hxl,inX,hrl,hvl,set_I]
 iterate 16 ((try (refine drvZ Tryz.func107 ?_;simp only [go_sem,hxl,inX,hrl,hvl,set_I]));((with_reducible and_intros)<;>try exact sd))
 exact ret _ _ _ _ _ _ _ _ _ rfl rfl rfl rfl rfl rfl rfl (by decide) (by simp [stepM];omega) (by simp [stepM]) (by simp [stepM]) (by simp [stepM]) (by simp [stepM]) (by simp [stepM]) (by simp [stepM]) (by simp [stepM,trC,Ev.cells]) (by simp [stepM])
theorem step12 (c : Cd) (s : Mc) (a b c' d : Int) (hc1 : c.list.length ≤ 400) (hs : MOK c s) (hx : c.list[s.pc]? = some ⟨12, a, b, c', d⟩) (h : inOK c.vars.length c.arrays.length c.list.length ⟨12, a, b, c', d⟩ = true) :
 DC Tryz.prog 107 [.c (.ptr 0 0),.agg (cdC c)] (stB s) (stepR ⟨12,a,b,c',d⟩ s):=by
 have hmx:=mx_eq
 obtain ⟨h1,h2,h3,h4⟩:=hs
 have hbl:=blk_len h4
 have hb0:=fun h x h0 h4'=>blk0_at h4 h (x:=x) h0 h4'
 have hb1:=fun h x h0 h4'=>blk1_at h4 h (x:=x) h0 h4'
 have hnv:=h4.nv
 have hna:=h4.na
 have hn12:=h4.nv12
 have hn2:=h4.na2
 have hpcx:(s.pc:Int)+1=((s.pc+1:Nat):Int):=by omega
 obtain ⟨vs,ar,l⟩:=c
 obtain ⟨pc,rg,m⟩:=s
 simp only [hdC] at h1 h2 h3 hnv hna hn12 hn2 hx hc1 hbl hb0 hb1
 simp only [inOK,kindsOf,fOK,topOf,Bool.and_eq_true,decide_eq_true_eq] at h
 simp at h
 have hxl:(l.map inX)[pc]? = some (inX ⟨12,a,b,c',d⟩):=by rw [List.getElem?_map,hx];rfl
 have hrr:=fun (i:Int) (h0:0≤i) (h1:i≤13)=>nth_lt (l:=rg) (i:=i) h0 (by omega)
 have hrl:(rg.map I64).length=14:=by rw [List.length_map];exact h2
 have hrg:=fun (i:Int) (h0:0≤i) (h1:i≤13)=>reg_rng h2 h3 (i:=i) h0 h1
 have hvl:(m.vals.map I64).length=m.vals.length:=List.length_map _
 have hvv:=fun (i:Int) (h0:0≤i) (h1:i<m.vals.length)=>nth_lt (l:=m.vals) (i:=i) h0 h1
 have ret:∀ (K n:Nat) (pcv:Int) (cs c1 c2 c4 c5:List C) (hp:Hp),hp 0=some (some [.v (.int .i64 pcv),.msl 1 1 0 14,.msl 2 1 0 m.vals.length,.msl 3 1 0 m.arrays.length])→hp 1=some (some c1)→hp 2=some (some c2)→hp 3=some (some (hdr 4 5 m.arrays.length))→hp 4=some (some c4)→hp 5=some (some c5)→hp K=some (some cs)→6≤K →
  pcv=((stepM ⟨12,a,b,c',d⟩ ⟨pc,rg,m⟩).1.pc:Int)→c1=(stepM ⟨12,a,b,c',d⟩ ⟨pc,rg,m⟩).1.regs.map I64→c2=(stepM ⟨12,a,b,c',d⟩ ⟨pc,rg,m⟩).1.mem.vals.map I64→(stepM ⟨12,a,b,c',d⟩ ⟨pc,rg,m⟩).1.mem.vals.length=m.vals.length→(stepM ⟨12,a,b,c',d⟩ ⟨pc,rg,m⟩).1.mem.arrays.length=m.arrays.length →
  c4=blk0 (stepM ⟨12,a,b,c',d⟩ ⟨pc,rg,m⟩).1.mem.arrays→c5=blk1 (stepM ⟨12,a,b,c',d⟩ ⟨pc,rg,m⟩).1.mem.arrays→cs=trC (stepM ⟨12,a,b,c',d⟩ ⟨pc,rg,m⟩).2→n=(stepM ⟨12,a,b,c',d⟩ ⟨pc,rg,m⟩).2.length→RetOb 6 (stepR ⟨12,a,b,c',d⟩ ⟨pc,rg,m⟩) (.c (.msl K 2 0 n)) hp:=by
  rintro K n pcv cs c1 c2 c4 c5 hp q0 q1 q2 q3 q4 q5 qk hK e0 rfl rfl f1 f2 rfl rfl rfl rfl
  subst e0
  refine RetOb.ofQ (fun j=>if j=6 then some K else some j) [] (.c (.msl 6 2 0 _)) (stB (stepM ⟨12,a,b,c',d⟩ ⟨pc,rg,m⟩).1++[some (trC (stepM ⟨12,a,b,c',d⟩ ⟨pc,rg,m⟩).2)]) ?_ ⟨rfl,rfl⟩ (by simp [stB])
  simp [stB,enumL,hOf,DM,DMs,CM,CMs,HpOK,LowOK,upd,CMs_I,CMs_tr,CMs_hdr,CMs_b0,CMs_b1,f1,f2,q0,q1,q2,q3,q4,q5,qk]
  omega
 generalize hR:stepR ⟨12,a,b,c',d⟩ ⟨pc,rg,m⟩=R at ret ⊢
 clear hR
 unfold stB cdC
 refine dcZ Tryz.func107 ?_
 simp only [go_sem,hxl,inX,hrl,hvl,set_I]
 iterate 18 ((try (refine drvZ Tryz.func107 ?_;simp only [go_sem,hxl,inX,hrl,hvl,set_I]));((with_reducible and_intros)<;>try exact sd))
 exact ret _ _ _ _ _ _ _ _ _ rfl rfl rfl rfl rfl rfl rfl (by decide) (by simp [stepM]) (by simp [stepM]) (by simp [stepM]) (by simp [stepM]) (by simp [stepM]) (by simp [stepM]) (by simp [stepM]) (by simp [stepM,trC,Ev.cells]) (by simp [stepM])
theorem step13 (c : Cd) (s : Mc) (a b c' d : Int) (hc1 : c.list.length ≤ 400) (hs : MOK c s) (hx : c.list[s.pc]? = some ⟨13, a, b, c', d⟩) (h : inOK c.vars.length c.arrays.length c.list.length ⟨13, a, b, c', d⟩ = true) :
 DC Tryz.prog 107 [.c (.ptr 0 0),.agg (cdC c)] (stB s) (stepR ⟨13,a,b,c',d⟩ s):=by
 have hmx:=mx_eq
 obtain ⟨h1,h2,h3,h4⟩:=hs
 have hbl:=blk_len h4
 have hb0:=fun h x h0 h4'=>blk0_at h4 h (x:=x) h0 h4'
 have hb1:=fun h x h0 h4'=>blk1_at h4 h (x:=x) h0 h4'
 have hnv:=h4.nv
 have hna:=h4.na
 have hn12:=h4.nv12
 have hn2:=h4.na2
 have hpcx:(s.pc:Int)+1=((s.pc+1:Nat):Int):=by omega
 obtain ⟨vs,ar,l⟩:=c
 obtain ⟨pc,rg,m⟩:=s
 simp only [hdC] at h1 h2 h3 hnv hna hn12 hn2 hx hc1 hbl hb0 hb1
 simp only [inOK,kindsOf,fOK,topOf,Bool.and_eq_true,decide_eq_true_eq] at h
 simp at h
 have hxl:(l.map inX)[pc]? = some (inX ⟨13,a,b,c',d⟩):=by rw [List.getElem?_map,hx];rfl
 have hrr:=fun (i:Int) (h0:0≤i) (h1:i≤13)=>nth_lt (l:=rg) (i:=i) h0 (by omega)
 have hrl:(rg.map I64).length=14:=by rw [List.length_map];exact h2
 have hrg:=fun (i:Int) (h0:0≤i) (h1:i≤13)=>reg_rng h2 h3 (i:=i) h0 h1
 have hvl:(m.vals.map I64).length=m.vals.length:=List.length_map _
 have hvv:=fun (i:Int) (h0:0≤i) (h1:i<m.vals.length)=>nth_lt (l:=m.vals) (i:=i) h0 h1
 have ret:∀ (K n:Nat) (pcv:Int) (cs c1 c2 c4 c5:List C) (hp:Hp),hp 0=some (some [.v (.int .i64 pcv),.msl 1 1 0 14,.msl 2 1 0 m.vals.length,.msl 3 1 0 m.arrays.length])→hp 1=some (some c1)→hp 2=some (some c2)→hp 3=some (some (hdr 4 5 m.arrays.length))→hp 4=some (some c4)→hp 5=some (some c5)→hp K=some (some cs)→6≤K →
  pcv=((stepM ⟨13,a,b,c',d⟩ ⟨pc,rg,m⟩).1.pc:Int)→c1=(stepM ⟨13,a,b,c',d⟩ ⟨pc,rg,m⟩).1.regs.map I64→c2=(stepM ⟨13,a,b,c',d⟩ ⟨pc,rg,m⟩).1.mem.vals.map I64→(stepM ⟨13,a,b,c',d⟩ ⟨pc,rg,m⟩).1.mem.vals.length=m.vals.length→(stepM ⟨13,a,b,c',d⟩ ⟨pc,rg,m⟩).1.mem.arrays.length=m.arrays.length →
  c4=blk0 (stepM ⟨13,a,b,c',d⟩ ⟨pc,rg,m⟩).1.mem.arrays→c5=blk1 (stepM ⟨13,a,b,c',d⟩ ⟨pc,rg,m⟩).1.mem.arrays→cs=trC (stepM ⟨13,a,b,c',d⟩ ⟨pc,rg,m⟩).2→n=(stepM ⟨13,a,b,c',d⟩ ⟨pc,rg,m⟩).2.length→RetOb 6 (stepR ⟨13,a,b,c',d⟩ ⟨pc,rg,m⟩) (.c (.msl K 2 0 n)) hp:=by
  rintro K n pcv cs c1 c2 c4 c5 hp q0 q1 q2 q3 q4 q5 qk hK e0 rfl rfl f1 f2 rfl rfl rfl rfl
  subst e0
  refine RetOb.ofQ (fun j=>if j=6 then some K else some j) [] (.c (.msl 6 2 0 _)) (stB (stepM ⟨13,a,b,c',d⟩ ⟨pc,rg,m⟩).1++[some (trC (stepM ⟨13,a,b,c',d⟩ ⟨pc,rg,m⟩).2)]) ?_ ⟨rfl,rfl⟩ (by simp [stB])
  simp [stB,enumL,hOf,DM,DMs,CM,CMs,HpOK,LowOK,upd,CMs_I,CMs_tr,CMs_hdr,CMs_b0,CMs_b1,f1,f2,q0,q1,q2,q3,q4,q5,qk]
  omega
 generalize hR:stepR ⟨13,a,b,c',d⟩ ⟨pc,rg,m⟩=R at ret ⊢
 clear hR
 unfold stB cdC
 refine dcZ Tryz.func107 ?_
 simp only [go_sem,hxl,inX,hrl,hvl,set_I]
 iterate 18 ((try (refine drvZ Tryz.func107 ?_;simp only [go_sem,hxl,inX,hrl,hvl,set_I]));((with_reducible and_intros)<;>try exact sd))
 exact ret _ _ _ _ _ _ _ _ _ rfl rfl rfl rfl rfl rfl rfl (by decide) (by simp [stepM]) (by simp [stepM]) (by simp [stepM]) (by simp [stepM]) (by simp [stepM]) (by simp [stepM]) (by simp [stepM]) (by simp [stepM,trC,Ev.cells]) (by simp [stepM])
theorem step11 (c : Cd) (s : Mc) (a b c' d : Int) (hc1 : c.list.length ≤ 400) (hs : MOK c s) (hx : c.list[s.pc]? = some ⟨11, a, b, c', d⟩) (h : inOK c.vars.length c.arrays.length c.list.length ⟨11, a, b, c', d⟩ = true) :
 DC Tryz.prog 107 [.c (.ptr 0 0),.agg (cdC c)] (stB s) (stepR ⟨11,a,b,c',d⟩ s):=by
 have hmx:=mx_eq
 obtain ⟨h1,h2,h3,h4⟩:=hs
 have hbl:=blk_len h4
 have hb0:=fun h x h0 h4'=>blk0_at h4 h (x:=x) h0 h4'
 have hb1:=fun h x h0 h4'=>blk1_at h4 h (x:=x) h0 h4'
 have hnv:=h4.nv
 have hna:=h4.na
 have hn12:=h4.nv12
 have hn2:=h4.na2
 have hpcx:(s.pc:Int)+1=((s.pc+1:Nat):Int):=by omega
 obtain ⟨vs,ar,l⟩:=c
 obtain ⟨pc,rg,m⟩:=s
 simp only [hdC] at h1 h2 h3 hnv hna hn12 hn2 hx hc1 hbl hb0 hb1
 simp only [inOK,kindsOf,fOK,topOf,Bool.and_eq_true,decide_eq_true_eq] at h
 simp at h
 have hxl:(l.map inX)[pc]? = some (inX ⟨11,a,b,c',d⟩):=by rw [List.getElem?_map,hx];rfl
 have hrr:=fun (i:Int) (h0:0≤i) (h1:i≤13)=>nth_lt (l:=rg) (i:=i) h0 (by omega)
 have hrl:(rg.map I64).length=14:=by rw [List.length_map];exact h2
 have hrg:=fun (i:Int) (h0:0≤i) (h1:i≤13)=>reg_rng h2 h3 (i:=i) h0 h1
 have hvl:(m.vals.map I64).length=m.vals.length:=List.length_map _
 have hvv:=fun (i:Int) (h0:0≤i) (h1:i<m.vals.length)=>nth_lt (l:=m.vals) (i:=i) h0 h1
 have ret:∀ (K n:Nat) (pcv:Int) (cs c1 c2 c4 c5:List C) (hp:Hp),hp 0=some (some [.v (.int .i64 pcv),.msl 1 1 0 14,.msl 2 1 0 m.vals.length,.msl 3 1 0 m.arrays.length])→hp 1=some (some c1)→hp 2=some (some c2)→hp 3=some (some (hdr 4 5 m.arrays.length))→hp 4=some (some c4)→hp 5=some (some c5)→hp K=some (some cs)→6≤K →
  pcv=((stepM ⟨11,a,b,c',d⟩ ⟨pc,rg,m⟩).1.pc:Int)→c1=(stepM ⟨11,a,b,c',d⟩ ⟨pc,rg,m⟩).1.regs.map I64→c2=(stepM ⟨11,a,b,c',d⟩ ⟨pc,rg,m⟩).1.mem.vals.map I64→(stepM ⟨11,a,b,c',d⟩ ⟨pc,rg,m⟩).1.mem.vals.length=m.vals.length→(stepM ⟨11,a,b,c',d⟩ ⟨pc,rg,m⟩).1.mem.arrays.length=m.arrays.length →
  c4=blk0 (stepM ⟨11,a,b,c',d⟩ ⟨pc,rg,m⟩).1.mem.arrays→c5=blk1 (stepM ⟨11,a,b,c',d⟩ ⟨pc,rg,m⟩).1.mem.arrays→cs=trC (stepM ⟨11,a,b,c',d⟩ ⟨pc,rg,m⟩).2→n=(stepM ⟨11,a,b,c',d⟩ ⟨pc,rg,m⟩).2.length→RetOb 6 (stepR ⟨11,a,b,c',d⟩ ⟨pc,rg,m⟩) (.c (.msl K 2 0 n)) hp:=by
  rintro K n pcv cs c1 c2 c4 c5 hp q0 q1 q2 q3 q4 q5 qk hK e0 rfl rfl f1 f2 rfl rfl rfl rfl
  subst e0
  refine RetOb.ofQ (fun j=>if j=6 then some K else some j) [] (.c (.msl 6 2 0 _)) (stB (stepM ⟨11,a,b,c',d⟩ ⟨pc,rg,m⟩).1++[some (trC (stepM ⟨11,a,b,c',d⟩ ⟨pc,rg,m⟩).2)]) ?_ ⟨rfl,rfl⟩ (by simp [stB])
  simp [stB,enumL,hOf,DM,DMs,CM,CMs,HpOK,LowOK,upd,CMs_I,CMs_tr,CMs_hdr,CMs_b0,CMs_b1,f1,f2,q0,q1,q2,q3,q4,q5,qk]
  omega
 generalize hR:stepR ⟨11,a,b,c',d⟩ ⟨pc,rg,m⟩=R at ret ⊢
 clear hR
 unfold stB cdC
 have hv:=hrr a (by omega) (by omega)
 refine dcZ Tryz.func107 ?_
 simp only [go_sem,hxl,inX,hrl,hvl,set_I,hv]
 iterate 18 ((try (refine drvZ Tryz.func107 ?_;simp only [go_sem,hxl,inX,hrl,hvl,set_I,hv]));((with_reducible and_intros)<;>try exact sd))
 exact ret _ _ _ _ _ _ _ _ _ rfl rfl rfl rfl rfl rfl rfl (by decide) (by simp [stepM]) (by simp [stepM]) (by simp [stepM]) (by simp [stepM]) (by simp [stepM]) (by simp [stepM]) (by simp [stepM]) (by simp [stepM,trC,Ev.cells]) (by simp [stepM])
end Go.Proofs.YtbknljofedfpjaaGreat.CtD
