/- Contracts of functions of the program, one behind the other, as plain data: what each call returns and which blocks it leaves. -/
import Derived.Test.YtddanjifhdaebaaIFacts
import Derived.Test.YtddanjifhdaebaaIAj
import Derived.Test.YtddanjifhdaebaaIAk
import Derived.Test.YtddanjifhdaebaaIAl
import Derived.Test.YtddanjifhdaebaaIAm
import Derived.Test.YtddanjifhdaebaaIAo
import Derived.Test.YtddanjifhdaebaaIAn
import Derived.Test.YtddanjifhdaebaaIAt
import Derived.Test.YtddanjifhdaebaaIAr
set_option linter.unusedVariables false
set_option linter.unusedSimpArgs false
set_option linter.unusedSectionVars false
set_option maxHeartbeats 16000000
set_option maxRecDepth 100000
namespace Go.Proofs.Ytddanjifhdaebaa.CtR
open Go Go.CT CtF
variable [Yn]
theorem and1_sec (a:Nat) (ha:a≤3):(((a &&& 1:Nat):Int) != 0)=secL a:=by
 obtain rfl | rfl | rfl | rfl:a=0∨a=1∨a=2∨a=3:=by omega
 all_goals decide
theorem l3Part (p : Pg) (m : Mm) (hv : m.vals.length = p.vars.length) (ha : m.arrays.length = p.arrays.length) (hv1 : p.vars.length ≤ 1000) (ha1 : p.arrays.length ≤ 2) (h4 : ∀ a ∈ m.arrays, a.length = 4) (hl1 : lab3 p.vars) (hl2 : lab3 p.arrays) :
 DC Try.prog 72 [.agg p.cells,.agg m.cells,DI .i64 1] [] (fun r h=>r = .agg (clrM secQ p.vars p.arrays m).cells∧h=[]):=by
 have hmx:=mx_eq
 have hown:=l3Copy m (by omega) (by omega) h4
 obtain ⟨vs,ar,bd⟩:=p
 simp only at hv ha hv1 ha1 hl1 hl2 ⊢
 have hlen:=clS_len secQ vs m.vals
 have hsucc:=fun i x h=>@clS_succ _ secQ vs m.vals i x h
 unfold memB at hown
 obtain ⟨va,arr⟩:=m
 simp only at hv ha h4 hlen hsucc
 generalize hR:(fun (r:D) (h:List (Option (List C)))=>r = .agg (clrM secQ vs ar ⟨va,arr⟩).cells∧h=[])=R
 refine dcZ Try.func72 ?_
 simp only [go_sem,Mm.cells]
 iterate 3 ((try (refine drvZ Try.func72 ?_;simp only [go_sem,Mm.cells]));((with_reducible and_intros)<;>try exact sd))
 refine XK.callG [] hown ok116 (fun i' x h=>by simp at h) (hbT ()) (fun d h' ⟨_,e⟩=>by subst e;simp) ?_
 rintro _ _ ⟨rfl,rfl⟩ _
 iterate 3 ((try (refine drvZ Try.func72 ?_;simp only [go_sem,renCs_I,renCs_hdr,renCs_b0,renCs_b1]));((with_reducible and_intros)<;>try exact sd))
 refine Go.loopQ (fun i : Nat => [(2, DI .i64 1), (3, .c (.ptr 0 0)), (6, .c (.ptr 128 0)), (7, .c (.ptr 320 0)), (8, DI .i64 i)])
  (fun i=>[(0,some (Pg.cells ⟨vs,ar,bd⟩)),(128,some [.v (.slice none 0 0),.v (.slice none 0 0)]),(256,some ((clS secQ vs va i).map I64)),(257,some (hdr 258 259 arr.length)),(258,some (blk0 arr)),(259,some (blk1 arr)),(320,some [.msl 256 1 0 va.length,.msl 257 1 0 arr.length])])
  4096 (fun i=>i≤vs.length) (fun i=>vs.length - i) ?_ 0 some [] _ (Nat.zero_le _) ?_
 ·intro i hi again
  have hli:=hlen i
  rcases Nat.lt_or_ge i vs.length with hlt | hge
  ·obtain ⟨x,hx⟩:∃ x,vs[i]? = some x:=⟨vs[i],by simp [hlt]⟩
   obtain ⟨a,ha3,rfl⟩:=labX hl1 (List.mem_of_getElem? hx)
   have hfx:=and1_sec a ha3
   have hs:=hsucc i _ hx
   have hsq:secQ (a:Int)=secL a:=by unfold secQ;rw [Int.toNat_natCast]
   rw [hsq] at hs
   have hltv:i<va.length:=by omega
   generalize clS secQ vs va i=S at *
   generalize secL a=b at *
   cases b with
   | true =>
    rw [if_pos rfl] at hs
    have hset:(S.map I64).set i (.v (.int .i64 0))=(S.set i 0).map I64:=by rw [List.map_set]
    refine drvL Try.func72 ?_
    simp only [go_sem,Mm.cells,hx,hlt,hltv,hfx]
    iterate 6 ((try (refine drvZ Try.func72 ?_;simp only [go_sem,Mm.cells,hx,hlt,hltv,hfx,hset]));((with_reducible and_intros)<;>try exact sd))
    refine again (i+1) some [] _ hlt (by omega) ?_
    simp only [go_sem,TmOK,DM,DMs,CM,CMs,forall_eq,exists_eq_left,Mq,HpOK,LowOK,hs]
    simp [CMs_hdr,CMs_b0,CMs_b1,upd]
    exact CMs.kf (by rw [hset];exact kf_I _)
   | false =>
    rw [if_neg (by simp)] at hs
    refine drvL Try.func72 ?_
    simp only [go_sem,Mm.cells,hx,hlt,hltv,hfx]
    iterate 6 ((try (refine drvZ Try.func72 ?_;simp only [go_sem,Mm.cells,hx,hlt,hltv,hfx]));((with_reducible and_intros)<;>try exact sd))
    refine again (i+1) some [] _ hlt (by omega) ?_
    simp only [go_sem,TmOK,DM,DMs,CM,CMs,forall_eq,exists_eq_left,Mq,HpOK,LowOK,hs]
    simp [CMs_I,CMs_hdr,CMs_b0,CMs_b1,upd]
  ·have hn:¬ i<va.length:=by omega
   obtain rfl:i=vs.length:=by omega
   generalize hS:clS secQ vs va vs.length=S at *
   refine drvL Try.func72 ?_
   simp only [go_sem,Mm.cells,hn]
   iterate 4 ((try (refine drvZ Try.func72 ?_;simp only [go_sem,Mm.cells,hn]));((with_reducible and_intros)<;>try exact sd))
   have fin:∀ (A:List (List Int)) (hp:Hp),A=clA secQ ar arr→A.length=arr.length→(∀ a ∈ A,a.length=4)→hp 256=some (some (S.map I64))→hp 257=some (some (hdr 258 259 arr.length))→hp 258=some (some (blk0 A))→hp 259=some (some (blk1 A))→RetOb 0 R (.agg [.msl 256 1 0 va.length,.msl 257 1 0 arr.length]) hp:=fun A hp e1 e2 e3 g1 g2 g3 g4 =>
    RetOb.mem0 (m:=⟨S,A⟩) (k2:=258) (k3:=259) (by simp only;omega) e3 (by subst hR;exact ⟨by rw [e1,← hS];rfl,rfl⟩) g1 (by rw [e2];exact g2) g3 g4 (by simp only;omega) (by simp only;omega) (by decide)
   clear hown hlen hsucc again hi hge
   rcases arr with _ | ⟨a,_ | ⟨a',_ | ⟨c,r⟩⟩⟩<;>rcases ar with _ | ⟨l,_ | ⟨l',_ | ⟨l3,r2⟩⟩⟩<;>simp only [List.length_cons,List.length_nil] at ha ha1<;>(try (exfalso;omega))
   ·refine Go.loop ?_
    refine drvL Try.func72 ?_
    simp only [go_sem,Mm.cells,Int.natCast_zero,Int.reduceLT]
    iterate 3 ((try (refine drvZ Try.func72 ?_;simp only [go_sem,Mm.cells,Int.natCast_zero,Int.reduceLT]));((with_reducible and_intros)<;>try exact sd))
    exact fin [] _ rfl rfl (by simp) rfl rfl rfl rfl
   ·obtain ⟨n,hn3,rfl⟩:=labX hl2 (x:=l) (by simp)
    have hfx:=and1_sec n hn3
    obtain ⟨x0,x1,x2,x3,rfl⟩:=len4 (h4 a (by simp))
    have hb0:blk0 [[x0,x1,x2,x3]]=[I64 x0,I64 x1,I64 x2,I64 x3]:=rfl
    have hb1:blk1 [[x0,x1,x2,x3]]=[]:=rfl
    have hcl:clA secQ [(n:Int)] [[x0,x1,x2,x3]]=[if secQ (n:Int) then [0,0,0,0] else [x0,x1,x2,x3]]:=rfl
    rw [hcl,show secQ (n:Int)=secL n from by unfold secQ;rw [Int.toNat_natCast]] at fin
    rw [hb0,hb1]
    generalize secL n=b at *
    cases b
    all_goals
     refine Go.loop ?_
     refine drvL Try.func72 ?_
     simp only [go_sem,Mm.cells,hdr,List.take,Int.natCast_zero,List.set_cons_zero,List.set_cons_succ,Int.reduceLT,hfx]
     iterate 6 ((try (refine drvZ Try.func72 ?_;simp only [go_sem,Mm.cells,hdr,List.take,Int.natCast_zero,List.set_cons_zero,List.set_cons_succ,Int.reduceLT,hfx]));((with_reducible and_intros)<;>try exact sd))
     refine Go.loop ?_
     refine drvL Try.func72 ?_
     simp only [go_sem,Mm.cells,hdr,List.take,Int.natCast_zero,List.set_cons_zero,List.set_cons_succ,Int.reduceLT,hfx]
     iterate 6 ((try (refine drvZ Try.func72 ?_;simp only [go_sem,Mm.cells,hdr,List.take,Int.natCast_zero,List.set_cons_zero,List.set_cons_succ,Int.reduceLT,hfx]));((with_reducible and_intros)<;>try exact sd))
     refine Go.inLoop ?_
     refine drvL Try.func72 ?_
     simp only [go_sem,Mm.cells,hdr,List.take,Int.natCast_zero,List.set_cons_zero,List.set_cons_succ,Int.reduceLT,hfx]
     iterate 6 ((try (refine drvZ Try.func72 ?_;simp only [go_sem,Mm.cells,hdr,List.take,Int.natCast_zero,List.set_cons_zero,List.set_cons_succ,Int.reduceLT,hfx]));((with_reducible and_intros)<;>try exact sd))
     refine Go.inLoop ?_
     refine drvL Try.func72 ?_
     simp only [go_sem,Mm.cells,hdr,List.take,Int.natCast_zero,List.set_cons_zero,List.set_cons_succ,Int.reduceLT,hfx]
     iterate 6 ((try (refine drvZ Try.func72 ?_;simp only [go_sem,Mm.cells,hdr,List.take,Int.natCast_zero,List.set_cons_zero,List.set_cons_succ,Int.reduceLT,hfx]));((with_reducible and_intros)<;>try exact sd))
     refine Go.inLoop ?_
     refine drvL Try.func72 ?_
     simp only [go_sem,Mm.cells,hdr,List.take,Int.natCast_zero,List.set_cons_zero,List.set_cons_succ,Int.reduceLT,hfx]
     iterate 6 ((try (refine drvZ Try.func72 ?_;simp only [go_sem,Mm.cells,hdr,List.take,Int.natCast_zero,List.set_cons_zero,List.set_cons_succ,Int.reduceLT,hfx]));((with_reducible and_intros)<;>try exact sd))
     refine Go.inLoop ?_
     refine drvL Try.func72 ?_
     simp only [go_sem,Mm.cells,hdr,List.take,Int.natCast_zero,List.set_cons_zero,List.set_cons_succ,Int.reduceLT,hfx]
     iterate 6 ((try (refine drvZ Try.func72 ?_;simp only [go_sem,Mm.cells,hdr,List.take,Int.natCast_zero,List.set_cons_zero,List.set_cons_succ,Int.reduceLT,hfx]));((with_reducible and_intros)<;>try exact sd))
     refine Go.inLoop ?_
     refine drvL Try.func72 ?_
     simp only [go_sem,Mm.cells,hdr,List.take,Int.natCast_zero,List.set_cons_zero,List.set_cons_succ,Int.reduceLT,hfx]
     iterate 6 ((try (refine drvZ Try.func72 ?_;simp only [go_sem,Mm.cells,hdr,List.take,Int.natCast_zero,List.set_cons_zero,List.set_cons_succ,Int.reduceLT,hfx]));((with_reducible and_intros)<;>try exact sd))
     exact fin _ _ rfl rfl (by simp) rfl rfl rfl rfl
   ·obtain ⟨n,hn3,rfl⟩:=labX hl2 (x:=l) (by simp)
    obtain ⟨n',hn4,rfl⟩:=labX hl2 (x:=l') (by simp)
    have hfx:=and1_sec n hn3
    have hfx2:=and1_sec n' hn4
    obtain ⟨x0,x1,x2,x3,rfl⟩:=len4 (h4 a (by simp))
    obtain ⟨y0,y1,y2,y3,rfl⟩:=len4 (h4 a' (by simp))
    have hb0:blk0 [[x0,x1,x2,x3],[y0,y1,y2,y3]]=[I64 x0,I64 x1,I64 x2,I64 x3]:=rfl
    have hb1:blk1 [[x0,x1,x2,x3],[y0,y1,y2,y3]]=[I64 y0,I64 y1,I64 y2,I64 y3]:=rfl
    have hcl:clA secQ [(n:Int),(n':Int)] [[x0,x1,x2,x3],[y0,y1,y2,y3]]=[if secQ (n:Int) then [0,0,0,0] else [x0,x1,x2,x3],if secQ (n':Int) then [0,0,0,0] else [y0,y1,y2,y3]]:=rfl
    rw [hcl,show secQ (n:Int)=secL n from by unfold secQ;rw [Int.toNat_natCast],show secQ (n':Int)=secL n' from by unfold secQ;rw [Int.toNat_natCast]] at fin
    rw [hb0,hb1]
    generalize secL n=b at *
    generalize secL n'=b' at *
    cases b<;>cases b'
    all_goals
     refine Go.loop ?_
     refine drvL Try.func72 ?_
     simp only [go_sem,Mm.cells,hdr,List.take,Int.natCast_zero,List.set_cons_zero,List.set_cons_succ,Int.reduceLT,hfx,hfx2]
     iterate 6 ((try (refine drvZ Try.func72 ?_;simp only [go_sem,Mm.cells,hdr,List.take,Int.natCast_zero,List.set_cons_zero,List.set_cons_succ,Int.reduceLT,hfx,hfx2]));((with_reducible and_intros)<;>try exact sd))
     refine Go.loop ?_
     refine drvL Try.func72 ?_
     simp only [go_sem,Mm.cells,hdr,List.take,Int.natCast_zero,List.set_cons_zero,List.set_cons_succ,Int.reduceLT,hfx,hfx2]
     iterate 6 ((try (refine drvZ Try.func72 ?_;simp only [go_sem,Mm.cells,hdr,List.take,Int.natCast_zero,List.set_cons_zero,List.set_cons_succ,Int.reduceLT,hfx,hfx2]));((with_reducible and_intros)<;>try exact sd))
     refine Go.inLoop ?_
     refine drvL Try.func72 ?_
     simp only [go_sem,Mm.cells,hdr,List.take,Int.natCast_zero,List.set_cons_zero,List.set_cons_succ,Int.reduceLT,hfx,hfx2]
     iterate 6 ((try (refine drvZ Try.func72 ?_;simp only [go_sem,Mm.cells,hdr,List.take,Int.natCast_zero,List.set_cons_zero,List.set_cons_succ,Int.reduceLT,hfx,hfx2]));((with_reducible and_intros)<;>try exact sd))
     refine Go.inLoop ?_
     refine drvL Try.func72 ?_
     simp only [go_sem,Mm.cells,hdr,List.take,Int.natCast_zero,List.set_cons_zero,List.set_cons_succ,Int.reduceLT,hfx,hfx2]
     iterate 6 ((try (refine drvZ Try.func72 ?_;simp only [go_sem,Mm.cells,hdr,List.take,Int.natCast_zero,List.set_cons_zero,List.set_cons_succ,Int.reduceLT,hfx,hfx2]));((with_reducible and_intros)<;>try exact sd))
     refine Go.inLoop ?_
     refine drvL Try.func72 ?_
     simp only [go_sem,Mm.cells,hdr,List.take,Int.natCast_zero,List.set_cons_zero,List.set_cons_succ,Int.reduceLT,hfx,hfx2]
     iterate 6 ((try (refine drvZ Try.func72 ?_;simp only [go_sem,Mm.cells,hdr,List.take,Int.natCast_zero,List.set_cons_zero,List.set_cons_succ,Int.reduceLT,hfx,hfx2]));((with_reducible and_intros)<;>try exact sd))
     refine Go.inLoop ?_
     refine drvL Try.func72 ?_
     simp only [go_sem,Mm.cells,hdr,List.take,Int.natCast_zero,List.set_cons_zero,List.set_cons_succ,Int.reduceLT,hfx,hfx2]
     iterate 6 ((try (refine drvZ Try.func72 ?_;simp only [go_sem,Mm.cells,hdr,List.take,Int.natCast_zero,List.set_cons_zero,List.set_cons_succ,Int.reduceLT,hfx,hfx2]));((with_reducible and_intros)<;>try exact sd))
     refine Go.inLoop ?_
     refine drvL Try.func72 ?_
     simp only [go_sem,Mm.cells,hdr,List.take,Int.natCast_zero,List.set_cons_zero,List.set_cons_succ,Int.reduceLT,hfx,hfx2]
     iterate 6 ((try (refine drvZ Try.func72 ?_;simp only [go_sem,Mm.cells,hdr,List.take,Int.natCast_zero,List.set_cons_zero,List.set_cons_succ,Int.reduceLT,hfx,hfx2]));((with_reducible and_intros)<;>try exact sd))
     refine Go.loop ?_
     refine drvL Try.func72 ?_
     simp only [go_sem,Mm.cells,hdr,List.take,Int.natCast_zero,List.set_cons_zero,List.set_cons_succ,Int.reduceLT,hfx,hfx2]
     iterate 6 ((try (refine drvZ Try.func72 ?_;simp only [go_sem,Mm.cells,hdr,List.take,Int.natCast_zero,List.set_cons_zero,List.set_cons_succ,Int.reduceLT,hfx,hfx2]));((with_reducible and_intros)<;>try exact sd))
     refine Go.inLoop ?_
     refine drvL Try.func72 ?_
     simp only [go_sem,Mm.cells,hdr,List.take,Int.natCast_zero,List.set_cons_zero,List.set_cons_succ,Int.reduceLT,hfx,hfx2]
     iterate 6 ((try (refine drvZ Try.func72 ?_;simp only [go_sem,Mm.cells,hdr,List.take,Int.natCast_zero,List.set_cons_zero,List.set_cons_succ,Int.reduceLT,hfx,hfx2]));((with_reducible and_intros)<;>try exact sd))
     refine Go.inLoop ?_
     refine drvL Try.func72 ?_
     simp only [go_sem,Mm.cells,hdr,List.take,Int.natCast_zero,List.set_cons_zero,List.set_cons_succ,Int.reduceLT,hfx,hfx2]
     iterate 6 ((try (refine drvZ Try.func72 ?_;simp only [go_sem,Mm.cells,hdr,List.take,Int.natCast_zero,List.set_cons_zero,List.set_cons_succ,Int.reduceLT,hfx,hfx2]));((with_reducible and_intros)<;>try exact sd))
     refine Go.inLoop ?_
     refine drvL Try.func72 ?_
     simp only [go_sem,Mm.cells,hdr,List.take,Int.natCast_zero,List.set_cons_zero,List.set_cons_succ,Int.reduceLT,hfx,hfx2]
     iterate 6 ((try (refine drvZ Try.func72 ?_;simp only [go_sem,Mm.cells,hdr,List.take,Int.natCast_zero,List.set_cons_zero,List.set_cons_succ,Int.reduceLT,hfx,hfx2]));((with_reducible and_intros)<;>try exact sd))
     refine Go.inLoop ?_
     refine drvL Try.func72 ?_
     simp only [go_sem,Mm.cells,hdr,List.take,Int.natCast_zero,List.set_cons_zero,List.set_cons_succ,Int.reduceLT,hfx,hfx2]
     iterate 6 ((try (refine drvZ Try.func72 ?_;simp only [go_sem,Mm.cells,hdr,List.take,Int.natCast_zero,List.set_cons_zero,List.set_cons_succ,Int.reduceLT,hfx,hfx2]));((with_reducible and_intros)<;>try exact sd))
     refine Go.inLoop ?_
     refine drvL Try.func72 ?_
     simp only [go_sem,Mm.cells,hdr,List.take,Int.natCast_zero,List.set_cons_zero,List.set_cons_succ,Int.reduceLT,hfx,hfx2]
     iterate 6 ((try (refine drvZ Try.func72 ?_;simp only [go_sem,Mm.cells,hdr,List.take,Int.natCast_zero,List.set_cons_zero,List.set_cons_succ,Int.reduceLT,hfx,hfx2]));((with_reducible and_intros)<;>try exact sd))
     exact fin _ _ rfl rfl (by simp) rfl rfl rfl rfl
 ·simp only [go_sem,TmOK,DM,DMs,CM,CMs,forall_eq,exists_eq_left,Mq,HpOK,LowOK]
  simp [CMs_I,clS,CMs_hdr,CMs_b0,CMs_b1,upd]
theorem memorySameS (a b:Mm) (h1:a.vals.length≤mx) (h2:a.arrays.length≤mx) (h3:∀ x ∈ a.arrays,x.length≤mx):DC Try.prog 71 [.agg a.cells,.agg b.cells] [] (fun r h=>r=DB (memSame a b)∧h=[]):=by
 have hmx:=mx_eq
 obtain ⟨va,arr⟩:=a
 obtain ⟨vb,brr⟩:=b
 simp only [memSame] at h1 h2 h3 ⊢
 have hl:=l2Ints va vb h1
 unfold ints at hl
 have ret:∀ (x:Bool) (hp:Hp),x=(decide (va=vb) && decide (arr=brr))→RetOb 0 (fun r h=>r=DB (decide (va=vb) && decide (arr=brr))∧h=[]) (DB x) hp:=fun x hp h=>RetOb.plain (d:=DB _) ⟨by rw [h],rfl⟩ rfl
 generalize hR:(fun (r:D) (h:List (Option (List C)))=>r=DB (decide (va=vb) && decide (arr=brr))∧h=[])=R at ret ⊢
 clear hR
 generalize decide (va=vb)=e at *
 cases e with
 | false =>
  refine dcZ Try.func71 ?_
  simp only [go_sem,Mm.cells]
  iterate 6 ((try (refine drvZ Try.func71 ?_;simp only [go_sem,Mm.cells]));((with_reducible and_intros)<;>try exact sd);(try first | refine XK.p hl ok131 ?_ | refine XK.gp hl ok131 ?_))
  exact ret _ _ rfl
 | true =>
  by_cases hlen:arr.length=brr.length
  ·have hb:((arr.length:Int) != brr.length)=false:=by simp [hlen]
   refine dcZ Try.func71 ?_
   simp only [go_sem,Mm.cells,hb]
   iterate 6 ((try (refine drvZ Try.func71 ?_;simp only [go_sem,Mm.cells,hb]));((with_reducible and_intros)<;>try exact sd);(try first | refine XK.p hl ok131 ?_ | refine XK.gp hl ok131 ?_))
   refine Go.loopQ (fun i:Nat=>[(2,.c (.ptr 0 0)),(3,.c (.ptr 64 0)),(5,DI .i64 i)]) (fun i=>[(0,some (Mm.cells ⟨va,arr⟩)),(64,some (Mm.cells ⟨vb,brr⟩))]) 4096 (fun i=>i≤arr.length∧decide (arr=brr)=decide (arr.drop i=brr.drop i)) (fun i=>arr.length - i) ?_ 0 some [] _ ⟨Nat.zero_le _,rfl⟩ ?_
   ·intro i hi again
    rcases Nat.lt_or_ge i arr.length with hlt | hge
    ·obtain ⟨x,hx⟩:∃ x,arr[i]? = some x:=⟨arr[i],by simp [hlt]⟩
     obtain ⟨y,hy⟩:∃ y,brr[i]? = some y:=⟨brr[i]'(by omega),by simp⟩
     have hI:=hi.2
     obtain ⟨_,ex⟩:=List.getElem?_eq_some_iff.1 hx
     obtain ⟨hyl,ey⟩:=List.getElem?_eq_some_iff.1 hy
     rw [List.drop_eq_getElem_cons hlt,List.drop_eq_getElem_cons hyl,ex,ey] at hI
     have hl2:=l2Ints x y (h3 x (List.mem_of_getElem? hx))
     unfold ints at hl2
     by_cases hxy:x=y
     ·subst hxy
      rw [decide_eq_true rfl] at hl2
      refine drvL Try.func71 ?_
      simp only [go_sem,Mm.cells,hx,hy,hlt]
      iterate 6 ((try (refine drvZ Try.func71 ?_;simp only [go_sem,Mm.cells,hx,hy,hlt]));((with_reducible and_intros)<;>try exact sd);(try first | refine XK.p hl2 ok131 ?_ | refine XK.gp hl2 ok131 ?_))
      refine again (i+1) some [] _ ⟨by omega,by rw [hI];simp⟩ (by omega) ?_
      simp only [go_sem,TmOK,DM,DMs,CM,CMs,forall_eq,exists_eq_left,Mq,HpOK,LowOK,Mm.cells]
      simp
     ·rw [decide_eq_false hxy] at hl2
      refine drvL Try.func71 ?_
      simp only [go_sem,Mm.cells,hx,hy,hlt]
      iterate 6 ((try (refine drvZ Try.func71 ?_;simp only [go_sem,Mm.cells,hx,hy,hlt]));((with_reducible and_intros)<;>try exact sd);(try first | refine XK.p hl2 ok131 ?_ | refine XK.gp hl2 ok131 ?_))
      exact ret _ _ (by rw [hI];simp [hxy])
    ·have hn:¬ i<arr.length:=by omega
     refine drvL Try.func71 ?_
     simp only [go_sem,Mm.cells,hn]
     iterate 3 ((try (refine drvZ Try.func71 ?_;simp only [go_sem,Mm.cells,hn]));((with_reducible and_intros)<;>try exact sd))
     exact ret _ _ (by rw [hi.2,List.drop_of_length_le hge,List.drop_of_length_le (by omega)];rfl)
   ·simp only [go_sem,TmOK,DM,DMs,CM,CMs,forall_eq,exists_eq_left,Mq,HpOK,LowOK,Mm.cells]
    simp
  ·have hb:((arr.length:Int) != brr.length)=true:=by simp;omega
   refine dcZ Try.func71 ?_
   simp only [go_sem,Mm.cells,hb]
   iterate 6 ((try (refine drvZ Try.func71 ?_;simp only [go_sem,Mm.cells,hb]));((with_reducible and_intros)<;>try exact sd);(try first | refine XK.p hl ok131 ?_ | refine XK.gp hl ok131 ?_))
   refine ret _ _ ?_
   have hne:¬ arr=brr:=fun h=>hlen (by rw [h])
   simp [hne]
end Go.Proofs.Ytddanjifhdaebaa.CtR
namespace Go.Proofs.Ytddanjifhdaebaa.CtD
open Go Go.CT CtF CtR
variable [Yn]
open CtL (In Cd codeOK runC)
def fdM (l:List Mm) (i:Nat):Mm:=l.getD i ⟨[],[]⟩
def fdP (c:Cd) (l:List Mm) (i k:Nat):Bool:=(runC c (fdM l i)).2.2 && ((runC c (fdM l k)).2.2 && (!trSame (runC c (fdM l i)).2.1 (runC c (fdM l k)).2.1 && memSame (clrM secQ c.vars c.arrays (fdM l i)) (clrM secQ c.vars c.arrays (fdM l k))))
structure FD (c : Cd) (l : List Mm) (i0 k0 : Nat) : Prop where
 le:i0≤l.length
 no:∀ i k,i<k→k<l.length→(i<i0∨i=i0∧k<k0)→fdP c l i k=false
 yes:i0=l.length∨i0<k0∧k0<l.length∧fdP c l i0 k0=true
theorem firstQ (Q : Nat → Prop) : ∀ n, (∃ i, i < n ∧ Q i ∧ ∀ j, j < i → ¬ Q j) ∨ ∀ i, i < n → ¬ Q i
 | 0 => .inr fun i h=>by omega
 | n+1=>by
  rcases firstQ Q n with ⟨i,h1,h2,h3⟩ | h
  ·exact .inl ⟨i,by omega,h2,h3⟩
  ·by_cases hq:Q n
   ·exact .inl ⟨n,by omega,hq,fun j hj=>h j hj⟩
   ·refine .inr fun i hi=>?_
    by_cases e:i=n
    ·subst e;exact hq
    ·exact h i (by omega)
theorem fd_ex (c:Cd) (l:List Mm):∃ i0 k0,FD c l i0 k0:=by
 rcases firstQ (fun i=>∃ k,i<k∧k<l.length∧fdP c l i k=true) l.length with ⟨i,h1,⟨k',hk1,hk2,hk3⟩,h3⟩ | h
 ·rcases firstQ (fun k=>i<k∧fdP c l i k=true) l.length with ⟨k,g1,⟨g2,g4⟩,g3⟩ | g
  ·refine ⟨i,k,by omega,fun j q hjq hq hor=>?_,.inr ⟨g2,g1,g4⟩⟩
   cases hf:fdP c l j q with
   | false=>rfl
   | true =>
    rcases hor with hor | ⟨rfl,hor⟩
    ·exact absurd ⟨q,hjq,hq,hf⟩ (h3 j hor)
    ·exact absurd ⟨hjq,hf⟩ (g3 q hor)
  ·exact absurd ⟨hk1,hk3⟩ (g k' hk2)
 ·refine ⟨l.length,0,Nat.le_refl _,fun j q hjq hq hor=>?_,.inl rfl⟩
  cases hf:fdP c l j q with
  | false=>rfl
  | true=>exact absurd ⟨q,hjq,hq,hf⟩ (h j (by omega))
theorem fd_at {l:List Mm} {i:Nat} {x:Mm} (h:l[i]? = some x):fdM l i=x:=by unfold fdM;rw [List.getD_eq_getElem?_getD,h];rfl
theorem runC_ok {c:Cd} {m:Mm} (h:(runC c m).2.2=true):codeOK c=true∧memOK c.vars c.arrays m=true:=by
 unfold runC at h
 split at h
 ·next e=>simpa only [Bool.and_eq_true] using e
 ·simp at h
theorem codeOK_labs {c:Cd} (h:codeOK c=true):lab3 c.vars∧lab3 c.arrays:=by
 simp only [codeOK,headsOK,labs,Bool.and_eq_true,decide_eq_true_eq,List.all_eq_true] at h
 exact ⟨fun x hx=>h.1.1.1.1.1.2 x hx,fun x hx=>h.1.1.1.1.2 x hx⟩
theorem fits_of {c:Cd} {m:Mm} (h:codeOK c=true) (hm:memOK c.vars c.arrays m=true):MemFits (hdC c) m:=by
 simp only [codeOK,memOK,headsOK,vals01,arrOK,Bool.and_eq_true,decide_eq_true_eq,List.all_eq_true] at h hm
 obtain ⟨⟨⟨⟨⟨⟨⟨⟨h1,h2⟩,h3⟩,_⟩,_⟩,_⟩,_⟩,_⟩,_⟩:=h
 obtain ⟨⟨⟨g1,g2⟩,g3⟩,g4⟩:=hm
 exact ⟨by simp only [hdC];omega,by simp only [hdC];omega,by simp only [hdC];omega,by simp only [hdC];omega,g3,fun a ha=>⟨by have:=(g4 a ha).1;omega,(g4 a ha).2⟩⟩
def fdR (l:List Mm) (i0 k0:Nat):D:=if i0=l.length then .tup [DI .i64 0,DI .i64 0,DB false] else .tup [DI .i64 i0,DI .i64 k0,DB true]
theorem clrM_len {vs ar:List Int} {m:Mm} (hv:m.vals.length=vs.length) (ha:m.arrays.length=ar.length) (h4:∀ a ∈ m.arrays,a.length=4):(clrM secQ vs ar m).vals.length=vs.length∧(clrM secQ vs ar m).arrays.length=ar.length∧∀ a ∈ (clrM secQ vs ar m).arrays,a.length=4:=by
 obtain ⟨va,arr⟩:=m
 simp only at hv ha h4
 simp only [clrM]
 refine ⟨by rw [clS_len];exact hv,?_⟩
 clear hv
 induction arr generalizing ar with
 | nil=>cases ar with
  | nil=>simp [clA]
  | cons=>simp at ha
 | cons a r ih=>cases ar with
  | nil=>simp at ha
  | cons l s =>
   simp only [List.length_cons] at ha
   obtain ⟨g1,g2⟩:=ih (ar:=s) (by omega) (fun a h=>h4 a (by simp [h]))
   simp only [clA,List.length_cons,List.mem_cons]
   refine ⟨by omega,fun b hb=>?_⟩
   rcases hb with rfl | hb
   ·split
    ·rfl
    ·exact h4 a (by simp)
   ·exact g2 b hb
open CtL (In Cd codeOK runC)
theorem cmT {hT hS:Hp} {r:Nat→Option Nat} {fz:List Nat} (t:List Ev):CM hT r hS fz (trD t) (trD t)=True:=eq_true (CM.kf rfl)
theorem findS (c : Cd) (l : List Mm) (i0 k0 : Nat) (h1 : c.vars.length ≤ 2000000) (h2 : c.arrays.length ≤ 2000000) (h3 : c.list.length ≤ 100000000) (hl : l.length ≤ 1048576) (hf : FD c l i0 k0) :
 DC Try.prog 16 [.agg (cdC c),.c (.isl 2 (l.map Mm.cells))] [] (fun r h=>r=fdR l i0 k0∧h=[]):=by
 have hmx:=mx_eq
 have ret1:∀ hp,i0=l.length→RetOb 0 (fun r h=>r=fdR l i0 k0∧h=[]) (.tup [DI .i64 0,DI .i64 0,DB false]) hp:=fun hp h=>by
  unfold fdR;rw [if_pos h]
  refine RetOb.ofQ (fun _=>none) [] _ [] ?_ ⟨rfl,rfl⟩ (by simp)
  simp [enumL,DM,DMs,CM,CMs,HpOK,LowOK]
 have ret2:∀ hp,i0 ≠ l.length→RetOb 0 (fun r h=>r=fdR l i0 k0∧h=[]) (.tup [DI .i64 i0,DI .i64 k0,DB true]) hp:=fun hp h=>by
  unfold fdR;rw [if_neg h]
  refine RetOb.ofQ (fun _=>none) [] _ [] ?_ ⟨rfl,rfl⟩ (by simp)
  simp [enumL,DM,DMs,CM,CMs,HpOK,LowOK]
 generalize hR:(fun (r:D) (h:List (Option (List C)))=>r=fdR l i0 k0∧h=[])=R at ret1 ret2 ⊢
 clear hR
 have hrc:=fun m=>runCodeS c m h1 h2 h3
 have hhd:=heads6 c
 have hft:=fun m=>l3Fits (hdC c) m (by simp only [hdC];omega) (by simp only [hdC];omega)
 have hpt:∀ m,codeOK c=true→memOK c.vars c.arrays m=true→DC Try.prog 72 [.agg (Pg.cells (hdC c)),.agg m.cells,DI .i64 1] [] (fun r h=>r = .agg (clrM secQ c.vars c.arrays m).cells∧h=[]):=fun m hc hm=>by
  have g:=fits_of hc hm
  exact l3Part (hdC c) m g.nv g.na (by have:=g.nv12;omega) g.na2 (fun a h=>(g.arr a h).1) (codeOK_labs hc).1 (codeOK_labs hc).2
 have hms:∀ a b,codeOK c=true→memOK c.vars c.arrays a=true→DC Try.prog 71 [.agg (clrM secQ c.vars c.arrays a).cells,.agg (clrM secQ c.vars c.arrays b).cells] [] (fun r h=>r=DB (memSame (clrM secQ c.vars c.arrays a) (clrM secQ c.vars c.arrays b))∧h=[]):=fun a b hc hm=>by
  have g:=fits_of hc hm
  have hq:=clrM_len (vs:=c.vars) (ar:=c.arrays) (m:=a) g.nv g.na (fun a h=>(g.arr a h).1)
  exact memorySameS _ _ (by omega) (by omega) (fun x hx=>by have:=hq.2.2 x hx;omega)
 have hts:=fun a b=>traceSameS (runC c a).2.1 (runC c b).2.1 (by have:=runC_len c a;omega)
 have hno:=hf.no
 have hyes:=hf.yes
 have hle:=hf.le
 have hok:=fun m=>runC_ok (c:=c) (m:=m)
 have hxs:∀ {i:Nat} {x:Mm},l[i]? = some x→(l.map Mm.cells)[i]? = some x.cells:=fun h=>by rw [List.getElem?_map,h];rfl
 have hrl:(l.map Mm.cells).length=l.length:=by simp
 generalize l.map Mm.cells=rows at *
 have hP:=fun {i k:Nat} {x y:Mm} (hx:l[i]? = some x) (hy:l[k]? = some y)=>show fdP c l i k=((runC c x).2.2 && ((runC c y).2.2 && (!trSame (runC c x).2.1 (runC c y).2.1 && memSame (clrM secQ c.vars c.arrays x) (clrM secQ c.vars c.arrays y)))) by unfold fdP;rw [fd_at hx,fd_at hy]
 simp only [show (hdC c).vars=c.vars from rfl,show (hdC c).arrays=c.arrays from rfl] at hft
 clear hf
 generalize runC c=rc at *
 generalize clrM secQ c.vars c.arrays=cl at *
 generalize memOK c.vars c.arrays=mo at *
 generalize codeOK c=co at *
 generalize hdC c=hd at *
 obtain ⟨p1,p2,p3⟩:=hd
 generalize fdP c l=P at *
 obtain ⟨vs,ar,li⟩:=c
 simp only [cdC] at *
 refine dcZ Try.func16 ?_
 simp only [go_sem]
 iterate 4 ((try (refine drvZ Try.func16 ?_;simp only [go_sem]));((with_reducible and_intros)<;>try exact sd);(try first | refine XK.p hhd ok68 ?_ | refine XK.gp hhd ok68 ?_))
 refine Go.loopQ (fun i:Nat=>[(1,.c (.isl 2 rows)),(2,.c (.ptr 0 0)),(7,.c (.ptr 384 0)),(8,DI .i64 i)]) (fun i=>[(0,some [isI vs,isI ar,.isl 5 (li.map inX)]),(384,some (Pg.cells ⟨p1,p2,p3⟩))]) 4096 (fun i=>i≤i0) (fun i=>l.length - i) ?_ 0 some [] _ (Nat.zero_le _) ?_
 ·intro i hi again
  rcases Nat.lt_or_ge i l.length with hlt | hge
  ·obtain ⟨x,hx⟩:∃ x,l[i]? = some x:=⟨l[i],by simp [hlt]⟩
   have hxl:=hxs hx
   have hrx:=hrc x
   have hPx:=fun {k:Nat} {y:Mm} (h:l[k]? = some y)=>hP hx h
   have hokx:=hok x
   have hptx:=hpt x
   have hmsx:=hms x
   have htsx:=hts x
   generalize cl x=cx at *
   generalize rc x=rx at *
   obtain ⟨⟨ma,mr⟩,t1,e1⟩:=rx
   obtain ⟨ca,cr⟩:=cx
   simp only at hrx hPx hokx hptx hmsx htsx
   have hkb:∃ kb:Nat,(i<i0→kb=l.length)∧(i=i0→kb=k0):=by
    by_cases h:i<i0
    ·exact ⟨l.length,fun _=>rfl,fun e=>by omega⟩
    ·exact ⟨k0,fun e=>by omega,fun _=>rfl⟩
   obtain ⟨kb,hkb1,hkb2⟩:=hkb
   have hkb3:kb≤l.length:=by
    rcases Nat.lt_or_ge i i0 with h | h
    ·rw [hkb1 h];exact Nat.le_refl _
    ·have e:i=i0:=by omega
     rw [hkb2 e];omega
   have step:∀ k,i<k→k≤kb→k<l.length→P i k=false→k+1≤kb:=fun k g1 g2 g3 g4=>by
    rcases Nat.lt_or_ge i i0 with h | h
    ·rw [hkb1 h];omega
    ·have e:i=i0:=by omega
     rw [hkb2 e] at g2 ⊢
     rcases Nat.lt_or_ge k k0 with h' | h'
     ·omega
     ·have e':k=k0:=by omega
      subst e e'
      rcases hyes with h'' | ⟨_,_,h''⟩
      ·omega
      ·rw [h''] at g4;cases g4
   have fin:∀ k,i<k→k≤kb→k<l.length→P i k=true→i=i0∧k=k0:=fun k g1 g2 g3 g4=>by
    have hn:=fun h=>hno i k g1 g3 h
    rw [g4] at hn
    rcases Nat.lt_or_ge i i0 with h | h
    ·exact absurd (hn (.inl h)) (by simp)
    ·have e:i=i0:=by omega
     refine ⟨e,?_⟩
     rw [hkb2 e] at g2
     rcases Nat.lt_or_ge k k0 with h' | h'
     ·exact absurd (hn (.inr ⟨e,h'⟩)) (by simp)
     ·omega
   cases e1 with
   | false =>
    have hii:i<i0:=by
     rcases Nat.lt_or_ge i i0 with h | h
     ·exact h
     ·have e:i=i0:=by omega
      subst e
      rcases hyes with h'' | ⟨_,h3,h''⟩
      ·omega
      ·obtain ⟨y,hy⟩:∃ y,l[k0]? = some y:=⟨l[k0],by simp⟩
       rw [hPx hy] at h''
       simp at h''
    obtain ⟨xa,xr⟩:=x
    refine drvL Try.func16 ?_
    simp only [go_sem,Mm.cells,hxl,hrl,hlt]
    iterate 6 ((try (refine drvZ Try.func16 ?_;simp only [go_sem,Mm.cells,hxl,hrl,hlt]));((with_reducible and_intros)<;>try exact sd);(try first | refine XK.p hrx ok69 ?_ | refine XK.gp hrx ok69 ?_))
    refine again (i+1) some [] _ (by omega) (by omega) ?_
    simp only [go_sem,TmOK,DM,DMs,CM,CMs,forall_eq,exists_eq_left,Mq,HpOK,LowOK]
    simp [cmT]
   | true =>
    obtain ⟨hco,hmx1⟩:=hokx rfl
    have hptx:=hptx hco hmx1
    obtain ⟨xa,xr⟩:=x
    refine drvL Try.func16 ?_
    simp only [go_sem,Mm.cells,hxl,hrl,hlt]
    iterate 6 ((try (refine drvZ Try.func16 ?_;simp only [go_sem,Mm.cells,hxl,hrl,hlt]));((with_reducible and_intros)<;>try exact sd);(try first | refine XK.p hrx ok69 ?_ | refine XK.gp hrx ok69 ?_))
    refine Go.loopQ (fun k:Nat=>[(1,.c (.isl 2 rows)),(2,.c (.ptr 0 0)),(7,.c (.ptr 384 0)),(8,DI .i64 i),(10,.c (trD t1)),(12,DI .i64 k)]) (fun k=>[(0,some [isI vs,isI ar,.isl 5 (li.map inX)]),(384,some (Pg.cells ⟨p1,p2,p3⟩))]) 8192 (fun k=>i<k∧k≤kb) (fun k=>l.length - k) ?_ (i+1) some [] _ ⟨by omega,by
     rcases Nat.lt_or_ge i i0 with h | h
     ·rw [hkb1 h];omega
     ·have e:i=i0:=by omega
      rw [hkb2 e];omega⟩ ?_
    ·intro k ⟨hik,hkk⟩ again2
     rcases Nat.lt_or_ge k l.length with hkl | hkg
     ·obtain ⟨y,hy⟩:∃ y,l[k]? = some y:=⟨l[k],by simp [hkl]⟩
      have hyl:=hxs hy
      have hPy:=hPx hy
      have hry:=hrc y
      have hfy:=hft y
      have hoky:=hok y
      have hpty:=hpt y hco
      have hmsy:=hmsx y hco hmx1
      have htsy:=htsx y
      have step:=step k hik hkk hkl
      have fin:=fin k hik hkk hkl
      rw [hPy] at step fin
      generalize cl y=cy at *
      generalize rc y=ry at *
      generalize mo y=fy at *
      obtain ⟨⟨mb,ms⟩,t2,e2⟩:=ry
      obtain ⟨cb,cs⟩:=cy
      generalize hqs:memSame ⟨ca,cr⟩ ⟨cb,cs⟩=qs at *
      simp only at hry hoky htsy step fin hmsy
      generalize hqt:trSame t1 t2=qt at *
      obtain ⟨ya,yr⟩:=y
      cases fy with
      | false =>
       have he2:e2=false:=by cases e2 with
        | false=>rfl
        | true=>exact absurd (hoky rfl).2 (by simp)
       subst he2
       refine drvL Try.func16 ?_
       simp only [go_sem,Mm.cells,hyl,hrl,hkl,hxl,hlt]
       iterate 6 ((try (refine drvZ Try.func16 ?_;simp only [go_sem,Mm.cells,hyl,hrl,hkl,hxl,hlt]));((with_reducible and_intros)<;>try exact sd);(try first | refine XK.p hfy ok70 ?_ | refine XK.gp hfy ok70 ?_ | refine XK.gs (DB false) ?_))
       refine again2 (k+1) some [] _ ⟨by omega,step (by simp)⟩ (by omega) ?_
       simp only [go_sem,TmOK,DM,DMs,CM,CMs,forall_eq,exists_eq_left,Mq,HpOK,LowOK]
       simp [cmT]
      | true =>
       have hpty:=hpty rfl
       cases qs with
       | false =>
        refine drvL Try.func16 ?_
        simp only [go_sem,Mm.cells,hyl,hrl,hkl,hxl,hlt]
        iterate 6 ((try (refine drvZ Try.func16 ?_;simp only [go_sem,Mm.cells,hyl,hrl,hkl,hxl,hlt]));((with_reducible and_intros)<;>try exact sd);(try first | refine XK.p hfy ok70 ?_ | refine XK.gp hfy ok70 ?_ | refine XK.p hptx ok72 ?_ | refine XK.gp hptx ok72 ?_ | refine XK.p hpty ok72 ?_ | refine XK.gp hpty ok72 ?_ | refine XK.p hmsy ok71 ?_ | refine XK.gp hmsy ok71 ?_))
        refine again2 (k+1) some [] _ ⟨by omega,step (by simp)⟩ (by omega) ?_
        simp only [go_sem,TmOK,DM,DMs,CM,CMs,forall_eq,exists_eq_left,Mq,HpOK,LowOK]
        simp [cmT]
       | true =>
        cases e2 with
        | false =>
         refine drvL Try.func16 ?_
         simp only [go_sem,Mm.cells,hyl,hrl,hkl,hxl,hlt]
         iterate 8 ((try (refine drvZ Try.func16 ?_;simp only [go_sem,Mm.cells,hyl,hrl,hkl,hxl,hlt]));((with_reducible and_intros)<;>try exact sd);(try first | refine XK.p hfy ok70 ?_ | refine XK.gp hfy ok70 ?_ | refine XK.p hptx ok72 ?_ | refine XK.gp hptx ok72 ?_ | refine XK.p hpty ok72 ?_ | refine XK.gp hpty ok72 ?_ | refine XK.p hmsy ok71 ?_ | refine XK.gp hmsy ok71 ?_ | refine XK.p hry ok69 ?_ | refine XK.gp hry ok69 ?_ | refine XK.gs (DB false) ?_))
         refine again2 (k+1) some [] _ ⟨by omega,step (by simp)⟩ (by omega) ?_
         simp only [go_sem,TmOK,DM,DMs,CM,CMs,forall_eq,exists_eq_left,Mq,HpOK,LowOK]
         simp [cmT]
        | true =>
         cases qt with
         | true =>
          refine drvL Try.func16 ?_
          simp only [go_sem,Mm.cells,hyl,hrl,hkl,hxl,hlt]
          iterate 8 ((try (refine drvZ Try.func16 ?_;simp only [go_sem,Mm.cells,hyl,hrl,hkl,hxl,hlt]));((with_reducible and_intros)<;>try exact sd);(try first | refine XK.p hfy ok70 ?_ | refine XK.gp hfy ok70 ?_ | refine XK.p hptx ok72 ?_ | refine XK.gp hptx ok72 ?_ | refine XK.p hpty ok72 ?_ | refine XK.gp hpty ok72 ?_ | refine XK.p hmsy ok71 ?_ | refine XK.gp hmsy ok71 ?_ | refine XK.p hry ok69 ?_ | refine XK.gp hry ok69 ?_ | refine XK.p htsy ok73 ?_ | refine XK.gp htsy ok73 ?_))
          refine again2 (k+1) some [] _ ⟨by omega,step (by simp)⟩ (by omega) ?_
          simp only [go_sem,TmOK,DM,DMs,CM,CMs,forall_eq,exists_eq_left,Mq,HpOK,LowOK]
          simp [cmT]
         | false =>
          obtain ⟨rfl,rfl⟩:=fin (by simp)
          refine drvL Try.func16 ?_
          simp only [go_sem,Mm.cells,hyl,hrl,hkl,hxl,hlt]
          iterate 14 ((try (refine drvZ Try.func16 ?_;simp only [go_sem,Mm.cells,hyl,hrl,hkl,hxl,hlt]));((with_reducible and_intros)<;>try exact sd);(try first | refine XK.p hfy ok70 ?_ | refine XK.gp hfy ok70 ?_ | refine XK.p hptx ok72 ?_ | refine XK.gp hptx ok72 ?_ | refine XK.p hpty ok72 ?_ | refine XK.gp hpty ok72 ?_ | refine XK.p hmsy ok71 ?_ | refine XK.gp hmsy ok71 ?_ | refine XK.p hry ok69 ?_ | refine XK.gp hry ok69 ?_ | refine XK.p htsy ok73 ?_ | refine XK.gp htsy ok73 ?_))
          exact ret2 _ (by omega)
     ·have hii:i<i0:=by
       rcases Nat.lt_or_ge i i0 with h | h
       ·exact h
       ·have e:i=i0:=by omega
        have:=hkb2 e
        omega
      have hn:¬ k<l.length:=by omega
      refine drvL Try.func16 ?_
      simp only [go_sem,hn,hrl]
      iterate 4 ((try (refine drvZ Try.func16 ?_;simp only [go_sem,hn,hrl]));((with_reducible and_intros)<;>try exact sd))
      refine again (i+1) some [] _ (by omega) (by omega) ?_
      simp only [go_sem,TmOK,DM,DMs,CM,CMs,forall_eq,exists_eq_left,Mq,HpOK,LowOK]
      simp [cmT]
    ·simp only [go_sem,TmOK,DM,DMs,CM,CMs,forall_eq,exists_eq_left,Mq,HpOK,LowOK]
     simp [cmT]
  ·have hn:¬ i<l.length:=by omega
   refine drvL Try.func16 ?_
   simp only [go_sem,hn,hrl]
   iterate 3 ((try (refine drvZ Try.func16 ?_;simp only [go_sem,hn,hrl]));((with_reducible and_intros)<;>try exact sd))
   exact ret1 _ (by omega)
 ·simp only [go_sem,TmOK,DM,DMs,CM,CMs,forall_eq,exists_eq_left,Mq,HpOK,LowOK]
  simp [cmT]
end Go.Proofs.Ytddanjifhdaebaa.CtD
