/- Contracts of functions of the program, one behind the other, as plain data: what each call returns and which blocks it leaves. -/
import Derived.Test.YtddanjifhdaebaaGFacts
import Derived.Test.YtddanjifhdaebaaGAi
import Derived.Test.YtddanjifhdaebaaGAq
import Derived.Test.YtddanjifhdaebaaGAr
import Derived.Test.YtddanjifhdaebaaGAl
import Derived.Test.YtddanjifhdaebaaGAm
import Derived.Test.YtddanjifhdaebaaGAn
import Derived.Test.YtddanjifhdaebaaGAo
import Derived.Test.YtddanjifhdaebaaGAj
set_option linter.unusedVariables false
set_option linter.unusedSimpArgs false
set_option linter.unusedSectionVars false
set_option maxHeartbeats 16000000
set_option maxRecDepth 100000
namespace Go.Proofs.Ytddanjifhdaebaa.CtR
open Go Go.CT CtF
variable [Yn]
def trsI (l:List (List Ev)):List C:=l.map trD
theorem trsI_len (l:List (List Ev)):(trsI l).length=l.length:=by simp [trsI]
theorem trsI_kf (l:List (List Ev)):∀ c ∈ trsI l,kf c=true:=fun c hc=>by
  obtain ⟨t,_,rfl⟩:=List.mem_map.1 hc;rfl
def runE (t:List Ev):C := .eptr [.eptr [.unk,.unk,trD t]]
def idxI (t:List Ev) (l:List (List Ev)):Int:=if idxT t l=l.length then -1 else (idxT t l:Int)
theorem leakFn (u t:List Ev) (hl:u.length≤mx):DC Try.prog 123 [.c (trD u),.c (runE t)] [] (fun r h=>r=DB (trSame u t)∧h=[]):=by
  have hts:=traceSame u t hl
  generalize trSame u t=b at *
  refine dcZ Try.func123 ?_
  simp only [go_sem,trD,runE]
  iterate 3 ((try (refine drvZ Try.func123 ?_;simp only [go_sem,trD,runE]));((with_reducible and_intros)<;>try exact sd);(try first | refine XK.p hts ok59 ?_ | refine XK.gp hts ok59 ?_))
  exact RetOb.plain (d:=DB b) ⟨rfl,rfl⟩ rfl
theorem indexFuncT (t : List Ev) (xs : List (List Ev)) (hl : xs.length ≤ 256) (hx : ∀ u ∈ xs, u.length ≤ mx) :
    DC Try.prog 122 [.c (.msl 0 1 0 xs.length),.c (.clo 123 [runE t])] [some (trsI xs)] (fun d h=>d=DI .i64 (idxI t xs)∧h=[some (trsI xs)]):=by
  have hmx:=mx_eq
  have ret:∀ (n:Int) (hp:Hp),n=idxI t xs→hp 0=some (some (trsI xs))→RetOb 1 (fun d h=>d=DI .i64 (idxI t xs)∧h=[some (trsI xs)]) (DI .i64 n) hp:=fun n hp h h0=>RetOb.keep1 (d:=DI .i64 n) (cs:=trsI xs) ⟨by rw [h],rfl⟩ h0 (trsI_kf xs) rfl
  generalize hR:(fun (d:D) (h:List (Option (List C)))=>d=DI .i64 (idxI t xs)∧h=[some (trsI xs)])=R at ret ⊢
  clear hR
  have htl:=trsI_len xs
  have hile:=idxT_le t xs
  have hiat:=idxT_at t xs
  have hibf:=idxT_before t xs
  refine dcZ Try.func122 ?_
  simp only [go_sem]
  ((try (refine drvZ Try.func122 ?_;simp only [go_sem]));((with_reducible and_intros)<;>try exact sd))
  refine Go.loopQ (fun i:Nat=>[(0,.c (.msl 0 1 0 xs.length)),(1,.c (.clo 123 [runE t])),(7,DI .i64 xs.length),(8,DI .i64 i)]) (fun _=>[(0,some (trsI xs))]) 1024 (fun i=>i≤idxT t xs) (fun i=>idxT t xs - i) ?_ 0 some [] _ (Nat.zero_le _) ?_
  · intro i hi again
    rcases Nat.lt_or_ge i xs.length with hlt | hge
    · obtain ⟨u,hu⟩:∃ u,xs[i]? = some u:=⟨xs[i],by simp [hlt]⟩
      have hum:u ∈ xs:=List.mem_of_getElem? hu
      have htk:(trsI xs)[i]? = some (trD u):=by unfold trsI;rw [List.getElem?_map,hu];rfl
      have hgx:=leakFn u t (hx u hum)
      rcases Nat.lt_or_ge i (idxT t xs) with hlt2 | hge2
      · rw [hibf i u hlt2 hu] at hgx
        refine drvL Try.func122 ?_
        simp only [go_sem,htk,hlt,htl,trD,runE]
        iterate 4 ((try (refine drvZ Try.func122 ?_;simp only [go_sem,htk,hlt,htl,trD,runE]));((with_reducible and_intros)<;>try exact sd);(try first | refine XK.p hgx ok123 ?_ | refine XK.gp hgx ok123 ?_))
        refine again (i+1) some [] _ hlt2 (by omega) ?_
        simp only [go_sem,TmOK,DM,DMs,CM,CMs,forall_eq,exists_eq_left,Mq,HpOK,LowOK]
        simp
        exact ⟨CM.kf (c:=runE t) rfl,CMs.kf (trsI_kf xs)⟩
      · obtain rfl:i=idxT t xs:=by omega
        have:=hiat hlt
        rw [this] at hu
        simp only [Option.some.injEq] at hu
        subst hu
        rw [(trSame_iff _ _).2 rfl] at hgx
        refine drvL Try.func122 ?_
        simp only [go_sem,htk,hlt,htl,trD,runE]
        iterate 3 ((try (refine drvZ Try.func122 ?_;simp only [go_sem,htk,hlt,htl,trD,runE]));((with_reducible and_intros)<;>try exact sd);(try first | refine XK.p hgx ok123 ?_ | refine XK.gp hgx ok123 ?_))
        refine ret _ _ ?_ rfl
        unfold idxI
        rw [if_neg (by omega)]
    · have hn:¬ i<xs.length:=by omega
      refine drvL Try.func122 ?_
      simp only [go_sem,hn]
      iterate 3 ((try (refine drvZ Try.func122 ?_;simp only [go_sem,hn]));((with_reducible and_intros)<;>try exact sd))
      refine ret _ _ ?_ rfl
      unfold idxI
      rw [if_pos (by omega)]
  · simp only [go_sem,TmOK,DM,DMs,CM,CMs,forall_eq,exists_eq_left,Mq,HpOK,LowOK]
    simp
    exact ⟨CM.kf (c:=runE t) rfl,CMs.kf (trsI_kf xs)⟩
end Go.Proofs.Ytddanjifhdaebaa.CtR
namespace Go.Proofs.Ytddanjifhdaebaa.CtR
open Go Go.CT CtF CtD
variable [Yn]
theorem lcS_sm (T : Nat → List Ev) {b N : Nat} (h : ∀ i, i < N → (T i).length ≤ b) : ∀ n, n ≤ N → ∀ t ∈ (lcS T n).1, t.length ≤ b
  | 0,_,t,ht=>by simp [lcS] at ht
  | n+1,hn,t,ht=>by
    have ih:=lcS_sm T h n (by omega)
    simp only [lcS] at ht
    split at ht
    · rcases List.mem_append.1 ht with h1 | h1
      · exact ih t h1
      · simp at h1;rw [h1];exact h n (by omega)
    · exact ih t ht
def kI (l:List Nat):List Int:=l.map (fun k:Nat=>(k:Int))
theorem kI_len (l:List Nat):(kI l).length=l.length:=by simp [kI]
theorem kI_snoc (l:List Nat) (k:Nat):(kI (l++[k])).map I64=(kI l).map I64++[I64 (k:Int)]:=by simp [kI]
theorem trsI_snoc (l:List (List Ev)) (t:List Ev):trsI (l++[t])=trsI l++[trD t]:=by simp [trsI]
theorem leakClassesIO (p : Pg) (m : Mm) (v : Int) (hl : p.vars.length ≤ mx) (hl2 : p.arrays.length ≤ mx) : DC Try.prog 57 [.agg p.cells, .agg m.cells, DI .i64 v] []
    (fun r h=>r = .c (.msl 0 1 0 (lcP p m v).length)∧h=[some ((lcP p m v).map I64)]):=by
  have hmx:=mx_eq
  have hv:=memoryValidI p m hl hl2
  have hmf:=@memFits_of _ p m
  have hbo:=@body_of _ p
  have hw:=within v 0 ((p.vars.length:Int) - 1)
  have ret0:∀ hp:Hp,lcP p m v=[]→RetOb 0 (fun r h=>r = .c (.msl 0 1 0 (lcP p m v).length)∧h=[some ((lcP p m v).map I64)]) (.c (.v (.slice none 0 0))) hp:=fun hp he=>by
    rw [he]
    exact intsNil
  cases hq:(progOK p && memOK p.vars p.arrays m) with
  | false =>
    rw [hq] at hv
    have he:lcP p m v=[]:=by unfold lcP;rw [if_neg (by rw [hq];simp)]
    generalize hR:(fun (r:D) (h:List (Option (List C)))=>r = .c (.msl 0 1 0 (lcP p m v).length)∧h=[some ((lcP p m v).map I64)])=R at ret0 ⊢
    obtain ⟨vs,ar,bd⟩:=p
    obtain ⟨va,arr⟩:=m
    refine dcZ Try.func57 ?_
    simp only [go_sem,Mm.cells]
    iterate 4 ((try (refine drvZ Try.func57 ?_;simp only [go_sem,Mm.cells]));((with_reducible and_intros)<;>try exact sd);(try first | refine XK.p hv ok118 ?_ | refine XK.gp hv ok118 ?_ | refine XK.gs (DB false) ?_))
    exact ret0 _ he
  | true =>
    rw [hq] at hv
    by_cases hvr:0≤v∧v<p.vars.length
    · have he:lcP p m v=(lcS (leakT p m v.toNat) 256).2.map (fun k:Nat=>(k:Int)):=by unfold lcP;rw [if_pos ⟨hq,hvr⟩]
      rw [he]
      have hm:=hmf hq
      have hpo:progOK p=true:=by simp only [Bool.and_eq_true] at hq;exact hq.1
      have hbd:=hbo hpo
      have hcp:=own m (by have:=hm.nv;have:=hm.nv12;omega) (by have:=hm.na;have:=hm.na2;omega) (fun a ha=>(hm.arr a ha).1)
      unfold memB at hcp
      rw [hm.nv,hm.na] at hcp
      obtain ⟨w,rfl⟩:∃ w:Nat,v=(w:Int):=⟨v.toNat,by omega⟩
      have hwn:w<p.vars.length:=by omega
      rw [show (decide ((0:Int)≤(w:Int)) && decide ((w:Int)≤(p.vars.length:Int) - 1))=true by simp;omega] at hw
      have hmva:=hm.nv
      generalize hR:(fun (r:D) (h:List (Option (List C)))=>r = .c (.msl 0 1 0 (List.length _))∧h=[some (List.map I64 _)])=R
      simp only [Int.toNat_natCast] at hR ⊢
      clear ret0 hmf hbo
      have hmf2:∀ n:Nat,n<256→MemFits p ⟨m.vals.set w n,m.arrays⟩:=fun n hn=>fitsV hm w (by omega)
      have hrn:=fun (n:Nat) (hn:n<256)=>runImpl p 5 ⟨m.vals.set w n,m.arrays⟩ p.body [] (hmf2 n hn) hbd.1 (by rw [wt5];simp only [List.length_nil];omega)
      have hlt:∀ n:Nat,n<256→(leakT p m w n).length≤1000000:=fun n hn=>by
        have h2:=(runL_ok (hmf2 n hn) hbd.1).2
        rw [wt5] at h2
        have:=hbd.2
        unfold leakT
        omega
      have hT:∀ n:Nat,(runL 5 ⟨m.vals.set w n,m.arrays⟩ p.body).2=leakT p m w n:=fun n=>rfl
      generalize leakT p m w=T at *
      obtain ⟨vs,ar,bd⟩:=p
      obtain ⟨va,arr⟩:=m
      have hvl:vs.length≤mx:=hl
      refine dcZ Try.func57 ?_
      simp only [go_sem,Mm.cells]
      iterate 6 ((try (refine drvZ Try.func57 ?_;simp only [go_sem,Mm.cells]));((with_reducible and_intros)<;>try exact sd);(try first | refine XK.p hv ok118 ?_ | refine XK.gp hv ok118 ?_ | refine XK.p hw ok119 ?_ | refine XK.gp hw ok119 ?_))
      refine Go.loopQ (fun n : Nat => [(2, DI .i64 w), (3, .c (.ptr 0 0)), (4, .c (.ptr 64 0)), (7, .c (.msl 192 1 0 n)), (8, .c (.msl 1280 1 0 (lcS T n).1.length)), (25, DI .i64 n)])
        (fun n=>[(0,some (Pg.cells ⟨vs,ar,bd⟩)),(64,some (Mm.cells ⟨va,arr⟩)),(192,some ((kI (lcS T n).2).map I64)),(1280,some (trsI (lcS T n).1))])
        4096 (fun n=>n≤256) (fun n=>256 - n) ?_ 0 (fun j=>if j=192 then none else if j=1280 then none else some j) [] _ (Nat.zero_le _) ?_
      · intro n hn again
        obtain ⟨hl1,hl2⟩:=lcS_len T n
        rcases Nat.lt_or_ge n 256 with hlt2 | hge
        · have hz:((n:Int)<256)=True:=eq_true (by omega)
          have hsucc:lcS T (n+1)=(if idxT (T n) (lcS T n).1=(lcS T n).1.length then (lcS T n).1++[T n] else (lcS T n).1,(lcS T n).2++[idxT (T n) (lcS T n).1]):=rfl
          have hrn:=hrn n hlt2
          have hTn:=hT n
          have hTl:=hlt n hlt2
          have hset:(va.map I64).set w (.v (.int .i64 n))=(va.set w n).map I64:=by rw [List.map_set]
          have hwv:w<va.length:=by simp only at hmva hwn;omega
          have htrs:=lcS_sm T hlt n hn
          generalize (lcS T n).1=trs at *
          generalize (lcS T n).2=out at *
          have hkl:=kI_len out
          have htrl:∀ t ∈ trs,t.length≤mx:=fun t ht=>by
            have:=htrs t ht
            omega
          have htl:=trsI_len trs
          refine drvL Try.func57 ?_
          simp only [go_sem,Mm.cells,hz]
          iterate 3 ((try (refine drvZ Try.func57 ?_;simp only [go_sem,Mm.cells,hz]));((with_reducible and_intros)<;>try exact sd))
          refine XK.callG [] hcp ok120 (fun i' x h=>by simp at h) (hbT ()) (fun d h' ⟨_,e⟩=>by subst e;simp) ?_
          rintro _ _ ⟨rfl,rfl⟩ _
          iterate 4 ((try (refine drvZ Try.func57 ?_;simp only [go_sem,Mm.cells,renCs_I,renCs_hdr,renCs_b0,renCs_b1,renCs_tr,hwv,hset]));((with_reducible and_intros)<;>try exact sd))
          have hkT:∀ c ∈ trsI trs,kf c=true:=trsI_kf trs
          refine XK.subQ (r := fun j => if j = 0 then some 4480 else if j = 1 then none else if j = 2 then some 4352 else if j = 3 then some 4353 else if j = 4 then some 4354 else if j = 5 then some 4355 else if j = 6 then some 4544 else if j = 10 then some 0 else if j = 11 then some 64 else if j = 12 then some 192 else some 1280) (fz := [])
            (tl:=[(2,DI .i64 w),(3,.c (.ptr 10 0)),(4,.c (.ptr 11 0)),(7,.c (.msl 12 1 0 n)),(8,.c (.msl 13 1 0 trs.length)),(25,DI .i64 n),(9,DI .i64 n),(10,.c (.ptr 6 0)),(40,.c (.ptr 0 0)),(42,.c (.isl 11 (St1.cellsL bd)))])
            (hl:=[(0,some [.msl 2 1 0 vs.length,.msl 3 1 0 ar.length,.msl 1 2 0 0]),(1,some []),(2,some ((va.set w n).map I64)),(3,some (hdr 4 5 ar.length)),(4,some (blk0 arr)),(5,some (blk1 arr)),(6,some [.ptr 0 0]),(10,some (Pg.cells ⟨vs,ar,bd⟩)),(11,some (Mm.cells ⟨va,arr⟩)),(12,some ((kI out).map I64)),(13,some (trsI trs))]) ?_ ?_
          · simp [Mq,TmOK,DM,CM,CMs,HpOK,LowOK,hOf,upd,CMs_I,CMs_hdr,CMs_b0,CMs_b1,Pg.cells,Mm.cells,isI,DI]
            exact ⟨CMs.kf (by rw [← List.map_set];exact kf_I _),CMs.kf (trsI_kf _)⟩
          refine XK.callG [0,1,2,3,4,5] hrn ok121 (hhp6 (by simp [hOf,upd,renCs,renC,rk0]) (by simp [hOf,upd,renCs_tr,renCs,renC,trC]) (by simp only [Option.map_some,renCs_I];rfl) (by simp [hOf,upd,renCs_hdr,rk0]) (by simp [hOf,upd,renCs_b0]) (by simp [hOf,upd,renCs_b1])) (hbT ()) (fun d h' ⟨_,e⟩=>by subst e;simp [stP']) ?_
          rintro _ _ ⟨rfl,rfl⟩ _
          unfold stP'
          rw [List.nil_append,hTn]
          ((try (refine drvZ Try.func57 ?_;simp only [go_sem,Mm.cells,renCs_I,renCs_hdr,renCs_b0,renCs_b1,renCs_tr]));((with_reducible and_intros)<;>try exact sd))
          refine XK.subQ (r := some) (fz := [5440]) (tl := [(2, DI .i64 w), (3, .c (.ptr 10 0)), (4, .c (.ptr 11 0)), (7, .c (.msl 12 1 0 n)), (8, .c (.msl 13 1 0 trs.length)), (25, DI .i64 n), (10, .c (.ptr 6 0)), (44, .c (.msl 13 1 0 trs.length)), (45, .c (.clo 123 [.ptr 6 0]))])
            (hl:=[(0,some [.unk,.unk,trD (T n)]),(6,some [.ptr 0 0]),(10,some (Pg.cells ⟨vs,ar,bd⟩)),(11,some (Mm.cells ⟨va,arr⟩)),(12,some ((kI out).map I64)),(13,some (trsI trs))]) ?_ ?_
          · simp [Mq,TmOK,DM,CM,CMs,HpOK,LowOK,hOf,upd,CMs_I,Pg.cells,Mm.cells,isI,DI,trD,runE,kf,Ev.cells,tOf]
            exact ⟨rfl,CMs.kf (trsI_kf _)⟩
          refine XK.subQ (r := some) (fz := [0]) (tl := [(2, DI .i64 w), (3, .c (.ptr 10 0)), (4, .c (.ptr 11 0)), (7, .c (.msl 12 1 0 n)), (8, .c (.msl 13 1 0 trs.length)), (25, DI .i64 n), (10, .c (.ptr 6 0)), (44, .c (.msl 13 1 0 trs.length)), (45, .c (.clo 123 [.ptr 6 0]))])
            (hl:=[(6,some [.eptr [.unk,.unk,trD (T n)]]),(10,some (Pg.cells ⟨vs,ar,bd⟩)),(11,some (Mm.cells ⟨va,arr⟩)),(12,some ((kI out).map I64)),(13,some (trsI trs))]) ?_ ?_
          · simp [Mq,TmOK,DM,CM,CMs,HpOK,LowOK,hOf,upd,CMs_I,Pg.cells,Mm.cells,isI,DI,trD,runE,kf,Ev.cells,tOf]
            exact CMs.kf (trsI_kf _)
          refine XK.subQ (r := some) (fz := [6]) (tl := [(2, DI .i64 w), (3, .c (.ptr 10 0)), (4, .c (.ptr 11 0)), (7, .c (.msl 12 1 0 n)), (8, .c (.msl 13 1 0 trs.length)), (25, DI .i64 n), (10, .c (runE (T n))), (44, .c (.msl 13 1 0 trs.length)), (45, .c (.clo 123 [runE (T n)]))])
            (hl:=[(10,some (Pg.cells ⟨vs,ar,bd⟩)),(11,some (Mm.cells ⟨va,arr⟩)),(12,some ((kI out).map I64)),(13,some (trsI trs))]) ?_ ?_
          · simp [Mq,TmOK,DM,CM,CMs,HpOK,LowOK,hOf,upd,CMs_I,Pg.cells,Mm.cells,isI,DI,trD,runE,kf,Ev.cells,tOf]
            exact CMs.kf (trsI_kf _)
          have hif:=indexFuncT (T n) trs (by omega) htrl
          by_cases hen:idxT (T n) trs=trs.length
          · rw [if_pos hen] at hsucc
            have hii:idxI (T n) trs = -1:=by unfold idxI;rw [if_pos hen]
            rw [hii] at hif
            have hneg:((-1:Int)<0)=True:=eq_true (by omega)
            have hs1:(lcS T (n+1)).1=trs++[T n]:=by rw [hsucc]
            have hs2:(lcS T (n+1)).2=out++[trs.length]:=by rw [hsucc,← hen]
            iterate 2 ((try (refine drvZ Try.func57 ?_;simp only [go_sem,Mm.cells,runE,trD]));((with_reducible and_intros)<;>try exact sd))
            refine XK.rp [13] hif ok122 ⟨by rw [Option.map_some,renCs_plain _ (kfs_mapI _ (trsI_kf _))];rfl,trivial⟩ ⟨kfs_mapI _ (trsI_kf _),trivial⟩ ?_
            iterate 6 ((try (refine drvZ Try.func57 ?_;simp only [go_sem,Mm.cells,hneg,htl,hkl,hl2,runE,trD]));((with_reducible and_intros)<;>try exact sd))
            refine again (n+1) (fun j=>if j=0 then some 10 else if j=64 then some 11 else if j=192 then some 6784 else some 6464) [] _ (by omega) (by omega) ?_
            simp only [go_sem,TmOK,DM,DMs,CM,CMs,forall_eq,exists_eq_left,Mq,HpOK,LowOK,Mm.cells,hs1,hs2,kI_snoc,trsI_snoc,trD,List.length_append]
            simp
            exact ⟨CMs.kf (kf_app (kf_I _) (by simp [kf])),CMs.kf (kf_app (trsI_kf _) (by simp [kf]))⟩
          · rw [if_neg hen] at hsucc
            have hii:idxI (T n) trs=(idxT (T n) trs:Int):=by unfold idxI;rw [if_neg hen]
            rw [hii] at hif
            generalize hke:idxT (T n) trs=k at *
            have hneg:((k:Int)<0)=False:=eq_false (by omega)
            have hs1:(lcS T (n+1)).1=trs:=by rw [hsucc]
            have hs2:(lcS T (n+1)).2=out++[k]:=by rw [hsucc]
            iterate 2 ((try (refine drvZ Try.func57 ?_;simp only [go_sem,Mm.cells,runE,trD]));((with_reducible and_intros)<;>try exact sd))
            refine XK.rp [13] hif ok122 ⟨by rw [Option.map_some,renCs_plain _ (kfs_mapI _ (trsI_kf _))];rfl,trivial⟩ ⟨kfs_mapI _ (trsI_kf _),trivial⟩ ?_
            iterate 6 ((try (refine drvZ Try.func57 ?_;simp only [go_sem,Mm.cells,hneg,htl,hkl,hl2,runE,trD]));((with_reducible and_intros)<;>try exact sd))
            refine again (n+1) (fun j=>if j=0 then some 10 else if j=64 then some 11 else if j=192 then some 6080 else some 13) [] _ (by omega) (by omega) ?_
            simp only [go_sem,TmOK,DM,DMs,CM,CMs,forall_eq,exists_eq_left,Mq,HpOK,LowOK,Mm.cells,hs1,hs2,kI_snoc,trsI_snoc,trD,List.length_append]
            simp
            exact ⟨CMs.kf (kf_app (kf_I _) (by simp [kf])),CMs.kf (trsI_kf _)⟩
        · have hz:((n:Int)<256)=False:=eq_false (by omega)
          obtain rfl:n=256:=by omega
          refine drvL Try.func57 ?_
          simp only [go_sem,Mm.cells,hz]
          iterate 2 ((try (refine drvZ Try.func57 ?_;simp only [go_sem,Mm.cells,hz]));((with_reducible and_intros)<;>try exact sd))
          rw [← hR]
          exact intsKeep (L:=kI (lcS T 256).2) (by simp [upd]) (by rw [kI_len,hl2])
      · simp only [go_sem,TmOK,DM,DMs,CM,CMs,forall_eq,exists_eq_left,Mq,HpOK,LowOK,Mm.cells,lcS,kI,trsI]
        simp
    · have he:lcP p m v=[]:=by unfold lcP;rw [if_neg (fun h=>hvr h.2)]
      have hw2:(decide ((0:Int)≤v) && decide (v≤(p.vars.length:Int) - 1))=false:=by
        by_cases h0:0≤v
        · have:¬ v≤(p.vars.length:Int) - 1:=fun h=>hvr ⟨h0,by omega⟩
          simp [this]
        · simp [h0]
      rw [hw2] at hw
      generalize hR:(fun (r:D) (h:List (Option (List C)))=>r = .c (.msl 0 1 0 (lcP p m v).length)∧h=[some ((lcP p m v).map I64)])=R at ret0 ⊢
      obtain ⟨vs,ar,bd⟩:=p
      obtain ⟨va,arr⟩:=m
      have hvl:vs.length≤mx:=hl
      refine dcZ Try.func57 ?_
      simp only [go_sem,Mm.cells]
      iterate 4 ((try (refine drvZ Try.func57 ?_;simp only [go_sem,Mm.cells]));((with_reducible and_intros)<;>try exact sd);(try first | refine XK.p hv ok118 ?_ | refine XK.gp hv ok118 ?_ | refine XK.p hw ok119 ?_ | refine XK.gp hw ok119 ?_))
      exact ret0 _ he
end Go.Proofs.Ytddanjifhdaebaa.CtR
namespace Go.Proofs.Ytddanjifhdaebaa.CtD
open Go Go.CT CtF CtR
variable [Yn]
theorem lcP_len {p:Pg} {m:Mm} {v:Int} (h:lcP p m v ≠ []):(progOK p && memOK p.vars p.arrays m)=true∧0≤v∧v<p.vars.length∧(lcP p m v).length=256:=by
  unfold lcP at h ⊢
  by_cases hc:(progOK p && memOK p.vars p.arrays m)=true∧0≤v∧v<p.vars.length
  · rw [if_pos hc]
    exact ⟨hc.1,hc.2.1,hc.2.2,by rw [List.length_map,(lcS_len _ 256).2]⟩
  · rw [if_neg hc] at h;exact absurd rfl h
end Go.Proofs.Ytddanjifhdaebaa.CtD
namespace Go.Proofs.Ytddanjifhdaebaa.CtL
variable [Go.CT.Yn]
open Go Go.CT CtF CtR
open CtD (rel rel_app)
def e0:Ex := .mk 0 0 []
open Go Go.CT CtF CtR
open CtD (rel rel_app)
open Go Go.CT CtF CtR
open CtD (rel rel_app)
open Go Go.CT CtF CtR
open CtD (rel rel_app)
def Ext (p:Pg) (vs:List Int):Prop:=∃ w,vs=p.vars++w
theorem Ext.more {p:Pg} {vs ws:List Int} (h:Ext p vs) (h2:∃ w,ws=vs++w):Ext p ws:=by
  obtain ⟨a,rfl⟩:=h
  obtain ⟨b,rfl⟩:=h2
  exact ⟨a++b,by simp⟩
theorem Ext.le {p:Pg} {vs:List Int} (h:Ext p vs):p.vars.length≤vs.length:=by
  obtain ⟨a,rfl⟩:=h
  simp
open Go Go.CT CtF CtR
open CtD (rel rel_app)
open Go Go.CT CtF CtR
open CtD (rel rel_app)
def Sub (a b:Nat):Prop:=∀ β,a.testBit β=true→b.testBit β=true
theorem Sub.refl (a:Nat):Sub a a:=fun _ h=>h
theorem Sub.trans {a b c:Nat} (h:Sub a b) (g:Sub b c):Sub a c:=fun β x=>g β (h β x)
theorem Sub.zero (a:Nat):Sub 0 a:=fun β h=>by simp at h
theorem Sub.or {a b c:Nat}:Sub (a ||| b) c ↔ Sub a c∧Sub b c:=by
  constructor
  · exact fun h=>⟨fun β x=>h β (by simp [x]),fun β x=>h β (by simp [x])⟩
  · rintro ⟨h1,h2⟩ β x
    rw [Nat.testBit_or,Bool.or_eq_true] at x
    exact x.elim (h1 β) (h2 β)
theorem Sub.left (a b:Nat):Sub a (a ||| b):=fun β h=>by simp [h]
theorem Sub.right (a b:Nat):Sub b (a ||| b):=fun β h=>by simp [h]
theorem Sub.l {a b c:Nat} (h:Sub a b):Sub a (b ||| c):=h.trans (Sub.left _ _)
theorem Sub.r {a b c:Nat} (h:Sub a c):Sub a (b ||| c):=h.trans (Sub.right _ _)
open Go Go.CT CtF CtR
open CtD (rel rel_app)
open Go Go.CT CtF CtR
open CtD (rel rel_app)
open Go Go.CT CtF CtR
open CtD (rel rel_app)
end Go.Proofs.Ytddanjifhdaebaa.CtL
namespace Go.Proofs.Ytddanjifhdaebaa.CtD
open Go Go.CT CtF CtR
variable [Yn]
def valR (l:List Ev):List Int:=(rel l).map fun e=>e.value
theorem valR_snoc (a:List Ev) (e:Ev):valR (a++[e])=if e.kind == 4 then valR a++[e.value] else valR a:=by
  unfold valR;rw [rel_snoc];split<;>simp
theorem intsKeepT {hp:Hp} {k n:Nat} {L:List Int} {ok:Bool} (hk:hp k=some (some (L.map I64))) (hn:n=L.length):RetOb 0 (fun r h=>r = .tup [.c (.msl 0 1 0 L.length),DB ok]∧h=[some (L.map I64)]) (.tup [.c (.msl k 1 0 n),DB ok]) hp:=by
  subst hn
  refine RetOb.ofQ (fun j=>if j=0 then some k else none) [] _ [some (L.map I64)] ?_ ⟨rfl,rfl⟩ (by simp)
  have e4:∀ {hT hS:Hp} {r:Nat→Option Nat} {fz:List Nat},CMs hT r hS fz (L.map I64) (L.map I64)=True:=eq_true (CMs.kf (kf_I L))
  simp [-List.mem_map,enumL,DM,DMs,CM,CMs,HpOK,LowOK,hOf,upd,hk,e4]
theorem intsNilT {hp:Hp} {ok:Bool}:RetOb 0 (fun r h=>r = .tup [.c (.msl 0 1 0 ([]:List Int).length),DB ok]∧h=[some (([]:List Int).map I64)]) (.tup [.c (.v (.slice none 0 0)),DB ok]) hp:=by
  refine RetOb.ofQ (fun j=>none) [] (.tup [.c (.msl 0 1 0 0),DB ok]) [some []] ?_ ⟨rfl,rfl⟩ (by simp)
  simp [enumL,DM,DMs,CM,CMs,HpOK,LowOK,hOf,upd]
theorem releasedIO (p:Pg) (m:Mm) (hl:p.vars.length≤mx) (hl2:p.arrays.length≤mx):DC Try.prog 47 [.agg p.cells,.agg m.cells] [] (fun r h=>r = .tup [.c (.msl 0 1 0 (valR (runP p m).2.1).length),DB (runP p m).2.2]∧h=[some ((valR (runP p m).2.1).map I64)]):=by
  have hmx:=mx_eq
  have hra:=runProgI p m hl hl2
  have hsm:=(runP_sm p m).2.2.2
  have hfl:(runP p m).2.2=false→(runP p m).2.1=[]:=fun h=>by
    unfold runP at h ⊢
    split at h
    · simp at h
    · rename_i hq;rw [if_neg hq]
  generalize runP p m=x at *
  obtain ⟨⟨xv,xa⟩,tr,ok⟩:=x
  simp only at hsm hfl
  have hle:∀ i,(valR (tr.take i)).length≤i:=fun i=>Nat.le_trans (by rw [valR,List.length_map];exact List.length_filter_le _ _) (by simp;omega)
  generalize hR:(fun (r:D) (h:List (Option (List C)))=>r = .tup [.c (.msl 0 1 0 (valR tr).length),DB ok]∧h=[some ((valR tr).map I64)])=R
  obtain ⟨vs,ar,bd⟩:=p
  obtain ⟨va,arr⟩:=m
  cases ok with
  | false =>
    obtain rfl:=hfl rfl
    refine dcZ Try.func47 ?_
    simp only [go_sem,Mm.cells]
    iterate 5 ((try (refine drvZ Try.func47 ?_;simp only [go_sem,Mm.cells]));((with_reducible and_intros)<;>try exact sd);(try first | refine XK.p hra ok61 ?_ | refine XK.gp hra ok61 ?_))
    rw [← hR]
    exact intsNilT
  | true =>
  refine dcZ Try.func47 ?_
  simp only [go_sem,Mm.cells]
  iterate 7 ((try (refine drvZ Try.func47 ?_;simp only [go_sem,Mm.cells,trD]));((with_reducible and_intros)<;>try exact sd);(try first | refine XK.p hra ok61 ?_ | refine XK.gp hra ok61 ?_))
  refine Go.loopQ (fun i : Nat => [(7, .c (trD tr)), (9, .c (.msl 67 1 0 (valR (tr.take i)).length)), (21, .c (trD tr)), (22, DI .i64 tr.length), (23, DI .i64 i)]) (fun i => [(67, some ((valR (tr.take i)).map I64))])
    4096 (fun i=>i≤tr.length) (fun i=>tr.length - i) ?_ 0 (fun j=>if j=67 then none else some j) [] _ (Nat.zero_le _) ?_
  · intro i hi again
    have hli:=hle i
    rcases Nat.lt_or_ge i tr.length with hlt | hge
    · obtain ⟨⟨k,v⟩,hx⟩:∃ x,tr[i]? = some x:=⟨tr[i],by simp [hlt]⟩
      have hs:valR (tr.take (i+1))=if k == 4 then valR (tr.take i)++[v] else valR (tr.take i):=by rw [List.take_add_one,hx];exact valR_snoc _ _
      generalize valR (tr.take i)=T at *
      by_cases hk:k=4
      · subst hk
        simp only [beq_self_eq_true,if_true] at hs
        refine drvL Try.func47 ?_
        simp only [go_sem,trD,Mm.cells,Ev.cells,I64,hx,hlt]
        iterate 4 ((try (refine drvZ Try.func47 ?_;simp only [go_sem,trD,Mm.cells,Ev.cells,I64,hx,hlt]));((with_reducible and_intros)<;>try exact sd))
        refine again (i+1) (fun j=>if j=67 then some 4864 else some j) [] _ hlt (by omega) ?_
        simp only [go_sem,TmOK,DM,DMs,CM,CMs,forall_eq,exists_eq_left,Mq,HpOK,LowOK,trD,Mm.cells,hs,List.length_append]
        simp
        exact CMs.app (CMs.kf (kf_I T)) (by simp [CMs,CM])
      · have e1:(k == 4)=false:=by simp [hk]
        simp only [e1,Bool.false_eq_true,if_false] at hs
        refine drvL Try.func47 ?_
        simp only [go_sem,trD,Mm.cells,Ev.cells,I64,hx,hlt,e1,hk]
        iterate 4 ((try (refine drvZ Try.func47 ?_;simp only [go_sem,trD,Mm.cells,Ev.cells,I64,hx,hlt,e1,hk]));((with_reducible and_intros)<;>try exact sd))
        refine again (i+1) some [] _ hlt (by omega) ?_
        simp only [go_sem,TmOK,DM,DMs,CM,CMs,forall_eq,exists_eq_left,Mq,HpOK,LowOK,trD,Mm.cells,hs]
        simp [CMs_I]
    · have hn:¬ i<tr.length:=by omega
      obtain rfl:i=tr.length:=by omega
      refine drvL Try.func47 ?_
      simp only [go_sem,trD,Mm.cells,hn,List.take_length]
      iterate 2 ((try (refine drvZ Try.func47 ?_;simp only [go_sem,trD,Mm.cells,hn,List.take_length]));((with_reducible and_intros)<;>try exact sd))
      rw [← hR]
      exact intsKeepT rfl rfl
  · simp only [go_sem,TmOK,DM,DMs,CM,CMs,forall_eq,exists_eq_left,Mq,HpOK,LowOK,trD,Mm.cells]
    simp [valR,rel,CMs]
theorem releasedSO (p:Pg) (m:Mm) (hl:p.vars.length≤mx) (hl2:p.arrays.length≤mx) (hb:lsize 5 p.body≤1099511627776):DC Try.prog 45 [.agg p.cells,.agg m.cells] [] (fun r h=>r = .tup [.c (.msl 0 1 0 (valR (runP p m).2.1).length),DB (runP p m).2.2]∧h=[some ((valR (runP p m).2.1).map I64)]):=by
  have hmx:=mx_eq
  have hra:=runProgS p m hl hl2 hb
  have hsm:=(runP_sm p m).2.2.2
  have hfl:(runP p m).2.2=false→(runP p m).2.1=[]:=fun h=>by
    unfold runP at h ⊢
    split at h
    · simp at h
    · rename_i hq;rw [if_neg hq]
  generalize runP p m=x at *
  obtain ⟨⟨xv,xa⟩,tr,ok⟩:=x
  simp only at hsm hfl
  have hle:∀ i,(valR (tr.take i)).length≤i:=fun i=>Nat.le_trans (by rw [valR,List.length_map];exact List.length_filter_le _ _) (by simp;omega)
  generalize hR:(fun (r:D) (h:List (Option (List C)))=>r = .tup [.c (.msl 0 1 0 (valR tr).length),DB ok]∧h=[some ((valR tr).map I64)])=R
  obtain ⟨vs,ar,bd⟩:=p
  obtain ⟨va,arr⟩:=m
  refine dcZ Try.func45 ?_
  simp only [go_sem,Mm.cells]
  iterate 5 ((try (refine drvZ Try.func45 ?_;simp only [go_sem,Mm.cells,trD]));((with_reducible and_intros)<;>try exact sd);(try first | refine XK.p hra ok60 ?_ | refine XK.gp hra ok60 ?_))
  refine Go.loopQ (fun i : Nat => [(7, .c (trD tr)), (8, DB ok), (9, .c (.msl 67 1 0 (valR (tr.take i)).length)), (10, DI .i64 i)]) (fun i => [(67, some ((valR (tr.take i)).map I64))])
    4096 (fun i=>i≤tr.length) (fun i=>tr.length - i) ?_ 0 (fun j=>if j=67 then some 960 else some j) [] _ (Nat.zero_le _) ?_
  · intro i hi again
    have hli:=hle i
    rcases Nat.lt_or_ge i tr.length with hlt | hge
    · obtain ⟨⟨k,v⟩,hx⟩:∃ x,tr[i]? = some x:=⟨tr[i],by simp [hlt]⟩
      have hs:valR (tr.take (i+1))=if k == 4 then valR (tr.take i)++[v] else valR (tr.take i):=by rw [List.take_add_one,hx];exact valR_snoc _ _
      generalize valR (tr.take i)=T at *
      by_cases hk:k=4
      · subst hk
        simp only [beq_self_eq_true,if_true] at hs
        refine drvL Try.func45 ?_
        simp only [go_sem,trD,Mm.cells,Ev.cells,I64,hx,hlt]
        iterate 4 ((try (refine drvZ Try.func45 ?_;simp only [go_sem,trD,Mm.cells,Ev.cells,I64,hx,hlt]));((with_reducible and_intros)<;>try exact sd))
        refine again (i+1) (fun j=>if j=67 then some 5184 else some j) [] _ hlt (by omega) ?_
        simp only [go_sem,TmOK,DM,DMs,CM,CMs,forall_eq,exists_eq_left,Mq,HpOK,LowOK,trD,Mm.cells,hs,List.length_append]
        simp
        exact CMs.app (CMs.kf (kf_I T)) (by simp [CMs,CM])
      · have e1:(k == 4)=false:=by simp [hk]
        simp only [e1,Bool.false_eq_true,if_false] at hs
        refine drvL Try.func45 ?_
        simp only [go_sem,trD,Mm.cells,Ev.cells,I64,hx,hlt,e1,hk]
        iterate 4 ((try (refine drvZ Try.func45 ?_;simp only [go_sem,trD,Mm.cells,Ev.cells,I64,hx,hlt,e1,hk]));((with_reducible and_intros)<;>try exact sd))
        refine again (i+1) some [] _ hlt (by omega) ?_
        simp only [go_sem,TmOK,DM,DMs,CM,CMs,forall_eq,exists_eq_left,Mq,HpOK,LowOK,trD,Mm.cells,hs]
        simp [CMs_I]
    · have hn:¬ i<tr.length:=by omega
      obtain rfl:i=tr.length:=by omega
      refine drvL Try.func45 ?_
      simp only [go_sem,trD,Mm.cells,hn,List.take_length]
      iterate 2 ((try (refine drvZ Try.func45 ?_;simp only [go_sem,trD,Mm.cells,hn,List.take_length]));((with_reducible and_intros)<;>try exact sd))
      rw [← hR]
      exact intsKeepT rfl rfl
  · simp only [go_sem,TmOK,DM,DMs,CM,CMs,forall_eq,exists_eq_left,Mq,HpOK,LowOK,trD,Mm.cells]
    simp [valR,rel,CMs]
end Go.Proofs.Ytddanjifhdaebaa.CtD
namespace Go.Proofs.Ytddanjifhdaebaa.CtL
variable [Go.CT.Yn]
open Go Go.CT CtF CtR
open Go Go.CT CtF CtR
structure In where
  op:Int
  a:Int
  b:Int
  c:Int
  d:Int
def halt:In:=⟨13,0,0,0,0⟩
def stp (X:List Ev):Nat:=X.countP fun e=>e.kind == 5
open Go Go.CT CtF CtR
open Go Go.CT CtF CtR
open Go Go.CT CtF CtR
def kindsOf (op:Int):List Nat :=
  if op=1 then [1,2,0,0] else if op=2 then [1,3,0,0] else if op=3 then [3,1,0,0] else if op=4 then [1,4,1,0] else if op=5 then [4,1,1,0]
  else if op=6 then [1,5,1,1] else if op=7 then [1,1,1,1] else if op=8 then [6,0,0,0] else if op=9 then [1,6,0,0] else if op=10 then [1,6,0,0]
  else if op=11 then [1,0,0,0] else [0,0,0,0]
end Go.Proofs.Ytddanjifhdaebaa.CtL
namespace Go.Proofs.Ytddanjifhdaebaa.CtD
open Go Go.CT CtF CtR
variable [Yn]
open CtL (In)
open CtL (In)
open CtL (In)
open CtL (In)
open CtL (In halt)
open CtL (In kindsOf)
def ltr (k:Nat):UInt8:=if k=0 then 45 else if k=1 then 114 else if k=2 then 110 else if k=3 then 118 else if k=4 then 97 else if k=5 then 111 else 105
def shp (op:Int):ByteArray:=⟨#[ltr ((kindsOf op).getD 0 0),ltr ((kindsOf op).getD 1 0),ltr ((kindsOf op).getD 2 0),ltr ((kindsOf op).getD 3 0)]⟩
open CtL (In kindsOf halt)
open CtL (In)
open CtL (In)
end Go.Proofs.Ytddanjifhdaebaa.CtD
namespace Go.Proofs.Ytddanjifhdaebaa.CtL
variable [Go.CT.Yn]
open Go Go.CT CtF CtR
end Go.Proofs.Ytddanjifhdaebaa.CtL
namespace Go.Proofs.Ytddanjifhdaebaa.CtD
open Go Go.CT CtF CtR
variable [Yn]
mutual
def szE : Ex → Nat
  | .mk _ _ ks=>szEL ks
def szEL : List Ex → Nat
  | []=>0
  | e :: r=>(1+szE e)+szEL r
end
mutual
def szS : St1 → Nat
  | .mk _ _ ix v _ b e=>szE ix+szE v+szSL b+szSL e
def szSL : List St1 → Nat
  | []=>0
  | s :: r=>(1+szS s)+szSL r
end
def szIL : List (List Int) → Nat
  | []=>0
  | a :: r=>(1+a.length)+szIL r
theorem szEL_eq : ∀ l : List Ex, szEL l = (l.map fun e => 1 + szE e).sum
  | []=>rfl
  | e :: r=>by simp only [szEL,List.map_cons,List.sum_cons,szEL_eq r]
theorem szSL_eq : ∀ l : List St1, szSL l = (l.map fun e => 1 + szS e).sum
  | []=>rfl
  | e :: r=>by simp only [szSL,List.map_cons,List.sum_cons,szSL_eq r]
theorem szIL_eq : ∀ l : List (List Int), szIL l = (l.map fun e => 1 + e.length).sum
  | []=>rfl
  | e :: r=>by simp only [szIL,List.map_cons,List.sum_cons,szIL_eq r]
def szP (p:Pg):Nat:=p.vars.length+p.arrays.length+szSL p.body
def szM (m:Mm):Nat:=m.vals.length+szIL m.arrays
def subZ (left:Int) (n:Nat):Int:=if (n:Int)≤left then left - n else -1
theorem sum_split {α : Type} (f : α → Nat) : ∀ l : List α, (l.map fun e => 1 + f e).sum = l.length + (l.map f).sum
  | []=>rfl
  | a :: r=>by simp only [List.map_cons,List.sum_cons,List.length_cons,sum_split f r];omega
theorem sum_take {α:Type} (f:α→Nat) {l:List α} {i:Nat} {x:α} (h:l[i]? = some x):((l.take (i+1)).map f).sum=((l.take i).map f).sum+f x∧((l.take i).map f).sum+f x≤(l.map f).sum:=by
  have hi:i<l.length:=(List.getElem?_eq_some_iff.1 h).1
  have hx:l[i]=x:=(List.getElem?_eq_some_iff.1 h).2
  have e:l.take (i+1)=l.take i++[x]:=by rw [List.take_succ_eq_append_getElem hi,hx]
  refine ⟨by rw [e];simp,?_⟩
  have e2:(l.map f).sum=((l.take (i+1)).map f).sum+((l.drop (i+1)).map f).sum:=by
    rw [← List.sum_append,← List.map_append,List.take_append_drop]
  rw [e2,e];simp
inductive ExB : Ex → Prop
  | mk (k v:Int) (ks:List Ex) (h:ks.length≤mx) (hk:∀ e ∈ ks,ExB e):ExB (.mk k v ks)
inductive StB : St1 → Prop
  | mk (k t:Int) (ix v:Ex) (c:Int) (b e:List St1) (h1:ExB ix) (h2:ExB v) (h3:b.length≤mx) (h4:e.length≤mx) (h5:∀ s ∈ b,StB s) (h6:∀ s ∈ e,StB s):StB (.mk k t ix v c b e)
structure PgB (p : Pg) : Prop where
  nv:p.vars.length≤mx
  na:p.arrays.length≤mx
  nb:p.body.length≤mx
  st:∀ s ∈ p.body,StB s
structure MmB (m : Mm) : Prop where
  nv:m.vals.length≤mx
  na:m.arrays.length≤mx
  ar:∀ a ∈ m.arrays,a.length≤mx
inductive ExN : Ex → Prop
  | mk (k v:Int) (ks:List Ex) (h:ks.length≤1048576) (hk:∀ e ∈ ks,ExN e):ExN (.mk k v ks)
inductive StN : St1 → Prop
  | mk (k t:Int) (ix v:Ex) (c:Int) (b e:List St1) (h1:ExN ix) (h2:ExN v) (h3:b.length≤1048576) (h4:e.length≤1048576) (h5:∀ s ∈ b,StN s) (h6:∀ s ∈ e,StN s):StN (.mk k t ix v c b e)
theorem mem_sum {α : Type} (f : α → Nat) : ∀ {l : List α} {x : α}, x ∈ l → f x + 1 ≤ (l.map fun e => 1 + f e).sum
  | a :: r,x,h=>by
    simp only [List.map_cons,List.sum_cons]
    rcases List.mem_cons.1 h with rfl | h
    · omega
    · have:=mem_sum f h;omega
theorem exN_of : ∀ (n : Nat) (e : Ex), SizeOf.sizeOf e ≤ n → szE e ≤ 1048576 → ExN e
  | 0,.mk k v ks,h,_=>by simp at h
  | n+1,.mk k v ks,h,hz=>by
    simp only [szE,szEL_eq] at hz
    have h1:=sum_split szE ks
    refine .mk k v ks (by omega) fun e he=>exN_of n e ?_ ?_
    · have:=List.sizeOf_lt_of_mem he
      simp only [Ex.mk.sizeOf_spec] at h;omega
    · have:=mem_sum szE he;omega
theorem stN_of : ∀ (n : Nat) (s : St1), SizeOf.sizeOf s ≤ n → szS s ≤ 1048576 → StN s
  | 0,.mk k t ix v c b e,h,_=>by simp at h
  | n+1,.mk k t ix v c b e,h,hz=>by
    simp only [szS,szSL_eq] at hz
    have h1:=sum_split szS b
    have h2:=sum_split szS e
    simp only [St1.mk.sizeOf_spec] at h
    refine .mk k t ix v c b e (exN_of _ ix (Nat.le_refl _) (by omega)) (exN_of _ v (Nat.le_refl _) (by omega)) (by omega) (by omega) (fun s hs=>stN_of n s ?_ ?_) (fun s hs=>stN_of n s ?_ ?_)
    · have:=List.sizeOf_lt_of_mem hs;omega
    · have:=mem_sum szS hs;omega
    · have:=List.sizeOf_lt_of_mem hs;omega
    · have:=mem_sum szS hs;omega
theorem put_at : ∀ (ds A B : List C), ds.length ≤ B.length → putCells (A ++ B) A.length ds = A ++ ds ++ B.drop ds.length
  | [],A,B,_=>by simp [putCells]
  | d :: r,A,[],h=>by simp at h
  | d :: r,A,b :: B,h=>by
    have e:(A++b :: B).set A.length d=(A++[d])++B:=by
      rw [List.set_append_right _ _ (Nat.le_refl _)];simp
    have ih:=put_at r (A++[d]) B (by simpa using h)
    simp only [putCells,e]
    rw [show A.length+1=(A++[d]).length by simp,ih]
    simp
theorem put_row {rows : List (List C)} {zs ds : List C} {m k i : Nat} (hz : zs.length = k) (hd : ds.length = k) (hr : (rows.flatten).length = i * k) :
    putCells (rows.flatten++(List.replicate (m+1) zs).flatten) (i * k) ds=(rows++[ds]).flatten++(List.replicate m zs).flatten:=by
  rw [← hr,put_at _ _ _ (by simp [List.replicate_succ,hz,hd])]
  simp [List.replicate_succ,hz,hd]
end Go.Proofs.Ytddanjifhdaebaa.CtD
