/- Contracts of functions of the program, one behind the other, as plain data: what each call returns and which blocks it leaves. -/
import Derived.Test.YtmjkgjkkpaephaaGreatQFacts
import Derived.Test.YtmjkgjkkpaephaaGreatQAh
import Derived.Test.YtmjkgjkkpaephaaGreatQAj
import Derived.Test.YtmjkgjkkpaephaaGreatQAk
import Derived.Test.YtmjkgjkkpaephaaGreatQAl
import Derived.Test.YtmjkgjkkpaephaaGreatQAm
import Derived.Test.YtmjkgjkkpaephaaGreatQAn
import Derived.Test.YtmjkgjkkpaephaaGreatQAo
import Derived.Test.YtmjkgjkkpaephaaGreatQAr
import Derived.Test.YtmjkgjkkpaephaaGreatQAp
import Derived.Test.YtmjkgjkkpaephaaGreatQAi
set_option linter.unusedVariables false
set_option linter.unusedSimpArgs false
set_option maxHeartbeats 16000000
set_option maxRecDepth 100000
namespace Go.Proofs.YtmjkgjkkpaephaaGreat.CtD
open Go Go.CT CtF CtR
theorem stmtOK_len {p q:Pg} (h1:q.vars.length=p.vars.length) (h2:q.arrays.length=p.arrays.length):∀ (d:Nat) (s:St1),stmtOK q d s=stmtOK p d s:=by
  have hsh:∀ (d:Nat) (e:Ex),CtR.shape q d e=CtR.shape p d e:=by
    have hlim:∀ k,limit q k=limit p k:=fun k=>by simp only [limit,h1,h2]
    intro d
    induction d with
    | zero=>intro e;rfl
    | succ d ih =>
      intro e
      obtain ⟨k,v,ks⟩:=e
      have he:CtR.shape q d=CtR.shape p d:=funext ih
      simp only [CtR.shape,fitsE,hlim,he]
  have hr:∀ e,right q e=right p e:=fun e=>by simp only [right,hsh]
  intro d
  induction d with
  | zero=>intro s;rfl
  | succ d ih =>
    intro s
    obtain ⟨k,t,ix,v,c,b,e⟩:=s
    have h3:∀ l:List St1,l.all (stmtOK q d)=l.all (stmtOK p d):=fun l=>by congr 1;funext s;exact ih s
    simp only [stmtOK,headOK,hr,h1,h2,h3]
theorem DrP.up {p q:Pg} (h:DrP p) (h1:CtR.Up p.vars q.vars) (h2:CtR.Up p.arrays q.arrays) (h3:q.body=p.body):DrP q:=by
  refine ⟨?_,by rw [h1.len];exact h.nv,by rw [h2.len];exact h.na,by rw [h3];exact h.nb,by rw [h3];exact h.sm⟩
  have hok:=h.ok
  simp only [progOK,headsOK,Bool.and_eq_true,decide_eq_true_eq] at hok ⊢
  have hst:(stmtOK q 5)=stmtOK p 5:=funext fun s=>stmtOK_len h1.len h2.len 5 s
  refine ⟨⟨?_,by rw [h3,hst];exact hok.1.2⟩,by rw [h3];exact hok.2⟩
  have hl:∀ l:List Int,lab3 l→labs l=true:=fun l hl=>by
    simp only [labs,List.all_eq_true,Bool.and_eq_true,decide_eq_true_eq]
    exact hl
  obtain ⟨⟨⟨⟨g1,g2⟩,g3⟩,g4⟩,g5⟩:=hok.1.1
  rw [h1.len,h2.len]
  exact ⟨⟨⟨⟨g1,g2⟩,g3⟩,hl _ h1.lab⟩,hl _ h2.lab⟩
def tyR (bs:List Int) (n:Nat) (r:D) (h:List (Option (List C))):Prop:=∃ p:Pg,r = .agg p.cells∧DrP p∧rdL bs n 1000001 h
theorem typed (bs:List Int) (n:Nat) (hb:Fits .u8 bs) (hl:bs.length≤2000) (hn:n≤274000000000):DC Tryz.prog 46 [.c (.ptr 0 0)] [some (rdr bs n)] (tyR bs n):=by
  have hmx:=mx_eq
  have hpr:=l2Program bs n hb hl (by omega)
  generalize hR:tyR bs n=R
  have fin:∀ (p:Pg) (n':Nat) (hp:Hp),DrP p→n≤n'→n'≤n+1000001→hp 0=some (some (rdr bs n'))→RetOb 1 R (.agg p.cells) hp:=fun p n' hp h1 h2 h3 h4=>by
    refine RetOb.keep1 (d := .agg p.cells) (cs:=rdr bs n') (by rw [← hR];exact ⟨p,rfl,h1,n',h2,h3,rfl⟩) h4 (rdr_kf _ _) ?_
    intro c hc
    simp only [Pg.cells,isI,List.mem_cons,List.not_mem_nil,or_false] at hc
    rcases hc with rfl | rfl | rfl<;>rfl
  refine dcZ Tryz.func46 ?_
  simp only [go_sem,rdr]
  refine XK.callG [0] hpr ok84 (hhp_one rfl) (hbT ()) (fun d h' ⟨_,_,_,_,_,_,e⟩=>by subst e;simp) ?_
  rintro _ _ ⟨p,rfl,hp,n1,hn1,hn2,rfl⟩ _
  have hln:=prog_len hp.ok
  have hin:=inferS p (by omega) (by omega) (by have:=(body_of hp.ok).2;omega) 2 hp.sm
  obtain ⟨vs,ar,bd⟩:=p
  iterate 2 ((try (refine drvZ Tryz.func46 ?_;simp only [go_sem,renCs_rdr]));((with_reducible and_intros)<;>try exact sd))
  refine XK.callG [0] (pick bs n1 4 hb hl (by omega) (by simp only [InK];omega)) ok81 (hhp_one (by simp [upd,renCs_rdr])) (hbT ()) (fun d h' ⟨v,_,_,e⟩=>by subst e;simp) ?_
  rintro _ _ ⟨v,rfl,hpv,rfl⟩ _
  by_cases hv:v=0
  · subst hv
    iterate 4 ((try (refine drvZ Tryz.func46 ?_;simp only [go_sem,renCs_rdr]));((with_reducible and_intros)<;>try exact sd))
    exact fin ⟨vs,ar,bd⟩ (n1+1) _ hp (by omega) (by omega) rfl
  · have g1:(v=0)=False:=eq_false hv
    have g2:(v == 0)=false:=by simp [hv]
    iterate 4 ((try (refine drvZ Tryz.func46 ?_;simp only [go_sem,renCs_rdr,g1,g2]));((with_reducible and_intros)<;>try exact sd))
    refine XK.callG [] hin ok85 (fun i' x h=>by simp at h) (hbT ()) (fun d h' ⟨_,_,_,e,_⟩=>by subst e;simp) ?_
    rintro _ _ ⟨q,ok,rfl,rfl,hq⟩ _
    cases ok with
    | false =>
      obtain ⟨vs2,ar2,bd2⟩:=q
      iterate 5 ((try (refine drvZ Tryz.func46 ?_;simp only [go_sem,renCs_rdr]));((with_reducible and_intros)<;>try exact sd))
      exact fin ⟨vs,ar,bd⟩ (n1+1) _ hp (by omega) (by omega) rfl
    | true =>
      obtain ⟨g3,g4,g5,_⟩:=hq rfl
      have hp2:=hp.up g3 g4 g5
      obtain ⟨vs2,ar2,bd2⟩:=q
      iterate 5 ((try (refine drvZ Tryz.func46 ?_;simp only [go_sem,renCs_rdr]));((with_reducible and_intros)<;>try exact sd))
      exact fin ⟨vs2,ar2,bd2⟩ (n1+1) _ hp2 (by omega) (by omega) rfl
structure LowV {α : Type} (β : Nat) (ls : List Int) (a a' : List α) : Prop where
  len:a'.length=a.length
  eq:∀ (j:Nat) (x:Int),ls[j]? = some x→x.toNat.testBit β=false→a[j]? = a'[j]?
theorem LowV.refl {α:Type} (β:Nat) (ls:List Int) (a:List α):LowV β ls a a:=⟨rfl,fun _ _ _ _=>rfl⟩
theorem LowV.set {α:Type} {β:Nat} {ls:List Int} {a a':List α} (h:LowV β ls a a') {i:Nat} {x:Int} (hx:ls[i]? = some x) (hb:x.toNat.testBit β=true) (v:α):LowV β ls a (a'.set i v) :=
  ⟨by rw [List.length_set,h.len],fun j y hy hf=>by
    rw [List.getElem?_set]
    by_cases e:i=j
    · subst e;rw [hx] at hy;cases hy;rw [hb] at hf;cases hf
    · rw [if_neg e];exact h.eq j y hy hf⟩
theorem rng_set {l:List Int} (h:∀ y ∈ l,0≤y∧y≤255) {i:Nat} {v:Int} (hv:0≤v∧v≤255):∀ y ∈ l.set i v,0≤y∧y≤255:=fun y hy=>by
  rcases List.mem_or_eq_of_mem_set hy with h1 | rfl
  · exact h y h1
  · exact hv
def seR (β:Nat) (p:Pg) (m:Mm) (bs:List Int) (n:Nat) (r:D) (h:List (Option (List C))):Prop:=∃ m':Mm,r = .agg m'.cells∧MemFits p m'∧LowM β p m m'∧rdL bs n 30 h
theorem bitB {β:Nat} {bit:Int} (hβ:(β=0∧bit=1)∨(β=1∧bit=2)) {T:Nat} (hT:T≤3):∃ b:Bool,T.testBit β=b∧((andZ .i64 (T:Int) bit=0)=(b=false))∧((andZ .i64 (T:Int) bit != 0)=b):=by
  rcases hβ with ⟨rfl,rfl⟩ | ⟨rfl,rfl⟩
  · rw [andZ_1]
    rcases le3 hT with rfl | rfl | rfl | rfl<;>refine ⟨_,rfl,?_,?_⟩<;>decide
  · rw [andZ_2]
    rcases le3 hT with rfl | rfl | rfl | rfl<;>refine ⟨_,rfl,?_,?_⟩<;>decide
theorem secrets (bs : List Int) (n : Nat) (p : Pg) (m : Mm) (hb : Fits .u8 bs) (hl : bs.length ≤ 2000) (hn : n ≤ 274877906944) (hm : MemFits p m) (h1 : lab3 p.vars) (h2 : lab3 p.arrays) (β : Nat) (bit : Int) (hβ : (β = 0 ∧ bit = 1) ∨ (β = 1 ∧ bit = 2)) :
    DC Tryz.prog 48 [.c (.ptr 0 0),.agg p.cells,.agg m.cells,DI .i64 bit] [some (rdr bs n)] (seR β p m bs n):=by
  have hmx:=mx_eq
  have hval:=fun n h=>l3Value bs n hb hl h
  have hcp:=l3Copy m (by have:=hm.nv;have:=hm.nv12;omega) (by have:=hm.na;have:=hm.na2;omega) (fun a h=>(hm.arr a h).1)
  have hbv:∀ x:Int,0≤x∧x≤3→∃ T:Nat,T≤3∧x=(T:Int):=fun x hx=>⟨x.toNat,by omega,by omega⟩
  have hbit0:0≤bit∧bit≤2:=by omega
  generalize hR:seR β p m bs n=R
  unfold memB at hcp
  have hnv:=hm.nv
  have hna:=hm.na
  have hnv12:=hm.nv12
  have hna2:=hm.na2
  have hva:=hm.val
  have har:=hm.arr
  obtain ⟨vs,ar,bd⟩:=p
  obtain ⟨va,arr⟩:=m
  simp only at hnv hna hnv12 hna2 hva har h1 h2
  refine dcZ Tryz.func48 ?_
  simp only [go_sem,Mm.cells,rdr]
  ((try (refine drvZ Tryz.func48 ?_;simp only [go_sem,Mm.cells,rdr]));((with_reducible and_intros)<;>try exact sd))
  refine XK.callG [] hcp ok87 (fun i' x h=>by simp at h) (hbT ()) (fun d h' ⟨_,e⟩=>by subst e;simp) ?_
  rintro _ _ ⟨rfl,rfl⟩ _
  iterate 3 ((try (refine drvZ Tryz.func48 ?_;simp only [go_sem,renCs_I,renCs_hdr,renCs_b0,renCs_b1,rdr]));((with_reducible and_intros)<;>try exact sd))
  refine Go.loopQ (fun x : Nat × Nat × List Int => [(0, .c (.ptr 0 0)), (3, DI .i64 bit), (5, .c (.ptr 1 0)), (8, .c (.ptr 129 0)), (9, .c (.ptr 321 0)), (10, DI .i64 x.1)])
    (fun x=>[(0,some (rdr bs x.2.1)),(1,some (Pg.cells ⟨vs,ar,bd⟩)),(129,some [.v (.slice none 0 0),.v (.slice none 0 0)]),(257,some (x.2.2.map I64)),(258,some (hdr 259 260 arr.length)),(259,some (blk0 arr)),(260,some (blk1 arr)),(321,some [.msl 257 1 0 va.length,.msl 258 1 0 arr.length])])
    4096 (fun x=>x.1≤vs.length∧n≤x.2.1∧x.2.1≤n+x.1∧(∀ y ∈ x.2.2,0≤y∧y≤255)∧LowV β vs va x.2.2) (fun x=>vs.length - x.1) ?_ (0,n,va) some [] _ ⟨Nat.zero_le _,Nat.le_refl _,Nat.le_refl _,hva,.refl _ _ _⟩ ?_
  · rintro ⟨i,pos,S⟩ ⟨hi1,hi2,hi3,hi4,hi5⟩ again
    simp only at hi1 hi2 hi3 hi4 hi5
    have hSl:=hi5.len
    rcases Nat.lt_or_ge i vs.length with hlt | hge
    · obtain ⟨x,hx⟩:∃ x,vs[i]? = some x:=⟨vs[i],by simp [hlt]⟩
      obtain ⟨T,hT,rfl⟩:=hbv x (h1 x (List.mem_of_getElem? hx))
      have hlt2:i<va.length:=by omega
      obtain ⟨bb,hb1,hb2,hb3⟩:=bitB hβ hT
      cases bb with
      | false =>
        refine drvL Tryz.func48 ?_
        simp only [go_sem,rdr,hlt,hlt2]
        iterate 5 ((try (refine drvZ Tryz.func48 ?_;simp only [go_sem,rdr,hlt,hlt2,hx,hb2,hb3]));((with_reducible and_intros)<;>try exact sd))
        refine again (i+1,pos,S) some [] _ ⟨hlt,hi2,(show pos≤n+(i+1) by omega),hi4,hi5⟩ (show vs.length - (i+1)<vs.length - i by omega) ?_
        simp only [go_sem,TmOK,DM,DMs,CM,CMs,forall_eq,exists_eq_left,Mq,HpOK,LowOK,rdr]
        simp [CMs_I,CMs_hdr,CMs_b0,CMs_b1,upd]
      | true =>
        refine drvL Tryz.func48 ?_
        simp only [go_sem,rdr,hlt,hlt2]
        iterate 5 ((try (refine drvZ Tryz.func48 ?_;simp only [go_sem,rdr,hlt,hlt2,hx,hb2,hb3]));((with_reducible and_intros)<;>try exact sd))
        refine XK.callG [0] (hval pos (by omega)) ok86 (hhp_one rfl) (hbT ()) (fun d h' ⟨_,_,_,_,_,_,e⟩=>by subst e;simp) ?_ (fun _=>⟨by kernel_rfl,_,_,⟨0,rfl,by omega,pos,by omega,by omega,rfl⟩,by simp⟩)
        rintro _ _ ⟨v,rfl,hv,pos',hp1,hp3,rfl⟩ _
        iterate 5 ((try (refine drvZ Tryz.func48 ?_;simp only [go_sem,rdr,hlt,hlt2]));((with_reducible and_intros)<;>try exact sd))
        refine again (i+1,pos',S.set i v) some [] _ ⟨hlt,(show n≤pos' by omega),(show pos'≤n+(i+1) by omega),rng_set hi4 hv,hi5.set hx (by simpa using hb1) v⟩ (show vs.length - (i+1)<vs.length - i by omega) ?_
        simp only [go_sem,TmOK,DM,DMs,CM,CMs,forall_eq,exists_eq_left,Mq,HpOK,LowOK,rdr]
        simp [CMs_I,CMs_hdr,CMs_b0,CMs_b1,upd]
        try exact CMs.kf (by rw [← List.map_set];exact kf_I _)
    · have hn1:¬ i<va.length:=by omega
      have hn2:¬ i<vs.length:=by omega
      have z00:((0:Int)<0)=False:=eq_false (by omega)
      have z01:((0:Int)<1)=True:=eq_true (by omega)
      have z02:((0:Int)<2)=True:=eq_true (by omega)
      have z12:((1:Int)<2)=True:=eq_true (by omega)
      have z11:((1:Int)<1)=False:=eq_false (by omega)
      have z22:((2:Int)<2)=False:=eq_false (by omega)
      clear again
      have fin:∀ (A:List (List Int)) (ps:Nat) (hp:Hp),A.length=arr.length→pos≤ps→ps≤pos+8→LowV β ar arr A→(∀ a ∈ A,a.length=4∧∀ y ∈ a,0≤y∧y≤255)→hp 0=some (some (rdr bs ps))→hp 257=some (some (S.map I64))→hp 258=some (some (hdr 259 260 arr.length))→hp 259=some (some (blk0 A))→hp 260=some (some (blk1 A)) →
          RetOb 1 R (.agg [.msl 257 1 0 va.length,.msl 258 1 0 arr.length]) hp:=fun A ps hp e1 e2 e3 e4 e5 g0 g1 g2 g3 g4 =>
        RetOb.memK (m:=⟨S,A⟩) (k2:=259) (k3:=260) (by simp only;omega) (by
          rw [← hR]
          exact ⟨⟨S,A⟩,rfl,⟨by simp only;omega,by simp only;omega,hnv12,hna2,hi4,e5⟩,⟨by simp only;omega,by simp only;omega,hi5.eq,e4.eq⟩,ps,by omega,by omega,rfl⟩) (rdr_kf bs ps) g0 g1 (by rw [g2,← e1,hdr_hdA _ _ _ (by omega) (fun a h=>(e5 a h).1)]) g3 g4 (by simp only;omega) (by simp only;omega) (by decide)
      refine drvL Tryz.func48 ?_
      simp only [go_sem,rdr,hn1,hn2]
      iterate 3 ((try (refine drvZ Tryz.func48 ?_;simp only [go_sem,rdr,hn1,hn2]));((with_reducible and_intros)<;>try exact sd))
      rcases arr with _ | ⟨a,_ | ⟨b,_ | ⟨c,r⟩⟩⟩<;>rcases ar with _ | ⟨l,_ | ⟨l',_ | ⟨l3,r2⟩⟩⟩<;>simp only [List.length_cons,List.length_nil] at hna hna2<;>(try (exfalso;omega))
      · refine Go.loop ?_
        refine drvL Tryz.func48 ?_
        simp only [go_sem,rdr,List.getElem?_cons_zero,List.getElem?_cons_succ,Int.natCast_zero,z01,z02,z12,z11,z22,z00]
        iterate 3 ((try (refine drvZ Tryz.func48 ?_;simp only [go_sem,rdr,List.getElem?_cons_zero,List.getElem?_cons_succ,Int.natCast_zero,z01,z02,z12,z11,z22,z00]));((with_reducible and_intros)<;>try exact sd))
        exact fin [] pos _ rfl (by omega) (by omega) (.refl _ _ _) (by simp) rfl rfl rfl rfl rfl
      · obtain ⟨T0,hT0,rfl⟩:=hbv l (h2 l (by simp))
        have hT0x:([((T0:Nat):Int)]:List Int)[0]? = some (T0:Int):=rfl
        have h4a:=har a (by simp)
        have hb0:blk0 [a]=a.map I64:=rfl
        have hb1:blk1 [a]=[]:=rfl
        have hh1:hdr 259 260 1=[.msl 259 1 0 4]:=rfl
        obtain ⟨pos0,hpos0⟩:∃ p,p=pos:=⟨pos,rfl⟩
        subst hpos0
        refine Go.loop ?_
        refine drvL Tryz.func48 ?_
        simp only [go_sem,rdr,hb0,hb1,hh1,List.getElem?_cons_zero,List.getElem?_cons_succ,Int.natCast_zero,z01,z02,z12,z11,z22,z00]
        iterate 3 ((try (refine drvZ Tryz.func48 ?_;simp only [go_sem,rdr,hb0,hb1,hh1,List.getElem?_cons_zero,List.getElem?_cons_succ,Int.natCast_zero,z01,z02,z12,z11,z22,z00]));((with_reducible and_intros)<;>try exact sd))
        refine Go.loopQ (fun x : Nat × Nat × List Int => [(0, .c (.ptr 0 0)), (3, DI .i64 bit), (5, .c (.ptr 1 0)), (8, .c (.ptr 129 0)), (9, .c (.ptr 321 0)), (11, DI .i64 0), (12, DI .i64 x.1)])
          (fun x=>[(0,some (rdr bs x.2.1)),(1,some (Pg.cells ⟨vs,[(T0:Int)],bd⟩)),(129,some [.v (.slice none 0 0),.v (.slice none 0 0)]),(257,some (S.map I64)),(258,some ([.msl 259 1 0 4])),(259,some (x.2.2.map I64)),(260,some ([])),(321,some [.msl 257 1 0 va.length,.msl 258 1 0 1])])
          8192 (fun x=>x.1≤4∧pos0≤x.2.1∧x.2.1≤pos0+x.1∧x.2.2.length=4∧(∀ y ∈ x.2.2,0≤y∧y≤255)∧(T0.testBit β=false→x.2.2=a)) (fun x=>4 - x.1) ?_ (0,pos0,a) some [] _ ⟨Nat.zero_le _,Nat.le_refl _,Nat.le_refl _,h4a.1,h4a.2,fun _=>rfl⟩ ?_
        · rintro ⟨k,ps,c⟩ ⟨hk1,hk2,hk3,hk4,hk5,hk6⟩ again
          simp only at hk1 hk2 hk3 hk4 hk5 hk6
          rcases Nat.lt_or_ge k 4 with hlt | hge
          · have hz:((k:Int)<4)=True:=eq_true (by omega)
            obtain ⟨bb,hb1,hb2,hb3⟩:=bitB hβ hT0
            cases bb with
            | false =>
              refine drvL Tryz.func48 ?_
              simp only [go_sem,rdr,hz,List.getElem?_cons_zero,List.getElem?_cons_succ,Int.natCast_zero,z01,z02,z12,z11,z22,z00]
              iterate 5 ((try (refine drvZ Tryz.func48 ?_;simp only [go_sem,rdr,hz,hT0x,hb2,hb3,List.getElem?_cons_zero,List.getElem?_cons_succ,Int.natCast_zero,z01,z02,z12,z11,z22,z00]));((with_reducible and_intros)<;>try exact sd))
              refine again (k+1,ps,c) some [] _ ⟨hlt,hk2,(show ps≤pos0+(k+1) by omega),hk4,hk5,hk6⟩ (show 4 - (k+1)<4 - k by omega) ?_
              simp only [go_sem,TmOK,DM,DMs,CM,CMs,forall_eq,exists_eq_left,Mq,HpOK,LowOK,rdr]
              simp [CMs_I,CMs_hdr,CMs_b0,CMs_b1,upd]
            | true =>
              refine drvL Tryz.func48 ?_
              simp only [go_sem,rdr,hz,List.getElem?_cons_zero,List.getElem?_cons_succ,Int.natCast_zero,z01,z02,z12,z11,z22,z00]
              iterate 5 ((try (refine drvZ Tryz.func48 ?_;simp only [go_sem,rdr,hz,hT0x,hb2,hb3,List.getElem?_cons_zero,List.getElem?_cons_succ,Int.natCast_zero,z01,z02,z12,z11,z22,z00]));((with_reducible and_intros)<;>try exact sd))
              refine XK.callG [0] (hval ps (by omega)) ok86 (hhp_one rfl) (hbT ()) (fun d h' ⟨_,_,_,_,_,_,e⟩=>by subst e;simp) ?_ (fun _=>⟨by kernel_rfl,_,_,⟨0,rfl,by omega,ps,by omega,by omega,rfl⟩,by simp⟩)
              rintro _ _ ⟨v,rfl,hv,ps',hp1,hp3,rfl⟩ _
              iterate 5 ((try (refine drvZ Tryz.func48 ?_;simp only [go_sem,rdr,hz,List.getElem?_cons_zero,List.getElem?_cons_succ,Int.natCast_zero,z01,z02,z12,z11,z22,z00,hk4]));((with_reducible and_intros)<;>try exact sd))
              refine again (k+1,ps',c.set k v) some [] _ ⟨hlt,(show pos0≤ps' by omega),(show ps'≤pos0+(k+1) by omega),by rw [List.length_set];exact hk4,rng_set hk5 hv,fun h=>by rw [hb1] at h;cases h⟩ (show 4 - (k+1)<4 - k by omega) ?_
              simp only [go_sem,TmOK,DM,DMs,CM,CMs,forall_eq,exists_eq_left,Mq,HpOK,LowOK,rdr]
              simp [CMs_I,CMs_hdr,CMs_b0,CMs_b1,upd]
              try exact CMs.kf (by rw [← List.map_set];exact kf_I _)
          · have hz:((k:Int)<4)=False:=eq_false (by omega)
            clear again
            refine drvL Tryz.func48 ?_
            simp only [go_sem,rdr,hz,List.getElem?_cons_zero,List.getElem?_cons_succ,Int.natCast_zero,z01,z02,z12,z11,z22,z00]
            iterate 3 ((try (refine drvZ Tryz.func48 ?_;simp only [go_sem,rdr,hz,List.getElem?_cons_zero,List.getElem?_cons_succ,Int.natCast_zero,z01,z02,z12,z11,z22,z00]));((with_reducible and_intros)<;>try exact sd))
            refine Go.inLoop ?_
            refine drvL Tryz.func48 ?_
            simp only [go_sem,rdr,List.getElem?_cons_zero,List.getElem?_cons_succ,Int.natCast_zero,z01,z02,z12,z11,z22,z00]
            iterate 3 ((try (refine drvZ Tryz.func48 ?_;simp only [go_sem,rdr,List.getElem?_cons_zero,List.getElem?_cons_succ,Int.natCast_zero,z01,z02,z12,z11,z22,z00]));((with_reducible and_intros)<;>try exact sd))
            exact fin [c] ps _ (by simp) (by omega) (by omega) ⟨rfl,fun j x hj hf=>by
              match j,hj with
              | 0,hj=>simp only [List.getElem?_cons_zero,Option.some.injEq] at hj;subst hj;simp [hk6 (by simpa using hf)]
              | j+1,hj=>simp at hj⟩ (by simpa using ⟨hk4,hk5⟩) rfl rfl rfl rfl rfl
        · simp only [go_sem,TmOK,DM,DMs,CM,CMs,forall_eq,exists_eq_left,Mq,HpOK,LowOK,rdr]
          simp [CMs_I,CMs_hdr,CMs_b0,CMs_b1,upd]
      · obtain ⟨T0,hT0,rfl⟩:=hbv l (h2 l (by simp))
        obtain ⟨T1,hT1,rfl⟩:=hbv l' (h2 l' (by simp))
        have hT0x:([((T0:Nat):Int),((T1:Nat):Int)]:List Int)[0]? = some (T0:Int):=rfl
        have hT1x:([((T0:Nat):Int),((T1:Nat):Int)]:List Int)[1]? = some (T1:Int):=rfl
        have h4a:=har a (by simp)
        have h4b:=har b (by simp)
        have hb0:blk0 [a,b]=a.map I64:=rfl
        have hb1:blk1 [a,b]=b.map I64:=rfl
        have hh1:hdr 259 260 2=[.msl 259 1 0 4,.msl 260 1 0 4]:=rfl
        obtain ⟨pos0,hpos0⟩:∃ p,p=pos:=⟨pos,rfl⟩
        subst hpos0
        refine Go.loop ?_
        refine drvL Tryz.func48 ?_
        simp only [go_sem,rdr,hb0,hb1,hh1,List.getElem?_cons_zero,List.getElem?_cons_succ,Int.natCast_zero,z01,z02,z12,z11,z22,z00]
        iterate 3 ((try (refine drvZ Tryz.func48 ?_;simp only [go_sem,rdr,hb0,hb1,hh1,List.getElem?_cons_zero,List.getElem?_cons_succ,Int.natCast_zero,z01,z02,z12,z11,z22,z00]));((with_reducible and_intros)<;>try exact sd))
        refine Go.loopQ (fun x : Nat × Nat × List Int => [(0, .c (.ptr 0 0)), (3, DI .i64 bit), (5, .c (.ptr 1 0)), (8, .c (.ptr 129 0)), (9, .c (.ptr 321 0)), (11, DI .i64 0), (12, DI .i64 x.1)])
          (fun x=>[(0,some (rdr bs x.2.1)),(1,some (Pg.cells ⟨vs,[(T0:Int),(T1:Int)],bd⟩)),(129,some [.v (.slice none 0 0),.v (.slice none 0 0)]),(257,some (S.map I64)),(258,some ([.msl 259 1 0 4,.msl 260 1 0 4])),(259,some (x.2.2.map I64)),(260,some (b.map I64)),(321,some [.msl 257 1 0 va.length,.msl 258 1 0 2])])
          8192 (fun x=>x.1≤4∧pos0≤x.2.1∧x.2.1≤pos0+x.1∧x.2.2.length=4∧(∀ y ∈ x.2.2,0≤y∧y≤255)∧(T0.testBit β=false→x.2.2=a)) (fun x=>4 - x.1) ?_ (0,pos0,a) some [] _ ⟨Nat.zero_le _,Nat.le_refl _,Nat.le_refl _,h4a.1,h4a.2,fun _=>rfl⟩ ?_
        · rintro ⟨k,ps,c⟩ ⟨hk1,hk2,hk3,hk4,hk5,hk6⟩ again
          simp only at hk1 hk2 hk3 hk4 hk5 hk6
          rcases Nat.lt_or_ge k 4 with hlt | hge
          · have hz:((k:Int)<4)=True:=eq_true (by omega)
            obtain ⟨bb,hb1,hb2,hb3⟩:=bitB hβ hT0
            cases bb with
            | false =>
              refine drvL Tryz.func48 ?_
              simp only [go_sem,rdr,hz,List.getElem?_cons_zero,List.getElem?_cons_succ,Int.natCast_zero,z01,z02,z12,z11,z22,z00]
              iterate 5 ((try (refine drvZ Tryz.func48 ?_;simp only [go_sem,rdr,hz,hT0x,hb2,hb3,List.getElem?_cons_zero,List.getElem?_cons_succ,Int.natCast_zero,z01,z02,z12,z11,z22,z00]));((with_reducible and_intros)<;>try exact sd))
              refine again (k+1,ps,c) some [] _ ⟨hlt,hk2,(show ps≤pos0+(k+1) by omega),hk4,hk5,hk6⟩ (show 4 - (k+1)<4 - k by omega) ?_
              simp only [go_sem,TmOK,DM,DMs,CM,CMs,forall_eq,exists_eq_left,Mq,HpOK,LowOK,rdr]
              simp [CMs_I,CMs_hdr,CMs_b0,CMs_b1,upd]
            | true =>
              refine drvL Tryz.func48 ?_
              simp only [go_sem,rdr,hz,List.getElem?_cons_zero,List.getElem?_cons_succ,Int.natCast_zero,z01,z02,z12,z11,z22,z00]
              iterate 5 ((try (refine drvZ Tryz.func48 ?_;simp only [go_sem,rdr,hz,hT0x,hb2,hb3,List.getElem?_cons_zero,List.getElem?_cons_succ,Int.natCast_zero,z01,z02,z12,z11,z22,z00]));((with_reducible and_intros)<;>try exact sd))
              refine XK.callG [0] (hval ps (by omega)) ok86 (hhp_one rfl) (hbT ()) (fun d h' ⟨_,_,_,_,_,_,e⟩=>by subst e;simp) ?_ (fun _=>⟨by kernel_rfl,_,_,⟨0,rfl,by omega,ps,by omega,by omega,rfl⟩,by simp⟩)
              rintro _ _ ⟨v,rfl,hv,ps',hp1,hp3,rfl⟩ _
              iterate 5 ((try (refine drvZ Tryz.func48 ?_;simp only [go_sem,rdr,hz,List.getElem?_cons_zero,List.getElem?_cons_succ,Int.natCast_zero,z01,z02,z12,z11,z22,z00,hk4]));((with_reducible and_intros)<;>try exact sd))
              refine again (k+1,ps',c.set k v) some [] _ ⟨hlt,(show pos0≤ps' by omega),(show ps'≤pos0+(k+1) by omega),by rw [List.length_set];exact hk4,rng_set hk5 hv,fun h=>by rw [hb1] at h;cases h⟩ (show 4 - (k+1)<4 - k by omega) ?_
              simp only [go_sem,TmOK,DM,DMs,CM,CMs,forall_eq,exists_eq_left,Mq,HpOK,LowOK,rdr]
              simp [CMs_I,CMs_hdr,CMs_b0,CMs_b1,upd]
              try exact CMs.kf (by rw [← List.map_set];exact kf_I _)
          · have hz:((k:Int)<4)=False:=eq_false (by omega)
            clear again
            refine drvL Tryz.func48 ?_
            simp only [go_sem,rdr,hz,List.getElem?_cons_zero,List.getElem?_cons_succ,Int.natCast_zero,z01,z02,z12,z11,z22,z00]
            iterate 3 ((try (refine drvZ Tryz.func48 ?_;simp only [go_sem,rdr,hz,List.getElem?_cons_zero,List.getElem?_cons_succ,Int.natCast_zero,z01,z02,z12,z11,z22,z00]));((with_reducible and_intros)<;>try exact sd))
            obtain ⟨A0,hA⟩:∃ A0,A0=c:=⟨c,rfl⟩
            rw [← hA] at hk4 hk5 hk6 ⊢
            obtain ⟨pos1,hps⟩:∃ p,p=ps:=⟨ps,rfl⟩
            rw [← hps] at hk2 hk3 ⊢
            have h4A:A0.length=4∧∀ y ∈ A0,0≤y∧y≤255:=⟨hk4,hk5⟩
            have hA0:=hk6
            have hq1:pos0≤pos1:=hk2
            have hq2:pos1≤pos0+4:=by omega
            clear hk1 hk2 hk3 hk4 hk5 hk6 hz hge hA hps
            refine Go.inLoop ?_
            refine drvL Tryz.func48 ?_
            simp only [go_sem,rdr,List.getElem?_cons_zero,List.getElem?_cons_succ,Int.natCast_zero,z01,z02,z12,z11,z22,z00]
            iterate 3 ((try (refine drvZ Tryz.func48 ?_;simp only [go_sem,rdr,List.getElem?_cons_zero,List.getElem?_cons_succ,Int.natCast_zero,z01,z02,z12,z11,z22,z00]));((with_reducible and_intros)<;>try exact sd))
            refine Go.loopQ (fun x : Nat × Nat × List Int => [(0, .c (.ptr 0 0)), (3, DI .i64 bit), (5, .c (.ptr 1 0)), (8, .c (.ptr 129 0)), (9, .c (.ptr 321 0)), (11, DI .i64 1), (12, DI .i64 x.1)])
              (fun x=>[(0,some (rdr bs x.2.1)),(1,some (Pg.cells ⟨vs,[(T0:Int),(T1:Int)],bd⟩)),(129,some [.v (.slice none 0 0),.v (.slice none 0 0)]),(257,some (S.map I64)),(258,some ([.msl 259 1 0 4,.msl 260 1 0 4])),(259,some (A0.map I64)),(260,some (x.2.2.map I64)),(321,some [.msl 257 1 0 va.length,.msl 258 1 0 2])])
              12288 (fun x=>x.1≤4∧pos1≤x.2.1∧x.2.1≤pos1+x.1∧x.2.2.length=4∧(∀ y ∈ x.2.2,0≤y∧y≤255)∧(T1.testBit β=false→x.2.2=b)) (fun x=>4 - x.1) ?_ (0,pos1,b) some [] _ ⟨Nat.zero_le _,Nat.le_refl _,Nat.le_refl _,h4b.1,h4b.2,fun _=>rfl⟩ ?_
            · rintro ⟨k,ps,c⟩ ⟨hk1,hk2,hk3,hk4,hk5,hk6⟩ again
              simp only at hk1 hk2 hk3 hk4 hk5 hk6
              rcases Nat.lt_or_ge k 4 with hlt | hge
              · have hz:((k:Int)<4)=True:=eq_true (by omega)
                obtain ⟨bb,hb1,hb2,hb3⟩:=bitB hβ hT1
                cases bb with
                | false =>
                  refine drvL Tryz.func48 ?_
                  simp only [go_sem,rdr,hz,List.getElem?_cons_zero,List.getElem?_cons_succ,Int.natCast_zero,z01,z02,z12,z11,z22,z00]
                  iterate 5 ((try (refine drvZ Tryz.func48 ?_;simp only [go_sem,rdr,hz,hT1x,hb2,hb3,List.getElem?_cons_zero,List.getElem?_cons_succ,Int.natCast_zero,z01,z02,z12,z11,z22,z00]));((with_reducible and_intros)<;>try exact sd))
                  refine again (k+1,ps,c) some [] _ ⟨hlt,hk2,(show ps≤pos1+(k+1) by omega),hk4,hk5,hk6⟩ (show 4 - (k+1)<4 - k by omega) ?_
                  simp only [go_sem,TmOK,DM,DMs,CM,CMs,forall_eq,exists_eq_left,Mq,HpOK,LowOK,rdr]
                  simp [CMs_I,CMs_hdr,CMs_b0,CMs_b1,upd]
                | true =>
                  refine drvL Tryz.func48 ?_
                  simp only [go_sem,rdr,hz,List.getElem?_cons_zero,List.getElem?_cons_succ,Int.natCast_zero,z01,z02,z12,z11,z22,z00]
                  iterate 5 ((try (refine drvZ Tryz.func48 ?_;simp only [go_sem,rdr,hz,hT1x,hb2,hb3,List.getElem?_cons_zero,List.getElem?_cons_succ,Int.natCast_zero,z01,z02,z12,z11,z22,z00]));((with_reducible and_intros)<;>try exact sd))
                  refine XK.callG [0] (hval ps (by omega)) ok86 (hhp_one rfl) (hbT ()) (fun d h' ⟨_,_,_,_,_,_,e⟩=>by subst e;simp) ?_ (fun _=>⟨by kernel_rfl,_,_,⟨0,rfl,by omega,ps,by omega,by omega,rfl⟩,by simp⟩)
                  rintro _ _ ⟨v,rfl,hv,ps',hp1,hp3,rfl⟩ _
                  iterate 5 ((try (refine drvZ Tryz.func48 ?_;simp only [go_sem,rdr,hz,List.getElem?_cons_zero,List.getElem?_cons_succ,Int.natCast_zero,z01,z02,z12,z11,z22,z00,hk4]));((with_reducible and_intros)<;>try exact sd))
                  refine again (k+1,ps',c.set k v) some [] _ ⟨hlt,(show pos1≤ps' by omega),(show ps'≤pos1+(k+1) by omega),by rw [List.length_set];exact hk4,rng_set hk5 hv,fun h=>by rw [hb1] at h;cases h⟩ (show 4 - (k+1)<4 - k by omega) ?_
                  simp only [go_sem,TmOK,DM,DMs,CM,CMs,forall_eq,exists_eq_left,Mq,HpOK,LowOK,rdr]
                  simp [CMs_I,CMs_hdr,CMs_b0,CMs_b1,upd]
                  try exact CMs.kf (by rw [← List.map_set];exact kf_I _)
              · have hz:((k:Int)<4)=False:=eq_false (by omega)
                clear again
                refine drvL Tryz.func48 ?_
                simp only [go_sem,rdr,hz,List.getElem?_cons_zero,List.getElem?_cons_succ,Int.natCast_zero,z01,z02,z12,z11,z22,z00]
                iterate 3 ((try (refine drvZ Tryz.func48 ?_;simp only [go_sem,rdr,hz,List.getElem?_cons_zero,List.getElem?_cons_succ,Int.natCast_zero,z01,z02,z12,z11,z22,z00]));((with_reducible and_intros)<;>try exact sd))
                refine Go.inLoop ?_
                refine drvL Tryz.func48 ?_
                simp only [go_sem,rdr,List.getElem?_cons_zero,List.getElem?_cons_succ,Int.natCast_zero,z01,z02,z12,z11,z22,z00]
                iterate 3 ((try (refine drvZ Tryz.func48 ?_;simp only [go_sem,rdr,List.getElem?_cons_zero,List.getElem?_cons_succ,Int.natCast_zero,z01,z02,z12,z11,z22,z00]));((with_reducible and_intros)<;>try exact sd))
                exact fin [A0,c] ps _ rfl (by omega) (by omega) ⟨rfl,fun j x hj hf=>by
                  match j,hj with
                  | 0,hj=>simp only [List.getElem?_cons_zero,Option.some.injEq] at hj;subst hj;simp [hA0 (by simpa using hf)]
                  | 1,hj=>simp only [List.getElem?_cons_zero,List.getElem?_cons_succ,Option.some.injEq] at hj;subst hj;simp [hk6 (by simpa using hf)]
                  | j+2,hj=>simp at hj⟩ (by simp only [List.mem_cons,List.not_mem_nil,or_false,forall_eq_or_imp,forall_eq];exact ⟨h4A,hk4,hk5⟩) rfl rfl rfl rfl rfl
            · simp only [go_sem,TmOK,DM,DMs,CM,CMs,forall_eq,exists_eq_left,Mq,HpOK,LowOK,rdr]
              simp [CMs_I,CMs_hdr,CMs_b0,CMs_b1,upd]
        · simp only [go_sem,TmOK,DM,DMs,CM,CMs,forall_eq,exists_eq_left,Mq,HpOK,LowOK,rdr]
          simp [CMs_I,CMs_hdr,CMs_b0,CMs_b1,upd]
  · simp only [go_sem,TmOK,DM,DMs,CM,CMs,forall_eq,exists_eq_left,Mq,HpOK,LowOK,rdr]
    simp [CMs_I,CMs_hdr,CMs_b0,CMs_b1,upd]
end Go.Proofs.YtmjkgjkkpaephaaGreat.CtD
namespace Go.Proofs.YtmjkgjkkpaephaaGreat.CtR
open Go Go.CT CtF
def idxE (q : Ex → Bool) : List Ex → Int → Int
  | [],_ => -1
  | x :: r,i=>if q x then i else idxE q r (i+1)
theorem idxE_any (q : Ex → Bool) : ∀ (xs : List Ex) (i : Int), 0 ≤ i → decide (0 ≤ idxE q xs i) = xs.any q
  | [],i,_=>by simp [idxE]
  | x :: r,i,h=>by
    unfold idxE
    by_cases hq:q x=true
    · simp [hq,h]
    · simp only [hq,Bool.false_eq_true,if_false,List.any_cons,Bool.not_eq_true] at *
      rw [idxE_any q r (i+1) (by omega)];simp [hq]
theorem indexFuncE (g : Nat) (q : Ex → Bool) (p : Pg) (xs : List Ex) (hl : xs.length ≤ 3) (hok : fnOK Tryz.prog g = true) (hg : ∀ e ∈ xs, DC Tryz.prog g [.agg p.cells, .agg e.cells] [] (fun d h => d = DB (q e) ∧ h = [])) :
    DC Tryz.prog 179 [.c (.isl 3 (Ex.cellsL xs)),.c (.met g p.cells)] [] (fun d h=>d=DI .i64 (idxE q xs 0)∧h=[]):=by
  have hmx:=mx_eq
  have ret:∀ (n:Int) (hp:Hp),n=idxE q xs 0→RetOb 0 (fun d h=>d=DI .i64 (idxE q xs 0)∧h=[]) (DI .i64 n) hp:=fun n hp h=>RetOb.plain (d:=DI .i64 _) ⟨by rw [h],rfl⟩ rfl
  generalize hR:(fun (d:D) (h:List (Option (List C)))=>d=DI .i64 (idxE q xs 0)∧h=[])=R at ret ⊢
  clear hR
  obtain ⟨vs,ar,bd⟩:=p
  refine dcZ Tryz.func179 ?_
  simp only [go_sem]
  ((try (refine drvZ Tryz.func179 ?_;simp only [go_sem]));((with_reducible and_intros)<;>try exact sd))
  refine Go.loopQ (fun i:Nat=>[(0,.c (.isl 3 (Ex.cellsL xs))),(1,.c (.met g (Pg.cells ⟨vs,ar,bd⟩))),(7,DI .i64 xs.length),(8,DI .i64 i)]) (fun _=>[]) 1024 (fun i=>i≤xs.length∧idxE q (xs.drop i) i=idxE q xs 0) (fun i=>xs.length - i) ?_ 0 some [] _ ⟨Nat.zero_le _,rfl⟩ ?_
  · intro i hi again
    rcases Nat.lt_or_ge i xs.length with hlt | hge
    · obtain ⟨⟨k,v,ks⟩,hx⟩:∃ x,xs[i]? = some x:=⟨xs[i],by simp [hlt]⟩
      have hgx:=hg _ (List.mem_of_getElem? hx)
      have hdrop:xs.drop i = .mk k v ks :: xs.drop (i+1):=by
        obtain ⟨_,e⟩:=List.getElem?_eq_some_iff.1 hx
        rw [List.drop_eq_getElem_cons hlt,e]
      have hI:=hi.2
      rw [hdrop] at hI
      simp only [idxE] at hI
      cases hq:q (.mk k v ks) with
      | true =>
        rw [hq] at hgx hI
        refine drvL Tryz.func179 ?_
        simp only [go_sem,hx,hlt]
        iterate 3 ((try (refine drvZ Tryz.func179 ?_;simp only [go_sem,hx,hlt]));((with_reducible and_intros)<;>try exact sd);(try first | refine XK.p hgx hok ?_ | refine XK.gp hgx hok ?_))
        exact ret _ _ (by simpa using hI)
      | false =>
        rw [hq] at hgx hI
        refine drvL Tryz.func179 ?_
        simp only [go_sem,hx,hlt]
        iterate 4 ((try (refine drvZ Tryz.func179 ?_;simp only [go_sem,hx,hlt]));((with_reducible and_intros)<;>try exact sd);(try first | refine XK.p hgx hok ?_ | refine XK.gp hgx hok ?_))
        refine again (i+1) some [] _ ⟨hlt,by simpa using hI⟩ (by omega) ?_
        simp only [go_sem,TmOK,DM,DMs,CM,CMs,forall_eq,exists_eq_left,Mq,HpOK,LowOK]
        try simp
    · have hn:¬ i<xs.length:=by omega
      refine drvL Tryz.func179 ?_
      simp only [go_sem,hn]
      iterate 3 ((try (refine drvZ Tryz.func179 ?_;simp only [go_sem,hn]));((with_reducible and_intros)<;>try exact sd))
      refine ret _ _ ?_
      rw [← hi.2,List.drop_of_length_le hge];rfl
  · simp only [go_sem,TmOK,DM,DMs,CM,CMs,forall_eq,exists_eq_left,Mq,HpOK,LowOK]
    try simp
theorem containsFuncE (g : Nat) (q : Ex → Bool) (p : Pg) (xs : List Ex) (hl : xs.length ≤ 3) (hok : fnOK Tryz.prog g = true) (hg : ∀ e ∈ xs, DC Tryz.prog g [.agg p.cells, .agg e.cells] [] (fun d h => d = DB (q e) ∧ h = [])) :
    DC Tryz.prog 130 [.c (.isl 3 (Ex.cellsL xs)),.c (.met g p.cells)] [] (fun d h=>d=DB (xs.any q)∧h=[]):=by
  have hif:=indexFuncE g q p xs hl hok hg
  have hia:=idxE_any q xs 0 (by omega)
  rw [← hia]
  generalize idxE q xs 0=n at *
  obtain ⟨vs,ar,bd⟩:=p
  refine dcZ Tryz.func130 ?_
  simp only [go_sem]
  iterate 3 ((try (refine drvZ Tryz.func130 ?_;simp only [go_sem]));((with_reducible and_intros)<;>try exact sd);(try first | refine XK.p hif ok179 ?_ | refine XK.gp hif ok179 ?_))
  exact RetOb.plain (d:=DB _) ⟨rfl,rfl⟩ rfl
theorem secretReadI (p:Pg) (hl:p.vars.length≤mx) (hl2:p.arrays.length≤mx) (h1:lab3 p.vars) (h2:lab3 p.arrays):∀ (d:Nat) (e:Ex),shape p d e=true →
    DC Tryz.prog 92 [.agg p.cells,.agg e.cells] [] (fun r h=>r=DB (secE p.vars p.arrays d e)∧h=[]):=by
  have hmx:=mx_eq
  intro d
  induction d with
  | zero=>intro e h;simp [shape] at h
  | succ d ih =>
    intro e hsh
    obtain ⟨k,v,ks⟩:=e
    obtain ⟨g1,g2,g3⟩:=shape_succ hsh
    obtain ⟨hl3,hla,hv0,hv1⟩:=fits_len g1
    have hcf:=containsFuncE 92 (secE p.vars p.arrays d) p ks hl3 ok92 (fun e he=>ih e (g2 e he))
    have hlb:=labelI p hl hl2 h1 h2 d
    have hle:=labN_le h1 h2 d
    have ret:∀ (b:Bool) (hp:Hp),b=secE p.vars p.arrays (d+1) (.mk k v ks)→RetOb 0 (fun r h=>r=DB (secE p.vars p.arrays (d+1) (.mk k v ks))∧h=[]) (DB b) hp:=fun b hp h=>RetOb.plain (d:=DB _) ⟨by rw [h],rfl⟩ rfl
    generalize hR:(fun (r:D) (h:List (Option (List C)))=>r=DB (secE p.vars p.arrays (d+1) (.mk k v ks))∧h=[])=R at ret ⊢
    clear hR
    simp only [secE] at ret
    generalize hany:ks.any (secE p.vars p.arrays d)=an at *
    obtain ⟨vs,ar,bd⟩:=p
    by_cases hk:k=3
    · subst hk
      have h1':ks.length=1:=by simp [arity] at hla;omega
      match ks,h1' with
      | [a],_ =>
        have hlv:=hlb a (g2 a (by simp))
        have hlvl:=hle a
        simp only [kid0,beq_self_eq_true,Bool.true_and] at ret
        generalize labN vs ar d a=lv at *
        have hse:=labelSecretI lv hlvl
        generalize secL lv=s at *
        obtain ⟨ak,av,aks⟩:=a
        simp only [Ex.cellsL,List.length_cons,List.length_nil] at hcf
        cases s with
        | true =>
          refine dcZ Tryz.func92 ?_
          simp only [go_sem,Ex.cellsL]
          iterate 6 ((try (refine drvZ Tryz.func92 ?_;simp only [go_sem,Ex.cellsL,beq_self_eq_true]));((with_reducible and_intros)<;>try exact sd);(try first | refine XK.p hlv ok91 ?_ | refine XK.gp hlv ok91 ?_ | refine XK.p hse ok90 ?_ | refine XK.gp hse ok90 ?_ | refine XK.gs (DB false) ?_))
          exact ret _ _ (by simp)
        | false =>
          refine dcZ Tryz.func92 ?_
          simp only [go_sem,Ex.cellsL]
          iterate 6 ((try (refine drvZ Tryz.func92 ?_;simp only [go_sem,Ex.cellsL,beq_self_eq_true]));((with_reducible and_intros)<;>try exact sd);(try first | refine XK.p hlv ok91 ?_ | refine XK.gp hlv ok91 ?_ | refine XK.p hse ok90 ?_ | refine XK.gp hse ok90 ?_ | refine XK.p hcf ok130 ?_ | refine XK.gp hcf ok130 ?_))
          exact ret _ _ (by simp)
    · have ek:(k == 3)=false:=by simp [hk]
      have fk:(k=3)=False:=eq_false hk
      rw [ek] at ret
      cases ks with
      | nil =>
        refine dcZ Tryz.func92 ?_
        simp only [go_sem,Ex.cellsL,ek,fk]
        iterate 6 ((try (refine drvZ Tryz.func92 ?_;simp only [go_sem,Ex.cellsL,ek,fk]));((with_reducible and_intros)<;>try exact sd);(try first | refine XK.p hcf ok130 ?_ | refine XK.gp hcf ok130 ?_ | refine XK.gs (DB false) ?_ | refine XK.gs (DI .i64 0) ?_))
        exact ret _ _ (by simp)
      | cons a r =>
        obtain ⟨ak,av,aks⟩:=a
        refine dcZ Tryz.func92 ?_
        simp only [go_sem,Ex.cellsL,ek,fk]
        iterate 6 ((try (refine drvZ Tryz.func92 ?_;simp only [go_sem,Ex.cellsL,ek,fk]));((with_reducible and_intros)<;>try exact sd);(try first | refine XK.p hcf ok130 ?_ | refine XK.gp hcf ok130 ?_ | refine XK.gs (DB false) ?_ | refine XK.gs (DI .i64 0) ?_))
        exact ret _ _ (by simp)
theorem secretRead0 (p:Pg):DC Tryz.prog 92 [.agg p.cells,.agg (Ex.cells (.mk 0 0 []))] [] (fun r h=>r=DB false∧h=[]):=by
  have hmx:=mx_eq
  have hcf:=containsFuncE 92 (fun _=>false) p [] (by simp) ok92 (fun e he=>by simp at he)
  simp only [List.any_nil,Ex.cellsL] at hcf
  have ret:∀ (hp:Hp),RetOb 0 (fun r h=>r=DB false∧h=[]) (DB false) hp:=fun hp=>RetOb.plain (d:=DB _) ⟨rfl,rfl⟩ rfl
  generalize hR:(fun (r:D) (h:List (Option (List C)))=>r=DB false∧h=[])=R at ret ⊢
  clear hR
  obtain ⟨vs,ar,bd⟩:=p
  have ek:((0:Int) == 3)=false:=by decide
  have fk:((0:Int)=3)=False:=by simp
  refine dcZ Tryz.func92 ?_
  simp only [go_sem,Ex.cellsL,ek,fk]
  iterate 6 ((try (refine drvZ Tryz.func92 ?_;simp only [go_sem,Ex.cellsL,ek,fk]));((with_reducible and_intros)<;>try exact sd);(try first | refine XK.p hcf ok130 ?_ | refine XK.gp hcf ok130 ?_ | refine XK.gs (DB false) ?_ | refine XK.gs (DI .i64 0) ?_))
  exact ret _
theorem leakI (p : Pg) (hl : p.vars.length ≤ mx) (hl2 : p.arrays.length ≤ mx) (h1 : lab3 p.vars) (h2 : lab3 p.arrays) (d : Nat) (s : St1) (hs : stmtOK p (d + 1) s = true) (c : Nat) :
    DC Tryz.prog 52 [.agg p.cells,.agg s.cells,DI .i64 c] [] (fun r h=>r=DI .i64 (leakR p.vars p.arrays s c)∧h=[]):=by
  have hmx:=mx_eq
  have hlab:=labelI p hl hl2 h1 h2 5
  have hsec:=secretReadI p hl hl2 h1 h2 5
  have hs0:=secretRead0 p
  have hle:=labN_le h1 h2 5
  obtain ⟨vs,ar,bd⟩:=p
  have ret:∀ (n:Int) (hp:Hp),n=leakR vs ar s c→RetOb 0 (fun r h=>r=DI .i64 (leakR vs ar s c)∧h=[]) (DI .i64 n) hp:=fun n hp h=>RetOb.plain (d:=DI .i64 _) ⟨by rw [h],rfl⟩ rfl
  simp only at ret hle ⊢
  generalize hR:(fun (r:D) (h:List (Option (List C)))=>r=DI .i64 (leakR vs ar s c)∧h=[])=R at ret ⊢
  clear hR
  obtain ⟨k,t,⟨ik,iv,iks⟩,⟨vk,vv,vks⟩,cc,b,e⟩:=s
  have hho:=(stmtOK_succ hs).1
  have hh:=head_kind hho
  obtain ⟨sv,si⟩:=shapeV hs
  have hkey:k=4∨k=3∨k=2∨(k=1∨k=5):=by omega
  rcases hkey with hk | hk | hk | hk
  · subst hk
    have hz:vk=0∧vv=0∧vks=[]:=by
      unfold headOK parts at hho
      simp [none0,Ex.kind,Ex.value,Ex.kids] at hho
      grind
    obtain ⟨rfl,rfl,rfl⟩:=hz
    simp only [Ex.cells,Ex.cellsL] at hs0
    refine dcZ Tryz.func52 ?_
    simp only [go_sem,Ex.cellsL]
    iterate 10 ((try (refine drvZ Tryz.func52 ?_;simp only [go_sem,Ex.cellsL]));((with_reducible and_intros)<;>try exact sd);(try first | refine XK.p hs0 ok92 ?_ | refine XK.gp hs0 ok92 ?_ | refine XK.gs (DB false) ?_ | refine XK.gs (DI .i64 0) ?_))
    exact ret _ _ (by simp [leakR,St1.kind,St1.value,St1.index,secE])
  · subst hk
    have hlv:=hlab _ (sv (by decide))
    have hlvl:=hle (.mk vk vv vks)
    have hse:=hsec _ (sv (by decide))
    simp only at hlv hse
    have hls:=labelSecretI _ hlvl
    cases hs1:secL (labN vs ar 5 (.mk vk vv vks))<;>cases hs2:secE vs ar 5 (.mk vk vv vks)
    all_goals
      rw [hs1] at hls
      rw [hs2] at hse
      refine dcZ Tryz.func52 ?_
      simp only [go_sem]
      iterate 10 ((try (refine drvZ Tryz.func52 ?_;simp only [go_sem]));((with_reducible and_intros)<;>try exact sd);(try first | refine XK.p hlv ok91 ?_ | refine XK.gp hlv ok91 ?_ | refine XK.p hls ok90 ?_ | refine XK.gp hls ok90 ?_ | refine XK.p hse ok92 ?_ | refine XK.gp hse ok92 ?_ | refine XK.gs (DB false) ?_ | refine XK.gs (DI .i64 0) ?_))
    all_goals exact ret _ _ (by simp [leakR,St1.kind,St1.value,St1.index,hs1,hs2])
  · subst hk
    have hlv:=hlab _ (si rfl)
    have hlvl:=hle (.mk ik iv iks)
    have hse:=hsec _ (sv (by decide))
    simp only at hlv hse
    have hls:=labelSecretI _ hlvl
    cases hs1:secL (labN vs ar 5 (.mk ik iv iks))<;>cases hs2:secE vs ar 5 (.mk vk vv vks)
    all_goals
      rw [hs1] at hls
      rw [hs2] at hse
      refine dcZ Tryz.func52 ?_
      simp only [go_sem]
      iterate 10 ((try (refine drvZ Tryz.func52 ?_;simp only [go_sem]));((with_reducible and_intros)<;>try exact sd);(try first | refine XK.p hlv ok91 ?_ | refine XK.gp hlv ok91 ?_ | refine XK.p hls ok90 ?_ | refine XK.gp hls ok90 ?_ | refine XK.p hse ok92 ?_ | refine XK.gp hse ok92 ?_ | refine XK.gs (DB false) ?_ | refine XK.gs (DI .i64 0) ?_))
    all_goals exact ret _ _ (by simp [leakR,St1.kind,St1.value,St1.index,hs1,hs2])
  · have e3:(k == 3)=false:=by rcases hk with rfl | rfl<;>decide
    have f3:(k=3)=False:=by rcases hk with rfl | rfl<;>simp
    have e2:(k == 2)=false:=by rcases hk with rfl | rfl<;>decide
    have f2:(k=2)=False:=by rcases hk with rfl | rfl<;>simp
    have hse:=hsec _ (sv (by omega))
    simp only at hse
    cases hs2:secE vs ar 5 (.mk vk vv vks)
    all_goals
      rw [hs2] at hse
      refine dcZ Tryz.func52 ?_
      simp only [go_sem,e3,f3,e2,f2]
      iterate 10 ((try (refine drvZ Tryz.func52 ?_;simp only [go_sem,e3,f3,e2,f2]));((with_reducible and_intros)<;>try exact sd);(try first | refine XK.p hse ok92 ?_ | refine XK.gp hse ok92 ?_ | refine XK.gs (DB false) ?_ | refine XK.gs (DI .i64 0) ?_))
    all_goals exact ret _ _ (by simp [leakR,St1.kind,St1.value,St1.index,hs2,f3,f2])
theorem checkCTI (p:Pg) (hl:p.vars.length≤mx) (hl2:p.arrays.length≤mx):DC Tryz.prog 15 [.agg p.cells] [] (fun r h=>r = .tup [DI .i64 (strictR p).1,DI .i64 (strictR p).2]∧h=[]):=by
  have hmx:=mx_eq
  have hc:=checkFlowI p hl hl2
  have ret:∀ (x:Int × Int) (hp:Hp),x=strictR p→RetOb 0 (fun r h=>r = .tup [DI .i64 (strictR p).1,DI .i64 (strictR p).2]∧h=[]) (.tup [DI .i64 x.1,DI .i64 x.2]) hp:=fun x hp h=>by
    subst h
    exact RetOb.two ⟨rfl,rfl⟩
  generalize hR:(fun (r:D) (h:List (Option (List C)))=>r = .tup [DI .i64 (strictR p).1,DI .i64 (strictR p).2]∧h=[])=R at ret ⊢
  clear hR
  by_cases hf:(chkR flowR p).1=0
  · have hq:progOK p=true:=by
      have:=(chk_fine flowR p).1 hf
      unfold fineP at this
      simp only [Bool.and_eq_true] at this
      exact this.1
    have he:strictR p=chkR leakR p:=by unfold strictR;rw [if_neg (by simpa using hf)]
    rw [he,chk_fir leakR hq] at ret
    have hlab:=labs_of hq
    have hfo:=firstOf p hq 52 ok52 leakR (fun d s c hc hs=>leakI p hl hl2 hlab.1 hlab.2 d s hs c)
    rw [hf] at hc
    generalize (chkR flowR p).2=y at *
    generalize firR leakR p=x at *
    obtain ⟨vs,ar,bd⟩:=p
    refine dcZ Tryz.func15 ?_
    simp only [go_sem]
    iterate 6 ((try (refine drvZ Tryz.func15 ?_;simp only [go_sem,bne_self_eq_false]));((with_reducible and_intros)<;>try exact sd);(try first | refine XK.p hc ok50 ?_ | refine XK.gp hc ok50 ?_ | refine XK.p hfo ok51 ?_ | refine XK.gp hfo ok51 ?_))
    exact ret x _ rfl
  · have he:strictR p=chkR flowR p:=by unfold strictR;rw [if_pos hf]
    rw [he] at ret
    generalize chkR flowR p=x at *
    obtain ⟨x1,x2⟩:=x
    simp only at hf hc
    have g1:(x1=0)=False:=eq_false hf
    have g2:(x1 != 0)=true:=by simp [hf]
    obtain ⟨vs,ar,bd⟩:=p
    refine dcZ Tryz.func15 ?_
    simp only [go_sem]
    iterate 6 ((try (refine drvZ Tryz.func15 ?_;simp only [go_sem,g1,g2]));((with_reducible and_intros)<;>try exact sd);(try first | refine XK.p hc ok50 ?_ | refine XK.gp hc ok50 ?_))
    exact ret (x1,x2) _ rfl
theorem firstDifference (xs ys:List Ev) (hl:xs.length≤mx) (hl2:ys.length≤mx):DC Tryz.prog 78 [.c (trD xs),.c (trD ys)] [] (fun r h=>r=DI .i64 (fdif xs ys 0)∧h=[]):=by
  have hmx:=mx_eq
  have ret:∀ (n:Int) (hp:Hp),n=fdif xs ys 0→RetOb 0 (fun r h=>r=DI .i64 (fdif xs ys 0)∧h=[]) (DI .i64 n) hp:=fun n hp h=>RetOb.plain (d:=DI .i64 _) ⟨by rw [h],rfl⟩ rfl
  generalize hR:(fun (r:D) (h:List (Option (List C)))=>r=DI .i64 (fdif xs ys 0)∧h=[])=R at ret ⊢
  clear hR
  refine dcZ Tryz.func78 ?_
  simp only [go_sem,trD]
  ((try (refine drvZ Tryz.func78 ?_;simp only [go_sem,trD]));((with_reducible and_intros)<;>try exact sd))
  obtain ⟨M,hM,hM1,hM2,hM3⟩:∃ M:Nat,(if (xs.length:Int)<(ys.length:Int) then (ys.length:Int) else (xs.length:Int))=(M:Int)∧xs.length≤M∧ys.length≤M∧M≤mx∧(M≤xs.length∨M≤ys.length):=by
    by_cases h:(xs.length:Int)<(ys.length:Int)
    · exact ⟨ys.length,if_pos h,by omega,by omega,by omega,by omega⟩
    · exact ⟨xs.length,if_neg h,by omega,by omega,by omega,by omega⟩
  try simp only [Int.ofNat_lt] at hM
  try rw [hM]
  refine Go.loopQ (fun i:Nat=>[(0,.c (trD xs)),(1,.c (trD ys)),(10,DI .i64 M),(11,DI .i64 i)]) (fun _=>[]) 1024 (fun i=>i≤M∧fdif (xs.drop i) (ys.drop i) i=fdif xs ys 0) (fun i=>M - i) ?_ 0 some [] _ ⟨Nat.zero_le _,rfl⟩ ?_
  · intro i hi again
    have hI:=hi.2
    rcases Nat.lt_or_ge i M with hlt | hge
    · have hcs:(xs.length≤i)∨(i<xs.length∧ys.length≤i)∨(i<xs.length∧i<ys.length):=by omega
      rcases hcs with hx | ⟨hx,hy⟩ | ⟨hx,hy⟩
      · have hdx:xs.drop i=[]:=List.drop_of_length_le hx
        have hy:i<ys.length:=by omega
        rw [hdx,List.drop_eq_getElem_cons hy] at hI
        have hn:((xs.length:Int)≤(i:Int))=True:=eq_true (by omega)
        have hxn:xs[i]? = none:=List.getElem?_eq_none hx
        obtain ⟨y,hyy⟩:∃ y,ys[i]? = some y:=⟨ys[i],by simp [hy]⟩
        obtain ⟨yk,yv⟩:=y
        refine drvL Tryz.func78 ?_
        simp only [go_sem,trD,hlt]
        iterate 4 ((try (refine drvZ Tryz.func78 ?_;simp only [go_sem,trD,hlt,hn,hxn,hyy,Ev.cells]));((with_reducible and_intros)<;>try exact sd))
        exact ret _ _ (by rw [← hI];rfl)
      · have hdy:ys.drop i=[]:=List.drop_of_length_le hy
        rw [hdy,List.drop_eq_getElem_cons hx] at hI
        have hn:((xs.length:Int)≤(i:Int))=False:=eq_false (by omega)
        have hn2:((ys.length:Int)≤(i:Int))=True:=eq_true (by omega)
        have hyn:ys[i]? = none:=List.getElem?_eq_none hy
        obtain ⟨x,hxx⟩:∃ x,xs[i]? = some x:=⟨xs[i],by simp [hx]⟩
        obtain ⟨xk,xv⟩:=x
        refine drvL Tryz.func78 ?_
        simp only [go_sem,trD,hlt]
        iterate 4 ((try (refine drvZ Tryz.func78 ?_;simp only [go_sem,trD,hlt,hn,hn2,hyn,hxx,Ev.cells]));((with_reducible and_intros)<;>try exact sd))
        exact ret _ _ (by rw [← hI];rfl)
      · have hn:((xs.length:Int)≤(i:Int))=False:=eq_false (by omega)
        have hn2:((ys.length:Int)≤(i:Int))=False:=eq_false (by omega)
        obtain ⟨x,hxx⟩:∃ x,xs[i]? = some x:=⟨xs[i],by simp [hx]⟩
        obtain ⟨y,hyy⟩:∃ y,ys[i]? = some y:=⟨ys[i],by simp [hy]⟩
        rw [List.drop_eq_getElem_cons hx,List.drop_eq_getElem_cons hy,(List.getElem?_eq_some_iff.1 hxx).2,(List.getElem?_eq_some_iff.1 hyy).2] at hI
        obtain ⟨xk,xv⟩:=x
        obtain ⟨yk,yv⟩:=y
        simp only [fdif] at hI
        by_cases he:xk=yk∧xv=yv
        · obtain ⟨rfl,rfl⟩:=he
          rw [if_pos ⟨rfl,rfl⟩] at hI
          refine drvL Tryz.func78 ?_
          simp only [go_sem,trD,hlt]
          iterate 4 ((try (refine drvZ Tryz.func78 ?_;simp only [go_sem,trD,hlt,hn,hn2,hxx,hyy,Ev.cells]));((with_reducible and_intros)<;>try exact sd))
          refine again (i+1) some [] _ ⟨hlt,by rw [← hI];rfl⟩ (by omega) ?_
          simp only [go_sem,TmOK,DM,DMs,CM,CMs,forall_eq,exists_eq_left,Mq,HpOK,LowOK,trD]
          try simp
        · rw [if_neg he] at hI
          have hd:(decide (xk=yk) && decide (xv=yv))=false:=by
            cases h1:decide (xk=yk) with
            | false=>rfl
            | true =>
              cases h2:decide (xv=yv) with
              | false=>rfl
              | true=>exact absurd ⟨of_decide_eq_true h1,of_decide_eq_true h2⟩ he
          refine drvL Tryz.func78 ?_
          simp only [go_sem,trD,hlt]
          iterate 4 ((try (refine drvZ Tryz.func78 ?_;simp only [go_sem,trD,hlt,hn,hn2,hxx,hyy,Ev.cells,hd]));((with_reducible and_intros)<;>try exact sd))
          exact ret _ _ hI
    · have hn:¬ i<M:=by omega
      refine drvL Tryz.func78 ?_
      simp only [go_sem,trD,hn]
      iterate 2 ((try (refine drvZ Tryz.func78 ?_;simp only [go_sem,trD,hn]));((with_reducible and_intros)<;>try exact sd))
      have e1:xs.drop i=[]:=List.drop_of_length_le (by omega)
      have e2:ys.drop i=[]:=List.drop_of_length_le (by omega)
      exact ret _ _ (by rw [← hI,e1,e2];rfl)
  · simp only [go_sem,TmOK,DM,DMs,CM,CMs,forall_eq,exists_eq_left,Mq,HpOK,LowOK,trD]
    try simp
end Go.Proofs.YtmjkgjkkpaephaaGreat.CtR
