/- Contracts of functions of the program, one behind the other, as plain data: what each call returns and which blocks it leaves. -/
import Derived.Test.YtbknljofedfpjaaGreatXFacts
import Derived.Test.YtbknljofedfpjaaGreatXAi
import Derived.Test.YtbknljofedfpjaaGreatXAk
import Derived.Test.YtbknljofedfpjaaGreatXAl
import Derived.Test.YtbknljofedfpjaaGreatXAm
import Derived.Test.YtbknljofedfpjaaGreatXAn
import Derived.Test.YtbknljofedfpjaaGreatXAp
import Derived.Test.YtbknljofedfpjaaGreatXAo
set_option linter.unusedVariables false
set_option linter.unusedSimpArgs false
set_option linter.unusedSectionVars false
set_option maxHeartbeats 16000000
set_option maxRecDepth 100000
namespace Go.Proofs.YtbknljofedfpjaaGreat.CtR
variable [Go.CT.Yn]
open Go Go.CT CtF
structure LowM (β : Nat) (p : Pg) (m m' : Mm) : Prop where
  lv:m.vals.length=m'.vals.length
  la:m.arrays.length=m'.arrays.length
  val:∀ (i:Nat) (x:Int),p.vars[i]? = some x→x.toNat.testBit β=false→m.vals[i]? = m'.vals[i]?
  arr:∀ (i:Nat) (x:Int),p.arrays[i]? = some x→x.toNat.testBit β=false→m.arrays[i]? = m'.arrays[i]?
theorem LowM.refl (β:Nat) (p:Pg) (m:Mm):LowM β p m m:=⟨rfl,rfl,fun _ _ _ _=>rfl,fun _ _ _ _=>rfl⟩
theorem LowM.symm {β:Nat} {p:Pg} {m m':Mm} (h:LowM β p m m'):LowM β p m' m:=⟨h.lv.symm,h.la.symm,fun i x a b=>(h.val i x a b).symm,fun i x a b=>(h.arr i x a b).symm⟩
theorem LowM.trans {β:Nat} {p:Pg} {a b c:Mm} (h:LowM β p a b) (h':LowM β p b c):LowM β p a c :=
  ⟨h.lv.trans h'.lv,h.la.trans h'.la,fun i x u v=>(h.val i x u v).trans (h'.val i x u v),fun i x u v=>(h.arr i x u v).trans (h'.arr i x u v)⟩
theorem arrAt_eq {m m':Mm} {v:Int} (h:m.arrays[v.toNat]? = m'.arrays[v.toNat]?):arrAt m v=arrAt m' v:=by
  unfold arrAt;rw [List.getD_eq_getElem?_getD,List.getD_eq_getElem?_getD,h]
theorem LowM.setV {β : Nat} {p : Pg} {m m' : Mm} (h : LowM β p m m') {t x y : Int} (hx : x = y ∨ (nth p.vars t).toNat.testBit β = true) : LowM β p (setV m t x) (setV m' t y) where
  lv:=by simp [CtR.setV,h.lv]
  la:=h.la
  val:=fun i z hz hb=>by
    simp only [CtR.setV,List.getElem?_set,h.lv]
    by_cases e:t.toNat=i
    · subst e
      rcases hx with rfl | hx
      · simp [h.val _ z hz hb]
      · have:nth p.vars t=z:=by unfold nth;rw [List.getD_eq_getElem?_getD,hz];rfl
        rw [this,hb] at hx
        cases hx
    · simp only [e,if_false];exact h.val i z hz hb
  arr:=h.arr
theorem LowM.setA {β : Nat} {p : Pg} {m m' : Mm} (h : LowM β p m m') {t i j x y : Int} (hx : (i = j ∧ x = y) ∨ (nth p.arrays t).toNat.testBit β = true) : LowM β p (setA m t i x) (setA m' t j y) where
  lv:=h.lv
  la:=by simp [CtR.setA,h.la]
  val:=h.val
  arr:=fun k z hz hb=>by
    simp only [CtR.setA,List.getElem?_set,h.la]
    by_cases e:t.toNat=k
    · subst e
      rcases hx with ⟨rfl,rfl⟩ | hx
      · rw [arrAt_eq (h.arr _ z hz hb),h.arr _ z hz hb]
      · have:nth p.arrays t=z:=by unfold nth;rw [List.getD_eq_getElem?_getD,hz];rfl
        rw [this,hb] at hx
        cases hx
    · simp only [e,if_false];exact h.arr k z hz hb
open Go Go.CT CtF
end Go.Proofs.YtbknljofedfpjaaGreat.CtR
namespace Go.Proofs.YtbknljofedfpjaaGreat.CtF
end Go.Proofs.YtbknljofedfpjaaGreat.CtF
namespace Go.Proofs.YtbknljofedfpjaaGreat.CtR
end Go.Proofs.YtbknljofedfpjaaGreat.CtR
namespace Go.Proofs.YtbknljofedfpjaaGreat.CtR
open Go Go.CT CtF
variable [Yn]
theorem le3 {a:Nat} (h:a≤3):a=0∨a=1∨a=2∨a=3:=by omega
theorem subI (a b:Nat) (ha:a≤3) (hb:b≤3):decide (((a ||| b:Nat):Int)=(b:Int))=subL a b:=by
  rcases le3 ha with rfl | rfl | rfl | rfl<;>rcases le3 hb with rfl | rfl | rfl | rfl<;>decide
structure Up (l l' : List Int) : Prop where
  len:l'.length=l.length
  lab:lab3 l'
  le:∀ (i:Nat) (x x':Int),l[i]? = some x→l'[i]? = some x'→x≤x'
theorem Up.refl {l:List Int} (h:lab3 l):Up l l:=⟨rfl,h,fun i x x' a b=>by rw [a] at b;cases b;exact Int.le_refl _⟩
theorem Up.trans {a b c:List Int} (h:Up a b) (h':Up b c):Up a c :=
  ⟨h'.len.trans h.len,h'.lab,fun i x x' h1 h2=>by
    have hi:i<b.length:=by have:=(List.getElem?_eq_some_iff.1 h1).1;rw [h.len];exact this
    exact Int.le_trans (h.le i x b[i] h1 (by simp [hi])) (h'.le i b[i] x' (by simp [hi]) h2)⟩
theorem Up.set {l l':List Int} (h:Up l l') {i T n:Nat} (ht:l'[i]? = some (T:Int)) (hn:n≤3) (hT:T≤n):Up l (l'.set i (n:Int)) :=
  ⟨by rw [List.length_set,h.len],fun x hx=>by
    rcases List.mem_or_eq_of_mem_set hx with h1 | rfl
    · exact h.lab x h1
    · omega,fun j x x' h1 h2=>by
    rw [List.getElem?_set] at h2
    by_cases e:i=j
    · subst e
      have hlt:=(List.getElem?_eq_some_iff.1 ht).1
      rw [if_pos rfl,if_pos hlt] at h2
      cases h2
      have:=h.le i x T h1 ht
      omega
    · rw [if_neg e] at h2;exact h.le j x x' h1 h2⟩
end Go.Proofs.YtbknljofedfpjaaGreat.CtR
namespace Go.Proofs.YtbknljofedfpjaaGreat.CtD
open Go Go.CT CtF CtR
variable [Yn]
theorem stmtOK_len {p q:Pg} (h1:q.vars.length=p.vars.length) (h2:q.arrays.length=p.arrays.length):∀ (d:Nat) (s:St1),stmtOK q d s=stmtOK p d s:=by
  have hsh:∀ (d:Nat) (e:Ex),CtR.shape q d e=CtR.shape p d e:=by
    have hlim:∀ k,limit q k=limit p k:=fun k=>by simp only [limit,h1,h2]
    intro d
    induction d with
    | zero=>intro e;rfl
    | succ d ih =>
      intro e
      obtain ⟨k,v,ks⟩:=e
      have he:CtR.shape q d=CtR.shape p d:=funext ih
      simp only [CtR.shape,fitsE,hlim,he]
  have hr:∀ e,right q e=right p e:=fun e=>by simp only [right,hsh]
  intro d
  induction d with
  | zero=>intro s;rfl
  | succ d ih =>
    intro s
    obtain ⟨k,t,ix,v,c,b,e⟩:=s
    have h3:∀ l:List St1,l.all (stmtOK q d)=l.all (stmtOK p d):=fun l=>by congr 1;funext s;exact ih s
    simp only [stmtOK,headOK,hr,h1,h2,h3]
theorem DrP.up {p q:Pg} (h:DrP p) (h1:CtR.Up p.vars q.vars) (h2:CtR.Up p.arrays q.arrays) (h3:q.body=p.body):DrP q:=by
  refine ⟨?_,by rw [h1.len];exact h.nv,by rw [h2.len];exact h.na,by rw [h3];exact h.nb,by rw [h3];exact h.sm⟩
  have hok:=h.ok
  simp only [progOK,headsOK,Bool.and_eq_true,decide_eq_true_eq] at hok ⊢
  have hst:(stmtOK q 5)=stmtOK p 5:=funext fun s=>stmtOK_len h1.len h2.len 5 s
  refine ⟨⟨?_,by rw [h3,hst];exact hok.1.2⟩,by rw [h3];exact hok.2⟩
  have hl:∀ l:List Int,lab3 l→labs l=true:=fun l hl=>by
    simp only [labs,List.all_eq_true,Bool.and_eq_true,decide_eq_true_eq]
    exact hl
  obtain ⟨⟨⟨⟨g1,g2⟩,g3⟩,g4⟩,g5⟩:=hok.1.1
  rw [h1.len,h2.len]
  exact ⟨⟨⟨⟨g1,g2⟩,g3⟩,hl _ h1.lab⟩,hl _ h2.lab⟩
structure LowV {α : Type} (β : Nat) (ls : List Int) (a a' : List α) : Prop where
  len:a'.length=a.length
  eq:∀ (j:Nat) (x:Int),ls[j]? = some x→x.toNat.testBit β=false→a[j]? = a'[j]?
theorem LowV.refl {α:Type} (β:Nat) (ls:List Int) (a:List α):LowV β ls a a:=⟨rfl,fun _ _ _ _=>rfl⟩
theorem LowV.set {α:Type} {β:Nat} {ls:List Int} {a a':List α} (h:LowV β ls a a') {i:Nat} {x:Int} (hx:ls[i]? = some x) (hb:x.toNat.testBit β=true) (v:α):LowV β ls a (a'.set i v) :=
  ⟨by rw [List.length_set,h.len],fun j y hy hf=>by
    rw [List.getElem?_set]
    by_cases e:i=j
    · subst e;rw [hx] at hy;cases hy;rw [hb] at hf;cases hf
    · rw [if_neg e];exact h.eq j y hy hf⟩
theorem rng_set {l:List Int} (h:∀ y ∈ l,0≤y∧y≤255) {i:Nat} {v:Int} (hv:0≤v∧v≤255):∀ y ∈ l.set i v,0≤y∧y≤255:=fun y hy=>by
  rcases List.mem_or_eq_of_mem_set hy with h1 | rfl
  · exact h y h1
  · exact hv
def seR (β:Nat) (p:Pg) (m:Mm) (bs:List Int) (n:Nat) (r:D) (h:List (Option (List C))):Prop:=∃ m':Mm,r = .agg m'.cells∧MemFits p m'∧LowM β p m m'∧rdL bs n 30 h
theorem bitB {β:Nat} {bit:Int} (hβ:(β=0∧bit=1)∨(β=1∧bit=2)) {T:Nat} (hT:T≤3):∃ b:Bool,T.testBit β=b∧((andZ .i64 (T:Int) bit=0)=(b=false))∧((andZ .i64 (T:Int) bit != 0)=b):=by
  rcases hβ with ⟨rfl,rfl⟩ | ⟨rfl,rfl⟩
  · rw [andZ_1]
    rcases le3 hT with rfl | rfl | rfl | rfl<;>refine ⟨_,rfl,?_,?_⟩<;>decide
  · rw [andZ_2]
    rcases le3 hT with rfl | rfl | rfl | rfl<;>refine ⟨_,rfl,?_,?_⟩<;>decide
theorem secrets (bs : List Int) (n : Nat) (p : Pg) (m : Mm) (hb : Fits .u8 bs) (hl : bs.length ≤ 2000) (hn : n ≤ 274877906944) (hm : MemFits p m) (h1 : lab3 p.vars) (h2 : lab3 p.arrays) (β : Nat) (bit : Int) (hβ : (β = 0 ∧ bit = 1) ∨ (β = 1 ∧ bit = 2)) :
    DC Tryz.prog 31 [.c (.ptr 0 0),.agg p.cells,.agg m.cells,DI .i64 bit] [some (rdr bs n)] (seR β p m bs n):=by
  have hmx:=mx_eq
  have hval:=fun n h=>l3Value bs n hb hl h
  have hcp:=l3Copy m (by have:=hm.nv;have:=hm.nv12;omega) (by have:=hm.na;have:=hm.na2;omega) (fun a h=>(hm.arr a h).1)
  have hbv:∀ x:Int,0≤x∧x≤3→∃ T:Nat,T≤3∧x=(T:Int):=fun x hx=>⟨x.toNat,by omega,by omega⟩
  have hbit0:0≤bit∧bit≤2:=by omega
  generalize hR:seR β p m bs n=R
  unfold memB at hcp
  have hnv:=hm.nv
  have hna:=hm.na
  have hnv12:=hm.nv12
  have hna2:=hm.na2
  have hva:=hm.val
  have har:=hm.arr
  obtain ⟨vs,ar,bd⟩:=p
  obtain ⟨va,arr⟩:=m
  simp only at hnv hna hnv12 hna2 hva har h1 h2
  refine dcZ Tryz.func31 ?_
  simp only [go_sem,Mm.cells,rdr]
  ((try (refine drvZ Tryz.func31 ?_;simp only [go_sem,Mm.cells,rdr]));((with_reducible and_intros)<;>try exact sd))
  refine XK.callG [] hcp ok88 (fun i' x h=>by simp at h) (hbT ()) (fun d h' ⟨_,e⟩=>by subst e;simp) ?_
  rintro _ _ ⟨rfl,rfl⟩ _
  iterate 3 ((try (refine drvZ Tryz.func31 ?_;simp only [go_sem,renCs_I,renCs_hdr,renCs_b0,renCs_b1,rdr]));((with_reducible and_intros)<;>try exact sd))
  refine Go.loopQ (fun x : Nat × Nat × List Int => [(0, .c (.ptr 0 0)), (3, DI .i64 bit), (5, .c (.ptr 1 0)), (8, .c (.ptr 129 0)), (9, .c (.ptr 321 0)), (10, DI .i64 x.1)])
    (fun x=>[(0,some (rdr bs x.2.1)),(1,some (Pg.cells ⟨vs,ar,bd⟩)),(129,some [.v (.slice none 0 0),.v (.slice none 0 0)]),(257,some (x.2.2.map I64)),(258,some (hdr 259 260 arr.length)),(259,some (blk0 arr)),(260,some (blk1 arr)),(321,some [.msl 257 1 0 va.length,.msl 258 1 0 arr.length])])
    4096 (fun x=>x.1≤vs.length∧n≤x.2.1∧x.2.1≤n+x.1∧(∀ y ∈ x.2.2,0≤y∧y≤255)∧LowV β vs va x.2.2) (fun x=>vs.length - x.1) ?_ (0,n,va) some [] _ ⟨Nat.zero_le _,Nat.le_refl _,Nat.le_refl _,hva,.refl _ _ _⟩ ?_
  · rintro ⟨i,pos,S⟩ ⟨hi1,hi2,hi3,hi4,hi5⟩ again
    simp only at hi1 hi2 hi3 hi4 hi5
    have hSl:=hi5.len
    rcases Nat.lt_or_ge i vs.length with hlt | hge
    · obtain ⟨x,hx⟩:∃ x,vs[i]? = some x:=⟨vs[i],by simp [hlt]⟩
      obtain ⟨T,hT,rfl⟩:=hbv x (h1 x (List.mem_of_getElem? hx))
      have hlt2:i<va.length:=by omega
      obtain ⟨bb,hb1,hb2,hb3⟩:=bitB hβ hT
      cases bb with
      | false =>
        refine drvL Tryz.func31 ?_
        simp only [go_sem,rdr,hlt,hlt2]
        iterate 5 ((try (refine drvZ Tryz.func31 ?_;simp only [go_sem,rdr,hlt,hlt2,hx,hb2,hb3]));((with_reducible and_intros)<;>try exact sd))
        refine again (i+1,pos,S) some [] _ ⟨hlt,hi2,(show pos≤n+(i+1) by omega),hi4,hi5⟩ (show vs.length - (i+1)<vs.length - i by omega) ?_
        simp only [go_sem,TmOK,DM,DMs,CM,CMs,forall_eq,exists_eq_left,Mq,HpOK,LowOK,rdr]
        simp [CMs_I,CMs_hdr,CMs_b0,CMs_b1,upd]
      | true =>
        refine drvL Tryz.func31 ?_
        simp only [go_sem,rdr,hlt,hlt2]
        iterate 5 ((try (refine drvZ Tryz.func31 ?_;simp only [go_sem,rdr,hlt,hlt2,hx,hb2,hb3]));((with_reducible and_intros)<;>try exact sd))
        refine XK.callG [0] (hval pos (by omega)) ok87 (hhp_one rfl) (hbT ()) (fun d h' ⟨_,_,_,_,_,_,e⟩=>by subst e;simp) ?_ (fun _=>⟨by kernel_rfl,_,_,⟨0,rfl,by omega,pos,by omega,by omega,rfl⟩,by simp⟩)
        rintro _ _ ⟨v,rfl,hv,pos',hp1,hp3,rfl⟩ _
        iterate 5 ((try (refine drvZ Tryz.func31 ?_;simp only [go_sem,rdr,hlt,hlt2]));((with_reducible and_intros)<;>try exact sd))
        refine again (i+1,pos',S.set i v) some [] _ ⟨hlt,(show n≤pos' by omega),(show pos'≤n+(i+1) by omega),rng_set hi4 hv,hi5.set hx (by simpa using hb1) v⟩ (show vs.length - (i+1)<vs.length - i by omega) ?_
        simp only [go_sem,TmOK,DM,DMs,CM,CMs,forall_eq,exists_eq_left,Mq,HpOK,LowOK,rdr]
        simp [CMs_I,CMs_hdr,CMs_b0,CMs_b1,upd]
        try exact CMs.kf (by rw [← List.map_set];exact kf_I _)
    · have hn1:¬ i<va.length:=by omega
      have hn2:¬ i<vs.length:=by omega
      have z00:((0:Int)<0)=False:=eq_false (by omega)
      have z01:((0:Int)<1)=True:=eq_true (by omega)
      have z02:((0:Int)<2)=True:=eq_true (by omega)
      have z12:((1:Int)<2)=True:=eq_true (by omega)
      have z11:((1:Int)<1)=False:=eq_false (by omega)
      have z22:((2:Int)<2)=False:=eq_false (by omega)
      clear again
      have fin:∀ (A:List (List Int)) (ps:Nat) (hp:Hp),A.length=arr.length→pos≤ps→ps≤pos+8→LowV β ar arr A→(∀ a ∈ A,a.length=4∧∀ y ∈ a,0≤y∧y≤255)→hp 0=some (some (rdr bs ps))→hp 257=some (some (S.map I64))→hp 258=some (some (hdr 259 260 arr.length))→hp 259=some (some (blk0 A))→hp 260=some (some (blk1 A)) →
          RetOb 1 R (.agg [.msl 257 1 0 va.length,.msl 258 1 0 arr.length]) hp:=fun A ps hp e1 e2 e3 e4 e5 g0 g1 g2 g3 g4 =>
        RetOb.memK (m:=⟨S,A⟩) (k2:=259) (k3:=260) (by simp only;omega) (by
          rw [← hR]
          exact ⟨⟨S,A⟩,rfl,⟨by simp only;omega,by simp only;omega,hnv12,hna2,hi4,e5⟩,⟨by simp only;omega,by simp only;omega,hi5.eq,e4.eq⟩,ps,by omega,by omega,rfl⟩) (rdr_kf bs ps) g0 g1 (by rw [g2,← e1,hdr_hdA _ _ _ (by omega) (fun a h=>(e5 a h).1)]) g3 g4 (by simp only;omega) (by simp only;omega) (by decide)
      refine drvL Tryz.func31 ?_
      simp only [go_sem,rdr,hn1,hn2]
      iterate 3 ((try (refine drvZ Tryz.func31 ?_;simp only [go_sem,rdr,hn1,hn2]));((with_reducible and_intros)<;>try exact sd))
      rcases arr with _ | ⟨a,_ | ⟨b,_ | ⟨c,r⟩⟩⟩<;>rcases ar with _ | ⟨l,_ | ⟨l',_ | ⟨l3,r2⟩⟩⟩<;>simp only [List.length_cons,List.length_nil] at hna hna2<;>(try (exfalso;omega))
      · refine Go.loop ?_
        refine drvL Tryz.func31 ?_
        simp only [go_sem,rdr,List.getElem?_cons_zero,List.getElem?_cons_succ,Int.natCast_zero,z01,z02,z12,z11,z22,z00]
        iterate 3 ((try (refine drvZ Tryz.func31 ?_;simp only [go_sem,rdr,List.getElem?_cons_zero,List.getElem?_cons_succ,Int.natCast_zero,z01,z02,z12,z11,z22,z00]));((with_reducible and_intros)<;>try exact sd))
        exact fin [] pos _ rfl (by omega) (by omega) (.refl _ _ _) (by simp) rfl rfl rfl rfl rfl
      · obtain ⟨T0,hT0,rfl⟩:=hbv l (h2 l (by simp))
        have hT0x:([((T0:Nat):Int)]:List Int)[0]? = some (T0:Int):=rfl
        have h4a:=har a (by simp)
        have hb0:blk0 [a]=a.map I64:=rfl
        have hb1:blk1 [a]=[]:=rfl
        have hh1:hdr 259 260 1=[.msl 259 1 0 4]:=rfl
        obtain ⟨pos0,hpos0⟩:∃ p,p=pos:=⟨pos,rfl⟩
        subst hpos0
        refine Go.loop ?_
        refine drvL Tryz.func31 ?_
        simp only [go_sem,rdr,hb0,hb1,hh1,List.getElem?_cons_zero,List.getElem?_cons_succ,Int.natCast_zero,z01,z02,z12,z11,z22,z00]
        iterate 3 ((try (refine drvZ Tryz.func31 ?_;simp only [go_sem,rdr,hb0,hb1,hh1,List.getElem?_cons_zero,List.getElem?_cons_succ,Int.natCast_zero,z01,z02,z12,z11,z22,z00]));((with_reducible and_intros)<;>try exact sd))
        refine Go.loopQ (fun x : Nat × Nat × List Int => [(0, .c (.ptr 0 0)), (3, DI .i64 bit), (5, .c (.ptr 1 0)), (8, .c (.ptr 129 0)), (9, .c (.ptr 321 0)), (11, DI .i64 0), (12, DI .i64 x.1)])
          (fun x=>[(0,some (rdr bs x.2.1)),(1,some (Pg.cells ⟨vs,[(T0:Int)],bd⟩)),(129,some [.v (.slice none 0 0),.v (.slice none 0 0)]),(257,some (S.map I64)),(258,some ([.msl 259 1 0 4])),(259,some (x.2.2.map I64)),(260,some ([])),(321,some [.msl 257 1 0 va.length,.msl 258 1 0 1])])
          8192 (fun x=>x.1≤4∧pos0≤x.2.1∧x.2.1≤pos0+x.1∧x.2.2.length=4∧(∀ y ∈ x.2.2,0≤y∧y≤255)∧(T0.testBit β=false→x.2.2=a)) (fun x=>4 - x.1) ?_ (0,pos0,a) some [] _ ⟨Nat.zero_le _,Nat.le_refl _,Nat.le_refl _,h4a.1,h4a.2,fun _=>rfl⟩ ?_
        · rintro ⟨k,ps,c⟩ ⟨hk1,hk2,hk3,hk4,hk5,hk6⟩ again
          simp only at hk1 hk2 hk3 hk4 hk5 hk6
          rcases Nat.lt_or_ge k 4 with hlt | hge
          · have hz:((k:Int)<4)=True:=eq_true (by omega)
            obtain ⟨bb,hb1,hb2,hb3⟩:=bitB hβ hT0
            cases bb with
            | false =>
              refine drvL Tryz.func31 ?_
              simp only [go_sem,rdr,hz,List.getElem?_cons_zero,List.getElem?_cons_succ,Int.natCast_zero,z01,z02,z12,z11,z22,z00]
              iterate 5 ((try (refine drvZ Tryz.func31 ?_;simp only [go_sem,rdr,hz,hT0x,hb2,hb3,List.getElem?_cons_zero,List.getElem?_cons_succ,Int.natCast_zero,z01,z02,z12,z11,z22,z00]));((with_reducible and_intros)<;>try exact sd))
              refine again (k+1,ps,c) some [] _ ⟨hlt,hk2,(show ps≤pos0+(k+1) by omega),hk4,hk5,hk6⟩ (show 4 - (k+1)<4 - k by omega) ?_
              simp only [go_sem,TmOK,DM,DMs,CM,CMs,forall_eq,exists_eq_left,Mq,HpOK,LowOK,rdr]
              simp [CMs_I,CMs_hdr,CMs_b0,CMs_b1,upd]
            | true =>
              refine drvL Tryz.func31 ?_
              simp only [go_sem,rdr,hz,List.getElem?_cons_zero,List.getElem?_cons_succ,Int.natCast_zero,z01,z02,z12,z11,z22,z00]
              iterate 5 ((try (refine drvZ Tryz.func31 ?_;simp only [go_sem,rdr,hz,hT0x,hb2,hb3,List.getElem?_cons_zero,List.getElem?_cons_succ,Int.natCast_zero,z01,z02,z12,z11,z22,z00]));((with_reducible and_intros)<;>try exact sd))
              refine XK.callG [0] (hval ps (by omega)) ok87 (hhp_one rfl) (hbT ()) (fun d h' ⟨_,_,_,_,_,_,e⟩=>by subst e;simp) ?_ (fun _=>⟨by kernel_rfl,_,_,⟨0,rfl,by omega,ps,by omega,by omega,rfl⟩,by simp⟩)
              rintro _ _ ⟨v,rfl,hv,ps',hp1,hp3,rfl⟩ _
              iterate 5 ((try (refine drvZ Tryz.func31 ?_;simp only [go_sem,rdr,hz,List.getElem?_cons_zero,List.getElem?_cons_succ,Int.natCast_zero,z01,z02,z12,z11,z22,z00,hk4]));((with_reducible and_intros)<;>try exact sd))
              refine again (k+1,ps',c.set k v) some [] _ ⟨hlt,(show pos0≤ps' by omega),(show ps'≤pos0+(k+1) by omega),by rw [List.length_set];exact hk4,rng_set hk5 hv,fun h=>by rw [hb1] at h;cases h⟩ (show 4 - (k+1)<4 - k by omega) ?_
              simp only [go_sem,TmOK,DM,DMs,CM,CMs,forall_eq,exists_eq_left,Mq,HpOK,LowOK,rdr]
              simp [CMs_I,CMs_hdr,CMs_b0,CMs_b1,upd]
              try exact CMs.kf (by rw [← List.map_set];exact kf_I _)
          · have hz:((k:Int)<4)=False:=eq_false (by omega)
            clear again
            refine drvL Tryz.func31 ?_
            simp only [go_sem,rdr,hz,List.getElem?_cons_zero,List.getElem?_cons_succ,Int.natCast_zero,z01,z02,z12,z11,z22,z00]
            iterate 3 ((try (refine drvZ Tryz.func31 ?_;simp only [go_sem,rdr,hz,List.getElem?_cons_zero,List.getElem?_cons_succ,Int.natCast_zero,z01,z02,z12,z11,z22,z00]));((with_reducible and_intros)<;>try exact sd))
            refine Go.inLoop ?_
            refine drvL Tryz.func31 ?_
            simp only [go_sem,rdr,List.getElem?_cons_zero,List.getElem?_cons_succ,Int.natCast_zero,z01,z02,z12,z11,z22,z00]
            iterate 3 ((try (refine drvZ Tryz.func31 ?_;simp only [go_sem,rdr,List.getElem?_cons_zero,List.getElem?_cons_succ,Int.natCast_zero,z01,z02,z12,z11,z22,z00]));((with_reducible and_intros)<;>try exact sd))
            exact fin [c] ps _ (by simp) (by omega) (by omega) ⟨rfl,fun j x hj hf=>by
              match j,hj with
              | 0,hj=>simp only [List.getElem?_cons_zero,Option.some.injEq] at hj;subst hj;simp [hk6 (by simpa using hf)]
              | j+1,hj=>simp at hj⟩ (by simpa using ⟨hk4,hk5⟩) rfl rfl rfl rfl rfl
        · simp only [go_sem,TmOK,DM,DMs,CM,CMs,forall_eq,exists_eq_left,Mq,HpOK,LowOK,rdr]
          simp [CMs_I,CMs_hdr,CMs_b0,CMs_b1,upd]
      · obtain ⟨T0,hT0,rfl⟩:=hbv l (h2 l (by simp))
        obtain ⟨T1,hT1,rfl⟩:=hbv l' (h2 l' (by simp))
        have hT0x:([((T0:Nat):Int),((T1:Nat):Int)]:List Int)[0]? = some (T0:Int):=rfl
        have hT1x:([((T0:Nat):Int),((T1:Nat):Int)]:List Int)[1]? = some (T1:Int):=rfl
        have h4a:=har a (by simp)
        have h4b:=har b (by simp)
        have hb0:blk0 [a,b]=a.map I64:=rfl
        have hb1:blk1 [a,b]=b.map I64:=rfl
        have hh1:hdr 259 260 2=[.msl 259 1 0 4,.msl 260 1 0 4]:=rfl
        obtain ⟨pos0,hpos0⟩:∃ p,p=pos:=⟨pos,rfl⟩
        subst hpos0
        refine Go.loop ?_
        refine drvL Tryz.func31 ?_
        simp only [go_sem,rdr,hb0,hb1,hh1,List.getElem?_cons_zero,List.getElem?_cons_succ,Int.natCast_zero,z01,z02,z12,z11,z22,z00]
        iterate 3 ((try (refine drvZ Tryz.func31 ?_;simp only [go_sem,rdr,hb0,hb1,hh1,List.getElem?_cons_zero,List.getElem?_cons_succ,Int.natCast_zero,z01,z02,z12,z11,z22,z00]));((with_reducible and_intros)<;>try exact sd))
        refine Go.loopQ (fun x : Nat × Nat × List Int => [(0, .c (.ptr 0 0)), (3, DI .i64 bit), (5, .c (.ptr 1 0)), (8, .c (.ptr 129 0)), (9, .c (.ptr 321 0)), (11, DI .i64 0), (12, DI .i64 x.1)])
          (fun x=>[(0,some (rdr bs x.2.1)),(1,some (Pg.cells ⟨vs,[(T0:Int),(T1:Int)],bd⟩)),(129,some [.v (.slice none 0 0),.v (.slice none 0 0)]),(257,some (S.map I64)),(258,some ([.msl 259 1 0 4,.msl 260 1 0 4])),(259,some (x.2.2.map I64)),(260,some (b.map I64)),(321,some [.msl 257 1 0 va.length,.msl 258 1 0 2])])
          8192 (fun x=>x.1≤4∧pos0≤x.2.1∧x.2.1≤pos0+x.1∧x.2.2.length=4∧(∀ y ∈ x.2.2,0≤y∧y≤255)∧(T0.testBit β=false→x.2.2=a)) (fun x=>4 - x.1) ?_ (0,pos0,a) some [] _ ⟨Nat.zero_le _,Nat.le_refl _,Nat.le_refl _,h4a.1,h4a.2,fun _=>rfl⟩ ?_
        · rintro ⟨k,ps,c⟩ ⟨hk1,hk2,hk3,hk4,hk5,hk6⟩ again
          simp only at hk1 hk2 hk3 hk4 hk5 hk6
          rcases Nat.lt_or_ge k 4 with hlt | hge
          · have hz:((k:Int)<4)=True:=eq_true (by omega)
            obtain ⟨bb,hb1,hb2,hb3⟩:=bitB hβ hT0
            cases bb with
            | false =>
              refine drvL Tryz.func31 ?_
              simp only [go_sem,rdr,hz,List.getElem?_cons_zero,List.getElem?_cons_succ,Int.natCast_zero,z01,z02,z12,z11,z22,z00]
              iterate 5 ((try (refine drvZ Tryz.func31 ?_;simp only [go_sem,rdr,hz,hT0x,hb2,hb3,List.getElem?_cons_zero,List.getElem?_cons_succ,Int.natCast_zero,z01,z02,z12,z11,z22,z00]));((with_reducible and_intros)<;>try exact sd))
              refine again (k+1,ps,c) some [] _ ⟨hlt,hk2,(show ps≤pos0+(k+1) by omega),hk4,hk5,hk6⟩ (show 4 - (k+1)<4 - k by omega) ?_
              simp only [go_sem,TmOK,DM,DMs,CM,CMs,forall_eq,exists_eq_left,Mq,HpOK,LowOK,rdr]
              simp [CMs_I,CMs_hdr,CMs_b0,CMs_b1,upd]
            | true =>
              refine drvL Tryz.func31 ?_
              simp only [go_sem,rdr,hz,List.getElem?_cons_zero,List.getElem?_cons_succ,Int.natCast_zero,z01,z02,z12,z11,z22,z00]
              iterate 5 ((try (refine drvZ Tryz.func31 ?_;simp only [go_sem,rdr,hz,hT0x,hb2,hb3,List.getElem?_cons_zero,List.getElem?_cons_succ,Int.natCast_zero,z01,z02,z12,z11,z22,z00]));((with_reducible and_intros)<;>try exact sd))
              refine XK.callG [0] (hval ps (by omega)) ok87 (hhp_one rfl) (hbT ()) (fun d h' ⟨_,_,_,_,_,_,e⟩=>by subst e;simp) ?_ (fun _=>⟨by kernel_rfl,_,_,⟨0,rfl,by omega,ps,by omega,by omega,rfl⟩,by simp⟩)
              rintro _ _ ⟨v,rfl,hv,ps',hp1,hp3,rfl⟩ _
              iterate 5 ((try (refine drvZ Tryz.func31 ?_;simp only [go_sem,rdr,hz,List.getElem?_cons_zero,List.getElem?_cons_succ,Int.natCast_zero,z01,z02,z12,z11,z22,z00,hk4]));((with_reducible and_intros)<;>try exact sd))
              refine again (k+1,ps',c.set k v) some [] _ ⟨hlt,(show pos0≤ps' by omega),(show ps'≤pos0+(k+1) by omega),by rw [List.length_set];exact hk4,rng_set hk5 hv,fun h=>by rw [hb1] at h;cases h⟩ (show 4 - (k+1)<4 - k by omega) ?_
              simp only [go_sem,TmOK,DM,DMs,CM,CMs,forall_eq,exists_eq_left,Mq,HpOK,LowOK,rdr]
              simp [CMs_I,CMs_hdr,CMs_b0,CMs_b1,upd]
              try exact CMs.kf (by rw [← List.map_set];exact kf_I _)
          · have hz:((k:Int)<4)=False:=eq_false (by omega)
            clear again
            refine drvL Tryz.func31 ?_
            simp only [go_sem,rdr,hz,List.getElem?_cons_zero,List.getElem?_cons_succ,Int.natCast_zero,z01,z02,z12,z11,z22,z00]
            iterate 3 ((try (refine drvZ Tryz.func31 ?_;simp only [go_sem,rdr,hz,List.getElem?_cons_zero,List.getElem?_cons_succ,Int.natCast_zero,z01,z02,z12,z11,z22,z00]));((with_reducible and_intros)<;>try exact sd))
            obtain ⟨A0,hA⟩:∃ A0,A0=c:=⟨c,rfl⟩
            rw [← hA] at hk4 hk5 hk6 ⊢
            obtain ⟨pos1,hps⟩:∃ p,p=ps:=⟨ps,rfl⟩
            rw [← hps] at hk2 hk3 ⊢
            have h4A:A0.length=4∧∀ y ∈ A0,0≤y∧y≤255:=⟨hk4,hk5⟩
            have hA0:=hk6
            have hq1:pos0≤pos1:=hk2
            have hq2:pos1≤pos0+4:=by omega
            clear hk1 hk2 hk3 hk4 hk5 hk6 hz hge hA hps
            refine Go.inLoop ?_
            refine drvL Tryz.func31 ?_
            simp only [go_sem,rdr,List.getElem?_cons_zero,List.getElem?_cons_succ,Int.natCast_zero,z01,z02,z12,z11,z22,z00]
            iterate 3 ((try (refine drvZ Tryz.func31 ?_;simp only [go_sem,rdr,List.getElem?_cons_zero,List.getElem?_cons_succ,Int.natCast_zero,z01,z02,z12,z11,z22,z00]));((with_reducible and_intros)<;>try exact sd))
            refine Go.loopQ (fun x : Nat × Nat × List Int => [(0, .c (.ptr 0 0)), (3, DI .i64 bit), (5, .c (.ptr 1 0)), (8, .c (.ptr 129 0)), (9, .c (.ptr 321 0)), (11, DI .i64 1), (12, DI .i64 x.1)])
              (fun x=>[(0,some (rdr bs x.2.1)),(1,some (Pg.cells ⟨vs,[(T0:Int),(T1:Int)],bd⟩)),(129,some [.v (.slice none 0 0),.v (.slice none 0 0)]),(257,some (S.map I64)),(258,some ([.msl 259 1 0 4,.msl 260 1 0 4])),(259,some (A0.map I64)),(260,some (x.2.2.map I64)),(321,some [.msl 257 1 0 va.length,.msl 258 1 0 2])])
              12288 (fun x=>x.1≤4∧pos1≤x.2.1∧x.2.1≤pos1+x.1∧x.2.2.length=4∧(∀ y ∈ x.2.2,0≤y∧y≤255)∧(T1.testBit β=false→x.2.2=b)) (fun x=>4 - x.1) ?_ (0,pos1,b) some [] _ ⟨Nat.zero_le _,Nat.le_refl _,Nat.le_refl _,h4b.1,h4b.2,fun _=>rfl⟩ ?_
            · rintro ⟨k,ps,c⟩ ⟨hk1,hk2,hk3,hk4,hk5,hk6⟩ again
              simp only at hk1 hk2 hk3 hk4 hk5 hk6
              rcases Nat.lt_or_ge k 4 with hlt | hge
              · have hz:((k:Int)<4)=True:=eq_true (by omega)
                obtain ⟨bb,hb1,hb2,hb3⟩:=bitB hβ hT1
                cases bb with
                | false =>
                  refine drvL Tryz.func31 ?_
                  simp only [go_sem,rdr,hz,List.getElem?_cons_zero,List.getElem?_cons_succ,Int.natCast_zero,z01,z02,z12,z11,z22,z00]
                  iterate 5 ((try (refine drvZ Tryz.func31 ?_;simp only [go_sem,rdr,hz,hT1x,hb2,hb3,List.getElem?_cons_zero,List.getElem?_cons_succ,Int.natCast_zero,z01,z02,z12,z11,z22,z00]));((with_reducible and_intros)<;>try exact sd))
                  refine again (k+1,ps,c) some [] _ ⟨hlt,hk2,(show ps≤pos1+(k+1) by omega),hk4,hk5,hk6⟩ (show 4 - (k+1)<4 - k by omega) ?_
                  simp only [go_sem,TmOK,DM,DMs,CM,CMs,forall_eq,exists_eq_left,Mq,HpOK,LowOK,rdr]
                  simp [CMs_I,CMs_hdr,CMs_b0,CMs_b1,upd]
                | true =>
                  refine drvL Tryz.func31 ?_
                  simp only [go_sem,rdr,hz,List.getElem?_cons_zero,List.getElem?_cons_succ,Int.natCast_zero,z01,z02,z12,z11,z22,z00]
                  iterate 5 ((try (refine drvZ Tryz.func31 ?_;simp only [go_sem,rdr,hz,hT1x,hb2,hb3,List.getElem?_cons_zero,List.getElem?_cons_succ,Int.natCast_zero,z01,z02,z12,z11,z22,z00]));((with_reducible and_intros)<;>try exact sd))
                  refine XK.callG [0] (hval ps (by omega)) ok87 (hhp_one rfl) (hbT ()) (fun d h' ⟨_,_,_,_,_,_,e⟩=>by subst e;simp) ?_ (fun _=>⟨by kernel_rfl,_,_,⟨0,rfl,by omega,ps,by omega,by omega,rfl⟩,by simp⟩)
                  rintro _ _ ⟨v,rfl,hv,ps',hp1,hp3,rfl⟩ _
                  iterate 5 ((try (refine drvZ Tryz.func31 ?_;simp only [go_sem,rdr,hz,List.getElem?_cons_zero,List.getElem?_cons_succ,Int.natCast_zero,z01,z02,z12,z11,z22,z00,hk4]));((with_reducible and_intros)<;>try exact sd))
                  refine again (k+1,ps',c.set k v) some [] _ ⟨hlt,(show pos1≤ps' by omega),(show ps'≤pos1+(k+1) by omega),by rw [List.length_set];exact hk4,rng_set hk5 hv,fun h=>by rw [hb1] at h;cases h⟩ (show 4 - (k+1)<4 - k by omega) ?_
                  simp only [go_sem,TmOK,DM,DMs,CM,CMs,forall_eq,exists_eq_left,Mq,HpOK,LowOK,rdr]
                  simp [CMs_I,CMs_hdr,CMs_b0,CMs_b1,upd]
                  try exact CMs.kf (by rw [← List.map_set];exact kf_I _)
              · have hz:((k:Int)<4)=False:=eq_false (by omega)
                clear again
                refine drvL Tryz.func31 ?_
                simp only [go_sem,rdr,hz,List.getElem?_cons_zero,List.getElem?_cons_succ,Int.natCast_zero,z01,z02,z12,z11,z22,z00]
                iterate 3 ((try (refine drvZ Tryz.func31 ?_;simp only [go_sem,rdr,hz,List.getElem?_cons_zero,List.getElem?_cons_succ,Int.natCast_zero,z01,z02,z12,z11,z22,z00]));((with_reducible and_intros)<;>try exact sd))
                refine Go.inLoop ?_
                refine drvL Tryz.func31 ?_
                simp only [go_sem,rdr,List.getElem?_cons_zero,List.getElem?_cons_succ,Int.natCast_zero,z01,z02,z12,z11,z22,z00]
                iterate 3 ((try (refine drvZ Tryz.func31 ?_;simp only [go_sem,rdr,List.getElem?_cons_zero,List.getElem?_cons_succ,Int.natCast_zero,z01,z02,z12,z11,z22,z00]));((with_reducible and_intros)<;>try exact sd))
                exact fin [A0,c] ps _ rfl (by omega) (by omega) ⟨rfl,fun j x hj hf=>by
                  match j,hj with
                  | 0,hj=>simp only [List.getElem?_cons_zero,Option.some.injEq] at hj;subst hj;simp [hA0 (by simpa using hf)]
                  | 1,hj=>simp only [List.getElem?_cons_zero,List.getElem?_cons_succ,Option.some.injEq] at hj;subst hj;simp [hk6 (by simpa using hf)]
                  | j+2,hj=>simp at hj⟩ (by simp only [List.mem_cons,List.not_mem_nil,or_false,forall_eq_or_imp,forall_eq];exact ⟨h4A,hk4,hk5⟩) rfl rfl rfl rfl rfl
            · simp only [go_sem,TmOK,DM,DMs,CM,CMs,forall_eq,exists_eq_left,Mq,HpOK,LowOK,rdr]
              simp [CMs_I,CMs_hdr,CMs_b0,CMs_b1,upd]
        · simp only [go_sem,TmOK,DM,DMs,CM,CMs,forall_eq,exists_eq_left,Mq,HpOK,LowOK,rdr]
          simp [CMs_I,CMs_hdr,CMs_b0,CMs_b1,upd]
  · simp only [go_sem,TmOK,DM,DMs,CM,CMs,forall_eq,exists_eq_left,Mq,HpOK,LowOK,rdr]
    simp [CMs_I,CMs_hdr,CMs_b0,CMs_b1,upd]
def trR (β:Nat) (r:D) (h:List (Option (List C))):Prop:=∃ (p:Pg) (m m':Mm),r = .tup [.agg p.cells,.agg m.cells,.agg m'.cells]∧DrP p∧MemFits p m∧MemFits p m'∧LowM β p m m'∧h=[]
end Go.Proofs.YtbknljofedfpjaaGreat.CtD
namespace Go.Proofs.YtbknljofedfpjaaGreat.CtR
variable [Go.CT.Yn]
open Go Go.CT CtF
open Go Go.CT CtF
end Go.Proofs.YtbknljofedfpjaaGreat.CtR
namespace Go.Proofs.YtbknljofedfpjaaGreat.CtD
open Go Go.CT CtF CtR
variable [Yn]
theorem boolsKeep {hp:Hp} {k w:Nat} {L:List Bool} (hk:hp k=some (some (boolsC L))) (hw:L.length=w):RetOb 0 (fun r h=>r = .c (.msl 0 1 0 w)∧h=[some (boolsC L)]) (.c (.msl k 1 0 w)) hp:=by
  refine RetOb.ofQ (fun j=>if j=0 then some k else none) [] _ [some (boolsC L)] ?_ ⟨rfl,rfl⟩ (by simp)
  have e4:∀ {hT hS:Hp} {r:Nat→Option Nat} {fz:List Nat},CMs hT r hS fz (boolsC L) (boolsC L)=True:=eq_true (CMs.kf (boolsC_kf _))
  simp [enumL,DM,DMs,CM,CMs,HpOK,LowOK,hOf,upd,hk,e4]
end Go.Proofs.YtbknljofedfpjaaGreat.CtD
namespace Go.Proofs.YtbknljofedfpjaaGreat.CtR
variable [Go.CT.Yn]
open Go Go.CT CtF
end Go.Proofs.YtbknljofedfpjaaGreat.CtR
namespace Go.Proofs.YtbknljofedfpjaaGreat.CtL
variable [Go.CT.Yn]
open Go Go.CT CtF CtR
def e0:Ex := .mk 0 0 []
theorem shape_of {p:Pg} {d:Nat} {k v:Int} {ks:List Ex} (h1:fitsE p k v ks.length=true) (h2:∀ x ∈ ks,CtR.shape p d x=true) (h3:k=3→headAtom ks=true):CtR.shape p (d+1) (.mk k v ks)=true:=by
  simp only [CtR.shape,Bool.and_eq_true,List.all_eq_true,Bool.or_eq_true]
  refine ⟨⟨h1,h2⟩,?_⟩
  by_cases hk:k=3
  · exact .inr (h3 hk)
  · exact .inl (by simpa using hk)
theorem read_kid {p:Pg} {d:Nat} {v:Int} {ks:List Ex} (h:CtR.shape p (d+1) (.mk 3 v ks)=true):∃ a,ks=[a]∧CtR.shape p d a=true∧atom a=true∧0≤v∧v<p.arrays.length:=by
  obtain ⟨g1,g2,g3⟩:=shape_succ h
  obtain ⟨_,b,c,e⟩:=fits_len g1
  have g3:=g3 rfl
  match ks,b,g2,g3 with
  | [a],_,g2,g3=>exact ⟨a,rfl,g2 a (by simp),g3,c,by simpa [limit] using e⟩
  | [],b,_,_=>simp [arity] at b
  | _ :: _ :: r,b,_,_=>simp [arity] at b;omega
theorem atom_mk {p:Pg} {d:Nat} {a:Ex} (hs:CtR.shape p d a=true) (ha:atom a=true):∃ k v,a = .mk k v []∧(k=1∧0≤v∧v≤255∨k=2∧0≤v∧v<p.vars.length):=by
  match d,a,hs with
  | 0,_,hs=>simp [CtR.shape] at hs
  | d+1,.mk k v ks,hs =>
    obtain ⟨g1,g2,g3⟩:=shape_succ hs
    obtain ⟨_,b,c,e⟩:=fits_len g1
    have hk:k=1∨k=2:=by simpa [atom,Ex.kind] using ha
    refine ⟨k,v,?_,?_⟩
    · have:ks.length=0:=by rcases hk with rfl | rfl<;>simp [arity] at b<;>simpa using b
      rw [List.length_eq_zero_iff.1 this]
    · rcases hk with rfl | rfl
      · exact .inl ⟨rfl,c,by simp [limit] at e;omega⟩
      · exact .inr ⟨rfl,c,by simpa [limit] using e⟩
open Go Go.CT CtF CtR
theorem shape_form {p : Pg} {d : Nat} {k v : Int} {ks : List Ex} (h : CtR.shape p (d + 1) (.mk k v ks) = true) :
    ((k=1∧0≤v∧v<256∨k=2)∧ks=[])∨(∃ a,k=3∧ks=[a]∧CtR.shape p d a=true∧atom a=true)∨(∃ a b,4≤k∧k≤10∧ks=[a,b]∧CtR.shape p d a=true∧CtR.shape p d b=true)
    ∨ (∃ a b c,k=11∧ks=[a,b,c]∧CtR.shape p d a=true∧CtR.shape p d b=true∧CtR.shape p d c=true):=by
  obtain ⟨g1,g2,g3⟩:=shape_succ h
  obtain ⟨_,b,c,e⟩:=fits_len g1
  by_cases k1:k=1∨k=2
  · left
    have:ks.length=0:=by rcases k1 with rfl | rfl<;>simp [arity] at b<;>simpa using b
    refine ⟨?_,List.length_eq_zero_iff.1 this⟩
    rcases k1 with rfl | rfl
    · exact .inl ⟨rfl,c,by simpa [limit] using e⟩
    · exact .inr rfl
  by_cases k3:k=3
  · subst k3
    obtain ⟨a,h1,h2,h3,_⟩:=read_kid h
    exact .inr (.inl ⟨a,rfl,h1,h2,h3⟩)
  by_cases k4:4≤k∧k≤10
  · have:ks.length=2:=by
      have:arity k=2:=by unfold arity;rw [if_neg k1,if_neg k3,if_pos k4]
      omega
    match ks,this with
    | [x,y],_=>exact .inr (.inr (.inl ⟨x,y,k4.1,k4.2,rfl,g2 x (by simp),g2 y (by simp)⟩))
  by_cases k11:k=11
  · subst k11
    have:ks.length=3:=by simp [arity] at b;omega
    match ks,this with
    | [x,y,z],_=>exact .inr (.inr (.inr ⟨x,y,z,rfl,rfl,g2 x (by simp),g2 y (by simp),g2 z (by simp)⟩))
  · have:arity k = -1:=by unfold arity;rw [if_neg k1,if_neg k3,if_neg k4,if_neg k11]
    omega
open Go Go.CT CtF CtR
open Go Go.CT CtF CtR
def Ext (p:Pg) (vs:List Int):Prop:=∃ w,vs=p.vars++w
theorem Ext.more {p:Pg} {vs ws:List Int} (h:Ext p vs) (h2:∃ w,ws=vs++w):Ext p ws:=by
  obtain ⟨a,rfl⟩:=h
  obtain ⟨b,rfl⟩:=h2
  exact ⟨a++b,by simp⟩
theorem Ext.le {p:Pg} {vs:List Int} (h:Ext p vs):p.vars.length≤vs.length:=by
  obtain ⟨a,rfl⟩:=h
  simp
open Go Go.CT CtF CtR
open Go Go.CT CtF CtR
def Sub (a b:Nat):Prop:=∀ β,a.testBit β=true→b.testBit β=true
theorem Sub.refl (a:Nat):Sub a a:=fun _ h=>h
theorem Sub.trans {a b c:Nat} (h:Sub a b) (g:Sub b c):Sub a c:=fun β x=>g β (h β x)
theorem Sub.zero (a:Nat):Sub 0 a:=fun β h=>by simp at h
theorem Sub.or {a b c:Nat}:Sub (a ||| b) c ↔ Sub a c∧Sub b c:=by
  constructor
  · exact fun h=>⟨fun β x=>h β (by simp [x]),fun β x=>h β (by simp [x])⟩
  · rintro ⟨h1,h2⟩ β x
    rw [Nat.testBit_or,Bool.or_eq_true] at x
    exact x.elim (h1 β) (h2 β)
theorem Sub.left (a b:Nat):Sub a (a ||| b):=fun β h=>by simp [h]
theorem Sub.right (a b:Nat):Sub b (a ||| b):=fun β h=>by simp [h]
theorem Sub.l {a b c:Nat} (h:Sub a b):Sub a (b ||| c):=h.trans (Sub.left _ _)
theorem Sub.r {a b c:Nat} (h:Sub a c):Sub a (b ||| c):=h.trans (Sub.right _ _)
open Go Go.CT CtF CtR
open Go Go.CT CtF CtR
theorem none0_e0 {e:Ex} (h:none0 e=true):e=e0:=by
  obtain ⟨k,v,ks⟩:=e
  simp only [none0,Ex.kind,Ex.value,Ex.kids,Bool.and_eq_true,beq_iff_eq,List.isEmpty_iff] at h
  obtain ⟨⟨rfl,rfl⟩,rfl⟩:=h
  rfl
theorem head_parts {p : Pg} {k t : Int} {ix v : Ex} {c : Int} {b e : List St1} (h : headOK p k t ix v c b.length e.length = true) :
    (k=4→e=[]∧ix=e0∧v=e0)∧(k ≠ 4→c=0∧(k ≠ 2→ix=e0))∧(k ≠ 3→k ≠ 4→b=[]∧e=[])∧(k=3∨k=4→t=0):=by
  simp only [headOK,parts,blk,Bool.and_eq_true] at h
  obtain ⟨⟨h1,h2⟩,_⟩:=h
  refine ⟨fun hk=>?_,fun hk=>?_,fun h3 h4=>?_,fun hk=>?_⟩
  · rw [if_pos hk] at h2
    simp only [Bool.and_eq_true,beq_iff_eq] at h2
    exact ⟨List.length_eq_zero_iff.1 (by omega),none0_e0 h2.1.2,none0_e0 h2.2⟩
  · rw [if_neg hk] at h2
    simp only [Bool.and_eq_true,beq_iff_eq,Bool.or_eq_true] at h2
    exact ⟨h2.1,fun h=>none0_e0 (h2.2.resolve_left h)⟩
  · have e1:(k == 3)=false:=by simpa using h3
    have e2:(k == 4)=false:=by simpa using h4
    have:b.length=0∧e.length=0:=by
      cases b<;>cases e<;>simp_all
    exact ⟨List.length_eq_zero_iff.1 this.1,List.length_eq_zero_iff.1 this.2⟩
  · have:(k == 3 || k == 4)=true:=by rcases hk with rfl | rfl<;>rfl
    rw [this] at h1
    simpa using h1
open Go Go.CT CtF CtR
def extM (n:Nat) (m:Mm):Mm:=⟨m.vals++List.replicate (n - m.vals.length) 0,m.arrays⟩
def extOK (p q:Pg):Bool:=progOK p && progOK q && decide ((p.vars.length:Int)≤q.vars.length) && decide (p.vars=q.vars.take p.vars.length) && decide (p.arrays=q.arrays)
theorem LowM.ext {p q:Pg} {a b:Mm} (h:LowM 0 p a b) (ha:MemFits p a) (hb:MemFits p b) (he:extOK p q=true):LowM 0 q (extM q.vars.length a) (extM q.vars.length b):=by
  simp only [extOK,Bool.and_eq_true,decide_eq_true_eq] at he
  obtain ⟨⟨⟨_,h1⟩,h2⟩,h3⟩:=he
  have e1:=ha.nv
  have e2:=hb.nv
  refine ⟨by simp [extM,e1,e2],h.la,fun i x hx hb=>?_,fun i x hx=>h.arr i x (by rw [h3];exact hx)⟩
  simp only [extM]
  by_cases hi:i<p.vars.length
  · rw [List.getElem?_append_left (by omega),List.getElem?_append_left (by omega)]
    refine h.val i x ?_ hb
    rw [h2,List.getElem?_take,if_pos hi];exact hx
  · rw [List.getElem?_append_right (by omega),List.getElem?_append_right (by omega),e1,e2]
open Go Go.CT CtF CtR
end Go.Proofs.YtbknljofedfpjaaGreat.CtL
