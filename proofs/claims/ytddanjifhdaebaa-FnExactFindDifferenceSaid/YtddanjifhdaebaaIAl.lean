/- Contracts of functions of the program, one behind the other, as plain data: what each call returns and which blocks it leaves. -/
import Derived.Test.YtddanjifhdaebaaIFacts
import Derived.Test.YtddanjifhdaebaaIAk
import Derived.Test.YtddanjifhdaebaaIAi
set_option linter.unusedVariables false
set_option linter.unusedSimpArgs false
set_option linter.unusedSectionVars false
set_option maxHeartbeats 16000000
set_option maxRecDepth 100000
namespace Go.Proofs.Ytddanjifhdaebaa.CtR
open Go Go.CT CtF
variable [Yn]
theorem renCs_b0 (r:Nat→Nat) (a:List (List Int)):renCs r (blk0 a)=blk0 a:=renCs_I r _
theorem renCs_b1 (r:Nat→Nat) (a:List (List Int)):renCs r (blk1 a)=blk1 a:=renCs_I r _
theorem CMs_b0 {hT hS:Hp} {r:Nat→Option Nat} {fz:List Nat} (a:List (List Int)):CMs hT r hS fz (blk0 a) (blk0 a)=True:=CMs_I _
theorem CMs_b1 {hT hS:Hp} {r:Nat→Option Nat} {fz:List Nat} (a:List (List Int)):CMs hT r hS fz (blk1 a) (blk1 a)=True:=CMs_I _
theorem kf_app {a b:List C} (h1:∀ c ∈ a,kf c=true) (h2:∀ c ∈ b,kf c=true):∀ c ∈ a++b,kf c=true:=fun c hc=>(List.mem_append.1 hc).elim (h1 c) (h2 c)
def setV (m:Mm) (t x:Int):Mm:=⟨m.vals.set t.toNat x,m.arrays⟩
def setA (m:Mm) (t i x:Int):Mm:=⟨m.vals,m.arrays.set t.toNat ((arrAt m t).set i.toNat x)⟩
theorem set_mem {l:List Int} {i:Nat} {x y:Int} (h:y ∈ l.set i x):y ∈ l∨y=x:=List.mem_or_eq_of_mem_set h
theorem MemFits.setV {p : Pg} {m : Mm} (hm : MemFits p m) {t x : Int} (hx : 0 ≤ x ∧ x ≤ 255) : MemFits p (setV m t x) where
  nv:=by simp [CtR.setV,hm.nv]
  na:=hm.na
  nv12:=hm.nv12
  na2:=hm.na2
  val:=fun y hy=>(set_mem hy).elim (hm.val y) fun h=>by rw [h];exact hx
  arr:=hm.arr
theorem MemFits.setA {p : Pg} {m : Mm} (hm : MemFits p m) {t i x : Int} (ht : 0 ≤ t ∧ t < m.arrays.length) (hx : 0 ≤ x ∧ x ≤ 255) : MemFits p (setA m t i x) where
  nv:=hm.nv
  na:=by simp [CtR.setA,hm.na]
  nv12:=hm.nv12
  na2:=hm.na2
  val:=hm.val
  arr:=fun a ha=>by
    have h4:=hm.arr _ (arrAt_mem ht.1 ht.2).2
    rcases List.mem_or_eq_of_mem_set ha with h | h
    · exact hm.arr a h
    · subst h
      exact ⟨by simp [h4.1],fun y hy=>(set_mem hy).elim (h4.2 y) fun h=>by rw [h];exact hx⟩
theorem blk0_set0 (m:Mm) (i x:Int) (h:0<m.arrays.length):blk0 (setA m 0 i x).arrays=(blk0 m.arrays).set i.toNat (.v (.int .i64 x)):=by
  have e:m.arrays[0]? = some (arrAt m 0):=(arrAt_mem (m:=m) (v:=0) (by omega) (by omega)).1
  unfold blk0 setA
  simp only [Int.toNat_zero,List.getElem?_set_self h,Option.getD_some,e]
  exact List.map_set
theorem blk1_set0 (m:Mm) (i x:Int):blk1 (setA m 0 i x).arrays=blk1 m.arrays:=by
  unfold blk1 setA
  simp only [Int.toNat_zero]
  rw [List.getElem?_set_ne (by decide)]
theorem blk1_set1 (m:Mm) (i x:Int) (h:1<m.arrays.length):blk1 (setA m 1 i x).arrays=(blk1 m.arrays).set i.toNat (.v (.int .i64 x)):=by
  have e:m.arrays[1]? = some (arrAt m 1):=(arrAt_mem (m:=m) (v:=1) (by omega) (by omega)).1
  unfold blk1 setA
  simp only [show (1:Int).toNat=1 from rfl,List.getElem?_set_self h,Option.getD_some,e]
  exact List.map_set
theorem blk0_set1 (m:Mm) (i x:Int):blk0 (setA m 1 i x).arrays=blk0 m.arrays:=by
  unfold blk0 setA
  simp only [show (1:Int).toNat=1 from rfl]
  rw [List.getElem?_set_ne (by decide)]
def trD (tr:List Ev):C := .isl 2 (tr.map Ev.cells)
theorem RetOb.step {m : Nat} {R : D → List (Option (List C)) → Prop} {d : D} {hp : Hp} (r : Nat → Option Nat) (fz : List Nat) (d' : D) (hl : List (Nat × Option (List C)))
    (hM:DM (hOf hl) r hp fz d' d∧HpOK (hOf hl) r hp fz hl∧LowOK r (hOf hl) m∧((hl.filterMap fun p=>p.2.map fun _=>p.1).filterMap r).Nodup) (hn:RetOb m R d' (hOf hl)):RetOb m R d hp:=fun I w s v H hv=>by
  have h:Mq m r fz [] hl ⟨fun _=>none,hp,0⟩:=⟨trivial,hM.2.1,hM.2.2.1,hM.2.2.2⟩
  obtain ⟨H',E'⟩:=h.subH.sim H
  obtain ⟨I',s',d2,h2,g1,g2,g3,g4,g5⟩:=hn _ w _ v H' (DM.rd H d' d hM.1 hv)
  exact ⟨I',s',d2,h2,g1,g2,g3,E'.trans g4,g5⟩
theorem RetOb.run {R : D → List (Option (List C)) → Prop} {p : Pg} {m : Mm} {tr : List Ev} {ok : Bool} {hp : Hp} {k0 k1 k2 k3 kt n : Nat} {cs : List C} (hm : MemFits p m) (hR : R (.tup [.agg m.cells, .c (trD tr), DB ok]) [])
    (h0:hp k0=some (some (m.vals.map I64))) (h1:hp k1=some (some (hdr k2 k3 p.arrays.length))) (h2:hp k2=some (some (blk0 m.arrays))) (h3:hp k3=some (some (blk1 m.arrays))) (ht:hp kt=some (some cs)) (hcs:cs=trC tr) (hn:n=tr.length)
    (hne:k0 ≠ k1∧k0 ≠ k2∧k0 ≠ k3∧k1 ≠ k2∧k1 ≠ k3∧k2 ≠ k3∧kt ≠ k0∧kt ≠ k1∧kt ≠ k2∧kt ≠ k3):RetOb 0 R (.tup [.agg [.msl k0 1 0 p.vars.length,.msl k1 1 0 p.arrays.length],.c (.msl kt 2 0 n),DB ok]) hp:=by
  subst hcs hn
  obtain ⟨va,arr⟩:=m
  have hnv:va.length=p.vars.length:=hm.nv
  have hna:arr.length=p.arrays.length:=hm.na
  have hna2:=hm.na2
  have h4:∀ a ∈ arr,a.length=4:=fun a ha=>(hm.arr a ha).1
  obtain ⟨n01,n02,n03,n12,n13,n23,nt0,nt1,nt2,nt3⟩:=hne
  rw [← hnv,← hna]
  rw [← hna] at h1 hna2
  refine RetOb.step (fun j=>if j=0 then some k0 else if j=1 then some k1 else if j=2 then some kt else none) [k2,k3] (.tup [.agg [.msl 0 1 0 va.length,.msl 1 1 0 arr.length],.c (.msl 2 2 0 tr.length),DB ok]) [(0,some (va.map I64)),(1,some (arr.map isI)),(2,some (trC tr))] ?_ ?_
  · have e3:∀ a:List Int,(a.map fun n=>[C.v (.int .i64 n)]).flatten=a.map I64:=fun a=>flat1 _ a
    match arr,hna2,h4,h1,h2,h3 with
    | [],_,h4,h1,h2,h3=>simp [DM,DMs,CM,CMs,HpOK,LowOK,hOf,upd,h0,ht,CMs_I,CMs_tr,h1,hdr,n01,n02,n03,n12,n13,n23,nt0,nt1,nt2,nt3,Ne.symm n01,Ne.symm nt0,Ne.symm nt1,Ne.symm n23]
    | [a],_,h4,h1,h2,h3 =>
      have ha:=h4 a (by simp)
      simp [DM,DMs,CM,CMs,HpOK,LowOK,hOf,upd,h0,ht,CMs_I,CMs_tr,h1,h2,hdr,n01,n02,n03,n12,n13,n23,nt0,nt1,nt2,nt3,Ne.symm n01,Ne.symm nt0,Ne.symm nt1,Ne.symm n23,e3,isI,ha,blk0,kf]
    | [a,b],_,h4,h1,h2,h3 =>
      have ha:=h4 a (by simp)
      have hb:=h4 b (by simp)
      simp [DM,DMs,CM,CMs,HpOK,LowOK,hOf,upd,h0,ht,CMs_I,CMs_tr,h1,h2,h3,hdr,n01,n02,n03,n12,n13,n23,nt0,nt1,nt2,nt3,Ne.symm n01,Ne.symm nt0,Ne.symm nt1,Ne.symm n23,e3,isI,ha,hb,blk0,blk1,kf]
  · refine RetOb.ofQ (fun _=>none) [0,1,2] _ [] ⟨?_,trivial,trivial,by simp [enumL]⟩ hR (Nat.zero_le _)
    have e4:∀ l:List (List Int),(l.map fun a=>[C.isl 1 (a.map fun n=>[I64 n])]).flatten=l.map isI:=fun l=>flat1 _ l
    have e5:(tr.map Ev.cells).flatten=trC tr:=rfl
    simp [DM,DMs,CM,CMs,hOf,upd,Mm.cells,isI,trD,flat_I,kf,e5]
    exact ⟨(flat1 isI arr).symm,fun a _=>rfl,fun a _ c hc=>by
      simp only [Ev.cells,List.mem_cons,List.not_mem_nil,or_false] at hc
      rcases hc with rfl | rfl<;>rfl⟩
theorem RetOb.noRun {R:D→List (Option (List C))→Prop} {hp:Hp} {c:C} (hR:R (.tup [.agg (Mm.cells ⟨[],[]⟩),.c (trD []),DB false]) []) (hc:c = .v (.slice none 0 0)∨∃ k,c = .msl k 2 0 0∧hp k=some (some [])):RetOb 0 R (.tup [.agg [.v (.slice none 0 0),.v (.slice none 0 0)],.c c,DB false]) hp:=by
  rcases hc with rfl | ⟨k,rfl,hk⟩
  · refine RetOb.ofQ (fun _=>none) [] _ [] ⟨?_,trivial,trivial,by simp [enumL]⟩ hR (Nat.zero_le _)
    simp [DM,DMs,CM,CMs,Mm.cells,isI,trD]
  · refine RetOb.ofQ (fun _=>none) [k] _ [] ⟨?_,trivial,trivial,by simp [enumL]⟩ hR (Nat.zero_le _)
    simp [DM,DMs,CM,CMs,Mm.cells,isI,trD,hk]
theorem equalI (xs ys:List Int) (hl:xs.length≤mx):DC Try.prog 134 [ints xs,ints ys] [] (fun r h=>r=DB (decide (xs=ys))∧h=[]):=by
  have hmx:=mx_eq
  have ret:∀ (b:Bool) (hp:Hp),b=decide (xs=ys)→RetOb 0 (fun r h=>r=DB (decide (xs=ys))∧h=[]) (DB b) hp:=fun b hp h=>RetOb.plain (d:=DB _) ⟨by rw [h],rfl⟩ rfl
  by_cases hlen:xs.length=ys.length
  · have hb:((xs.length:Int) != ys.length)=false:=by simp [hlen]
    have he:((xs.length:Int)=ys.length)=True:=eq_true (by omega)
    refine dc_of_go Try.func134 rfl (by simp) ?_
    refine drv_sound (n:=100) (rs:=_) Try.func134 mo rfl none _ _ ?_
    simp only [go_sem,ints,hb,he]
    refine Go.loopL (fun i:Nat=>[(0,ints xs),(1,ints ys),(12,DI .i64 xs.length),(13,DI .i64 i)]) (fun _=>[]) 1024 (fun i=>i≤xs.length∧decide (xs=ys)=decide (xs.drop i=ys.drop i)) (fun i=>xs.length - i) ?_ 0 some [] _ ⟨Nat.zero_le _,rfl⟩ ?_
    · intro i hi again
      refine drv_sound (n:=100) (rs:=_) Try.func134 mo rfl none _ _ ?_
      rcases Nat.lt_or_ge i xs.length with hlt | hge
      · obtain ⟨x,hx⟩:∃ x,xs[i]? = some x:=⟨xs[i],by simp [hlt]⟩
        obtain ⟨y,hy⟩:∃ y,ys[i]? = some y:=⟨ys[i]'(by omega),by simp⟩
        have hI:=hi.2
        obtain ⟨_,ex⟩:=List.getElem?_eq_some_iff.1 hx
        obtain ⟨hyl,ey⟩:=List.getElem?_eq_some_iff.1 hy
        rw [List.drop_eq_getElem_cons hlt,List.drop_eq_getElem_cons hyl,ex,ey] at hI
        simp only [go_sem,ints,hx,hy,hlt]
        (with_reducible and_intros)<;>try exact sd
        · intro hne;exact ret _ _ (by rw [hI];simp [hne])
        · intro heq;exact ⟨by simp only [InK];omega,again (i+1) some [] _ ⟨by omega,by rw [hI];simp [heq]⟩ (by omega) (Mt.slots (by
            simp only [go_sem,TmOK,DM,DMs,CM,CMs,forall_eq,exists_eq_left,ints]))⟩
      · have hn:¬ i<xs.length:=by omega
        simp only [go_sem,ints,hn]
        refine ret _ _ ?_
        rw [hi.2,List.drop_of_length_le hge,List.drop_of_length_le (by omega)];rfl
    · refine Mt.slots ?_
      simp only [go_sem,TmOK,DM,DMs,CM,CMs,forall_eq,exists_eq_left,ints]
  · have hb:((xs.length:Int) != ys.length)=true:=by simp;omega
    have he:((xs.length:Int)=ys.length)=False:=eq_false (by omega)
    refine dc_of_go Try.func134 rfl (by simp) ?_
    refine drv_sound (n:=100) (rs:=_) Try.func134 mo rfl none _ _ ?_
    simp only [go_sem,ints,hb,he]
    refine ret _ _ ?_
    symm;rw [decide_eq_false_iff_not];intro h;exact hlen (by rw [h])
theorem Ev.eq_iff (a b:Ev):a=b ↔ a.kind=b.kind∧a.value=b.value:=by cases a;cases b;simp
def trSame (xs ys:List Ev):Bool:=xs.length == ys.length && (xs.zip ys).all fun q=>q.1.kind == q.2.kind && q.1.value == q.2.value
theorem trSame_iff : ∀ xs ys : List Ev, trSame xs ys = true ↔ xs = ys
  | [],[]=>by simp [trSame]
  | [],b :: r=>by simp [trSame]
  | a :: r,[]=>by simp [trSame]
  | a :: r,b :: r'=>by
    have ih:=trSame_iff r r'
    simp only [trSame,List.length_cons,List.zip_cons_cons,List.all_cons,Bool.and_eq_true,beq_iff_eq] at ih ⊢
    rw [List.cons.injEq,Ev.eq_iff,← ih]
    constructor
    · rintro ⟨h1,⟨h2,h3⟩,h4⟩;exact ⟨⟨h2,h3⟩,by omega,h4⟩
    · rintro ⟨⟨h2,h3⟩,h1,h4⟩;exact ⟨by omega,⟨h2,h3⟩,h4⟩
theorem equalEv (xs ys:List Ev) (hl:xs.length≤mx):DC Try.prog 125 [.c (trD xs),.c (trD ys)] [] (fun r h=>r=DB (trSame xs ys)∧h=[]):=by
  have hmx:=mx_eq
  have ret:∀ (b:Bool) (hp:Hp),b=trSame xs ys→RetOb 0 (fun r h=>r=DB (trSame xs ys)∧h=[]) (DB b) hp:=fun b hp h=>RetOb.plain (d:=DB _) ⟨by rw [h],rfl⟩ rfl
  by_cases hlen:xs.length=ys.length
  · have hb:((xs.length:Int) != ys.length)=false:=by simp [hlen]
    have he:((xs.length:Int)=ys.length)=True:=eq_true (by omega)
    refine dc_of_go Try.func125 rfl (by simp) ?_
    refine drv_sound (n:=100) (rs:=_) Try.func125 mo rfl none _ _ ?_
    simp only [go_sem,trD,hb,he]
    refine Go.loopL (fun i:Nat=>[(0,.c (trD xs)),(1,.c (trD ys)),(12,DI .i64 xs.length),(13,DI .i64 i)]) (fun _=>[]) 1024 (fun i=>i≤xs.length∧trSame xs ys=trSame (xs.drop i) (ys.drop i)) (fun i=>xs.length - i) ?_ 0 some [] _ ⟨Nat.zero_le _,rfl⟩ ?_
    · intro i hi again
      refine drv_sound (n:=100) (rs:=_) Try.func125 mo rfl none _ _ ?_
      rcases Nat.lt_or_ge i xs.length with hlt | hge
      · obtain ⟨⟨k1,v1⟩,hx⟩:∃ x,xs[i]? = some x:=⟨xs[i],by simp [hlt]⟩
        obtain ⟨⟨k2,v2⟩,hy⟩:∃ y,ys[i]? = some y:=⟨ys[i]'(by omega),by simp⟩
        have hI:=hi.2
        obtain ⟨_,ex⟩:=List.getElem?_eq_some_iff.1 hx
        obtain ⟨hyl,ey⟩:=List.getElem?_eq_some_iff.1 hy
        rw [List.drop_eq_getElem_cons hlt,List.drop_eq_getElem_cons hyl,ex,ey] at hI
        have hd:(xs.drop (i+1)).length=(ys.drop (i+1)).length:=by simp;omega
        have hI2:trSame xs ys=((decide (k1=k2) && decide (v1=v2)) && trSame (xs.drop (i+1)) (ys.drop (i+1))):=by
          rw [hI]
          simp only [trSame,List.length_cons,hd,List.zip_cons_cons,List.all_cons,beq_self_eq_true,Bool.true_and]
          rfl
        simp only [go_sem,trD,hx,hy,hlt,Ev.cells,I64]
        (with_reducible and_intros)<;>try exact sd
        · intro h;exact ret _ _ (by rw [hI2];by_cases h1:k1=k2<;>simp_all)
        · intro h;exact ⟨by simp only [InK];omega,again (i+1) some [] _ ⟨by omega,by rw [hI2];simp [h.1,h.2]⟩ (by omega) (Mt.slots (by
            simp only [go_sem,TmOK,DM,DMs,CM,CMs,forall_eq,exists_eq_left,trD]))⟩
      · have hn:¬ i<xs.length:=by omega
        simp only [go_sem,trD,hn]
        refine ret _ _ ?_
        rw [hi.2,List.drop_of_length_le hge,List.drop_of_length_le (by omega)];rfl
    · refine Mt.slots ?_
      simp only [go_sem,TmOK,DM,DMs,CM,CMs,forall_eq,exists_eq_left,trD]
  · have hb:((xs.length:Int) != ys.length)=true:=by simp;omega
    have he:((xs.length:Int)=ys.length)=False:=eq_false (by omega)
    refine dc_of_go Try.func125 rfl (by simp) ?_
    refine drv_sound (n:=100) (rs:=_) Try.func125 mo rfl none _ _ ?_
    simp only [go_sem,trD,hb,he]
    refine ret _ _ ?_
    simp [trSame,hlen]
theorem traceSame (xs ys:List Ev) (hl:xs.length≤mx):DC Try.prog 59 [.c (trD xs),.c (trD ys)] [] (fun r h=>r=DB (trSame xs ys)∧h=[]):=by
  refine dc_of_go Try.func59 rfl (by simp) ?_
  refine drv_sound (n:=100) (rs:=_) Try.func59 mo rfl none _ _ ?_
  simp only [go_sem,trD]
  refine XK.plain (equalEv xs ys hl) ok125 ?_
  refine drv_sound (n:=100) (rs:=_) Try.func59 mo rfl (some _) _ _ ?_
  simp only [go_sem,trD]
  exact RetOb.plain (d:=DB _) ⟨rfl,rfl⟩ rfl
theorem equalFunc (xs ys:List (List Int)) (hl:xs.length≤mx) (hx4:∀ a ∈ xs,a.length≤mx):DC Try.prog 135 [.c (.isl 1 (xs.map fun a=>[isI a])),.c (.isl 1 (ys.map fun a=>[isI a])),.c (.clo 134 [])] [] (fun r h=>r=DB (decide (xs=ys))∧h=[]):=by
  have hmx:=mx_eq
  have ret:∀ (b:Bool) (hp:Hp),b=decide (xs=ys)→RetOb 0 (fun r h=>r=DB (decide (xs=ys))∧h=[]) (DB b) hp:=fun b hp h=>RetOb.plain (d:=DB _) ⟨by rw [h],rfl⟩ rfl
  by_cases hlen:xs.length=ys.length
  · have hb:((xs.length:Int) != ys.length)=false:=by simp [hlen]
    have he:((xs.length:Int)=ys.length)=True:=eq_true (by omega)
    refine dc_of_go Try.func135 rfl (by simp) ?_
    refine drv_sound (n:=100) (rs:=_) Try.func135 mo rfl none _ _ ?_
    simp only [go_sem,isI,I64,hb,he]
    refine Go.loopL (fun i:Nat=>[(1,.c (.isl 1 (ys.map fun a=>[isI a]))),(2,.c (.clo 134 [])),(15,.c (.isl 1 (xs.map fun a=>[isI a]))),(16,DI .i64 xs.length),(17,DI .i64 i)]) (fun _=>[]) 1024 (fun i=>i≤xs.length∧decide (xs=ys)=decide (xs.drop i=ys.drop i)) (fun i=>xs.length - i) ?_ 0 some [] _ ⟨Nat.zero_le _,rfl⟩ ?_
    · intro i hi again
      refine drv_sound (n:=100) (rs:=_) Try.func135 mo rfl none _ _ ?_
      rcases Nat.lt_or_ge i xs.length with hlt | hge
      · obtain ⟨x,hx⟩:∃ x,xs[i]? = some x:=⟨xs[i],by simp [hlt]⟩
        obtain ⟨y,hy⟩:∃ y,ys[i]? = some y:=⟨ys[i]'(by omega),by simp⟩
        have hI:=hi.2
        obtain ⟨_,ex⟩:=List.getElem?_eq_some_iff.1 hx
        obtain ⟨hyl,ey⟩:=List.getElem?_eq_some_iff.1 hy
        rw [List.drop_eq_getElem_cons hlt,List.drop_eq_getElem_cons hyl,ex,ey] at hI
        simp only [go_sem,isI,I64,hx,hy,hlt]
        (with_reducible and_intros)<;>try exact sd
        refine XK.plain (equalI x y (hx4 x (List.mem_of_getElem? hx))) ok134 ?_
        refine drv_sound (n:=100) (rs:=_) Try.func135 mo rfl (some _) _ _ ?_
        simp only [go_sem,isI,I64]
        refine ⟨fun hne=>ret _ _ (by rw [hI];simp [hne]),fun heq=>⟨by simp only [InK];omega,again (i+1) some [] _ ⟨by omega,by rw [hI];simp [heq]⟩ (by omega) (Mt.slots (by
            simp only [go_sem,TmOK,DM,DMs,CM,CMs,forall_eq,exists_eq_left,isI,I64]))⟩⟩
      · have hn:¬ i<xs.length:=by omega
        simp only [go_sem,isI,I64,hn]
        refine ret _ _ ?_
        rw [hi.2,List.drop_of_length_le hge,List.drop_of_length_le (by omega)];rfl
    · refine Mt.slots ?_
      simp only [go_sem,TmOK,DM,DMs,CM,CMs,forall_eq,exists_eq_left,isI,I64]
  · have hb:((xs.length:Int) != ys.length)=true:=by simp;omega
    have he:((xs.length:Int)=ys.length)=False:=eq_false (by omega)
    refine dc_of_go Try.func135 rfl (by simp) ?_
    refine drv_sound (n:=100) (rs:=_) Try.func135 mo rfl none _ _ ?_
    simp only [go_sem,isI,I64,hb,he]
    refine ret _ _ ?_
    symm;rw [decide_eq_false_iff_not];intro h;exact hlen (by rw [h])
def memSame (a b:Mm):Bool:=decide (a.vals=b.vals) && decide (a.arrays=b.arrays)
theorem memorySame (a b:Mm) (h1:a.vals.length≤mx) (h2:a.arrays.length≤mx) (h3:∀ x ∈ a.arrays,x.length≤mx):DC Try.prog 78 [.agg a.cells,.agg b.cells] [] (fun r h=>r=DB (memSame a b)∧h=[]):=by
  obtain ⟨va,arr⟩:=a
  obtain ⟨vb,brr⟩:=b
  refine dc_of_go Try.func78 rfl (by simp) ?_
  refine drv_sound (n:=100) (rs:=_) Try.func78 mo rfl none _ _ ?_
  simp only [go_sem,Mm.cells,isI,I64]
  refine XK.plain (equalI va vb h1) ok134 ?_ (hbT ())
  refine drv_sound (n:=100) (rs:=_) Try.func78 mo rfl (some _) _ _ ?_
  simp only [go_sem,Mm.cells,isI,I64]
  refine XK.gplain 5 true (decide (va=vb)) (fun _=>equalFunc arr brr h2 h3) ok135 ?_ (hbT ()) (hok:=by intro hx;simp [okP,getCall,Call.operands,evT,upd,peelB,DB,DI,cst,one] at hx ⊢;first | done | exact hx | (simp_all;done) | omega)
  refine drv_sound (n:=100) (rs:=_) Try.func78 mo rfl (some _) _ _ ?_
  simp only [go_sem,Mm.cells,isI,I64]
  exact RetOb.plain (d:=DB _) ⟨rfl,rfl⟩ rfl
end Go.Proofs.Ytddanjifhdaebaa.CtR
namespace Go.Proofs.Ytddanjifhdaebaa.CtD
open Go Go.CT CtF
variable [Yn]
def rdr (bs:List Int) (p:Int):List C:=[.isl 1 (bs.map fun n=>[.v (.int .u8 n)]),.v (.int .i64 p)]
theorem pick (bs : List Int) (p : Nat) (n : Int) (hb : Fits .u8 bs) (hl : bs.length ≤ 2000) (h1 : p ≤ 1099511627776) (hn : InK .i64 n) : DC Try.prog 158 [.c (.ptr 0 0), DI .i64 n] [some (rdr bs p)]
    (fun d h=>∃ v:Int,d=DI .i64 v∧((n<1∨bs=[])∧v=0∨0≤v∧v<n)∧h=[some (rdr bs ((p+1:Nat):Int))]):=by
  have hmx:=mx_eq
  refine dc_of_go Try.func158 rfl (by simp) ?_
  have ret:∀ (v:Int) (hp:Hp),((n<1∨bs=[])∧v=0∨0≤v∧v<n)→hp 0=some (some [.isl 1 (bs.map fun n=>[.v (.int .u8 n)]),.v (.int .i64 (p+1))]) →
      RetOb 1 (fun d h=>∃ v:Int,d = .c (.v (.int .i64 v))∧((n<1∨bs=[])∧v=0∨0≤v∧v<n)∧h=[some [.isl 1 (bs.map fun n=>[.v (.int .u8 n)]),.v (.int .i64 (p+1))]]) (.c (.v (.int .i64 v))) hp:=fun v hp hv hhp=>by
    refine RetOb.of (fun k=>if k=0 then some 0 else none) [] (DI .i64 v) [_] (subH_one' rfl hhp (by simp [kf]) (by simp)) (by simp [DM,CM,DI]) ⟨v,rfl,hv,rfl⟩ (by simp)
  refine drv_sound (n:=37) (rs:=_) Try.func158 mo rfl none _ _ ?_
  simp (maxSteps:=10000000) (maxDischargeDepth:=300) only [go_sem,rdr,List.length_eq_zero_iff,Int.natCast_eq_zero]
  refine ⟨by simp only [InK];omega,fun h=>ret _ _ (.inl ⟨h,rfl⟩) (upd_same _ _ _),fun h=>?_⟩
  have hbl:0<bs.length:=List.length_pos_iff.2 h.2
  have hby:∀ {j:Nat} {x:Int},bs[j]? = some x→0≤x∧x≤255:=fun {j x} hx=>by
    obtain ⟨hlt,e⟩:=List.getElem?_eq_some_iff.1 hx
    exact hb x (e ▸ List.getElem_mem hlt)
  have hrem:∀ a:Int,0≤a→0≤a % n∧a % n<n:=fun a _=>⟨Int.emod_nonneg _ (by omega),Int.emod_lt_of_pos _ (by omega)⟩
  refine drv_sound (n:=100) (rs:=_) Try.func158 mo rfl (some _) _ _ ?_
  rcases Nat.lt_or_ge p bs.length with hlt | hge
  · obtain ⟨x,hx⟩:∃ x,bs[p]? = some x:=⟨bs[p],by simp⟩
    have hxb:=hby hx
    have hnlt:¬ bs.length≤p:=by omega
    simp (maxSteps:=10000000) (maxDischargeDepth:=300) only [go_sem,hx,hlt,hnlt]
    exact ⟨by simp only [InK];omega,by simp only [InK];omega,by omega,ret _ _ (.inr (hrem x hxb.1)) (upd_same _ _ _)⟩
  · have hnlt:¬ p<bs.length:=by omega
    have hm1:((p:Int) % bs.length).toNat<bs.length:=by
      have:=Int.emod_lt_of_pos (p:Int) (b:=bs.length) (by omega)
      have:=Int.emod_nonneg (p:Int) (b:=bs.length) (by omega)
      omega
    have hm2:(((p:Int) * 7+3) % bs.length).toNat<bs.length:=by
      have:=Int.emod_lt_of_pos ((p:Int) * 7+3) (b:=bs.length) (by omega)
      have:=Int.emod_nonneg ((p:Int) * 7+3) (b:=bs.length) (by omega)
      omega
    obtain ⟨x,hx⟩:∃ x,bs[((p:Int) % bs.length).toNat]? = some x:=⟨_,List.getElem?_eq_getElem hm1⟩
    obtain ⟨y,hy⟩:∃ x,bs[(((p:Int) * 7+3) % bs.length).toNat]? = some x:=⟨_,List.getElem?_eq_getElem hm2⟩
    have hxb:=hby hx
    have hyb:=hby hy
    simp (maxSteps:=10000000) (maxDischargeDepth:=300) only [go_sem,hx,hy,hge,hnlt]
    have hq0:0≤(p:Int) / bs.length:=Int.ediv_nonneg (by omega) (by omega)
    have hq1:(p:Int) / bs.length≤p:=Int.ediv_le_self _ (by omega)
    generalize (p:Int) / bs.length=q at *
    repeat' with_reducible apply And.intro
    all_goals first | kernel_rfl | (simp only [InK];omega) | omega | exact Int.emod_nonneg _ (by omega) | exact ret _ _ (.inr (hrem _ (Int.natCast_nonneg _))) (upd_same _ _ _)
theorem num (bs : List Int) (p : Nat) (xs : List Int) (hb : Fits .u8 bs) (hl : bs.length ≤ 2000) (h1 : p ≤ 1099511627776) (hx0 : 0 < xs.length) (hx1 : xs.length ≤ mx) : DC Try.prog 159 [.c (.ptr 0 0), ints xs] [some (rdr bs p)]
    (fun d h=>∃ v:Int,d=DI .i64 v∧v ∈ xs∧h=[some (rdr bs ((p+1:Nat):Int))]):=by
  have hmx:=mx_eq
  refine dc_of_go Try.func159 rfl (by simp) ?_
  refine drv_sound (n:=100) (rs:=_) Try.func159 mo rfl none _ _ ?_
  simp (maxSteps:=10000000) (maxDischargeDepth:=300) only [go_sem,rdr,ints]
  refine XK.callG [0] (pick bs p xs.length hb hl h1 (by simp only [InK];omega)) ok158 (hhp_one rfl) (fun j hj=>by simp [hpL]) (fun d h' ⟨v,_,_,e⟩=>by subst e;simp) ?_
  rintro d h' ⟨v,rfl,hv,rfl⟩ _
  have hv2:0≤v∧v<xs.length:=by
    rcases hv with ⟨h | h,_⟩ | h
    · omega
    · omega
    · exact h
  refine drv_sound (n:=100) (rs:=_) Try.func159 mo rfl (some _) _ _ ?_
  obtain ⟨y,hy⟩:∃ y,xs[v.toNat]? = some y:=⟨xs[v.toNat]'(by omega),List.getElem?_eq_getElem (by omega)⟩
  have hmem:y ∈ xs:=List.mem_of_getElem? hy
  simp (maxSteps:=10000000) (maxDischargeDepth:=300) only [go_sem,rdr,ints,hy]
  exact ⟨by omega,RetOb.keep1 (d:=DI .i64 y) (cs:=rdr bs ((p+1:Nat):Int)) ⟨y,rfl,hmem,rfl⟩ rfl (by simp [rdr,kf]) rfl⟩
end Go.Proofs.Ytddanjifhdaebaa.CtD
namespace Go.Proofs.Ytddanjifhdaebaa.CtR
end Go.Proofs.Ytddanjifhdaebaa.CtR
namespace Go.Proofs.Ytddanjifhdaebaa.CtD
open Go Go.CT CtF CtR
variable [Yn]
end Go.Proofs.Ytddanjifhdaebaa.CtD
namespace Go.Proofs.Ytddanjifhdaebaa.CtR
open Go Go.CT CtF
variable [Yn]
def lab3 (l:List Int):Prop:=∀ x ∈ l,0≤x∧x≤3
theorem RetOb.two {R:D→List (Option (List C))→Prop} {a b:Int} {hp:Hp} (h:R (.tup [DI .i64 a,DI .i64 b]) []):RetOb 0 R (.tup [DI .i64 a,DI .i64 b]) hp :=
  RetOb.ofQ (fun _=>none) [] (.tup [DI .i64 a,DI .i64 b]) [] (by simp [enumL,DM,DMs,CM,HpOK,LowOK]) h (by simp)
abbrev BC (b:Bool):C := .v (.bool b)
def boolsC (bs:List Bool):List C:=bs.map BC
theorem boolsC_kf (bs:List Bool):∀ c ∈ boolsC bs,kf c=true:=by
  intro c hc;obtain ⟨x,_,rfl⟩:=List.mem_map.1 hc;rfl
end Go.Proofs.Ytddanjifhdaebaa.CtR
namespace Go.Proofs.Ytddanjifhdaebaa.CtD
open Go Go.CT CtF CtR
variable [Yn]
end Go.Proofs.Ytddanjifhdaebaa.CtD
namespace Go.Proofs.Ytddanjifhdaebaa.CtR
end Go.Proofs.Ytddanjifhdaebaa.CtR
namespace Go.Proofs.Ytddanjifhdaebaa.CtD
open Go Go.CT CtF CtR
variable [Yn]
end Go.Proofs.Ytddanjifhdaebaa.CtD
namespace Go.Proofs.Ytddanjifhdaebaa.CtF
end Go.Proofs.Ytddanjifhdaebaa.CtF
namespace Go.Proofs.Ytddanjifhdaebaa.CtR
end Go.Proofs.Ytddanjifhdaebaa.CtR
namespace Go.Proofs.Ytddanjifhdaebaa.CtD
open Go Go.CT CtF CtR
variable [Yn]
end Go.Proofs.Ytddanjifhdaebaa.CtD
namespace Go.Proofs.Ytddanjifhdaebaa.CtF
end Go.Proofs.Ytddanjifhdaebaa.CtF
namespace Go.Proofs.Ytddanjifhdaebaa.CtR
end Go.Proofs.Ytddanjifhdaebaa.CtR
namespace Go.Proofs.Ytddanjifhdaebaa.CtD
open Go Go.CT CtF CtR
variable [Yn]
end Go.Proofs.Ytddanjifhdaebaa.CtD
namespace Go.Proofs.Ytddanjifhdaebaa.CtF
end Go.Proofs.Ytddanjifhdaebaa.CtF
namespace Go.Proofs.Ytddanjifhdaebaa.CtR
end Go.Proofs.Ytddanjifhdaebaa.CtR
namespace Go.Proofs.Ytddanjifhdaebaa.CtD
open Go Go.CT CtF CtR
variable [Yn]
theorem boolsC_snoc (ws:List Bool) (b:Bool):boolsC (ws++[b])=boolsC ws++[.v (.bool b)]:=by simp [boolsC,BC]
end Go.Proofs.Ytddanjifhdaebaa.CtD
namespace Go.Proofs.Ytddanjifhdaebaa.CtF
end Go.Proofs.Ytddanjifhdaebaa.CtF
namespace Go.Proofs.Ytddanjifhdaebaa.CtR
end Go.Proofs.Ytddanjifhdaebaa.CtR
namespace Go.Proofs.Ytddanjifhdaebaa.CtD
open Go Go.CT CtF CtR
variable [Yn]
end Go.Proofs.Ytddanjifhdaebaa.CtD
namespace Go.Proofs.Ytddanjifhdaebaa.CtF
variable [Go.CT.Yn]
end Go.Proofs.Ytddanjifhdaebaa.CtF
namespace Go.Proofs.Ytddanjifhdaebaa.CtR
variable [Go.CT.Yn]
open Go Go.CT CtF
def secL (l:Nat):Bool:=l.testBit 0
def subL (a b:Nat):Bool:=a ||| b == b
open Go Go.CT CtF
open Go Go.CT CtF
def fdif : List Ev → List Ev → Int → Int
  | [],[],_ => -1
  | a :: r,b :: s,n=>if a.kind=b.kind∧a.value=b.value then fdif r s (n+1) else n
  | _,_,n=>n
end Go.Proofs.Ytddanjifhdaebaa.CtR
namespace Go.Proofs.Ytddanjifhdaebaa.CtF
end Go.Proofs.Ytddanjifhdaebaa.CtF
namespace Go.Proofs.Ytddanjifhdaebaa.CtR
end Go.Proofs.Ytddanjifhdaebaa.CtR
namespace Go.Proofs.Ytddanjifhdaebaa.CtR
open Go Go.CT CtF
variable [Yn]
theorem le3 {a:Nat} (h:a≤3):a=0∨a=1∨a=2∨a=3:=by omega
theorem subI (a b:Nat) (ha:a≤3) (hb:b≤3):decide (((a ||| b:Nat):Int)=(b:Int))=subL a b:=by
  rcases le3 ha with rfl | rfl | rfl | rfl<;>rcases le3 hb with rfl | rfl | rfl | rfl<;>decide
theorem secI' (a:Nat) (ha:a≤3):decide (((a &&& 1:Nat):Int) ≠ 0)=secL a:=by
  rcases le3 ha with rfl | rfl | rfl | rfl<;>decide
theorem labelSecretI (a:Nat) (ha:a≤3):DC Try.prog 77 [DI .i64 a] [] (fun r h=>r=DB (secL a)∧h=[]):=by
  have h1:=labelValidI a
  have ha':(decide (0≤(a:Int)) && decide ((a:Int)≤3))=true:=by simp;omega
  rw [ha'] at h1
  have hs:=secI' a ha
  generalize hR:(fun (r:D) (h:List (Option (List C)))=>r=DB (secL a)∧h=[])=R
  refine dcZ Try.func77 ?_
  simp only [go_sem]
  iterate 4 ((try (refine drvZ Try.func77 ?_;simp only [go_sem]));((with_reducible and_intros)<;>try exact sd);(try first | refine XK.p h1 ok133 ?_ | refine XK.gp h1 ok133 ?_))
  refine RetOb.plain (d:=DB _) ?_ rfl
  rw [← hR,← hs]
  refine ⟨?_,rfl⟩
  rcases le3 ha with rfl | rfl | rfl | rfl<;>rfl
def clS (q : Int → Bool) (vs vals : List Int) : Nat → List Int
  | 0=>vals
  | i+1=>if q (vs.getD i 0) then (clS q vs vals i).set i 0 else clS q vs vals i
def clA (q : Int → Bool) : List Int → List (List Int) → List (List Int)
  | l :: r,a :: s=>(if q l then [0,0,0,0] else a) :: clA q r s
  | _,s=>s
def clrM (q:Int→Bool) (vs ar:List Int) (m:Mm):Mm:=⟨clS q vs m.vals vs.length,clA q ar m.arrays⟩
theorem clS_len (q : Int → Bool) (vs vals : List Int) : ∀ i, (clS q vs vals i).length = vals.length
  | 0=>rfl
  | i+1=>by unfold clS;split<;>simp [clS_len q vs vals i]
theorem len4 {a:List Int} (h:a.length=4):∃ x y z w,a=[x,y,z,w]:=by
  match a,h with
  | [x,y,z,w],_=>exact ⟨x,y,z,w,rfl⟩
theorem clS_succ {q:Int→Bool} {vs vals:List Int} {i:Nat} {x:Int} (h:vs[i]? = some x):clS q vs vals (i+1)=if q x then (clS q vs vals i).set i 0 else clS q vs vals i:=by
  have:vs.getD i 0=x:=by rw [List.getD_eq_getElem?_getD,h];rfl
  rw [clS,this]
theorem RetOb.mem0 {R : D → List (Option (List C)) → Prop} {m : Mm} {hp : Hp} {k0 k1 k2 k3 nv na : Nat} (hna : m.arrays.length ≤ 2) (h4 : ∀ a ∈ m.arrays, a.length = 4) (hR : R (.agg m.cells) [])
    (h0:hp k0=some (some (m.vals.map I64))) (h1:hp k1=some (some (hdr k2 k3 m.arrays.length))) (h2:hp k2=some (some (blk0 m.arrays))) (h3:hp k3=some (some (blk1 m.arrays))) (hv:nv=m.vals.length) (hn:na=m.arrays.length)
    (hne:k0 ≠ k1∧k0 ≠ k2∧k0 ≠ k3∧k1 ≠ k2∧k1 ≠ k3∧k2 ≠ k3):RetOb 0 R (.agg [.msl k0 1 0 nv,.msl k1 1 0 na]) hp:=by
  subst hv hn
  obtain ⟨va,arr⟩:=m
  obtain ⟨n01,n02,n03,n12,n13,n23⟩:=hne
  refine RetOb.step (fun j=>if j=0 then some k0 else if j=1 then some k1 else none) [k2,k3] (.agg [.msl 0 1 0 va.length,.msl 1 1 0 arr.length]) [(0,some (va.map I64)),(1,some (arr.map isI))] ?_ ?_
  · have e3:∀ a:List Int,(a.map fun n=>[C.v (.int .i64 n)]).flatten=a.map I64:=fun a=>flat1 _ a
    match arr,hna,h4,h1,h2,h3 with
    | [],_,h4,h1,h2,h3=>simp [DM,DMs,CM,CMs,HpOK,LowOK,hOf,upd,h0,CMs_I,h1,hdr,n01,n02,n03,n12,n13,n23,Ne.symm n01,Ne.symm n23]
    | [a],_,h4,h1,h2,h3 =>
      have ha:=h4 a (by simp)
      simp [DM,DMs,CM,CMs,HpOK,LowOK,hOf,upd,h0,CMs_I,h1,h2,hdr,n01,n02,n03,n12,n13,n23,Ne.symm n01,Ne.symm n23,e3,isI,ha,blk0,kf]
    | [a,b],_,h4,h1,h2,h3 =>
      have ha:=h4 a (by simp)
      have hb:=h4 b (by simp)
      simp [DM,DMs,CM,CMs,HpOK,LowOK,hOf,upd,h0,CMs_I,h1,h2,h3,hdr,n01,n02,n03,n12,n13,n23,Ne.symm n01,Ne.symm n23,e3,isI,ha,hb,blk0,blk1,kf]
  · refine RetOb.ofQ (fun _=>none) [0,1] _ [] ⟨?_,trivial,trivial,by simp [enumL]⟩ hR (Nat.zero_le _)
    simp [DM,DMs,CM,CMs,hOf,upd,Mm.cells,isI,flat_I,kf]
    exact (flat1 isI arr).symm
theorem cleared (vs ar : List Int) (m : Mm) (hv : m.vals.length = vs.length) (ha : m.arrays.length = ar.length) (hv1 : vs.length ≤ 1000) (ha1 : ar.length ≤ 2) (h4 : ∀ a ∈ m.arrays, a.length = 4) (F : FuncId) (hF : fnOK Try.prog F = true) (q : Int → Bool)
    (hq:∀ x,x ∈ vs∨x ∈ ar→DC Try.prog F [DI .i64 x] [] (fun r h=>r=DB (q x)∧h=[])) :
    DC Try.prog 76 [ints vs,ints ar,.agg m.cells,.c (.clo F [])] [] (fun r h=>r = .agg (clrM q vs ar m).cells∧h=[]):=by
  have hmx:=mx_eq
  have hown:=own m (by omega) (by omega) h4
  have hlen:=clS_len q vs m.vals
  have hsucc:=fun i x h=>@clS_succ _ q vs m.vals i x h
  unfold memB at hown
  obtain ⟨va,arr⟩:=m
  simp only at hv ha h4 hlen hsucc
  unfold ints
  generalize hR:(fun (r:D) (h:List (Option (List C)))=>r = .agg (clrM q vs ar ⟨va,arr⟩).cells∧h=[])=R
  refine dcZ Try.func76 ?_
  simp only [go_sem,Mm.cells]
  ((try (refine drvZ Try.func76 ?_;simp only [go_sem,Mm.cells]));((with_reducible and_intros)<;>try exact sd))
  refine XK.callG [] hown ok120 (fun i' x h=>by simp at h) (hbT ()) (fun d h' ⟨_,e⟩=>by subst e;simp) ?_
  rintro _ _ ⟨rfl,rfl⟩ _
  iterate 3 ((try (refine drvZ Try.func76 ?_;simp only [go_sem,renCs_I,renCs_hdr,renCs_b0,renCs_b1]));((with_reducible and_intros)<;>try exact sd))
  refine Go.loopQ (fun i : Nat => [(1, .c (isI ar)), (3, .c (.clo F [])), (8, .c (.ptr 64 0)), (9, .c (.ptr 256 0)), (16, .c (isI vs)), (17, DI .i64 vs.length), (18, DI .i64 i)])
    (fun i=>[(64,some [.v (.slice none 0 0),.v (.slice none 0 0)]),(192,some ((clS q vs va i).map I64)),(193,some (hdr 194 195 arr.length)),(194,some (blk0 arr)),(195,some (blk1 arr)),(256,some [.msl 192 1 0 va.length,.msl 193 1 0 arr.length])])
    4096 (fun i=>i≤vs.length) (fun i=>vs.length - i) ?_ 0 some [] _ (Nat.zero_le _) ?_
  · intro i hi again
    have hli:=hlen i
    rcases Nat.lt_or_ge i vs.length with hlt | hge
    · obtain ⟨x,hx⟩:∃ x,vs[i]? = some x:=⟨vs[i],by simp [hlt]⟩
      have hfx:=hq x (.inl (List.mem_of_getElem? hx))
      have hs:=hsucc i x hx
      generalize clS q vs va i=S at *
      generalize q x=b at *
      cases b with
      | true =>
        rw [if_pos rfl] at hs
        have hset:(S.map I64).set i (.v (.int .i64 0))=(S.set i 0).map I64:=by rw [List.map_set]
        refine drvL Try.func76 ?_
        simp only [go_sem,hx,hlt]
        iterate 6 ((try (refine drvZ Try.func76 ?_;simp only [go_sem,hx,hlt,hset]));((with_reducible and_intros)<;>try exact sd);(try first | refine XK.p hfx hF ?_ | refine XK.gp hfx hF ?_))
        refine again (i+1) some [] _ hlt (by omega) ?_
        simp only [go_sem,TmOK,DM,DMs,CM,CMs,forall_eq,exists_eq_left,Mq,HpOK,LowOK,hs]
        simp [CMs_hdr,CMs_b0,CMs_b1,upd]
        exact CMs.kf (by rw [hset];exact kf_I _)
      | false =>
        rw [if_neg (by simp)] at hs
        refine drvL Try.func76 ?_
        simp only [go_sem,hx,hlt]
        iterate 6 ((try (refine drvZ Try.func76 ?_;simp only [go_sem,hx,hlt]));((with_reducible and_intros)<;>try exact sd);(try first | refine XK.p hfx hF ?_ | refine XK.gp hfx hF ?_))
        refine again (i+1) some [] _ hlt (by omega) ?_
        simp only [go_sem,TmOK,DM,DMs,CM,CMs,forall_eq,exists_eq_left,Mq,HpOK,LowOK,hs]
        simp [CMs_I,CMs_hdr,CMs_b0,CMs_b1,upd]
    · have hn:¬ i<vs.length:=by omega
      obtain rfl:i=vs.length:=by omega
      generalize hS:clS q vs va vs.length=S at *
      refine drvL Try.func76 ?_
      simp only [go_sem,hn]
      iterate 3 ((try (refine drvZ Try.func76 ?_;simp only [go_sem,hn]));((with_reducible and_intros)<;>try exact sd))
      have hz:∀ n:Nat,((n:Int)<(n:Int))=False:=fun n=>eq_false (by omega)
      have hz0:((0:Int)<0)=False:=eq_false (by omega)
      have fin:∀ (A:List (List Int)) (hp:Hp),A=clA q ar arr→A.length=arr.length→(∀ a ∈ A,a.length=4)→hp 192=some (some (S.map I64))→hp 193=some (some (hdr 194 195 arr.length))→hp 194=some (some (blk0 A))→hp 195=some (some (blk1 A))→RetOb 0 R (.agg [.msl 192 1 0 va.length,.msl 193 1 0 arr.length]) hp:=fun A hp e1 e2 e3 g1 g2 g3 g4 =>
        RetOb.mem0 (m:=⟨S,A⟩) (k2:=194) (k3:=195) (by simp only;omega) e3 (by subst hR;exact ⟨by rw [e1,← hS];rfl,rfl⟩) g1 (by rw [e2];exact g2) g3 g4 (by simp only;omega) (by simp only;omega) (by decide)
      have hrp:(List.replicate 4 [C.v (.int .i64 0)]).flatten=[I64 0,I64 0,I64 0,I64 0]:=rfl
      have e11:((1:Int)<1)=False:=eq_false (by omega)
      have e22:((2:Int)<2)=False:=eq_false (by omega)
      clear hown hlen hsucc again hi hge
      rcases arr with _ | ⟨a,_ | ⟨a',_ | ⟨c,r⟩⟩⟩<;>rcases ar with _ | ⟨l,_ | ⟨l',_ | ⟨l3,r2⟩⟩⟩<;>simp only [List.length_cons,List.length_nil] at ha ha1<;>(try (exfalso;omega))
      · refine Go.loop ?_
        refine drvL Try.func76 ?_
        simp only [go_sem,hz0,Int.natCast_zero]
        iterate 3 ((try (refine drvZ Try.func76 ?_;simp only [go_sem,hz0,Int.natCast_zero]));((with_reducible and_intros)<;>try exact sd))
        exact fin [] _ rfl rfl (by simp) rfl rfl rfl rfl
      · have hfl:=hq l (.inr (by simp))
        obtain ⟨x0,x1,x2,x3,rfl⟩:=len4 (h4 a (by simp))
        have hb0:blk0 [[x0,x1,x2,x3]]=[I64 x0,I64 x1,I64 x2,I64 x3]:=rfl
        have hb1:blk1 [[x0,x1,x2,x3]]=[]:=rfl
        have hcl:clA q [l] [[x0,x1,x2,x3]]=[if q l then [0,0,0,0] else [x0,x1,x2,x3]]:=rfl
        rw [hcl] at fin
        rw [hb0,hb1]
        generalize q l=b at *
        cases b
        all_goals
          refine Go.loop ?_
          refine drvL Try.func76 ?_
          simp only [go_sem,hdr,List.take]
          iterate 6 ((try (refine drvZ Try.func76 ?_;simp only [go_sem,hz0,hrp,putCells,hdr,List.take,Int.natCast_zero]));((with_reducible and_intros)<;>try exact sd);(try first | refine XK.p hfl hF ?_ | refine XK.gp hfl hF ?_))
          refine Go.inLoop ?_
          refine drvL Try.func76 ?_
          simp only [go_sem,e11]
          iterate 3 ((try (refine drvZ Try.func76 ?_;simp only [go_sem,e11]));((with_reducible and_intros)<;>try exact sd))
          exact fin _ _ rfl rfl (by simp) rfl rfl rfl rfl
      · have hfl:=hq l (.inr (by simp))
        have hfl2:=hq l' (.inr (by simp))
        obtain ⟨x0,x1,x2,x3,rfl⟩:=len4 (h4 a (by simp))
        obtain ⟨y0,y1,y2,y3,rfl⟩:=len4 (h4 a' (by simp))
        have hb0:blk0 [[x0,x1,x2,x3],[y0,y1,y2,y3]]=[I64 x0,I64 x1,I64 x2,I64 x3]:=rfl
        have hb1:blk1 [[x0,x1,x2,x3],[y0,y1,y2,y3]]=[I64 y0,I64 y1,I64 y2,I64 y3]:=rfl
        have hcl:clA q [l,l'] [[x0,x1,x2,x3],[y0,y1,y2,y3]]=[if q l then [0,0,0,0] else [x0,x1,x2,x3],if q l' then [0,0,0,0] else [y0,y1,y2,y3]]:=rfl
        rw [hcl] at fin
        rw [hb0,hb1]
        generalize q l=b at *
        generalize q l'=b' at *
        cases b<;>cases b'
        all_goals
          refine Go.loop ?_
          refine drvL Try.func76 ?_
          simp only [go_sem,hdr,List.take]
          iterate 6 ((try (refine drvZ Try.func76 ?_;simp only [go_sem,hz0,hrp,putCells,hdr,List.take,Int.natCast_zero]));((with_reducible and_intros)<;>try exact sd);(try first | refine XK.p hfl hF ?_ | refine XK.gp hfl hF ?_))
          refine Go.inLoop ?_
          refine drvL Try.func76 ?_
          simp only [go_sem,hrp,putCells,hdr,List.take,Int.natCast_zero]
          iterate 6 ((try (refine drvZ Try.func76 ?_;simp only [go_sem,hrp,putCells,hdr,List.take,Int.natCast_zero]));((with_reducible and_intros)<;>try exact sd);(try first | refine XK.p hfl2 hF ?_ | refine XK.gp hfl2 hF ?_))
          refine Go.inLoop ?_
          refine drvL Try.func76 ?_
          simp only [go_sem,e22]
          iterate 3 ((try (refine drvZ Try.func76 ?_;simp only [go_sem,e22]));((with_reducible and_intros)<;>try exact sd))
          exact fin _ _ rfl rfl (by simp) rfl rfl rfl rfl
  · simp only [go_sem,TmOK,DM,DMs,CM,CMs,forall_eq,exists_eq_left,Mq,HpOK,LowOK]
    simp [CMs_I,clS,CMs_hdr,CMs_b0,CMs_b1,upd]
def secQ (x:Int):Bool:=secL x.toNat
theorem labX {l:List Int} (h:lab3 l) {x:Int} (hx:x ∈ l):∃ a:Nat,a≤3∧x=(a:Int):=by
  have:=h x hx
  exact ⟨x.toNat,by omega,by omega⟩
theorem l2Ints (xs ys:List Int) (hl:xs.length≤mx):DC Try.prog 131 [ints xs,ints ys] [] (fun r h=>r=DB (decide (xs=ys))∧h=[]):=by
  have hmx:=mx_eq
  have ret:∀ (b:Bool) (hp:Hp),b=decide (xs=ys)→RetOb 0 (fun r h=>r=DB (decide (xs=ys))∧h=[]) (DB b) hp:=fun b hp h=>RetOb.plain (d:=DB _) ⟨by rw [h],rfl⟩ rfl
  by_cases hlen:xs.length=ys.length
  · have hb:((xs.length:Int) != ys.length)=false:=by simp [hlen]
    have he:((xs.length:Int)=ys.length)=True:=eq_true (by omega)
    refine dc_of_go Try.func131 rfl (by simp) ?_
    refine drv_sound (n:=100) (rs:=_) Try.func131 mo rfl none _ _ ?_
    simp only [go_sem,ints,hb,he]
    refine Go.loopL (fun i:Nat=>[(0,ints xs),(1,ints ys),(5,DI .i64 i)]) (fun _=>[]) 1024 (fun i=>i≤xs.length∧decide (xs=ys)=decide (xs.drop i=ys.drop i)) (fun i=>xs.length - i) ?_ 0 some [] _ ⟨Nat.zero_le _,rfl⟩ ?_
    · intro i hi again
      refine drv_sound (n:=100) (rs:=_) Try.func131 mo rfl none _ _ ?_
      rcases Nat.lt_or_ge i xs.length with hlt | hge
      · obtain ⟨x,hx⟩:∃ x,xs[i]? = some x:=⟨xs[i],by simp [hlt]⟩
        obtain ⟨y,hy⟩:∃ y,ys[i]? = some y:=⟨ys[i]'(by omega),by simp⟩
        have hI:=hi.2
        obtain ⟨_,ex⟩:=List.getElem?_eq_some_iff.1 hx
        obtain ⟨hyl,ey⟩:=List.getElem?_eq_some_iff.1 hy
        rw [List.drop_eq_getElem_cons hlt,List.drop_eq_getElem_cons hyl,ex,ey] at hI
        simp only [go_sem,ints,hx,hy,hlt]
        (with_reducible and_intros)<;>try exact sd
        · intro hne;exact ret _ _ (by rw [hI];simp [hne])
        · intro heq;exact ⟨by simp only [InK];omega,again (i+1) some [] _ ⟨by omega,by rw [hI];simp [heq]⟩ (by omega) (Mt.slots (by
            simp only [go_sem,TmOK,DM,DMs,CM,CMs,forall_eq,exists_eq_left,ints]))⟩
      · have hn:¬ i<xs.length:=by omega
        simp only [go_sem,ints,hn]
        refine ret _ _ ?_
        rw [hi.2,List.drop_of_length_le hge,List.drop_of_length_le (by omega)];rfl
    · refine Mt.slots ?_
      simp only [go_sem,TmOK,DM,DMs,CM,CMs,forall_eq,exists_eq_left,ints]
  · have hb:((xs.length:Int) != ys.length)=true:=by simp;omega
    have he:((xs.length:Int)=ys.length)=False:=eq_false (by omega)
    refine dc_of_go Try.func131 rfl (by simp) ?_
    refine drv_sound (n:=100) (rs:=_) Try.func131 mo rfl none _ _ ?_
    simp only [go_sem,ints,hb,he]
    refine ret _ _ ?_
    symm;rw [decide_eq_false_iff_not];intro h;exact hlen (by rw [h])
end Go.Proofs.Ytddanjifhdaebaa.CtR
namespace Go.Proofs.Ytddanjifhdaebaa.CtD
open Go Go.CT CtF CtR
variable [Yn]
end Go.Proofs.Ytddanjifhdaebaa.CtD
namespace Go.Proofs.Ytddanjifhdaebaa.CtR
variable [Go.CT.Yn]
open Go Go.CT CtF
open Go Go.CT CtF
end Go.Proofs.Ytddanjifhdaebaa.CtR
namespace Go.Proofs.Ytddanjifhdaebaa.CtD
open Go Go.CT CtF CtR
variable [Yn]
def bl (n N:Nat):List Bool:=(List.range n).map fun i=>N.testBit i
end Go.Proofs.Ytddanjifhdaebaa.CtD
