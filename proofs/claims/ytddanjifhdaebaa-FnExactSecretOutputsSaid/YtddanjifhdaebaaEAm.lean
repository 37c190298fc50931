/- Contracts of functions of the program, one behind the other, as plain data: what each call returns and which blocks it leaves. -/
import Derived.Test.YtddanjifhdaebaaEFacts
import Derived.Test.YtddanjifhdaebaaTG1
import Derived.Test.YtddanjifhdaebaaEAw
import Derived.Test.YtddanjifhdaebaaEAk
import Derived.Test.YtddanjifhdaebaaEAl
set_option linter.unusedVariables false
set_option linter.unusedSimpArgs false
set_option linter.unusedSectionVars false
set_option maxHeartbeats 16000000
set_option maxRecDepth 100000
namespace Go.Proofs.Ytddanjifhdaebaa.CtR
open Go Go.CT CtF
variable [Yn]
theorem kf_I (xs:List Int):∀ c ∈ xs.map I64,kf c=true:=by
  intro c hc;obtain ⟨x,_,rfl⟩:=List.mem_map.1 hc;rfl
theorem kf_A (xs:List (List Int)):∀ c ∈ xs.map isI,kf c=true:=by
  intro c hc;obtain ⟨x,_,rfl⟩:=List.mem_map.1 hc;rfl
theorem flat_I (xs:List Int):(xs.map fun n=>[I64 n]).flatten=xs.map I64:=flat1 _ _
theorem flat_A (xs:List (List Int)):(xs.map fun n=>[isI n]).flatten=xs.map isI:=flat1 _ _
theorem RetOb.new1 {R:D→List (Option (List C))→Prop} {sz n k:Nat} {cs:List C} {hp:Hp} (hR:R (.c (.msl 0 sz 0 n)) [some cs]) (hb:hp k=some (some cs)) (hkf:∀ c ∈ cs,kf c=true):RetOb 0 R (.c (.msl k sz 0 n)) hp :=
  RetOb.of (fun j=>if j=0 then some k else none) [] (.c (.msl 0 sz 0 n)) [some cs] (subH_one rfl hb hkf) (by simp [DM,CM,hpL]) hR (by simp)
theorem RetOb.newNil {R:D→List (Option (List C))→Prop} {sz:Nat} {hp:Hp} (hR:R (.c (.msl 0 sz 0 0)) [some []]):RetOb 0 R (.c (.v (.slice none 0 0))) hp :=
  RetOb.of (fun j=>none) [] (.c (.msl 0 sz 0 0)) [some []] ⟨fun k cs h=>by
    match k with
    | 0=>simp [hpL] at h;exact .inr ⟨rfl,h⟩
    | k+1=>simp [hpL] at h,fun k k' cs cs' j _ _ h=>by simp at h,fun k h=>by omega⟩ (by simp [DM,CM,hpL]) hR (by simp)
theorem cloneI (xs:List Int) (hl:xs.length≤1000000):DC Try.prog 98 [ints xs] [] (fun d h=>d = .c (.msl 0 1 0 xs.length)∧h=[some (xs.map I64)]):=by
  have hmx:=mx_eq
  cases xs with
  | nil =>
    refine DC.isl0 fun a c=>?_
    refine dc_of_go Try.func98 rfl (by simp) ?_
    refine drv_sound (n:=100) (rs:=_) Try.func98 mo rfl none _ _ ?_
    cases a with
    | none =>
      simp only [go_sem,ints,isI,I64]
      exact RetOb.newNil ⟨rfl,rfl⟩
    | some a =>
      simp only [go_sem,ints,isI,I64]
      refine ⟨fun k e=>by cases e;rfl,RetOb.new1 ⟨rfl,rfl⟩ (upd_same _ _ _) (by simp)⟩
  | cons a r =>
    have hr:r.length+1≤1000000:=hl
    have hf:=congrArg List.length (flat_I (a :: r))
    simp only [List.map_cons,List.length_cons,List.length_map,isI,I64] at hf
    refine dc_of_go Try.func98 rfl (by simp) ?_
    refine drv_sound (n:=100) (rs:=_) Try.func98 mo rfl none _ _ ?_
    simp only [go_sem,ints,isI,I64]
    refine ⟨⟨fun k e=>by cases e;rfl,by first | exact hf | simpa using hf,by omega,by omega⟩,RetOb.new1 ⟨rfl,rfl⟩ ?_ (kf_I (a :: r))⟩
    rw [← flat_I]
    exact upd_same _ _ _
theorem cloneA (xs:List (List Int)) (hl:xs.length≤1000000):DC Try.prog 168 [.c (.isl 1 (xs.map fun a=>[isI a]))] [] (fun d h=>d = .c (.msl 0 1 0 xs.length)∧h=[some (xs.map isI)]):=by
  have hmx:=mx_eq
  cases xs with
  | nil =>
    refine DC.isl0 fun a c=>?_
    refine dc_of_go Try.func168 rfl (by simp) ?_
    refine drv_sound (n:=100) (rs:=_) Try.func168 mo rfl none _ _ ?_
    cases a with
    | none =>
      simp only [go_sem,ints,isI,I64]
      exact RetOb.newNil ⟨rfl,rfl⟩
    | some a =>
      simp only [go_sem,ints,isI,I64]
      refine ⟨fun k e=>by cases e;rfl,RetOb.new1 ⟨rfl,rfl⟩ (upd_same _ _ _) (by simp)⟩
  | cons a r =>
    have hr:r.length+1≤1000000:=hl
    have hf:=congrArg List.length (flat_A (a :: r))
    simp only [List.map_cons,List.length_cons,List.length_map,isI,I64] at hf
    refine dc_of_go Try.func168 rfl (by simp) ?_
    refine drv_sound (n:=100) (rs:=_) Try.func168 mo rfl none _ _ ?_
    simp only [go_sem,ints,isI,I64]
    refine ⟨⟨fun k e=>by cases e;rfl,by first | exact hf | simpa using hf,by omega,by omega⟩,RetOb.new1 ⟨rfl,rfl⟩ ?_ (kf_A (a :: r))⟩
    rw [← flat_A]
    exact upd_same _ _ _
def hdr (b b' na:Nat):List C:=[C.msl b 1 0 4,.msl b' 1 0 4].take na
def blk0 (arr:List (List Int)):List C:=((arr[0]?).getD []).map I64
def blk1 (arr:List (List Int)):List C:=((arr[1]?).getD []).map I64
def memB (b:Nat) (m:Mm):List (Option (List C)):=[some (m.vals.map I64),some (hdr b (b+1) m.arrays.length),some (blk0 m.arrays),some (blk1 m.arrays)]
theorem CMs_I {hT hS:Hp} {r:Nat→Option Nat} {fz:List Nat} (xs:List Int):CMs hT r hS fz (xs.map I64) (xs.map I64)=True:=eq_true (CMs.kf (kf_I xs))
theorem flat_I' (xs:List Int):(xs.map fun n=>[C.v (.int .i64 n)]).flatten=xs.map I64:=flat1 _ _
theorem renCs_I (r:Nat→Nat) (xs:List Int):renCs r (xs.map I64)=xs.map I64:=by
  induction xs with
  | nil=>rfl
  | cons a t ih=>simp only [List.map_cons,renCs,ih];rfl
def trC (tr:List Ev):List C:=(tr.map Ev.cells).flatten
theorem trC_kf (tr:List Ev):∀ c ∈ trC tr,kf c=true:=by
  unfold trC
  induction tr with
  | nil=>simp
  | cons a t ih =>
    intro c hc
    rw [List.map_cons,List.flatten_cons,List.mem_append] at hc
    rcases hc with hc | hc
    · simp only [Ev.cells,List.mem_cons,List.not_mem_nil,or_false] at hc
      rcases hc with rfl | rfl<;>rfl
    · exact ih c hc
theorem CMs_tr {hT hS:Hp} {r:Nat→Option Nat} {fz:List Nat} (tr:List Ev):CMs hT r hS fz (trC tr) (trC tr)=True:=eq_true (CMs.kf (trC_kf tr))
theorem own (m:Mm) (hv:m.vals.length≤1000) (ha:m.arrays.length≤2) (h4:∀ a ∈ m.arrays,a.length=4):DC Try.prog 120 [.agg m.cells] [] (fun d h=>d = .agg [.msl 0 1 0 m.vals.length,.msl 1 1 0 m.arrays.length]∧h=memB 2 m):=by
  have hmx:=mx_eq
  obtain ⟨va,arr⟩:=m
  have hv:va.length≤1000:=hv
  have ha2:arr.length≤2:=ha
  refine dc_of_go Try.func120 rfl (by simp) ?_
  refine drv_sound (n:=100) (rs:=_) Try.func120 mo rfl none _ _ ?_
  simp only [go_sem,Mm.cells,isI,I64,Int.reduceLT,renCs_I]
  (with_reducible and_intros)<;>try exact sd
  refine XK.callG [] (cloneI va (by omega)) ok98 (fun i' x h=>by simp at h) (hbT ()) (fun d h' ⟨_,e⟩=>by subst e;simp) ?_ (fun _=>⟨by kernel_rfl,_,_,⟨rfl,rfl⟩,Nat.zero_le _⟩)
  rintro _ _ ⟨rfl,rfl⟩ _
  refine drv_sound (n:=100) (rs:=_) Try.func120 mo rfl (some _) _ _ ?_
  simp only [go_sem,Mm.cells,isI,I64,Int.reduceLT,renCs_I]
  (with_reducible and_intros)<;>try exact sd
  refine XK.callG [] (cloneA arr (by omega)) ok168 (fun i' x h=>by simp at h) (hbT ()) (fun d h' ⟨_,e⟩=>by subst e;simp) ?_ (fun _=>⟨by kernel_rfl,_,_,⟨rfl,rfl⟩,Nat.zero_le _⟩)
  rintro _ _ ⟨rfl,rfl⟩ _
  refine drv_sound (n:=100) (rs:=_) Try.func120 mo rfl (some _) _ _ ?_
  simp only [go_sem,Mm.cells,isI,I64,Int.reduceLT,renCs_I]
  (with_reducible and_intros)<;>try exact sd
  match arr,ha,h4 with
  | [],_,_ =>
    refine Go.loop ?_
    refine drv_sound (n:=100) (rs:=_) Try.func120 mo rfl none _ _ ?_
    simp only [go_sem,Mm.cells,isI,I64,Int.reduceLT,renCs_I]
    refine RetOb.ofQ (fun j=>if j=0 then some 256 else if j=1 then some 448 else none) [] (.agg [.msl 0 1 0 va.length,.msl 1 1 0 0]) (memB 2 ⟨va,[]⟩) ?_ ⟨rfl,rfl⟩ (by simp)
    simp [memB,enumL,hOf,hdr,blk0,blk1,DM,CM,CMs,HpOK,LowOK,upd,CMs_I,isI]
  | [a],_,h4 =>
    have h4a:a.length=4:=h4 a (by simp)
    refine Go.loop ?_
    refine drv_sound (n:=100) (rs:=_) Try.func120 mo rfl none _ _ ?_
    simp only [go_sem,Mm.cells,isI,I64,Int.reduceLT,renCs_I]
    (with_reducible and_intros)<;>try exact sd
    refine XK.callG [] (cloneI a (by omega)) ok98 (fun i' x h=>by simp at h) (hbT ()) (fun d h' ⟨_,e⟩=>by subst e;simp) ?_ (fun _=>⟨by kernel_rfl,_,_,⟨rfl,rfl⟩,Nat.zero_le _⟩)
    rintro _ _ ⟨rfl,rfl⟩ _
    refine drv_sound (n:=100) (rs:=_) Try.func120 mo rfl (some _) _ _ ?_
    simp only [go_sem,Mm.cells,isI,I64,Int.reduceLT,renCs_I]
    (with_reducible and_intros)<;>try exact sd
    refine Go.inLoop ?_
    refine drv_sound (n:=100) (rs:=_) Try.func120 mo rfl none _ _ ?_
    simp only [go_sem,Mm.cells,isI,I64,Int.reduceLT,renCs_I]
    refine RetOb.ofQ (fun j=>if j=0 then some 256 else if j=1 then some 448 else if j=2 then some 1664 else none) [] (.agg [.msl 0 1 0 va.length,.msl 1 1 0 1]) (memB 2 ⟨va,[a]⟩) ?_ ⟨rfl,rfl⟩ (by simp)
    simp [memB,enumL,hOf,hdr,blk0,blk1,DM,CM,CMs,HpOK,LowOK,upd,CMs_I,isI,h4a]
  | [a,b],_,h4 =>
    have h4a:a.length=4:=h4 a (by simp)
    have h4b:b.length=4:=h4 b (by simp)
    refine Go.loop ?_
    refine drv_sound (n:=100) (rs:=_) Try.func120 mo rfl none _ _ ?_
    simp only [go_sem,Mm.cells,isI,I64,Int.reduceLT,renCs_I]
    (with_reducible and_intros)<;>try exact sd
    refine XK.callG [] (cloneI a (by omega)) ok98 (fun i' x h=>by simp at h) (hbT ()) (fun d h' ⟨_,e⟩=>by subst e;simp) ?_ (fun _=>⟨by kernel_rfl,_,_,⟨rfl,rfl⟩,Nat.zero_le _⟩)
    rintro _ _ ⟨rfl,rfl⟩ _
    refine drv_sound (n:=100) (rs:=_) Try.func120 mo rfl (some _) _ _ ?_
    simp only [go_sem,Mm.cells,isI,I64,Int.reduceLT,renCs_I]
    (with_reducible and_intros)<;>try exact sd
    refine Go.inLoop ?_
    refine drv_sound (n:=100) (rs:=_) Try.func120 mo rfl none _ _ ?_
    simp only [go_sem,Mm.cells,isI,I64,Int.reduceLT,renCs_I]
    (with_reducible and_intros)<;>try exact sd
    refine XK.callG [] (cloneI b (by omega)) ok98 (fun i' x h=>by simp at h) (hbT ()) (fun d h' ⟨_,e⟩=>by subst e;simp) ?_ (fun _=>⟨by kernel_rfl,_,_,⟨rfl,rfl⟩,Nat.zero_le _⟩)
    rintro _ _ ⟨rfl,rfl⟩ _
    refine drv_sound (n:=100) (rs:=_) Try.func120 mo rfl (some _) _ _ ?_
    simp only [go_sem,Mm.cells,isI,I64,Int.reduceLT,renCs_I]
    (with_reducible and_intros)<;>try exact sd
    refine Go.inLoop ?_
    refine drv_sound (n:=100) (rs:=_) Try.func120 mo rfl none _ _ ?_
    simp only [go_sem,Mm.cells,isI,I64,Int.reduceLT,renCs_I]
    refine RetOb.ofQ (fun j=>if j=0 then some 256 else if j=1 then some 448 else if j=2 then some 1664 else if j=3 then some 2624 else none) [] (.agg [.msl 0 1 0 va.length,.msl 1 1 0 2]) (memB 2 ⟨va,[a,b]⟩) ?_ ⟨rfl,rfl⟩ (by simp)
    simp [memB,enumL,hOf,hdr,blk0,blk1,DM,CM,CMs,HpOK,LowOK,upd,CMs_I,isI,h4a,h4b]
def nth (l:List Int) (i:Int):Int:=l.getD i.toNat 0
structure MemFits (p : Pg) (m : Mm) : Prop where
  nv:m.vals.length=p.vars.length
  na:m.arrays.length=p.arrays.length
  nv12:1≤p.vars.length∧p.vars.length≤12
  na2:p.arrays.length≤2
  val:∀ x ∈ m.vals,0≤x∧x≤255
  arr:∀ a ∈ m.arrays,a.length=4∧∀ x ∈ a,0≤x∧x≤255
theorem kf_app {a b:List C} (h1:∀ c ∈ a,kf c=true) (h2:∀ c ∈ b,kf c=true):∀ c ∈ a++b,kf c=true:=fun c hc=>(List.mem_append.1 hc).elim (h1 c) (h2 c)
theorem stmtOK_succ {p : Pg} {d : Nat} {k t : Int} {ix v : Ex} {c : Int} {b e : List St1} (h : stmtOK p (d + 1) (.mk k t ix v c b e) = true) :
    headOK p k t ix v c b.length e.length=true∧(∀ x ∈ b,stmtOK p d x=true)∧(∀ x ∈ e,stmtOK p d x=true):=by
  simp only [stmtOK,Bool.and_eq_true,List.all_eq_true] at h
  exact ⟨h.1.1,h.1.2,h.2⟩
theorem right_shape {p:Pg} {e:Ex} (h:right p e=true):shape p 5 e=true∧cnt 5 e≤15:=by
  simp only [right,Bool.and_eq_true,decide_eq_true_eq] at h
  exact ⟨h.1,by omega⟩
theorem head_kind {p : Pg} {k t : Int} {ix v : Ex} {c : Int} {bn en : Nat} (h : headOK p k t ix v c bn en = true) :
    (k=1∨k=5)∧0≤t∧t<p.vars.length∧right p v=true∨k=2∧0≤t∧t<p.arrays.length∧right p ix=true∧atom ix=true∧right p v=true∨k=3∧right p v=true∨k=4∧1≤c∧c≤3:=by
  unfold headOK parts blk at h
  by_cases h1:k=1∨k=5
  · left;simp only [if_pos h1] at h;grind
  · right
    by_cases h2:k=2
    · left;subst h2;simp at h;grind
    · right
      by_cases h3:k=3
      · left;subst h3;simp at h;grind
      · right
        have h4:k=4:=by grind
        subst h4;simp at h;grind
theorem body_of {p:Pg} (h:progOK p=true):(∀ s ∈ p.body,stmtOK p 5 s=true)∧lsize 5 p.body≤60:=by
  simp only [progOK,Bool.and_eq_true,decide_eq_true_eq,List.all_eq_true] at h
  exact ⟨h.1.2,by omega⟩
def trD (tr:List Ev):C := .isl 2 (tr.map Ev.cells)
theorem RetOb.step {m : Nat} {R : D → List (Option (List C)) → Prop} {d : D} {hp : Hp} (r : Nat → Option Nat) (fz : List Nat) (d' : D) (hl : List (Nat × Option (List C)))
    (hM:DM (hOf hl) r hp fz d' d∧HpOK (hOf hl) r hp fz hl∧LowOK r (hOf hl) m∧((hl.filterMap fun p=>p.2.map fun _=>p.1).filterMap r).Nodup) (hn:RetOb m R d' (hOf hl)):RetOb m R d hp:=fun I w s v H hv=>by
  have h:Mq m r fz [] hl ⟨fun _=>none,hp,0⟩:=⟨trivial,hM.2.1,hM.2.2.1,hM.2.2.2⟩
  obtain ⟨H',E'⟩:=h.subH.sim H
  obtain ⟨I',s',d2,h2,g1,g2,g3,g4,g5⟩:=hn _ w _ v H' (DM.rd H d' d hM.1 hv)
  exact ⟨I',s',d2,h2,g1,g2,g3,E'.trans g4,g5⟩
theorem RetOb.run {R : D → List (Option (List C)) → Prop} {p : Pg} {m : Mm} {tr : List Ev} {ok : Bool} {hp : Hp} {k0 k1 k2 k3 kt n : Nat} {cs : List C} (hm : MemFits p m) (hR : R (.tup [.agg m.cells, .c (trD tr), DB ok]) [])
    (h0:hp k0=some (some (m.vals.map I64))) (h1:hp k1=some (some (hdr k2 k3 p.arrays.length))) (h2:hp k2=some (some (blk0 m.arrays))) (h3:hp k3=some (some (blk1 m.arrays))) (ht:hp kt=some (some cs)) (hcs:cs=trC tr) (hn:n=tr.length)
    (hne:k0 ≠ k1∧k0 ≠ k2∧k0 ≠ k3∧k1 ≠ k2∧k1 ≠ k3∧k2 ≠ k3∧kt ≠ k0∧kt ≠ k1∧kt ≠ k2∧kt ≠ k3):RetOb 0 R (.tup [.agg [.msl k0 1 0 p.vars.length,.msl k1 1 0 p.arrays.length],.c (.msl kt 2 0 n),DB ok]) hp:=by
  subst hcs hn
  obtain ⟨va,arr⟩:=m
  have hnv:va.length=p.vars.length:=hm.nv
  have hna:arr.length=p.arrays.length:=hm.na
  have hna2:=hm.na2
  have h4:∀ a ∈ arr,a.length=4:=fun a ha=>(hm.arr a ha).1
  obtain ⟨n01,n02,n03,n12,n13,n23,nt0,nt1,nt2,nt3⟩:=hne
  rw [← hnv,← hna]
  rw [← hna] at h1 hna2
  refine RetOb.step (fun j=>if j=0 then some k0 else if j=1 then some k1 else if j=2 then some kt else none) [k2,k3] (.tup [.agg [.msl 0 1 0 va.length,.msl 1 1 0 arr.length],.c (.msl 2 2 0 tr.length),DB ok]) [(0,some (va.map I64)),(1,some (arr.map isI)),(2,some (trC tr))] ?_ ?_
  · have e3:∀ a:List Int,(a.map fun n=>[C.v (.int .i64 n)]).flatten=a.map I64:=fun a=>flat1 _ a
    match arr,hna2,h4,h1,h2,h3 with
    | [],_,h4,h1,h2,h3=>simp [DM,DMs,CM,CMs,HpOK,LowOK,hOf,upd,h0,ht,CMs_I,CMs_tr,h1,hdr,n01,n02,n03,n12,n13,n23,nt0,nt1,nt2,nt3,Ne.symm n01,Ne.symm nt0,Ne.symm nt1,Ne.symm n23]
    | [a],_,h4,h1,h2,h3 =>
      have ha:=h4 a (by simp)
      simp [DM,DMs,CM,CMs,HpOK,LowOK,hOf,upd,h0,ht,CMs_I,CMs_tr,h1,h2,hdr,n01,n02,n03,n12,n13,n23,nt0,nt1,nt2,nt3,Ne.symm n01,Ne.symm nt0,Ne.symm nt1,Ne.symm n23,e3,isI,ha,blk0,kf]
    | [a,b],_,h4,h1,h2,h3 =>
      have ha:=h4 a (by simp)
      have hb:=h4 b (by simp)
      simp [DM,DMs,CM,CMs,HpOK,LowOK,hOf,upd,h0,ht,CMs_I,CMs_tr,h1,h2,h3,hdr,n01,n02,n03,n12,n13,n23,nt0,nt1,nt2,nt3,Ne.symm n01,Ne.symm nt0,Ne.symm nt1,Ne.symm n23,e3,isI,ha,hb,blk0,blk1,kf]
  · refine RetOb.ofQ (fun _=>none) [0,1,2] _ [] ⟨?_,trivial,trivial,by simp [enumL]⟩ hR (Nat.zero_le _)
    have e4:∀ l:List (List Int),(l.map fun a=>[C.isl 1 (a.map fun n=>[I64 n])]).flatten=l.map isI:=fun l=>flat1 _ l
    have e5:(tr.map Ev.cells).flatten=trC tr:=rfl
    simp [DM,DMs,CM,CMs,hOf,upd,Mm.cells,isI,trD,flat_I,kf,e5]
    exact ⟨(flat1 isI arr).symm,fun a _=>rfl,fun a _ c hc=>by
      simp only [Ev.cells,List.mem_cons,List.not_mem_nil,or_false] at hc
      rcases hc with rfl | rfl<;>rfl⟩
end Go.Proofs.Ytddanjifhdaebaa.CtR
namespace Go.Proofs.Ytddanjifhdaebaa.CtD
open Go Go.CT CtF
variable [Yn]
def rdr (bs:List Int) (p:Int):List C:=[.isl 1 (bs.map fun n=>[.v (.int .u8 n)]),.v (.int .i64 p)]
theorem pick (bs : List Int) (p : Nat) (n : Int) (hb : Fits .u8 bs) (hl : bs.length ≤ 2000) (h1 : p ≤ 1099511627776) (hn : InK .i64 n) : DC Try.prog 158 [.c (.ptr 0 0), DI .i64 n] [some (rdr bs p)]
    (fun d h=>∃ v:Int,d=DI .i64 v∧((n<1∨bs=[])∧v=0∨0≤v∧v<n)∧h=[some (rdr bs ((p+1:Nat):Int))]):=by
  have hmx:=mx_eq
  refine dc_of_go Try.func158 rfl (by simp) ?_
  have ret:∀ (v:Int) (hp:Hp),((n<1∨bs=[])∧v=0∨0≤v∧v<n)→hp 0=some (some [.isl 1 (bs.map fun n=>[.v (.int .u8 n)]),.v (.int .i64 (p+1))]) →
      RetOb 1 (fun d h=>∃ v:Int,d = .c (.v (.int .i64 v))∧((n<1∨bs=[])∧v=0∨0≤v∧v<n)∧h=[some [.isl 1 (bs.map fun n=>[.v (.int .u8 n)]),.v (.int .i64 (p+1))]]) (.c (.v (.int .i64 v))) hp:=fun v hp hv hhp=>by
    refine RetOb.of (fun k=>if k=0 then some 0 else none) [] (DI .i64 v) [_] (subH_one' rfl hhp (by simp [kf]) (by simp)) (by simp [DM,CM,DI]) ⟨v,rfl,hv,rfl⟩ (by simp)
  refine drv_sound (n:=37) (rs:=_) Try.func158 mo rfl none _ _ ?_
  simp (maxSteps:=10000000) (maxDischargeDepth:=300) only [go_sem,rdr,List.length_eq_zero_iff,Int.natCast_eq_zero]
  refine ⟨by simp only [InK];omega,fun h=>ret _ _ (.inl ⟨h,rfl⟩) (upd_same _ _ _),fun h=>?_⟩
  have hbl:0<bs.length:=List.length_pos_iff.2 h.2
  have hby:∀ {j:Nat} {x:Int},bs[j]? = some x→0≤x∧x≤255:=fun {j x} hx=>by
    obtain ⟨hlt,e⟩:=List.getElem?_eq_some_iff.1 hx
    exact hb x (e ▸ List.getElem_mem hlt)
  have hrem:∀ a:Int,0≤a→0≤a % n∧a % n<n:=fun a _=>⟨Int.emod_nonneg _ (by omega),Int.emod_lt_of_pos _ (by omega)⟩
  refine drv_sound (n:=100) (rs:=_) Try.func158 mo rfl (some _) _ _ ?_
  rcases Nat.lt_or_ge p bs.length with hlt | hge
  · obtain ⟨x,hx⟩:∃ x,bs[p]? = some x:=⟨bs[p],by simp⟩
    have hxb:=hby hx
    have hnlt:¬ bs.length≤p:=by omega
    simp (maxSteps:=10000000) (maxDischargeDepth:=300) only [go_sem,hx,hlt,hnlt]
    exact ⟨by simp only [InK];omega,by simp only [InK];omega,by omega,ret _ _ (.inr (hrem x hxb.1)) (upd_same _ _ _)⟩
  · have hnlt:¬ p<bs.length:=by omega
    have hm1:((p:Int) % bs.length).toNat<bs.length:=by
      have:=Int.emod_lt_of_pos (p:Int) (b:=bs.length) (by omega)
      have:=Int.emod_nonneg (p:Int) (b:=bs.length) (by omega)
      omega
    have hm2:(((p:Int) * 7+3) % bs.length).toNat<bs.length:=by
      have:=Int.emod_lt_of_pos ((p:Int) * 7+3) (b:=bs.length) (by omega)
      have:=Int.emod_nonneg ((p:Int) * 7+3) (b:=bs.length) (by omega)
      omega
    obtain ⟨x,hx⟩:∃ x,bs[((p:Int) % bs.length).toNat]? = some x:=⟨_,List.getElem?_eq_getElem hm1⟩
    obtain ⟨y,hy⟩:∃ x,bs[(((p:Int) * 7+3) % bs.length).toNat]? = some x:=⟨_,List.getElem?_eq_getElem hm2⟩
    have hxb:=hby hx
    have hyb:=hby hy
    simp (maxSteps:=10000000) (maxDischargeDepth:=300) only [go_sem,hx,hy,hge,hnlt]
    have hq0:0≤(p:Int) / bs.length:=Int.ediv_nonneg (by omega) (by omega)
    have hq1:(p:Int) / bs.length≤p:=Int.ediv_le_self _ (by omega)
    generalize (p:Int) / bs.length=q at *
    repeat' with_reducible apply And.intro
    all_goals first | kernel_rfl | (simp only [InK];omega) | omega | exact Int.emod_nonneg _ (by omega) | exact ret _ _ (.inr (hrem _ (Int.natCast_nonneg _))) (upd_same _ _ _)
theorem num (bs : List Int) (p : Nat) (xs : List Int) (hb : Fits .u8 bs) (hl : bs.length ≤ 2000) (h1 : p ≤ 1099511627776) (hx0 : 0 < xs.length) (hx1 : xs.length ≤ mx) : DC Try.prog 159 [.c (.ptr 0 0), ints xs] [some (rdr bs p)]
    (fun d h=>∃ v:Int,d=DI .i64 v∧v ∈ xs∧h=[some (rdr bs ((p+1:Nat):Int))]):=by
  have hmx:=mx_eq
  refine dc_of_go Try.func159 rfl (by simp) ?_
  refine drv_sound (n:=100) (rs:=_) Try.func159 mo rfl none _ _ ?_
  simp (maxSteps:=10000000) (maxDischargeDepth:=300) only [go_sem,rdr,ints]
  refine XK.callG [0] (pick bs p xs.length hb hl h1 (by simp only [InK];omega)) ok158 (hhp_one rfl) (fun j hj=>by simp [hpL]) (fun d h' ⟨v,_,_,e⟩=>by subst e;simp) ?_
  rintro d h' ⟨v,rfl,hv,rfl⟩ _
  have hv2:0≤v∧v<xs.length:=by
    rcases hv with ⟨h | h,_⟩ | h
    · omega
    · omega
    · exact h
  refine drv_sound (n:=100) (rs:=_) Try.func159 mo rfl (some _) _ _ ?_
  obtain ⟨y,hy⟩:∃ y,xs[v.toNat]? = some y:=⟨xs[v.toNat]'(by omega),List.getElem?_eq_getElem (by omega)⟩
  have hmem:y ∈ xs:=List.mem_of_getElem? hy
  simp (maxSteps:=10000000) (maxDischargeDepth:=300) only [go_sem,rdr,ints,hy]
  exact ⟨by omega,RetOb.keep1 (d:=DI .i64 y) (cs:=rdr bs ((p+1:Nat):Int)) ⟨y,rfl,hmem,rfl⟩ rfl (by simp [rdr,kf]) rfl⟩
end Go.Proofs.Ytddanjifhdaebaa.CtD
namespace Go.Proofs.Ytddanjifhdaebaa.CtR
end Go.Proofs.Ytddanjifhdaebaa.CtR
namespace Go.Proofs.Ytddanjifhdaebaa.CtD
open Go Go.CT CtF CtR
variable [Yn]
def exC (l:List Ex):List C:=(l.map Ex.cells).flatten
theorem exC_len (l:List Ex):(exC l).length=l.length * 3:=by
  unfold exC
  induction l with
  | nil=>rfl
  | cons a r ih=>simp only [List.map_cons,List.flatten_cons,List.length_append,ih,Ex.cells_len,List.length_cons];omega
theorem ex_kf (e:Ex):∀ c ∈ e.cells,kf c=true:=by cases e;simp [Ex.cells,kf]
theorem exC_kf (l:List Ex):∀ c ∈ exC l,kf c=true:=by
  unfold exC
  intro c hc
  obtain ⟨x,hx,hc⟩:=List.mem_flatten.1 hc
  obtain ⟨e,_,rfl⟩:=List.mem_map.1 hx
  exact ex_kf e c hc
theorem exC_snoc (l:List Ex) (e:Ex):exC (l++[e])=exC l++e.cells:=by simp [exC]
def stC (l:List St1):List C:=(l.map St1.cells).flatten
theorem stC_len (l:List St1):(stC l).length=l.length * 11:=by
  unfold stC
  induction l with
  | nil=>rfl
  | cons a r ih=>simp only [List.map_cons,List.flatten_cons,List.length_append,ih,St1.cells_len,List.length_cons];omega
theorem st_kf (s:St1):∀ c ∈ s.cells,kf c=true:=by
  obtain ⟨k,t,ix,v,c,b,e⟩:=s
  intro x hx
  simp only [St1.cells,List.mem_append,List.mem_cons,List.not_mem_nil,or_false] at hx
  rcases hx with ((hx | hx) | hx) | hx
  · rcases hx with rfl | rfl<;>rfl
  · exact ex_kf _ _ hx
  · exact ex_kf _ _ hx
  · rcases hx with rfl | rfl | rfl<;>rfl
theorem stC_kf (l:List St1):∀ c ∈ stC l,kf c=true:=by
  unfold stC
  intro c hc
  obtain ⟨x,hx,hc⟩:=List.mem_flatten.1 hc
  obtain ⟨e,_,rfl⟩:=List.mem_map.1 hx
  exact st_kf e c hc
theorem stC_snoc (l:List St1) (s:St1):stC (l++[s])=stC l++s.cells:=by simp [stC]
theorem prog_len {p:Pg} (h:progOK p=true):1≤p.vars.length∧p.vars.length≤12∧p.arrays.length≤2:=by
  simp only [progOK,headsOK,Bool.and_eq_true,decide_eq_true_eq] at h
  obtain ⟨⟨⟨⟨⟨_,h1⟩,h2⟩,h3⟩,_⟩,_⟩:=h
  omega
end Go.Proofs.Ytddanjifhdaebaa.CtD
namespace Go.Proofs.Ytddanjifhdaebaa.CtR
open Go Go.CT CtF
variable [Yn]
def lab3 (l:List Int):Prop:=∀ x ∈ l,0≤x∧x≤3
theorem labs_of {p:Pg} (h:progOK p=true):lab3 p.vars∧lab3 p.arrays:=by
  simp only [progOK,headsOK,labs,Bool.and_eq_true,decide_eq_true_eq,List.all_eq_true] at h
  exact ⟨fun x hx=>h.1.1.1.2 x hx,fun x hx=>h.1.1.2 x hx⟩
theorem RetOb.two {R:D→List (Option (List C))→Prop} {a b:Int} {hp:Hp} (h:R (.tup [DI .i64 a,DI .i64 b]) []):RetOb 0 R (.tup [DI .i64 a,DI .i64 b]) hp :=
  RetOb.ofQ (fun _=>none) [] (.tup [DI .i64 a,DI .i64 b]) [] (by simp [enumL,DM,DMs,CM,HpOK,LowOK]) h (by simp)
abbrev BC (b:Bool):C := .v (.bool b)
def boolsC (bs:List Bool):List C:=bs.map BC
def boolsD (bs:List Bool):C := .isl 1 (bs.map fun b=>[BC b])
theorem boolsC_kf (bs:List Bool):∀ c ∈ boolsC bs,kf c=true:=by
  intro c hc;obtain ⟨x,_,rfl⟩:=List.mem_map.1 hc;rfl
theorem boolsC_set (bs:List Bool) (i:Nat) (b:Bool):(boolsC bs).set i (.v (.bool b))=boolsC (bs.set i b):=by
  unfold boolsC;rw [List.map_set]
theorem boolsC_len (bs:List Bool):(boolsC bs).length=bs.length:=by simp [boolsC]
theorem boolsC_rep (n:Nat) (b:Bool):(List.replicate n [C.v (.bool b)]).flatten=boolsC (List.replicate n b):=by
  induction n with
  | zero=>rfl
  | succ n ih=>rw [List.replicate_succ,List.flatten_cons,ih,List.replicate_succ];rfl
theorem boolsC_ren (r:Nat→Nat) (bs:List Bool):renCs r (boolsC bs)=boolsC bs:=by
  induction bs with
  | nil=>rfl
  | cons a r' ih=>simp only [boolsC,List.map_cons,renCs,renC] at ih ⊢;rw [ih]
theorem boolsC_flat (bs:List Bool):(bs.map fun b=>[BC b]).flatten=boolsC bs:=flat1 _ _
theorem cellI (p:Pg) (a:Int) (hl:p.vars.length≤mx) (ha:0≤a∧a≤1000):DC Try.prog 152 [.agg p.cells,DI .i64 a] [] (fun r h=>r=DI .i64 (p.vars.length+a)∧h=[]):=by
  have hmx:=mx_eq
  obtain ⟨vs,ar,bd⟩:=p
  have hl:vs.length≤mx:=hl
  refine dcZ Try.func152 ?_
  simp only [go_sem]
  iterate 2 ((try (refine drvZ Try.func152 ?_;simp only [go_sem]));((with_reducible and_intros)<;>try exact sd))
  exact RetOb.plain (d:=DI .i64 _) ⟨rfl,rfl⟩ rfl
theorem cellsI (p:Pg) (hl:p.vars.length≤mx) (hl2:p.arrays.length≤mx):DC Try.prog 95 [.agg p.cells] [] (fun r h=>r=DI .i64 ((p.vars.length+p.arrays.length:Nat):Int)∧h=[]):=by
  have hmx:=mx_eq
  obtain ⟨vs,ar,bd⟩:=p
  have hl:vs.length≤mx:=hl
  have hl2:ar.length≤mx:=hl2
  refine dcZ Try.func95 ?_
  simp only [go_sem]
  iterate 2 ((try (refine drvZ Try.func95 ?_;simp only [go_sem]));((with_reducible and_intros)<;>try exact sd))
  exact RetOb.plain (d:=DI .i64 _) ⟨rfl,rfl⟩ rfl
theorem cellsS (p:Pg) (hl:p.vars.length≤mx) (hl2:p.arrays.length≤mx):DC Try.prog 85 [.agg p.cells] [] (fun r h=>r=DI .i64 ((p.vars.length+p.arrays.length:Nat):Int)∧h=[]):=by
  have hmx:=mx_eq
  obtain ⟨vs,ar,bd⟩:=p
  have hl:vs.length≤mx:=hl
  have hl2:ar.length≤mx:=hl2
  refine dcZ Try.func85 ?_
  simp only [go_sem]
  iterate 2 ((try (refine drvZ Try.func85 ?_;simp only [go_sem]));((with_reducible and_intros)<;>try exact sd))
  exact RetOb.plain (d:=DI .i64 _) ⟨rfl,rfl⟩ rfl
theorem pow14 {n:Nat} (h:n<14):2 ^ n<16384:=Nat.lt_of_lt_of_le (Nat.pow_lt_pow_right (by decide) h) (by decide)
end Go.Proofs.Ytddanjifhdaebaa.CtR
namespace Go.Proofs.Ytddanjifhdaebaa.CtD
open Go Go.CT CtF CtR
variable [Yn]
theorem tbit (N k:Nat):((((N:Int) / 2 ^ k).toNat &&& 1:Nat):Int)=if N.testBit k then 1 else 0:=by
  have e:((N:Int) / 2 ^ k).toNat=N / 2 ^ k:=by
    have:((2:Int) ^ k)=((2 ^ k:Nat):Int):=by rw [Int.natCast_pow];rfl
    rw [this,← Int.natCast_ediv];rfl
  rw [e,Nat.and_one_is_mod,Nat.testBit_eq_decide_div_mod_eq]
  by_cases h:N / 2 ^ k % 2=1
  · simp [h]
  · have:N / 2 ^ k % 2=0:=by omega
    simp [this]
end Go.Proofs.Ytddanjifhdaebaa.CtD
namespace Go.Proofs.Ytddanjifhdaebaa.CtR
end Go.Proofs.Ytddanjifhdaebaa.CtR
namespace Go.Proofs.Ytddanjifhdaebaa.CtD
open Go Go.CT CtF CtR
variable [Yn]
theorem boolsC_at {L:List Bool} {i:Nat} (h:i<L.length):(boolsC L)[i]? = some (.v (.bool (L.getD i false))):=by
  unfold boolsC
  rw [List.getElem?_map,List.getD_eq_getElem?_getD,List.getElem?_eq_getElem h];rfl
end Go.Proofs.Ytddanjifhdaebaa.CtD
namespace Go.Proofs.Ytddanjifhdaebaa.CtF
end Go.Proofs.Ytddanjifhdaebaa.CtF
namespace Go.Proofs.Ytddanjifhdaebaa.CtR
end Go.Proofs.Ytddanjifhdaebaa.CtR
namespace Go.Proofs.Ytddanjifhdaebaa.CtD
open Go Go.CT CtF CtR
variable [Yn]
def jnA (L M : List Bool) : Nat → Bool × List Bool
  | 0=>(false,L)
  | i+1=>if M.getD i false && !(jnA L M i).2.getD i false then (true,(jnA L M i).2.set i true) else jnA L M i
theorem jnA_len (L M : List Bool) : ∀ i, (jnA L M i).2.length = L.length
  | 0=>rfl
  | i+1=>by
    rw [jnA]
    split
    · simp [jnA_len L M i]
    · exact jnA_len L M i
theorem jnA_hi (L M : List Bool) : ∀ i j, i ≤ j → (jnA L M i).2.getD j false = L.getD j false
  | 0,j,_=>rfl
  | i+1,j,h=>by
    rw [jnA]
    split
    · rw [← jnA_hi L M i j (by omega)]
      simp only [List.getD_eq_getElem?_getD]
      rw [List.getElem?_set_ne (by omega)]
    · exact jnA_hi L M i j (by omega)
theorem jnA_iff (L M : List Bool) : ∀ i, (jnA L M i).1 = true ↔ ∃ j, j < i ∧ M.getD j false = true ∧ L.getD j false = false
  | 0=>by simp [jnA]
  | i+1=>by
    have h:=jnA_iff L M i
    have h2:=jnA_hi L M i i (Nat.le_refl _)
    rw [jnA,h2]
    cases hm:M.getD i false with
    | false =>
      simp only [Bool.false_and,Bool.false_eq_true,if_false]
      rw [h]
      constructor
      · rintro ⟨j,a,b,c⟩;exact ⟨j,by omega,b,c⟩
      · rintro ⟨j,a,b,c⟩
        refine ⟨j,?_,b,c⟩
        rcases Nat.lt_or_eq_of_le (Nat.le_of_lt_succ a) with h | rfl
        · exact h
        · rw [hm] at b;cases b
    | true =>
      cases hl:L.getD i false with
      | true =>
        simp only [Bool.true_and,Bool.not_true,Bool.false_eq_true,if_false]
        rw [h]
        constructor
        · rintro ⟨j,a,b,c⟩;exact ⟨j,by omega,b,c⟩
        · rintro ⟨j,a,b,c⟩
          refine ⟨j,?_,b,c⟩
          rcases Nat.lt_or_eq_of_le (Nat.le_of_lt_succ a) with h | rfl
          · exact h
          · rw [hl] at c;cases c
      | false =>
        simp only [Bool.true_and,Bool.not_false,if_true,true_iff]
        exact ⟨i,by omega,hm,hl⟩
theorem joinS (L M : List Bool) (hl : L.length ≤ 1000) (hM : M.length = L.length) :
    DC Try.prog 93 [.c (.msl 0 1 0 L.length),.c (.msl 1 1 0 L.length)] [some (boolsC L),some (boolsC M)] (fun r h=>r=DB (jnA L M L.length).1∧h=[some (boolsC (jnA L M L.length).2),some (boolsC M)]):=by
  have hmx:=mx_eq
  have hfl:=jnA_len L M
  generalize hR:(fun (r:D) (h:List (Option (List C)))=>r=DB (jnA L M L.length).1∧h=[some (boolsC (jnA L M L.length).2),some (boolsC M)])=R
  refine dcZ Try.func93 ?_
  simp only [go_sem]
  ((try (refine drvZ Try.func93 ?_;simp only [go_sem]));((with_reducible and_intros)<;>try exact sd))
  refine Go.loopQ (fun i : Nat => [(0, .c (.msl 0 1 0 L.length)), (1, .c (.msl 1 1 0 L.length)), (5, DB (jnA L M i).1), (6, DI .i64 i)])
    (fun i=>[(0,some (boolsC (jnA L M i).2)),(1,some (boolsC M))]) 4096 (fun i=>i≤L.length) (fun i=>L.length - i) ?_ 0 some [] _ (Nat.zero_le _) ?_
  · intro i hi again
    have hFi:=hfl i
    rcases Nat.lt_or_ge i L.length with hlt | hge
    · have a1:=@boolsC_at _ M i (by omega)
      have a2:=@boolsC_at _ (jnA L M i).2 i (by omega)
      have hs:jnA L M (i+1)=if M.getD i false && !(jnA L M i).2.getD i false then (true,(jnA L M i).2.set i true) else jnA L M i:=rfl
      have hbl:=boolsC_len (jnA L M i).2
      rw [hFi] at hbl
      generalize jnA L M i=Fi at *
      obtain ⟨c,Li⟩:=Fi
      simp only at hFi hs a2 hbl
      cases hm:M.getD i false with
      | false =>
        rw [hm] at a1 hs
        simp only [Bool.false_and,Bool.false_eq_true,if_false] at hs
        refine drvL Try.func93 ?_
        simp only [go_sem,hlt,a1,a2]
        iterate 4 ((try (refine drvZ Try.func93 ?_;simp only [go_sem,hlt,a1,a2]));((with_reducible and_intros)<;>try exact sd))
        refine again (i+1) some [] _ hlt (by omega) ?_
        rw [hs]
        simp only [go_sem,TmOK,DM,DMs,CM,CMs,forall_eq,exists_eq_left,Mq,HpOK,LowOK]
        simp
        exact ⟨CMs.kf (boolsC_kf _),CMs.kf (boolsC_kf _)⟩
      | true =>
        rw [hm] at a1 hs
        cases hq:Li.getD i false with
        | true =>
          rw [hq] at a2 hs
          simp only [Bool.true_and,Bool.not_true,Bool.false_eq_true,if_false] at hs
          refine drvL Try.func93 ?_
          simp only [go_sem,hlt,a1,a2]
          iterate 4 ((try (refine drvZ Try.func93 ?_;simp only [go_sem,hlt,a1,a2]));((with_reducible and_intros)<;>try exact sd))
          refine again (i+1) some [] _ hlt (by omega) ?_
          rw [hs]
          simp only [go_sem,TmOK,DM,DMs,CM,CMs,forall_eq,exists_eq_left,Mq,HpOK,LowOK]
          simp
          exact ⟨CMs.kf (boolsC_kf _),CMs.kf (boolsC_kf _)⟩
        | false =>
          rw [hq] at a2 hs
          simp only [Bool.true_and,Bool.not_false,if_true] at hs
          refine drvL Try.func93 ?_
          simp only [go_sem,hlt,a1,a2]
          iterate 5 ((try (refine drvZ Try.func93 ?_;simp only [go_sem,hlt,a1,a2,boolsC_set,hbl]));((with_reducible and_intros)<;>try exact sd))
          refine again (i+1) some [] _ hlt (by omega) ?_
          rw [hs]
          simp only [go_sem,TmOK,DM,DMs,CM,CMs,forall_eq,exists_eq_left,Mq,HpOK,LowOK]
          simp
          exact ⟨CMs.kf (boolsC_kf _),CMs.kf (boolsC_kf _)⟩
    · have hn2:¬ i<L.length:=by omega
      obtain rfl:i=L.length:=by omega
      refine drvL Try.func93 ?_
      simp only [go_sem,hn2]
      iterate 2 ((try (refine drvZ Try.func93 ?_;simp only [go_sem,hn2]));((with_reducible and_intros)<;>try exact sd))
      refine RetOb.ofQ some [] (DB (jnA L M L.length).1) [some (boolsC (jnA L M L.length).2),some (boolsC M)] ?_ (by rw [← hR];exact ⟨rfl,rfl⟩) (by simp)
      simp [enumL,DM,DMs,CM,HpOK,LowOK,hOf,upd]
      exact ⟨CMs.kf (boolsC_kf _),CMs.kf (boolsC_kf _)⟩
  · simp only [go_sem,TmOK,DM,DMs,CM,CMs,forall_eq,exists_eq_left,Mq,HpOK,LowOK,jnA]
    simp
    exact ⟨CMs.kf (boolsC_kf _),CMs.kf (boolsC_kf _)⟩
end Go.Proofs.Ytddanjifhdaebaa.CtD
namespace Go.Proofs.Ytddanjifhdaebaa.CtF
end Go.Proofs.Ytddanjifhdaebaa.CtF
namespace Go.Proofs.Ytddanjifhdaebaa.CtR
end Go.Proofs.Ytddanjifhdaebaa.CtR
namespace Go.Proofs.Ytddanjifhdaebaa.CtD
open Go Go.CT CtF CtR
variable [Yn]
end Go.Proofs.Ytddanjifhdaebaa.CtD
namespace Go.Proofs.Ytddanjifhdaebaa.CtF
end Go.Proofs.Ytddanjifhdaebaa.CtF
namespace Go.Proofs.Ytddanjifhdaebaa.CtR
end Go.Proofs.Ytddanjifhdaebaa.CtR
namespace Go.Proofs.Ytddanjifhdaebaa.CtD
open Go Go.CT CtF CtR
variable [Yn]
theorem boolsC_snoc (ws:List Bool) (b:Bool):boolsC (ws++[b])=boolsC ws++[.v (.bool b)]:=by simp [boolsC,BC]
end Go.Proofs.Ytddanjifhdaebaa.CtD
namespace Go.Proofs.Ytddanjifhdaebaa.CtF
end Go.Proofs.Ytddanjifhdaebaa.CtF
namespace Go.Proofs.Ytddanjifhdaebaa.CtR
end Go.Proofs.Ytddanjifhdaebaa.CtR
namespace Go.Proofs.Ytddanjifhdaebaa.CtD
open Go Go.CT CtF CtR
variable [Yn]
end Go.Proofs.Ytddanjifhdaebaa.CtD
namespace Go.Proofs.Ytddanjifhdaebaa.CtF
variable [Go.CT.Yn]
end Go.Proofs.Ytddanjifhdaebaa.CtF
namespace Go.Proofs.Ytddanjifhdaebaa.CtR
variable [Go.CT.Yn]
open Go Go.CT CtF
def secL (l:Nat):Bool:=l.testBit 0
def subL (a b:Nat):Bool:=a ||| b == b
open Go Go.CT CtF
theorem shapeV {p:Pg} {d:Nat} {k t:Int} {ix v:Ex} {c:Int} {b e:List St1} (h:stmtOK p (d+1) (.mk k t ix v c b e)=true):(k ≠ 4→shape p 5 v=true)∧(k=2→shape p 5 ix=true):=by
  have hk:=head_kind (stmtOK_succ h).1
  constructor
  · intro h4
    rcases hk with h | h | h | h
    · exact (right_shape h.2.2.2).1
    · exact (right_shape h.2.2.2.2.2).1
    · exact (right_shape h.2).1
    · exact absurd h.1 h4
  · intro h2
    rcases hk with h | h | h | h
    · exact absurd h.1 (by omega)
    · exact (right_shape h.2.2.2.1).1
    · exact absurd h.1 (by omega)
    · exact absurd h.1 (by omega)
open Go Go.CT CtF
end Go.Proofs.Ytddanjifhdaebaa.CtR
namespace Go.Proofs.Ytddanjifhdaebaa.CtF
end Go.Proofs.Ytddanjifhdaebaa.CtF
namespace Go.Proofs.Ytddanjifhdaebaa.CtR
end Go.Proofs.Ytddanjifhdaebaa.CtR
namespace Go.Proofs.Ytddanjifhdaebaa.CtR
open Go Go.CT CtF
variable [Yn]
theorem le3 {a:Nat} (h:a≤3):a=0∨a=1∨a=2∨a=3:=by omega
theorem subI (a b:Nat) (ha:a≤3) (hb:b≤3):decide (((a ||| b:Nat):Int)=(b:Int))=subL a b:=by
  rcases le3 ha with rfl | rfl | rfl | rfl<;>rcases le3 hb with rfl | rfl | rfl | rfl<;>decide
theorem secI (a:Nat) (ha:a≤3):decide (((a &&& 1:Nat):Int)=1)=secL a:=by
  rcases le3 ha with rfl | rfl | rfl | rfl<;>decide
theorem secI' (a:Nat) (ha:a≤3):decide (((a &&& 1:Nat):Int) ≠ 0)=secL a:=by
  rcases le3 ha with rfl | rfl | rfl | rfl<;>decide
theorem labelSecretS (a:Nat) (ha:a≤3):DC Try.prog 101 [DI .i64 a] [] (fun r h=>r=DB (secL a)∧h=[]):=by
  have h1:=labelValidS a
  have ha':(decide (0≤(a:Int)) && decide ((a:Int)≤3))=true:=by simp;omega
  rw [ha'] at h1
  have hs:=secI a ha
  generalize hR:(fun (r:D) (h:List (Option (List C)))=>r=DB (secL a)∧h=[])=R
  refine dcZ Try.func101 ?_
  simp only [go_sem]
  iterate 4 ((try (refine drvZ Try.func101 ?_;simp only [go_sem]));((with_reducible and_intros)<;>try exact sd);(try first | refine XK.p h1 ok156 ?_ | refine XK.gp h1 ok156 ?_))
  refine RetOb.plain (d:=DB _) ?_ rfl
  rw [← hR,← hs]
  exact ⟨rfl,rfl⟩
theorem labelSecretI (a:Nat) (ha:a≤3):DC Try.prog 77 [DI .i64 a] [] (fun r h=>r=DB (secL a)∧h=[]):=by
  have h1:=labelValidI a
  have ha':(decide (0≤(a:Int)) && decide ((a:Int)≤3))=true:=by simp;omega
  rw [ha'] at h1
  have hs:=secI' a ha
  generalize hR:(fun (r:D) (h:List (Option (List C)))=>r=DB (secL a)∧h=[])=R
  refine dcZ Try.func77 ?_
  simp only [go_sem]
  iterate 4 ((try (refine drvZ Try.func77 ?_;simp only [go_sem]));((with_reducible and_intros)<;>try exact sd);(try first | refine XK.p h1 ok133 ?_ | refine XK.gp h1 ok133 ?_))
  refine RetOb.plain (d:=DB _) ?_ rfl
  rw [← hR,← hs]
  refine ⟨?_,rfl⟩
  rcases le3 ha with rfl | rfl | rfl | rfl<;>rfl
end Go.Proofs.Ytddanjifhdaebaa.CtR
namespace Go.Proofs.Ytddanjifhdaebaa.CtD
open Go Go.CT CtF CtR
variable [Yn]
end Go.Proofs.Ytddanjifhdaebaa.CtD
