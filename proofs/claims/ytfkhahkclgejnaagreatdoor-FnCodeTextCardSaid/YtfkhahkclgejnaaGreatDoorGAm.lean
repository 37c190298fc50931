/- Contracts of functions of the program, one behind the other, as plain data: what each call returns and which blocks it leaves. -/
import Derived.Test.YtfkhahkclgejnaaGreatDoorGFacts
import Derived.Test.YtfkhahkclgejnaaGreatDoorGAl
import Derived.Test.YtfkhahkclgejnaaGreatDoorGXy
import Derived.Test.YtfkhahkclgejnaaGreatDoorGAk
set_option linter.unusedVariables false
set_option linter.unusedSimpArgs false
set_option linter.unusedSectionVars false
set_option maxHeartbeats 16000000
set_option maxRecDepth 100000
namespace Go.Proofs.YtfkhahkclgejnaaGreatDoor.CtR
open Go Go.CT CtF
variable [Yn]
def trD (tr:List Ev):C := .isl 2 (tr.map Ev.cells)
theorem RetOb.step {m : Nat} {R : D → List (Option (List C)) → Prop} {d : D} {hp : Hp} (r : Nat → Option Nat) (fz : List Nat) (d' : D) (hl : List (Nat × Option (List C)))
 (hM:DM (hOf hl) r hp fz d' d∧HpOK (hOf hl) r hp fz hl∧LowOK r (hOf hl) m∧((hl.filterMap fun p=>p.2.map fun _=>p.1).filterMap r).Nodup) (hn:RetOb m R d' (hOf hl)):RetOb m R d hp:=fun I w s v H hv=>by
 have h:Mq m r fz [] hl ⟨fun _=>none,hp,0⟩:=⟨trivial,hM.2.1,hM.2.2.1,hM.2.2.2⟩
 obtain ⟨H',E'⟩:=h.subH.sim H
 obtain ⟨I',s',d2,h2,g1,g2,g3,g4,g5⟩:=hn _ w _ v H' (DM.rd H d' d hM.1 hv)
 exact ⟨I',s',d2,h2,g1,g2,g3,E'.trans g4,g5⟩
theorem RetOb.run {R : D → List (Option (List C)) → Prop} {p : Pg} {m : Mm} {tr : List Ev} {ok : Bool} {hp : Hp} {k0 k1 k2 k3 kt n : Nat} {cs : List C} (hm : MemFits p m) (hR : R (.tup [.agg m.cells, .c (trD tr), DB ok]) [])
 (h0:hp k0=some (some (m.vals.map I64))) (h1:hp k1=some (some (hdr k2 k3 p.arrays.length))) (h2:hp k2=some (some (blk0 m.arrays))) (h3:hp k3=some (some (blk1 m.arrays))) (ht:hp kt=some (some cs)) (hcs:cs=trC tr) (hn:n=tr.length)
 (hne:k0 ≠ k1∧k0 ≠ k2∧k0 ≠ k3∧k1 ≠ k2∧k1 ≠ k3∧k2 ≠ k3∧kt ≠ k0∧kt ≠ k1∧kt ≠ k2∧kt ≠ k3):RetOb 0 R (.tup [.agg [.msl k0 1 0 p.vars.length,.msl k1 1 0 p.arrays.length],.c (.msl kt 2 0 n),DB ok]) hp:=by
 subst hcs hn
 obtain ⟨va,arr⟩:=m
 have hnv:va.length=p.vars.length:=hm.nv
 have hna:arr.length=p.arrays.length:=hm.na
 have hna2:=hm.na2
 have h4:∀ a ∈ arr,a.length=4:=fun a ha=>(hm.arr a ha).1
 obtain ⟨n01,n02,n03,n12,n13,n23,nt0,nt1,nt2,nt3⟩:=hne
 rw [← hnv,← hna]
 rw [← hna] at h1 hna2
 refine RetOb.step (fun j=>if j=0 then some k0 else if j=1 then some k1 else if j=2 then some kt else none) [k2,k3] (.tup [.agg [.msl 0 1 0 va.length,.msl 1 1 0 arr.length],.c (.msl 2 2 0 tr.length),DB ok]) [(0,some (va.map I64)),(1,some (arr.map isI)),(2,some (trC tr))] ?_ ?_
 ·have e3:∀ a:List Int,(a.map fun n=>[C.v (.int .i64 n)]).flatten=a.map I64:=fun a=>flat1 _ a
  match arr,hna2,h4,h1,h2,h3 with
  | [],_,h4,h1,h2,h3=>simp [DM,DMs,CM,CMs,HpOK,LowOK,hOf,upd,h0,ht,CMs_I,CMs_tr,h1,hdr,n01,n02,n03,n12,n13,n23,nt0,nt1,nt2,nt3,Ne.symm n01,Ne.symm nt0,Ne.symm nt1,Ne.symm n23]
  | [a],_,h4,h1,h2,h3 =>
   have ha:=h4 a (by simp)
   simp [DM,DMs,CM,CMs,HpOK,LowOK,hOf,upd,h0,ht,CMs_I,CMs_tr,h1,h2,hdr,n01,n02,n03,n12,n13,n23,nt0,nt1,nt2,nt3,Ne.symm n01,Ne.symm nt0,Ne.symm nt1,Ne.symm n23,e3,isI,ha,blk0,kf]
  | [a,b],_,h4,h1,h2,h3 =>
   have ha:=h4 a (by simp)
   have hb:=h4 b (by simp)
   simp [DM,DMs,CM,CMs,HpOK,LowOK,hOf,upd,h0,ht,CMs_I,CMs_tr,h1,h2,h3,hdr,n01,n02,n03,n12,n13,n23,nt0,nt1,nt2,nt3,Ne.symm n01,Ne.symm nt0,Ne.symm nt1,Ne.symm n23,e3,isI,ha,hb,blk0,blk1,kf]
 ·refine RetOb.ofQ (fun _=>none) [0,1,2] _ [] ⟨?_,trivial,trivial,by simp [enumL]⟩ hR (Nat.zero_le _)
  have e4:∀ l:List (List Int),(l.map fun a=>[C.isl 1 (a.map fun n=>[I64 n])]).flatten=l.map isI:=fun l=>flat1 _ l
  have e5:(tr.map Ev.cells).flatten=trC tr:=rfl
  simp [DM,DMs,CM,CMs,hOf,upd,Mm.cells,isI,trD,flat_I,kf,e5]
  exact ⟨(flat1 isI arr).symm,fun a _=>rfl,fun a _ c hc=>by
   simp only [Ev.cells,List.mem_cons,List.not_mem_nil,or_false] at hc
   rcases hc with rfl | rfl<;>rfl⟩
theorem equalI (xs ys:List Int) (hl:xs.length≤mx):DC Tryz.prog 46 [ints xs,ints ys] [] (fun r h=>r=DB (decide (xs=ys))∧h=[]):=by
 have hmx:=mx_eq
 have ret:∀ (b:Bool) (hp:Hp),b=decide (xs=ys)→RetOb 0 (fun r h=>r=DB (decide (xs=ys))∧h=[]) (DB b) hp:=fun b hp h=>RetOb.plain (d:=DB _) ⟨by rw [h],rfl⟩ rfl
 by_cases hlen:xs.length=ys.length
 ·have hb:((xs.length:Int) != ys.length)=false:=by simp [hlen]
  have he:((xs.length:Int)=ys.length)=True:=eq_true (by omega)
  refine dc_of_go Tryz.func46 rfl (by simp) ?_
  refine drv_sound (n:=100) (rs:=_) Tryz.func46 mo rfl none _ _ ?_
  simp only [go_sem,ints,hb,he]
  refine Go.loopL (fun i:Nat=>[(0,ints xs),(1,ints ys),(12,DI .i64 xs.length),(13,DI .i64 i)]) (fun _=>[]) 1024 (fun i=>i≤xs.length∧decide (xs=ys)=decide (xs.drop i=ys.drop i)) (fun i=>xs.length - i) ?_ 0 some [] _ ⟨Nat.zero_le _,rfl⟩ ?_
  ·intro i hi again
   refine drv_sound (n:=100) (rs:=_) Tryz.func46 mo rfl none _ _ ?_
   rcases Nat.lt_or_ge i xs.length with hlt | hge
   ·obtain ⟨x,hx⟩:∃ x,xs[i]? = some x:=⟨xs[i],by simp [hlt]⟩
    obtain ⟨y,hy⟩:∃ y,ys[i]? = some y:=⟨ys[i]'(by omega),by simp⟩
    have hI:=hi.2
    obtain ⟨_,ex⟩:=List.getElem?_eq_some_iff.1 hx
    obtain ⟨hyl,ey⟩:=List.getElem?_eq_some_iff.1 hy
    rw [List.drop_eq_getElem_cons hlt,List.drop_eq_getElem_cons hyl,ex,ey] at hI
    simp only [go_sem,ints,hx,hy,hlt]
    (with_reducible and_intros)<;>try exact sd
    ·intro hne;exact ret _ _ (by rw [hI];simp [hne])
    ·intro heq;exact ⟨by simp only [InK];omega,again (i+1) some [] _ ⟨by omega,by rw [hI];simp [heq]⟩ (by omega) (Mt.slots (by
      simp only [go_sem,TmOK,DM,DMs,CM,CMs,forall_eq,exists_eq_left,ints]))⟩
   ·have hn:¬ i<xs.length:=by omega
    simp only [go_sem,ints,hn]
    refine ret _ _ ?_
    rw [hi.2,List.drop_of_length_le hge,List.drop_of_length_le (by omega)];rfl
  ·refine Mt.slots ?_
   simp only [go_sem,TmOK,DM,DMs,CM,CMs,forall_eq,exists_eq_left,ints]
 ·have hb:((xs.length:Int) != ys.length)=true:=by simp;omega
  have he:((xs.length:Int)=ys.length)=False:=eq_false (by omega)
  refine dc_of_go Tryz.func46 rfl (by simp) ?_
  refine drv_sound (n:=100) (rs:=_) Tryz.func46 mo rfl none _ _ ?_
  simp only [go_sem,ints,hb,he]
  refine ret _ _ ?_
  symm;rw [decide_eq_false_iff_not];intro h;exact hlen (by rw [h])
end Go.Proofs.YtfkhahkclgejnaaGreatDoor.CtR
namespace Go.Proofs.YtfkhahkclgejnaaGreatDoor.CtD
open Go Go.CT CtF
variable [Yn]
def rdr (bs:List Int) (p:Int):List C:=[.isl 1 (bs.map fun n=>[.v (.int .u8 n)]),.v (.int .i64 p)]
theorem l17Open (bs:List Int) (hl:bs.length≤mx):DC Tryz.prog 48 [bytesD bs] [] (fun d h=>d = .c (.ptr 0 0)∧h=[some (rdr (bs.take 2000) 0)]):=by
 have hmx:=mx_eq
 refine dc_of_go Tryz.func48 rfl (by simp) ?_
 refine drv_sound (n:=100) (rs:=_) Tryz.func48 mo rfl none _ _ ?_
 simp (maxSteps:=10000000) (maxDischargeDepth:=300) only [go_sem,bytesD]
 refine ⟨fun h=>⟨by omega,?_⟩,fun h=>?_⟩
 ·refine RetOb.of (fun k=>if k=0 then some 576 else none) [] (.c (.ptr 0 0)) [some (rdr (bs.take 2000) 0)] ?_ ?_ ⟨rfl,rfl⟩ (by simp)
  ·exact subH_one rfl (by simp [rdr,upd_same]) (by simp [rdr,kf])
  ·simp [DM,CM,hpL]
 ·refine RetOb.of (fun k=>if k=0 then some 384 else none) [] (.c (.ptr 0 0)) [some (rdr (bs.take 2000) 0)] ?_ ?_ ⟨rfl,rfl⟩ (by simp)
  ·exact subH_one rfl (by simp [rdr,upd_same,List.take_of_length_le (show bs.length≤2000 by omega)]) (by simp [rdr,kf])
  ·simp [DM,CM,hpL]
theorem pick (bs : List Int) (p : Nat) (n : Int) (hb : Fits .u8 bs) (hl : bs.length ≤ 2000) (h1 : p ≤ 1099511627776) (hn : InK .i64 n) : DC Tryz.prog 74 [.c (.ptr 0 0), DI .i64 n] [some (rdr bs p)]
 (fun d h=>∃ v:Int,d=DI .i64 v∧((n<1∨bs=[])∧v=0∨0≤v∧v<n)∧h=[some (rdr bs ((p+1:Nat):Int))]):=by
 have hmx:=mx_eq
 refine dc_of_go Tryz.func74 rfl (by simp) ?_
 have ret:∀ (v:Int) (hp:Hp),((n<1∨bs=[])∧v=0∨0≤v∧v<n)→hp 0=some (some [.isl 1 (bs.map fun n=>[.v (.int .u8 n)]),.v (.int .i64 (p+1))]) →
  RetOb 1 (fun d h=>∃ v:Int,d = .c (.v (.int .i64 v))∧((n<1∨bs=[])∧v=0∨0≤v∧v<n)∧h=[some [.isl 1 (bs.map fun n=>[.v (.int .u8 n)]),.v (.int .i64 (p+1))]]) (.c (.v (.int .i64 v))) hp:=fun v hp hv hhp=>by
  refine RetOb.of (fun k=>if k=0 then some 0 else none) [] (DI .i64 v) [_] (subH_one' rfl hhp (by simp [kf]) (by simp)) (by simp [DM,CM,DI]) ⟨v,rfl,hv,rfl⟩ (by simp)
 refine drv_sound (n:=37) (rs:=_) Tryz.func74 mo rfl none _ _ ?_
 simp (maxSteps:=10000000) (maxDischargeDepth:=300) only [go_sem,rdr,List.length_eq_zero_iff,Int.natCast_eq_zero]
 refine ⟨by simp only [InK];omega,fun h=>ret _ _ (.inl ⟨h,rfl⟩) (upd_same _ _ _),fun h=>?_⟩
 have hbl:0<bs.length:=List.length_pos_iff.2 h.2
 have hby:∀ {j:Nat} {x:Int},bs[j]? = some x→0≤x∧x≤255:=fun {j x} hx=>by
  obtain ⟨hlt,e⟩:=List.getElem?_eq_some_iff.1 hx
  exact hb x (e ▸ List.getElem_mem hlt)
 have hrem:∀ a:Int,0≤a→0≤a % n∧a % n<n:=fun a _=>⟨Int.emod_nonneg _ (by omega),Int.emod_lt_of_pos _ (by omega)⟩
 refine drv_sound (n:=100) (rs:=_) Tryz.func74 mo rfl (some _) _ _ ?_
 rcases Nat.lt_or_ge p bs.length with hlt | hge
 ·obtain ⟨x,hx⟩:∃ x,bs[p]? = some x:=⟨bs[p],by simp⟩
  have hxb:=hby hx
  have hnlt:¬ bs.length≤p:=by omega
  simp (maxSteps:=10000000) (maxDischargeDepth:=300) only [go_sem,hx,hlt,hnlt]
  exact ⟨by simp only [InK];omega,by simp only [InK];omega,by omega,ret _ _ (.inr (hrem x hxb.1)) (upd_same _ _ _)⟩
 ·have hnlt:¬ p<bs.length:=by omega
  have hm1:((p:Int) % bs.length).toNat<bs.length:=by
   have:=Int.emod_lt_of_pos (p:Int) (b:=bs.length) (by omega)
   have:=Int.emod_nonneg (p:Int) (b:=bs.length) (by omega)
   omega
  have hm2:(((p:Int) * 7+3) % bs.length).toNat<bs.length:=by
   have:=Int.emod_lt_of_pos ((p:Int) * 7+3) (b:=bs.length) (by omega)
   have:=Int.emod_nonneg ((p:Int) * 7+3) (b:=bs.length) (by omega)
   omega
  obtain ⟨x,hx⟩:∃ x,bs[((p:Int) % bs.length).toNat]? = some x:=⟨_,List.getElem?_eq_getElem hm1⟩
  obtain ⟨y,hy⟩:∃ x,bs[(((p:Int) * 7+3) % bs.length).toNat]? = some x:=⟨_,List.getElem?_eq_getElem hm2⟩
  have hxb:=hby hx
  have hyb:=hby hy
  simp (maxSteps:=10000000) (maxDischargeDepth:=300) only [go_sem,hx,hy,hge,hnlt]
  have hq0:0≤(p:Int) / bs.length:=Int.ediv_nonneg (by omega) (by omega)
  have hq1:(p:Int) / bs.length≤p:=Int.ediv_le_self _ (by omega)
  generalize (p:Int) / bs.length=q at *
  repeat' with_reducible apply And.intro
  all_goals first | kernel_rfl | (simp only [InK];omega) | omega | exact Int.emod_nonneg _ (by omega) | exact ret _ _ (.inr (hrem _ (Int.natCast_nonneg _))) (upd_same _ _ _)
theorem num (bs : List Int) (p : Nat) (xs : List Int) (hb : Fits .u8 bs) (hl : bs.length ≤ 2000) (h1 : p ≤ 1099511627776) (hx0 : 0 < xs.length) (hx1 : xs.length ≤ mx) : DC Tryz.prog 77 [.c (.ptr 0 0), ints xs] [some (rdr bs p)]
 (fun d h=>∃ v:Int,d=DI .i64 v∧v ∈ xs∧h=[some (rdr bs ((p+1:Nat):Int))]):=by
 have hmx:=mx_eq
 refine dc_of_go Tryz.func77 rfl (by simp) ?_
 refine drv_sound (n:=100) (rs:=_) Tryz.func77 mo rfl none _ _ ?_
 simp (maxSteps:=10000000) (maxDischargeDepth:=300) only [go_sem,rdr,ints]
 refine XK.callG [0] (pick bs p xs.length hb hl h1 (by simp only [InK];omega)) ok74 (hhp_one rfl) (fun j hj=>by simp [hpL]) (fun d h' ⟨v,_,_,e⟩=>by subst e;simp) ?_
 rintro d h' ⟨v,rfl,hv,rfl⟩ _
 have hv2:0≤v∧v<xs.length:=by
  rcases hv with ⟨h | h,_⟩ | h
  ·omega
  ·omega
  ·exact h
 refine drv_sound (n:=100) (rs:=_) Tryz.func77 mo rfl (some _) _ _ ?_
 obtain ⟨y,hy⟩:∃ y,xs[v.toNat]? = some y:=⟨xs[v.toNat]'(by omega),List.getElem?_eq_getElem (by omega)⟩
 have hmem:y ∈ xs:=List.mem_of_getElem? hy
 simp (maxSteps:=10000000) (maxDischargeDepth:=300) only [go_sem,rdr,ints,hy]
 exact ⟨by omega,RetOb.keep1 (d:=DI .i64 y) (cs:=rdr bs ((p+1:Nat):Int)) ⟨y,rfl,hmem,rfl⟩ rfl (by simp [rdr,kf]) rfl⟩
end Go.Proofs.YtfkhahkclgejnaaGreatDoor.CtD
namespace Go.Proofs.YtfkhahkclgejnaaGreatDoor.CtR
end Go.Proofs.YtfkhahkclgejnaaGreatDoor.CtR
namespace Go.Proofs.YtfkhahkclgejnaaGreatDoor.CtD
open Go Go.CT CtF CtR
variable [Yn]
def rdL (bs:List Int) (n k:Nat) (h:List (Option (List C))):Prop:=∃ n':Nat,n≤n'∧n'≤n+k∧h=[some (rdr bs n')]
theorem rdr_kf (bs:List Int) (n:Int):∀ c ∈ rdr bs n,kf c=true:=by simp [rdr,kf]
theorem l3Value (bs : List Int) (n : Nat) (hb : Fits .u8 bs) (hl : bs.length ≤ 2000) (h1 : n + 4 ≤ 1099511627776) : DC Tryz.prog 99 [.c (.ptr 0 0)] [some (rdr bs n)]
 (fun d h=>∃ v:Int,d=DI .i64 v∧(0≤v∧v≤255)∧rdL bs n 1 h):=by
 have hmx:=mx_eq
 refine dc_of_go Tryz.func99 rfl (by simp) ?_
 refine drv_sound (n:=100) (rs:=_) Tryz.func99 mo rfl none _ _ ?_
 simp only [go_sem,rdr]
 refine ⟨by decide,?_⟩
 refine XK.freeze 4 129 1 9 [[.v (.int .i64 0)],[.v (.int .i64 1)],[.v (.int .i64 2)],[.v (.int .i64 3)],[.v (.int .i64 255)],[.v (.int .i64 128)],[.v (.int .i64 7)],[.v (.int .i64 4)],[.v (.int .i64 100)]] ?_ rfl
 refine XK.callG [0] (num bs n [0,1,2,3,255,128,7,4,100] hb hl (by omega) (by decide) (by decide)) ok77 (hhp_one rfl) (hbT ()) (fun d h' ⟨v,_,_,e⟩=>by subst e;simp) ?_
 rintro d h' ⟨v,rfl,hv,rfl⟩ _
 refine drv_sound (n:=100) (rs:=_) Tryz.func99 mo rfl (some _) _ _ ?_
 simp only [go_sem,rdr]
 refine RetOb.keep1 (d:=DI .i64 v) (cs:=rdr bs ((n+1:Nat):Int)) ⟨v,rfl,?_,n+1,by omega,by omega,rfl⟩ rfl (rdr_kf _ _) rfl
 simp at hv;omega
def AtomE (e:Ex):Prop:=∃ k v,e = .mk k v []∧InK .i64 v∧(k=1∨k=2)
theorem numO (bs : List Int) (p : Nat) (xs : List Int) (hb : Fits .u8 bs) (hl : bs.length ≤ 2000) (h1 : p ≤ 1099511627776) (hx0 : 0 < xs.length) (hx1 : xs.length ≤ mx) : DC Tryz.prog 77 [.c (.ptr 0 0), .c (.msl 1 1 0 xs.length)] [some (rdr bs p), some (xs.map I64)]
 (fun d h=>∃ v:Int,d=DI .i64 v∧v ∈ xs∧h=[some (rdr bs ((p+1:Nat):Int)),some (xs.map I64)]):=by
 have hmx:=mx_eq
 refine dc_of_go Tryz.func77 rfl (by simp) ?_
 refine drv_sound (n:=100) (rs:=_) Tryz.func77 mo rfl none _ _ ?_
 simp only [go_sem,rdr]
 refine XK.callG [0] (pick bs p xs.length hb hl h1 (by simp only [InK];omega)) ok74 (hhp_one rfl) (hbT ()) (fun d h' ⟨v,_,_,e⟩=>by subst e;simp) ?_
 rintro d h' ⟨v,rfl,hv,rfl⟩ _
 have hv2:0≤v∧v<xs.length:=by
  rcases hv with ⟨h | h,_⟩ | h
  ·omega
  ·omega
  ·exact h
 obtain ⟨y,hy⟩:∃ y,xs[v.toNat]? = some y:=⟨xs[v.toNat]'(by omega),List.getElem?_eq_getElem (by omega)⟩
 have hmem:y ∈ xs:=List.mem_of_getElem? hy
 refine drv_sound (n:=100) (rs:=_) Tryz.func77 mo rfl (some _) _ _ ?_
 simp only [go_sem,rdr,hy]
 refine ⟨by omega,?_⟩
 refine RetOb.ofQ (fun j=>if j<2 then some j else none) [] (DI .i64 y) [some (rdr bs ((p+1:Nat):Int)),some (xs.map I64)] ?_ ⟨y,rfl,hmem,rfl⟩ (by simp)
 simp [enumL,hOf,DM,CM,CMs,HpOK,LowOK,upd,rdr,CMs_I,hpL]
inductive SmE : Ex → Prop
 | mk (k v:Int) (ks:List Ex) (h:ks.length≤3) (h2:∀ x ∈ ks,SmE x):SmE (.mk k v ks)
theorem SmE.atom {e:Ex} (h:AtomE e):SmE e:=by
 obtain ⟨k,v,rfl,_,_⟩:=h
 exact .mk k v [] (by simp) (fun x hx=>by simp at hx)
def exC (l:List Ex):List C:=(l.map Ex.cells).flatten
theorem exC_len (l:List Ex):(exC l).length=l.length * 3:=by
 unfold exC
 induction l with
 | nil=>rfl
 | cons a r ih=>simp only [List.map_cons,List.flatten_cons,List.length_append,ih,Ex.cells_len,List.length_cons];omega
theorem ex_kf (e:Ex):∀ c ∈ e.cells,kf c=true:=by cases e;simp [Ex.cells,kf]
theorem exC_kf (l:List Ex):∀ c ∈ exC l,kf c=true:=by
 unfold exC
 intro c hc
 obtain ⟨x,hx,hc⟩:=List.mem_flatten.1 hc
 obtain ⟨e,_,rfl⟩:=List.mem_map.1 hx
 exact ex_kf e c hc
theorem exC_snoc (l:List Ex) (e:Ex):exC (l++[e])=exC l++e.cells:=by simp [exC]
theorem hhp2 {hp:Hp} {r:Nat→Nat} {k0 k1:Nat} {h0 h1:Option (List C)} (e0:hp k0=some (h0.map (renCs r))) (e1:hp k1=some (h1.map (renCs r))):∀ i' x,[h0,h1][i']? = some x→hp ([k0,k1].getD i' 0)=some (x.map (renCs r)):=by
 intro i' x hx
 match i',hx with
 | 0,hx=>simp only [List.getElem?_cons_zero,Option.some.injEq] at hx;subst hx;exact e0
 | 1,hx=>simp only [List.getElem?_cons_succ,List.getElem?_cons_zero,Option.some.injEq] at hx;subst hx;exact e1
 | i' + 2,hx=>simp at hx
def KD (d:Nat):Nat:=4 ^ (d+1)
def SmS : Nat → St1 → Prop
 | 0,.mk _ _ ix v _ b e=>SmE ix∧SmE v∧b=[]∧e=[]
 | d+1,.mk _ _ ix v _ b e=>SmE ix∧SmE v∧b.length≤4∧e.length≤4∧(∀ x ∈ b,SmS d x)∧∀ x ∈ e,SmS d x
def stC (l:List St1):List C:=(l.map St1.cells).flatten
theorem stC_len (l:List St1):(stC l).length=l.length * 11:=by
 unfold stC
 induction l with
 | nil=>rfl
 | cons a r ih=>simp only [List.map_cons,List.flatten_cons,List.length_append,ih,St1.cells_len,List.length_cons];omega
theorem st_kf (s:St1):∀ c ∈ s.cells,kf c=true:=by
 obtain ⟨k,t,ix,v,c,b,e⟩:=s
 intro x hx
 simp only [St1.cells,List.mem_append,List.mem_cons,List.not_mem_nil,or_false] at hx
 rcases hx with ((hx | hx) | hx) | hx
 ·rcases hx with rfl | rfl<;>rfl
 ·exact ex_kf _ _ hx
 ·exact ex_kf _ _ hx
 ·rcases hx with rfl | rfl | rfl<;>rfl
theorem stC_kf (l:List St1):∀ c ∈ stC l,kf c=true:=by
 unfold stC
 intro c hc
 obtain ⟨x,hx,hc⟩:=List.mem_flatten.1 hc
 obtain ⟨e,_,rfl⟩:=List.mem_map.1 hx
 exact st_kf e c hc
theorem stC_snoc (l:List St1) (s:St1):stC (l++[s])=stC l++s.cells:=by simp [stC]
def KS : Nat → Nat
 | 0=>1200
 | d+1=>1200+8 * KS d
theorem KS_ge : ∀ d, 1200 ≤ KS d
 | 0=>Nat.le_refl _
 | d+1=>by simp only [KS];omega
theorem KS_le : ∀ d, d ≤ 3 → KS d ≤ 1000000
 | 0,_=>by decide
 | 1,_=>by decide
 | 2,_=>by decide
 | 3,_=>by decide
def Ex0:Ex := .mk 0 0 []
theorem SmE0:SmE Ex0 := .mk 0 0 [] (by simp) (fun x h=>by simp at h)
theorem SmS.leaf {d:Nat} {k t c:Int} {ix v:Ex} (h1:SmE ix) (h2:SmE v):SmS d (.mk k t ix v c [] []):=by
 cases d<;>simp [SmS,h1,h2]
def stR (bs:List Int) (n d:Nat) (r:D) (h:List (Option (List C))):Prop:=∃ s:St1,r = .agg s.cells∧SmS d s∧rdL bs n (KS d) h
theorem tsize_sm : ∀ (d k : Nat) (s : St1), SmS d s → tsize k s ≤ 9 ^ d
 | d,0,.mk _ _ _ _ _ b e,_=>Nat.zero_le _
 | 0,k+1,.mk _ _ ix v _ b e,h=>by
  simp only [SmS] at h
  obtain ⟨_,_,rfl,rfl⟩:=h
  simp [tsize]
 | d+1,k+1,.mk kk tt ix v cc b e,h=>by
  simp only [SmS] at h
  obtain ⟨_,_,h1,h2,h3,h4⟩:=h
  have hsum:∀ l:List St1,(∀ x ∈ l,SmS d x)→(l.map (tsize k)).sum≤l.length * 9 ^ d:=fun l hl=>by
   induction l with
   | nil=>simp
   | cons a r ih =>
    have:=tsize_sm d k a (hl a (by simp))
    have:=ih fun x hx=>hl x (by simp [hx])
    simp only [List.map_cons,List.sum_cons,List.length_cons,Nat.add_mul]
    omega
  have g1:=hsum b h3
  have g2:=hsum e h4
  have g3:b.length * 9 ^ d≤4 * 9 ^ d:=Nat.mul_le_mul_right _ h1
  have g4:e.length * 9 ^ d≤4 * 9 ^ d:=Nat.mul_le_mul_right _ h2
  have g5:0<9 ^ d:=Nat.pow_pos (by decide)
  have e1:tsize (k+1) (.mk kk tt ix v cc b e)=1+(b.map (tsize k)).sum+(e.map (tsize k)).sum:=rfl
  rw [e1,Nat.pow_succ]
  omega
theorem lsize_sm (d k:Nat) (l:List St1) (h:∀ s ∈ l,SmS d s):lsize k l≤l.length * 9 ^ d:=by
 unfold lsize
 induction l with
 | nil=>simp
 | cons a r ih =>
  have:=tsize_sm d k a (h a (by simp))
  have:=ih fun x hx=>h x (by simp [hx])
  simp only [List.map_cons,List.sum_cons,List.length_cons,Nat.add_mul]
  omega
def fixP:Pg:=⟨[0,1],[],[.mk 1 1 Ex0 (.mk 2 0 []) 0 [] []]⟩
structure DrP (p : Pg) : Prop where
 ok:progOK p=true
 nv:p.vars.length≤5
 na:p.arrays.length≤2
 nb:p.body.length≤4
 sm:∀ s ∈ p.body,SmS 2 s
theorem DrP.fix:DrP fixP:=⟨by decide,by decide,by decide,by decide,fun s hs=>by
 simp only [fixP,List.mem_singleton] at hs
 subst hs
 exact SmS.leaf SmE0 (.mk 2 0 [] (by simp) (fun x h=>by simp at h))⟩
theorem i_snoc (l:List Int) (x:Int):(l++[x]).map I64=l.map I64++[I64 x]:=by simp
theorem renC_kf (r : Nat → Nat) : ∀ c : C, kf c = true → renC r c = c
 | .v _,_ | .isl _ _,_ | .csl _ _ _,_ | .num _,_ | .z,_ | .unk,_ | .eptr _,_ | .met _ _,_=>rfl
 | .msl _ _ _ _,h | .ptr _ _,h | .clo _ _,h=>by simp [kf] at h
theorem renCs_kf (r:Nat→Nat) (cs:List C) (h:∀ c ∈ cs,kf c=true):renCs r cs=cs:=by
 rw [renCs_eq]
 conv=>rhs;rw [← List.map_id cs]
 exact List.map_congr_left fun c hc=>renC_kf r c (h c hc)
theorem renCs_rdr (r:Nat→Nat) (bs:List Int) (n:Int):renCs r (rdr bs n)=rdr bs n:=renCs_kf r _ (rdr_kf bs n)
theorem SmE.any {k v k' v':Int} {ks:List Ex} (h:SmE (.mk k v ks)):SmE (.mk k' v' ks):=by
 cases h with | mk _ _ _ h h2=>exact .mk _ _ _ h h2
theorem RetOb.prK {R : D → List (Option (List C)) → Prop} {p : Pg} {hp : Hp} {k0 k1 k2 nv na nb : Nat} {rc : List C} (hR : R (.agg p.cells) [some rc]) (hrc : ∀ c ∈ rc, kf c = true)
 (hz:hp 0=some (some rc)) (h0:hp k0=some (some (p.vars.map I64))) (h1:hp k1=some (some (p.arrays.map I64))) (h2:hp k2=some (some (stC p.body))) (hv:nv=p.vars.length) (ha:na=p.arrays.length) (hb:nb=p.body.length)
 (hne:0 ≠ k0∧0 ≠ k1∧0 ≠ k2):RetOb 1 R (.agg [.msl k0 1 0 nv,.msl k1 1 0 na,.msl k2 11 0 nb]) hp:=by
 subst hv ha hb
 obtain ⟨vs,ar,bd⟩:=p
 obtain ⟨n0,n1,n2⟩:=hne
 refine RetOb.ofQ (fun j=>if j=0 then some 0 else none) [k0,k1,k2] _ [some rc] ?_ hR (by simp)
 have e4:∀ {hT hS:Hp} {r:Nat→Option Nat} {fz:List Nat},CMs hT r hS fz rc rc=True:=eq_true (CMs.kf hrc)
 have g1:(St1.cellsL bd).flatten=stC bd:=by rw [St1.cellsL_eq];rfl
 have g2:∀ x ∈ St1.cellsL bd,x.length=11:=fun x hx=>by rw [St1.cellsL_eq] at hx;obtain ⟨e,_,rfl⟩:=List.mem_map.1 hx;exact St1.cells_len e
 have g3:∀ x ∈ St1.cellsL bd,∀ c ∈ x,kf c=true:=fun x hx=>by rw [St1.cellsL_eq] at hx;obtain ⟨e,_,rfl⟩:=List.mem_map.1 hx;exact st_kf e
 simp [enumL,DM,DMs,CM,CMs,HpOK,LowOK,hOf,upd,Pg.cells,isI,flat_I,kf,e4,hz,h0,h1,h2,g1,St1.cellsL_length,n0,n1,n2]
 exact ⟨g2,g3⟩
theorem DC_imp {P:Program} {F:FuncId} {args:List D} {h:List (Option (List C))} {R1 R2:D→List (Option (List C))→Prop} (hD:DC P F args h R1) (hi:∀ d h',R1 d h'→R2 d h'):DC P F args h R2:=fun I w s vs H hv=>by
 refine (hD I w s vs H hv).mono ?_
 rintro e w' ⟨v,I',s',d,h',rfl,hR,g⟩
 exact ⟨v,I',s',d,h',rfl,hi _ _ hR,g⟩
end Go.Proofs.YtfkhahkclgejnaaGreatDoor.CtD
namespace Go.Proofs.YtfkhahkclgejnaaGreatDoor.CtR
open Go Go.CT CtF
variable [Yn]
structure Lv where
 vars:Sl
 arrays:Sl
 body:Sl
def Lv.pg (p:Lv):Pg:=⟨List.replicate p.vars.length 0,List.replicate p.arrays.length 0,[]⟩
def Lv.cells (p:Lv):List C:=[p.vars.c,p.arrays.c,p.body.c]
attribute [go_sem] Lv.cells
theorem l2LimitV (p:Lv) (k:Int):DC Tryz.prog 143 [.agg p.cells,DI .i64 k] [] (fun d h=>d=DI .i64 (limit p.pg k)∧h=[]):=by
 refine dc_of_go Tryz.func143 rfl (by simp) ?_
 refine drv_sound (n:=100) (rs:=_) Tryz.func143 mo rfl none _ _ ?_
 simp only [go_sem,Lv.cells,Sl.c,Ex.cells,isI,I64]
 repeat' (first | with_reducible apply And.intro | with_reducible intro _)
 all_goals first | omega | skip
 all_goals refine RetOb.plain (d:=DI .i64 _) ⟨?_,rfl⟩ rfl
 all_goals (unfold limit;simp_all [DI,Lv.pg])
theorem l2ShapeV (p:Lv) (hl:p.vars.length≤mx) (hl2:p.arrays.length≤mx):∀ (d:Nat) (e:Ex),d≤5→DC Tryz.prog 135 [.agg p.cells,.agg e.cells,DI .i64 d] [] (fun r h=>r=DB (shape p.pg d e)∧h=[]):=by
 have hmx:=mx_eq
 intro d
 induction d using Nat.strongRecOn with
 | _ d ih =>
  intro e hd
  obtain ⟨k,v,ks⟩:=e
  obtain ⟨vs,ar,bd⟩:=p
  refine dc_of_go Tryz.func135 rfl (by simp) ?_
  refine drv_sound (n:=100) (rs:=_) Tryz.func135 mo rfl none _ _ ?_
  simp only [go_sem]
  repeat refine And.intro (by kernel_rfl) ?_
  refine XK.gplain 2 false (!(decide ((d:Int)<1))) (fun _=>l2Arity k) ok134 ?_ (hbT ()) (fun _=>by kernel_rfl) (hok:=by intro hx;simp [okP,getCall,Call.operands,evT,upd,peelB,DB,DI,cst,one] at hx ⊢;first | done | exact hx | (simp_all;done) | omega)
  refine drv_sound (n:=100) (rs:=_) Tryz.func135 mo rfl (some _) _ _ ?_
  simp only [go_sem]
  repeat refine And.intro (by kernel_rfl) ?_
  refine XK.gplain 16 false (!((decide ((d:Int)<1) || ((ks.length:Int) != arity k)) || decide (v<0))) (fun _=>l2LimitV ⟨vs,ar,bd⟩ k) ok143 ?_ (hbT ()) (fun _=>by kernel_rfl) (hok:=by intro hx;simp [okP,getCall,Call.operands,evT,upd,peelB,DB,DI,cst,one] at hx ⊢;first | done | exact hx | (simp_all;done) | omega)
  refine drv_sound (n:=100) (rs:=_) Tryz.func135 mo rfl (some _) _ _ ?_
  simp only [go_sem]
  refine And.intro (by kernel_rfl) (And.intro (by kernel_rfl) ⟨fun hno=>RetOb.plain (d:=DB false) ⟨?_,rfl⟩ rfl,fun hyes=>?_⟩)
  ·cases d with
   | zero=>rfl
   | succ d =>
    simp only [shape]
    rw [fitsE_false (by omega)]
    rfl
  obtain ⟨d',rfl⟩:∃ d',d=d' + 1:=⟨d - 1,by omega⟩
  have ks3:ks.length≤3:=by have:=arity_le k;omega
  have hfit:=fitsE_true (p:=Lv.pg ⟨vs,ar,bd⟩) (v:=v) hyes.1.1.2 hyes.1.2 hyes.2
  refine Go.loopL (fun i:Nat=>[(2,DI .i64 ((d' + 1:Nat):Int)),(3,.c (.ptr 0 0)),(4,.c (.ptr 64 0)),(7,DI .i64 i)]) (fun _=>[(0,some (Lv.cells ⟨vs,ar,bd⟩)),(64,some (Ex.cells (.mk k v ks)))]) 1024 (fun i=>i≤ks.length∧ks.all (shape (Lv.pg ⟨vs,ar,bd⟩) d')=(ks.drop i).all (shape (Lv.pg ⟨vs,ar,bd⟩) d')) (fun i=>ks.length - i) ?_ 0 some [] _ ⟨Nat.zero_le _,rfl⟩ ?_
  ·intro i hi again
   refine drv_sound (n:=100) (rs:=_) Tryz.func135 mo rfl none _ _ ?_
   rcases Nat.lt_or_ge i ks.length with hlt | hge
   ·obtain ⟨⟨k',v',ks'⟩,hx⟩:∃ x,ks[i]? = some x:=⟨ks[i],by simp [hlt]⟩
    have hI:=hi.2
    obtain ⟨_,he⟩:=List.getElem?_eq_some_iff.1 hx
    rw [List.drop_eq_getElem_cons hlt,he,List.all_cons] at hI
    simp only [go_sem,hx,hlt]
    (with_reducible and_intros)<;>try exact sd
    refine XK.plain (ih d' (by omega) (.mk k' v' ks') (by omega)) ok135 ?_ (hbT ()) (fun _=>by kernel_rfl)
    refine drv_sound (n:=100) (rs:=_) Tryz.func135 mo rfl (some _) _ _ ?_
    simp only [go_sem]
    refine And.intro (by kernel_rfl) ⟨fun hno=>RetOb.plain (d:=DB false) ⟨?_,rfl⟩ rfl,fun hyes=>⟨by simp only [InK];omega,?_⟩⟩
    ·rw [hno] at hI
     simp [DB,shape,hI]
    ·refine again (i+1) some [] _ ⟨by omega,?_⟩ (by omega) ?_
     ·rw [hI,hyes];rfl
     ·simp only [go_sem,TmOK,DM,DMs,CM,CMs,forall_eq,exists_eq_left,Mt,HpOK,LowOK]
      simp
   ·have hn:¬ i<ks.length:=by omega
    have hall:ks.all (shape (Lv.pg ⟨vs,ar,bd⟩) d')=true:=by rw [hi.2,List.drop_of_length_le hge];rfl
    have ret:∀ (hp:Hp) (b:Bool),b=(!(k == 3) || headAtom ks)→RetOb 0 (fun d h=>d=DB (shape (Lv.pg ⟨vs,ar,bd⟩) (d' + 1) (.mk k v ks))∧h=[]) (DB b) hp:=fun hp b hb=>RetOb.plain (d:=DB _) ⟨by simp [shape,hfit,hall,hb],rfl⟩ rfl
    rcases ks with _ | ⟨⟨k',v',ks'⟩,r⟩
    ·have hk3:k ≠ 3:=by rintro rfl;have:=hyes.1.1.2;simp [arity] at this
     have hb3:(k != 3)=true:=by simp [hk3]
     have hc3:(k == 3)=false:=by simp [hk3]
     have hi0:((i:Int)<0)=False:=by simp
     simp only [go_sem,hi0,hk3,hb3,hc3,Ex.cellsL]
     refine XK.gskip 3 false (DB false) ?_ (hbT ())
     refine drv_sound (n:=100) (rs:=_) Tryz.func135 mo rfl (some _) _ _ ?_
     simp only [go_sem]
     refine ret _ _ ?_
     simp [hk3]
    ·have hi0:((i:Int)<(r.length:Int)+1)=False:=by simp at hn;simp;omega
     simp only [go_sem,hi0,Ex.cellsL]
     refine XK.gplain 3 false (!(k != 3)) (fun _=>l2Atom (.mk k' v' ks')) ok129 ?_ (hbT ()) (hok:=by intro hx;simp [okP,getCall,Call.operands,evT,upd,peelB,DB,DI] at hx ⊢;first | done | exact hx | (simp_all;done) | omega)
     refine drv_sound (n:=100) (rs:=_) Tryz.func135 mo rfl (some _) _ _ ?_
     simp only [go_sem]
     refine ret _ _ ?_
     simp [headAtom,bne]
  ·simp only [go_sem,TmOK,DM,DMs,CM,CMs,forall_eq,exists_eq_left,Mt,HpOK,LowOK]
   simp
theorem l2RightV (p:Lv) (e:Ex) (hl:p.vars.length≤mx) (hl2:p.arrays.length≤mx):DC Tryz.prog 127 [.agg p.cells,.agg e.cells] [] (fun r h=>r=DB (right p.pg e)∧h=[]):=by
 obtain ⟨k,v,ks⟩:=e
 obtain ⟨vs,ar,bd⟩:=p
 refine dc_of_go Tryz.func127 rfl (by simp) ?_
 refine drv_sound (n:=100) (rs:=_) Tryz.func127 mo rfl none _ _ ?_
 simp only [go_sem]
 refine XK.plain (l2ShapeV ⟨vs,ar,bd⟩ hl hl2 5 (.mk k v ks) (by omega)) ok135 ?_ (hbT ())
 refine drv_sound (n:=100) (rs:=_) Tryz.func127 mo rfl (some _) _ _ ?_
 simp only [go_sem]
 refine XK.gplain 3 true (shape (Lv.pg ⟨vs,ar,bd⟩) 5 (.mk k v ks)) (fun h=>l2Count (Lv.pg ⟨vs,ar,bd⟩) 5 (.mk k v ks) (by omega) h) ok136 ?_ (hbT ()) (hok:=by intro hx;simp [okP,getCall,Call.operands,evT,upd,peelB,DB,DI,cst,one] at hx ⊢;first | done | exact hx | (simp_all;done) | omega)
 refine drv_sound (n:=100) (rs:=_) Tryz.func127 mo rfl (some _) _ _ ?_
 simp only [go_sem]
 refine RetOb.plain (d:=DB _) ⟨?_,rfl⟩ rfl
 simp [right,DB]
end Go.Proofs.YtfkhahkclgejnaaGreatDoor.CtR
namespace Go.Proofs.YtfkhahkclgejnaaGreatDoor.CtD
open Go Go.CT CtF CtR
variable [Yn]
theorem l2DrawAtomV (bs : List Int) (n : Nat) (p : Lv) (hb : Fits .u8 bs) (hl : bs.length ≤ 2000) (h1 : n + 4 ≤ 1099511627776) (hp : p.vars.length ≤ mx) : DC Tryz.prog 122 [.c (.ptr 0 0), .agg p.cells] [some (rdr bs n)]
 (fun d h=>∃ e:Ex,d = .agg e.cells∧AtomE e∧rdL bs n 2 h):=by
 have hmx:=mx_eq
 obtain ⟨vs,ar,bd⟩:=p
 have hp:vs.length≤mx:=hp
 refine dc_of_go Tryz.func122 rfl (by simp) ?_
 refine drv_sound (n:=100) (rs:=_) Tryz.func122 mo rfl none _ _ ?_
 simp only [go_sem,rdr]
 refine XK.callG [0] (pick bs n 3 hb hl (by omega) (by simp only [InK];omega)) ok74 (hhp_one rfl) (hbT ()) (fun d h' ⟨v,_,_,e⟩=>by subst e;simp) ?_
 rintro d h' ⟨v,rfl,hv,rfl⟩ _
 refine drv_sound (n:=100) (rs:=_) Tryz.func122 mo rfl (some _) _ _ ?_
 simp only [go_sem,rdr]
 refine ⟨fun h0=>?_,fun h0=>?_⟩
 ·refine ⟨by decide,?_⟩
  refine XK.freeze 9 385 1 7 [[.v (.int .i64 1)],[.v (.int .i64 0)],[.v (.int .i64 2)],[.v (.int .i64 3)],[.v (.int .i64 255)],[.v (.int .i64 7)],[.v (.int .i64 128)]] ?_ rfl
  refine XK.callG [0] (num bs (n+1) [1,0,2,3,255,7,128] hb hl (by omega) (by decide) (by decide)) ok77 (hhp_one rfl) (hbT ()) (fun d h' ⟨v,_,_,e⟩=>by subst e;simp) ?_
  rintro d h' ⟨v2,rfl,hv2,rfl⟩ _
  refine drv_sound (n:=100) (rs:=_) Tryz.func122 mo rfl (some _) _ _ ?_
  simp only [go_sem,rdr]
  simp at hv2
  refine RetOb.ofQ (fun j=>if j=0 then some 0 else none) [] (.agg (Ex.cells (.mk 1 v2 []))) [some (rdr bs ((n+2:Nat):Int))] ?_ ⟨.mk 1 v2 [],rfl,⟨1,v2,rfl,?_,by simp⟩,n+2,by omega,by omega,rfl⟩ (by simp)
  ·simp [enumL,hOf,DM,DMs,CM,CMs,HpOK,LowOK,upd,Ex.cells,Ex.cellsL,rdr]
   try omega
  ·simp only [InK];omega
 ·refine XK.callG [0] (pick bs (n+1) vs.length hb hl (by omega) (by simp only [InK];omega)) ok74 (hhp_one rfl) (hbT ()) (fun d h' ⟨v,_,_,e⟩=>by subst e;simp) ?_
  rintro d h' ⟨v2,rfl,hv2,rfl⟩ _
  refine drv_sound (n:=100) (rs:=_) Tryz.func122 mo rfl (some _) _ _ ?_
  simp only [go_sem,rdr]
  refine RetOb.ofQ (fun j=>if j=0 then some 0 else none) [] (.agg (Ex.cells (.mk 2 v2 []))) [some (rdr bs ((n+2:Nat):Int))] ?_ ⟨.mk 2 v2 [],rfl,⟨2,v2,rfl,?_,by simp⟩,n+2,by omega,by omega,rfl⟩ (by simp)
  ·simp [enumL,hOf,DM,DMs,CM,CMs,HpOK,LowOK,upd,Ex.cells,Ex.cellsL,rdr]
   try omega
  ·simp only [InK];omega
theorem l2DrawV (bs : List Int) (p : Lv) (hb : Fits .u8 bs) (hl : bs.length ≤ 2000) (hp : p.vars.length ≤ mx) (hp2 : p.arrays.length ≤ mx) : ∀ (d n : Nat), d ≤ 8 → n + KD d ≤ 1099511627776 → DC Tryz.prog 126 [.c (.ptr 0 0), .agg p.cells, DI .i64 d] [some (rdr bs n)]
 (fun r h=>∃ e:Ex,r = .agg e.cells∧SmE e∧rdL bs n (KD d) h):=by
 have hmx:=mx_eq
 intro d
 induction d using Nat.strongRecOn with
 | _ d ih =>
  intro n hd hn
  have hat:=fun n h=>l2DrawAtomV bs n p hb hl h hp
  obtain ⟨vs,ar,bd⟩:=p
  have hp:vs.length≤mx:=hp
  have hp2:ar.length≤mx:=hp2
  have hk:16≤KD d∨d=0:=by
   rcases d with _ | d
   ·exact .inr rfl
   ·left;unfold KD;rw [Nat.pow_succ,Nat.pow_succ];have:0<4 ^ d:=Nat.pow_pos (by decide);omega
  have hk4:4≤KD d:=by unfold KD;rw [Nat.pow_succ];have:0<4 ^ d:=Nat.pow_pos (by decide);omega
  by_cases hd2:d<2
  ·have h2:((d:Int)<2)=True:=eq_true (by omega)
   refine dcZ Tryz.func126 ?_
   simp only [go_sem,h2,rdr]
   refine XK.gskip 2 false (DI .i64 0) ?_ (hbT ())
   iterate 2 (try (refine drvZ Tryz.func126 ?_;simp only [go_sem,h2,rdr]))
   refine XK.callG [0] (hat n (by omega)) ok122 (hhp_one rfl) (hbT ()) (fun d h' ⟨_,_,_,_,_,_,e⟩=>by subst e;simp) ?_
   rintro _ _ ⟨⟨k,v,ks⟩,rfl,he,n',hn1,hn2,rfl⟩ _
   iterate 2 (try (refine drvZ Tryz.func126 ?_;simp only [go_sem,rdr]))
   exact RetOb.keep1 (d := .agg (Ex.cells (.mk k v ks))) (cs:=rdr bs n') ⟨.mk k v ks,rfl,SmE.atom he,n',hn1,by omega,rfl⟩ rfl (rdr_kf _ _) (ex_kf _)
  ·obtain ⟨d',rfl⟩:∃ d',d=d' + 1:=⟨d - 1,by omega⟩
   have h2:((d':Int)+1<2)=False:=eq_false (by omega)
   have hKK:KD (d' + 1)=4 * KD d':=by unfold KD;rw [Nat.pow_succ];omega
   have hk1:16≤KD d':=by
    obtain ⟨d2,rfl⟩:∃ d2,d'=d2+1:=⟨d' - 1,by omega⟩
    unfold KD;rw [Nat.pow_succ,Nat.pow_succ];have:0<4 ^ d2:=Nat.pow_pos (by decide);omega
   have hk16:16≤KD (d' + 1):=by omega
   refine dcZ Tryz.func126 ?_
   simp only [go_sem,h2,rdr]
   iterate 2 (try (refine drvZ Tryz.func126 ?_;simp only [go_sem,h2,rdr]))
   refine XK.callT 2 false [0] (pick bs n 4 hb hl (by omega) (by simp only [InK];omega)) ok74 (hhp_one rfl) (hbT ()) (fun d h' ⟨v,_,_,e⟩=>by subst e;simp) ?_
   rintro _ _ ⟨v0,rfl,hv0,rfl⟩ _
   by_cases hz:v0=0
   ·subst hz
    iterate 3 (try (refine drvZ Tryz.func126 ?_;simp only [go_sem,h2,rdr]))
    refine XK.callG [0] (hat (n+1) (by omega)) ok122 (hhp_one rfl) (hbT ()) (fun d h' ⟨_,_,_,_,_,_,e⟩=>by subst e;simp) ?_
    rintro _ _ ⟨⟨k,v,ks⟩,rfl,he,n',hn1,hn2,rfl⟩ _
    iterate 2 (try (refine drvZ Tryz.func126 ?_;simp only [go_sem,rdr]))
    exact RetOb.keep1 (d := .agg (Ex.cells (.mk k v ks))) (cs:=rdr bs n') ⟨.mk k v ks,rfl,SmE.atom he,n',by omega,by omega,rfl⟩ rfl (rdr_kf _ _) (ex_kf _)
   ·have hzb:(v0 == 0)=false:=by simp [hz]
    iterate 3 (try (refine drvZ Tryz.func126 ?_;simp only [go_sem,h2,rdr,hz,hzb]))
    refine ⟨by decide,?_⟩
    refine XK.callG [0,641] (numO bs (n+1) [4,10,8,9,3,6,7,5,11] hb hl (by omega) (by decide) (by decide)) ok77 (hhp2 rfl rfl) (hbT ()) (fun d h' ⟨_,_,_,e⟩=>by subst e;simp) ?_
    rintro _ _ ⟨kv,rfl,hkv,rfl⟩ _
    have hat2:=hat (n+2) (by omega)
    by_cases hk3:kv=3
    ·subst hk3
     by_cases ha0:ar.length=0
     ·have e1:((ar.length:Int) == 0)=true:=by simp [ha0]
      have e2:((ar.length:Int)=0)=True:=eq_true (by omega)
      iterate 4 (try (refine drvZ Tryz.func126 ?_;simp only [go_sem,h2,rdr,e1,e2]))
      refine XK.callG [0] (hat (n+2) (by omega)) ok122 (hhp_one rfl) (hbT ()) (fun d h' ⟨_,_,_,_,_,_,e⟩=>by subst e;simp) ?_
      rintro _ _ ⟨⟨k,v,ks⟩,rfl,he,n',hn1,hn2,rfl⟩ _
      iterate 2 (try (refine drvZ Tryz.func126 ?_;simp only [go_sem,rdr]))
      exact RetOb.keep1 (d := .agg (Ex.cells (.mk k v ks))) (cs:=rdr bs n') ⟨.mk k v ks,rfl,SmE.atom he,n',by omega,by omega,rfl⟩ rfl (rdr_kf _ _) (ex_kf _)
     ·have e1:((ar.length:Int) == 0)=false:=by simp only [beq_eq_false_iff_ne];omega
      have e2:((ar.length:Int)=0)=False:=eq_false (by omega)
      iterate 4 (try (refine drvZ Tryz.func126 ?_;simp only [go_sem,h2,rdr,e1,e2]))
      (with_reducible and_intros)<;>try exact sd
      iterate 3 (try (refine drvZ Tryz.func126 ?_;simp only [go_sem,h2,rdr,e1,e2]))
      (with_reducible and_intros)<;>try exact sd
      refine XK.callG [0] (pick bs (n+2) ar.length hb hl (by omega) (by simp only [InK];omega)) ok74 (hhp_one rfl) (hbT ()) (fun d h' ⟨v,_,_,e⟩=>by subst e;simp) ?_ (fun _=>⟨by kernel_rfl,_,_,⟨0,rfl,by omega,rfl⟩,by simp⟩)
      rintro _ _ ⟨v1,rfl,hv1,rfl⟩ _
      iterate 2 (try (refine drvZ Tryz.func126 ?_;simp only [go_sem,h2,rdr]))
      (with_reducible and_intros)<;>try exact sd
      refine XK.callG [0] (hat (n+3) (by omega)) ok122 (hhp_one rfl) (hbT ()) (fun d h' ⟨_,_,_,_,_,_,e⟩=>by subst e;simp) ?_ (fun _=>⟨by kernel_rfl,_,_,⟨.mk 2 0 [],rfl,⟨2,0,rfl,by simp only [InK];omega,.inr rfl⟩,n+3,by omega,by omega,rfl⟩,by simp⟩)
      rintro _ _ ⟨⟨k,v,ks⟩,rfl,he,n',hn1,hn2,rfl⟩ _
      iterate 3 (try (refine drvZ Tryz.func126 ?_;simp only [go_sem,h2,rdr]))
      (with_reducible and_intros)<;>try exact sd
      refine RetOb.ofQ (fun j=>if j=0 then some 0 else none) [1793] (.agg (Ex.cells (.mk 3 v1 [.mk k v ks]))) [some (rdr bs n')] ?_ ⟨.mk 3 v1 [.mk k v ks],rfl,.mk _ _ _ (by simp) (fun x hx=>by simp at hx;subst hx;exact SmE.atom he),n',by omega,by omega,rfl⟩ (by simp)
      simp [enumL,hOf,DM,DMs,CM,CMs,HpOK,LowOK,upd,Ex.cells,Ex.cellsL,rdr,kf]
    ·have e1:(kv == 3)=false:=by simp [hk3]
     iterate 4 (try (refine drvZ Tryz.func126 ?_;simp only [go_sem,h2,rdr,hk3,e1]))
     refine XK.plain (l2Arity kv) ok134 ?_ (hbT ())
     iterate 3 (try (refine drvZ Tryz.func126 ?_;simp only [go_sem,h2,rdr]))
     have har:0≤arity kv∧arity kv≤3:=by
      refine ⟨?_,arity_le kv⟩
      simp at hkv
      unfold arity;repeat' split
      all_goals omega
     refine Go.loopQ (fun x : Nat × Nat × List Ex => [(0, .c (.ptr 0 0)), (2, DI .i64 ((d' + 1 : Nat) : Int)), (4, .c (.ptr 1 0)), (6, .c (.ptr 65 0)), (8, .c (.ptr 66 0)), (9, DI .i64 x.1)])
      (fun x=>[(0,some (rdr bs x.2.1)),(1,some (Lv.cells ⟨vs,ar,bd⟩)),(65,some [I64 0,I64 0,.v (.slice none 0 0)]),(66,some [I64 kv,I64 0,.msl 67 3 0 x.2.2.length]),(67,some (exC x.2.2))])
      4096 (fun x=>x.2.2.length+x.1≤3∧(∀ e ∈ x.2.2,SmE e)∧n≤x.2.1∧x.2.1≤n+2+x.2.2.length * KD d') (fun x=>x.1) ?_ ((arity kv).toNat,n+2,[]) (fun j=>if j=66 then some 1089 else if j=67 then none else some j) [] _ ⟨by simp;omega,by simp,by simp,by simp⟩ ?_
     ·rintro ⟨i,pos,l⟩ ⟨hi1,hi2,hi3,hi4⟩ again
      simp only at hi1 hi2 hi3 hi4
      have hlk:l.length * KD d'≤3 * KD d':=Nat.mul_le_mul_right _ (by omega)
      rcases i with _ | i
      ·refine drvL Tryz.func126 ?_
       simp only [go_sem,h2,rdr]
       iterate 2 (try (refine drvZ Tryz.func126 ?_;simp only [go_sem,h2,rdr]))
       refine RetOb.ofQ (fun j=>if j=0 then some 0 else none) [67] (.agg (Ex.cells (.mk kv 0 l))) [some (rdr bs pos)] ?_ ⟨.mk kv 0 l,rfl,.mk _ _ _ (by omega) hi2,pos,by omega,by omega,rfl⟩ (by simp)
       have g1:(Ex.cellsL l).flatten=exC l:=by rw [Ex.cellsL_eq];rfl
       have g2:∀ x ∈ Ex.cellsL l,x.length=3:=fun x hx=>by rw [Ex.cellsL_eq] at hx;obtain ⟨e,_,rfl⟩:=List.mem_map.1 hx;exact Ex.cells_len e
       have g3:∀ x ∈ Ex.cellsL l,∀ c ∈ x,kf c=true:=fun x hx=>by rw [Ex.cellsL_eq] at hx;obtain ⟨e,_,rfl⟩:=List.mem_map.1 hx;exact ex_kf e
       simp only [enumL,hOf,DM,DMs,CM,CMs,HpOK,LowOK,upd,Ex.cells,rdr,Ex.cellsL_length,g1]
       first | (simp;exact ⟨g2,g3⟩) | (simp [g2];exact g3) | exact ⟨g2,g3⟩
      ·have hip:((0:Int)<(i:Int)+1)=True:=eq_true (by omega)
       have hlk2:l.length * KD d'≤2 * KD d':=Nat.mul_le_mul_right _ (by omega)
       refine drvL Tryz.func126 ?_
       simp only [go_sem,h2,rdr,hip]
       (with_reducible and_intros)<;>try exact sd
       iterate 2 (try (refine drvZ Tryz.func126 ?_;simp only [go_sem,h2,rdr,hip]))
       (with_reducible and_intros)<;>try exact sd
       refine XK.callG [0] (ih d' (by omega) pos (by omega) (by omega)) ok126 (hhp_one rfl) (hbT ()) (fun d h' ⟨_,_,_,_,_,_,e⟩=>by subst e;simp) ?_ (fun _=>⟨by kernel_rfl,_,_,⟨.mk 2 0 [],rfl,.mk _ _ _ (by simp) (fun x hx=>by simp at hx),pos,by omega,by omega,rfl⟩,by simp⟩)
       rintro _ _ ⟨⟨k,v,ks⟩,rfl,he,n',hn1,hn2,rfl⟩ _
       have hel:=exC_len l
       iterate 3 (try (refine drvZ Tryz.func126 ?_;simp only [go_sem,h2,rdr]))
       (with_reducible and_intros)<;>try exact sd
       iterate 2 (try (refine drvZ Tryz.func126 ?_;simp only [go_sem,h2,rdr]))
       (with_reducible and_intros)<;>try exact sd
       refine again (i,n',l++[.mk k v ks]) (fun j=>if j=67 then some 4736 else some j) [] _ ⟨by simp;omega,?_,by simp;omega,?_⟩ (by simp) ?_
       ·intro e he2
        rcases List.mem_append.1 he2 with h | h
        ·exact hi2 e h
        ·rw [List.mem_singleton.1 h];exact he
       ·simp only [List.length_append,List.length_cons,List.length_nil,Nat.add_mul];omega
       ·simp only [go_sem,TmOK,DM,DMs,CM,CMs,forall_eq,exists_eq_left,Mq,HpOK,LowOK,rdr,exC_snoc]
        simp
        exact CMs.kf (kf_app (exC_kf _) (by simp [kf]))
     ·simp only [go_sem,TmOK,DM,DMs,CM,CMs,forall_eq,exists_eq_left,Mq,HpOK,LowOK,rdr]
      simp [exC]
      omega
end Go.Proofs.YtfkhahkclgejnaaGreatDoor.CtD
