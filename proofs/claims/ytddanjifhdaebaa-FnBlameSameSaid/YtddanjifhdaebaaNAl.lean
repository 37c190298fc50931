/- Contracts of functions of the program, one behind the other, as plain data: what each call returns and which blocks it leaves. -/
import Derived.Test.YtddanjifhdaebaaNFacts
import Derived.Test.YtddanjifhdaebaaNAj
import Derived.Test.YtddanjifhdaebaaNAk
import Derived.Test.YtddanjifhdaebaaNAi
set_option linter.unusedVariables false
set_option linter.unusedSimpArgs false
set_option linter.unusedSectionVars false
set_option maxHeartbeats 16000000
set_option maxRecDepth 100000
namespace Go.Proofs.Ytddanjifhdaebaa.CtD
open Go Go.CT CtF
variable [Yn]
def rdr (bs:List Int) (p:Int):List C:=[.isl 1 (bs.map fun n=>[.v (.int .u8 n)]),.v (.int .i64 p)]
theorem l17Open (bs:List Int) (hl:bs.length≤mx):DC Try.prog 107 [bytesD bs] [] (fun d h=>d = .c (.ptr 0 0)∧h=[some (rdr (bs.take 2000) 0)]):=by
 have hmx:=mx_eq
 refine dc_of_go Try.func107 rfl (by simp) ?_
 refine drv_sound (n:=100) (rs:=_) Try.func107 mo rfl none _ _ ?_
 simp (maxSteps:=10000000) (maxDischargeDepth:=300) only [go_sem,bytesD]
 refine ⟨fun h=>⟨by omega,?_⟩,fun h=>?_⟩
 ·refine RetOb.of (fun k=>if k=0 then some 576 else none) [] (.c (.ptr 0 0)) [some (rdr (bs.take 2000) 0)] ?_ ?_ ⟨rfl,rfl⟩ (by simp)
  ·exact subH_one rfl (by simp [rdr,upd_same]) (by simp [rdr,kf])
  ·simp [DM,CM,hpL]
 ·refine RetOb.of (fun k=>if k=0 then some 384 else none) [] (.c (.ptr 0 0)) [some (rdr (bs.take 2000) 0)] ?_ ?_ ⟨rfl,rfl⟩ (by simp)
  ·exact subH_one rfl (by simp [rdr,upd_same,List.take_of_length_le (show bs.length≤2000 by omega)]) (by simp [rdr,kf])
  ·simp [DM,CM,hpL]
theorem pick (bs : List Int) (p : Nat) (n : Int) (hb : Fits .u8 bs) (hl : bs.length ≤ 2000) (h1 : p ≤ 1099511627776) (hn : InK .i64 n) : DC Try.prog 158 [.c (.ptr 0 0), DI .i64 n] [some (rdr bs p)]
 (fun d h=>∃ v:Int,d=DI .i64 v∧((n<1∨bs=[])∧v=0∨0≤v∧v<n)∧h=[some (rdr bs ((p+1:Nat):Int))]):=by
 have hmx:=mx_eq
 refine dc_of_go Try.func158 rfl (by simp) ?_
 have ret:∀ (v:Int) (hp:Hp),((n<1∨bs=[])∧v=0∨0≤v∧v<n)→hp 0=some (some [.isl 1 (bs.map fun n=>[.v (.int .u8 n)]),.v (.int .i64 (p+1))]) →
  RetOb 1 (fun d h=>∃ v:Int,d = .c (.v (.int .i64 v))∧((n<1∨bs=[])∧v=0∨0≤v∧v<n)∧h=[some [.isl 1 (bs.map fun n=>[.v (.int .u8 n)]),.v (.int .i64 (p+1))]]) (.c (.v (.int .i64 v))) hp:=fun v hp hv hhp=>by
  refine RetOb.of (fun k=>if k=0 then some 0 else none) [] (DI .i64 v) [_] (subH_one' rfl hhp (by simp [kf]) (by simp)) (by simp [DM,CM,DI]) ⟨v,rfl,hv,rfl⟩ (by simp)
 refine drv_sound (n:=37) (rs:=_) Try.func158 mo rfl none _ _ ?_
 simp (maxSteps:=10000000) (maxDischargeDepth:=300) only [go_sem,rdr,List.length_eq_zero_iff,Int.natCast_eq_zero]
 refine ⟨by simp only [InK];omega,fun h=>ret _ _ (.inl ⟨h,rfl⟩) (upd_same _ _ _),fun h=>?_⟩
 have hbl:0<bs.length:=List.length_pos_iff.2 h.2
 have hby:∀ {j:Nat} {x:Int},bs[j]? = some x→0≤x∧x≤255:=fun {j x} hx=>by
  obtain ⟨hlt,e⟩:=List.getElem?_eq_some_iff.1 hx
  exact hb x (e ▸ List.getElem_mem hlt)
 have hrem:∀ a:Int,0≤a→0≤a % n∧a % n<n:=fun a _=>⟨Int.emod_nonneg _ (by omega),Int.emod_lt_of_pos _ (by omega)⟩
 refine drv_sound (n:=100) (rs:=_) Try.func158 mo rfl (some _) _ _ ?_
 rcases Nat.lt_or_ge p bs.length with hlt | hge
 ·obtain ⟨x,hx⟩:∃ x,bs[p]? = some x:=⟨bs[p],by simp⟩
  have hxb:=hby hx
  have hnlt:¬ bs.length≤p:=by omega
  simp (maxSteps:=10000000) (maxDischargeDepth:=300) only [go_sem,hx,hlt,hnlt]
  exact ⟨by simp only [InK];omega,by simp only [InK];omega,by omega,ret _ _ (.inr (hrem x hxb.1)) (upd_same _ _ _)⟩
 ·have hnlt:¬ p<bs.length:=by omega
  have hm1:((p:Int) % bs.length).toNat<bs.length:=by
   have:=Int.emod_lt_of_pos (p:Int) (b:=bs.length) (by omega)
   have:=Int.emod_nonneg (p:Int) (b:=bs.length) (by omega)
   omega
  have hm2:(((p:Int) * 7+3) % bs.length).toNat<bs.length:=by
   have:=Int.emod_lt_of_pos ((p:Int) * 7+3) (b:=bs.length) (by omega)
   have:=Int.emod_nonneg ((p:Int) * 7+3) (b:=bs.length) (by omega)
   omega
  obtain ⟨x,hx⟩:∃ x,bs[((p:Int) % bs.length).toNat]? = some x:=⟨_,List.getElem?_eq_getElem hm1⟩
  obtain ⟨y,hy⟩:∃ x,bs[(((p:Int) * 7+3) % bs.length).toNat]? = some x:=⟨_,List.getElem?_eq_getElem hm2⟩
  have hxb:=hby hx
  have hyb:=hby hy
  simp (maxSteps:=10000000) (maxDischargeDepth:=300) only [go_sem,hx,hy,hge,hnlt]
  have hq0:0≤(p:Int) / bs.length:=Int.ediv_nonneg (by omega) (by omega)
  have hq1:(p:Int) / bs.length≤p:=Int.ediv_le_self _ (by omega)
  generalize (p:Int) / bs.length=q at *
  repeat' with_reducible apply And.intro
  all_goals first | kernel_rfl | (simp only [InK];omega) | omega | exact Int.emod_nonneg _ (by omega) | exact ret _ _ (.inr (hrem _ (Int.natCast_nonneg _))) (upd_same _ _ _)
theorem num (bs : List Int) (p : Nat) (xs : List Int) (hb : Fits .u8 bs) (hl : bs.length ≤ 2000) (h1 : p ≤ 1099511627776) (hx0 : 0 < xs.length) (hx1 : xs.length ≤ mx) : DC Try.prog 159 [.c (.ptr 0 0), ints xs] [some (rdr bs p)]
 (fun d h=>∃ v:Int,d=DI .i64 v∧v ∈ xs∧h=[some (rdr bs ((p+1:Nat):Int))]):=by
 have hmx:=mx_eq
 refine dc_of_go Try.func159 rfl (by simp) ?_
 refine drv_sound (n:=100) (rs:=_) Try.func159 mo rfl none _ _ ?_
 simp (maxSteps:=10000000) (maxDischargeDepth:=300) only [go_sem,rdr,ints]
 refine XK.callG [0] (pick bs p xs.length hb hl h1 (by simp only [InK];omega)) ok158 (hhp_one rfl) (fun j hj=>by simp [hpL]) (fun d h' ⟨v,_,_,e⟩=>by subst e;simp) ?_
 rintro d h' ⟨v,rfl,hv,rfl⟩ _
 have hv2:0≤v∧v<xs.length:=by
  rcases hv with ⟨h | h,_⟩ | h
  ·omega
  ·omega
  ·exact h
 refine drv_sound (n:=100) (rs:=_) Try.func159 mo rfl (some _) _ _ ?_
 obtain ⟨y,hy⟩:∃ y,xs[v.toNat]? = some y:=⟨xs[v.toNat]'(by omega),List.getElem?_eq_getElem (by omega)⟩
 have hmem:y ∈ xs:=List.mem_of_getElem? hy
 simp (maxSteps:=10000000) (maxDischargeDepth:=300) only [go_sem,rdr,ints,hy]
 exact ⟨by omega,RetOb.keep1 (d:=DI .i64 y) (cs:=rdr bs ((p+1:Nat):Int)) ⟨y,rfl,hmem,rfl⟩ rfl (by simp [rdr,kf]) rfl⟩
end Go.Proofs.Ytddanjifhdaebaa.CtD
namespace Go.Proofs.Ytddanjifhdaebaa.CtR
end Go.Proofs.Ytddanjifhdaebaa.CtR
namespace Go.Proofs.Ytddanjifhdaebaa.CtD
open Go Go.CT CtF CtR
variable [Yn]
def rdL (bs:List Int) (n k:Nat) (h:List (Option (List C))):Prop:=∃ n':Nat,n≤n'∧n'≤n+k∧h=[some (rdr bs n')]
theorem rdr_kf (bs:List Int) (n:Int):∀ c ∈ rdr bs n,kf c=true:=by simp [rdr,kf]
theorem l3Value (bs : List Int) (n : Nat) (hb : Fits .u8 bs) (hl : bs.length ≤ 2000) (h1 : n + 4 ≤ 1099511627776) : DC Try.prog 163 [.c (.ptr 0 0)] [some (rdr bs n)]
 (fun d h=>∃ v:Int,d=DI .i64 v∧(0≤v∧v≤255)∧rdL bs n 1 h):=by
 have hmx:=mx_eq
 refine dc_of_go Try.func163 rfl (by simp) ?_
 refine drv_sound (n:=100) (rs:=_) Try.func163 mo rfl none _ _ ?_
 simp only [go_sem,rdr]
 refine ⟨by decide,?_⟩
 refine XK.freeze 4 129 1 9 [[.v (.int .i64 0)],[.v (.int .i64 1)],[.v (.int .i64 2)],[.v (.int .i64 3)],[.v (.int .i64 255)],[.v (.int .i64 128)],[.v (.int .i64 7)],[.v (.int .i64 4)],[.v (.int .i64 100)]] ?_ rfl
 refine XK.callG [0] (num bs n [0,1,2,3,255,128,7,4,100] hb hl (by omega) (by decide) (by decide)) ok159 (hhp_one rfl) (hbT ()) (fun d h' ⟨v,_,_,e⟩=>by subst e;simp) ?_
 rintro d h' ⟨v,rfl,hv,rfl⟩ _
 refine drv_sound (n:=100) (rs:=_) Try.func163 mo rfl (some _) _ _ ?_
 simp only [go_sem,rdr]
 refine RetOb.keep1 (d:=DI .i64 v) (cs:=rdr bs ((n+1:Nat):Int)) ⟨v,rfl,?_,n+1,by omega,by omega,rfl⟩ rfl (rdr_kf _ _) rfl
 simp at hv;omega
def AtomE (e:Ex):Prop:=∃ k v,e = .mk k v []∧InK .i64 v∧(k=1∨k=2)
theorem l2DrawAtom (bs : List Int) (n : Nat) (p : Pg) (hb : Fits .u8 bs) (hl : bs.length ≤ 2000) (h1 : n + 4 ≤ 1099511627776) (hp : p.vars.length ≤ mx) : DC Try.prog 228 [.c (.ptr 0 0), .agg p.cells] [some (rdr bs n)]
 (fun d h=>∃ e:Ex,d = .agg e.cells∧AtomE e∧rdL bs n 2 h):=by
 have hmx:=mx_eq
 obtain ⟨vs,ar,bd⟩:=p
 have hp:vs.length≤mx:=hp
 refine dc_of_go Try.func228 rfl (by simp) ?_
 refine drv_sound (n:=100) (rs:=_) Try.func228 mo rfl none _ _ ?_
 simp only [go_sem,rdr]
 refine XK.callG [0] (pick bs n 3 hb hl (by omega) (by simp only [InK];omega)) ok158 (hhp_one rfl) (hbT ()) (fun d h' ⟨v,_,_,e⟩=>by subst e;simp) ?_
 rintro d h' ⟨v,rfl,hv,rfl⟩ _
 refine drv_sound (n:=100) (rs:=_) Try.func228 mo rfl (some _) _ _ ?_
 simp only [go_sem,rdr]
 refine ⟨fun h0=>?_,fun h0=>?_⟩
 ·refine ⟨by decide,?_⟩
  refine XK.freeze 9 385 1 7 [[.v (.int .i64 1)],[.v (.int .i64 0)],[.v (.int .i64 2)],[.v (.int .i64 3)],[.v (.int .i64 255)],[.v (.int .i64 7)],[.v (.int .i64 128)]] ?_ rfl
  refine XK.callG [0] (num bs (n+1) [1,0,2,3,255,7,128] hb hl (by omega) (by decide) (by decide)) ok159 (hhp_one rfl) (hbT ()) (fun d h' ⟨v,_,_,e⟩=>by subst e;simp) ?_
  rintro d h' ⟨v2,rfl,hv2,rfl⟩ _
  refine drv_sound (n:=100) (rs:=_) Try.func228 mo rfl (some _) _ _ ?_
  simp only [go_sem,rdr]
  simp at hv2
  refine RetOb.ofQ (fun j=>if j=0 then some 0 else none) [] (.agg (Ex.cells (.mk 1 v2 []))) [some (rdr bs ((n+2:Nat):Int))] ?_ ⟨.mk 1 v2 [],rfl,⟨1,v2,rfl,?_,by simp⟩,n+2,by omega,by omega,rfl⟩ (by simp)
  ·simp [enumL,hOf,DM,DMs,CM,CMs,HpOK,LowOK,upd,Ex.cells,Ex.cellsL,rdr]
   try omega
  ·simp only [InK];omega
 ·refine XK.callG [0] (pick bs (n+1) vs.length hb hl (by omega) (by simp only [InK];omega)) ok158 (hhp_one rfl) (hbT ()) (fun d h' ⟨v,_,_,e⟩=>by subst e;simp) ?_
  rintro d h' ⟨v2,rfl,hv2,rfl⟩ _
  refine drv_sound (n:=100) (rs:=_) Try.func228 mo rfl (some _) _ _ ?_
  simp only [go_sem,rdr]
  refine RetOb.ofQ (fun j=>if j=0 then some 0 else none) [] (.agg (Ex.cells (.mk 2 v2 []))) [some (rdr bs ((n+2:Nat):Int))] ?_ ⟨.mk 2 v2 [],rfl,⟨2,v2,rfl,?_,by simp⟩,n+2,by omega,by omega,rfl⟩ (by simp)
  ·simp [enumL,hOf,DM,DMs,CM,CMs,HpOK,LowOK,upd,Ex.cells,Ex.cellsL,rdr]
   try omega
  ·simp only [InK];omega
theorem numO (bs : List Int) (p : Nat) (xs : List Int) (hb : Fits .u8 bs) (hl : bs.length ≤ 2000) (h1 : p ≤ 1099511627776) (hx0 : 0 < xs.length) (hx1 : xs.length ≤ mx) : DC Try.prog 159 [.c (.ptr 0 0), .c (.msl 1 1 0 xs.length)] [some (rdr bs p), some (xs.map I64)]
 (fun d h=>∃ v:Int,d=DI .i64 v∧v ∈ xs∧h=[some (rdr bs ((p+1:Nat):Int)),some (xs.map I64)]):=by
 have hmx:=mx_eq
 refine dc_of_go Try.func159 rfl (by simp) ?_
 refine drv_sound (n:=100) (rs:=_) Try.func159 mo rfl none _ _ ?_
 simp only [go_sem,rdr]
 refine XK.callG [0] (pick bs p xs.length hb hl h1 (by simp only [InK];omega)) ok158 (hhp_one rfl) (hbT ()) (fun d h' ⟨v,_,_,e⟩=>by subst e;simp) ?_
 rintro d h' ⟨v,rfl,hv,rfl⟩ _
 have hv2:0≤v∧v<xs.length:=by
  rcases hv with ⟨h | h,_⟩ | h
  ·omega
  ·omega
  ·exact h
 obtain ⟨y,hy⟩:∃ y,xs[v.toNat]? = some y:=⟨xs[v.toNat]'(by omega),List.getElem?_eq_getElem (by omega)⟩
 have hmem:y ∈ xs:=List.mem_of_getElem? hy
 refine drv_sound (n:=100) (rs:=_) Try.func159 mo rfl (some _) _ _ ?_
 simp only [go_sem,rdr,hy]
 refine ⟨by omega,?_⟩
 refine RetOb.ofQ (fun j=>if j<2 then some j else none) [] (DI .i64 y) [some (rdr bs ((p+1:Nat):Int)),some (xs.map I64)] ?_ ⟨y,rfl,hmem,rfl⟩ (by simp)
 simp [enumL,hOf,DM,CM,CMs,HpOK,LowOK,upd,rdr,CMs_I,hpL]
inductive SmE : Ex → Prop
 | mk (k v:Int) (ks:List Ex) (h:ks.length≤3) (h2:∀ x ∈ ks,SmE x):SmE (.mk k v ks)
theorem SmE.atom {e:Ex} (h:AtomE e):SmE e:=by
 obtain ⟨k,v,rfl,_,_⟩:=h
 exact .mk k v [] (by simp) (fun x hx=>by simp at hx)
def exC (l:List Ex):List C:=(l.map Ex.cells).flatten
theorem exC_len (l:List Ex):(exC l).length=l.length * 3:=by
 unfold exC
 induction l with
 | nil=>rfl
 | cons a r ih=>simp only [List.map_cons,List.flatten_cons,List.length_append,ih,Ex.cells_len,List.length_cons];omega
theorem ex_kf (e:Ex):∀ c ∈ e.cells,kf c=true:=by cases e;simp [Ex.cells,kf]
theorem exC_kf (l:List Ex):∀ c ∈ exC l,kf c=true:=by
 unfold exC
 intro c hc
 obtain ⟨x,hx,hc⟩:=List.mem_flatten.1 hc
 obtain ⟨e,_,rfl⟩:=List.mem_map.1 hx
 exact ex_kf e c hc
theorem exC_snoc (l:List Ex) (e:Ex):exC (l++[e])=exC l++e.cells:=by simp [exC]
theorem hhp2 {hp:Hp} {r:Nat→Nat} {k0 k1:Nat} {h0 h1:Option (List C)} (e0:hp k0=some (h0.map (renCs r))) (e1:hp k1=some (h1.map (renCs r))):∀ i' x,[h0,h1][i']? = some x→hp ([k0,k1].getD i' 0)=some (x.map (renCs r)):=by
 intro i' x hx
 match i',hx with
 | 0,hx=>simp only [List.getElem?_cons_zero,Option.some.injEq] at hx;subst hx;exact e0
 | 1,hx=>simp only [List.getElem?_cons_succ,List.getElem?_cons_zero,Option.some.injEq] at hx;subst hx;exact e1
 | i' + 2,hx=>simp at hx
def KD (d:Nat):Nat:=4 ^ (d+1)
theorem l2Draw (bs : List Int) (p : Pg) (hb : Fits .u8 bs) (hl : bs.length ≤ 2000) (hp : p.vars.length ≤ mx) (hp2 : p.arrays.length ≤ mx) : ∀ (d n : Nat), d ≤ 8 → n + KD d ≤ 1099511627776 → DC Try.prog 238 [.c (.ptr 0 0), .agg p.cells, DI .i64 d] [some (rdr bs n)]
 (fun r h=>∃ e:Ex,r = .agg e.cells∧SmE e∧rdL bs n (KD d) h):=by
 have hmx:=mx_eq
 intro d
 induction d using Nat.strongRecOn with
 | _ d ih =>
  intro n hd hn
  have hat:=fun n h=>l2DrawAtom bs n p hb hl h hp
  obtain ⟨vs,ar,bd⟩:=p
  have hp:vs.length≤mx:=hp
  have hp2:ar.length≤mx:=hp2
  have hk:16≤KD d∨d=0:=by
   rcases d with _ | d
   ·exact .inr rfl
   ·left;unfold KD;rw [Nat.pow_succ,Nat.pow_succ];have:0<4 ^ d:=Nat.pow_pos (by decide);omega
  have hk4:4≤KD d:=by unfold KD;rw [Nat.pow_succ];have:0<4 ^ d:=Nat.pow_pos (by decide);omega
  by_cases hd2:d<2
  ·have h2:((d:Int)<2)=True:=eq_true (by omega)
   refine dcZ Try.func238 ?_
   simp only [go_sem,h2,rdr]
   refine XK.gskip 2 false (DI .i64 0) ?_ (hbT ())
   iterate 2 (try (refine drvZ Try.func238 ?_;simp only [go_sem,h2,rdr]))
   refine XK.callG [0] (hat n (by omega)) ok228 (hhp_one rfl) (hbT ()) (fun d h' ⟨_,_,_,_,_,_,e⟩=>by subst e;simp) ?_
   rintro _ _ ⟨⟨k,v,ks⟩,rfl,he,n',hn1,hn2,rfl⟩ _
   iterate 2 (try (refine drvZ Try.func238 ?_;simp only [go_sem,rdr]))
   exact RetOb.keep1 (d := .agg (Ex.cells (.mk k v ks))) (cs:=rdr bs n') ⟨.mk k v ks,rfl,SmE.atom he,n',hn1,by omega,rfl⟩ rfl (rdr_kf _ _) (ex_kf _)
  ·obtain ⟨d',rfl⟩:∃ d',d=d' + 1:=⟨d - 1,by omega⟩
   have h2:((d':Int)+1<2)=False:=eq_false (by omega)
   have hKK:KD (d' + 1)=4 * KD d':=by unfold KD;rw [Nat.pow_succ];omega
   have hk1:16≤KD d':=by
    obtain ⟨d2,rfl⟩:∃ d2,d'=d2+1:=⟨d' - 1,by omega⟩
    unfold KD;rw [Nat.pow_succ,Nat.pow_succ];have:0<4 ^ d2:=Nat.pow_pos (by decide);omega
   have hk16:16≤KD (d' + 1):=by omega
   refine dcZ Try.func238 ?_
   simp only [go_sem,h2,rdr]
   iterate 2 (try (refine drvZ Try.func238 ?_;simp only [go_sem,h2,rdr]))
   refine XK.callT 2 false [0] (pick bs n 4 hb hl (by omega) (by simp only [InK];omega)) ok158 (hhp_one rfl) (hbT ()) (fun d h' ⟨v,_,_,e⟩=>by subst e;simp) ?_
   rintro _ _ ⟨v0,rfl,hv0,rfl⟩ _
   by_cases hz:v0=0
   ·subst hz
    iterate 3 (try (refine drvZ Try.func238 ?_;simp only [go_sem,h2,rdr]))
    refine XK.callG [0] (hat (n+1) (by omega)) ok228 (hhp_one rfl) (hbT ()) (fun d h' ⟨_,_,_,_,_,_,e⟩=>by subst e;simp) ?_
    rintro _ _ ⟨⟨k,v,ks⟩,rfl,he,n',hn1,hn2,rfl⟩ _
    iterate 2 (try (refine drvZ Try.func238 ?_;simp only [go_sem,rdr]))
    exact RetOb.keep1 (d := .agg (Ex.cells (.mk k v ks))) (cs:=rdr bs n') ⟨.mk k v ks,rfl,SmE.atom he,n',by omega,by omega,rfl⟩ rfl (rdr_kf _ _) (ex_kf _)
   ·have hzb:(v0 == 0)=false:=by simp [hz]
    iterate 3 (try (refine drvZ Try.func238 ?_;simp only [go_sem,h2,rdr,hz,hzb]))
    refine ⟨by decide,?_⟩
    refine XK.callG [0,641] (numO bs (n+1) [4,10,8,9,3,6,7,5,11] hb hl (by omega) (by decide) (by decide)) ok159 (hhp2 rfl rfl) (hbT ()) (fun d h' ⟨_,_,_,e⟩=>by subst e;simp) ?_
    rintro _ _ ⟨kv,rfl,hkv,rfl⟩ _
    have hat2:=hat (n+2) (by omega)
    by_cases hk3:kv=3
    ·subst hk3
     by_cases ha0:ar.length=0
     ·have e1:((ar.length:Int) == 0)=true:=by simp [ha0]
      have e2:((ar.length:Int)=0)=True:=eq_true (by omega)
      iterate 4 (try (refine drvZ Try.func238 ?_;simp only [go_sem,h2,rdr,e1,e2]))
      refine XK.callG [0] (hat (n+2) (by omega)) ok228 (hhp_one rfl) (hbT ()) (fun d h' ⟨_,_,_,_,_,_,e⟩=>by subst e;simp) ?_
      rintro _ _ ⟨⟨k,v,ks⟩,rfl,he,n',hn1,hn2,rfl⟩ _
      iterate 2 (try (refine drvZ Try.func238 ?_;simp only [go_sem,rdr]))
      exact RetOb.keep1 (d := .agg (Ex.cells (.mk k v ks))) (cs:=rdr bs n') ⟨.mk k v ks,rfl,SmE.atom he,n',by omega,by omega,rfl⟩ rfl (rdr_kf _ _) (ex_kf _)
     ·have e1:((ar.length:Int) == 0)=false:=by simp only [beq_eq_false_iff_ne];omega
      have e2:((ar.length:Int)=0)=False:=eq_false (by omega)
      iterate 4 (try (refine drvZ Try.func238 ?_;simp only [go_sem,h2,rdr,e1,e2]))
      (with_reducible and_intros)<;>try exact sd
      iterate 3 (try (refine drvZ Try.func238 ?_;simp only [go_sem,h2,rdr,e1,e2]))
      (with_reducible and_intros)<;>try exact sd
      refine XK.callG [0] (pick bs (n+2) ar.length hb hl (by omega) (by simp only [InK];omega)) ok158 (hhp_one rfl) (hbT ()) (fun d h' ⟨v,_,_,e⟩=>by subst e;simp) ?_ (fun _=>⟨by kernel_rfl,_,_,⟨0,rfl,by omega,rfl⟩,by simp⟩)
      rintro _ _ ⟨v1,rfl,hv1,rfl⟩ _
      iterate 2 (try (refine drvZ Try.func238 ?_;simp only [go_sem,h2,rdr]))
      (with_reducible and_intros)<;>try exact sd
      refine XK.callG [0] (hat (n+3) (by omega)) ok228 (hhp_one rfl) (hbT ()) (fun d h' ⟨_,_,_,_,_,_,e⟩=>by subst e;simp) ?_ (fun _=>⟨by kernel_rfl,_,_,⟨.mk 2 0 [],rfl,⟨2,0,rfl,by simp only [InK];omega,.inr rfl⟩,n+3,by omega,by omega,rfl⟩,by simp⟩)
      rintro _ _ ⟨⟨k,v,ks⟩,rfl,he,n',hn1,hn2,rfl⟩ _
      iterate 3 (try (refine drvZ Try.func238 ?_;simp only [go_sem,h2,rdr]))
      (with_reducible and_intros)<;>try exact sd
      refine RetOb.ofQ (fun j=>if j=0 then some 0 else none) [1793] (.agg (Ex.cells (.mk 3 v1 [.mk k v ks]))) [some (rdr bs n')] ?_ ⟨.mk 3 v1 [.mk k v ks],rfl,.mk _ _ _ (by simp) (fun x hx=>by simp at hx;subst hx;exact SmE.atom he),n',by omega,by omega,rfl⟩ (by simp)
      simp [enumL,hOf,DM,DMs,CM,CMs,HpOK,LowOK,upd,Ex.cells,Ex.cellsL,rdr,kf]
    ·have e1:(kv == 3)=false:=by simp [hk3]
     iterate 4 (try (refine drvZ Try.func238 ?_;simp only [go_sem,h2,rdr,hk3,e1]))
     refine XK.plain (l2Arity kv) ok234 ?_ (hbT ())
     iterate 3 (try (refine drvZ Try.func238 ?_;simp only [go_sem,h2,rdr]))
     have har:0≤arity kv∧arity kv≤3:=by
      refine ⟨?_,arity_le kv⟩
      simp at hkv
      unfold arity;repeat' split
      all_goals omega
     refine Go.loopQ (fun x : Nat × Nat × List Ex => [(0, .c (.ptr 0 0)), (2, DI .i64 ((d' + 1 : Nat) : Int)), (4, .c (.ptr 1 0)), (6, .c (.ptr 65 0)), (8, .c (.ptr 66 0)), (9, DI .i64 x.1)])
      (fun x=>[(0,some (rdr bs x.2.1)),(1,some (Pg.cells ⟨vs,ar,bd⟩)),(65,some [I64 0,I64 0,.v (.slice none 0 0)]),(66,some [I64 kv,I64 0,.msl 67 3 0 x.2.2.length]),(67,some (exC x.2.2))])
      4096 (fun x=>x.2.2.length+x.1≤3∧(∀ e ∈ x.2.2,SmE e)∧n≤x.2.1∧x.2.1≤n+2+x.2.2.length * KD d') (fun x=>x.1) ?_ ((arity kv).toNat,n+2,[]) (fun j=>if j=66 then some 1089 else if j=67 then none else some j) [] _ ⟨by simp;omega,by simp,by simp,by simp⟩ ?_
     ·rintro ⟨i,pos,l⟩ ⟨hi1,hi2,hi3,hi4⟩ again
      simp only at hi1 hi2 hi3 hi4
      have hlk:l.length * KD d'≤3 * KD d':=Nat.mul_le_mul_right _ (by omega)
      rcases i with _ | i
      ·refine drvL Try.func238 ?_
       simp only [go_sem,h2,rdr]
       iterate 2 (try (refine drvZ Try.func238 ?_;simp only [go_sem,h2,rdr]))
       refine RetOb.ofQ (fun j=>if j=0 then some 0 else none) [67] (.agg (Ex.cells (.mk kv 0 l))) [some (rdr bs pos)] ?_ ⟨.mk kv 0 l,rfl,.mk _ _ _ (by omega) hi2,pos,by omega,by omega,rfl⟩ (by simp)
       have g1:(Ex.cellsL l).flatten=exC l:=by rw [Ex.cellsL_eq];rfl
       have g2:∀ x ∈ Ex.cellsL l,x.length=3:=fun x hx=>by rw [Ex.cellsL_eq] at hx;obtain ⟨e,_,rfl⟩:=List.mem_map.1 hx;exact Ex.cells_len e
       have g3:∀ x ∈ Ex.cellsL l,∀ c ∈ x,kf c=true:=fun x hx=>by rw [Ex.cellsL_eq] at hx;obtain ⟨e,_,rfl⟩:=List.mem_map.1 hx;exact ex_kf e
       simp only [enumL,hOf,DM,DMs,CM,CMs,HpOK,LowOK,upd,Ex.cells,rdr,Ex.cellsL_length,g1]
       first | (simp;exact ⟨g2,g3⟩) | (simp [g2];exact g3) | exact ⟨g2,g3⟩
      ·have hip:((0:Int)<(i:Int)+1)=True:=eq_true (by omega)
       have hlk2:l.length * KD d'≤2 * KD d':=Nat.mul_le_mul_right _ (by omega)
       refine drvL Try.func238 ?_
       simp only [go_sem,h2,rdr,hip]
       (with_reducible and_intros)<;>try exact sd
       iterate 2 (try (refine drvZ Try.func238 ?_;simp only [go_sem,h2,rdr,hip]))
       (with_reducible and_intros)<;>try exact sd
       refine XK.callG [0] (ih d' (by omega) pos (by omega) (by omega)) ok238 (hhp_one rfl) (hbT ()) (fun d h' ⟨_,_,_,_,_,_,e⟩=>by subst e;simp) ?_ (fun _=>⟨by kernel_rfl,_,_,⟨.mk 2 0 [],rfl,.mk _ _ _ (by simp) (fun x hx=>by simp at hx),pos,by omega,by omega,rfl⟩,by simp⟩)
       rintro _ _ ⟨⟨k,v,ks⟩,rfl,he,n',hn1,hn2,rfl⟩ _
       have hel:=exC_len l
       iterate 3 (try (refine drvZ Try.func238 ?_;simp only [go_sem,h2,rdr]))
       (with_reducible and_intros)<;>try exact sd
       iterate 2 (try (refine drvZ Try.func238 ?_;simp only [go_sem,h2,rdr]))
       (with_reducible and_intros)<;>try exact sd
       refine again (i,n',l++[.mk k v ks]) (fun j=>if j=67 then some 4736 else some j) [] _ ⟨by simp;omega,?_,by simp;omega,?_⟩ (by simp) ?_
       ·intro e he2
        rcases List.mem_append.1 he2 with h | h
        ·exact hi2 e h
        ·rw [List.mem_singleton.1 h];exact he
       ·simp only [List.length_append,List.length_cons,List.length_nil,Nat.add_mul];omega
       ·simp only [go_sem,TmOK,DM,DMs,CM,CMs,forall_eq,exists_eq_left,Mq,HpOK,LowOK,rdr,exC_snoc]
        simp
        exact CMs.kf (kf_app (exC_kf _) (by simp [kf]))
     ·simp only [go_sem,TmOK,DM,DMs,CM,CMs,forall_eq,exists_eq_left,Mq,HpOK,LowOK,rdr]
      simp [exC]
      omega
theorem l2Small (bs : List Int) (n : Nat) (p : Pg) (hb : Fits .u8 bs) (hl : bs.length ≤ 2000) (hp : p.vars.length ≤ mx) (hp2 : p.arrays.length ≤ mx) (hn : n + 2000 ≤ 1099511627776) : DC Try.prog 229 [.c (.ptr 0 0), .agg p.cells] [some (rdr bs n)]
 (fun r h=>∃ e:Ex,r = .agg e.cells∧SmE e∧rdL bs n 1100 h):=by
 have hmx:=mx_eq
 have hat:=fun n h=>l2DrawAtom bs n p hb hl h hp
 have hdr:=fun d n h1 h2=>l2Draw bs p hb hl hp hp2 d n h1 h2
 have hrt:=fun e=>l2Right p e hp hp2
 obtain ⟨vs,ar,bd⟩:=p
 refine dcZ Try.func229 ?_
 simp only [go_sem,rdr]
 iterate 1 (try (refine drvZ Try.func229 ?_;simp only [go_sem,rdr]))
 (with_reducible and_intros)<;>try exact sd
 refine XK.callG [0,321] (numO bs n [2,3,2,1,4] hb hl (by omega) (by decide) (by decide)) ok159 (hhp2 rfl rfl) (hbT ()) (fun d h' ⟨_,_,_,e⟩=>by subst e;simp) ?_ (fun _=>⟨by kernel_rfl,_,_,⟨2,rfl,by simp,rfl⟩,by simp⟩)
 rintro _ _ ⟨dv,rfl,hdv,rfl⟩ _
 obtain ⟨d,rfl,hd1,hd4⟩:∃ d:Nat,dv=(d:Int)∧1≤d∧d≤4:=⟨dv.toNat,by simp at hdv;omega,by simp at hdv;omega,by simp at hdv;omega⟩
 have hK:KD d≤1024:=by unfold KD;exact Nat.le_trans (Nat.pow_le_pow_right (by omega) (show d+1≤5 by omega)) (by decide)
 iterate 1 (try (refine drvZ Try.func229 ?_;simp only [go_sem,rdr]))
 (with_reducible and_intros)<;>try exact sd
 refine XK.callG [0] (hdr d (n+1) (by omega) (by omega)) ok238 (hhp_one rfl) (hbT ()) (fun d h' ⟨_,_,_,_,_,_,e⟩=>by subst e;simp) ?_ (fun _=>⟨by kernel_rfl,_,_,⟨.mk 2 0 [],rfl,.mk _ _ _ (by simp) (fun x hx=>by simp at hx),n+1,by omega,by omega,rfl⟩,by simp⟩)
 rintro _ _ ⟨⟨k,v,ks⟩,rfl,he,n',hn1,hn2,rfl⟩ _
 iterate 2 (try (refine drvZ Try.func229 ?_;simp only [go_sem,rdr]))
 (with_reducible and_intros)<;>try exact sd
 iterate 1 (try (refine drvZ Try.func229 ?_;simp only [go_sem,rdr]))
 refine XK.plain (hrt (.mk k v ks)) ok204 ?_ (hbT ())
 cases hq:right ⟨vs,ar,bd⟩ (.mk k v ks) with
 | true =>
  iterate 2 (try (refine drvZ Try.func229 ?_;simp only [go_sem,rdr,hq]))
  exact RetOb.keep1 (d := .agg (Ex.cells (.mk k v ks))) (cs:=rdr bs n') ⟨.mk k v ks,rfl,he,n',by omega,by omega,rfl⟩ rfl (rdr_kf _ _) (ex_kf _)
 | false =>
  iterate 2 (try (refine drvZ Try.func229 ?_;simp only [go_sem,rdr,hq]))
  refine XK.callG [0] (hat n' (by omega)) ok228 (hhp_one rfl) (hbT ()) (fun d h' ⟨_,_,_,_,_,_,e⟩=>by subst e;simp) ?_
  rintro _ _ ⟨⟨k2,v2,ks2⟩,rfl,he2,n2,hn3,hn4,rfl⟩ _
  iterate 2 (try (refine drvZ Try.func229 ?_;simp only [go_sem,rdr]))
  exact RetOb.keep1 (d := .agg (Ex.cells (.mk k2 v2 ks2))) (cs:=rdr bs n2) ⟨.mk k2 v2 ks2,rfl,SmE.atom he2,n2,by omega,by omega,rfl⟩ rfl (rdr_kf _ _) (ex_kf _)
def SmS : Nat → St1 → Prop
 | 0,.mk _ _ ix v _ b e=>SmE ix∧SmE v∧b=[]∧e=[]
 | d+1,.mk _ _ ix v _ b e=>SmE ix∧SmE v∧b.length≤4∧e.length≤4∧(∀ x ∈ b,SmS d x)∧∀ x ∈ e,SmS d x
def stC (l:List St1):List C:=(l.map St1.cells).flatten
theorem stC_len (l:List St1):(stC l).length=l.length * 11:=by
 unfold stC
 induction l with
 | nil=>rfl
 | cons a r ih=>simp only [List.map_cons,List.flatten_cons,List.length_append,ih,St1.cells_len,List.length_cons];omega
theorem st_kf (s:St1):∀ c ∈ s.cells,kf c=true:=by
 obtain ⟨k,t,ix,v,c,b,e⟩:=s
 intro x hx
 simp only [St1.cells,List.mem_append,List.mem_cons,List.not_mem_nil,or_false] at hx
 rcases hx with ((hx | hx) | hx) | hx
 ·rcases hx with rfl | rfl<;>rfl
 ·exact ex_kf _ _ hx
 ·exact ex_kf _ _ hx
 ·rcases hx with rfl | rfl | rfl<;>rfl
theorem stC_kf (l:List St1):∀ c ∈ stC l,kf c=true:=by
 unfold stC
 intro c hc
 obtain ⟨x,hx,hc⟩:=List.mem_flatten.1 hc
 obtain ⟨e,_,rfl⟩:=List.mem_map.1 hx
 exact st_kf e c hc
theorem stC_snoc (l:List St1) (s:St1):stC (l++[s])=stC l++s.cells:=by simp [stC]
theorem l2DrawBlockOf (bs : List Int) (p : Pg) (dep : Int) (Q : St1 → Prop) (K : Nat) (hK : K ≤ 1000000000)
 (hst:∀ n:Nat,n+K≤549755813888→DC Try.prog 215 [.c (.ptr 0 0),.agg p.cells,DI .i64 dep] [some (rdr bs n)] (fun r h=>∃ s:St1,r = .agg s.cells∧Q s∧rdL bs n K h))
 (n nn : Nat) (hnn : nn ≤ 4) (hn : n + 4 * K ≤ 549755813888) : DC Try.prog 188 [.c (.ptr 0 0), .agg p.cells, DI .i64 dep, DI .i64 nn] [some (rdr bs n)]
  (fun r h=>∃ l:List St1,r = .c (.isl 11 (St1.cellsL l))∧l.length≤4∧(∀ s ∈ l,Q s)∧rdL bs n (4 * K) h):=by
 have hmx:=mx_eq
 obtain ⟨vs,ar,bd⟩:=p
 refine dcZ Try.func188 ?_
 simp only [go_sem,rdr]
 iterate 2 (try (refine drvZ Try.func188 ?_;simp only [go_sem,rdr]))
 refine Go.loopQ (fun x : Nat × Nat × List St1 => [(0, .c (.ptr 0 0)), (2, DI .i64 dep), (3, DI .i64 nn), (5, .c (.ptr 1 0)), (9, .c (.msl 67 11 0 x.2.2.length)), (10, DI .i64 x.1)])
  (fun x=>[(0,some (rdr bs x.2.1)),(1,some (Pg.cells ⟨vs,ar,bd⟩)),(67,some (stC x.2.2))])
  4096 (fun x=>x.2.2.length=x.1∧x.1≤nn∧(∀ s ∈ x.2.2,Q s)∧n≤x.2.1∧x.2.1≤n+x.1 * K) (fun x=>nn - x.1) ?_ (0,n,[]) (fun j=>if j=67 then some 129 else some j) [] _ ⟨rfl,by simp,by simp,by simp,by simp⟩ ?_
 ·rintro ⟨i,pos,l⟩ ⟨hi1,hi2,hi3,hi4,hi5⟩ again
  simp only at hi1 hi2 hi3 hi4 hi5
  have hik:i * K≤4 * K:=Nat.mul_le_mul_right _ (by omega)
  rcases Nat.lt_or_ge i nn with hlt | hge
  ·have hsl:=stC_len l
   have hik2:(i+1) * K≤4 * K:=Nat.mul_le_mul_right _ (by omega)
   rw [Nat.add_mul,Nat.one_mul] at hik2
   refine drvL Try.func188 ?_
   simp only [go_sem,rdr,hlt]
   iterate 2 (try (refine drvZ Try.func188 ?_;simp only [go_sem,rdr,hlt]))
   refine XK.callG [0] (hst pos (by omega)) ok215 (hhp_one rfl) (hbT ()) (fun d h' ⟨_,_,_,_,_,_,e⟩=>by subst e;simp) ?_
   rintro _ _ ⟨⟨k,t,⟨ik,iv,iks⟩,⟨vk,vv,vks⟩,c,b,e⟩,rfl,hs,n',hn1,hn2,rfl⟩ _
   iterate 3 (try (refine drvZ Try.func188 ?_;simp only [go_sem,rdr]))
   (with_reducible and_intros)<;>try exact sd
   refine again (i+1,n',l++[(.mk k t (.mk ik iv iks) (.mk vk vv vks) c b e)]) (fun j=>if j=67 then some 4672 else some j) [] _ ⟨by simp;omega,by omega,?_,by simp only;omega,?_⟩ (by simp only;omega) ?_
   ·intro x hx
    rcases List.mem_append.1 hx with h | h
    ·exact hi3 x h
    ·rw [List.mem_singleton.1 h];exact hs
   ·simp only [Nat.add_mul,Nat.one_mul];omega
   ·simp only [go_sem,TmOK,DM,DMs,CM,CMs,forall_eq,exists_eq_left,Mq,HpOK,LowOK,rdr,stC_snoc,List.cons_append,List.nil_append]
    simp
    exact CMs.kf (kf_app (stC_kf _) (by simp [kf]))
  ·have hnl:¬ i<nn:=by omega
   refine drvL Try.func188 ?_
   simp only [go_sem,rdr,hnl]
   iterate 2 (try (refine drvZ Try.func188 ?_;simp only [go_sem,rdr,hnl]))
   refine RetOb.ofQ (fun j=>if j=0 then some 0 else none) [67] (.c (.isl 11 (St1.cellsL l))) [some (rdr bs pos)] ?_ ⟨l,rfl,by omega,hi3,pos,hi4,by omega,rfl⟩ (by simp)
   have g1:(St1.cellsL l).flatten=stC l:=by rw [St1.cellsL_eq];rfl
   have g2:∀ x ∈ St1.cellsL l,x.length=11:=fun x hx=>by rw [St1.cellsL_eq] at hx;obtain ⟨e,_,rfl⟩:=List.mem_map.1 hx;exact St1.cells_len e
   have g3:∀ x ∈ St1.cellsL l,∀ c ∈ x,kf c=true:=fun x hx=>by rw [St1.cellsL_eq] at hx;obtain ⟨e,_,rfl⟩:=List.mem_map.1 hx;exact st_kf e
   simp only [enumL,hOf,DM,DMs,CM,CMs,HpOK,LowOK,upd,rdr,St1.cellsL_length,g1]
   first | (simp;exact ⟨g2,g3⟩) | (simp [g2];exact g3) | exact ⟨g2,g3⟩
 ·simp only [go_sem,TmOK,DM,DMs,CM,CMs,forall_eq,exists_eq_left,Mq,HpOK,LowOK,rdr]
  simp [stC,CMs]
def KS : Nat → Nat
 | 0=>1200
 | d+1=>1200+8 * KS d
theorem KS_ge : ∀ d, 1200 ≤ KS d
 | 0=>Nat.le_refl _
 | d+1=>by simp only [KS];omega
theorem KS_le : ∀ d, d ≤ 3 → KS d ≤ 1000000
 | 0,_=>by decide
 | 1,_=>by decide
 | 2,_=>by decide
 | 3,_=>by decide
def Ex0:Ex := .mk 0 0 []
theorem SmE0:SmE Ex0 := .mk 0 0 [] (by simp) (fun x h=>by simp at h)
theorem SmS.leaf {d:Nat} {k t c:Int} {ix v:Ex} (h1:SmE ix) (h2:SmE v):SmS d (.mk k t ix v c [] []):=by
 cases d<;>simp [SmS,h1,h2]
def stR (bs:List Int) (n d:Nat) (r:D) (h:List (Option (List C))):Prop:=∃ s:St1,r = .agg s.cells∧SmS d s∧rdL bs n (KS d) h
theorem l2DrawStmtOf (bs : List Int) (p : Pg) (hb : Fits .u8 bs) (hl : bs.length ≤ 2000) (hp : p.vars.length ≤ mx) (hp2 : p.arrays.length ≤ mx) (d : Nat) (hd : d ≤ 3)
 (ih : ∀ d', d = d' + 1 → ∀ (n nn : Nat), nn ≤ 4 → n + 4 * KS d' ≤ 549755813888 → DC Try.prog 188 [.c (.ptr 0 0), .agg p.cells, DI .i64 (d' + 1 : Nat), DI .i64 nn] [some (rdr bs n)]
  (fun r h=>∃ l:List St1,r = .c (.isl 11 (St1.cellsL l))∧l.length≤4∧(∀ s ∈ l,SmS d' s)∧rdL bs n (4 * KS d') h))
 (n:Nat) (hn:n+KS d≤549755813888):DC Try.prog 215 [.c (.ptr 0 0),.agg p.cells,DI .i64 (d+1:Nat)] [some (rdr bs n)] (stR bs n d):=by
 have hmx:=mx_eq
 have hat:=fun n h=>l2DrawAtom bs n p hb hl h hp
 have hsm:=fun n h=>l2Small bs n p hb hl hp hp2 h
 have hKS:=KS_ge d
 have hKS2:=KS_le d hd
 generalize hR:stR bs n d=R
 obtain ⟨vs,ar,bd⟩:=p
 have hp:vs.length≤mx:=hp
 have hp2:ar.length≤mx:=hp2
 refine dcZ Try.func215 ?_
 simp only [go_sem,rdr]
 (with_reducible and_intros)<;>try exact sd
 refine XK.callG [0,193] (numO bs n [1,1,2,3,4,1,3,5] hb hl (by omega) (by decide) (by decide)) ok159 (hhp2 rfl rfl) (hbT ()) (fun d h' ⟨_,_,_,e⟩=>by subst e;simp) ?_
 rintro _ _ ⟨kv,rfl,hkv,rfl⟩ _
 simp only [List.mem_cons,List.not_mem_nil,or_false] at hkv
 have hk:kv=2∧0<ar.length∨kv=3∧0<d∨kv=4∧0<d∨(kv=1∨kv=5∨kv=2∧ar.length=0∨kv=3∧d=0∨kv=4∧d=0):=by omega
 clear hkv
 rcases hk with ⟨rfl,hal⟩ | ⟨rfl,hdl⟩ | ⟨rfl,hdl⟩ | hk
 ·have e1:((0:Int)<(ar.length:Int))=True:=eq_true (by omega)
  iterate 5 (try (refine drvZ Try.func215 ?_;simp only [go_sem,rdr,e1]))
  refine XK.callG [0] (pick bs (n+1) ar.length hb hl (by omega) (by simp only [InK];omega)) ok158 (hhp_one rfl) (hbT ()) (fun d h' ⟨v,_,_,e⟩=>by subst e;simp) ?_
  rintro _ _ ⟨v1,rfl,hv1,rfl⟩ _
  iterate 2 (try (refine drvZ Try.func215 ?_;simp only [go_sem,rdr]))
  refine XK.callG [0] (hat (n+2) (by omega)) ok228 (hhp_one rfl) (hbT ()) (fun d h' ⟨_,_,_,_,_,_,e⟩=>by subst e;simp) ?_
  rintro _ _ ⟨⟨k1,w1,ks1⟩,rfl,he1,n1,hn1,hm1,rfl⟩ _
  iterate 2 (try (refine drvZ Try.func215 ?_;simp only [go_sem,rdr]))
  refine XK.callG [0] (hsm n1 (by omega)) ok229 (hhp_one rfl) (hbT ()) (fun d h' ⟨_,_,_,_,_,_,e⟩=>by subst e;simp) ?_
  rintro _ _ ⟨⟨k2,w2,ks2⟩,rfl,he2,n2,hn2,hm2,rfl⟩ _
  iterate 2 (try (refine drvZ Try.func215 ?_;simp only [go_sem,rdr]))
  refine RetOb.ofQ (fun j=>if j=0 then some 0 else none) [] (.agg (St1.cells (.mk 2 v1 (.mk k1 w1 ks1) (.mk k2 w2 ks2) 0 [] []))) [some (rdr bs n2)] ?_ ?_ (by simp)
  ·simp [enumL,hOf,DM,DMs,CM,CMs,HpOK,LowOK,upd,Ex.cells,Ex.cellsL,St1.cells,St1.cellsL,rdr,kf]
  ·rw [← hR];exact ⟨.mk 2 v1 (.mk k1 w1 ks1) (.mk k2 w2 ks2) 0 [] [],rfl,SmS.leaf (SmE.atom he1) he2,n2,by omega,by omega,rfl⟩
 ·obtain ⟨d',rfl⟩:∃ d',d=d' + 1:=⟨d - 1,by omega⟩
  have hKK:KS (d' + 1)=1200+8 * KS d':=rfl
  have e1:((1:Int)<((d':Int)+1+1))=True:=eq_true (by omega)
  iterate 5 (try (refine drvZ Try.func215 ?_;simp only [go_sem,rdr,e1]))
  refine XK.callG [0] (hsm (n+1) (by omega)) ok229 (hhp_one rfl) (hbT ()) (fun d h' ⟨_,_,_,_,_,_,e⟩=>by subst e;simp) ?_
  rintro _ _ ⟨⟨k2,w2,ks2⟩,rfl,he2,n2,hn2,hm2,rfl⟩ _
  iterate 2 (try (refine drvZ Try.func215 ?_;simp only [go_sem,rdr]))
  (with_reducible and_intros)<;>try exact sd
  refine XK.callG [0,2305] (numO bs n2 [1,2,1,0] hb hl (by omega) (by decide) (by decide)) ok159 (hhp2 rfl rfl) (hbT ()) (fun d h' ⟨_,_,_,e⟩=>by subst e;simp) ?_ (fun _=>⟨by kernel_rfl,_,_,⟨1,rfl,by simp,rfl⟩,by simp⟩)
  rintro _ _ ⟨nv,rfl,hnv,rfl⟩ _
  iterate 2 (try (refine drvZ Try.func215 ?_;simp only [go_sem,rdr]))
  (with_reducible and_intros)<;>try exact sd
  obtain ⟨nn1,rfl,hnn1⟩:∃ a:Nat,nv=(a:Int)∧a≤4:=⟨nv.toNat,by simp at hnv;omega,by simp at hnv;omega⟩
  refine XK.callG [0] (ih d' rfl (n2+1) nn1 hnn1 (by omega)) ok188 (hhp_one rfl) (hbT ()) (fun d h' ⟨_,_,_,_,_,_,_,e⟩=>by subst e;simp) ?_ (fun _=>⟨by kernel_rfl,_,_,⟨[],rfl,by simp,by simp,(n2+1),by omega,by omega,rfl⟩,by simp⟩)
  rintro _ _ ⟨l1,rfl,hl1,hs1,m1,hp1,hq1,rfl⟩ _
  iterate 3 (try (refine drvZ Try.func215 ?_;simp only [go_sem,rdr]))
  (with_reducible and_intros)<;>try exact sd
  refine XK.callG [0,2945] (numO bs m1 [0,1,0,2] hb hl (by omega) (by decide) (by decide)) ok159 (hhp2 rfl rfl) (hbT ()) (fun d h' ⟨_,_,_,e⟩=>by subst e;simp) ?_ (fun _=>⟨by kernel_rfl,_,_,⟨1,rfl,by simp,rfl⟩,by simp⟩)
  rintro _ _ ⟨nv,rfl,hnv,rfl⟩ _
  iterate 2 (try (refine drvZ Try.func215 ?_;simp only [go_sem,rdr]))
  (with_reducible and_intros)<;>try exact sd
  obtain ⟨nn3,rfl,hnn3⟩:∃ a:Nat,nv=(a:Int)∧a≤4:=⟨nv.toNat,by simp at hnv;omega,by simp at hnv;omega⟩
  refine XK.callG [0] (ih d' rfl (m1+1) nn3 hnn3 (by omega)) ok188 (hhp_one rfl) (hbT ()) (fun d h' ⟨_,_,_,_,_,_,_,e⟩=>by subst e;simp) ?_ (fun _=>⟨by kernel_rfl,_,_,⟨[],rfl,by simp,by simp,(m1+1),by omega,by omega,rfl⟩,by simp⟩)
  rintro _ _ ⟨l3,rfl,hl3,hs3,m3,hp3,hq3,rfl⟩ _
  iterate 3 (try (refine drvZ Try.func215 ?_;simp only [go_sem,rdr]))
  (with_reducible and_intros)<;>try exact sd
  refine RetOb.ofQ (fun j=>if j=0 then some 0 else none) [] (.agg (St1.cells (.mk 3 0 Ex0 (.mk k2 w2 ks2) 0 l1 l3))) [some (rdr bs m3)] ?_ ?_ (by simp)
  ·simp [enumL,hOf,DM,DMs,CM,CMs,HpOK,LowOK,upd,Ex.cells,Ex.cellsL,St1.cells,St1.cellsL,Ex0,rdr,kf]
  ·rw [← hR];exact ⟨.mk 3 0 Ex0 (.mk k2 w2 ks2) 0 l1 l3,rfl,⟨SmE0,he2,hl1,hl3,hs1,hs3⟩,m3,by omega,by omega,rfl⟩
 ·obtain ⟨d',rfl⟩:∃ d',d=d' + 1:=⟨d - 1,by omega⟩
  have hKK:KS (d' + 1)=1200+8 * KS d':=rfl
  have e1:((1:Int)<((d':Int)+1+1))=True:=eq_true (by omega)
  iterate 9 (try (refine drvZ Try.func215 ?_;simp only [go_sem,rdr,e1]))
  (with_reducible and_intros)<;>try exact sd
  refine XK.callG [0,2177] (numO bs (n+1) [2,1,3] hb hl (by omega) (by decide) (by decide)) ok159 (hhp2 rfl rfl) (hbT ()) (fun d h' ⟨_,_,_,e⟩=>by subst e;simp) ?_ (fun _=>⟨by kernel_rfl,_,_,⟨1,rfl,by simp,rfl⟩,by simp⟩)
  rintro _ _ ⟨cv,rfl,hcv,rfl⟩ _
  iterate 3 (try (refine drvZ Try.func215 ?_;simp only [go_sem,rdr]))
  (with_reducible and_intros)<;>try exact sd
  refine XK.callG [0,2753] (numO bs (n+2) [1,2,1] hb hl (by omega) (by decide) (by decide)) ok159 (hhp2 rfl rfl) (hbT ()) (fun d h' ⟨_,_,_,e⟩=>by subst e;simp) ?_ (fun _=>⟨by kernel_rfl,_,_,⟨1,rfl,by simp,rfl⟩,by simp⟩)
  rintro _ _ ⟨nv,rfl,hnv,rfl⟩ _
  iterate 2 (try (refine drvZ Try.func215 ?_;simp only [go_sem,rdr]))
  (with_reducible and_intros)<;>try exact sd
  obtain ⟨nn1,rfl,hnn1⟩:∃ a:Nat,nv=(a:Int)∧a≤4:=⟨nv.toNat,by simp at hnv;omega,by simp at hnv;omega⟩
  refine XK.callG [0] (ih d' rfl (n+3) nn1 hnn1 (by omega)) ok188 (hhp_one rfl) (hbT ()) (fun d h' ⟨_,_,_,_,_,_,_,e⟩=>by subst e;simp) ?_ (fun _=>⟨by kernel_rfl,_,_,⟨[],rfl,by simp,by simp,(n+3),by omega,by omega,rfl⟩,by simp⟩)
  rintro _ _ ⟨l1,rfl,hl1,hs1,m1,hp1,hq1,rfl⟩ _
  iterate 3 (try (refine drvZ Try.func215 ?_;simp only [go_sem,rdr]))
  (with_reducible and_intros)<;>try exact sd
  refine RetOb.ofQ (fun j=>if j=0 then some 0 else none) [] (.agg (St1.cells (.mk 4 0 Ex0 Ex0 cv l1 []))) [some (rdr bs m1)] ?_ ?_ (by simp)
  ·simp [enumL,hOf,DM,DMs,CM,CMs,HpOK,LowOK,upd,Ex.cells,Ex.cellsL,St1.cells,St1.cellsL,Ex0,rdr,kf]
  ·rw [← hR];exact ⟨.mk 4 0 Ex0 Ex0 cv l1 [],rfl,⟨SmE0,SmE0,hl1,by simp,hs1,by simp⟩,m1,by omega,by omega,rfl⟩
 ·rcases hk with rfl | rfl | ⟨rfl,ha0⟩ | ⟨rfl,rfl⟩ | ⟨rfl,rfl⟩
  ·skip
   iterate 10 (try (refine drvZ Try.func215 ?_;simp only [go_sem,rdr]))
   refine XK.callG [0] (pick bs (n+1) vs.length hb hl (by omega) (by simp only [InK];omega)) ok158 (hhp_one rfl) (hbT ()) (fun d h' ⟨v,_,_,e⟩=>by subst e;simp) ?_
   rintro _ _ ⟨v1,rfl,hv1,rfl⟩ _
   iterate 2 (try (refine drvZ Try.func215 ?_;simp only [go_sem,rdr]))
   refine XK.callG [0] (hsm (n+2) (by omega)) ok229 (hhp_one rfl) (hbT ()) (fun d h' ⟨_,_,_,_,_,_,e⟩=>by subst e;simp) ?_
   rintro _ _ ⟨⟨k2,w2,ks2⟩,rfl,he2,n2,hn2,hm2,rfl⟩ _
   iterate 2 (try (refine drvZ Try.func215 ?_;simp only [go_sem,rdr]))
   refine RetOb.ofQ (fun j=>if j=0 then some 0 else none) [] (.agg (St1.cells (.mk 1 v1 Ex0 (.mk k2 w2 ks2) 0 [] []))) [some (rdr bs n2)] ?_ ?_ (by simp)
   ·simp [enumL,hOf,DM,DMs,CM,CMs,HpOK,LowOK,upd,Ex.cells,Ex.cellsL,St1.cells,St1.cellsL,Ex0,rdr,kf]
   ·rw [← hR];exact ⟨.mk 1 v1 Ex0 (.mk k2 w2 ks2) 0 [] [],rfl,SmS.leaf SmE0 he2,n2,by omega,by omega,rfl⟩
  ·skip
   iterate 10 (try (refine drvZ Try.func215 ?_;simp only [go_sem,rdr]))
   refine XK.callG [0] (pick bs (n+1) vs.length hb hl (by omega) (by simp only [InK];omega)) ok158 (hhp_one rfl) (hbT ()) (fun d h' ⟨v,_,_,e⟩=>by subst e;simp) ?_
   rintro _ _ ⟨v1,rfl,hv1,rfl⟩ _
   iterate 2 (try (refine drvZ Try.func215 ?_;simp only [go_sem,rdr]))
   refine XK.callG [0] (hsm (n+2) (by omega)) ok229 (hhp_one rfl) (hbT ()) (fun d h' ⟨_,_,_,_,_,_,e⟩=>by subst e;simp) ?_
   rintro _ _ ⟨⟨k2,w2,ks2⟩,rfl,he2,n2,hn2,hm2,rfl⟩ _
   iterate 2 (try (refine drvZ Try.func215 ?_;simp only [go_sem,rdr]))
   refine RetOb.ofQ (fun j=>if j=0 then some 0 else none) [] (.agg (St1.cells (.mk 5 v1 Ex0 (.mk k2 w2 ks2) 0 [] []))) [some (rdr bs n2)] ?_ ?_ (by simp)
   ·simp [enumL,hOf,DM,DMs,CM,CMs,HpOK,LowOK,upd,Ex.cells,Ex.cellsL,St1.cells,St1.cellsL,Ex0,rdr,kf]
   ·rw [← hR];exact ⟨.mk 5 v1 Ex0 (.mk k2 w2 ks2) 0 [] [],rfl,SmS.leaf SmE0 he2,n2,by omega,by omega,rfl⟩
  ·skip
   have e1:((0:Int)<(ar.length:Int))=False:=eq_false (by omega)
   iterate 10 (try (refine drvZ Try.func215 ?_;simp only [go_sem,rdr,e1]))
   refine XK.callG [0] (pick bs (n+1) vs.length hb hl (by omega) (by simp only [InK];omega)) ok158 (hhp_one rfl) (hbT ()) (fun d h' ⟨v,_,_,e⟩=>by subst e;simp) ?_
   rintro _ _ ⟨v1,rfl,hv1,rfl⟩ _
   iterate 2 (try (refine drvZ Try.func215 ?_;simp only [go_sem,rdr]))
   refine XK.callG [0] (hsm (n+2) (by omega)) ok229 (hhp_one rfl) (hbT ()) (fun d h' ⟨_,_,_,_,_,_,e⟩=>by subst e;simp) ?_
   rintro _ _ ⟨⟨k2,w2,ks2⟩,rfl,he2,n2,hn2,hm2,rfl⟩ _
   iterate 2 (try (refine drvZ Try.func215 ?_;simp only [go_sem,rdr]))
   refine RetOb.ofQ (fun j=>if j=0 then some 0 else none) [] (.agg (St1.cells (.mk 1 v1 Ex0 (.mk k2 w2 ks2) 0 [] []))) [some (rdr bs n2)] ?_ ?_ (by simp)
   ·simp [enumL,hOf,DM,DMs,CM,CMs,HpOK,LowOK,upd,Ex.cells,Ex.cellsL,St1.cells,St1.cellsL,Ex0,rdr,kf]
   ·rw [← hR];exact ⟨.mk 1 v1 Ex0 (.mk k2 w2 ks2) 0 [] [],rfl,SmS.leaf SmE0 he2,n2,by omega,by omega,rfl⟩
  ·simp only [Int.natCast_zero]
   have e1:((1:Int)<((0:Int)+1))=False:=eq_false (by omega)
   iterate 10 (try (refine drvZ Try.func215 ?_;simp only [go_sem,rdr,e1]))
   refine XK.callG [0] (pick bs (n+1) vs.length hb hl (by omega) (by simp only [InK];omega)) ok158 (hhp_one rfl) (hbT ()) (fun d h' ⟨v,_,_,e⟩=>by subst e;simp) ?_
   rintro _ _ ⟨v1,rfl,hv1,rfl⟩ _
   iterate 2 (try (refine drvZ Try.func215 ?_;simp only [go_sem,rdr]))
   refine XK.callG [0] (hsm (n+2) (by omega)) ok229 (hhp_one rfl) (hbT ()) (fun d h' ⟨_,_,_,_,_,_,e⟩=>by subst e;simp) ?_
   rintro _ _ ⟨⟨k2,w2,ks2⟩,rfl,he2,n2,hn2,hm2,rfl⟩ _
   iterate 2 (try (refine drvZ Try.func215 ?_;simp only [go_sem,rdr]))
   refine RetOb.ofQ (fun j=>if j=0 then some 0 else none) [] (.agg (St1.cells (.mk 1 v1 Ex0 (.mk k2 w2 ks2) 0 [] []))) [some (rdr bs n2)] ?_ ?_ (by simp)
   ·simp [enumL,hOf,DM,DMs,CM,CMs,HpOK,LowOK,upd,Ex.cells,Ex.cellsL,St1.cells,St1.cellsL,Ex0,rdr,kf]
   ·rw [← hR];exact ⟨.mk 1 v1 Ex0 (.mk k2 w2 ks2) 0 [] [],rfl,SmS.leaf SmE0 he2,n2,by omega,by omega,rfl⟩
  ·simp only [Int.natCast_zero]
   have e1:((1:Int)<((0:Int)+1))=False:=eq_false (by omega)
   iterate 10 (try (refine drvZ Try.func215 ?_;simp only [go_sem,rdr,e1]))
   refine XK.callG [0] (pick bs (n+1) vs.length hb hl (by omega) (by simp only [InK];omega)) ok158 (hhp_one rfl) (hbT ()) (fun d h' ⟨v,_,_,e⟩=>by subst e;simp) ?_
   rintro _ _ ⟨v1,rfl,hv1,rfl⟩ _
   iterate 2 (try (refine drvZ Try.func215 ?_;simp only [go_sem,rdr]))
   refine XK.callG [0] (hsm (n+2) (by omega)) ok229 (hhp_one rfl) (hbT ()) (fun d h' ⟨_,_,_,_,_,_,e⟩=>by subst e;simp) ?_
   rintro _ _ ⟨⟨k2,w2,ks2⟩,rfl,he2,n2,hn2,hm2,rfl⟩ _
   iterate 2 (try (refine drvZ Try.func215 ?_;simp only [go_sem,rdr]))
   refine RetOb.ofQ (fun j=>if j=0 then some 0 else none) [] (.agg (St1.cells (.mk 1 v1 Ex0 (.mk k2 w2 ks2) 0 [] []))) [some (rdr bs n2)] ?_ ?_ (by simp)
   ·simp [enumL,hOf,DM,DMs,CM,CMs,HpOK,LowOK,upd,Ex.cells,Ex.cellsL,St1.cells,St1.cellsL,Ex0,rdr,kf]
   ·rw [← hR];exact ⟨.mk 1 v1 Ex0 (.mk k2 w2 ks2) 0 [] [],rfl,SmS.leaf SmE0 he2,n2,by omega,by omega,rfl⟩
theorem draws (bs:List Int) (p:Pg) (hb:Fits .u8 bs) (hl:bs.length≤2000) (hp:p.vars.length≤mx) (hp2:p.arrays.length≤mx):∀ (d:Nat),d≤3 →
 (∀ n:Nat,n+KS d≤549755813888→DC Try.prog 215 [.c (.ptr 0 0),.agg p.cells,DI .i64 (d+1:Nat)] [some (rdr bs n)] (stR bs n d)) ∧
 (∀ (n nn : Nat), nn ≤ 4 → n + 4 * KS d ≤ 549755813888 → DC Try.prog 188 [.c (.ptr 0 0), .agg p.cells, DI .i64 (d + 1 : Nat), DI .i64 nn] [some (rdr bs n)]
  (fun r h=>∃ l:List St1,r = .c (.isl 11 (St1.cellsL l))∧l.length≤4∧(∀ s ∈ l,SmS d s)∧rdL bs n (4 * KS d) h)):=by
 intro d
 induction d with
 | zero =>
  intro hd
  have hs:=fun n h=>l2DrawStmtOf bs p hb hl hp hp2 0 hd (fun d' e=>by omega) n h
  exact ⟨hs,fun n nn h1 h2=>l2DrawBlockOf bs p ((0+1:Nat):Int) (SmS 0) (KS 0) (by decide) hs n nn h1 h2⟩
 | succ d ih =>
  intro hd
  have hs:=fun n h=>l2DrawStmtOf bs p hb hl hp hp2 (d+1) hd (fun d' e=>by
   obtain rfl:d=d':=by omega
   exact (ih (by omega)).2) n h
  exact ⟨hs,fun n nn h1 h2=>l2DrawBlockOf bs p ((d+1+1:Nat):Int) (SmS (d+1)) (KS (d+1)) (Nat.le_trans (KS_le _ hd) (by decide)) hs n nn h1 h2⟩
theorem tsize_sm : ∀ (d k : Nat) (s : St1), SmS d s → tsize k s ≤ 9 ^ d
 | d,0,.mk _ _ _ _ _ b e,_=>Nat.zero_le _
 | 0,k+1,.mk _ _ ix v _ b e,h=>by
  simp only [SmS] at h
  obtain ⟨_,_,rfl,rfl⟩:=h
  simp [tsize]
 | d+1,k+1,.mk kk tt ix v cc b e,h=>by
  simp only [SmS] at h
  obtain ⟨_,_,h1,h2,h3,h4⟩:=h
  have hsum:∀ l:List St1,(∀ x ∈ l,SmS d x)→(l.map (tsize k)).sum≤l.length * 9 ^ d:=fun l hl=>by
   induction l with
   | nil=>simp
   | cons a r ih =>
    have:=tsize_sm d k a (hl a (by simp))
    have:=ih fun x hx=>hl x (by simp [hx])
    simp only [List.map_cons,List.sum_cons,List.length_cons,Nat.add_mul]
    omega
  have g1:=hsum b h3
  have g2:=hsum e h4
  have g3:b.length * 9 ^ d≤4 * 9 ^ d:=Nat.mul_le_mul_right _ h1
  have g4:e.length * 9 ^ d≤4 * 9 ^ d:=Nat.mul_le_mul_right _ h2
  have g5:0<9 ^ d:=Nat.pow_pos (by decide)
  have e1:tsize (k+1) (.mk kk tt ix v cc b e)=1+(b.map (tsize k)).sum+(e.map (tsize k)).sum:=rfl
  rw [e1,Nat.pow_succ]
  omega
theorem lsize_sm (d k:Nat) (l:List St1) (h:∀ s ∈ l,SmS d s):lsize k l≤l.length * 9 ^ d:=by
 unfold lsize
 induction l with
 | nil=>simp
 | cons a r ih =>
  have:=tsize_sm d k a (h a (by simp))
  have:=ih fun x hx=>h x (by simp [hx])
  simp only [List.map_cons,List.sum_cons,List.length_cons,Nat.add_mul]
  omega
end Go.Proofs.Ytddanjifhdaebaa.CtD
