/- Contracts of functions of the program, one behind the other, as plain data: what each call returns and which blocks it leaves. -/
import Derived.Test.YtoakidkcppinpaaGreatDFacts
import Derived.Test.YtoakidkcppinpaaGreatDAl
import Derived.Test.YtoakidkcppinpaaGreatDAn
import Derived.Test.YtoakidkcppinpaaGreatDAi
import Derived.Test.YtoakidkcppinpaaGreatDAm
set_option linter.unusedVariables false
set_option linter.unusedSimpArgs false
set_option linter.unusedSectionVars false
set_option maxHeartbeats 16000000
set_option maxRecDepth 100000
namespace Go.Proofs.YtoakidkcppinpaaGreat.CtR
open Go Go.CT CtF
variable [Yn]
theorem Ev.eq_iff (a b:Ev):a=b ↔ a.kind=b.kind∧a.value=b.value:=by cases a;cases b;simp
def trSame (xs ys:List Ev):Bool:=xs.length == ys.length && (xs.zip ys).all fun q=>q.1.kind == q.2.kind && q.1.value == q.2.value
theorem trSame_iff : ∀ xs ys : List Ev, trSame xs ys = true ↔ xs = ys
 | [],[]=>by simp [trSame]
 | [],b :: r=>by simp [trSame]
 | a :: r,[]=>by simp [trSame]
 | a :: r,b :: r'=>by
  have ih:=trSame_iff r r'
  simp only [trSame,List.length_cons,List.zip_cons_cons,List.all_cons,Bool.and_eq_true,beq_iff_eq] at ih ⊢
  rw [List.cons.injEq,Ev.eq_iff,← ih]
  constructor
  ·rintro ⟨h1,⟨h2,h3⟩,h4⟩;exact ⟨⟨h2,h3⟩,by omega,h4⟩
  ·rintro ⟨⟨h2,h3⟩,h1,h4⟩;exact ⟨by omega,⟨h2,h3⟩,h4⟩
theorem equalEv (xs ys:List Ev) (hl:xs.length≤mx):DC Tryz.prog 37 [.c (trD xs),.c (trD ys)] [] (fun r h=>r=DB (trSame xs ys)∧h=[]):=by
 have hmx:=mx_eq
 have ret:∀ (b:Bool) (hp:Hp),b=trSame xs ys→RetOb 0 (fun r h=>r=DB (trSame xs ys)∧h=[]) (DB b) hp:=fun b hp h=>RetOb.plain (d:=DB _) ⟨by rw [h],rfl⟩ rfl
 by_cases hlen:xs.length=ys.length
 ·have hb:((xs.length:Int) != ys.length)=false:=by simp [hlen]
  have he:((xs.length:Int)=ys.length)=True:=eq_true (by omega)
  refine dc_of_go Tryz.func37 rfl (by simp) ?_
  refine drv_sound (n:=100) (rs:=_) Tryz.func37 mo rfl none _ _ ?_
  simp only [go_sem,trD,hb,he]
  refine Go.loopL (fun i:Nat=>[(0,.c (trD xs)),(1,.c (trD ys)),(12,DI .i64 xs.length),(13,DI .i64 i)]) (fun _=>[]) 1024 (fun i=>i≤xs.length∧trSame xs ys=trSame (xs.drop i) (ys.drop i)) (fun i=>xs.length - i) ?_ 0 some [] _ ⟨Nat.zero_le _,rfl⟩ ?_
  ·intro i hi again
   refine drv_sound (n:=100) (rs:=_) Tryz.func37 mo rfl none _ _ ?_
   rcases Nat.lt_or_ge i xs.length with hlt | hge
   ·obtain ⟨⟨k1,v1⟩,hx⟩:∃ x,xs[i]? = some x:=⟨xs[i],by simp [hlt]⟩
    obtain ⟨⟨k2,v2⟩,hy⟩:∃ y,ys[i]? = some y:=⟨ys[i]'(by omega),by simp⟩
    have hI:=hi.2
    obtain ⟨_,ex⟩:=List.getElem?_eq_some_iff.1 hx
    obtain ⟨hyl,ey⟩:=List.getElem?_eq_some_iff.1 hy
    rw [List.drop_eq_getElem_cons hlt,List.drop_eq_getElem_cons hyl,ex,ey] at hI
    have hd:(xs.drop (i+1)).length=(ys.drop (i+1)).length:=by simp;omega
    have hI2:trSame xs ys=((decide (k1=k2) && decide (v1=v2)) && trSame (xs.drop (i+1)) (ys.drop (i+1))):=by
     rw [hI]
     simp only [trSame,List.length_cons,hd,List.zip_cons_cons,List.all_cons,beq_self_eq_true,Bool.true_and]
     rfl
    simp only [go_sem,trD,hx,hy,hlt,Ev.cells,I64]
    (with_reducible and_intros)<;>try exact sd
    ·intro h;exact ret _ _ (by rw [hI2];by_cases h1:k1=k2<;>simp_all)
    ·intro h;exact ⟨by simp only [InK];omega,again (i+1) some [] _ ⟨by omega,by rw [hI2];simp [h.1,h.2]⟩ (by omega) (Mt.slots (by
      simp only [go_sem,TmOK,DM,DMs,CM,CMs,forall_eq,exists_eq_left,trD]))⟩
   ·have hn:¬ i<xs.length:=by omega
    simp only [go_sem,trD,hn]
    refine ret _ _ ?_
    rw [hi.2,List.drop_of_length_le hge,List.drop_of_length_le (by omega)];rfl
  ·refine Mt.slots ?_
   simp only [go_sem,TmOK,DM,DMs,CM,CMs,forall_eq,exists_eq_left,trD]
 ·have hb:((xs.length:Int) != ys.length)=true:=by simp;omega
  have he:((xs.length:Int)=ys.length)=False:=eq_false (by omega)
  refine dc_of_go Tryz.func37 rfl (by simp) ?_
  refine drv_sound (n:=100) (rs:=_) Tryz.func37 mo rfl none _ _ ?_
  simp only [go_sem,trD,hb,he]
  refine ret _ _ ?_
  simp [trSame,hlen]
theorem traceSame (xs ys:List Ev) (hl:xs.length≤mx):DC Tryz.prog 11 [.c (trD xs),.c (trD ys)] [] (fun r h=>r=DB (trSame xs ys)∧h=[]):=by
 refine dc_of_go Tryz.func11 rfl (by simp) ?_
 refine drv_sound (n:=100) (rs:=_) Tryz.func11 mo rfl none _ _ ?_
 simp only [go_sem,trD]
 refine XK.plain (equalEv xs ys hl) ok37 ?_
 refine drv_sound (n:=100) (rs:=_) Tryz.func11 mo rfl (some _) _ _ ?_
 simp only [go_sem,trD]
 exact RetOb.plain (d:=DB _) ⟨rfl,rfl⟩ rfl
theorem equalFunc (xs ys:List (List Int)) (hl:xs.length≤mx) (hx4:∀ a ∈ xs,a.length≤mx):DC Tryz.prog 36 [.c (.isl 1 (xs.map fun a=>[isI a])),.c (.isl 1 (ys.map fun a=>[isI a])),.c (.clo 35 [])] [] (fun r h=>r=DB (decide (xs=ys))∧h=[]):=by
 have hmx:=mx_eq
 have ret:∀ (b:Bool) (hp:Hp),b=decide (xs=ys)→RetOb 0 (fun r h=>r=DB (decide (xs=ys))∧h=[]) (DB b) hp:=fun b hp h=>RetOb.plain (d:=DB _) ⟨by rw [h],rfl⟩ rfl
 by_cases hlen:xs.length=ys.length
 ·have hb:((xs.length:Int) != ys.length)=false:=by simp [hlen]
  have he:((xs.length:Int)=ys.length)=True:=eq_true (by omega)
  refine dc_of_go Tryz.func36 rfl (by simp) ?_
  refine drv_sound (n:=100) (rs:=_) Tryz.func36 mo rfl none _ _ ?_
  simp only [go_sem,isI,I64,hb,he]
  refine Go.loopL (fun i:Nat=>[(1,.c (.isl 1 (ys.map fun a=>[isI a]))),(2,.c (.clo 35 [])),(15,.c (.isl 1 (xs.map fun a=>[isI a]))),(16,DI .i64 xs.length),(17,DI .i64 i)]) (fun _=>[]) 1024 (fun i=>i≤xs.length∧decide (xs=ys)=decide (xs.drop i=ys.drop i)) (fun i=>xs.length - i) ?_ 0 some [] _ ⟨Nat.zero_le _,rfl⟩ ?_
  ·intro i hi again
   refine drv_sound (n:=100) (rs:=_) Tryz.func36 mo rfl none _ _ ?_
   rcases Nat.lt_or_ge i xs.length with hlt | hge
   ·obtain ⟨x,hx⟩:∃ x,xs[i]? = some x:=⟨xs[i],by simp [hlt]⟩
    obtain ⟨y,hy⟩:∃ y,ys[i]? = some y:=⟨ys[i]'(by omega),by simp⟩
    have hI:=hi.2
    obtain ⟨_,ex⟩:=List.getElem?_eq_some_iff.1 hx
    obtain ⟨hyl,ey⟩:=List.getElem?_eq_some_iff.1 hy
    rw [List.drop_eq_getElem_cons hlt,List.drop_eq_getElem_cons hyl,ex,ey] at hI
    simp only [go_sem,isI,I64,hx,hy,hlt]
    (with_reducible and_intros)<;>try exact sd
    refine XK.plain (equalI x y (hx4 x (List.mem_of_getElem? hx))) ok35 ?_
    refine drv_sound (n:=100) (rs:=_) Tryz.func36 mo rfl (some _) _ _ ?_
    simp only [go_sem,isI,I64]
    refine ⟨fun hne=>ret _ _ (by rw [hI];simp [hne]),fun heq=>⟨by simp only [InK];omega,again (i+1) some [] _ ⟨by omega,by rw [hI];simp [heq]⟩ (by omega) (Mt.slots (by
     simp only [go_sem,TmOK,DM,DMs,CM,CMs,forall_eq,exists_eq_left,isI,I64]))⟩⟩
   ·have hn:¬ i<xs.length:=by omega
    simp only [go_sem,isI,I64,hn]
    refine ret _ _ ?_
    rw [hi.2,List.drop_of_length_le hge,List.drop_of_length_le (by omega)];rfl
  ·refine Mt.slots ?_
   simp only [go_sem,TmOK,DM,DMs,CM,CMs,forall_eq,exists_eq_left,isI,I64]
 ·have hb:((xs.length:Int) != ys.length)=true:=by simp;omega
  have he:((xs.length:Int)=ys.length)=False:=eq_false (by omega)
  refine dc_of_go Tryz.func36 rfl (by simp) ?_
  refine drv_sound (n:=100) (rs:=_) Tryz.func36 mo rfl none _ _ ?_
  simp only [go_sem,isI,I64,hb,he]
  refine ret _ _ ?_
  symm;rw [decide_eq_false_iff_not];intro h;exact hlen (by rw [h])
def memSame (a b:Mm):Bool:=decide (a.vals=b.vals) && decide (a.arrays=b.arrays)
theorem memorySame (a b:Mm) (h1:a.vals.length≤mx) (h2:a.arrays.length≤mx) (h3:∀ x ∈ a.arrays,x.length≤mx):DC Tryz.prog 10 [.agg a.cells,.agg b.cells] [] (fun r h=>r=DB (memSame a b)∧h=[]):=by
 obtain ⟨va,arr⟩:=a
 obtain ⟨vb,brr⟩:=b
 refine dc_of_go Tryz.func10 rfl (by simp) ?_
 refine drv_sound (n:=100) (rs:=_) Tryz.func10 mo rfl none _ _ ?_
 simp only [go_sem,Mm.cells,isI,I64]
 refine XK.plain (equalI va vb h1) ok35 ?_ (hbT ())
 refine drv_sound (n:=100) (rs:=_) Tryz.func10 mo rfl (some _) _ _ ?_
 simp only [go_sem,Mm.cells,isI,I64]
 refine XK.gplain 5 true (decide (va=vb)) (fun _=>equalFunc arr brr h2 h3) ok36 ?_ (hbT ()) (hok:=by intro hx;simp [okP,getCall,Call.operands,evT,upd,peelB,DB,DI,cst,one] at hx ⊢;first | done | exact hx | (simp_all;done) | omega)
 refine drv_sound (n:=100) (rs:=_) Tryz.func10 mo rfl (some _) _ _ ?_
 simp only [go_sem,Mm.cells,isI,I64]
 exact RetOb.plain (d:=DB _) ⟨rfl,rfl⟩ rfl
end Go.Proofs.YtoakidkcppinpaaGreat.CtR
namespace Go.Proofs.YtoakidkcppinpaaGreat.CtD
open Go Go.CT CtF
variable [Yn]
def rdr (bs:List Int) (p:Int):List C:=[.isl 1 (bs.map fun n=>[.v (.int .u8 n)]),.v (.int .i64 p)]
theorem l17Open (bs:List Int) (hl:bs.length≤mx):DC Tryz.prog 13 [bytesD bs] [] (fun d h=>d = .c (.ptr 0 0)∧h=[some (rdr (bs.take 2000) 0)]):=by
 have hmx:=mx_eq
 refine dc_of_go Tryz.func13 rfl (by simp) ?_
 refine drv_sound (n:=100) (rs:=_) Tryz.func13 mo rfl none _ _ ?_
 simp (maxSteps:=10000000) (maxDischargeDepth:=300) only [go_sem,bytesD]
 refine ⟨fun h=>⟨by omega,?_⟩,fun h=>?_⟩
 ·refine RetOb.of (fun k=>if k=0 then some 576 else none) [] (.c (.ptr 0 0)) [some (rdr (bs.take 2000) 0)] ?_ ?_ ⟨rfl,rfl⟩ (by simp)
  ·exact subH_one rfl (by simp [rdr,upd_same]) (by simp [rdr,kf])
  ·simp [DM,CM,hpL]
 ·refine RetOb.of (fun k=>if k=0 then some 384 else none) [] (.c (.ptr 0 0)) [some (rdr (bs.take 2000) 0)] ?_ ?_ ⟨rfl,rfl⟩ (by simp)
  ·exact subH_one rfl (by simp [rdr,upd_same,List.take_of_length_le (show bs.length≤2000 by omega)]) (by simp [rdr,kf])
  ·simp [DM,CM,hpL]
theorem pick (bs : List Int) (p : Nat) (n : Int) (hb : Fits .u8 bs) (hl : bs.length ≤ 2000) (h1 : p ≤ 1099511627776) (hn : InK .i64 n) : DC Tryz.prog 16 [.c (.ptr 0 0), DI .i64 n] [some (rdr bs p)]
 (fun d h=>∃ v:Int,d=DI .i64 v∧((n<1∨bs=[])∧v=0∨0≤v∧v<n)∧h=[some (rdr bs ((p+1:Nat):Int))]):=by
 have hmx:=mx_eq
 refine dc_of_go Tryz.func16 rfl (by simp) ?_
 have ret:∀ (v:Int) (hp:Hp),((n<1∨bs=[])∧v=0∨0≤v∧v<n)→hp 0=some (some [.isl 1 (bs.map fun n=>[.v (.int .u8 n)]),.v (.int .i64 (p+1))]) →
  RetOb 1 (fun d h=>∃ v:Int,d = .c (.v (.int .i64 v))∧((n<1∨bs=[])∧v=0∨0≤v∧v<n)∧h=[some [.isl 1 (bs.map fun n=>[.v (.int .u8 n)]),.v (.int .i64 (p+1))]]) (.c (.v (.int .i64 v))) hp:=fun v hp hv hhp=>by
  refine RetOb.of (fun k=>if k=0 then some 0 else none) [] (DI .i64 v) [_] (subH_one' rfl hhp (by simp [kf]) (by simp)) (by simp [DM,CM,DI]) ⟨v,rfl,hv,rfl⟩ (by simp)
 refine drv_sound (n:=37) (rs:=_) Tryz.func16 mo rfl none _ _ ?_
 simp (maxSteps:=10000000) (maxDischargeDepth:=300) only [go_sem,rdr,List.length_eq_zero_iff,Int.natCast_eq_zero]
 refine ⟨by simp only [InK];omega,fun h=>ret _ _ (.inl ⟨h,rfl⟩) (upd_same _ _ _),fun h=>?_⟩
 have hbl:0<bs.length:=List.length_pos_iff.2 h.2
 have hby:∀ {j:Nat} {x:Int},bs[j]? = some x→0≤x∧x≤255:=fun {j x} hx=>by
  obtain ⟨hlt,e⟩:=List.getElem?_eq_some_iff.1 hx
  exact hb x (e ▸ List.getElem_mem hlt)
 have hrem:∀ a:Int,0≤a→0≤a % n∧a % n<n:=fun a _=>⟨Int.emod_nonneg _ (by omega),Int.emod_lt_of_pos _ (by omega)⟩
 refine drv_sound (n:=100) (rs:=_) Tryz.func16 mo rfl (some _) _ _ ?_
 rcases Nat.lt_or_ge p bs.length with hlt | hge
 ·obtain ⟨x,hx⟩:∃ x,bs[p]? = some x:=⟨bs[p],by simp⟩
  have hxb:=hby hx
  have hnlt:¬ bs.length≤p:=by omega
  simp (maxSteps:=10000000) (maxDischargeDepth:=300) only [go_sem,hx,hlt,hnlt]
  exact ⟨by simp only [InK];omega,by simp only [InK];omega,by omega,ret _ _ (.inr (hrem x hxb.1)) (upd_same _ _ _)⟩
 ·have hnlt:¬ p<bs.length:=by omega
  have hm1:((p:Int) % bs.length).toNat<bs.length:=by
   have:=Int.emod_lt_of_pos (p:Int) (b:=bs.length) (by omega)
   have:=Int.emod_nonneg (p:Int) (b:=bs.length) (by omega)
   omega
  have hm2:(((p:Int) * 7+3) % bs.length).toNat<bs.length:=by
   have:=Int.emod_lt_of_pos ((p:Int) * 7+3) (b:=bs.length) (by omega)
   have:=Int.emod_nonneg ((p:Int) * 7+3) (b:=bs.length) (by omega)
   omega
  obtain ⟨x,hx⟩:∃ x,bs[((p:Int) % bs.length).toNat]? = some x:=⟨_,List.getElem?_eq_getElem hm1⟩
  obtain ⟨y,hy⟩:∃ x,bs[(((p:Int) * 7+3) % bs.length).toNat]? = some x:=⟨_,List.getElem?_eq_getElem hm2⟩
  have hxb:=hby hx
  have hyb:=hby hy
  simp (maxSteps:=10000000) (maxDischargeDepth:=300) only [go_sem,hx,hy,hge,hnlt]
  have hq0:0≤(p:Int) / bs.length:=Int.ediv_nonneg (by omega) (by omega)
  have hq1:(p:Int) / bs.length≤p:=Int.ediv_le_self _ (by omega)
  generalize (p:Int) / bs.length=q at *
  repeat' with_reducible apply And.intro
  all_goals first | kernel_rfl | (simp only [InK];omega) | omega | exact Int.emod_nonneg _ (by omega) | exact ret _ _ (.inr (hrem _ (Int.natCast_nonneg _))) (upd_same _ _ _)
theorem num (bs : List Int) (p : Nat) (xs : List Int) (hb : Fits .u8 bs) (hl : bs.length ≤ 2000) (h1 : p ≤ 1099511627776) (hx0 : 0 < xs.length) (hx1 : xs.length ≤ mx) : DC Tryz.prog 20 [.c (.ptr 0 0), ints xs] [some (rdr bs p)]
 (fun d h=>∃ v:Int,d=DI .i64 v∧v ∈ xs∧h=[some (rdr bs ((p+1:Nat):Int))]):=by
 have hmx:=mx_eq
 refine dc_of_go Tryz.func20 rfl (by simp) ?_
 refine drv_sound (n:=100) (rs:=_) Tryz.func20 mo rfl none _ _ ?_
 simp (maxSteps:=10000000) (maxDischargeDepth:=300) only [go_sem,rdr,ints]
 refine XK.callG [0] (pick bs p xs.length hb hl h1 (by simp only [InK];omega)) ok16 (hhp_one rfl) (fun j hj=>by simp [hpL]) (fun d h' ⟨v,_,_,e⟩=>by subst e;simp) ?_
 rintro d h' ⟨v,rfl,hv,rfl⟩ _
 have hv2:0≤v∧v<xs.length:=by
  rcases hv with ⟨h | h,_⟩ | h
  ·omega
  ·omega
  ·exact h
 refine drv_sound (n:=100) (rs:=_) Tryz.func20 mo rfl (some _) _ _ ?_
 obtain ⟨y,hy⟩:∃ y,xs[v.toNat]? = some y:=⟨xs[v.toNat]'(by omega),List.getElem?_eq_getElem (by omega)⟩
 have hmem:y ∈ xs:=List.mem_of_getElem? hy
 simp (maxSteps:=10000000) (maxDischargeDepth:=300) only [go_sem,rdr,ints,hy]
 exact ⟨by omega,RetOb.keep1 (d:=DI .i64 y) (cs:=rdr bs ((p+1:Nat):Int)) ⟨y,rfl,hmem,rfl⟩ rfl (by simp [rdr,kf]) rfl⟩
end Go.Proofs.YtoakidkcppinpaaGreat.CtD
namespace Go.Proofs.YtoakidkcppinpaaGreat.CtR
end Go.Proofs.YtoakidkcppinpaaGreat.CtR
namespace Go.Proofs.YtoakidkcppinpaaGreat.CtD
open Go Go.CT CtF CtR
variable [Yn]
def rdL (bs:List Int) (n k:Nat) (h:List (Option (List C))):Prop:=∃ n':Nat,n≤n'∧n'≤n+k∧h=[some (rdr bs n')]
theorem rdr_kf (bs:List Int) (n:Int):∀ c ∈ rdr bs n,kf c=true:=by simp [rdr,kf]
theorem l3Value (bs : List Int) (n : Nat) (hb : Fits .u8 bs) (hl : bs.length ≤ 2000) (h1 : n + 4 ≤ 1099511627776) : DC Tryz.prog 45 [.c (.ptr 0 0)] [some (rdr bs n)]
 (fun d h=>∃ v:Int,d=DI .i64 v∧(0≤v∧v≤255)∧rdL bs n 1 h):=by
 have hmx:=mx_eq
 refine dc_of_go Tryz.func45 rfl (by simp) ?_
 refine drv_sound (n:=100) (rs:=_) Tryz.func45 mo rfl none _ _ ?_
 simp only [go_sem,rdr]
 refine ⟨by decide,?_⟩
 refine XK.freeze 4 129 1 9 [[.v (.int .i64 0)],[.v (.int .i64 1)],[.v (.int .i64 2)],[.v (.int .i64 3)],[.v (.int .i64 255)],[.v (.int .i64 128)],[.v (.int .i64 7)],[.v (.int .i64 4)],[.v (.int .i64 100)]] ?_ rfl
 refine XK.callG [0] (num bs n [0,1,2,3,255,128,7,4,100] hb hl (by omega) (by decide) (by decide)) ok20 (hhp_one rfl) (hbT ()) (fun d h' ⟨v,_,_,e⟩=>by subst e;simp) ?_
 rintro d h' ⟨v,rfl,hv,rfl⟩ _
 refine drv_sound (n:=100) (rs:=_) Tryz.func45 mo rfl (some _) _ _ ?_
 simp only [go_sem,rdr]
 refine RetOb.keep1 (d:=DI .i64 v) (cs:=rdr bs ((n+1:Nat):Int)) ⟨v,rfl,?_,n+1,by omega,by omega,rfl⟩ rfl (rdr_kf _ _) rfl
 simp at hv;omega
def AtomE (e:Ex):Prop:=∃ k v,e = .mk k v []∧InK .i64 v∧(k=1∨k=2)
theorem numO (bs : List Int) (p : Nat) (xs : List Int) (hb : Fits .u8 bs) (hl : bs.length ≤ 2000) (h1 : p ≤ 1099511627776) (hx0 : 0 < xs.length) (hx1 : xs.length ≤ mx) : DC Tryz.prog 20 [.c (.ptr 0 0), .c (.msl 1 1 0 xs.length)] [some (rdr bs p), some (xs.map I64)]
 (fun d h=>∃ v:Int,d=DI .i64 v∧v ∈ xs∧h=[some (rdr bs ((p+1:Nat):Int)),some (xs.map I64)]):=by
 have hmx:=mx_eq
 refine dc_of_go Tryz.func20 rfl (by simp) ?_
 refine drv_sound (n:=100) (rs:=_) Tryz.func20 mo rfl none _ _ ?_
 simp only [go_sem,rdr]
 refine XK.callG [0] (pick bs p xs.length hb hl h1 (by simp only [InK];omega)) ok16 (hhp_one rfl) (hbT ()) (fun d h' ⟨v,_,_,e⟩=>by subst e;simp) ?_
 rintro d h' ⟨v,rfl,hv,rfl⟩ _
 have hv2:0≤v∧v<xs.length:=by
  rcases hv with ⟨h | h,_⟩ | h
  ·omega
  ·omega
  ·exact h
 obtain ⟨y,hy⟩:∃ y,xs[v.toNat]? = some y:=⟨xs[v.toNat]'(by omega),List.getElem?_eq_getElem (by omega)⟩
 have hmem:y ∈ xs:=List.mem_of_getElem? hy
 refine drv_sound (n:=100) (rs:=_) Tryz.func20 mo rfl (some _) _ _ ?_
 simp only [go_sem,rdr,hy]
 refine ⟨by omega,?_⟩
 refine RetOb.ofQ (fun j=>if j<2 then some j else none) [] (DI .i64 y) [some (rdr bs ((p+1:Nat):Int)),some (xs.map I64)] ?_ ⟨y,rfl,hmem,rfl⟩ (by simp)
 simp [enumL,hOf,DM,CM,CMs,HpOK,LowOK,upd,rdr,CMs_I,hpL]
inductive SmE : Ex → Prop
 | mk (k v:Int) (ks:List Ex) (h:ks.length≤3) (h2:∀ x ∈ ks,SmE x):SmE (.mk k v ks)
theorem SmE.atom {e:Ex} (h:AtomE e):SmE e:=by
 obtain ⟨k,v,rfl,_,_⟩:=h
 exact .mk k v [] (by simp) (fun x hx=>by simp at hx)
def exC (l:List Ex):List C:=(l.map Ex.cells).flatten
theorem exC_len (l:List Ex):(exC l).length=l.length * 3:=by
 unfold exC
 induction l with
 | nil=>rfl
 | cons a r ih=>simp only [List.map_cons,List.flatten_cons,List.length_append,ih,Ex.cells_len,List.length_cons];omega
theorem ex_kf (e:Ex):∀ c ∈ e.cells,kf c=true:=by cases e;simp [Ex.cells,kf]
theorem exC_kf (l:List Ex):∀ c ∈ exC l,kf c=true:=by
 unfold exC
 intro c hc
 obtain ⟨x,hx,hc⟩:=List.mem_flatten.1 hc
 obtain ⟨e,_,rfl⟩:=List.mem_map.1 hx
 exact ex_kf e c hc
theorem exC_snoc (l:List Ex) (e:Ex):exC (l++[e])=exC l++e.cells:=by simp [exC]
theorem hhp2 {hp:Hp} {r:Nat→Nat} {k0 k1:Nat} {h0 h1:Option (List C)} (e0:hp k0=some (h0.map (renCs r))) (e1:hp k1=some (h1.map (renCs r))):∀ i' x,[h0,h1][i']? = some x→hp ([k0,k1].getD i' 0)=some (x.map (renCs r)):=by
 intro i' x hx
 match i',hx with
 | 0,hx=>simp only [List.getElem?_cons_zero,Option.some.injEq] at hx;subst hx;exact e0
 | 1,hx=>simp only [List.getElem?_cons_succ,List.getElem?_cons_zero,Option.some.injEq] at hx;subst hx;exact e1
 | i' + 2,hx=>simp at hx
def KD (d:Nat):Nat:=4 ^ (d+1)
theorem l2CopyExpr (e:Ex) (he:SmE e):DC Tryz.prog 128 [.agg e.cells] [] (fun r h=>r = .agg e.cells∧h=[]):=by
 have hmx:=mx_eq
 induction he with
 | mk k v ks hlen hall ih =>
  refine dcZ Tryz.func128 ?_
  simp only [go_sem]
  iterate 2 (try (refine drvZ Tryz.func128 ?_;simp only [go_sem]))
  refine Go.loopQ (fun i : Nat => [(1, .c (.ptr 0 0)), (2, .c (.ptr 64 0)), (3, .c (.ptr 66 0)), (4, DI .i64 i)])
   (fun i=>[(0,some (Ex.cells (.mk k v ks))),(64,some [I64 0,I64 0,.v (.slice none 0 0)]),(66,some [I64 k,I64 v,.msl 67 3 0 i]),(67,some (exC (ks.take i)))])
   4096 (fun i=>i≤ks.length) (fun i=>ks.length - i) ?_ 0 (fun j=>if j=66 then some 448 else if j=67 then none else some j) [] _ (Nat.zero_le _) ?_
  ·intro i hi again
   rcases Nat.lt_or_ge i ks.length with hlt | hge
   ·obtain ⟨⟨k',v',ks'⟩,hx⟩:∃ x,ks[i]? = some x:=⟨ks[i],by simp [hlt]⟩
    have hsx:ks.take (i+1)=ks.take i++[.mk k' v' ks']:=by rw [List.take_add_one,hx];rfl
    have hel:(exC (ks.take i)).length=i * 3:=by rw [exC_len,List.length_take];congr 1;omega
    refine drvL Tryz.func128 ?_
    simp only [go_sem,hx,hlt]
    (with_reducible and_intros)<;>try exact sd
    iterate 2 (try (refine drvZ Tryz.func128 ?_;simp only [go_sem,hx,hlt]))
    (with_reducible and_intros)<;>try exact sd
    refine XK.plain (ih _ (List.mem_of_getElem? hx)) ok128 ?_ (hbT ()) (fun _=>by kernel_rfl)
    iterate 3 (try (refine drvZ Tryz.func128 ?_;simp only [go_sem,hx,hlt]))
    (with_reducible and_intros)<;>try exact sd
    iterate 2 (try (refine drvZ Tryz.func128 ?_;simp only [go_sem,hx,hlt]))
    (with_reducible and_intros)<;>try exact sd
    refine again (i+1) (fun j=>if j=67 then some 4992 else some j) [] _ hlt (by omega) ?_
    simp only [go_sem,TmOK,DM,DMs,CM,CMs,forall_eq,exists_eq_left,Mq,HpOK,LowOK,hsx,exC_snoc]
    simp
    exact CMs.kf (kf_app (exC_kf _) (by simp [kf]))
   ·have hn:¬ i<ks.length:=by omega
    obtain rfl:i=ks.length:=by omega
    refine drvL Tryz.func128 ?_
    simp only [go_sem,hn,List.take_length]
    iterate 2 (try (refine drvZ Tryz.func128 ?_;simp only [go_sem,hn,List.take_length]))
    refine RetOb.ofQ (fun j=>none) [67] (.agg (Ex.cells (.mk k v ks))) [] ?_ ⟨rfl,rfl⟩ (by simp)
    have g1:(Ex.cellsL ks).flatten=exC ks:=by rw [Ex.cellsL_eq];rfl
    have g2:∀ x ∈ Ex.cellsL ks,x.length=3:=fun x hx=>by rw [Ex.cellsL_eq] at hx;obtain ⟨e,_,rfl⟩:=List.mem_map.1 hx;exact Ex.cells_len e
    have g3:∀ x ∈ Ex.cellsL ks,∀ c ∈ x,kf c=true:=fun x hx=>by rw [Ex.cellsL_eq] at hx;obtain ⟨e,_,rfl⟩:=List.mem_map.1 hx;exact ex_kf e
    simp only [enumL,hOf,DM,DMs,CM,CMs,HpOK,LowOK,upd,Ex.cells,Ex.cellsL_length,g1]
    first | (simp;exact ⟨g2,g3⟩) | (simp [g2];exact g3) | exact ⟨g2,g3⟩
  ·simp only [go_sem,TmOK,DM,DMs,CM,CMs,forall_eq,exists_eq_left,Mq,HpOK,LowOK]
   simp [exC]
def SmS : Nat → St1 → Prop
 | 0,.mk _ _ ix v _ b e=>SmE ix∧SmE v∧b=[]∧e=[]
 | d+1,.mk _ _ ix v _ b e=>SmE ix∧SmE v∧b.length≤4∧e.length≤4∧(∀ x ∈ b,SmS d x)∧∀ x ∈ e,SmS d x
def stC (l:List St1):List C:=(l.map St1.cells).flatten
theorem stC_len (l:List St1):(stC l).length=l.length * 11:=by
 unfold stC
 induction l with
 | nil=>rfl
 | cons a r ih=>simp only [List.map_cons,List.flatten_cons,List.length_append,ih,St1.cells_len,List.length_cons];omega
theorem st_kf (s:St1):∀ c ∈ s.cells,kf c=true:=by
 obtain ⟨k,t,ix,v,c,b,e⟩:=s
 intro x hx
 simp only [St1.cells,List.mem_append,List.mem_cons,List.not_mem_nil,or_false] at hx
 rcases hx with ((hx | hx) | hx) | hx
 ·rcases hx with rfl | rfl<;>rfl
 ·exact ex_kf _ _ hx
 ·exact ex_kf _ _ hx
 ·rcases hx with rfl | rfl | rfl<;>rfl
theorem stC_kf (l:List St1):∀ c ∈ stC l,kf c=true:=by
 unfold stC
 intro c hc
 obtain ⟨x,hx,hc⟩:=List.mem_flatten.1 hc
 obtain ⟨e,_,rfl⟩:=List.mem_map.1 hx
 exact st_kf e c hc
theorem stC_snoc (l:List St1) (s:St1):stC (l++[s])=stC l++s.cells:=by simp [stC]
theorem l2CopyBlockOf (d : Nat) (ih : ∀ l : List St1, l.length ≤ 4 → (∀ s ∈ l, ∃ d', d = d' + 1 ∧ SmS d' s) → DC Tryz.prog 118 [.c (.isl 11 (St1.cellsL l))] [] (fun r h => r = .c (.isl 11 (St1.cellsL l)) ∧ h = []))
 (l:List St1) (hl:l.length≤1000000) (hs:∀ s ∈ l,SmS d s):DC Tryz.prog 118 [.c (.isl 11 (St1.cellsL l))] [] (fun r h=>r = .c (.isl 11 (St1.cellsL l))∧h=[]):=by
 have hmx:=mx_eq
 refine dcZ Tryz.func118 ?_
 simp only [go_sem]
 iterate 2 (try (refine drvZ Tryz.func118 ?_;simp only [go_sem]))
 refine Go.loopQ (fun i : Nat => [(0, .c (.isl 11 (St1.cellsL l))), (3, .c (.msl 67 11 0 i)), (4, DI .i64 i)]) (fun i => [(67, some (stC (l.take i)))])
  4096 (fun i=>i≤l.length) (fun i=>l.length - i) ?_ 0 (fun j=>if j=67 then some 64 else some j) [] _ (Nat.zero_le _) ?_
 ·intro i hi again
  rcases Nat.lt_or_ge i l.length with hlt | hge
  ·obtain ⟨⟨k,t,⟨ik,iv,iks⟩,⟨vk,vv,vks⟩,c,b,e⟩,hx⟩:∃ x,l[i]? = some x:=⟨l[i],by simp [hlt]⟩
   have hsx:l.take (i+1)=l.take i++[.mk k t (.mk ik iv iks) (.mk vk vv vks) c b e]:=by rw [List.take_add_one,hx];rfl
   have hel:(stC (l.take i)).length=i * 11:=by rw [stC_len,List.length_take];congr 1;omega
   have hsm:=hs _ (List.mem_of_getElem? hx)
   have hie:SmE (.mk ik iv iks)∧SmE (.mk vk vv vks):=by cases d<;>simp only [SmS] at hsm<;>exact ⟨hsm.1,hsm.2.1⟩
   have hbl:b.length≤4∧(∀ s ∈ b,∃ d',d=d' + 1∧SmS d' s):=by
    cases d with
    | zero=>simp only [SmS] at hsm;rw [hsm.2.2.1];simp
    | succ d=>simp only [SmS] at hsm;exact ⟨hsm.2.2.1,fun s h=>⟨d,rfl,hsm.2.2.2.2.1 s h⟩⟩
   have hel2:e.length≤4∧(∀ s ∈ e,∃ d',d=d' + 1∧SmS d' s):=by
    cases d with
    | zero=>simp only [SmS] at hsm;rw [hsm.2.2.2];simp
    | succ d=>simp only [SmS] at hsm;exact ⟨hsm.2.2.2.1,fun s h=>⟨d,rfl,hsm.2.2.2.2.2 s h⟩⟩
   refine drvL Tryz.func118 ?_
   simp only [go_sem,hx,hlt]
   iterate 2 (try (refine drvZ Tryz.func118 ?_;simp only [go_sem,hx,hlt]))
   refine XK.plain (l2CopyExpr _ hie.1) ok128 ?_ (hbT ())
   iterate 2 (try (refine drvZ Tryz.func118 ?_;simp only [go_sem]))
   refine XK.plain (l2CopyExpr _ hie.2) ok128 ?_ (hbT ())
   iterate 2 (try (refine drvZ Tryz.func118 ?_;simp only [go_sem]))
   refine XK.plain (ih b hbl.1 hbl.2) ok118 ?_ (hbT ())
   iterate 2 (try (refine drvZ Tryz.func118 ?_;simp only [go_sem]))
   refine XK.plain (ih e hel2.1 hel2.2) ok118 ?_ (hbT ())
   iterate 3 (try (refine drvZ Tryz.func118 ?_;simp only [go_sem]))
   (with_reducible and_intros)<;>try exact sd
   iterate 2 (try (refine drvZ Tryz.func118 ?_;simp only [go_sem]))
   (with_reducible and_intros)<;>try exact sd
   refine again (i+1) (fun j=>if j=67 then some 6208 else some j) [] _ hlt (by omega) ?_
   simp only [go_sem,TmOK,DM,DMs,CM,CMs,forall_eq,exists_eq_left,Mq,HpOK,LowOK,hsx,stC_snoc,List.cons_append,List.nil_append]
   simp
   exact CMs.kf (kf_app (stC_kf _) (by simp [kf]))
  ·have hn:¬ i<l.length:=by omega
   obtain rfl:i=l.length:=by omega
   refine drvL Tryz.func118 ?_
   simp only [go_sem,hn,List.take_length]
   iterate 2 (try (refine drvZ Tryz.func118 ?_;simp only [go_sem,hn,List.take_length]))
   refine RetOb.ofQ (fun j=>none) [67] (.c (.isl 11 (St1.cellsL l))) [] ?_ ⟨rfl,rfl⟩ (by simp)
   have g1:(St1.cellsL l).flatten=stC l:=by rw [St1.cellsL_eq];rfl
   have g2:∀ x ∈ St1.cellsL l,x.length=11:=fun x hx=>by rw [St1.cellsL_eq] at hx;obtain ⟨e,_,rfl⟩:=List.mem_map.1 hx;exact St1.cells_len e
   have g3:∀ x ∈ St1.cellsL l,∀ c ∈ x,kf c=true:=fun x hx=>by rw [St1.cellsL_eq] at hx;obtain ⟨e,_,rfl⟩:=List.mem_map.1 hx;exact st_kf e
   simp only [enumL,hOf,DM,DMs,CM,CMs,HpOK,LowOK,upd,St1.cellsL_length,g1]
   first | (simp;exact ⟨g2,g3⟩) | (simp [g2];exact g3) | exact ⟨g2,g3⟩
 ·simp only [go_sem,TmOK,DM,DMs,CM,CMs,forall_eq,exists_eq_left,Mq,HpOK,LowOK]
  simp [stC,CMs]
theorem copyNil:DC Tryz.prog 118 [.c (.isl 11 (St1.cellsL []))] [] (fun r h=>r = .c (.isl 11 (St1.cellsL []))∧h=[]):=by
 refine dcZ Tryz.func118 ?_
 simp only [go_sem,St1.cellsL]
 iterate 2 (try (refine drvZ Tryz.func118 ?_;simp only [go_sem,St1.cellsL]))
 refine Go.loop ?_
 refine drvL Tryz.func118 ?_
 simp only [go_sem,St1.cellsL]
 iterate 2 (try (refine drvZ Tryz.func118 ?_;simp only [go_sem,St1.cellsL]))
 refine RetOb.ofQ (fun j=>none) [64] (.c (.isl 11 [])) [] ?_ ⟨rfl,rfl⟩ (by simp)
 simp [enumL,hOf,DM,CM,HpOK,LowOK,upd]
theorem l2CopyBlock : ∀ (d : Nat) (l : List St1), l.length ≤ 1000000 → (∀ s ∈ l, SmS d s) → DC Tryz.prog 118 [.c (.isl 11 (St1.cellsL l))] [] (fun r h => r = .c (.isl 11 (St1.cellsL l)) ∧ h = [])
 | 0,l,h1,h2=>l2CopyBlockOf 0 (fun l' h3 h4=>by
  cases l' with
  | nil=>exact copyNil
  | cons a r=>obtain ⟨d',e,_⟩:=h4 a (by simp);omega) l h1 h2
 | d+1,l,h1,h2=>l2CopyBlockOf (d+1) (fun l' h3 h4=>l2CopyBlock d l' (by omega) (fun s hs=>by
  obtain ⟨d',e,h⟩:=h4 s hs
  obtain rfl:d=d':=by omega
  exact h)) l h1 h2
theorem l2CopyBlockOwnOf (d : Nat) (ih : ∀ l : List St1, l.length ≤ 4 → (∀ s ∈ l, ∃ d', d = d' + 1 ∧ SmS d' s) → DC Tryz.prog 118 [.c (.isl 11 (St1.cellsL l))] [] (fun r h => r = .c (.isl 11 (St1.cellsL l)) ∧ h = []))
 (l:List St1) (hl:l.length≤1000000) (hs:∀ s ∈ l,SmS d s):DC Tryz.prog 118 [.c (.isl 11 (St1.cellsL l))] [] (fun r h=>r = .c (.msl 0 11 0 l.length)∧h=[some (stC l)]):=by
 have hmx:=mx_eq
 refine dcZ Tryz.func118 ?_
 simp only [go_sem]
 iterate 2 (try (refine drvZ Tryz.func118 ?_;simp only [go_sem]))
 refine Go.loopQ (fun i : Nat => [(0, .c (.isl 11 (St1.cellsL l))), (3, .c (.msl 67 11 0 i)), (4, DI .i64 i)]) (fun i => [(67, some (stC (l.take i)))])
  4096 (fun i=>i≤l.length) (fun i=>l.length - i) ?_ 0 (fun j=>if j=67 then some 64 else some j) [] _ (Nat.zero_le _) ?_
 ·intro i hi again
  rcases Nat.lt_or_ge i l.length with hlt | hge
  ·obtain ⟨⟨k,t,⟨ik,iv,iks⟩,⟨vk,vv,vks⟩,c,b,e⟩,hx⟩:∃ x,l[i]? = some x:=⟨l[i],by simp [hlt]⟩
   have hsx:l.take (i+1)=l.take i++[.mk k t (.mk ik iv iks) (.mk vk vv vks) c b e]:=by rw [List.take_add_one,hx];rfl
   have hel:(stC (l.take i)).length=i * 11:=by rw [stC_len,List.length_take];congr 1;omega
   have hsm:=hs _ (List.mem_of_getElem? hx)
   have hie:SmE (.mk ik iv iks)∧SmE (.mk vk vv vks):=by cases d<;>simp only [SmS] at hsm<;>exact ⟨hsm.1,hsm.2.1⟩
   have hbl:b.length≤4∧(∀ s ∈ b,∃ d',d=d' + 1∧SmS d' s):=by
    cases d with
    | zero=>simp only [SmS] at hsm;rw [hsm.2.2.1];simp
    | succ d=>simp only [SmS] at hsm;exact ⟨hsm.2.2.1,fun s h=>⟨d,rfl,hsm.2.2.2.2.1 s h⟩⟩
   have hel2:e.length≤4∧(∀ s ∈ e,∃ d',d=d' + 1∧SmS d' s):=by
    cases d with
    | zero=>simp only [SmS] at hsm;rw [hsm.2.2.2];simp
    | succ d=>simp only [SmS] at hsm;exact ⟨hsm.2.2.2.1,fun s h=>⟨d,rfl,hsm.2.2.2.2.2 s h⟩⟩
   refine drvL Tryz.func118 ?_
   simp only [go_sem,hx,hlt]
   iterate 2 (try (refine drvZ Tryz.func118 ?_;simp only [go_sem,hx,hlt]))
   refine XK.plain (l2CopyExpr _ hie.1) ok128 ?_ (hbT ())
   iterate 2 (try (refine drvZ Tryz.func118 ?_;simp only [go_sem]))
   refine XK.plain (l2CopyExpr _ hie.2) ok128 ?_ (hbT ())
   iterate 2 (try (refine drvZ Tryz.func118 ?_;simp only [go_sem]))
   refine XK.plain (ih b hbl.1 hbl.2) ok118 ?_ (hbT ())
   iterate 2 (try (refine drvZ Tryz.func118 ?_;simp only [go_sem]))
   refine XK.plain (ih e hel2.1 hel2.2) ok118 ?_ (hbT ())
   iterate 3 (try (refine drvZ Tryz.func118 ?_;simp only [go_sem]))
   (with_reducible and_intros)<;>try exact sd
   iterate 2 (try (refine drvZ Tryz.func118 ?_;simp only [go_sem]))
   (with_reducible and_intros)<;>try exact sd
   refine again (i+1) (fun j=>if j=67 then some 6208 else some j) [] _ hlt (by omega) ?_
   simp only [go_sem,TmOK,DM,DMs,CM,CMs,forall_eq,exists_eq_left,Mq,HpOK,LowOK,hsx,stC_snoc,List.cons_append,List.nil_append]
   simp
   exact CMs.kf (kf_app (stC_kf _) (by simp [kf]))
  ·have hn:¬ i<l.length:=by omega
   obtain rfl:i=l.length:=by omega
   refine drvL Tryz.func118 ?_
   simp only [go_sem,hn,List.take_length]
   iterate 2 (try (refine drvZ Tryz.func118 ?_;simp only [go_sem,hn,List.take_length]))
   refine RetOb.ofQ (fun j=>if j=0 then some 67 else none) [] (.c (.msl 0 11 0 l.length)) [some (stC l)] ?_ ⟨rfl,rfl⟩ (by simp)
   simp [enumL,hOf,DM,CM,HpOK,LowOK,upd]
   exact CMs.kf (stC_kf _)
 ·simp only [go_sem,TmOK,DM,DMs,CM,CMs,forall_eq,exists_eq_left,Mq,HpOK,LowOK]
  simp [stC,CMs]
theorem l2CopyBlockOwn (d:Nat) (l:List St1) (h1:l.length≤1000000) (h2:∀ s ∈ l,SmS d s):DC Tryz.prog 118 [.c (.isl 11 (St1.cellsL l))] [] (fun r h=>r = .c (.msl 0 11 0 l.length)∧h=[some (stC l)]) :=
 l2CopyBlockOwnOf d (fun l' h3 h4=>by
  cases d with
  | zero=>cases l' with
   | nil=>exact copyNil
   | cons a r=>obtain ⟨d',e,_⟩:=h4 a (by simp);omega
  | succ d=>exact l2CopyBlock d l' (by omega) (fun s hs=>by
   obtain ⟨d',e,h⟩:=h4 s hs
   obtain rfl:d=d':=by omega
   exact h)) l h1 h2
def KS : Nat → Nat
 | 0=>1200
 | d+1=>1200+8 * KS d
theorem KS_ge : ∀ d, 1200 ≤ KS d
 | 0=>Nat.le_refl _
 | d+1=>by simp only [KS];omega
theorem KS_le : ∀ d, d ≤ 3 → KS d ≤ 1000000
 | 0,_=>by decide
 | 1,_=>by decide
 | 2,_=>by decide
 | 3,_=>by decide
def Ex0:Ex := .mk 0 0 []
theorem SmE0:SmE Ex0 := .mk 0 0 [] (by simp) (fun x h=>by simp at h)
theorem SmS.leaf {d:Nat} {k t c:Int} {ix v:Ex} (h1:SmE ix) (h2:SmE v):SmS d (.mk k t ix v c [] []):=by
 cases d<;>simp [SmS,h1,h2]
def stR (bs:List Int) (n d:Nat) (r:D) (h:List (Option (List C))):Prop:=∃ s:St1,r = .agg s.cells∧SmS d s∧rdL bs n (KS d) h
theorem tsize_sm : ∀ (d k : Nat) (s : St1), SmS d s → tsize k s ≤ 9 ^ d
 | d,0,.mk _ _ _ _ _ b e,_=>Nat.zero_le _
 | 0,k+1,.mk _ _ ix v _ b e,h=>by
  simp only [SmS] at h
  obtain ⟨_,_,rfl,rfl⟩:=h
  simp [tsize]
 | d+1,k+1,.mk kk tt ix v cc b e,h=>by
  simp only [SmS] at h
  obtain ⟨_,_,h1,h2,h3,h4⟩:=h
  have hsum:∀ l:List St1,(∀ x ∈ l,SmS d x)→(l.map (tsize k)).sum≤l.length * 9 ^ d:=fun l hl=>by
   induction l with
   | nil=>simp
   | cons a r ih =>
    have:=tsize_sm d k a (hl a (by simp))
    have:=ih fun x hx=>hl x (by simp [hx])
    simp only [List.map_cons,List.sum_cons,List.length_cons,Nat.add_mul]
    omega
  have g1:=hsum b h3
  have g2:=hsum e h4
  have g3:b.length * 9 ^ d≤4 * 9 ^ d:=Nat.mul_le_mul_right _ h1
  have g4:e.length * 9 ^ d≤4 * 9 ^ d:=Nat.mul_le_mul_right _ h2
  have g5:0<9 ^ d:=Nat.pow_pos (by decide)
  have e1:tsize (k+1) (.mk kk tt ix v cc b e)=1+(b.map (tsize k)).sum+(e.map (tsize k)).sum:=rfl
  rw [e1,Nat.pow_succ]
  omega
theorem lsize_sm (d k:Nat) (l:List St1) (h:∀ s ∈ l,SmS d s):lsize k l≤l.length * 9 ^ d:=by
 unfold lsize
 induction l with
 | nil=>simp
 | cons a r ih =>
  have:=tsize_sm d k a (h a (by simp))
  have:=ih fun x hx=>h x (by simp [hx])
  simp only [List.map_cons,List.sum_cons,List.length_cons,Nat.add_mul]
  omega
def fixP:Pg:=⟨[0,1],[],[.mk 1 1 Ex0 (.mk 2 0 []) 0 [] []]⟩
structure DrP (p : Pg) : Prop where
 ok:progOK p=true
 nv:p.vars.length≤5
 na:p.arrays.length≤2
 nb:p.body.length≤4
 sm:∀ s ∈ p.body,SmS 2 s
theorem DrP.fix:DrP fixP:=⟨by decide,by decide,by decide,by decide,fun s hs=>by
 simp only [fixP,List.mem_singleton] at hs
 subst hs
 exact SmS.leaf SmE0 (.mk 2 0 [] (by simp) (fun x h=>by simp at h))⟩
def prR (bs:List Int) (n:Nat) (r:D) (h:List (Option (List C))):Prop:=∃ p:Pg,r = .agg p.cells∧DrP p∧rdL bs n 1000000 h
theorem i_snoc (l:List Int) (x:Int):(l++[x]).map I64=l.map I64++[I64 x]:=by simp
theorem a_snoc (l:List (List Int)) (x:List Int):(l++[x]).map isI=l.map isI++[isI x]:=by simp
theorem hdF (l:List (List Int)):(l.map fun a=>[isI a]).flatten=l.map isI:=flat1 _ l
theorem rI (l:List Int) (x:Int) (h:∀ y ∈ l,0≤y∧y≤255) (h2:0≤x∧x≤255):∀ y ∈ l++[x],0≤y∧y≤255:=fun y hy=>by
 rcases List.mem_append.1 hy with h3 | h3
 ·exact h y h3
 ·rw [List.mem_singleton.1 h3];exact h2
theorem sim_shrink {m : Nat} {I : Nat → Prop} {w : World} {s : Sg} {hp : Hp} (H : SimH I w s hp) (k : Nat) (cs ds : List C) (hk : hp k = some (some (cs ++ ds))) :
 SimH I w s (upd hp k (some (some cs)))∧Ext m I w s hp I w s (upd hp k (some (some cs))):=by
 rcases H.blk k _ hk with ⟨h1,h2⟩ | ⟨b,arr,T,h1,h2,h3,h4,h5⟩
 ·have e:cs=[]∧ds=[]:=List.append_eq_nil_iff.1 h2
  have e2:upd hp k (some (some cs))=hp:=funext fun j=>by
   by_cases hj:j=k
   ·subst hj;rw [upd_same,hk,e.1,e.2];rfl
   ·rw [upd_ne _ _ hj]
  rw [e2]
  exact ⟨H,Ext.refl _ _ _ _ _⟩
 ·refine sim_store (m:=m) H k _ cs hk b arr arr T h1 h2 rfl (by rw [List.length_append] at h3;omega) (fun j hj=>?_) ?_
  ·obtain ⟨y,hy,hr⟩:=h5 j (by rw [List.length_append];omega)
   refine ⟨y,hy,?_⟩
   rw [List.getElem_append_left hj] at hr
   exact hr
  ·have:w.heap.setIfInBounds b (.cells arr T (0,0))=w.heap:=by
    apply Array.ext_getElem?
    intro j
    rw [Array.getElem?_setIfInBounds]
    by_cases e:b=j
    ·subst e;rw [if_pos rfl,if_pos (lt_of_heap h2),h2]
    ·simp [e]
   rw [this]
theorem RetOb.shrink {m:Nat} {R:D→List (Option (List C))→Prop} {d:D} {hp:Hp} {k:Nat} {cs ds:List C} (hk:hp k=some (some (cs++ds))) (hn:RetOb m R d (upd hp k (some (some cs)))):RetOb m R d hp:=fun I w s v H hv=>by
 obtain ⟨H',E'⟩:=sim_shrink H k cs ds hk
 obtain ⟨I',s',d2,h2,g1,g2,g3,g4,g5⟩:=hn I w s v H' hv
 exact ⟨I',s',d2,h2,g1,g2,g3,E'.trans g4,g5⟩
def hdA (k2 k3 : Nat) : List (List Int) → List C
 | []=>[]
 | [a]=>[.msl k2 1 0 a.length]
 | a :: b :: _=>[.msl k2 1 0 a.length,.msl k3 1 0 b.length]
theorem RetOb.memK {R : D → List (Option (List C)) → Prop} {m : Mm} {hp : Hp} {k0 k1 k2 k3 nv na : Nat} {rc : List C} (hna : m.arrays.length ≤ 2) (hR : R (.agg m.cells) [some rc]) (hrc : ∀ c ∈ rc, kf c = true)
 (hz:hp 0=some (some rc)) (h0:hp k0=some (some (m.vals.map I64))) (h1:hp k1=some (some (hdA k2 k3 m.arrays))) (h2:hp k2=some (some (blk0 m.arrays))) (h3:hp k3=some (some (blk1 m.arrays))) (hv:nv=m.vals.length) (hn:na=m.arrays.length)
 (hne:k0 ≠ k1∧k0 ≠ k2∧k0 ≠ k3∧k1 ≠ k2∧k1 ≠ k3∧k2 ≠ k3∧0 ≠ k0∧0 ≠ k1∧0 ≠ k2∧0 ≠ k3):RetOb 1 R (.agg [.msl k0 1 0 nv,.msl k1 1 0 na]) hp:=by
 subst hv hn
 obtain ⟨va,arr⟩:=m
 obtain ⟨n01,n02,n03,n12,n13,n23,nt0,nt1,nt2,nt3⟩:=hne
 refine RetOb.step (fun j=>if j=0 then some 0 else if j=1 then some k0 else if j=2 then some k1 else none) [k2,k3] (.agg [.msl 1 1 0 va.length,.msl 2 1 0 arr.length]) [(0,some rc),(1,some (va.map I64)),(2,some (arr.map isI))] ?_ ?_
 ·have e3:∀ a:List Int,(a.map fun n=>[C.v (.int .i64 n)]).flatten=a.map I64:=fun a=>flat1 _ a
  have e4:∀ {hT hS:Hp} {r:Nat→Option Nat} {fz:List Nat},CMs hT r hS fz rc rc=True:=eq_true (CMs.kf hrc)
  match arr,hna,h1,h2,h3 with
  | [],_,h1,h2,h3=>simp [DM,DMs,CM,CMs,HpOK,LowOK,hOf,upd,hz,h0,CMs_I,e4,h1,hdA,n01,n02,n03,n12,n13,n23,nt0,nt1,nt2,nt3,Ne.symm n01,Ne.symm nt0,Ne.symm nt1,Ne.symm n23]
  | [a],_,h1,h2,h3 =>
   simp [DM,DMs,CM,CMs,HpOK,LowOK,hOf,upd,hz,h0,CMs_I,e4,h1,h2,hdA,n01,n02,n03,n12,n13,n23,nt0,nt1,nt2,nt3,Ne.symm n01,Ne.symm nt0,Ne.symm nt1,Ne.symm n23,e3,isI,blk0,kf]
  | [a,b],_,h1,h2,h3 =>
   simp [DM,DMs,CM,CMs,HpOK,LowOK,hOf,upd,hz,h0,CMs_I,e4,h1,h2,h3,hdA,n01,n02,n03,n12,n13,n23,nt0,nt1,nt2,nt3,Ne.symm n01,Ne.symm nt0,Ne.symm nt1,Ne.symm n23,e3,isI,blk0,blk1,kf]
 ·refine RetOb.ofQ (fun j=>if j=0 then some 0 else none) [1,2] _ [some rc] ?_ hR (by simp)
  have e4:∀ {hT hS:Hp} {r:Nat→Option Nat} {fz:List Nat},CMs hT r hS fz rc rc=True:=eq_true (CMs.kf hrc)
  simp [enumL,DM,DMs,CM,CMs,HpOK,LowOK,hOf,upd,Mm.cells,isI,flat_I,kf,e4]
  exact (flat1 isI arr).symm
theorem hdr_hdA (k k':Nat) (arr:List (List Int)) (h:arr.length≤2) (h4:∀ a ∈ arr,a.length=4):hdr k k' arr.length=hdA k k' arr:=by
 match arr,h,h4 with
 | [],_,_=>rfl
 | [a],_,h4=>simp [hdr,hdA,h4 a (by simp)]
 | [a,b],_,h4=>simp [hdr,hdA,h4 a (by simp),h4 b (by simp)]
theorem renC_kf (r : Nat → Nat) : ∀ c : C, kf c = true → renC r c = c
 | .v _,_ | .isl _ _,_ | .csl _ _ _,_ | .num _,_ | .z,_ | .unk,_ | .eptr _,_ | .met _ _,_=>rfl
 | .msl _ _ _ _,h | .ptr _ _,h | .clo _ _,h=>by simp [kf] at h
theorem renCs_kf (r:Nat→Nat) (cs:List C) (h:∀ c ∈ cs,kf c=true):renCs r cs=cs:=by
 rw [renCs_eq]
 conv=>rhs;rw [← List.map_id cs]
 exact List.map_congr_left fun c hc=>renC_kf r c (h c hc)
theorem renCs_stC (r:Nat→Nat) (l:List St1):renCs r (stC l)=stC l:=renCs_kf r _ (stC_kf l)
theorem l2Copy (p : Pg) (d : Nat) (hv : p.vars.length ≤ 1000) (ha : p.arrays.length ≤ 1000) (hb : p.body.length ≤ 1000) (hs : ∀ s ∈ p.body, SmS d s) : DC Tryz.prog 97 [.agg p.cells] []
 (fun r h=>r = .agg [.msl 0 1 0 p.vars.length,.msl 1 1 0 p.arrays.length,.msl 2 11 0 p.body.length]∧h=[some (p.vars.map I64),some (p.arrays.map I64),some (stC p.body)]):=by
 have hmx:=mx_eq
 have hcb:=l2CopyBlockOwn d p.body (by omega) hs
 generalize hR:(fun (r:D) (h:List (Option (List C)))=>r = .agg [.msl 0 1 0 p.vars.length,.msl 1 1 0 p.arrays.length,.msl 2 11 0 p.body.length]∧h=[some (p.vars.map I64),some (p.arrays.map I64),some (stC p.body)])=R
 obtain ⟨vs,ar,bd⟩:=p
 have hv:vs.length≤1000:=hv
 have ha:ar.length≤1000:=ha
 have hb:bd.length≤1000:=hb
 have hfl:(bd.map St1.cells).flatten=stC bd:=rfl
 refine dcZ Tryz.func97 ?_
 simp only [go_sem,flat_I']
 iterate 2 ((try (refine drvZ Tryz.func97 ?_;simp only [go_sem,flat_I']));((with_reducible and_intros)<;>try exact sd))
 refine XK.callG [] hcb ok118 (fun i' x h=>by simp at h) (hbT ()) (fun d h' ⟨_,e⟩=>by subst e;simp) ?_ (fun _=>⟨by kernel_rfl,_,_,⟨rfl,rfl⟩,by simp⟩)
 rintro _ _ ⟨rfl,rfl⟩ _
 iterate 3 ((try (refine drvZ Tryz.func97 ?_;simp only [go_sem,flat_I',renCs_stC]));((with_reducible and_intros)<;>try exact sd))
 refine RetOb.ofQ (fun j=>if j=0 then some 320 else if j=1 then some 576 else if j=2 then some 768 else none) [] (.agg [.msl 0 1 0 vs.length,.msl 1 1 0 ar.length,.msl 2 11 0 bd.length]) [some (vs.map I64),some (ar.map I64),some (stC bd)] ?_ (by rw [← hR];exact ⟨rfl,rfl⟩) (by simp)
 simp [enumL,hOf,DM,DMs,CM,CMs,HpOK,LowOK,upd,CMs_I]
 exact CMs.kf (stC_kf _)
theorem renCs_rdr (r:Nat→Nat) (bs:List Int) (n:Int):renCs r (rdr bs n)=rdr bs n:=renCs_kf r _ (rdr_kf bs n)
theorem SmE.any {k v k' v':Int} {ks:List Ex} (h:SmE (.mk k v ks)):SmE (.mk k' v' ks):=by
 cases h with | mk _ _ _ h h2=>exact .mk _ _ _ h h2
theorem DC_imp {P:Program} {F:FuncId} {args:List D} {h:List (Option (List C))} {R1 R2:D→List (Option (List C))→Prop} (hD:DC P F args h R1) (hi:∀ d h',R1 d h'→R2 d h'):DC P F args h R2:=fun I w s vs H hv=>by
 refine (hD I w s vs H hv).mono ?_
 rintro e w' ⟨v,I',s',d,h',rfl,hR,g⟩
 exact ⟨v,I',s',d,h',rfl,hi _ _ hR,g⟩
end Go.Proofs.YtoakidkcppinpaaGreat.CtD
