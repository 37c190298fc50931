/- Contracts of functions of the program, one behind the other, as plain data: what each call returns and which blocks it leaves. -/
import Derived.Test.YtddanjifhdaebaaGFacts
import Derived.Test.YtddanjifhdaebaaGAq
import Derived.Test.YtddanjifhdaebaaGAl
import Derived.Test.YtddanjifhdaebaaGAn
import Derived.Test.YtddanjifhdaebaaGAi
import Derived.Test.YtddanjifhdaebaaGAm
import Derived.Test.YtddanjifhdaebaaGAo
import Derived.Test.YtddanjifhdaebaaGAp
set_option linter.unusedVariables false
set_option linter.unusedSimpArgs false
set_option linter.unusedSectionVars false
set_option maxHeartbeats 16000000
set_option maxRecDepth 100000
namespace Go.Proofs.Ytddanjifhdaebaa.CtR
open Go Go.CT CtF
variable [Yn]
theorem Ev.eq_iff (a b:Ev):a=b ↔ a.kind=b.kind∧a.value=b.value:=by cases a;cases b;simp
def trSame (xs ys:List Ev):Bool:=xs.length == ys.length && (xs.zip ys).all fun q=>q.1.kind == q.2.kind && q.1.value == q.2.value
theorem trSame_iff : ∀ xs ys : List Ev, trSame xs ys = true ↔ xs = ys
  | [],[]=>by simp [trSame]
  | [],b :: r=>by simp [trSame]
  | a :: r,[]=>by simp [trSame]
  | a :: r,b :: r'=>by
    have ih:=trSame_iff r r'
    simp only [trSame,List.length_cons,List.zip_cons_cons,List.all_cons,Bool.and_eq_true,beq_iff_eq] at ih ⊢
    rw [List.cons.injEq,Ev.eq_iff,← ih]
    constructor
    · rintro ⟨h1,⟨h2,h3⟩,h4⟩;exact ⟨⟨h2,h3⟩,by omega,h4⟩
    · rintro ⟨⟨h2,h3⟩,h1,h4⟩;exact ⟨by omega,⟨h2,h3⟩,h4⟩
theorem equalEv (xs ys:List Ev) (hl:xs.length≤mx):DC Try.prog 125 [.c (trD xs),.c (trD ys)] [] (fun r h=>r=DB (trSame xs ys)∧h=[]):=by
  have hmx:=mx_eq
  have ret:∀ (b:Bool) (hp:Hp),b=trSame xs ys→RetOb 0 (fun r h=>r=DB (trSame xs ys)∧h=[]) (DB b) hp:=fun b hp h=>RetOb.plain (d:=DB _) ⟨by rw [h],rfl⟩ rfl
  by_cases hlen:xs.length=ys.length
  · have hb:((xs.length:Int) != ys.length)=false:=by simp [hlen]
    have he:((xs.length:Int)=ys.length)=True:=eq_true (by omega)
    refine dc_of_go Try.func125 rfl (by simp) ?_
    refine drv_sound (n:=100) (rs:=_) Try.func125 mo rfl none _ _ ?_
    simp only [go_sem,trD,hb,he]
    refine Go.loopL (fun i:Nat=>[(0,.c (trD xs)),(1,.c (trD ys)),(12,DI .i64 xs.length),(13,DI .i64 i)]) (fun _=>[]) 1024 (fun i=>i≤xs.length∧trSame xs ys=trSame (xs.drop i) (ys.drop i)) (fun i=>xs.length - i) ?_ 0 some [] _ ⟨Nat.zero_le _,rfl⟩ ?_
    · intro i hi again
      refine drv_sound (n:=100) (rs:=_) Try.func125 mo rfl none _ _ ?_
      rcases Nat.lt_or_ge i xs.length with hlt | hge
      · obtain ⟨⟨k1,v1⟩,hx⟩:∃ x,xs[i]? = some x:=⟨xs[i],by simp [hlt]⟩
        obtain ⟨⟨k2,v2⟩,hy⟩:∃ y,ys[i]? = some y:=⟨ys[i]'(by omega),by simp⟩
        have hI:=hi.2
        obtain ⟨_,ex⟩:=List.getElem?_eq_some_iff.1 hx
        obtain ⟨hyl,ey⟩:=List.getElem?_eq_some_iff.1 hy
        rw [List.drop_eq_getElem_cons hlt,List.drop_eq_getElem_cons hyl,ex,ey] at hI
        have hd:(xs.drop (i+1)).length=(ys.drop (i+1)).length:=by simp;omega
        have hI2:trSame xs ys=((decide (k1=k2) && decide (v1=v2)) && trSame (xs.drop (i+1)) (ys.drop (i+1))):=by
          rw [hI]
          simp only [trSame,List.length_cons,hd,List.zip_cons_cons,List.all_cons,beq_self_eq_true,Bool.true_and]
          rfl
        simp only [go_sem,trD,hx,hy,hlt,Ev.cells,I64]
        (with_reducible and_intros)<;>try exact sd
        · intro h;exact ret _ _ (by rw [hI2];by_cases h1:k1=k2<;>simp_all)
        · intro h;exact ⟨by simp only [InK];omega,again (i+1) some [] _ ⟨by omega,by rw [hI2];simp [h.1,h.2]⟩ (by omega) (Mt.slots (by
            simp only [go_sem,TmOK,DM,DMs,CM,CMs,forall_eq,exists_eq_left,trD]))⟩
      · have hn:¬ i<xs.length:=by omega
        simp only [go_sem,trD,hn]
        refine ret _ _ ?_
        rw [hi.2,List.drop_of_length_le hge,List.drop_of_length_le (by omega)];rfl
    · refine Mt.slots ?_
      simp only [go_sem,TmOK,DM,DMs,CM,CMs,forall_eq,exists_eq_left,trD]
  · have hb:((xs.length:Int) != ys.length)=true:=by simp;omega
    have he:((xs.length:Int)=ys.length)=False:=eq_false (by omega)
    refine dc_of_go Try.func125 rfl (by simp) ?_
    refine drv_sound (n:=100) (rs:=_) Try.func125 mo rfl none _ _ ?_
    simp only [go_sem,trD,hb,he]
    refine ret _ _ ?_
    simp [trSame,hlen]
theorem traceSame (xs ys:List Ev) (hl:xs.length≤mx):DC Try.prog 59 [.c (trD xs),.c (trD ys)] [] (fun r h=>r=DB (trSame xs ys)∧h=[]):=by
  refine dc_of_go Try.func59 rfl (by simp) ?_
  refine drv_sound (n:=100) (rs:=_) Try.func59 mo rfl none _ _ ?_
  simp only [go_sem,trD]
  refine XK.plain (equalEv xs ys hl) ok125 ?_
  refine drv_sound (n:=100) (rs:=_) Try.func59 mo rfl (some _) _ _ ?_
  simp only [go_sem,trD]
  exact RetOb.plain (d:=DB _) ⟨rfl,rfl⟩ rfl
end Go.Proofs.Ytddanjifhdaebaa.CtR
namespace Go.Proofs.Ytddanjifhdaebaa.CtD
open Go Go.CT CtF
variable [Yn]
def rdr (bs:List Int) (p:Int):List C:=[.isl 1 (bs.map fun n=>[.v (.int .u8 n)]),.v (.int .i64 p)]
theorem pick (bs : List Int) (p : Nat) (n : Int) (hb : Fits .u8 bs) (hl : bs.length ≤ 2000) (h1 : p ≤ 1099511627776) (hn : InK .i64 n) : DC Try.prog 158 [.c (.ptr 0 0), DI .i64 n] [some (rdr bs p)]
    (fun d h=>∃ v:Int,d=DI .i64 v∧((n<1∨bs=[])∧v=0∨0≤v∧v<n)∧h=[some (rdr bs ((p+1:Nat):Int))]):=by
  have hmx:=mx_eq
  refine dc_of_go Try.func158 rfl (by simp) ?_
  have ret:∀ (v:Int) (hp:Hp),((n<1∨bs=[])∧v=0∨0≤v∧v<n)→hp 0=some (some [.isl 1 (bs.map fun n=>[.v (.int .u8 n)]),.v (.int .i64 (p+1))]) →
      RetOb 1 (fun d h=>∃ v:Int,d = .c (.v (.int .i64 v))∧((n<1∨bs=[])∧v=0∨0≤v∧v<n)∧h=[some [.isl 1 (bs.map fun n=>[.v (.int .u8 n)]),.v (.int .i64 (p+1))]]) (.c (.v (.int .i64 v))) hp:=fun v hp hv hhp=>by
    refine RetOb.of (fun k=>if k=0 then some 0 else none) [] (DI .i64 v) [_] (subH_one' rfl hhp (by simp [kf]) (by simp)) (by simp [DM,CM,DI]) ⟨v,rfl,hv,rfl⟩ (by simp)
  refine drv_sound (n:=37) (rs:=_) Try.func158 mo rfl none _ _ ?_
  simp (maxSteps:=10000000) (maxDischargeDepth:=300) only [go_sem,rdr,List.length_eq_zero_iff,Int.natCast_eq_zero]
  refine ⟨by simp only [InK];omega,fun h=>ret _ _ (.inl ⟨h,rfl⟩) (upd_same _ _ _),fun h=>?_⟩
  have hbl:0<bs.length:=List.length_pos_iff.2 h.2
  have hby:∀ {j:Nat} {x:Int},bs[j]? = some x→0≤x∧x≤255:=fun {j x} hx=>by
    obtain ⟨hlt,e⟩:=List.getElem?_eq_some_iff.1 hx
    exact hb x (e ▸ List.getElem_mem hlt)
  have hrem:∀ a:Int,0≤a→0≤a % n∧a % n<n:=fun a _=>⟨Int.emod_nonneg _ (by omega),Int.emod_lt_of_pos _ (by omega)⟩
  refine drv_sound (n:=100) (rs:=_) Try.func158 mo rfl (some _) _ _ ?_
  rcases Nat.lt_or_ge p bs.length with hlt | hge
  · obtain ⟨x,hx⟩:∃ x,bs[p]? = some x:=⟨bs[p],by simp⟩
    have hxb:=hby hx
    have hnlt:¬ bs.length≤p:=by omega
    simp (maxSteps:=10000000) (maxDischargeDepth:=300) only [go_sem,hx,hlt,hnlt]
    exact ⟨by simp only [InK];omega,by simp only [InK];omega,by omega,ret _ _ (.inr (hrem x hxb.1)) (upd_same _ _ _)⟩
  · have hnlt:¬ p<bs.length:=by omega
    have hm1:((p:Int) % bs.length).toNat<bs.length:=by
      have:=Int.emod_lt_of_pos (p:Int) (b:=bs.length) (by omega)
      have:=Int.emod_nonneg (p:Int) (b:=bs.length) (by omega)
      omega
    have hm2:(((p:Int) * 7+3) % bs.length).toNat<bs.length:=by
      have:=Int.emod_lt_of_pos ((p:Int) * 7+3) (b:=bs.length) (by omega)
      have:=Int.emod_nonneg ((p:Int) * 7+3) (b:=bs.length) (by omega)
      omega
    obtain ⟨x,hx⟩:∃ x,bs[((p:Int) % bs.length).toNat]? = some x:=⟨_,List.getElem?_eq_getElem hm1⟩
    obtain ⟨y,hy⟩:∃ x,bs[(((p:Int) * 7+3) % bs.length).toNat]? = some x:=⟨_,List.getElem?_eq_getElem hm2⟩
    have hxb:=hby hx
    have hyb:=hby hy
    simp (maxSteps:=10000000) (maxDischargeDepth:=300) only [go_sem,hx,hy,hge,hnlt]
    have hq0:0≤(p:Int) / bs.length:=Int.ediv_nonneg (by omega) (by omega)
    have hq1:(p:Int) / bs.length≤p:=Int.ediv_le_self _ (by omega)
    generalize (p:Int) / bs.length=q at *
    repeat' with_reducible apply And.intro
    all_goals first | kernel_rfl | (simp only [InK];omega) | omega | exact Int.emod_nonneg _ (by omega) | exact ret _ _ (.inr (hrem _ (Int.natCast_nonneg _))) (upd_same _ _ _)
theorem num (bs : List Int) (p : Nat) (xs : List Int) (hb : Fits .u8 bs) (hl : bs.length ≤ 2000) (h1 : p ≤ 1099511627776) (hx0 : 0 < xs.length) (hx1 : xs.length ≤ mx) : DC Try.prog 159 [.c (.ptr 0 0), ints xs] [some (rdr bs p)]
    (fun d h=>∃ v:Int,d=DI .i64 v∧v ∈ xs∧h=[some (rdr bs ((p+1:Nat):Int))]):=by
  have hmx:=mx_eq
  refine dc_of_go Try.func159 rfl (by simp) ?_
  refine drv_sound (n:=100) (rs:=_) Try.func159 mo rfl none _ _ ?_
  simp (maxSteps:=10000000) (maxDischargeDepth:=300) only [go_sem,rdr,ints]
  refine XK.callG [0] (pick bs p xs.length hb hl h1 (by simp only [InK];omega)) ok158 (hhp_one rfl) (fun j hj=>by simp [hpL]) (fun d h' ⟨v,_,_,e⟩=>by subst e;simp) ?_
  rintro d h' ⟨v,rfl,hv,rfl⟩ _
  have hv2:0≤v∧v<xs.length:=by
    rcases hv with ⟨h | h,_⟩ | h
    · omega
    · omega
    · exact h
  refine drv_sound (n:=100) (rs:=_) Try.func159 mo rfl (some _) _ _ ?_
  obtain ⟨y,hy⟩:∃ y,xs[v.toNat]? = some y:=⟨xs[v.toNat]'(by omega),List.getElem?_eq_getElem (by omega)⟩
  have hmem:y ∈ xs:=List.mem_of_getElem? hy
  simp (maxSteps:=10000000) (maxDischargeDepth:=300) only [go_sem,rdr,ints,hy]
  exact ⟨by omega,RetOb.keep1 (d:=DI .i64 y) (cs:=rdr bs ((p+1:Nat):Int)) ⟨y,rfl,hmem,rfl⟩ rfl (by simp [rdr,kf]) rfl⟩
end Go.Proofs.Ytddanjifhdaebaa.CtD
namespace Go.Proofs.Ytddanjifhdaebaa.CtR
end Go.Proofs.Ytddanjifhdaebaa.CtR
namespace Go.Proofs.Ytddanjifhdaebaa.CtD
open Go Go.CT CtF CtR
variable [Yn]
end Go.Proofs.Ytddanjifhdaebaa.CtD
namespace Go.Proofs.Ytddanjifhdaebaa.CtR
open Go Go.CT CtF
variable [Yn]
theorem RetOb.two {R:D→List (Option (List C))→Prop} {a b:Int} {hp:Hp} (h:R (.tup [DI .i64 a,DI .i64 b]) []):RetOb 0 R (.tup [DI .i64 a,DI .i64 b]) hp :=
  RetOb.ofQ (fun _=>none) [] (.tup [DI .i64 a,DI .i64 b]) [] (by simp [enumL,DM,DMs,CM,HpOK,LowOK]) h (by simp)
abbrev BC (b:Bool):C := .v (.bool b)
def boolsC (bs:List Bool):List C:=bs.map BC
theorem boolsC_kf (bs:List Bool):∀ c ∈ boolsC bs,kf c=true:=by
  intro c hc;obtain ⟨x,_,rfl⟩:=List.mem_map.1 hc;rfl
end Go.Proofs.Ytddanjifhdaebaa.CtR
namespace Go.Proofs.Ytddanjifhdaebaa.CtD
open Go Go.CT CtF CtR
variable [Yn]
theorem runP_sm (p:Pg) (m:Mm):(runP p m).1.vals.length≤12∧(runP p m).1.arrays.length≤2∧(∀ a ∈ (runP p m).1.arrays,a.length≤4)∧(runP p m).2.1.length≤1000000:=by
  cases hq:(progOK p && memOK p.vars p.arrays m) with
  | false=>rw [runP_false hq];simp
  | true =>
    rw [runP_true hq]
    have hm:=memFits_of hq
    simp only [Bool.and_eq_true] at hq
    have hb:=body_of hq.1
    have h:=runL_ok hm hb.1
    have h2:=h.2
    rw [wt5] at h2
    refine ⟨by rw [h.1.nv];exact hm.nv12.2,by rw [h.1.na];exact hm.na2,fun a ha=>by have:=(h.1.arr a ha).1;omega,?_⟩
    have:=hb.2
    simp only
    omega
end Go.Proofs.Ytddanjifhdaebaa.CtD
namespace Go.Proofs.Ytddanjifhdaebaa.CtR
open Go Go.CT CtF
variable [Yn]
end Go.Proofs.Ytddanjifhdaebaa.CtR
namespace Go.Proofs.Ytddanjifhdaebaa.CtD
open Go Go.CT CtF CtR
variable [Yn]
end Go.Proofs.Ytddanjifhdaebaa.CtD
namespace Go.Proofs.Ytddanjifhdaebaa.CtR
end Go.Proofs.Ytddanjifhdaebaa.CtR
namespace Go.Proofs.Ytddanjifhdaebaa.CtD
open Go Go.CT CtF CtR
variable [Yn]
end Go.Proofs.Ytddanjifhdaebaa.CtD
namespace Go.Proofs.Ytddanjifhdaebaa.CtF
end Go.Proofs.Ytddanjifhdaebaa.CtF
namespace Go.Proofs.Ytddanjifhdaebaa.CtR
end Go.Proofs.Ytddanjifhdaebaa.CtR
namespace Go.Proofs.Ytddanjifhdaebaa.CtD
open Go Go.CT CtF CtR
variable [Yn]
end Go.Proofs.Ytddanjifhdaebaa.CtD
namespace Go.Proofs.Ytddanjifhdaebaa.CtF
end Go.Proofs.Ytddanjifhdaebaa.CtF
namespace Go.Proofs.Ytddanjifhdaebaa.CtR
end Go.Proofs.Ytddanjifhdaebaa.CtR
namespace Go.Proofs.Ytddanjifhdaebaa.CtD
open Go Go.CT CtF CtR
variable [Yn]
end Go.Proofs.Ytddanjifhdaebaa.CtD
namespace Go.Proofs.Ytddanjifhdaebaa.CtF
end Go.Proofs.Ytddanjifhdaebaa.CtF
namespace Go.Proofs.Ytddanjifhdaebaa.CtR
end Go.Proofs.Ytddanjifhdaebaa.CtR
namespace Go.Proofs.Ytddanjifhdaebaa.CtD
open Go Go.CT CtF CtR
variable [Yn]
end Go.Proofs.Ytddanjifhdaebaa.CtD
namespace Go.Proofs.Ytddanjifhdaebaa.CtF
end Go.Proofs.Ytddanjifhdaebaa.CtF
namespace Go.Proofs.Ytddanjifhdaebaa.CtR
end Go.Proofs.Ytddanjifhdaebaa.CtR
namespace Go.Proofs.Ytddanjifhdaebaa.CtD
open Go Go.CT CtF CtR
variable [Yn]
def rel (l:List Ev):List Ev:=l.filter fun e=>e.kind == 4
theorem rel_app (a b:List Ev):rel (a++b)=rel a++rel b:=by simp [rel]
theorem rel_snoc (a:List Ev) (e:Ev):rel (a++[e])=if e.kind == 4 then rel a++[e] else rel a:=by
  rw [rel_app];simp only [rel,List.filter_cons,List.filter_nil];split<;>simp
end Go.Proofs.Ytddanjifhdaebaa.CtD
namespace Go.Proofs.Ytddanjifhdaebaa.CtF
variable [Go.CT.Yn]
end Go.Proofs.Ytddanjifhdaebaa.CtF
namespace Go.Proofs.Ytddanjifhdaebaa.CtR
variable [Go.CT.Yn]
open Go Go.CT CtF
def subL (a b:Nat):Bool:=a ||| b == b
open Go Go.CT CtF
open Go Go.CT CtF
def fdif : List Ev → List Ev → Int → Int
  | [],[],_ => -1
  | a :: r,b :: s,n=>if a.kind=b.kind∧a.value=b.value then fdif r s (n+1) else n
  | _,_,n=>n
end Go.Proofs.Ytddanjifhdaebaa.CtR
namespace Go.Proofs.Ytddanjifhdaebaa.CtF
end Go.Proofs.Ytddanjifhdaebaa.CtF
namespace Go.Proofs.Ytddanjifhdaebaa.CtR
end Go.Proofs.Ytddanjifhdaebaa.CtR
namespace Go.Proofs.Ytddanjifhdaebaa.CtR
open Go Go.CT CtF
variable [Yn]
theorem le3 {a:Nat} (h:a≤3):a=0∨a=1∨a=2∨a=3:=by omega
theorem subI (a b:Nat) (ha:a≤3) (hb:b≤3):decide (((a ||| b:Nat):Int)=(b:Int))=subL a b:=by
  rcases le3 ha with rfl | rfl | rfl | rfl<;>rcases le3 hb with rfl | rfl | rfl | rfl<;>decide
end Go.Proofs.Ytddanjifhdaebaa.CtR
namespace Go.Proofs.Ytddanjifhdaebaa.CtD
open Go Go.CT CtF CtR
variable [Yn]
end Go.Proofs.Ytddanjifhdaebaa.CtD
namespace Go.Proofs.Ytddanjifhdaebaa.CtR
variable [Go.CT.Yn]
open Go Go.CT CtF
open Go Go.CT CtF
end Go.Proofs.Ytddanjifhdaebaa.CtR
namespace Go.Proofs.Ytddanjifhdaebaa.CtD
open Go Go.CT CtF CtR
variable [Yn]
def bl (n N:Nat):List Bool:=(List.range n).map fun i=>N.testBit i
theorem fitsV {p:Pg} {va:List Int} {arr:List (List Int)} (h:MemFits p ⟨va,arr⟩) (k:Nat) {v:Int} (hv:0≤v∧v≤255):MemFits p ⟨va.set k v,arr⟩ :=
  ⟨by have:=h.nv;simpa using this,h.na,h.nv12,h.na2,fun x hx=>by
    rcases List.mem_or_eq_of_mem_set hx with h1 | rfl
    · exact h.val x h1
    · exact hv,h.arr⟩
theorem intsKeep {hp:Hp} {k n:Nat} {L:List Int} (hk:hp k=some (some (L.map I64))) (hn:n=L.length):RetOb 0 (fun r h=>r = .c (.msl 0 1 0 L.length)∧h=[some (L.map I64)]) (.c (.msl k 1 0 n)) hp:=by
  subst hn
  refine RetOb.ofQ (fun j=>if j=0 then some k else none) [] _ [some (L.map I64)] ?_ ⟨rfl,rfl⟩ (by simp)
  have e4:∀ {hT hS:Hp} {r:Nat→Option Nat} {fz:List Nat},CMs hT r hS fz (L.map I64) (L.map I64)=True:=eq_true (CMs.kf (kf_I L))
  simp [-List.mem_map,enumL,DM,DMs,CM,CMs,HpOK,LowOK,hOf,upd,hk,e4]
theorem intsNil {hp:Hp}:RetOb 0 (fun r h=>r = .c (.msl 0 1 0 ([]:List Int).length)∧h=[some (([]:List Int).map I64)]) (.c (.v (.slice none 0 0))) hp:=by
  refine RetOb.ofQ (fun j=>none) [] (.c (.msl 0 1 0 0)) [some []] ?_ ⟨rfl,rfl⟩ (by simp)
  simp [enumL,DM,DMs,CM,CMs,HpOK,LowOK,hOf,upd]
def rowsB (w:Nat) (S:List Nat):List (List C):=S.map fun N=>boolsC (bl w N)
theorem rowsB_len (w:Nat) (S:List Nat):(rowsB w S).length=S.length:=by simp [rowsB]
theorem rowsB_kf (w:Nat) (S:List Nat):∀ x ∈ rowsB w S,∀ c ∈ x,kf c=true:=fun x hx c hc=>by
  obtain ⟨N,_,rfl⟩:=List.mem_map.1 hx;exact boolsC_kf _ c hc
theorem fam_row {hp:Hp} {b w i:Nat} {S:List Nat} {row:List C} (hS:S.length≤32) (h:(rowsB w S)[i]? = some row):fam hp b (rowsB w S) (b+i)=some (some row):=by
  have:=(List.getElem?_eq_some_iff.1 h).1
  rw [rowsB_len] at this
  rw [fam_at (by omega),h];rfl
theorem SubH.rows {m : Nat} {r : Nat → Option Nat} {hl : List (Nat × Option (List C))} {hp : Hp} {b b' w : Nat} {S : List Nat} (hS : S.length ≤ 32) (hr : ∀ i, i < S.length → r (b + i) = some (b' + i))
    (hok:HpOK (fam (hOf hl) b (rowsB w S)) r (fam hp b' (rowsB w S)) [] hl) (hlow:LowOK r (fam (hOf hl) b (rowsB w S)) m) (hnd:((hl.filterMap fun p=>p.2.map fun _=>p.1).filterMap r).Nodup)
    (hdis:∀ p ∈ hl,∀ j,r p.1=some j→j<b'∨b' + 32≤j):SubH m r [] (fam (hOf hl) b (rowsB w S)) (fam hp b' (rowsB w S)):=by
  have hl0:=rowsB_len w S
  refine SubH.fam (fun n=>b' + n) (fun i hi=>hr i (by omega)) (fun i j hi hj h=>by omega) (fun i hi=>by simp) (fun i row hi=>fam_row hS hi) (rowsB_kf w S) hok hlow hnd ?_
  intro k j cs hm hj i hi e
  have:=hdis _ hm j hj
  omega
end Go.Proofs.Ytddanjifhdaebaa.CtD
namespace Go.Proofs.Ytddanjifhdaebaa.CtR
variable [Go.CT.Yn]
open Go Go.CT CtF
end Go.Proofs.Ytddanjifhdaebaa.CtR
namespace Go.Proofs.Ytddanjifhdaebaa.CtR
open Go Go.CT CtF
variable [Yn]
theorem fdif_iff : ∀ (xs ys : List Ev) (n : Int), 0 ≤ n → (fdif xs ys n = -1 ↔ xs = ys)
  | [],[],n,_=>by simp [fdif]
  | [],b :: r,n,h=>by simp [fdif];omega
  | a :: r,[],n,h=>by simp [fdif];omega
  | a :: r,b :: s,n,h=>by
    obtain ⟨ak,av⟩:=a
    obtain ⟨bk,bv⟩:=b
    simp only [fdif]
    split
    · rename_i he
      obtain ⟨rfl,rfl⟩:=he
      rw [fdif_iff r s (n+1) (by omega)];simp
    · rename_i he
      constructor
      · intro h1;omega
      · intro h1;simp at h1;exact absurd ⟨h1.1.1,h1.1.2⟩ he
theorem firstDifferenceS (xs ys:List Ev) (hl:xs.length≤mx) (hlen:xs.length=ys.length):DC Try.prog 113 [.c (trD xs),.c (trD ys)] [] (fun r h=>r=DI .i64 (fdif xs ys 0)∧h=[]):=by
  have hmx:=mx_eq
  have ret:∀ (n:Int) (hp:Hp),n=fdif xs ys 0→RetOb 0 (fun r h=>r=DI .i64 (fdif xs ys 0)∧h=[]) (DI .i64 n) hp:=fun n hp h=>RetOb.plain (d:=DI .i64 _) ⟨by rw [h],rfl⟩ rfl
  generalize hR:(fun (r:D) (h:List (Option (List C)))=>r=DI .i64 (fdif xs ys 0)∧h=[])=R at ret ⊢
  clear hR
  refine dcZ Try.func113 ?_
  simp only [go_sem,trD]
  ((try (refine drvZ Try.func113 ?_;simp only [go_sem,trD]));((with_reducible and_intros)<;>try exact sd))
  refine Go.loopQ (fun i:Nat=>[(0,.c (trD xs)),(1,.c (trD ys)),(5,DI .i64 i)]) (fun _=>[]) 1024 (fun i=>i≤xs.length∧fdif (xs.drop i) (ys.drop i) i=fdif xs ys 0) (fun i=>xs.length - i) ?_ 0 some [] _ ⟨Nat.zero_le _,rfl⟩ ?_
  · intro i hi again
    have hI:=hi.2
    rcases Nat.lt_or_ge i xs.length with hlt | hge
    · have hlt2:i<ys.length:=by omega
      obtain ⟨x,hxx⟩:∃ x,xs[i]? = some x:=⟨xs[i],by simp [hlt]⟩
      obtain ⟨y,hyy⟩:∃ y,ys[i]? = some y:=⟨ys[i],by simp [hlt2]⟩
      rw [List.drop_eq_getElem_cons hlt,List.drop_eq_getElem_cons hlt2,(List.getElem?_eq_some_iff.1 hxx).2,(List.getElem?_eq_some_iff.1 hyy).2] at hI
      obtain ⟨xk,xv⟩:=x
      obtain ⟨yk,yv⟩:=y
      simp only [fdif] at hI
      by_cases he:xk=yk∧xv=yv
      · obtain ⟨rfl,rfl⟩:=he
        rw [if_pos ⟨rfl,rfl⟩] at hI
        refine drvL Try.func113 ?_
        simp only [go_sem,trD,hlt,hlt2]
        iterate 4 ((try (refine drvZ Try.func113 ?_;simp only [go_sem,trD,hlt,hlt2,hxx,hyy,Ev.cells]));((with_reducible and_intros)<;>try exact sd))
        refine again (i+1) some [] _ ⟨hlt,by rw [← hI];rfl⟩ (by omega) ?_
        simp only [go_sem,TmOK,DM,DMs,CM,CMs,forall_eq,exists_eq_left,Mq,HpOK,LowOK,trD]
        try simp
      · rw [if_neg he] at hI
        have hd:(decide (xk=yk) && decide (xv=yv))=false:=by
          cases h1:decide (xk=yk) with
          | false=>rfl
          | true =>
            cases h2:decide (xv=yv) with
            | false=>rfl
            | true=>exact absurd ⟨of_decide_eq_true h1,of_decide_eq_true h2⟩ he
        refine drvL Try.func113 ?_
        simp only [go_sem,trD,hlt,hlt2]
        iterate 4 ((try (refine drvZ Try.func113 ?_;simp only [go_sem,trD,hlt,hlt2,hxx,hyy,Ev.cells,hd]));((with_reducible and_intros)<;>try exact sd))
        exact ret _ _ hI
    · have hn:¬ i<xs.length:=by omega
      have hn2:¬ xs.length<ys.length:=by omega
      have hn3:¬ ys.length<xs.length:=by omega
      refine drvL Try.func113 ?_
      simp only [go_sem,trD,hn,hn2,hn3]
      iterate 3 ((try (refine drvZ Try.func113 ?_;simp only [go_sem,trD,hn,hn2,hn3]));((with_reducible and_intros)<;>try exact sd))
      have e1:xs.drop i=[]:=List.drop_of_length_le (by omega)
      have e2:ys.drop i=[]:=List.drop_of_length_le (by omega)
      exact ret _ _ (by rw [← hI,e1,e2];rfl)
  · simp only [go_sem,TmOK,DM,DMs,CM,CMs,forall_eq,exists_eq_left,Mq,HpOK,LowOK,trD]
    try simp
theorem traceSameS (xs ys:List Ev) (hl:xs.length≤mx):DC Try.prog 73 [.c (trD xs),.c (trD ys)] [] (fun r h=>r=DB (trSame xs ys)∧h=[]):=by
  have hmx:=mx_eq
  have ret:∀ (b:Bool) (hp:Hp),b=trSame xs ys→RetOb 0 (fun r h=>r=DB (trSame xs ys)∧h=[]) (DB b) hp:=fun b hp h=>RetOb.plain (d:=DB _) ⟨by rw [h],rfl⟩ rfl
  generalize hR:(fun (r:D) (h:List (Option (List C)))=>r=DB (trSame xs ys)∧h=[])=R at ret ⊢
  clear hR
  by_cases hlen:xs.length=ys.length
  · have hfd:=firstDifferenceS xs ys hl hlen
    have hfi:=fdif_iff xs ys 0 (by omega)
    generalize fdif xs ys 0=n at *
    have he:((xs.length:Int)=(ys.length:Int))=True:=eq_true (by omega)
    have hb:((xs.length:Int) == (ys.length:Int))=true:=by simp [hlen]
    refine dcZ Try.func73 ?_
    simp only [go_sem,trD,he,hb]
    iterate 3 ((try (refine drvZ Try.func73 ?_;simp only [go_sem,trD,he,hb]));((with_reducible and_intros)<;>try exact sd);(try first | refine XK.p hfd ok113 ?_ | refine XK.gp hfd ok113 ?_))
    refine ret _ _ ?_
    rw [Bool.eq_iff_iff,trSame_iff,← hfi]
    simp
  · have he:((xs.length:Int)=(ys.length:Int))=False:=eq_false (by omega)
    have hb:((xs.length:Int) == (ys.length:Int))=false:=by simp;omega
    refine dcZ Try.func73 ?_
    simp only [go_sem,trD,he,hb]
    iterate 3 ((try (refine drvZ Try.func73 ?_;simp only [go_sem,trD,he,hb]));((with_reducible and_intros)<;>try exact sd);(try first | refine XK.gs (DI .i64 0) ?_))
    refine ret _ _ ?_
    cases h:trSame xs ys with
    | false=>rfl
    | true=>exact absurd (by rw [(trSame_iff xs ys).1 h]) hlen
end Go.Proofs.Ytddanjifhdaebaa.CtR
namespace Go.Proofs.Ytddanjifhdaebaa.CtR
variable [Go.CT.Yn]
open Go Go.CT CtF
def idxT (t : List Ev) : List (List Ev) → Nat
  | []=>0
  | a :: r=>if trSame a t then 0 else idxT t r+1
theorem idxT_le (t : List Ev) : ∀ l : List (List Ev), idxT t l ≤ l.length
  | []=>Nat.le_refl _
  | a :: r=>by
    have:=idxT_le t r
    simp only [idxT,List.length_cons];split<;>omega
theorem idxT_at (t : List Ev) : ∀ l : List (List Ev), idxT t l < l.length → l[idxT t l]? = some t
  | [],h=>by simp [idxT] at h
  | a :: r,h=>by
    simp only [idxT] at h ⊢
    cases hs:trSame a t with
    | true=>simp [(trSame_iff a t).1 hs]
    | false =>
      rw [hs] at h
      simp only [Bool.false_eq_true,if_false,List.length_cons] at h ⊢
      rw [List.getElem?_cons_succ]
      exact idxT_at t r (by omega)
theorem idxT_before (t : List Ev) : ∀ (l : List (List Ev)) (i : Nat) (a : List Ev), i < idxT t l → l[i]? = some a → trSame a t = false
  | [],i,a,h,_=>by simp [idxT] at h
  | x :: r,i,a,h,hi=>by
    simp only [idxT] at h
    cases hs:trSame x t with
    | true=>rw [hs] at h;simp at h
    | false =>
      rw [hs] at h
      simp only [Bool.false_eq_true,if_false] at h
      cases i with
      | zero=>simp at hi;rw [← hi];exact hs
      | succ i=>exact idxT_before t r i a (by omega) (by simpa using hi)
def lcS (T : Nat → List Ev) : Nat → List (List Ev) × List Nat
  | 0=>([],[])
  | n+1=>(if idxT (T n) (lcS T n).1=(lcS T n).1.length then (lcS T n).1++[T n] else (lcS T n).1,(lcS T n).2++[idxT (T n) (lcS T n).1])
theorem lcS_len (T : Nat → List Ev) : ∀ n, (lcS T n).1.length ≤ n ∧ (lcS T n).2.length = n
  | 0=>⟨Nat.le_refl _,rfl⟩
  | n+1=>by
    obtain ⟨h1,h2⟩:=lcS_len T n
    simp only [lcS]
    refine ⟨?_,by simp [h2]⟩
    split
    · simp;omega
    · omega
def leakT (p:Pg) (m:Mm) (v:Nat) (n:Nat):List Ev:=(runL 5 ⟨m.vals.set v n,m.arrays⟩ p.body).2
def lcP (p:Pg) (m:Mm) (v:Int):List Int :=
  if (progOK p && memOK p.vars p.arrays m)=true∧0≤v∧v<p.vars.length then (lcS (leakT p m v.toNat) 256).2.map (fun k:Nat=>(k:Int)) else []
end Go.Proofs.Ytddanjifhdaebaa.CtR
namespace Go.Proofs.Ytddanjifhdaebaa.CtD
open Go Go.CT CtF CtR
variable [Yn]
theorem lcS_small (T : Nat → List Ev) {b N : Nat} (h : ∀ i, i < N → (T i).length ≤ b) : ∀ n, n ≤ N → ∀ t ∈ (lcS T n).1, t.length ≤ b
  | 0,_,t,ht=>by simp [lcS] at ht
  | n+1,hn,t,ht=>by
    have ih:=lcS_small T h n (by omega)
    simp only [lcS] at ht
    split at ht
    · rcases List.mem_append.1 ht with h1 | h1
      · exact ih t h1
      · simp at h1;rw [h1];exact h n (by omega)
    · exact ih t ht
def trsC (l:List (List Ev)):List C:=l.map trD
theorem trsC_len (l:List (List Ev)):(trsC l).length=l.length:=by simp [trsC]
theorem trsC_kf (l:List (List Ev)):∀ c ∈ trsC l,kf c=true:=fun c hc=>by
  obtain ⟨t,_,rfl⟩:=List.mem_map.1 hc;rfl
def ko (l:List Nat):List Int:=l.map (fun k:Nat=>(k:Int))
theorem ko_len (l:List Nat):(ko l).length=l.length:=by simp [ko]
theorem ko_snoc (l:List Nat) (k:Nat):(ko (l++[k])).map I64=(ko l).map I64++[I64 (k:Int)]:=by simp [ko]
theorem trsC_snoc (l:List (List Ev)) (t:List Ev):trsC (l++[t])=trsC l++[trD t]:=by simp [trsC]
theorem leakClassesSO (p : Pg) (m : Mm) (v : Int) (hl : p.vars.length ≤ mx) (hl2 : p.arrays.length ≤ mx) (hb : lsize 5 p.body ≤ 1099511627776) : DC Try.prog 56 [.agg p.cells, .agg m.cells, DI .i64 v] []
    (fun r h=>r = .c (.msl 0 1 0 (lcP p m v).length)∧h=[some ((lcP p m v).map I64)]):=by
  have hmx:=mx_eq
  have hv:=memoryValidS p m hl hl2 hb
  have hmf:=@memFits_of _ p m
  have hbo:=@body_of _ p
  have ret0:∀ hp:Hp,∀ K,hp K=some (some [])→lcP p m v=[]→RetOb 0 (fun r h=>r = .c (.msl 0 1 0 (lcP p m v).length)∧h=[some ((lcP p m v).map I64)]) (.c (.msl K 1 0 0)) hp:=fun hp K hK he=>by
    rw [he]
    exact intsKeep (L:=[]) hK rfl
  cases hq:(progOK p && memOK p.vars p.arrays m) with
  | false =>
    rw [hq] at hv
    have he:lcP p m v=[]:=by unfold lcP;rw [if_neg (by rw [hq];simp)]
    generalize hR:(fun (r:D) (h:List (Option (List C)))=>r = .c (.msl 0 1 0 (lcP p m v).length)∧h=[some ((lcP p m v).map I64)])=R at ret0 ⊢
    obtain ⟨vs,ar,bd⟩:=p
    obtain ⟨va,arr⟩:=m
    refine dcZ Try.func56 ?_
    simp only [go_sem,Mm.cells]
    iterate 6 ((try (refine drvZ Try.func56 ?_;simp only [go_sem,Mm.cells]));((with_reducible and_intros)<;>try exact sd);(try first | refine XK.p hv ok115 ?_ | refine XK.gp hv ok115 ?_))
    exact ret0 _ _ (by simp [upd]) he
  | true =>
    rw [hq] at hv
    by_cases hvr:0≤v∧v<p.vars.length
    · have he:lcP p m v=(lcS (leakT p m v.toNat) 256).2.map (fun k:Nat=>(k:Int)):=by unfold lcP;rw [if_pos ⟨hq,hvr⟩]
      rw [he]
      have hm:=hmf hq
      have hpo:progOK p=true:=by simp only [Bool.and_eq_true] at hq;exact hq.1
      have hbd:=hbo hpo
      have hcp:=l3Copy m (by have:=hm.nv;have:=hm.nv12;omega) (by have:=hm.na;have:=hm.na2;omega) (fun a ha=>(hm.arr a ha).1)
      unfold memB at hcp
      rw [hm.nv,hm.na] at hcp
      obtain ⟨w,rfl⟩:∃ w:Nat,v=(w:Int):=⟨v.toNat,by omega⟩
      have hwn:w<p.vars.length:=by omega
      have hg1:((w:Int)<0)=False:=eq_false (by omega)
      have hg2:((p.vars.length:Int)≤(w:Int))=False:=eq_false (by omega)
      have hmva:=hm.nv
      generalize hR:(fun (r:D) (h:List (Option (List C)))=>r = .c (.msl 0 1 0 (List.length _))∧h=[some (List.map I64 _)])=R
      simp only [Int.toNat_natCast] at hR ⊢
      clear ret0 hmf hbo
      have hmf2:∀ n:Nat,n<256→MemFits p ⟨m.vals.set w n,m.arrays⟩:=fun n hn=>fitsV hm w (by omega)
      have hrn:=fun (n:Nat) (hn:n<256)=>DC.nilLast (pre:=[.agg [.msl 0 1 0 p.vars.length,.msl 1 1 0 p.arrays.length],.c (.isl 11 (St1.cellsL p.body))]) (sz:=2) (h:=[some ((m.vals.set w n).map I64),some (hdr 2 3 p.arrays.length),some (blk0 m.arrays),some (blk1 m.arrays)]) (runSpec p 5 ⟨m.vals.set w n,m.arrays⟩ p.body [] (hmf2 n hn) hbd.1 (by rw [wt5];simp only [List.length_nil];omega))
      have hlt:∀ n:Nat,n<256→(leakT p m w n).length≤1000000:=fun n hn=>by
        have h2:=(runL_ok (hmf2 n hn) hbd.1).2
        rw [wt5] at h2
        have:=hbd.2
        unfold leakT
        omega
      have hT:∀ n:Nat,(runL 5 ⟨m.vals.set w n,m.arrays⟩ p.body).2=leakT p m w n:=fun n=>rfl
      generalize leakT p m w=T at *
      obtain ⟨vs,ar,bd⟩:=p
      obtain ⟨va,arr⟩:=m
      refine dcZ Try.func56 ?_
      simp only [go_sem,Mm.cells]
      iterate 8 ((try (refine drvZ Try.func56 ?_;simp only [go_sem,Mm.cells,hg1,hg2]));((with_reducible and_intros)<;>try exact sd);(try first | refine XK.p hv ok115 ?_ | refine XK.gp hv ok115 ?_))
      refine Go.loopQ (fun n : Nat => [(2, DI .i64 w), (3, .c (.ptr 0 0)), (4, .c (.ptr 64 0)), (7, .c (.msl 192 1 0 n)), (8, .c (.msl 1280 1 0 (lcS T n).1.length)), (9, DI .i64 n)])
        (fun n=>[(0,some (Pg.cells ⟨vs,ar,bd⟩)),(64,some (Mm.cells ⟨va,arr⟩)),(192,some ((ko (lcS T n).2).map I64)),(1280,some (trsC (lcS T n).1))])
        4096 (fun n=>n≤256) (fun n=>256 - n) ?_ 0 some [] _ (Nat.zero_le _) ?_
      · intro n hn again
        obtain ⟨hl1,hl2⟩:=lcS_len T n
        rcases Nat.lt_or_ge n 256 with hlt2 | hge
        · have hz:((n:Int)≤255)=True:=eq_true (by omega)
          have hsucc:lcS T (n+1)=(if idxT (T n) (lcS T n).1=(lcS T n).1.length then (lcS T n).1++[T n] else (lcS T n).1,(lcS T n).2++[idxT (T n) (lcS T n).1]):=rfl
          have hrn:=hrn n hlt2
          have hTn:=hT n
          have hTl:=hlt n hlt2
          have hset:(va.map I64).set w (.v (.int .i64 n))=(va.set w n).map I64:=by rw [List.map_set]
          have hwv:w<va.length:=by simp only at hmva hwn;omega
          have htrs:=lcS_small T hlt n hn
          generalize (lcS T n).1=trs at *
          generalize (lcS T n).2=out at *
          have hkl:=ko_len out
          have htrl:∀ t ∈ trs,t.length≤mx:=fun t ht=>by
            have:=htrs t ht
            omega
          have htl:=trsC_len trs
          refine drvL Try.func56 ?_
          simp only [go_sem,Mm.cells,hz]
          iterate 2 ((try (refine drvZ Try.func56 ?_;simp only [go_sem,Mm.cells,hz]));((with_reducible and_intros)<;>try exact sd))
          refine XK.callG [] hcp ok116 (fun i' x h=>by simp at h) (hbT ()) (fun d h' ⟨_,e⟩=>by subst e;simp) ?_
          rintro _ _ ⟨rfl,rfl⟩ _
          iterate 4 ((try (refine drvZ Try.func56 ?_;simp only [go_sem,Mm.cells,renCs_I,renCs_hdr,renCs_b0,renCs_b1,renCs_tr,hwv,hset]));((with_reducible and_intros)<;>try exact sd))
          refine XK.callG [4288,4289,4290,4291] hrn ok117 (hhp4 (by simp only [Option.map_some,renCs_I];rfl) (by simp [hpL,upd,renCs_hdr,rk0]) (by simp [hpL,upd,renCs_b0]) (by simp [hpL,upd,renCs_b1])) (hbT ()) (fun d h' ⟨_,e⟩=>by subst e;simp) ?_
          rintro _ _ ⟨rfl,rfl⟩ _
          rw [List.nil_append,hTn]
          iterate 2 ((try (refine drvZ Try.func56 ?_;simp only [go_sem,Mm.cells,renCs_I,renCs_hdr,renCs_b0,renCs_b1,renCs_tr]));((with_reducible and_intros)<;>try exact sd))
          have hile:=idxT_le (T n) trs
          have hiat:=idxT_at (T n) trs
          have hibf:=idxT_before (T n) trs
          clear hcp hrn
          refine Go.loopQ (fun k : Nat => [(2, DI .i64 w), (3, .c (.ptr 0 0)), (4, .c (.ptr 64 0)), (7, .c (.msl 192 1 0 n)), (8, .c (.msl 1280 1 0 trs.length)), (9, DI .i64 n), (11, .c (trD (T n))), (12, DI .i64 k)])
            (fun k=>[(0,some (Pg.cells ⟨vs,ar,bd⟩)),(64,some (Mm.cells ⟨va,arr⟩)),(192,some ((ko out).map I64)),(1280,some (trsC trs))])
            8192 (fun k=>k≤idxT (T n) trs) (fun k=>idxT (T n) trs - k) ?_ 0 some [5057] _ (Nat.zero_le _) ?_
          · intro k hk again2
            rcases Nat.lt_or_ge k (idxT (T n) trs) with hkl | hkg
            · obtain ⟨t,ht⟩:∃ t,trs[k]? = some t:=⟨trs[k]'(by omega),by simp⟩
              have htk:(trsC trs)[k]? = some (trD t):=by unfold trsC;rw [List.getElem?_map,ht];rfl
              have hts:=fun h=>traceSameS t (T n) h
              rw [hibf k t hkl ht] at hts
              have htm:t ∈ trs:=List.mem_of_getElem? ht
              have hts:=hts (htrl t htm)
              have hkt:k<trs.length:=by omega
              refine drvL Try.func56 ?_
              simp only [go_sem,Mm.cells,hkt,htl,htk,trD]
              iterate 3 ((try (refine drvZ Try.func56 ?_;simp only [go_sem,Mm.cells,hkt,htl,htk,trD]));((with_reducible and_intros)<;>try exact sd);(try first | refine XK.p hts ok73 ?_ | refine XK.gp hts ok73 ?_))
              refine again2 (k+1) some [] _ hkl (by omega) ?_
              simp only [go_sem,TmOK,DM,DMs,CM,CMs,forall_eq,exists_eq_left,Mq,HpOK,LowOK,Mm.cells,trD]
              simp
              exact ⟨CMs.kf (kf_I _),CMs.kf (trsC_kf _)⟩
            · have hke:k=idxT (T n) trs:=by omega
              by_cases hen:idxT (T n) trs=trs.length
              · rw [if_pos hen] at hsucc
                have hkn:¬ k<trs.length:=by omega
                have hkq:((k:Int)=(trs.length:Int))=True:=eq_true (by omega)
                have hkb:((k:Int) == (trs.length:Int))=true:=by simp;omega
                have hxn:(trsC trs)[k]? = none:=List.getElem?_eq_none (by rw [htl];omega)
                have hs1:(lcS T (n+1)).1=trs++[T n]:=by rw [hsucc]
                have hs2:(lcS T (n+1)).2=out++[k]:=by rw [hsucc,← hke]
                refine drvL Try.func56 ?_
                simp only [go_sem,Mm.cells,hkn,htl,hxn,trD]
                iterate 6 ((try (refine drvZ Try.func56 ?_;simp only [go_sem,Mm.cells,hkn,htl,hxn,trD,hkq,hkb,hkl,hl2]));((with_reducible and_intros)<;>try exact sd);(try first | refine XK.gs (DB false) ?_))
                refine again (n+1) (fun j=>if j=192 then some 9792 else if j=1280 then some 9472 else some j) [] _ (by omega) (by omega) ?_
                simp only [go_sem,TmOK,DM,DMs,CM,CMs,forall_eq,exists_eq_left,Mq,HpOK,LowOK,Mm.cells,hs1,hs2,ko_snoc,trsC_snoc,trD,List.length_append]
                simp
                exact ⟨CMs.kf (kf_app (kf_I _) (by simp [kf])),CMs.kf (kf_app (trsC_kf _) (by simp [kf]))⟩
              · rw [if_neg hen] at hsucc
                have hklt:k<trs.length:=by omega
                have hkq:((k:Int)=(trs.length:Int))=False:=eq_false (by omega)
                have hkb:((k:Int) == (trs.length:Int))=false:=by simp;omega
                have ht:=hiat (by omega)
                rw [← hke] at ht
                have htk:(trsC trs)[k]? = some (trD (T n)):=by unfold trsC;rw [List.getElem?_map,ht];rfl
                have hts:=traceSameS (T n) (T n) (by omega)
                rw [(trSame_iff _ _).2 rfl] at hts
                have hs1:(lcS T (n+1)).1=trs:=by rw [hsucc]
                have hs2:(lcS T (n+1)).2=out++[k]:=by rw [hsucc,← hke]
                refine drvL Try.func56 ?_
                simp only [go_sem,Mm.cells,hklt,htl,htk,trD]
                iterate 6 ((try (refine drvZ Try.func56 ?_;simp only [go_sem,Mm.cells,hklt,htl,htk,trD,hkq,hkb,hkl,hl2]));((with_reducible and_intros)<;>try exact sd);(try first | refine XK.p hts ok73 ?_ | refine XK.gp hts ok73 ?_))
                refine again (n+1) (fun j=>if j=192 then some 9472 else some j) [] _ (by omega) (by omega) ?_
                simp only [go_sem,TmOK,DM,DMs,CM,CMs,forall_eq,exists_eq_left,Mq,HpOK,LowOK,Mm.cells,hs1,hs2,ko_snoc,trsC_snoc,trD,List.length_append]
                simp
                exact ⟨CMs.kf (kf_app (kf_I _) (by simp [kf])),CMs.kf (trsC_kf _)⟩
          · simp only [go_sem,TmOK,DM,DMs,CM,CMs,forall_eq,exists_eq_left,Mq,HpOK,LowOK,Mm.cells,trD]
            simp
            refine ⟨⟨?_,fun e _=>rfl,fun e _ c hc=>?_⟩,CMs.kf (kf_I _),CMs.kf (trsC_kf _)⟩
            · simp [trC,List.flatMap]
            · simp [Ev.cells] at hc
              rcases hc with rfl | rfl<;>rfl
        · have hz:((n:Int)≤255)=False:=eq_false (by omega)
          obtain rfl:n=256:=by omega
          refine drvL Try.func56 ?_
          simp only [go_sem,Mm.cells,hz]
          iterate 2 ((try (refine drvZ Try.func56 ?_;simp only [go_sem,Mm.cells,hz]));((with_reducible and_intros)<;>try exact sd))
          rw [← hR]
          exact intsKeep (L:=ko (lcS T 256).2) (by simp [upd]) (by rw [ko_len,hl2])
      · simp only [go_sem,TmOK,DM,DMs,CM,CMs,forall_eq,exists_eq_left,Mq,HpOK,LowOK,Mm.cells,lcS,ko,trsC]
        simp
    · have he:lcP p m v=[]:=by unfold lcP;rw [if_neg (fun h=>hvr h.2)]
      generalize hR:(fun (r:D) (h:List (Option (List C)))=>r = .c (.msl 0 1 0 (lcP p m v).length)∧h=[some ((lcP p m v).map I64)])=R at ret0 ⊢
      obtain ⟨vs,ar,bd⟩:=p
      obtain ⟨va,arr⟩:=m
      simp only at hvr
      by_cases h0:v<0
      · have hg:(v<0)=True:=eq_true h0
        have hg2:((vs.length:Int)≤v)=False:=eq_false (by omega)
        refine dcZ Try.func56 ?_
        simp only [go_sem,Mm.cells]
        iterate 6 ((try (refine drvZ Try.func56 ?_;simp only [go_sem,Mm.cells,hg,hg2]));((with_reducible and_intros)<;>try exact sd);(try first | refine XK.p hv ok115 ?_ | refine XK.gp hv ok115 ?_))
        exact ret0 _ _ (by simp [upd]) he
      · have hg:(v<0)=False:=eq_false h0
        have hg2:((vs.length:Int)≤v)=True:=eq_true (by omega)
        refine dcZ Try.func56 ?_
        simp only [go_sem,Mm.cells]
        iterate 6 ((try (refine drvZ Try.func56 ?_;simp only [go_sem,Mm.cells,hg,hg2]));((with_reducible and_intros)<;>try exact sd);(try first | refine XK.p hv ok115 ?_ | refine XK.gp hv ok115 ?_))
        exact ret0 _ _ (by simp [upd]) he
end Go.Proofs.Ytddanjifhdaebaa.CtD
