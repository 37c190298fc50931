/- Contracts of functions of the program, one behind the other, as plain data: what each call returns and which blocks it leaves. -/
import Derived.Test.YtfkhahkclgejnaaGreatDoorHFacts
import Derived.Test.YtfkhahkclgejnaaGreatDoorHXy
import Derived.Test.YtfkhahkclgejnaaGreatDoorHAj
set_option linter.unusedVariables false
set_option linter.unusedSimpArgs false
set_option linter.unusedSectionVars false
set_option maxHeartbeats 16000000
set_option maxRecDepth 100000
namespace Go.Proofs.YtfkhahkclgejnaaGreatDoor.CtR
open Go Go.CT CtF
variable [Yn]
def arity (k:Int):Int:=if k=1∨k=2 then 0 else if k=3 then 1 else if 4≤k∧k≤10 then 2 else if k=11 then 3 else -1
theorem within (n lo hi:Int):DC Tryz.prog 39 [DI .i64 n,DI .i64 lo,DI .i64 hi] [] (fun d h=>d=DB (decide (lo≤n) && decide (n≤hi))∧h=[]):=by
  refine dc_of_go Tryz.func39 rfl (by simp) ?_
  refine drv_sound (n:=100) (rs:=_) Tryz.func39 mo rfl none _ _ ?_
  simp only [go_sem,Pg.cells,Ex.cells,isI,I64]
  repeat' (first | with_reducible apply And.intro | with_reducible intro _)
  all_goals first | omega | skip
  all_goals refine RetOb.plain (d:=DB _) ⟨?_,rfl⟩ rfl
  all_goals simp [DB]
theorem labelValidS (n:Int):DC Tryz.prog 64 [DI .i64 n] [] (fun d h=>d=DB (decide (0≤n) && decide (n≤3))∧h=[]):=by
  refine dc_of_go Tryz.func64 rfl (by simp) ?_
  refine drv_sound (n:=100) (rs:=_) Tryz.func64 mo rfl none _ _ ?_
  simp only [go_sem,Pg.cells,Ex.cells,isI,I64]
  repeat' (first | with_reducible apply And.intro | with_reducible intro _)
  all_goals first | omega | skip
  all_goals refine RetOb.plain (d:=DB _) ⟨?_,rfl⟩ rfl
  all_goals simp [DB]
def limit (p:Pg) (k:Int):Int:=if k=1 then 256 else if k=2 then p.vars.length else if k=3 then p.arrays.length else 1
def atom (e:Ex):Bool:=e.kind == 1 || e.kind == 2
theorem labelValidI (n:Int):DC Tryz.prog 96 [DI .i64 n] [] (fun d h=>d=DB (decide (0≤n) && decide (n≤3))∧h=[]):=by
  refine dc_of_go Tryz.func96 rfl (by simp) ?_
  refine drv_sound (n:=100) (rs:=_) Tryz.func96 mo rfl none _ _ ?_
  simp only [go_sem]
  refine XK.plain (within n 0 3) ok39 ?_
  refine drv_sound (n:=100) (rs:=_) Tryz.func96 mo rfl (some _) _ _ ?_
  simp only [go_sem]
  exact RetOb.plain (d:=DB _) ⟨rfl,rfl⟩ rfl
theorem areLabels1 (n:Int):DC Tryz.prog 95 [DI .i64 n] [] (fun d h=>d=DB (!(decide (0≤n) && decide (n≤3)))∧h=[]):=by
  refine dc_of_go Tryz.func95 rfl (by simp) ?_
  refine drv_sound (n:=100) (rs:=_) Tryz.func95 mo rfl none _ _ ?_
  simp only [go_sem]
  refine XK.plain (labelValidI n) ok96 ?_
  refine drv_sound (n:=100) (rs:=_) Tryz.func95 mo rfl (some _) _ _ ?_
  simp only [go_sem]
  exact RetOb.plain (d:=DB _) ⟨rfl,rfl⟩ rfl
def none0 (e:Ex):Bool:=e.kind == 0 && e.value == 0 && e.kids.isEmpty
def idxF (q : Int → Bool) : List Int → Int → Int
  | [],_ => -1
  | x :: r,i=>if q x then i else idxF q r (i+1)
theorem indexFunc (g : Nat) (q : Int → Bool) (xs : List Int) (hl : xs.length ≤ mx) (hok : fnOK Tryz.prog g = true) (hg : ∀ n ∈ xs, DC Tryz.prog g [DI .i64 n] [] (fun d h => d = DB (q n) ∧ h = [])) :
    DC Tryz.prog 112 [ints xs,.c (.clo g [])] [] (fun d h=>d=DI .i64 (idxF q xs 0)∧h=[]):=by
  have hmx:=mx_eq
  refine dc_of_go Tryz.func112 rfl (by simp) ?_
  refine drv_sound (n:=100) (rs:=_) Tryz.func112 mo rfl none _ _ ?_
  simp only [go_sem,ints]
  refine Go.loopL (fun i:Nat=>[(0,ints xs),(1,.c (.clo g [])),(7,DI .i64 xs.length),(8,DI .i64 i)]) (fun _=>[]) 1024 (fun i=>i≤xs.length∧idxF q (xs.drop i) i=idxF q xs 0) (fun i=>xs.length - i) ?_ 0 some [] _ ⟨Nat.zero_le _,rfl⟩ ?_
  · intro i hi again
    refine drv_sound (n:=100) (rs:=_) Tryz.func112 mo rfl none _ _ ?_
    rcases Nat.lt_or_ge i xs.length with hlt | hge
    · obtain ⟨x,hx⟩:∃ x,xs[i]? = some x:=⟨xs[i],by simp [hlt]⟩
      have hmem:x ∈ xs:=List.mem_of_getElem? hx
      have hdrop:xs.drop i=x :: xs.drop (i+1):=by
        obtain ⟨_,e⟩:=List.getElem?_eq_some_iff.1 hx
        rw [List.drop_eq_getElem_cons hlt,e]
      have hI:=hi.2
      rw [hdrop] at hI
      simp only [go_sem,ints,hx]
      refine ⟨fun _=>?_,fun h=>by omega⟩
      refine XK.plain (hg x hmem) hok ?_
      refine drv_sound (n:=100) (rs:=_) Tryz.func112 mo rfl (some _) _ _ ?_
      simp only [go_sem,ints]
      refine ⟨fun hq=>?_,fun hq=>⟨by simp only [InK];omega,?_⟩⟩
      · refine RetOb.plain (d:=DI .i64 _) ⟨?_,rfl⟩ rfl
        rw [← hI];simp [idxF,hq,DI]
      · refine again (i+1) some [] _ ⟨by omega,?_⟩ (by omega) (Mt.slots ?_)
        · rw [← hI];simp [idxF,hq]
        · simp only [go_sem,TmOK,DM,DMs,CM,CMs,forall_eq,exists_eq_left,ints]
    · simp only [go_sem,ints]
      refine ⟨fun h=>by omega,fun _=>?_⟩
      refine RetOb.plain (d:=DI .i64 _) ⟨?_,rfl⟩ rfl
      rw [← hi.2,List.drop_of_length_le hge];rfl
  · refine Mt.slots ?_
    simp only [go_sem,TmOK,DM,DMs,CM,CMs,forall_eq,exists_eq_left,ints]
theorem idxF_any (q : Int → Bool) : ∀ (xs : List Int) (i : Int), 0 ≤ i → decide (0 ≤ idxF q xs i) = xs.any q
  | [],i,_=>by simp [idxF]
  | x :: r,i,h=>by
    unfold idxF
    by_cases hq:q x=true
    · simp [hq,h]
    · simp only [hq,Bool.false_eq_true,if_false,List.any_cons,Bool.not_eq_true] at *
      rw [idxF_any q r (i+1) (by omega)];simp [hq]
theorem containsFunc (g : Nat) (q : Int → Bool) (xs : List Int) (hl : xs.length ≤ mx) (hok : fnOK Tryz.prog g = true) (hg : ∀ n ∈ xs, DC Tryz.prog g [DI .i64 n] [] (fun d h => d = DB (q n) ∧ h = [])) :
    DC Tryz.prog 94 [ints xs,.c (.clo g [])] [] (fun d h=>d=DB (xs.any q)∧h=[]):=by
  refine dc_of_go Tryz.func94 rfl (by simp) ?_
  refine drv_sound (n:=100) (rs:=_) Tryz.func94 mo rfl none _ _ ?_
  simp only [go_sem,ints]
  refine XK.plain (indexFunc g q xs hl hok hg) ok112 ?_
  refine drv_sound (n:=100) (rs:=_) Tryz.func94 mo rfl (some _) _ _ ?_
  simp only [go_sem,ints]
  refine RetOb.plain (d:=DB _) ⟨?_,rfl⟩ rfl
  simp only [DB];rw [idxF_any q xs 0 (by omega)]
def labs (xs:List Int):Bool:=xs.all fun n=>decide (0≤n) && decide (n≤3)
theorem areLabels (xs:List Int) (hl:xs.length≤mx):DC Tryz.prog 68 [ints xs] [] (fun d h=>d=DB (labs xs)∧h=[]):=by
  refine dc_of_go Tryz.func68 rfl (by simp) ?_
  refine drv_sound (n:=100) (rs:=_) Tryz.func68 mo rfl none _ _ ?_
  simp only [go_sem,ints]
  refine XK.plain (containsFunc 95 _ xs hl ok95 fun n _=>areLabels1 n) ok94 ?_
  refine drv_sound (n:=100) (rs:=_) Tryz.func68 mo rfl (some _) _ _ ?_
  simp only [go_sem,ints]
  refine RetOb.plain (d:=DB _) ⟨?_,rfl⟩ rfl
  simp [DB,labs,List.all_eq_not_any_not]
def headsOK (vs ar:List Int):Bool:=decide (1≤(vs.length:Int)) && decide ((vs.length:Int)≤12) && decide ((ar.length:Int)≤2) && labs vs && labs ar
theorem declared (vs ar:List Int) (hl:vs.length≤mx) (hl2:ar.length≤mx):DC Tryz.prog 38 [ints vs,ints ar] [] (fun d h=>d=DB (headsOK vs ar)∧h=[]):=by
  have hmx:=mx_eq
  refine dc_of_go Tryz.func38 rfl (by simp) ?_
  refine drv_sound (n:=100) (rs:=_) Tryz.func38 mo rfl none _ _ ?_
  simp only [go_sem,ints]
  refine XK.plain (within vs.length 1 12) ok39 ?_
  refine drv_sound (n:=100) (rs:=_) Tryz.func38 mo rfl (some _) _ _ ?_
  simp only [go_sem,ints]
  refine XK.gplain 8 true ((decide (1≤(vs.length:Int)) && decide ((vs.length:Int)≤12)) && decide ((ar.length:Int)≤2)) (fun _=>areLabels vs hl) ok68 ?_ (hok:=by intro hx;simp [okP,getCall,Call.operands,evT,upd,peelB,DB,DI,cst,one] at hx ⊢;first | done | exact hx | (simp_all;done) | omega)
  refine drv_sound (n:=100) (rs:=_) Tryz.func38 mo rfl (some _) _ _ ?_
  simp only [go_sem,ints]
  refine XK.gplain 12 true (((decide (1≤(vs.length:Int)) && decide ((vs.length:Int)≤12)) && decide ((ar.length:Int)≤2)) && labs vs) (fun _=>areLabels ar hl2) ok68 ?_ (hok:=by intro hx;simp [okP,getCall,Call.operands,evT,upd,peelB,DB,DI,cst,one] at hx ⊢;first | done | exact hx | (simp_all;done) | omega)
  refine drv_sound (n:=100) (rs:=_) Tryz.func38 mo rfl (some _) _ _ ?_
  simp only [go_sem,ints]
  exact RetOb.plain (d:=DB _) ⟨by simp [DB,headsOK],rfl⟩ rfl
theorem notlab (x:Int) (hq:0≤x→3<x):(decide (0≤x) && decide (x≤3))=false:=by
  by_cases h:0≤x
  · have:=hq h;simp;omega
  · simp [h]
theorem l2Heads (p:Pg) (hl:p.vars.length≤mx) (hl2:p.arrays.length≤mx):DC Tryz.prog 43 [.agg p.cells] [] (fun d h=>d=DB (headsOK p.vars p.arrays)∧h=[]):=by
  have hmx:=mx_eq
  obtain ⟨vs,ar,bd⟩:=p
  simp only at hl hl2
  have stepL:∀ (xs:List Int) (i:Nat) (x:Int),xs[i]? = some x→labs (xs.drop i)=((decide (0≤x) && decide (x≤3)) && labs (xs.drop (i+1))):=fun xs i x hx=>by
    obtain ⟨hlt,e⟩:=List.getElem?_eq_some_iff.1 hx
    rw [List.drop_eq_getElem_cons hlt,e];simp [labs]
  have ret:∀ (b:Bool) (hp:Hp),b=headsOK vs ar→RetOb 0 (fun d h=>d=DB (headsOK vs ar)∧h=[]) (DB b) hp:=fun b hp h=>RetOb.plain (d:=DB _) ⟨by rw [h],rfl⟩ rfl
  refine dc_of_go Tryz.func43 rfl (by simp) ?_
  refine drv_sound (n:=100) (rs:=_) Tryz.func43 mo rfl none _ _ ?_
  simp only [go_sem,Pg.cells,isI,I64]
  have inv:∀ (q:Bool) (fz:List Nat) (tl:List (Nat × D)) (S:Ms),TmOK (hOf [(0,some [.isl 1 (vs.map fun n=>[.v (.int .i64 n)]),.isl 1 (ar.map fun n=>[.v (.int .i64 n)]),.isl 11 (St1.cellsL bd)])]) some S.hp fz S.tm tl→0 ∉ fz→S.hp 0=some (some [.isl 1 (vs.map fun n=>[.v (.int .i64 n)]),.isl 1 (ar.map fun n=>[.v (.int .i64 n)]),.isl 11 (St1.cellsL bd)])→Mt 0 some fz tl [(0,some [.isl 1 (vs.map fun n=>[.v (.int .i64 n)]),.isl 1 (ar.map fun n=>[.v (.int .i64 n)]),.isl 11 (St1.cellsL bd)])] S :=
    fun q fz tl S h1 h2 h3=>Mt.one h1 h2 h3 (by simp [kf])
  refine Go.loopL (fun i:Nat=>[(1,.c (.ptr 0 0)),(3,DI .i64 i)]) (fun _=>[(0,some [.isl 1 (vs.map fun n=>[.v (.int .i64 n)]),.isl 1 (ar.map fun n=>[.v (.int .i64 n)]),.isl 11 (St1.cellsL bd)])]) 1024 (fun i=>i≤vs.length∧labs (vs.drop i)=labs vs) (fun i=>vs.length - i) ?_ 0 some [] _ ⟨Nat.zero_le _,rfl⟩ ?_
  · intro i hi again
    refine drv_sound (n:=100) (rs:=_) Tryz.func43 mo rfl none _ _ ?_
    rcases Nat.lt_or_ge i vs.length with hlt | hge
    · obtain ⟨x,hx⟩:∃ x,vs[i]? = some x:=⟨vs[i],by simp [hlt]⟩
      have hI:=hi.2
      rw [stepL vs i x hx] at hI
      simp only [go_sem,hx,hlt]
      refine XK.plain (labelValidS x) ok64 ?_ (hbT ())
      refine drv_sound (n:=100) (rs:=_) Tryz.func43 mo rfl (some _) _ _ ?_
      simp only [go_sem]
      refine ⟨fun hq=>ret _ _ ?_,fun hq=>⟨by simp only [InK];omega,?_⟩⟩
      · rw [notlab x hq] at hI;simp [headsOK,← hI]
      · refine again (i+1) some [] _ ⟨by omega,?_⟩ (by omega) (inv true _ _ _ ?_ (by simp) (by rfl))
        · rw [← hI];simp [hq.1,hq.2]
        · simp only [go_sem,TmOK,DM,DMs,CM,CMs,forall_eq,exists_eq_left]
    · have hn:¬ i<vs.length:=by omega
      simp only [go_sem,hn]
      have hlv:labs vs=true:=by rw [← hi.2,List.drop_of_length_le hge];rfl
      refine Go.loopL (fun i:Nat=>[(1,.c (.ptr 0 0)),(4,DI .i64 i)]) (fun _=>[(0,some [.isl 1 (vs.map fun n=>[.v (.int .i64 n)]),.isl 1 (ar.map fun n=>[.v (.int .i64 n)]),.isl 11 (St1.cellsL bd)])]) 2048 (fun i=>i≤ar.length∧labs (ar.drop i)=labs ar) (fun i=>ar.length - i) ?_ 0 some [] _ ⟨Nat.zero_le _,rfl⟩ ?_
      · intro i hi again
        refine drv_sound (n:=100) (rs:=_) Tryz.func43 mo rfl none _ _ ?_
        rcases Nat.lt_or_ge i ar.length with hlt | hge
        · obtain ⟨x,hx⟩:∃ x,ar[i]? = some x:=⟨ar[i],by simp [hlt]⟩
          have hI:=hi.2
          rw [stepL ar i x hx] at hI
          simp only [go_sem,hx,hlt]
          refine XK.plain (labelValidS x) ok64 ?_ (hbT ())
          refine drv_sound (n:=100) (rs:=_) Tryz.func43 mo rfl (some _) _ _ ?_
          simp only [go_sem]
          refine ⟨fun hq=>ret _ _ ?_,fun hq=>⟨by simp only [InK];omega,?_⟩⟩
          · rw [notlab x hq] at hI;simp [headsOK,← hI]
          · refine again (i+1) some [] _ ⟨by omega,?_⟩ (by omega) (inv true _ _ _ ?_ (by simp) (by rfl))
            · rw [← hI];simp [hq.1,hq.2]
            · simp only [go_sem,TmOK,DM,DMs,CM,CMs,forall_eq,exists_eq_left]
        · have hn:¬ i<ar.length:=by omega
          have hla:labs ar=true:=by rw [← hi.2,List.drop_of_length_le hge];rfl
          simp only [go_sem,hn]
          refine ret _ _ ?_
          simp [headsOK,hlv,hla]
          first | done | omega
      · refine inv true _ _ _ ?_ (by simp) (by rfl)
        simp only [go_sem,TmOK,DM,DMs,CM,CMs,forall_eq,exists_eq_left]
  · refine inv true _ _ _ ?_ (by simp) (by rfl)
    simp only [go_sem,TmOK,DM,DMs,CM,CMs,forall_eq,exists_eq_left]
def headAtom : List Ex → Bool
  | []=>false
  | a :: _=>atom a
def fitsE (p:Pg) (k v:Int) (n:Nat):Bool:=decide ((n:Int)=arity k) && decide (0≤v) && decide (v<limit p k)
def shape (p : Pg) : Nat → Ex → Bool
  | 0,_=>false
  | d+1,.mk k v ks=>fitsE p k v ks.length && ks.all (shape p d) && (!(k == 3) || headAtom ks)
def cnt : Nat → Ex → Nat
  | 0,_=>1
  | d+1,.mk _ _ ks=>1+(ks.map (cnt d)).sum
def right (p:Pg) (e:Ex):Bool:=shape p 5 e && decide ((cnt 5 e:Int)≤15)
def blk (k:Int):Bool:=k == 3 || k == 4
def parts (k t:Int) (ix v:Ex) (c:Int) (bn en:Nat):Bool :=
  !(!(blk k) && (decide (0<(bn:Int)) || decide (0<(en:Int))) || blk k && t != 0) &&
  (if k=4 then (en:Int) == 0 && decide (1≤c) && decide (c≤3) && none0 ix && none0 v else c == 0 && (k == 2 || none0 ix))
def headOK (p:Pg) (k t:Int) (ix v:Ex) (c:Int) (bn en:Nat):Bool :=
  parts k t ix v c bn en && (if k = 1 ∨ k = 5 then decide (0 ≤ t) && decide (t < p.vars.length) && right p v
    else if k=2 then decide (0≤t) && decide (t<p.arrays.length) && right p ix && atom ix && right p v
    else if k=3 then right p v else k == 4)
theorem kf_I (xs:List Int):∀ c ∈ xs.map I64,kf c=true:=by
  intro c hc;obtain ⟨x,_,rfl⟩:=List.mem_map.1 hc;rfl
theorem flat_I (xs:List Int):(xs.map fun n=>[I64 n]).flatten=xs.map I64:=flat1 _ _
def hdr (b b' na:Nat):List C:=[C.msl b 1 0 4,.msl b' 1 0 4].take na
def blk0 (arr:List (List Int)):List C:=((arr[0]?).getD []).map I64
def blk1 (arr:List (List Int)):List C:=((arr[1]?).getD []).map I64
theorem CMs_I {hT hS:Hp} {r:Nat→Option Nat} {fz:List Nat} (xs:List Int):CMs hT r hS fz (xs.map I64) (xs.map I64)=True:=eq_true (CMs.kf (kf_I xs))
theorem flat_I' (xs:List Int):(xs.map fun n=>[C.v (.int .i64 n)]).flatten=xs.map I64:=flat1 _ _
theorem renCs_I (r:Nat→Nat) (xs:List Int):renCs r (xs.map I64)=xs.map I64:=by
  induction xs with
  | nil=>rfl
  | cons a t ih=>simp only [List.map_cons,renCs,ih];rfl
def trC (tr:List Ev):List C:=(tr.map Ev.cells).flatten
theorem trC_kf (tr:List Ev):∀ c ∈ trC tr,kf c=true:=by
  unfold trC
  induction tr with
  | nil=>simp
  | cons a t ih =>
    intro c hc
    rw [List.map_cons,List.flatten_cons,List.mem_append] at hc
    rcases hc with hc | hc
    · simp only [Ev.cells,List.mem_cons,List.not_mem_nil,or_false] at hc
      rcases hc with rfl | rfl<;>rfl
    · exact ih c hc
theorem CMs_tr {hT hS:Hp} {r:Nat→Option Nat} {fz:List Nat} (tr:List Ev):CMs hT r hS fz (trC tr) (trC tr)=True:=eq_true (CMs.kf (trC_kf tr))
structure MemFits (p : Pg) (m : Mm) : Prop where
  nv:m.vals.length=p.vars.length
  na:m.arrays.length=p.arrays.length
  nv12:1≤p.vars.length∧p.vars.length≤12
  na2:p.arrays.length≤2
  val:∀ x ∈ m.vals,0≤x∧x≤255
  arr:∀ a ∈ m.arrays,a.length=4∧∀ x ∈ a,0≤x∧x≤255
def trD (tr:List Ev):C := .isl 2 (tr.map Ev.cells)
theorem RetOb.step {m : Nat} {R : D → List (Option (List C)) → Prop} {d : D} {hp : Hp} (r : Nat → Option Nat) (fz : List Nat) (d' : D) (hl : List (Nat × Option (List C)))
    (hM:DM (hOf hl) r hp fz d' d∧HpOK (hOf hl) r hp fz hl∧LowOK r (hOf hl) m∧((hl.filterMap fun p=>p.2.map fun _=>p.1).filterMap r).Nodup) (hn:RetOb m R d' (hOf hl)):RetOb m R d hp:=fun I w s v H hv=>by
  have h:Mq m r fz [] hl ⟨fun _=>none,hp,0⟩:=⟨trivial,hM.2.1,hM.2.2.1,hM.2.2.2⟩
  obtain ⟨H',E'⟩:=h.subH.sim H
  obtain ⟨I',s',d2,h2,g1,g2,g3,g4,g5⟩:=hn _ w _ v H' (DM.rd H d' d hM.1 hv)
  exact ⟨I',s',d2,h2,g1,g2,g3,E'.trans g4,g5⟩
theorem RetOb.run {R : D → List (Option (List C)) → Prop} {p : Pg} {m : Mm} {tr : List Ev} {ok : Bool} {hp : Hp} {k0 k1 k2 k3 kt n : Nat} {cs : List C} (hm : MemFits p m) (hR : R (.tup [.agg m.cells, .c (trD tr), DB ok]) [])
    (h0:hp k0=some (some (m.vals.map I64))) (h1:hp k1=some (some (hdr k2 k3 p.arrays.length))) (h2:hp k2=some (some (blk0 m.arrays))) (h3:hp k3=some (some (blk1 m.arrays))) (ht:hp kt=some (some cs)) (hcs:cs=trC tr) (hn:n=tr.length)
    (hne:k0 ≠ k1∧k0 ≠ k2∧k0 ≠ k3∧k1 ≠ k2∧k1 ≠ k3∧k2 ≠ k3∧kt ≠ k0∧kt ≠ k1∧kt ≠ k2∧kt ≠ k3):RetOb 0 R (.tup [.agg [.msl k0 1 0 p.vars.length,.msl k1 1 0 p.arrays.length],.c (.msl kt 2 0 n),DB ok]) hp:=by
  subst hcs hn
  obtain ⟨va,arr⟩:=m
  have hnv:va.length=p.vars.length:=hm.nv
  have hna:arr.length=p.arrays.length:=hm.na
  have hna2:=hm.na2
  have h4:∀ a ∈ arr,a.length=4:=fun a ha=>(hm.arr a ha).1
  obtain ⟨n01,n02,n03,n12,n13,n23,nt0,nt1,nt2,nt3⟩:=hne
  rw [← hnv,← hna]
  rw [← hna] at h1 hna2
  refine RetOb.step (fun j=>if j=0 then some k0 else if j=1 then some k1 else if j=2 then some kt else none) [k2,k3] (.tup [.agg [.msl 0 1 0 va.length,.msl 1 1 0 arr.length],.c (.msl 2 2 0 tr.length),DB ok]) [(0,some (va.map I64)),(1,some (arr.map isI)),(2,some (trC tr))] ?_ ?_
  · have e3:∀ a:List Int,(a.map fun n=>[C.v (.int .i64 n)]).flatten=a.map I64:=fun a=>flat1 _ a
    match arr,hna2,h4,h1,h2,h3 with
    | [],_,h4,h1,h2,h3=>simp [DM,DMs,CM,CMs,HpOK,LowOK,hOf,upd,h0,ht,CMs_I,CMs_tr,h1,hdr,n01,n02,n03,n12,n13,n23,nt0,nt1,nt2,nt3,Ne.symm n01,Ne.symm nt0,Ne.symm nt1,Ne.symm n23]
    | [a],_,h4,h1,h2,h3 =>
      have ha:=h4 a (by simp)
      simp [DM,DMs,CM,CMs,HpOK,LowOK,hOf,upd,h0,ht,CMs_I,CMs_tr,h1,h2,hdr,n01,n02,n03,n12,n13,n23,nt0,nt1,nt2,nt3,Ne.symm n01,Ne.symm nt0,Ne.symm nt1,Ne.symm n23,e3,isI,ha,blk0,kf]
    | [a,b],_,h4,h1,h2,h3 =>
      have ha:=h4 a (by simp)
      have hb:=h4 b (by simp)
      simp [DM,DMs,CM,CMs,HpOK,LowOK,hOf,upd,h0,ht,CMs_I,CMs_tr,h1,h2,h3,hdr,n01,n02,n03,n12,n13,n23,nt0,nt1,nt2,nt3,Ne.symm n01,Ne.symm nt0,Ne.symm nt1,Ne.symm n23,e3,isI,ha,hb,blk0,blk1,kf]
  · refine RetOb.ofQ (fun _=>none) [0,1,2] _ [] ⟨?_,trivial,trivial,by simp [enumL]⟩ hR (Nat.zero_le _)
    have e4:∀ l:List (List Int),(l.map fun a=>[C.isl 1 (a.map fun n=>[I64 n])]).flatten=l.map isI:=fun l=>flat1 _ l
    have e5:(tr.map Ev.cells).flatten=trC tr:=rfl
    simp [DM,DMs,CM,CMs,hOf,upd,Mm.cells,isI,trD,flat_I,kf,e5]
    exact ⟨(flat1 isI arr).symm,fun a _=>rfl,fun a _ c hc=>by
      simp only [Ev.cells,List.mem_cons,List.not_mem_nil,or_false] at hc
      rcases hc with rfl | rfl<;>rfl⟩
end Go.Proofs.YtfkhahkclgejnaaGreatDoor.CtR
namespace Go.Proofs.YtfkhahkclgejnaaGreatDoor.CtD
open Go Go.CT CtF
variable [Yn]
def rdr (bs:List Int) (p:Int):List C:=[.isl 1 (bs.map fun n=>[.v (.int .u8 n)]),.v (.int .i64 p)]
theorem pick (bs : List Int) (p : Nat) (n : Int) (hb : Fits .u8 bs) (hl : bs.length ≤ 2000) (h1 : p ≤ 1099511627776) (hn : InK .i64 n) : DC Tryz.prog 74 [.c (.ptr 0 0), DI .i64 n] [some (rdr bs p)]
    (fun d h=>∃ v:Int,d=DI .i64 v∧((n<1∨bs=[])∧v=0∨0≤v∧v<n)∧h=[some (rdr bs ((p+1:Nat):Int))]):=by
  have hmx:=mx_eq
  refine dc_of_go Tryz.func74 rfl (by simp) ?_
  have ret:∀ (v:Int) (hp:Hp),((n<1∨bs=[])∧v=0∨0≤v∧v<n)→hp 0=some (some [.isl 1 (bs.map fun n=>[.v (.int .u8 n)]),.v (.int .i64 (p+1))]) →
      RetOb 1 (fun d h=>∃ v:Int,d = .c (.v (.int .i64 v))∧((n<1∨bs=[])∧v=0∨0≤v∧v<n)∧h=[some [.isl 1 (bs.map fun n=>[.v (.int .u8 n)]),.v (.int .i64 (p+1))]]) (.c (.v (.int .i64 v))) hp:=fun v hp hv hhp=>by
    refine RetOb.of (fun k=>if k=0 then some 0 else none) [] (DI .i64 v) [_] (subH_one' rfl hhp (by simp [kf]) (by simp)) (by simp [DM,CM,DI]) ⟨v,rfl,hv,rfl⟩ (by simp)
  refine drv_sound (n:=37) (rs:=_) Tryz.func74 mo rfl none _ _ ?_
  simp (maxSteps:=10000000) (maxDischargeDepth:=300) only [go_sem,rdr,List.length_eq_zero_iff,Int.natCast_eq_zero]
  refine ⟨by simp only [InK];omega,fun h=>ret _ _ (.inl ⟨h,rfl⟩) (upd_same _ _ _),fun h=>?_⟩
  have hbl:0<bs.length:=List.length_pos_iff.2 h.2
  have hby:∀ {j:Nat} {x:Int},bs[j]? = some x→0≤x∧x≤255:=fun {j x} hx=>by
    obtain ⟨hlt,e⟩:=List.getElem?_eq_some_iff.1 hx
    exact hb x (e ▸ List.getElem_mem hlt)
  have hrem:∀ a:Int,0≤a→0≤a % n∧a % n<n:=fun a _=>⟨Int.emod_nonneg _ (by omega),Int.emod_lt_of_pos _ (by omega)⟩
  refine drv_sound (n:=100) (rs:=_) Tryz.func74 mo rfl (some _) _ _ ?_
  rcases Nat.lt_or_ge p bs.length with hlt | hge
  · obtain ⟨x,hx⟩:∃ x,bs[p]? = some x:=⟨bs[p],by simp⟩
    have hxb:=hby hx
    have hnlt:¬ bs.length≤p:=by omega
    simp (maxSteps:=10000000) (maxDischargeDepth:=300) only [go_sem,hx,hlt,hnlt]
    exact ⟨by simp only [InK];omega,by simp only [InK];omega,by omega,ret _ _ (.inr (hrem x hxb.1)) (upd_same _ _ _)⟩
  · have hnlt:¬ p<bs.length:=by omega
    have hm1:((p:Int) % bs.length).toNat<bs.length:=by
      have:=Int.emod_lt_of_pos (p:Int) (b:=bs.length) (by omega)
      have:=Int.emod_nonneg (p:Int) (b:=bs.length) (by omega)
      omega
    have hm2:(((p:Int) * 7+3) % bs.length).toNat<bs.length:=by
      have:=Int.emod_lt_of_pos ((p:Int) * 7+3) (b:=bs.length) (by omega)
      have:=Int.emod_nonneg ((p:Int) * 7+3) (b:=bs.length) (by omega)
      omega
    obtain ⟨x,hx⟩:∃ x,bs[((p:Int) % bs.length).toNat]? = some x:=⟨_,List.getElem?_eq_getElem hm1⟩
    obtain ⟨y,hy⟩:∃ x,bs[(((p:Int) * 7+3) % bs.length).toNat]? = some x:=⟨_,List.getElem?_eq_getElem hm2⟩
    have hxb:=hby hx
    have hyb:=hby hy
    simp (maxSteps:=10000000) (maxDischargeDepth:=300) only [go_sem,hx,hy,hge,hnlt]
    have hq0:0≤(p:Int) / bs.length:=Int.ediv_nonneg (by omega) (by omega)
    have hq1:(p:Int) / bs.length≤p:=Int.ediv_le_self _ (by omega)
    generalize (p:Int) / bs.length=q at *
    repeat' with_reducible apply And.intro
    all_goals first | kernel_rfl | (simp only [InK];omega) | omega | exact Int.emod_nonneg _ (by omega) | exact ret _ _ (.inr (hrem _ (Int.natCast_nonneg _))) (upd_same _ _ _)
theorem num (bs : List Int) (p : Nat) (xs : List Int) (hb : Fits .u8 bs) (hl : bs.length ≤ 2000) (h1 : p ≤ 1099511627776) (hx0 : 0 < xs.length) (hx1 : xs.length ≤ mx) : DC Tryz.prog 77 [.c (.ptr 0 0), ints xs] [some (rdr bs p)]
    (fun d h=>∃ v:Int,d=DI .i64 v∧v ∈ xs∧h=[some (rdr bs ((p+1:Nat):Int))]):=by
  have hmx:=mx_eq
  refine dc_of_go Tryz.func77 rfl (by simp) ?_
  refine drv_sound (n:=100) (rs:=_) Tryz.func77 mo rfl none _ _ ?_
  simp (maxSteps:=10000000) (maxDischargeDepth:=300) only [go_sem,rdr,ints]
  refine XK.callG [0] (pick bs p xs.length hb hl h1 (by simp only [InK];omega)) ok74 (hhp_one rfl) (fun j hj=>by simp [hpL]) (fun d h' ⟨v,_,_,e⟩=>by subst e;simp) ?_
  rintro d h' ⟨v,rfl,hv,rfl⟩ _
  have hv2:0≤v∧v<xs.length:=by
    rcases hv with ⟨h | h,_⟩ | h
    · omega
    · omega
    · exact h
  refine drv_sound (n:=100) (rs:=_) Tryz.func77 mo rfl (some _) _ _ ?_
  obtain ⟨y,hy⟩:∃ y,xs[v.toNat]? = some y:=⟨xs[v.toNat]'(by omega),List.getElem?_eq_getElem (by omega)⟩
  have hmem:y ∈ xs:=List.mem_of_getElem? hy
  simp (maxSteps:=10000000) (maxDischargeDepth:=300) only [go_sem,rdr,ints,hy]
  exact ⟨by omega,RetOb.keep1 (d:=DI .i64 y) (cs:=rdr bs ((p+1:Nat):Int)) ⟨y,rfl,hmem,rfl⟩ rfl (by simp [rdr,kf]) rfl⟩
end Go.Proofs.YtfkhahkclgejnaaGreatDoor.CtD
namespace Go.Proofs.YtfkhahkclgejnaaGreatDoor.CtR
end Go.Proofs.YtfkhahkclgejnaaGreatDoor.CtR
namespace Go.Proofs.YtfkhahkclgejnaaGreatDoor.CtD
open Go Go.CT CtF CtR
variable [Yn]
theorem ex_kf (e:Ex):∀ c ∈ e.cells,kf c=true:=by cases e;simp [Ex.cells,kf]
def stC (l:List St1):List C:=(l.map St1.cells).flatten
theorem st_kf (s:St1):∀ c ∈ s.cells,kf c=true:=by
  obtain ⟨k,t,ix,v,c,b,e⟩:=s
  intro x hx
  simp only [St1.cells,List.mem_append,List.mem_cons,List.not_mem_nil,or_false] at hx
  rcases hx with ((hx | hx) | hx) | hx
  · rcases hx with rfl | rfl<;>rfl
  · exact ex_kf _ _ hx
  · exact ex_kf _ _ hx
  · rcases hx with rfl | rfl | rfl<;>rfl
theorem RetOb.prK {R : D → List (Option (List C)) → Prop} {p : Pg} {hp : Hp} {k0 k1 k2 nv na nb : Nat} {rc : List C} (hR : R (.agg p.cells) [some rc]) (hrc : ∀ c ∈ rc, kf c = true)
    (hz:hp 0=some (some rc)) (h0:hp k0=some (some (p.vars.map I64))) (h1:hp k1=some (some (p.arrays.map I64))) (h2:hp k2=some (some (stC p.body))) (hv:nv=p.vars.length) (ha:na=p.arrays.length) (hb:nb=p.body.length)
    (hne:0 ≠ k0∧0 ≠ k1∧0 ≠ k2):RetOb 1 R (.agg [.msl k0 1 0 nv,.msl k1 1 0 na,.msl k2 11 0 nb]) hp:=by
  subst hv ha hb
  obtain ⟨vs,ar,bd⟩:=p
  obtain ⟨n0,n1,n2⟩:=hne
  refine RetOb.ofQ (fun j=>if j=0 then some 0 else none) [k0,k1,k2] _ [some rc] ?_ hR (by simp)
  have e4:∀ {hT hS:Hp} {r:Nat→Option Nat} {fz:List Nat},CMs hT r hS fz rc rc=True:=eq_true (CMs.kf hrc)
  have g1:(St1.cellsL bd).flatten=stC bd:=by rw [St1.cellsL_eq];rfl
  have g2:∀ x ∈ St1.cellsL bd,x.length=11:=fun x hx=>by rw [St1.cellsL_eq] at hx;obtain ⟨e,_,rfl⟩:=List.mem_map.1 hx;exact St1.cells_len e
  have g3:∀ x ∈ St1.cellsL bd,∀ c ∈ x,kf c=true:=fun x hx=>by rw [St1.cellsL_eq] at hx;obtain ⟨e,_,rfl⟩:=List.mem_map.1 hx;exact st_kf e
  simp [enumL,DM,DMs,CM,CMs,HpOK,LowOK,hOf,upd,Pg.cells,isI,flat_I,kf,e4,hz,h0,h1,h2,g1,St1.cellsL_length,n0,n1,n2]
  exact ⟨g2,g3⟩
end Go.Proofs.YtfkhahkclgejnaaGreatDoor.CtD
namespace Go.Proofs.YtfkhahkclgejnaaGreatDoor.CtR
open Go Go.CT CtF
variable [Yn]
structure Lv where
  vars:Sl
  arrays:Sl
  body:Sl
def Lv.cells (p:Lv):List C:=[p.vars.c,p.arrays.c,p.body.c]
attribute [go_sem] Lv.cells
end Go.Proofs.YtfkhahkclgejnaaGreatDoor.CtR
namespace Go.Proofs.YtfkhahkclgejnaaGreatDoor.CtD
open Go Go.CT CtF CtR
variable [Yn]
end Go.Proofs.YtfkhahkclgejnaaGreatDoor.CtD
namespace Go.Proofs.YtfkhahkclgejnaaGreatDoor.CtR
open Go Go.CT CtF
variable [Yn]
theorem RetOb.two {R:D→List (Option (List C))→Prop} {a b:Int} {hp:Hp} (h:R (.tup [DI .i64 a,DI .i64 b]) []):RetOb 0 R (.tup [DI .i64 a,DI .i64 b]) hp :=
  RetOb.ofQ (fun _=>none) [] (.tup [DI .i64 a,DI .i64 b]) [] (by simp [enumL,DM,DMs,CM,HpOK,LowOK]) h (by simp)
abbrev BC (b:Bool):C := .v (.bool b)
def boolsC (bs:List Bool):List C:=bs.map BC
theorem boolsC_kf (bs:List Bool):∀ c ∈ boolsC bs,kf c=true:=by
  intro c hc;obtain ⟨x,_,rfl⟩:=List.mem_map.1 hc;rfl
end Go.Proofs.YtfkhahkclgejnaaGreatDoor.CtR
namespace Go.Proofs.YtfkhahkclgejnaaGreatDoor.CtD
open Go Go.CT CtF CtR
variable [Yn]
end Go.Proofs.YtfkhahkclgejnaaGreatDoor.CtD
namespace Go.Proofs.YtfkhahkclgejnaaGreatDoor.CtR
end Go.Proofs.YtfkhahkclgejnaaGreatDoor.CtR
namespace Go.Proofs.YtfkhahkclgejnaaGreatDoor.CtD
open Go Go.CT CtF CtR
variable [Yn]
end Go.Proofs.YtfkhahkclgejnaaGreatDoor.CtD
namespace Go.Proofs.YtfkhahkclgejnaaGreatDoor.CtF
end Go.Proofs.YtfkhahkclgejnaaGreatDoor.CtF
namespace Go.Proofs.YtfkhahkclgejnaaGreatDoor.CtR
end Go.Proofs.YtfkhahkclgejnaaGreatDoor.CtR
namespace Go.Proofs.YtfkhahkclgejnaaGreatDoor.CtD
open Go Go.CT CtF CtR
variable [Yn]
end Go.Proofs.YtfkhahkclgejnaaGreatDoor.CtD
namespace Go.Proofs.YtfkhahkclgejnaaGreatDoor.CtF
end Go.Proofs.YtfkhahkclgejnaaGreatDoor.CtF
namespace Go.Proofs.YtfkhahkclgejnaaGreatDoor.CtR
end Go.Proofs.YtfkhahkclgejnaaGreatDoor.CtR
namespace Go.Proofs.YtfkhahkclgejnaaGreatDoor.CtD
open Go Go.CT CtF CtR
variable [Yn]
end Go.Proofs.YtfkhahkclgejnaaGreatDoor.CtD
namespace Go.Proofs.YtfkhahkclgejnaaGreatDoor.CtF
end Go.Proofs.YtfkhahkclgejnaaGreatDoor.CtF
namespace Go.Proofs.YtfkhahkclgejnaaGreatDoor.CtR
end Go.Proofs.YtfkhahkclgejnaaGreatDoor.CtR
namespace Go.Proofs.YtfkhahkclgejnaaGreatDoor.CtD
open Go Go.CT CtF CtR
variable [Yn]
end Go.Proofs.YtfkhahkclgejnaaGreatDoor.CtD
namespace Go.Proofs.YtfkhahkclgejnaaGreatDoor.CtF
end Go.Proofs.YtfkhahkclgejnaaGreatDoor.CtF
namespace Go.Proofs.YtfkhahkclgejnaaGreatDoor.CtR
end Go.Proofs.YtfkhahkclgejnaaGreatDoor.CtR
namespace Go.Proofs.YtfkhahkclgejnaaGreatDoor.CtD
open Go Go.CT CtF CtR
variable [Yn]
def rel (l:List Ev):List Ev:=l.filter fun e=>e.kind == 4
end Go.Proofs.YtfkhahkclgejnaaGreatDoor.CtD
namespace Go.Proofs.YtfkhahkclgejnaaGreatDoor.CtF
variable [Go.CT.Yn]
end Go.Proofs.YtfkhahkclgejnaaGreatDoor.CtF
namespace Go.Proofs.YtfkhahkclgejnaaGreatDoor.CtR
variable [Go.CT.Yn]
open Go Go.CT CtF
def subL (a b:Nat):Bool:=a ||| b == b
open Go Go.CT CtF
open Go Go.CT CtF
end Go.Proofs.YtfkhahkclgejnaaGreatDoor.CtR
namespace Go.Proofs.YtfkhahkclgejnaaGreatDoor.CtF
end Go.Proofs.YtfkhahkclgejnaaGreatDoor.CtF
namespace Go.Proofs.YtfkhahkclgejnaaGreatDoor.CtR
end Go.Proofs.YtfkhahkclgejnaaGreatDoor.CtR
namespace Go.Proofs.YtfkhahkclgejnaaGreatDoor.CtR
open Go Go.CT CtF
variable [Yn]
theorem le3 {a:Nat} (h:a≤3):a=0∨a=1∨a=2∨a=3:=by omega
theorem subI (a b:Nat) (ha:a≤3) (hb:b≤3):decide (((a ||| b:Nat):Int)=(b:Int))=subL a b:=by
  rcases le3 ha with rfl | rfl | rfl | rfl<;>rcases le3 hb with rfl | rfl | rfl | rfl<;>decide
end Go.Proofs.YtfkhahkclgejnaaGreatDoor.CtR
namespace Go.Proofs.YtfkhahkclgejnaaGreatDoor.CtD
open Go Go.CT CtF CtR
variable [Yn]
end Go.Proofs.YtfkhahkclgejnaaGreatDoor.CtD
namespace Go.Proofs.YtfkhahkclgejnaaGreatDoor.CtR
variable [Go.CT.Yn]
open Go Go.CT CtF
open Go Go.CT CtF
end Go.Proofs.YtfkhahkclgejnaaGreatDoor.CtR
namespace Go.Proofs.YtfkhahkclgejnaaGreatDoor.CtD
open Go Go.CT CtF CtR
variable [Yn]
def bl (n N:Nat):List Bool:=(List.range n).map fun i=>N.testBit i
def rowsB (w:Nat) (S:List Nat):List (List C):=S.map fun N=>boolsC (bl w N)
theorem rowsB_len (w:Nat) (S:List Nat):(rowsB w S).length=S.length:=by simp [rowsB]
theorem rowsB_kf (w:Nat) (S:List Nat):∀ x ∈ rowsB w S,∀ c ∈ x,kf c=true:=fun x hx c hc=>by
  obtain ⟨N,_,rfl⟩:=List.mem_map.1 hx;exact boolsC_kf _ c hc
theorem fam_row {hp:Hp} {b w i:Nat} {S:List Nat} {row:List C} (hS:S.length≤32) (h:(rowsB w S)[i]? = some row):fam hp b (rowsB w S) (b+i)=some (some row):=by
  have:=(List.getElem?_eq_some_iff.1 h).1
  rw [rowsB_len] at this
  rw [fam_at (by omega),h];rfl
theorem SubH.rows {m : Nat} {r : Nat → Option Nat} {hl : List (Nat × Option (List C))} {hp : Hp} {b b' w : Nat} {S : List Nat} (hS : S.length ≤ 32) (hr : ∀ i, i < S.length → r (b + i) = some (b' + i))
    (hok:HpOK (fam (hOf hl) b (rowsB w S)) r (fam hp b' (rowsB w S)) [] hl) (hlow:LowOK r (fam (hOf hl) b (rowsB w S)) m) (hnd:((hl.filterMap fun p=>p.2.map fun _=>p.1).filterMap r).Nodup)
    (hdis:∀ p ∈ hl,∀ j,r p.1=some j→j<b'∨b' + 32≤j):SubH m r [] (fam (hOf hl) b (rowsB w S)) (fam hp b' (rowsB w S)):=by
  have hl0:=rowsB_len w S
  refine SubH.fam (fun n=>b' + n) (fun i hi=>hr i (by omega)) (fun i j hi hj h=>by omega) (fun i hi=>by simp) (fun i row hi=>fam_row hS hi) (rowsB_kf w S) hok hlow hnd ?_
  intro k j cs hm hj i hi e
  have:=hdis _ hm j hj
  omega
end Go.Proofs.YtfkhahkclgejnaaGreatDoor.CtD
namespace Go.Proofs.YtfkhahkclgejnaaGreatDoor.CtR
variable [Go.CT.Yn]
open Go Go.CT CtF
end Go.Proofs.YtfkhahkclgejnaaGreatDoor.CtR
namespace Go.Proofs.YtfkhahkclgejnaaGreatDoor.CtL
variable [Go.CT.Yn]
open Go Go.CT CtF CtR
open CtD (rel)
def e0:Ex := .mk 0 0 []
open Go Go.CT CtF CtR
open CtD (rel)
open Go Go.CT CtF CtR
open CtD (rel)
open Go Go.CT CtF CtR
open CtD (rel)
def Ext (p:Pg) (vs:List Int):Prop:=∃ w,vs=p.vars++w
theorem Ext.more {p:Pg} {vs ws:List Int} (h:Ext p vs) (h2:∃ w,ws=vs++w):Ext p ws:=by
  obtain ⟨a,rfl⟩:=h
  obtain ⟨b,rfl⟩:=h2
  exact ⟨a++b,by simp⟩
theorem Ext.le {p:Pg} {vs:List Int} (h:Ext p vs):p.vars.length≤vs.length:=by
  obtain ⟨a,rfl⟩:=h
  simp
open Go Go.CT CtF CtR
open CtD (rel)
open Go Go.CT CtF CtR
open CtD (rel)
def Sub (a b:Nat):Prop:=∀ β,a.testBit β=true→b.testBit β=true
theorem Sub.refl (a:Nat):Sub a a:=fun _ h=>h
theorem Sub.trans {a b c:Nat} (h:Sub a b) (g:Sub b c):Sub a c:=fun β x=>g β (h β x)
theorem Sub.zero (a:Nat):Sub 0 a:=fun β h=>by simp at h
theorem Sub.or {a b c:Nat}:Sub (a ||| b) c ↔ Sub a c∧Sub b c:=by
  constructor
  · exact fun h=>⟨fun β x=>h β (by simp [x]),fun β x=>h β (by simp [x])⟩
  · rintro ⟨h1,h2⟩ β x
    rw [Nat.testBit_or,Bool.or_eq_true] at x
    exact x.elim (h1 β) (h2 β)
theorem Sub.left (a b:Nat):Sub a (a ||| b):=fun β h=>by simp [h]
theorem Sub.right (a b:Nat):Sub b (a ||| b):=fun β h=>by simp [h]
theorem Sub.l {a b c:Nat} (h:Sub a b):Sub a (b ||| c):=h.trans (Sub.left _ _)
theorem Sub.r {a b c:Nat} (h:Sub a c):Sub a (b ||| c):=h.trans (Sub.right _ _)
open Go Go.CT CtF CtR
open CtD (rel)
open Go Go.CT CtF CtR
open CtD (rel)
theorem none0_e0 {e:Ex} (h:none0 e=true):e=e0:=by
  obtain ⟨k,v,ks⟩:=e
  simp only [none0,Ex.kind,Ex.value,Ex.kids,Bool.and_eq_true,beq_iff_eq,List.isEmpty_iff] at h
  obtain ⟨⟨rfl,rfl⟩,rfl⟩:=h
  rfl
theorem head_parts {p : Pg} {k t : Int} {ix v : Ex} {c : Int} {b e : List St1} (h : headOK p k t ix v c b.length e.length = true) :
    (k=4→e=[]∧ix=e0∧v=e0)∧(k ≠ 4→c=0∧(k ≠ 2→ix=e0))∧(k ≠ 3→k ≠ 4→b=[]∧e=[])∧(k=3∨k=4→t=0):=by
  simp only [headOK,parts,blk,Bool.and_eq_true] at h
  obtain ⟨⟨h1,h2⟩,_⟩:=h
  refine ⟨fun hk=>?_,fun hk=>?_,fun h3 h4=>?_,fun hk=>?_⟩
  · rw [if_pos hk] at h2
    simp only [Bool.and_eq_true,beq_iff_eq] at h2
    exact ⟨List.length_eq_zero_iff.1 (by omega),none0_e0 h2.1.2,none0_e0 h2.2⟩
  · rw [if_neg hk] at h2
    simp only [Bool.and_eq_true,beq_iff_eq,Bool.or_eq_true] at h2
    exact ⟨h2.1,fun h=>none0_e0 (h2.2.resolve_left h)⟩
  · have e1:(k == 3)=false:=by simpa using h3
    have e2:(k == 4)=false:=by simpa using h4
    have:b.length=0∧e.length=0:=by
      cases b<;>cases e<;>simp_all
    exact ⟨List.length_eq_zero_iff.1 this.1,List.length_eq_zero_iff.1 this.2⟩
  · have:(k == 3 || k == 4)=true:=by rcases hk with rfl | rfl<;>rfl
    rw [this] at h1
    simpa using h1
open Go Go.CT CtF CtR
open CtD (rel)
end Go.Proofs.YtfkhahkclgejnaaGreatDoor.CtL
namespace Go.Proofs.YtfkhahkclgejnaaGreatDoor.CtD
open Go Go.CT CtF CtR
variable [Yn]
theorem intsKeepT {hp:Hp} {k n:Nat} {L:List Int} {ok:Bool} (hk:hp k=some (some (L.map I64))) (hn:n=L.length):RetOb 0 (fun r h=>r = .tup [.c (.msl 0 1 0 L.length),DB ok]∧h=[some (L.map I64)]) (.tup [.c (.msl k 1 0 n),DB ok]) hp:=by
  subst hn
  refine RetOb.ofQ (fun j=>if j=0 then some k else none) [] _ [some (L.map I64)] ?_ ⟨rfl,rfl⟩ (by simp)
  have e4:∀ {hT hS:Hp} {r:Nat→Option Nat} {fz:List Nat},CMs hT r hS fz (L.map I64) (L.map I64)=True:=eq_true (CMs.kf (kf_I L))
  simp [-List.mem_map,enumL,DM,DMs,CM,CMs,HpOK,LowOK,hOf,upd,hk,e4]
theorem intsNilT {hp:Hp} {ok:Bool}:RetOb 0 (fun r h=>r = .tup [.c (.msl 0 1 0 ([]:List Int).length),DB ok]∧h=[some (([]:List Int).map I64)]) (.tup [.c (.v (.slice none 0 0)),DB ok]) hp:=by
  refine RetOb.ofQ (fun j=>none) [] (.tup [.c (.msl 0 1 0 0),DB ok]) [some []] ?_ ⟨rfl,rfl⟩ (by simp)
  simp [enumL,DM,DMs,CM,CMs,HpOK,LowOK,hOf,upd]
end Go.Proofs.YtfkhahkclgejnaaGreatDoor.CtD
namespace Go.Proofs.YtfkhahkclgejnaaGreatDoor.CtL
variable [Go.CT.Yn]
open Go Go.CT CtF CtR
open CtD (rel)
open Go Go.CT CtF CtR
open Go Go.CT CtF CtR
structure In where
  op:Int
  a:Int
  b:Int
  c:Int
  d:Int
structure Cd where
  vars:List Int
  arrays:List Int
  list:List In
def halt:In:=⟨13,0,0,0,0⟩
def atC (C:List In) (i:Nat):In:=C.getD i halt
def stp (X:List Ev):Nat:=X.countP fun e=>e.kind == 5
open Go Go.CT CtF CtR
end Go.Proofs.YtfkhahkclgejnaaGreatDoor.CtL
