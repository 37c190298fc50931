/- Arguments that hold slices and structs in depth: what the claim's frame reads of them, as plain data. -/
import Derived.ChangeArms
import Derived.DataReads
import Derived.SizedLaws
import Derived.ProofKit
import Derived.Test.YtbknljofedfpjaaXAi
set_option linter.unusedVariables false
set_option linter.unusedSimpArgs false
set_option linter.unusedSectionVars false
set_option maxHeartbeats 16000000
set_option maxRecDepth 100000
namespace Go.CT
variable [Yn]
open Go.RowKit
inductive Sh (P : Program) : TypeId → List C → Prop
  | int {t:TypeId} {k:IntKind} {n:Int} (h:P.underlying t=some (.int k)) (hn:InK k n):Sh P t [.v (.int k n)]
  | bool {t:TypeId} {b:Bool} (h:P.underlying t=some .bool):Sh P t [.v (.bool b)]
  | sl {t e:TypeId} {xs:List (List C)} (h:P.underlying t=some (.slice e)) (hm:xs.length≤mx) (hx:∀ r ∈ xs,Sh P e r):Sh P t [.isl (P.cellsOf e) xs]
  | st {t:TypeId} {fs:Array Field} {kss:List (List C)} (h:P.underlying t=some (.struct fs)) (hl:kss.length=fs.size) (hx:∀ (i:Nat) (f:Field) (ks:List C),fs[i]? = some f→kss[i]? = some ks→Sh P f.type ks):Sh P t kss.flatten
def RCl (I:Nat→Prop) (w:World) (cs:List Value) (ks:List C):Prop:=cs.length=ks.length∧∀ (j:Nat) (v:Value) (c:C),cs[j]? = some v→ks[j]? = some c→RC I w Sg0 v c
theorem RCl.nil {I:Nat→Prop} {w:World}:RCl I w [] []:=⟨rfl,fun j v c h=>by simp at h⟩
theorem RCl.app {I:Nat→Prop} {w:World} {a b:List Value} {x y:List C} (h:RCl I w a x) (h':RCl I w b y):RCl I w (a++b) (x++y) :=
  ⟨by simp [h.1,h'.1],fun j v c hv hc=>by
    rcases Nat.lt_or_ge j a.length with hj | hj
    · rw [List.getElem?_append_left hj] at hv
      rw [List.getElem?_append_left (by rw [← h.1];exact hj)] at hc
      exact h.2 j v c hv hc
    · rw [List.getElem?_append_right hj] at hv
      rw [List.getElem?_append_right (by rw [← h.1];exact hj),← h.1] at hc
      exact h'.2 _ v c hv hc⟩
theorem RCl.one {I:Nat→Prop} {w:World} {v:Value} {c:C} (h:RC I w Sg0 v c):RCl I w [v] [c] :=
  ⟨rfl,fun j v' c' hv hc=>by
    match j,hv,hc with
    | 0,hv,hc=>cases hv;cases hc;exact h
    | j+1,hv,hc=>simp at hv⟩
def contig (P : Program) : List Field → Nat → Nat → Bool
  | [],o,n=>o == n
  | f :: r,o,n=>f.offset == o && contig P r (o+P.cellsOf f.type) n
theorem fields_rc {P:Program} {I:Nat→Prop} {w:World} {cs:List Value}:∀ (l:List Field) (o:Nat),contig P l o cs.length=true →
    (∀ f ∈ l,∃ ks,RCl I w ((cs.drop f.offset).take (P.cellsOf f.type)) ks∧Sh P f.type ks) →
    ∃ kss:List (List C),kss.length=l.length∧RCl I w (cs.drop o) kss.flatten∧∀ (i:Nat) (f:Field) (ks:List C),l[i]? = some f→kss[i]? = some ks→Sh P f.type ks
  | [],o,h,_=>by
    simp only [contig,beq_iff_eq] at h
    refine ⟨[],rfl,?_,fun i f ks hf=>by simp at hf⟩
    rw [h,List.drop_length]
    exact RCl.nil
  | f :: r,o,h,hf=>by
    simp only [contig,Bool.and_eq_true,beq_iff_eq] at h
    obtain ⟨h1,h2⟩:=h
    obtain ⟨ks,hk,hs⟩:=hf f (by simp)
    obtain ⟨kss,g1,g2,g3⟩:=fields_rc r (o+P.cellsOf f.type) h2 fun g hg=>hf g (by simp [hg])
    refine ⟨ks :: kss,by simp [g1],?_,fun i g k hi hki=>?_⟩
    · rw [h1] at hk
      have e:cs.drop o=(cs.drop o).take (P.cellsOf f.type)++cs.drop (o+P.cellsOf f.type):=by
        rw [← List.drop_drop,List.take_append_drop]
      rw [e,List.flatten_cons]
      exact hk.app g2
    · match i,hi,hki with
      | 0,hi,hki =>
        cases hi;cases hki;exact hs
      | i+1,hi,hki=>exact g3 i g k (by simpa using hi) (by simpa using hki)
structure Cl (P : Program) (T : TypeId → Prop) : Prop where
  cl : ∀ t, T t → (∃ k, P.underlying t = some (.int k)) ∨ P.underlying t = some .bool ∨ (∃ e, P.underlying t = some (.slice e) ∧ T e ∧ 0 < P.cellsOf e ∧ 0 < P.bytesOf e) ∨
    (∃ fs,P.underlying t=some (.struct fs)∧contig P fs.toList 0 (P.cellsOf t)=true∧∀ f ∈ fs.toList,T f.type)
theorem weights_all {H : Type} {P : Program} {e : TypeId} : ∀ {l : List (DataW H)} {d : DataW H}, d ∈ l → ∀ n ∈ d.weights P e, n ∈ DataW.weightsAll P e l
  | a :: r,d,hd,n,hn=>by
    simp only [DataW.weightsAll,List.mem_append]
    rcases List.mem_cons.1 hd with rfl | hd
    · exact .inl hn
    · exact .inr (weights_all hd n hn)
theorem trod_sh {H:Type} {enc:TypeId × Value→H} {P:Program} {w:World} {sp:Nat→Bool} {T:TypeId→Prop} (hT:Cl P T):∀ (fuel:Nat) (t:TypeId) (cs:List Value) (x:DataW H × List MemPlace),T t →
    DataW.trod enc P w 0 sp true fuel t cs=some x→(∀ n ∈ x.1.weights P t,n≤reachBytes)→∃ ks,RCl (fun b=>b<w.heap.size) w cs ks∧Sh P t ks
  | 0,t,cs,x,ht,h,hw=>by simp [DataW.trod] at h
  | fuel+1,t,cs,x,ht,h,hw=>by
    rcases hT.cl t ht with ⟨k,hu⟩ | hu | ⟨e,hu,he,hce,hbe⟩ | ⟨fs,hu,hcg,hfs⟩
    · obtain ⟨m,rfl,rfl,hwf⟩:=DataW.trod_int hu h
      exact ⟨[.v (.int k m)],RCl.one (.v _ _ rfl),.int hu (fits_of_wf hwf)⟩
    · obtain ⟨b,rfl,rfl⟩:=DataW.trod_bool hu h
      exact ⟨[.v (.bool b)],RCl.one (.v _ _ rfl),.bool hu⟩
    · rcases DataW.trod_slice hu h with ⟨rfl,rfl⟩ | ⟨a,len,cap,elems,rest,m,hn,rfl,rfl,hb,hl,hm,hlen,hel,hsp,hns⟩
      · exact ⟨[.isl (P.cellsOf e) []],RCl.one (.isl0 _ _ _ _),.sl hu (Nat.zero_le _) (by simp)⟩
      · obtain rfl:fuel=m:=by omega
        have hmx:mx=281474976710656:=rfl
        have hrb:reachBytes=140737488351232:=rfl
        have hlm:len≤mx:=by
          have h1:=hw (((elems.map (·.1)).length+(rest.map (·.1)).length) * P.bytesOf e) (by simp [DataW.weights,hu])
          simp only [List.length_map] at h1
          have h2:elems.length+rest.length≤(elems.length+rest.length) * P.bytesOf e:=Nat.le_mul_of_pos_right _ hbe
          omega
        have each:∀ i,∃ z:List Value × List C,i<len→w.cells? 0 (a.add (i * P.cellsOf e)) (P.cellsOf e)=some z.1∧RCl (fun b=>b<w.heap.size) w z.1 z.2∧Sh P e z.2:=fun i=>by
          by_cases hi:i<len
          · have hy:i<elems.length:=by omega
            have h1:=hel i hi
            rw [List.getElem?_eq_getElem hy,Option.bind_eq_some_iff] at h1
            obtain ⟨cs',h2,h3⟩:=h1
            obtain ⟨ks,h4,h5⟩:=trod_sh hT fuel e cs' elems[i] he h3 fun n hn=>hw n (by
              simp only [DataW.weights,hu,List.mem_cons,List.mem_append]
              exact .inr (.inl (weights_all (List.mem_map.2 ⟨elems[i],List.getElem_mem hy,rfl⟩) n hn)))
            exact ⟨(cs',ks),fun _=>⟨h2,h4,h5⟩⟩
          · exact ⟨([],[]),fun h=>absurd h hi⟩
        obtain ⟨Z,hZ⟩:=Classical.axiomOfChoice each
        have hxl:((List.range len).map fun i=>(Z i).2).length=len:=by simp
        have hxi:∀ i (h:i<((List.range len).map fun i=>(Z i).2).length),((List.range len).map fun i=>(Z i).2)[i]=(Z i).2:=fun i h=>by simp
        refine ⟨[.isl (P.cellsOf e) ((List.range len).map fun i=>(Z i).2)],RCl.one ?_,.sl hu (by rw [hxl];exact hlm) fun r hr=>?_⟩
        · rcases Nat.eq_zero_or_pos len with h0 | hpos
          · subst h0
            exact .isl0 _ _ _ _
          · obtain ⟨b,off,spot⟩:=a
            have c0:=(World.cells?_some (hZ 0 hpos).1)
            have c00:=c0.2.2 0 hce
            rw [List.getElem?_eq_getElem (by omega)] at c00
            have hspot:spot=none:=by simpa [Addr.add] using World.cell?_spot c00
            subst hspot
            have hcell:∀ i j,i<len→j<P.cellsOf e→w.cell? ⟨b,off+i * P.cellsOf e+j,none⟩=some ((Z i).1.getD j undef):=fun i j hi hj=>by
              have c1:=World.cells?_some (hZ i hi).1
              have c2:=c1.2.2 j hj
              rw [add_plain,add_plain] at c2
              rw [c2,List.getD_eq_getElem?_getD,List.getElem?_eq_getElem (by omega)]
              rfl
            have hbs:b<w.heap.size:=by
              have:=hcell 0 0 hpos hce
              simp only [World.cell?] at this
              split at this
              · rename_i h;exact lt_of_heap h
              · cases this
            have := RC.isl (I := fun b => b < w.heap.size) (w := w) Sg0 b off cap (P.cellsOf e) ((List.range len).map fun i => (Z i).2) (fun i j => (Z i).1.getD j undef) hbs
              (fun i hi=>by
                rw [hxi]
                rw [hxl] at hi
                have g:=hZ i hi
                rw [← g.2.1.1]
                exact (World.cells?_some g.1).2.1)
              (fun i j hi hj=>hcell i j (by rw [hxl] at hi;exact hi) hj)
              (fun i hi j hj=>by
                have hi':=hi
                rw [hxl] at hi'
                have g:=hZ i hi'
                have hj':j<(Z i).2.length:=by have:=hj;rw [hxi i hi] at this;exact this
                have hj2:j<(Z i).1.length:=by rw [g.2.1.1];exact hj'
                refine g.2.1.2 j _ _ ?_ ?_
                · rw [List.getD_eq_getElem?_getD,List.getElem?_eq_getElem hj2];rfl
                · rw [List.getElem?_eq_getElem hj']
                  congr 1
                  simp)
              (by rw [hxl];exact ⟨hl,hlm⟩)
            rw [hxl] at this
            exact this
        · obtain ⟨i,hi,rfl⟩:=List.mem_map.1 hr
          exact (hZ i (by simpa using hi)).2.2
    · obtain ⟨xs,m,hn,rfl,hl,hlen,hf⟩:=DataW.trod_struct hu h
      obtain rfl:fuel=m:=by omega
      have fields:∀ f ∈ fs.toList,∃ ks,RCl (fun b=>b<w.heap.size) w ((cs.drop f.offset).take (P.cellsOf f.type)) ks∧Sh P f.type ks:=fun f hfm=>by
        obtain ⟨i,hi,rfl⟩:=List.getElem_of_mem hfm
        have hi':i<fs.size:=by simpa using hi
        have h1:=hf i fs.toList[i] (by simp [hi'])
        rw [List.getElem?_eq_getElem (by omega)] at h1
        refine trod_sh hT fuel _ _ _ (hfs _ hfm) h1 fun n hn=>hw n ?_
        simp only [DataW.weights,hu]
        exact DataW.weights_mem_each (j:=i) (t:=fs.toList[i].type) (d:=(xs[i]'(by omega)).1) (by simp [hi']) (by simp [hlen,hi']) n hn
      obtain ⟨kss,hk1,hk2,hk3⟩:=fields_rc fs.toList 0 (by rw [hl];exact hcg) fields
      rw [List.drop_zero] at hk2
      exact ⟨kss.flatten,hk2,.st hu (by simpa using hk1) fun i f ks hfi=>hk3 i f ks (by simpa using hfi)⟩
theorem RD.of_cells {I:Nat→Prop} {w:World} {s:Sg} {v:Value} {ks:List C} (h:RCl I w v.cells.toList ks) (h1:ks.length ≠ 1):RD I w s v (.agg ks):=by
  cases v with
  | agg vs =>
    have hl:vs.size=ks.length:=by simpa [Value.cells] using h.1
    refine .agg vs ks hl fun j hj hj'=>?_
    have:=h.2 j vs[j] ks[j] (by simp [Value.cells,hj]) (by simp [hj'])
    exact this.mono (fun _ h=>h) (fun _ _=>rfl) (Shp.refl _) (Sg0.le _)
  | _=>exact absurd h.1.symm (by simpa [Value.cells] using h1)
theorem Sh.int_of {P:Program} {t:TypeId} {k:IntKind} {ks:List C} (hU:P.underlying t=some (.int k)) (h:Sh P t ks):∃ n,ks=[.v (.int k n)]∧InK k n:=by
  cases h with
  | int hu hn=>rw [hU] at hu;cases hu;exact ⟨_,rfl,hn⟩
  | bool hu=>rw [hU] at hu;cases hu
  | sl hu _ _=>rw [hU] at hu;cases hu
  | st hu _ _=>rw [hU] at hu;cases hu
theorem Sh.sl_of {P:Program} {t e:TypeId} {ks:List C} (hU:P.underlying t=some (.slice e)) (h:Sh P t ks):∃ xs,ks=[.isl (P.cellsOf e) xs]∧xs.length≤mx∧∀ r ∈ xs,Sh P e r:=by
  cases h with
  | int hu hn=>rw [hU] at hu;cases hu
  | bool hu=>rw [hU] at hu;cases hu
  | sl hu hm hx=>rw [hU] at hu;cases hu;exact ⟨_,rfl,hm,hx⟩
  | st hu _ _=>rw [hU] at hu;cases hu
theorem Sh.st_of {P : Program} {t : TypeId} {fs : Array Field} {ks : List C} (hU : P.underlying t = some (.struct fs)) (h : Sh P t ks) :
    ∃ kss:List (List C),ks=kss.flatten∧kss.length=fs.size∧∀ (i:Nat) (f:Field) (k:List C),fs[i]? = some f→kss[i]? = some k→Sh P f.type k:=by
  cases h with
  | int hu hn=>rw [hU] at hu;cases hu
  | bool hu=>rw [hU] at hu;cases hu
  | sl hu hm hx=>rw [hU] at hu;cases hu
  | st hu hl hx=>rw [hU] at hu;cases hu;exact ⟨_,rfl,hl,hx⟩
theorem list_of {α : Type} {f : α → List C} {Q : α → Prop} : ∀ (xs : List (List C)), (∀ r ∈ xs, ∃ a, r = f a ∧ Q a) → ∃ l : List α, xs = l.map f ∧ ∀ a ∈ l, Q a
  | [],_=>⟨[],rfl,fun a h=>by simp at h⟩
  | x :: r,h=>by
    obtain ⟨a,rfl,ha⟩:=h x (by simp)
    obtain ⟨l,rfl,hl⟩:=list_of r fun y hy=>h y (by simp [hy])
    exact ⟨a :: l,rfl,fun b hb=>(List.mem_cons.1 hb).elim (fun e=>e ▸ ha) (hl b)⟩
theorem Sh.rows_of {α : Type} {f : α → List C} {Q : α → Prop} {P : Program} {t e : TypeId} {ks : List C} (hU : P.underlying t = some (.slice e)) (h : Sh P t ks) (hr : ∀ r, Sh P e r → ∃ a, r = f a ∧ Q a) :
    ∃ l:List α,ks=[.isl (P.cellsOf e) (l.map f)]∧l.length≤mx∧∀ a ∈ l,Q a:=by
  obtain ⟨xs,rfl,hm,hx⟩:=h.sl_of hU
  obtain ⟨l,rfl,hl⟩:=list_of xs fun r hr'=>hr r (hx r hr')
  exact ⟨l,rfl,by simpa using hm,hl⟩
inductive Co (y : Bool) : C → C → Prop
  | rfl (c:C):Co y c c
  | sl (sz : Nat) (xs xs' : List (List C)) (hl : xs.length = xs'.length) (h : ∀ (i : Nat) (r r' : List C), xs[i]? = some r → xs'[i]? = some r' → r.length = r'.length)
      (hc:∀ (i j:Nat) (r r':List C) (c c':C),xs[i]? = some r→xs'[i]? = some r'→r[j]? = some c→r'[j]? = some c'→Co y c c'):Co y (.csl y sz xs) (.isl sz xs')
theorem RC.er {y:Bool} {I:Nat→Prop} {w:World} {c c':C} (h:Co y c c'):∀ {s:Sg} {x:Value},RC I w s x c→RC I w s x c':=by
  induction h with
  | rfl c=>exact fun h=>h
  | sl sz xs xs' hl hr hc ih =>
    intro s x h
    cases h with
    | csl0 _ a cap _ _ =>
      have:xs'=[]:=List.eq_nil_of_length_eq_zero (by simpa using hl.symm)
      subst this
      exact .isl0 _ a cap sz
    | csl _ b off len cap _ _ _ h hN =>
      cases h with
      | isl0 _ _ _ _ =>
        have:xs'=[]:=List.eq_nil_of_length_eq_zero (by simpa using hl.symm)
        subst this
        exact .isl0 _ _ cap sz
      | isl _ _ _ _ _ _ z hI hle hcell hrd hcap =>
        rw [hl] at hcap ⊢
        refine .isl _ b off cap sz xs' z hI (fun i hi=>?_) (fun i j hi hj=>hcell i j (by omega) hj) (fun i hi j hj=>?_) hcap
        · have hi':i<xs.length:=by omega
          have:=hr i xs[i] xs'[i] (List.getElem?_eq_getElem hi') (List.getElem?_eq_getElem hi)
          rw [← this];exact hle i hi'
        · have hi':i<xs.length:=by omega
          have e:=hr i xs[i] xs'[i] (List.getElem?_eq_getElem hi') (List.getElem?_eq_getElem hi)
          have hj':j<(xs[i]).length:=by omega
          exact ih i j _ _ _ _ (List.getElem?_eq_getElem hi') (List.getElem?_eq_getElem hi) (List.getElem?_eq_getElem hj') (List.getElem?_eq_getElem hj) (hrd i hi' j hj')
theorem RC.ol {I:Nat→Prop} {w:World} (hO:∀ b,I b→b<Yn.n) {c c':C} (h:Co false c c'):∀ {s:Sg} {x:Value},RC I w s x c'→RC I w s x c:=by
  induction h with
  | rfl c=>exact fun h=>h
  | sl sz xs xs' hl hr hc ih =>
    intro s x h
    cases h with
    | isl0 _ a cap _ =>
      have:xs=[]:=List.eq_nil_of_length_eq_zero (by simpa using hl)
      subst this
      exact .csl0 _ a cap sz false
    | isl _ b off cap _ _ z hI hle hcell hrd hcap =>
      rw [← hl] at hcap ⊢
      refine .csl _ b off _ cap sz xs false (.isl _ b off cap sz xs z hI (fun i hi=>?_) (fun i j hi hj=>hcell i j (by omega) hj) (fun i hi j hj=>?_) hcap) (by simpa using hO b hI)
      · have hi':i<xs'.length:=by omega
        have:=hr i xs[i] xs'[i] (List.getElem?_eq_getElem hi) (List.getElem?_eq_getElem hi')
        rw [this];exact hle i hi'
      · have hi':i<xs'.length:=by omega
        have e:=hr i xs[i] xs'[i] (List.getElem?_eq_getElem hi) (List.getElem?_eq_getElem hi')
        have hj':j<(xs'[i]).length:=by omega
        exact ih i j _ _ _ _ (List.getElem?_eq_getElem hi) (List.getElem?_eq_getElem hi') (List.getElem?_eq_getElem hj) (List.getElem?_eq_getElem hj') (hrd i hi' j hj')
def Cos (y:Bool) (cs cs':List C):Prop:=cs.length=cs'.length∧∀ (j:Nat) (c c':C),cs[j]? = some c→cs'[j]? = some c'→Co y c c'
theorem Cos.rfl {y:Bool} {cs:List C}:Cos y cs cs:=⟨Eq.refl _,fun j c c' h h'=>by rw [h] at h';cases h';exact .rfl _⟩
theorem Cos.nil {y:Bool}:Cos y [] [] := .rfl
theorem Cos.cons {y:Bool} {c c':C} {cs cs':List C} (h:Co y c c') (h':Cos y cs cs'):Cos y (c :: cs) (c' :: cs') :=
  ⟨by simp [h'.1],fun j d d' g g'=>by
    cases j with
    | zero=>simp only [List.getElem?_cons_zero,Option.some.injEq] at g g';subst g;subst g';exact h
    | succ j=>exact h'.2 j d d' (by simpa using g) (by simpa using g')⟩
theorem Cos.app {y:Bool} {a a' b b':List C} (h:Cos y a a') (h':Cos y b b'):Cos y (a++b) (a'++b') :=
  ⟨by simp [h.1,h'.1],fun j d d' g g'=>by
    rcases Nat.lt_or_ge j a.length with hj | hj
    · rw [List.getElem?_append_left hj] at g
      rw [List.getElem?_append_left (by rw [← h.1];exact hj)] at g'
      exact h.2 j d d' g g'
    · rw [List.getElem?_append_right hj] at g
      rw [List.getElem?_append_right (by rw [← h.1];exact hj),← h.1] at g'
      exact h'.2 _ d d' g g'⟩
theorem Co.map {y:Bool} {α:Type} {sz:Nat} {l:List α} {f g:α→List C} (h:∀ a ∈ l,Cos y (f a) (g a)):Co y (.csl y sz (l.map f)) (.isl sz (l.map g)):=by
  refine .sl sz _ _ (by simp) (fun i r r' hr hr'=>?_) (fun i j r r' c c' hr hr' hc hc'=>?_)
  · simp only [List.getElem?_map,Option.map_eq_some_iff] at hr hr'
    obtain ⟨a,ha,rfl⟩:=hr
    obtain ⟨a',ha',rfl⟩:=hr'
    rw [ha] at ha';cases ha'
    exact (h a (List.mem_of_getElem? ha)).1
  · simp only [List.getElem?_map,Option.map_eq_some_iff] at hr hr'
    obtain ⟨a,ha,rfl⟩:=hr
    obtain ⟨a',ha',rfl⟩:=hr'
    rw [ha] at ha';cases ha'
    exact (h a (List.mem_of_getElem? ha)).2 j c c' hc hc'
inductive CoD (y : Bool) : D → D → Prop
  | rfl (d:D):CoD y d d
  | c {a b:C} (h:Co y a b):CoD y (.c a) (.c b)
  | agg {a b:List C} (h:Cos y a b):CoD y (.agg a) (.agg b)
theorem RD.er {y:Bool} {I:Nat→Prop} {w:World} {s:Sg} {x:Value} {d d':D} (h:CoD y d d') (hr:RD I w s x d):RD I w s x d':=by
  cases h with
  | rfl=>exact hr
  | c h=>cases hr with | c _ _ hr=>exact .c _ _ (hr.er h)
  | agg h =>
    cases hr with
    | agg vs _ hl hr =>
      refine .agg vs _ (by rw [hl,h.1]) fun j h1 h2=>?_
      have h3:=h.1
      exact (hr j h1 (by omega)).er (h.2 j _ _ (List.getElem?_eq_getElem (by omega)) (List.getElem?_eq_getElem h2))
theorem RD.ol {I:Nat→Prop} {w:World} (hO:∀ b,I b→b<Yn.n) {s:Sg} {x:Value} {d d':D} (h:CoD false d d') (hr:RD I w s x d'):RD I w s x d:=by
  cases h with
  | rfl=>exact hr
  | c h=>cases hr with | c _ _ hr=>exact .c _ _ (hr.ol hO h)
  | agg h =>
    cases hr with
    | agg vs _ hl hr =>
      have h3:=h.1
      refine .agg vs _ (by rw [hl,h.1]) fun j h1 h2=>?_
      exact (hr j h1 (by omega)).ol hO (h.2 j _ _ (List.getElem?_eq_getElem h2) (List.getElem?_eq_getElem (by omega)))
inductive CoDs : List D → List D → Prop
  | nil:CoDs [] []
  | cons {y:Bool} {d d':D} {l l':List D} (h:CoD y d d') (h':CoDs l l'):CoDs (d :: l) (d' :: l')
inductive CoL (y : Bool) : List D → List D → Prop
  | nil:CoL y [] []
  | cons {d d':D} {l l':List D} (h:CoD y d d') (h':CoL y l l'):CoL y (d :: l) (d' :: l')
theorem CoL.len {y:Bool} {l l':List D} (h:CoL y l l'):l.length=l'.length:=by
  induction h with
  | nil=>rfl
  | cons _ _ ih=>simp [ih]
theorem CoL.at {y:Bool} {l l':List D} (h:CoL y l l'):∀ (j:Nat) (d d':D),l[j]? = some d→l'[j]? = some d'→CoD y d d':=by
  induction h with
  | nil=>intro j d d' h;simp at h
  | cons h h' ih =>
    intro j d d' g g'
    cases j with
    | zero=>simp only [List.getElem?_cons_zero,Option.some.injEq] at g g';subst g;subst g';exact h
    | succ j=>exact ih j d d' (by simpa using g) (by simpa using g')
theorem CoDs.len {l l':List D} (h:CoDs l l'):l.length=l'.length:=by
  induction h with
  | nil=>rfl
  | cons _ _ ih=>simp [ih]
theorem CoDs.rd {I:Nat→Prop} {w:World} {s:Sg} {l l':List D} (h:CoDs l l'):∀ {vs:List Value},RDs I w s vs.toArray l→RDs I w s vs.toArray l':=by
  induction h with
  | nil=>exact fun h=>h
  | cons h h' ih =>
    intro vs hv
    cases vs with
    | nil=>have:=hv.1;simp at this
    | cons v vs =>
      have h2:=ih (vs:=vs) ⟨by have:=hv.1;simpa using this,fun j g1 g2=>by
        have:=hv.2 (j+1) (by simpa using g1) (by simpa using g2)
        simpa using this⟩
      refine ⟨by have:=h2.1;simpa using this,fun j g1 g2=>?_⟩
      cases j with
      | zero=>exact (hv.2 0 (by simp) (by simp)).er h
      | succ j=>have:=h2.2 j (by simpa using g1) (by simpa using g2);simpa using this
theorem DC.er {P:Program} {F:FuncId} {args args':List D} {h:List (Option (List C))} {R:D→List (Option (List C))→Prop} (hD:DC P F args' h R) (ha:CoDs args args'):DC P F args h R:=fun I w s vs H hv =>
  hD I w s vs H (by have:=ha.rd (vs:=vs.toList) (by simpa using hv);simpa using this)
end Go.CT
