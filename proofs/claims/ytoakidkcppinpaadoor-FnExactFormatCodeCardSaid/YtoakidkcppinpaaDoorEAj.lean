/- Arguments that hold slices and structs in depth: what the claim's frame reads of them, as plain data. -/
import Derived.ChangeArms
import Derived.DataReads
import Derived.SizedLaws
import Derived.ProofKit
import Derived.Test.YtoakidkcppinpaaDoorEAy
set_option linter.unusedVariables false
set_option linter.unusedSimpArgs false
set_option linter.unusedSectionVars false
set_option maxHeartbeats 16000000
set_option maxRecDepth 100000
namespace Go.CT
variable [Yn]
open Go.RowKit
inductive Sh (P : Program) : TypeId → List C → Prop
  | int {t:TypeId} {k:IntKind} {n:Int} (h:P.underlying t=some (.int k)) (hn:InK k n):Sh P t [.v (.int k n)]
  | bool {t:TypeId} {b:Bool} (h:P.underlying t=some .bool):Sh P t [.v (.bool b)]
  | sl {t e:TypeId} {xs:List (List C)} (h:P.underlying t=some (.slice e)) (hm:xs.length≤mx) (hx:∀ r ∈ xs,Sh P e r):Sh P t [.isl (P.cellsOf e) xs]
  | st {t:TypeId} {fs:Array Field} {kss:List (List C)} (h:P.underlying t=some (.struct fs)) (hl:kss.length=fs.size) (hx:∀ (i:Nat) (f:Field) (ks:List C),fs[i]? = some f→kss[i]? = some ks→Sh P f.type ks):Sh P t kss.flatten
def RCl (I:Nat→Prop) (w:World) (cs:List Value) (ks:List C):Prop:=cs.length=ks.length∧∀ (j:Nat) (v:Value) (c:C),cs[j]? = some v→ks[j]? = some c→RC I w Sg0 v c
theorem RCl.nil {I:Nat→Prop} {w:World}:RCl I w [] []:=⟨rfl,fun j v c h=>by simp at h⟩
theorem RCl.app {I:Nat→Prop} {w:World} {a b:List Value} {x y:List C} (h:RCl I w a x) (h':RCl I w b y):RCl I w (a++b) (x++y) :=
  ⟨by simp [h.1,h'.1],fun j v c hv hc=>by
    rcases Nat.lt_or_ge j a.length with hj | hj
    · rw [List.getElem?_append_left hj] at hv
      rw [List.getElem?_append_left (by rw [← h.1];exact hj)] at hc
      exact h.2 j v c hv hc
    · rw [List.getElem?_append_right hj] at hv
      rw [List.getElem?_append_right (by rw [← h.1];exact hj),← h.1] at hc
      exact h'.2 _ v c hv hc⟩
theorem RCl.one {I:Nat→Prop} {w:World} {v:Value} {c:C} (h:RC I w Sg0 v c):RCl I w [v] [c] :=
  ⟨rfl,fun j v' c' hv hc=>by
    match j,hv,hc with
    | 0,hv,hc=>cases hv;cases hc;exact h
    | j+1,hv,hc=>simp at hv⟩
def contig (P : Program) : List Field → Nat → Nat → Bool
  | [],o,n=>o == n
  | f :: r,o,n=>f.offset == o && contig P r (o+P.cellsOf f.type) n
theorem fields_rc {P:Program} {I:Nat→Prop} {w:World} {cs:List Value}:∀ (l:List Field) (o:Nat),contig P l o cs.length=true →
    (∀ f ∈ l,∃ ks,RCl I w ((cs.drop f.offset).take (P.cellsOf f.type)) ks∧Sh P f.type ks) →
    ∃ kss:List (List C),kss.length=l.length∧RCl I w (cs.drop o) kss.flatten∧∀ (i:Nat) (f:Field) (ks:List C),l[i]? = some f→kss[i]? = some ks→Sh P f.type ks
  | [],o,h,_=>by
    simp only [contig,beq_iff_eq] at h
    refine ⟨[],rfl,?_,fun i f ks hf=>by simp at hf⟩
    rw [h,List.drop_length]
    exact RCl.nil
  | f :: r,o,h,hf=>by
    simp only [contig,Bool.and_eq_true,beq_iff_eq] at h
    obtain ⟨h1,h2⟩:=h
    obtain ⟨ks,hk,hs⟩:=hf f (by simp)
    obtain ⟨kss,g1,g2,g3⟩:=fields_rc r (o+P.cellsOf f.type) h2 fun g hg=>hf g (by simp [hg])
    refine ⟨ks :: kss,by simp [g1],?_,fun i g k hi hki=>?_⟩
    · rw [h1] at hk
      have e:cs.drop o=(cs.drop o).take (P.cellsOf f.type)++cs.drop (o+P.cellsOf f.type):=by
        rw [← List.drop_drop,List.take_append_drop]
      rw [e,List.flatten_cons]
      exact hk.app g2
    · match i,hi,hki with
      | 0,hi,hki =>
        cases hi;cases hki;exact hs
      | i+1,hi,hki=>exact g3 i g k (by simpa using hi) (by simpa using hki)
structure Cl (P : Program) (T : TypeId → Prop) : Prop where
  cl : ∀ t, T t → (∃ k, P.underlying t = some (.int k)) ∨ P.underlying t = some .bool ∨ (∃ e, P.underlying t = some (.slice e) ∧ T e ∧ 0 < P.cellsOf e ∧ 0 < P.bytesOf e) ∨
    (∃ fs,P.underlying t=some (.struct fs)∧contig P fs.toList 0 (P.cellsOf t)=true∧∀ f ∈ fs.toList,T f.type)
theorem weights_all {H : Type} {P : Program} {e : TypeId} : ∀ {l : List (DataW H)} {d : DataW H}, d ∈ l → ∀ n ∈ d.weights P e, n ∈ DataW.weightsAll P e l
  | a :: r,d,hd,n,hn=>by
    simp only [DataW.weightsAll,List.mem_append]
    rcases List.mem_cons.1 hd with rfl | hd
    · exact .inl hn
    · exact .inr (weights_all hd n hn)
theorem trod_sh {H:Type} {enc:TypeId × Value→H} {P:Program} {w:World} {sp:Nat→Bool} {T:TypeId→Prop} (hT:Cl P T):∀ (fuel:Nat) (t:TypeId) (cs:List Value) (x:DataW H × List MemPlace),T t →
    DataW.trod enc P w 0 sp true fuel t cs=some x→(∀ n ∈ x.1.weights P t,n≤reachBytes)→∃ ks,RCl (fun b=>b<w.heap.size) w cs ks∧Sh P t ks
  | 0,t,cs,x,ht,h,hw=>by simp [DataW.trod] at h
  | fuel+1,t,cs,x,ht,h,hw=>by
    rcases hT.cl t ht with ⟨k,hu⟩ | hu | ⟨e,hu,he,hce,hbe⟩ | ⟨fs,hu,hcg,hfs⟩
    · obtain ⟨m,rfl,rfl,hwf⟩:=DataW.trod_int hu h
      exact ⟨[.v (.int k m)],RCl.one (.v _ _ rfl),.int hu (fits_of_wf hwf)⟩
    · obtain ⟨b,rfl,rfl⟩:=DataW.trod_bool hu h
      exact ⟨[.v (.bool b)],RCl.one (.v _ _ rfl),.bool hu⟩
    · rcases DataW.trod_slice hu h with ⟨rfl,rfl⟩ | ⟨a,len,cap,elems,rest,m,hn,rfl,rfl,hb,hl,hm,hlen,hel,hsp,hns⟩
      · exact ⟨[.isl (P.cellsOf e) []],RCl.one (.isl0 _ _ _ _),.sl hu (Nat.zero_le _) (by simp)⟩
      · obtain rfl:fuel=m:=by omega
        have hmx:mx=281474976710656:=rfl
        have hrb:reachBytes=140737488351232:=rfl
        have hlm:len≤mx:=by
          have h1:=hw (((elems.map (·.1)).length+(rest.map (·.1)).length) * P.bytesOf e) (by simp [DataW.weights,hu])
          simp only [List.length_map] at h1
          have h2:elems.length+rest.length≤(elems.length+rest.length) * P.bytesOf e:=Nat.le_mul_of_pos_right _ hbe
          omega
        have each:∀ i,∃ z:List Value × List C,i<len→w.cells? 0 (a.add (i * P.cellsOf e)) (P.cellsOf e)=some z.1∧RCl (fun b=>b<w.heap.size) w z.1 z.2∧Sh P e z.2:=fun i=>by
          by_cases hi:i<len
          · have hy:i<elems.length:=by omega
            have h1:=hel i hi
            rw [List.getElem?_eq_getElem hy,Option.bind_eq_some_iff] at h1
            obtain ⟨cs',h2,h3⟩:=h1
            obtain ⟨ks,h4,h5⟩:=trod_sh hT fuel e cs' elems[i] he h3 fun n hn=>hw n (by
              simp only [DataW.weights,hu,List.mem_cons,List.mem_append]
              exact .inr (.inl (weights_all (List.mem_map.2 ⟨elems[i],List.getElem_mem hy,rfl⟩) n hn)))
            exact ⟨(cs',ks),fun _=>⟨h2,h4,h5⟩⟩
          · exact ⟨([],[]),fun h=>absurd h hi⟩
        obtain ⟨Z,hZ⟩:=Classical.axiomOfChoice each
        have hxl:((List.range len).map fun i=>(Z i).2).length=len:=by simp
        have hxi:∀ i (h:i<((List.range len).map fun i=>(Z i).2).length),((List.range len).map fun i=>(Z i).2)[i]=(Z i).2:=fun i h=>by simp
        refine ⟨[.isl (P.cellsOf e) ((List.range len).map fun i=>(Z i).2)],RCl.one ?_,.sl hu (by rw [hxl];exact hlm) fun r hr=>?_⟩
        · rcases Nat.eq_zero_or_pos len with h0 | hpos
          · subst h0
            exact .isl0 _ _ _ _
          · obtain ⟨b,off,spot⟩:=a
            have c0:=(World.cells?_some (hZ 0 hpos).1)
            have c00:=c0.2.2 0 hce
            rw [List.getElem?_eq_getElem (by omega)] at c00
            have hspot:spot=none:=by simpa [Addr.add] using World.cell?_spot c00
            subst hspot
            have hcell:∀ i j,i<len→j<P.cellsOf e→w.cell? ⟨b,off+i * P.cellsOf e+j,none⟩=some ((Z i).1.getD j undef):=fun i j hi hj=>by
              have c1:=World.cells?_some (hZ i hi).1
              have c2:=c1.2.2 j hj
              rw [add_plain,add_plain] at c2
              rw [c2,List.getD_eq_getElem?_getD,List.getElem?_eq_getElem (by omega)]
              rfl
            have hbs:b<w.heap.size:=by
              have:=hcell 0 0 hpos hce
              simp only [World.cell?] at this
              split at this
              · rename_i h;exact lt_of_heap h
              · cases this
            have := RC.isl (I := fun b => b < w.heap.size) (w := w) Sg0 b off cap (P.cellsOf e) ((List.range len).map fun i => (Z i).2) (fun i j => (Z i).1.getD j undef) hbs
              (fun i hi=>by
                rw [hxi]
                rw [hxl] at hi
                have g:=hZ i hi
                rw [← g.2.1.1]
                exact (World.cells?_some g.1).2.1)
              (fun i j hi hj=>hcell i j (by rw [hxl] at hi;exact hi) hj)
              (fun i hi j hj=>by
                have hi':=hi
                rw [hxl] at hi'
                have g:=hZ i hi'
                have hj':j<(Z i).2.length:=by have:=hj;rw [hxi i hi] at this;exact this
                have hj2:j<(Z i).1.length:=by rw [g.2.1.1];exact hj'
                refine g.2.1.2 j _ _ ?_ ?_
                · rw [List.getD_eq_getElem?_getD,List.getElem?_eq_getElem hj2];rfl
                · rw [List.getElem?_eq_getElem hj']
                  congr 1
                  simp)
              (by rw [hxl];exact ⟨hl,hlm⟩)
            rw [hxl] at this
            exact this
        · obtain ⟨i,hi,rfl⟩:=List.mem_map.1 hr
          exact (hZ i (by simpa using hi)).2.2
    · obtain ⟨xs,m,hn,rfl,hl,hlen,hf⟩:=DataW.trod_struct hu h
      obtain rfl:fuel=m:=by omega
      have fields:∀ f ∈ fs.toList,∃ ks,RCl (fun b=>b<w.heap.size) w ((cs.drop f.offset).take (P.cellsOf f.type)) ks∧Sh P f.type ks:=fun f hfm=>by
        obtain ⟨i,hi,rfl⟩:=List.getElem_of_mem hfm
        have hi':i<fs.size:=by simpa using hi
        have h1:=hf i fs.toList[i] (by simp [hi'])
        rw [List.getElem?_eq_getElem (by omega)] at h1
        refine trod_sh hT fuel _ _ _ (hfs _ hfm) h1 fun n hn=>hw n ?_
        simp only [DataW.weights,hu]
        exact DataW.weights_mem_each (j:=i) (t:=fs.toList[i].type) (d:=(xs[i]'(by omega)).1) (by simp [hi']) (by simp [hlen,hi']) n hn
      obtain ⟨kss,hk1,hk2,hk3⟩:=fields_rc fs.toList 0 (by rw [hl];exact hcg) fields
      rw [List.drop_zero] at hk2
      exact ⟨kss.flatten,hk2,.st hu (by simpa using hk1) fun i f ks hfi=>hk3 i f ks (by simpa using hfi)⟩
theorem RD.of_cells {I:Nat→Prop} {w:World} {s:Sg} {v:Value} {ks:List C} (h:RCl I w v.cells.toList ks) (h1:ks.length ≠ 1):RD I w s v (.agg ks):=by
  cases v with
  | agg vs =>
    have hl:vs.size=ks.length:=by simpa [Value.cells] using h.1
    refine .agg vs ks hl fun j hj hj'=>?_
    have:=h.2 j vs[j] ks[j] (by simp [Value.cells,hj]) (by simp [hj'])
    exact this.mono (fun _ h=>h) (fun _ _=>rfl) (Shp.refl _) (Sg0.le _)
  | _=>exact absurd h.1.symm (by simpa [Value.cells] using h1)
theorem Sh.int_of {P:Program} {t:TypeId} {k:IntKind} {ks:List C} (hU:P.underlying t=some (.int k)) (h:Sh P t ks):∃ n,ks=[.v (.int k n)]∧InK k n:=by
  cases h with
  | int hu hn=>rw [hU] at hu;cases hu;exact ⟨_,rfl,hn⟩
  | bool hu=>rw [hU] at hu;cases hu
  | sl hu _ _=>rw [hU] at hu;cases hu
  | st hu _ _=>rw [hU] at hu;cases hu
theorem Sh.sl_of {P:Program} {t e:TypeId} {ks:List C} (hU:P.underlying t=some (.slice e)) (h:Sh P t ks):∃ xs,ks=[.isl (P.cellsOf e) xs]∧xs.length≤mx∧∀ r ∈ xs,Sh P e r:=by
  cases h with
  | int hu hn=>rw [hU] at hu;cases hu
  | bool hu=>rw [hU] at hu;cases hu
  | sl hu hm hx=>rw [hU] at hu;cases hu;exact ⟨_,rfl,hm,hx⟩
  | st hu _ _=>rw [hU] at hu;cases hu
theorem Sh.st_of {P : Program} {t : TypeId} {fs : Array Field} {ks : List C} (hU : P.underlying t = some (.struct fs)) (h : Sh P t ks) :
    ∃ kss:List (List C),ks=kss.flatten∧kss.length=fs.size∧∀ (i:Nat) (f:Field) (k:List C),fs[i]? = some f→kss[i]? = some k→Sh P f.type k:=by
  cases h with
  | int hu hn=>rw [hU] at hu;cases hu
  | bool hu=>rw [hU] at hu;cases hu
  | sl hu hm hx=>rw [hU] at hu;cases hu
  | st hu hl hx=>rw [hU] at hu;cases hu;exact ⟨_,rfl,hl,hx⟩
theorem list_of {α : Type} {f : α → List C} {Q : α → Prop} : ∀ (xs : List (List C)), (∀ r ∈ xs, ∃ a, r = f a ∧ Q a) → ∃ l : List α, xs = l.map f ∧ ∀ a ∈ l, Q a
  | [],_=>⟨[],rfl,fun a h=>by simp at h⟩
  | x :: r,h=>by
    obtain ⟨a,rfl,ha⟩:=h x (by simp)
    obtain ⟨l,rfl,hl⟩:=list_of r fun y hy=>h y (by simp [hy])
    exact ⟨a :: l,rfl,fun b hb=>(List.mem_cons.1 hb).elim (fun e=>e ▸ ha) (hl b)⟩
theorem Sh.rows_of {α : Type} {f : α → List C} {Q : α → Prop} {P : Program} {t e : TypeId} {ks : List C} (hU : P.underlying t = some (.slice e)) (h : Sh P t ks) (hr : ∀ r, Sh P e r → ∃ a, r = f a ∧ Q a) :
    ∃ l:List α,ks=[.isl (P.cellsOf e) (l.map f)]∧l.length≤mx∧∀ a ∈ l,Q a:=by
  obtain ⟨xs,rfl,hm,hx⟩:=h.sl_of hU
  obtain ⟨l,rfl,hl⟩:=list_of xs fun r hr'=>hr r (hx r hr')
  exact ⟨l,rfl,by simpa using hm,hl⟩
end Go.CT
namespace Go.CT
open Go.RowKit
variable [Yn]
inductive Mk : C → Prop
  | num (k:IntKind):Mk (.num k)
  | unk:Mk .unk
  | sl (sz:Nat) (xs:List (List C)) (h:∀ r ∈ xs,∀ c ∈ r,Mk c):Mk (.isl sz xs)
  | ep (cs:List C) (h:∀ c ∈ cs,Mk c):Mk (.eptr cs)
def Tu (x x':Value):Prop:=x'=x∨∃ k n n',x = .int k n∧x' = .int k n'
theorem Nm.cell {I:Nat→Prop} {w w':World} (h:Nm I w w') {b off:Nat} {y:Value} (hb:I b) (hc:w.cell? ⟨b,off,none⟩=some y):∃ y',w'.cell? ⟨b,off,none⟩=some y'∧Tu y y':=by
  simp only [World.cell?] at hc
  split at hc
  · rename_i arr T fr e
    obtain ⟨arr',e',_,hj⟩:=h b arr T fr hb e
    simp only [Option.isSome_none,Bool.false_eq_true,if_false] at hc
    rcases hj off y hc with q | ⟨k,n,n',rfl,q⟩
    · exact ⟨y,by simp [World.cell?,e',q],.inl rfl⟩
    · exact ⟨_,by simp only [World.cell?,e'];simpa using q,.inr ⟨k,n,n',rfl,rfl⟩⟩
  · cases hc
theorem RC.mm {I:Nat→Prop} {w w':World} (hN:Nm I w w') {c:C} (hm:Mk c):∀ {s:Sg} {x x':Value},Tu x x'→RC I w s x c→RC I w' s x' c:=by
  induction hm with
  | num k =>
    intro s x x' ht h
    cases h with
    | num _ _ n =>
      rcases ht with rfl | ⟨k',m,m',e,rfl⟩
      · exact .num _ k n
      · cases e;exact .num _ k m'
  | unk =>
    intro s x x' ht h
    cases h with
    | unk _ _ h1 =>
      rcases ht with rfl | ⟨k',m,m',e,rfl⟩
      · exact .unk _ _ h1
      · exact .unk _ _ rfl
  | sl sz xs h ih =>
    intro s x x' ht hr
    have hx:x'=x:=by
      rcases ht with e | ⟨k,m,m',e,_⟩
      · exact e
      · subst e;cases hr
    subst hx
    cases hr with
    | isl0 _ a cap _=>exact .isl0 _ a cap sz
    | isl _ b off cap _ _ y hI hl hc hrd hcap =>
      have each:∀ i j,∃ y',i<xs.length→j<sz→w'.cell? ⟨b,off+i * sz+j,none⟩=some y'∧Tu (y i j) y':=fun i j=>by
        by_cases hij:i<xs.length∧j<sz
        · obtain ⟨y',h1,h2⟩:=hN.cell hI (hc i j hij.1 hij.2)
          exact ⟨y',fun _ _=>⟨h1,h2⟩⟩
        · exact ⟨undef,fun h1 h2=>absurd ⟨h1,h2⟩ hij⟩
      have hY:=fun i j=>Classical.choose_spec (each i j)
      exact .isl _ b off cap sz xs (fun i j => Classical.choose (each i j)) hI hl (fun i j hi hj => (hY i j hi hj).1)
        (fun i hi j hj=>ih _ (List.getElem_mem hi) _ (List.getElem_mem hj) (hY i j hi (by rw [← hl i hi];exact hj)).2 (hrd i hi j hj)) hcap
  | ep cs h ih =>
    intro s x x' ht hr
    have hx:x'=x:=by
      rcases ht with e | ⟨k,m,m',e,_⟩
      · exact e
      · subst e;cases hr
    subst hx
    cases hr with
    | eptr _ b off _ y hI hc hrd =>
      have each:∀ j,∃ y',j<cs.length→w'.cell? ⟨b,off+j,none⟩=some y'∧Tu (y j) y':=fun j=>by
        by_cases hj:j<cs.length
        · obtain ⟨y',h1,h2⟩:=hN.cell hI (hc j hj)
          exact ⟨y',fun _=>⟨h1,h2⟩⟩
        · exact ⟨undef,fun h1=>absurd h1 hj⟩
      have hY:=fun j=>Classical.choose_spec (each j)
      exact .eptr _ b off cs (fun j=>Classical.choose (each j)) hI (fun j hj=>(hY j hj).1) (fun j hj=>ih _ (List.getElem_mem hj) (hY j hj).2 (hrd j hj))
inductive Ws : C → Prop
  | v (x:Value):Ws (.v x)
  | mm {c:C} (h:Mk c):Ws c
  | msl (k sz off len:Nat):Ws (.msl k sz off len)
  | ptr (k off:Nat):Ws (.ptr k off)
  | z:Ws .z
theorem RC.ws {I:Nat→Prop} {w w':World} {s:Sg} {x:Value} {c:C} (hN:Nm I w w') (hs:Shp w w') (h:RC I w s x c) (hw:Ws c):RC I w' s x c:=by
  cases hw with
  | v y=>cases h with | v _ _ h1=>exact .v _ _ h1
  | mm hm=>exact h.mm hN hm (.inl rfl)
  | msl k sz off len =>
    cases h with
    | msl0 _ a _ _ h=>exact .msl0 _ a k sz h
    | msl _ _ b _ _ _ cap arr T fr h hlen hb hcap =>
      obtain ⟨arr',e,hsz⟩:=hs b arr T fr hb
      exact .msl _ k b sz off len cap arr' T fr h hlen e (by omega)
  | ptr k off=>cases h with | ptr _ _ b _ h=>exact .ptr _ k b off h
  | z=>cases h with | z _ a=>exact .z _ a
def WsD : D → Prop
  | .c c=>Ws c
  | .agg cs=>∀ c ∈ cs,Ws c
  | _=>False
theorem RD.ws {I:Nat→Prop} {w w':World} {s:Sg} {x:Value} {d:D} (hN:Nm I w w') (hs:Shp w w') (h:RD I w s x d) (hw:WsD d):RD I w' s x d:=by
  cases h with
  | c _ c h=>exact .c _ _ (h.ws hN hs hw)
  | agg vs cs hl hr=>exact .agg vs cs hl fun j h1 h2=>(hr j h1 h2).ws hN hs (hw _ (List.getElem_mem h2))
  | _=>exact hw.elim
structure Mw (I : Nat → Prop) (w w' : World) : Prop where
  os:w'.os=w.os
  tape:w'.tape=w.tape
  output:w'.output=w.output
  size:w.heap.size≤w'.heap.size
  same:∀ b,b<w.heap.size→¬ I b→w'.heap[b]? = w.heap[b]?
  shp:Shp w w'
  num:Nm I w w'
theorem Mw.sim {I:Nat→Prop} {w w':World} {s:Sg} {hp:Hp} (h0:Yn.n=0) (H:SimH I w s hp) (M:Mw I w w') (hh:∀ k cs,hp k=some (some cs)→∀ c ∈ cs,Ws c):SimH I w' s hp∧ExtW I w s hp I w' s hp:=by
  refine ⟨⟨H.top,fun k cs hk=>?_,H.inj,fun b hb=>Nat.lt_of_lt_of_le (H.imm b hb) M.size,H.yng.step M.size (fun b hb=>absurd hb (by omega)) fun b h => .inl h,H.wri.step M.shp⟩,
    ⟨M.os,M.tape,M.output,M.size,fun b hb hn hl=>M.same b hb fun hi=>hn ⟨hi,by omega⟩,M.shp,M.num,fun b hb => .inl hb,fun b hb => .inl hb⟩⟩
  rcases H.blk k cs hk with h1 | ⟨b,arr,T,h1,h2,h3,h4,h5⟩
  · exact .inl h1
  · refine .inr ⟨b,arr,T,h1,by rw [M.same b (lt_of_heap h2) h4];exact h2,h3,h4,fun j hj=>?_⟩
    obtain ⟨y,hy,hr⟩:=h5 j hj
    exact ⟨y,hy,hr.ws M.num M.shp (hh k cs hk _ (List.getElem_mem hj))⟩
theorem tOf_mem : ∀ {tl : List (Nat × D)} {n : Nat} {d : D}, tOf tl n = some d → (n, d) ∈ tl
  | [],n,d,h=>by simp [tOf] at h
  | (j,y) :: l,n,d,h=>by
    simp only [tOf,upd] at h
    split at h
    · rename_i e
      simp only [Option.some.injEq] at h
      rw [e,h];simp
    · simp [tOf_mem h]
theorem Rc.put {I : Nat → Prop} {w : World} {s : Sg} {a : Act} {tm : Nat → Option D} {hp : Hp} {nt : Nat} (hR : Rc I w s a tm hp nt) {dst : Option Tmp} {v : Value} {d : D} (hd : RD I w s v d) (hf : fitsT nt dst = true) :
    Rc I w s (a.put dst v) (setT tm dst (some d)) hp nt :=
  ⟨hR.H,slots_put hR.tm hR.sz (fun d' e=>by cases e;exact hd) hf,by cases dst<;>simp [Act.put,hR.df],by cases dst<;>simp [Act.put,hR.sz]⟩
def DW (P:Program) (F:FuncId) (args:List D) (R:Int→Prop):Prop :=
  ∀ (I:Nat→Prop) (w:World) (vs:Array Value),(∀ b,I b→b<w.heap.size)→(∀ b,I b→∃ arr T,w.heap[b]? = some (.cells arr T (0,0)))→RDs I w Sg0 vs args →
    Calls P F vs w fun e w'=>∃ n,e = .returned (.int .i64 n)∧R n∧Mw I w w'
theorem DW.imp {P:Program} {F:FuncId} {args:List D} {R R':Int→Prop} (h:DW P F args R) (hr:∀ n,R n→R' n):DW P F args R':=fun I w vs h1 h2 h3 =>
  (h I w vs h1 h2 h3).mono fun e w' ⟨n,e1,e2,e3⟩=>⟨n,e1,hr n e2,e3⟩
section
variable {P:Program} {m:Nat} {f:FuncId} {nt:Nat} {R:D→List (Option (List C))→Prop}
inductive Yt : C → C → Prop
  | v (x:Value):Yt (.v x) (.v x)
  | num (k:IntKind) (n:Int):Yt (.v (.int k n)) (.num k)
  | nn (k:IntKind):Yt (.num k) (.num k)
  | sl (sz : Nat) (xs xs' : List (List C)) (hl : xs.length = xs'.length) (h : ∀ (i : Nat) (r r' : List C), xs[i]? = some r → xs'[i]? = some r' → r.length = r'.length)
      (hc:∀ (i j:Nat) (r r':List C) (c c':C),xs[i]? = some r→xs'[i]? = some r'→r[j]? = some c→r'[j]? = some c'→Yt c c'):Yt (.csl true sz xs) (.isl sz xs')
theorem RC.yt {I:Nat→Prop} {w:World} {c c':C} (h:Yt c c'):∀ {s:Sg} {x:Value},RC I w s x c→@RC ⟨0,fun _=>none⟩ (fun b=>I b∧Yn.n≤b) w Sg0 x c':=by
  induction h with
  | v y=>intro s x h;cases h with | v _ _ h1=>exact @RC.v ⟨0,fun _=>none⟩ _ _ _ _ h1
  | num k n=>intro s x h;cases h with | v _ _ h1=>exact @RC.num ⟨0,fun _=>none⟩ _ _ _ k n
  | nn k=>intro s x h;cases h with | num _ _ n=>exact @RC.num ⟨0,fun _=>none⟩ _ _ _ k n
  | sl sz xs xs' hl hr hc ih =>
    intro s x h
    cases h with
    | csl0 _ a cap _ _ =>
      have:xs'=[]:=List.eq_nil_of_length_eq_zero (by simpa using hl.symm)
      subst this
      exact @RC.isl0 ⟨0,fun _=>none⟩ _ _ _ a cap sz
    | csl _ b off len cap _ _ _ h hN =>
      cases h with
      | isl0 _ _ _ _ =>
        have:xs'=[]:=List.eq_nil_of_length_eq_zero (by simpa using hl.symm)
        subst this
        exact @RC.isl0 ⟨0,fun _=>none⟩ _ _ _ _ cap sz
      | isl _ _ _ _ _ _ z hI hle hcell hrd hcap =>
        rw [hl] at hcap ⊢
        refine @RC.isl ⟨0,fun _=>none⟩ _ _ _ b off cap sz xs' z ⟨hI,by simpa using hN⟩ (fun i hi=>?_) (fun i j hi hj=>hcell i j (by omega) hj) (fun i hi j hj=>?_) hcap
        · have hi':i<xs.length:=by omega
          have:=hr i xs[i] xs'[i] (List.getElem?_eq_getElem hi') (List.getElem?_eq_getElem hi)
          rw [← this];exact hle i hi'
        · have hi':i<xs.length:=by omega
          have e:=hr i xs[i] xs'[i] (List.getElem?_eq_getElem hi') (List.getElem?_eq_getElem hi)
          have hj':j<(xs[i]).length:=by omega
          exact ih i j _ _ _ _ (List.getElem?_eq_getElem hi') (List.getElem?_eq_getElem hi) (List.getElem?_eq_getElem hj') (List.getElem?_eq_getElem hj) (hrd i hi' j hj')
def Yts (cs cs':List C):Prop:=cs.length=cs'.length∧∀ (j:Nat) (c c':C),cs[j]? = some c→cs'[j]? = some c'→Yt c c'
theorem Yt.map {α:Type} {sz:Nat} {l:List α} {f g:α→List C} (h:∀ a ∈ l,Yts (f a) (g a)):Yt (.csl true sz (l.map f)) (.isl sz (l.map g)):=by
  refine .sl sz _ _ (by simp) (fun i r r' hr hr'=>?_) (fun i j r r' c c' hr hr' hc hc'=>?_)
  · simp only [List.getElem?_map,Option.map_eq_some_iff] at hr hr'
    obtain ⟨a,ha,rfl⟩:=hr
    obtain ⟨a',ha',rfl⟩:=hr'
    rw [ha] at ha';cases ha'
    exact (h a (List.mem_of_getElem? ha)).1
  · simp only [List.getElem?_map,Option.map_eq_some_iff] at hr hr'
    obtain ⟨a,ha,rfl⟩:=hr
    obtain ⟨a',ha',rfl⟩:=hr'
    rw [ha] at ha';cases ha'
    exact (h a (List.mem_of_getElem? ha)).2 j c c' hc hc'
theorem Yts.nil:Yts [] []:=⟨rfl,fun j c c' h=>by simp at h⟩
theorem Yts.cons {c c':C} {cs cs':List C} (h:Yt c c') (h':Yts cs cs'):Yts (c :: cs) (c' :: cs') :=
  ⟨by simp [h'.1],fun j d d' g g'=>by
    cases j with
    | zero=>simp only [List.getElem?_cons_zero,Option.some.injEq] at g g';subst g;subst g';exact h
    | succ j=>exact h'.2 j d d' (by simpa using g) (by simpa using g')⟩
theorem Yts.app {a a' b b':List C} (h:Yts a a') (h':Yts b b'):Yts (a++b) (a'++b') :=
  ⟨by simp [h.1,h'.1],fun j d d' g g'=>by
    rcases Nat.lt_or_ge j a.length with hj | hj
    · rw [List.getElem?_append_left hj] at g
      rw [List.getElem?_append_left (by rw [← h.1];exact hj)] at g'
      exact h.2 j d d' g g'
    · rw [List.getElem?_append_right hj] at g
      rw [List.getElem?_append_right (by rw [← h.1];exact hj),← h.1] at g'
      exact h'.2 _ d d' g g'⟩
inductive YtD : D → D → Prop
  | c {a b:C} (h:Yt a b):YtD (.c a) (.c b)
  | agg {a b:List C} (h:Yts a b):YtD (.agg a) (.agg b)
theorem RD.yt {I:Nat→Prop} {w:World} {s:Sg} {x:Value} {d d':D} (h:YtD d d') (hr:RD I w s x d) : @RD ⟨0,fun _=>none⟩ (fun b=>I b∧Yn.n≤b) w Sg0 x d':=by
  cases h with
  | c h=>cases hr with | c _ _ hr=>exact @RD.c ⟨0,fun _=>none⟩ _ _ _ _ _ (hr.yt h)
  | agg h =>
    cases hr with
    | agg vs _ hl hr =>
      have h3:=h.1
      refine @RD.agg ⟨0,fun _=>none⟩ _ _ _ vs _ (by rw [hl,h.1]) fun j h1 h2=>?_
      exact (hr j h1 (by omega)).yt (h.2 j _ _ (List.getElem?_eq_getElem (by omega)) (List.getElem?_eq_getElem h2))
inductive YtDs : List D → List D → Prop
  | nil:YtDs [] []
  | cons {d d':D} {l l':List D} (h:YtD d d') (h':YtDs l l'):YtDs (d :: l) (d' :: l')
theorem YtDs.len {l l':List D} (h:YtDs l l'):l.length=l'.length:=by
  induction h with
  | nil=>rfl
  | cons _ _ ih=>simp [ih]
theorem YtDs.at {l l':List D} (h:YtDs l l'):∀ (j:Nat) (d d':D),l[j]? = some d→l'[j]? = some d'→YtD d d':=by
  induction h with
  | nil=>intro j d d' h;simp at h
  | cons h h' ih =>
    intro j d d' g g'
    cases j with
    | zero=>simp only [List.getElem?_cons_zero,Option.some.injEq] at g g';subst g;subst g';exact h
    | succ j=>exact ih j d d' (by simpa using g) (by simpa using g')
inductive Od (hT : Hp) : C → Prop
  | v (x:Value):Od hT (.v x)
  | sl (sz:Nat) (xs:List (List C)) (h:∀ r ∈ xs,∀ c ∈ r,Od hT c):Od hT (.csl false sz xs)
  | nil (sz:Nat):Od hT (.isl sz [])
  | msl (k sz off len:Nat) (h:hT k ≠ none):Od hT (.msl k sz off len)
  | ptr (k off:Nat) (h:hT k ≠ none):Od hT (.ptr k off)
theorem RC.od {I:Nat→Prop} {w w':World} {hT:Hp} (hM:∀ b,I b→b<Yn.n→w'.heap[b]? = w.heap[b]?) (hs:Shp w w') {c:C} (h:Od hT c):∀ {s s':Sg} {x:Value},(∀ k,hT k ≠ none→s' k=s k)→RC I w s x c→RC (fun b=>I b∧b<Yn.n) w' s' x c:=by
  induction h with
  | v y=>intro s s' x _ h;cases h with | v _ _ h1=>exact .v _ _ h1
  | sl sz xs h ih =>
    intro s s' x _ h
    cases h with
    | csl0 _ a cap _ _=>exact .csl0 _ a cap sz false
    | csl _ b off len cap _ _ _ h hN =>
      cases h with
      | isl0 _ _ _ _=>exact .csl _ b off 0 cap sz [] false (.isl0 _ _ cap sz) hN
      | isl _ _ _ _ _ _ z hI hle hcell hrd hcap =>
        have hb:b<Yn.n:=by simpa using hN
        exact .csl _ b off _ cap sz xs false (.isl _ b off cap sz xs z ⟨hI, hb⟩ hle (fun i j hi hj => (cell_of_heap (hM b hI hb)).trans (hcell i j hi hj))
          (fun i hi j hj=>ih _ (List.getElem_mem hi) _ (List.getElem_mem hj) (fun _ _=>rfl) (hrd i hi j hj)) hcap) hN
  | nil sz =>
    intro s s' x _ h
    generalize hxs:([]:List (List C))=xs at h
    cases h with
    | isl0 _ a cap _=>exact .isl0 _ a cap sz
    | isl _ b off cap _ _ y hI hl hc hr hcap =>
      subst hxs
      exact .isl0 _ _ cap sz
  | msl k sz off len hk =>
    intro s s' x hk' h
    cases h with
    | msl0 _ a _ _ h=>exact .msl0 _ a k sz (by rw [hk' k hk];exact h)
    | msl _ _ b _ _ _ cap arr T fr h hlen hb hcap =>
      obtain ⟨arr',e,hsz⟩:=hs b arr T fr hb
      exact .msl _ k b sz off len cap arr' T fr (by rw [hk' k hk];exact h) hlen e (by omega)
  | ptr k off hk=>intro s s' x hk' h;cases h with | ptr _ _ b _ h=>exact .ptr _ k b off (by rw [hk' k hk];exact h)
def OdD (hT : Hp) : D → Prop
  | .c c=>Od hT c
  | .agg cs=>∀ c ∈ cs,Od hT c
  | _=>False
theorem RD.od {I:Nat→Prop} {w w':World} {hT:Hp} (hM:∀ b,I b→b<Yn.n→w'.heap[b]? = w.heap[b]?) (hs:Shp w w') {s s':Sg} {x:Value} {d:D} (h:OdD hT d) (hk:∀ k,hT k ≠ none→s' k=s k) (hr:RD I w s x d):RD (fun b=>I b∧b<Yn.n) w' s' x d:=by
  cases hr with
  | c _ c hr=>exact .c _ _ (hr.od hM hs h hk)
  | agg vs cs hl hr=>exact .agg vs cs hl fun j h1 h2=>(hr j h1 h2).od hM hs (h _ (List.getElem_mem h2)) hk
  | _=>exact h.elim
inductive Yw : C → C → Prop
  | num (k:IntKind) (n:Int):Yw (.v (.int k n)) (.num k)
  | nn (k:IntKind):Yw (.num k) (.num k)
  | sl (sz : Nat) (xs xs' : List (List C)) (hl : xs.length = xs'.length) (h : ∀ (i : Nat) (r r' : List C), xs[i]? = some r → xs'[i]? = some r' → r.length = r'.length)
      (hc:∀ (i j:Nat) (r r':List C) (c c':C),xs[i]? = some r→xs'[i]? = some r'→r[j]? = some c→r'[j]? = some c'→Yw c c'):Yw (.csl true sz xs) (.csl true sz xs')
  | nv (v:Value) (hv:∀ k n,v ≠ .int k n):Yw (.v v) (.v v)
  | isl (sz : Nat) (xs xs' : List (List C)) (hl : xs.length = xs'.length) (h : ∀ (i : Nat) (r r' : List C), xs[i]? = some r → xs'[i]? = some r' → r.length = r'.length)
      (hc:∀ (i j:Nat) (r r':List C) (c c':C),xs[i]? = some r→xs'[i]? = some r'→r[j]? = some c→r'[j]? = some c'→Yw c c'):Yw (.isl sz xs) (.isl sz xs')
theorem RC.yw {I:Nat→Prop} {w w':World} (hN:Nm I w w') {c c':C} (h:Yw c c'):∀ {s s':Sg} {x x':Value},Tu x x'→RC I w s x c→RC I w' s' x' c':=by
  induction h with
  | num k n =>
    intro s s' x x' ht h
    cases h with
    | v _ _ h1 =>
      rcases ht with rfl | ⟨k',m,m',e,rfl⟩
      · exact .num _ k n
      · cases e;exact .num _ k m'
  | nn k =>
    intro s s' x x' ht h
    cases h with
    | num _ _ n =>
      rcases ht with rfl | ⟨k',m,m',e,rfl⟩
      · exact .num _ k n
      · cases e;exact .num _ k m'
  | sl sz xs xs' hl hr hc ih =>
    intro s s' x x' ht h
    have hx:x'=x:=by
      rcases ht with e | ⟨k,m,m',e,_⟩
      · exact e
      · subst e;cases h
    subst hx
    cases h with
    | csl0 _ a cap _ _ =>
      have:xs'=[]:=List.eq_nil_of_length_eq_zero (by simpa using hl.symm)
      subst this
      exact .csl0 _ a cap sz true
    | csl _ b off len cap _ _ _ h hB =>
      refine .csl _ b off len cap sz xs' true ?_ hB
      cases h with
      | isl0 _ _ _ _ =>
        have:xs'=[]:=List.eq_nil_of_length_eq_zero (by simpa using hl.symm)
        subst this
        exact .isl0 _ _ cap sz
      | isl _ _ _ _ _ _ z hI hle hcell hrd hcap =>
        rw [hl] at hcap ⊢
        have each:∀ i j,∃ y',i<xs.length→j<sz→w'.cell? ⟨b,off+i * sz+j,none⟩=some y'∧Tu (z i j) y':=fun i j=>by
          by_cases hij:i<xs.length∧j<sz
          · obtain ⟨y',h1,h2⟩:=hN.cell hI (hcell i j hij.1 hij.2)
            exact ⟨y',fun _ _=>⟨h1,h2⟩⟩
          · exact ⟨undef,fun h1 h2=>absurd ⟨h1,h2⟩ hij⟩
        have hY:=fun i j=>Classical.choose_spec (each i j)
        have hr2:∀ i (hi:i<xs.length) (hi':i<xs'.length),(xs[i]).length=(xs'[i]).length:=fun i hi hi'=>hr i xs[i] xs'[i] (List.getElem?_eq_getElem hi) (List.getElem?_eq_getElem hi')
        refine .isl _ b off cap sz xs' (fun i j=>Classical.choose (each i j)) hI (fun i hi=>?_) (fun i j hi hj=>(hY i j (by omega) hj).1) (fun i hi j hj=>?_) hcap
        · have hi':i<xs.length:=by omega
          rw [← hr2 i hi' hi];exact hle i hi'
        · have hi':i<xs.length:=by omega
          have e:=hr2 i hi' hi
          have hj':j<(xs[i]).length:=by omega
          exact ih i j _ _ _ _ (List.getElem?_eq_getElem hi') (List.getElem?_eq_getElem hi) (List.getElem?_eq_getElem hj') (List.getElem?_eq_getElem hj) (hY i j hi' (by rw [← hle i hi'];exact hj')).2 (hrd i hi' j hj')
  | nv v hv =>
    intro s s' x x' ht h
    cases h with
    | v _ _ h1 =>
      rcases ht with rfl | ⟨k',m,m',e,rfl⟩
      · exact .v _ _ h1
      · exact absurd e (hv k' m)
  | isl sz xs xs' hl hr hc ih =>
    intro s s' x x' ht h
    have hx:x'=x:=by
      rcases ht with e | ⟨k,m,m',e,_⟩
      · exact e
      · subst e;cases h
    subst hx
    cases h with
    | isl0 _ _ cap _ =>
      have:xs'=[]:=List.eq_nil_of_length_eq_zero (by simpa using hl.symm)
      subst this
      exact .isl0 _ _ cap sz
    | isl _ b off cap _ _ z hI hle hcell hrd hcap =>
      rw [hl] at hcap ⊢
      have each:∀ i j,∃ y',i<xs.length→j<sz→w'.cell? ⟨b,off+i * sz+j,none⟩=some y'∧Tu (z i j) y':=fun i j=>by
        by_cases hij:i<xs.length∧j<sz
        · obtain ⟨y',h1,h2⟩:=hN.cell hI (hcell i j hij.1 hij.2)
          exact ⟨y',fun _ _=>⟨h1,h2⟩⟩
        · exact ⟨undef,fun h1 h2=>absurd ⟨h1,h2⟩ hij⟩
      have hY:=fun i j=>Classical.choose_spec (each i j)
      have hr2:∀ i (hi:i<xs.length) (hi':i<xs'.length),(xs[i]).length=(xs'[i]).length:=fun i hi hi'=>hr i xs[i] xs'[i] (List.getElem?_eq_getElem hi) (List.getElem?_eq_getElem hi')
      refine .isl _ b off cap sz xs' (fun i j=>Classical.choose (each i j)) hI (fun i hi=>?_) (fun i j hi hj=>(hY i j (by omega) hj).1) (fun i hi j hj=>?_) hcap
      · have hi':i<xs.length:=by omega
        rw [← hr2 i hi' hi];exact hle i hi'
      · have hi':i<xs.length:=by omega
        have e:=hr2 i hi' hi
        have hj':j<(xs[i]).length:=by omega
        exact ih i j _ _ _ _ (List.getElem?_eq_getElem hi') (List.getElem?_eq_getElem hi) (List.getElem?_eq_getElem hj') (List.getElem?_eq_getElem hj) (hY i j hi' (by rw [← hle i hi'];exact hj')).2 (hrd i hi' j hj')
theorem Yw.map {α:Type} {sz:Nat} {l:List α} {f g:α→List C} (h:∀ a ∈ l,(f a).length=(g a).length∧∀ (j:Nat) (c c':C),(f a)[j]? = some c→(g a)[j]? = some c'→Yw c c'):Yw (.csl true sz (l.map f)) (.csl true sz (l.map g)):=by
  refine .sl sz _ _ (by simp) (fun i r r' hr hr'=>?_) (fun i j r r' c c' hr hr' hc hc'=>?_)
  · simp only [List.getElem?_map,Option.map_eq_some_iff] at hr hr'
    obtain ⟨a,ha,rfl⟩:=hr
    obtain ⟨a',ha',rfl⟩:=hr'
    rw [ha] at ha';cases ha'
    exact (h a (List.mem_of_getElem? ha)).1
  · simp only [List.getElem?_map,Option.map_eq_some_iff] at hr hr'
    obtain ⟨a,ha,rfl⟩:=hr
    obtain ⟨a',ha',rfl⟩:=hr'
    rw [ha] at ha';cases ha'
    exact (h a (List.mem_of_getElem? ha)).2 j c c' hc hc'
inductive Sm (hT : Hp) : C → C → Prop
  | od {c:C} (h:Od hT c):Sm hT c c
  | yw {c c':C} (h:Yw c c'):Sm hT c c'
inductive Sms (hT : Hp) : List C → List C → Prop
  | nil:Sms hT [] []
  | cons {c c':C} {l l':List C} (h:Sm hT c c') (h':Sms hT l l'):Sms hT (c :: l) (c' :: l')
theorem Sms.od {hT : Hp} : ∀ {cs : List C}, (∀ c ∈ cs, Od hT c) → Sms hT cs cs
  | [],_ => .nil
  | c :: r,h => .cons (.od (h c (by simp))) (Sms.od fun c' hc=>h c' (by simp [hc]))
theorem Sms.len {hT:Hp} {l l':List C} (h:Sms hT l l'):l.length=l'.length:=by
  induction h with
  | nil=>rfl
  | cons _ _ ih=>simp [ih]
theorem Sms.at {hT:Hp} {l l':List C} (h:Sms hT l l'):∀ (j:Nat) (d d':C),l[j]? = some d→l'[j]? = some d'→Sm hT d d':=by
  induction h with
  | nil=>intro j d d' h;simp at h
  | cons h h' ih =>
    intro j d d' g g'
    cases j with
    | zero=>simp only [List.getElem?_cons_zero,Option.some.injEq] at g g';subst g;subst g';exact h
    | succ j=>exact ih j d d' (by simpa using g) (by simpa using g')
inductive SmD (hT : Hp) : D → D → Prop
  | c {a b:C} (h:Sm hT a b):SmD hT (.c a) (.c b)
  | agg {a b:List C} (h:Sms hT a b):SmD hT (.agg a) (.agg b)
theorem RC.sm {I:Nat→Prop} {w w':World} {hT:Hp} (hM:∀ b,I b→b<Yn.n→w'.heap[b]? = w.heap[b]?) (hN:Nm I w w') (hs:Shp w w') {s s':Sg} (hk:∀ k,hT k ≠ none→s' k=s k) {x:Value} {c c':C} (h:Sm hT c c') (hr:RC I w s x c):RC I w' s' x c':=by
  cases h with
  | od h=>exact (hr.od hM hs h hk).mono (fun _ h=>h.1) (fun _ _=>rfl) (Shp.refl _) (Sg.le_refl _)
  | yw h=>exact hr.yw hN h (.inl rfl)
theorem RD.sm {I:Nat→Prop} {w w':World} {hT:Hp} (hM:∀ b,I b→b<Yn.n→w'.heap[b]? = w.heap[b]?) (hN:Nm I w w') (hs:Shp w w') {s s':Sg} (hk:∀ k,hT k ≠ none→s' k=s k) {x:Value} {d d':D} (h:SmD hT d d') (hr:RD I w s x d):RD I w' s' x d':=by
  cases h with
  | c h=>cases hr with | c _ _ hr=>exact .c _ _ (hr.sm hM hN hs hk h)
  | agg h =>
    cases hr with
    | agg vs _ hl hr =>
      have h3:=h.len
      exact .agg vs _ (by omega) fun j h1 h2=>(hr j h1 (by omega)).sm hM hN hs hk (h.at j _ _ (List.getElem?_eq_getElem (by omega)) (List.getElem?_eq_getElem h2))
theorem XK.mark {all : Array Oper} {i : Nat} {o : Oper} {rest : List Oper} {lg : Lg} {nx0 : Nat} {k : List Item} {S : Ms} {F : FuncId} {ds args : List D} {R' : Int → Prop} (tl : List (Nat × D)) (hl : List (Nat × Option (List C)))
    (hD : @DW ⟨0,fun _=>none⟩ P F args R') (hfn:fnOK P F=true) (hy:YtDs ds args) (hhl:∀ p ∈ hl,∃ cs cs',S.hp p.1=some (some cs)∧p.2=some cs'∧Sms (hOf hl) cs cs') (htl:∀ p ∈ tl,∃ d,S.tm p.1=some d∧SmD (hOf hl) d p.2)
    (next:∀ n,R' n→XK true P m f nt R (some ⟨all,false,i+1,rest,lg,nx0⟩) k ⟨setT (tOf tl) o.dst (some (DI .i64 n)),hOf hl,S.nx⟩)
    (hop:o.op = .call (getCall o):=by rfl) (hg:o.guard=none:=by rfl) (hc:calleeOf S.tm (getCall o)=some (F,ds):=by rfl) (hok:okB S.tm (getCall o).operands.toList=true:=by rfl)
    (hf:fitsT nt o.dst=true:=by rfl) :
    XK true P m f nt R (some ⟨all,false,i,o :: rest,lg,nx0⟩) k S:=by
  simp only [XK,dopsL]
  refine Pre.intro (.inr ⟨⟨rfl,rfl⟩,fun ho I w s a hR Q Kc hK=>?_⟩)
  unfold wpOp
  simp only [ho]
  have hw:Region.wanted o (yielded all a.tmps)=true:=by simp [Region.wanted,hg]
  rw [if_pos hw]
  refine .inl ?_
  unfold Oper.wp
  obtain ⟨vs,hrun,hvs⟩:=call_run (P:=P) hR.tm hop hc (okP_of hok) hfn
  rw [hrun]
  have hlen:=hy.len
  refine (hD (fun b=>I b∧Yn.n≤b) w vs (fun b hb=>hR.H.imm b hb.1) (fun b hb=>hR.H.wri b hb.1 hb.2) ⟨by rw [hvs.1,hlen],fun j h1 h2 =>
    (hvs.2 j h1 (by omega)).yt (hy.at j _ _ (List.getElem?_eq_getElem (by omega)) (List.getElem?_eq_getElem h2))⟩).mono ?_
  rintro e w' ⟨n,rfl,hn,M⟩
  let s':Sg:=fun k=>match hOf hl k with | none=>none | some _=>s k
  have hs':∀ k,hOf hl k ≠ none→s' k=s k:=fun k hk=>by
    simp only [s']
    cases h:hOf hl k with
    | none=>exact absurd h hk
    | some _=>rfl
  have hold:∀ b,I b→b<Yn.n→w'.heap[b]? = w.heap[b]? := fun b hb hn=>M.same b (hR.H.imm b hb) fun q=>by omega
  have hnum:Nm I w w':=fun b arr T fr hb e=>by
    by_cases q:Yn.n≤b
    · exact M.num b arr T fr ⟨hb,q⟩ e
    · exact ⟨arr,by rw [hold b hb (by omega)];exact e,rfl,fun j y hy => .inl hy⟩
  have hin:∀ k cs',hOf hl k=some (some cs')→∃ cs,S.hp k=some (some cs)∧Sms (hOf hl) cs cs':=fun k cs' hk=>by
    obtain ⟨cs,cs2,h1,h2,h3⟩:=hhl _ (hOf_mem hk)
    simp only [Option.some.injEq] at h2
    subst h2
    exact ⟨cs,h1,h3⟩
  have hlive:∀ b,Live s' (hOf hl) b→Live s S.hp b:=by
    rintro b ⟨k,cs,hk,hs⟩
    rw [hs' k (by rw [hk];simp)] at hs
    obtain ⟨cs0,h1,_⟩:=hin k cs hk
    exact ⟨k,cs0,h1,hs⟩
  have H':SimH I w' s' (hOf hl):=by
    refine ⟨fun k hk=>by simp [s',hk],fun k cs hk=>?_,fun k k' b cs cs' h1 h2 h3 h4=>?_,fun b hb=>Nat.lt_of_lt_of_le (hR.H.imm b hb) M.size,hR.H.yng.step M.size (fun b hb=>M.same b (Nat.lt_of_lt_of_le hb hR.H.yng.1) fun q=>by omega) fun b hb => .inl (hlive b hb),hR.H.wri.step M.shp⟩
    · obtain ⟨cs0,g1,g2⟩:=hin k cs hk
      have hlen2:=g2.len
      rw [hs' k (by rw [hk];simp)]
      rcases hR.H.blk k cs0 g1 with ⟨h1,h1'⟩ | ⟨b,arr,T,h1,h2,h3,h4,h5⟩
      · exact .inl ⟨h1,by subst h1';exact List.eq_nil_of_length_eq_zero hlen2.symm⟩
      · refine .inr ⟨b,arr,T,h1,by rw [M.same b (lt_of_heap h2) fun q=>h4 q.1];exact h2,by omega,h4,fun j hj=>?_⟩
        obtain ⟨y,hy',hr⟩:=h5 j (by omega)
        exact ⟨y,hy',hr.sm hold hnum M.shp hs' (g2.at j _ _ (List.getElem?_eq_getElem (by omega)) (List.getElem?_eq_getElem hj))⟩
    · rw [hs' k (by rw [h1];simp)] at h3
      rw [hs' k' (by rw [h2];simp)] at h4
      obtain ⟨_,f1,_⟩:=hin k cs h1
      obtain ⟨_,f2,_⟩:=hin k' cs' h2
      exact hR.H.inj k k' b _ _ f1 f2 h3 h4
  have R1:Rc I w' s' a (tOf tl) (hOf hl) nt:=⟨H',fun n d hd=>by
    obtain ⟨d0,h1,h2⟩:=htl _ (tOf_mem hd)
    exact (hR.tm n d0 h1).sm hold hnum M.shp hs' h2,hR.df,hR.sz⟩
  exact hK _ w' _ s' _ (next n hn) (R1.put (rd_int _ _) hf) ⟨M.os,M.tape,M.output,M.size,fun b hb hn _=>M.same b hb hn,M.shp,hnum,fun b hb => .inl hb,fun b hb => .inl (hlive b hb)⟩
end
def drvW (K : Bool) (P : Program) (m : Nat) (f : FuncId) (nt : Nat) (R : D → List (Option (List C)) → Prop) (rs : List ResultVar) : Nat → Option Rg → List Item → Ms → Prop
  | 0,r,k,S=>XK K P m f nt R r k S
  | n+1,some ⟨all,dr,i,[],lg,nx0⟩,k,S=>drvW K P m f nt R rs n none k ⟨S.tm,S.hp,nx0+64 * all.size⟩
  | n+1,some ⟨all,dr,i,o :: rest,lg,nx0⟩,k,S=>if isFn o then XK K P m f nt R (some ⟨all,dr,i,o :: rest,lg,nx0⟩) k S else
      (match nxt P m nx0 all i o S.tm S.hp with
      | some (vc,d,up,rd)=>(vc∧fitsT nt o.dst=true∧(dr=true→lgokF nx0 all lg i rd (up.map (·.1))=true)) ∧
          drvW K P m f nt R rs n (some ⟨all,dr,i+1,rest,upd lg i (some (rd,up.map (·.1))),nx0⟩) k ⟨setT S.tm o.dst d,appUp S.hp up,S.nx⟩
      | none=>XK K P m f nt R (some ⟨all,dr,i,o :: rest,lg,nx0⟩) k S)
  | n+1,none,[],S=>retP P m R rs S
  | n+1,none,.code (.seq a b) :: k,S=>drvW K P m f nt R rs n none (.code a :: .code b :: k) S
  | n+1,none,.code .skip :: k,S=>drvW K P m f nt R rs n none k S
  | n+1,none,.code (.label _) :: k,S=>drvW K P m f nt R rs n none k S
  | n+1,none,.inBlock _ :: k,S=>drvW K P m f nt R rs n none k S
  | n+1,none,.code (.block id c) :: k,S=>drvW K P m f nt R rs n none (.code c :: .inBlock id :: k) S
  | n+1,none,.code (.cond c x y) :: k,S=>(match evT S.tm c with
      | some d=>(match peelD d with
        | .c (.v (.bool t))=>peelB d=true∧(t=true→drvW K P m f nt R rs n none (.code x :: k) S)∧(t=false→drvW K P m f nt R rs n none (.code y :: k) S)
        | _=>False)
      | none=>False)
  | n+1,none,.code (.exit id) :: k,S=>(match exitTo id k with
      | some k'=>drvW K P m f nt R rs n none k' S
      | none=>False)
  | n+1,none,.code .ret :: k,S=>retP P m R rs S
  | n+1,none,.code (.region id all dr) :: k,S=>(dr=true→drawOK all=true)∧drvW K P m f nt R rs n (some ⟨all,dr,0,all.toList,fun _=>none,S.nx⟩) k S
  | n+1,none,k,S=>XK K P m f nt R none k S
section
variable {K:Bool} {P:Program} {m:Nat} {f:FuncId} {nt:Nat} {R:D→List (Option (List C))→Prop}
end
attribute [go_sem] drvW
end Go.CT
namespace Go.CT
variable [Yn]
def blks : Nat → List (List C) → List (Nat × Option (List C))
  | _,[]=>[]
  | b,x :: r=>(b,some x) :: blks (b+1) r
theorem hOf_blks : ∀ (L : List (List C)) (b k : Nat), hOf (blks b L) k = if b ≤ k then (L[k - b]?).map some else none
  | [],b,k=>by simp [blks,hOf]
  | x :: r,b,k=>by
    simp only [blks,hOf,upd]
    by_cases h:k=b
    · subst h;simp
    · rw [if_neg h,hOf_blks r (b+1) k]
      by_cases h2:b≤k
      · rw [if_pos h2,if_pos (by omega)]
        obtain ⟨j,hj⟩:∃ j,k - b=j+1:=⟨k - b - 1,by omega⟩
        rw [hj,show k - (b+1)=j by omega]
        rfl
      · rw [if_neg h2,if_neg (by omega)]
theorem HpOK_blks {hT hS : Hp} {r : Nat → Option Nat} {fz : List Nat} : ∀ {L : List (List C)} {b : Nat}, (∀ i cs, L[i]? = some cs → ∃ k', r (b + i) = some k' ∧ k' ∉ fz ∧ ∃ cs', hS k' = some (some cs') ∧ CMs hT r hS fz cs cs') → HpOK hT r hS fz (blks b L)
  | [],b,h=>by simp [blks,HpOK]
  | x :: l,b,h=>by
    simp only [blks,HpOK]
    refine ⟨?_,HpOK_blks fun i cs hi=>?_⟩
    · obtain ⟨k',h1,h2,cs',h3,h4⟩:=h 0 x rfl
      rw [Nat.add_zero] at h1
      rw [h1]
      simp only [h3]
      exact ⟨h2,h4⟩
    · have:=h (i+1) cs hi
      rwa [show b+(i+1)=b+1+i by omega] at this
theorem keys_blks : ∀ (L : List (List C)) (b : Nat), (blks b L).filterMap (fun p => p.2.map fun _ => p.1) = (List.range L.length).map (b + ·)
  | [],b=>rfl
  | x :: r,b=>by
    rw [blks,List.filterMap_cons]
    simp only [Option.map_some,List.length_cons,keys_blks r (b+1)]
    rw [List.range_succ_eq_map,List.map_cons,List.map_map]
    simp only [Nat.add_zero,List.cons.injEq,true_and]
    exact List.map_congr_left fun i _=>by simp only [Function.comp];omega
theorem nodup_blks {A : List (Nat × Option (List C))} {L : List (List C)} {b : Nat} {r : Nat → Option Nat} {g : Nat → Nat} (hr : ∀ i, i < L.length → r (b + i) = some (g i)) (hg : ∀ i j, i < L.length → j < L.length → g i = g j → i = j)
    (hA:((A.filterMap fun p=>p.2.map fun _=>p.1).filterMap r).Nodup) (hd:∀ k ∈ (A.filterMap fun p=>p.2.map fun _=>p.1).filterMap r,∀ i,i<L.length→k ≠ g i) :
    (((A++blks b L).filterMap fun p=>p.2.map fun _=>p.1).filterMap r).Nodup:=by
  rw [List.filterMap_append,List.filterMap_append,keys_blks]
  have e:((List.range L.length).map (b + ·)).filterMap r=(List.range L.length).map g:=by
    rw [List.filterMap_map]
    have:∀ l:List Nat,(∀ i ∈ l,i<L.length)→l.filterMap (r ∘ (b + ·))=l.map g:=fun l=>by
      induction l with
      | nil=>intro _;rfl
      | cons a s ih =>
        intro h
        rw [List.filterMap_cons,show (r ∘ (b + ·)) a=some (g a) from hr a (h a (by simp)),List.map_cons]
        simp only
        rw [ih fun i hi=>h i (by simp [hi])]
    exact this _ fun i hi=>by simpa using hi
  rw [e,List.nodup_append]
  refine ⟨hA,?_,fun k hk k' hk'=>?_⟩
  · have:∀ n,n≤L.length→((List.range n).map g).Nodup:=fun n=>by
      induction n with
      | zero=>intro _;simp
      | succ n ih =>
        intro h
        rw [List.range_succ,List.map_append,List.nodup_append]
        refine ⟨ih (by omega),by simp,fun k hk k' hk'=>?_⟩
        obtain ⟨i,hi,rfl⟩:=List.mem_map.1 hk
        simp only [List.map_cons,List.map_nil,List.mem_singleton] at hk'
        subst hk'
        have hi':i<n:=by simpa using hi
        intro e
        have:=hg i n (by omega) (by omega) e
        omega
    exact this _ (Nat.le_refl _)
  · obtain ⟨i,hi,rfl⟩:=List.mem_map.1 hk'
    exact hd k hk i (by simpa using hi)
section
variable {K:Bool} {P:Program} {m:Nat} {f:FuncId} {nt:Nat} {R:D→List (Option (List C))→Prop}
end
structure Sl where
  a:Option Addr
  length:Nat
  cap:Nat
def Sl.c (x:Sl):C := .v (.slice x.a x.length x.cap)
attribute [go_sem] Sl.c
def kb (n : Nat) : C → Bool
  | .msl k _ _ _=>decide (k<n)
  | .ptr k _=>decide (k<n)
  | .clo _ _=>false
  | _=>true
def kbD (n : Nat) : D → Bool
  | .c c=>kb n c
  | .agg cs=>cs.all (kb n)
  | _=>false
theorem RC.cut {I:Nat→Prop} {w:World} {s s1:Sg} {n:Nat} (hs:∀ k,k<n→s1 k=s k) {x:Value} {c:C} (h:RC I w s x c) (hk:kb n c=true):RC I w s1 x c:=by
  cases h with
  | msl0 _ a k sz h=>exact .msl0 _ a k sz (by rw [hs k (by simpa [kb] using hk)];exact h)
  | msl _ k b sz off len cap arr T fr h hlen hb hcap=>exact .msl _ k b sz off len cap arr T fr (by rw [hs k (by simpa [kb] using hk)];exact h) hlen hb hcap
  | ptr _ k b off h=>exact .ptr _ k b off (by rw [hs k (by simpa [kb] using hk)];exact h)
  | clo _ f caps vs hl hr=>simp [kb] at hk
  | v _ x h1=>exact .v _ _ h1
  | unk _ x h1=>exact .unk _ _ h1
  | z _ a=>exact .z _ a
  | isl0 _ a cap sz=>exact .isl0 _ a cap sz
  | isl _ b off cap sz xs y hIb hl hc hr hcap=>exact .isl _ b off cap sz xs y hIb hl hc hr hcap
  | num _ k n=>exact .num _ k n
  | csl0 _ a cap sz y=>exact .csl0 _ a cap sz y
  | csl _ b off len cap sz xs y h hN=>exact .csl _ b off len cap sz xs y (h.isl_any _) hN
  | eptr _ b off cs y hIb hc hr=>exact .eptr _ b off cs y hIb hc hr
  | met _ f cs vs hl hr=>exact .met _ f cs vs hl hr
theorem RD.cut {I:Nat→Prop} {w:World} {s s1:Sg} {n:Nat} (hs:∀ k,k<n→s1 k=s k) {x:Value} {d:D} (h:RD I w s x d) (hk:kbD n d=true):RD I w s1 x d:=by
  cases h with
  | c _ c h=>exact .c _ _ (h.cut hs hk)
  | agg vs cs hl hr =>
    simp only [kbD,List.all_eq_true] at hk
    exact .agg vs cs hl fun j h1 h2=>(hr j h1 h2).cut hs (hk _ (List.getElem_mem h2))
  | _=>simp [kbD] at hk
end Go.CT
namespace Go.CT
open Go.RowKit
section
variable [Yn]
theorem shp_below {w w':World} (hb:Below w.heap.size w w'):Shp w w':=fun b arr T fr hbk=>⟨arr,by rw [hb.block b (lt_of_heap hbk)];exact hbk,rfl⟩
theorem DC.ofBelow {P : Program} {F : FuncId} {args : List D} {v : Value} (h1 : one v = true)
    (hc:∀ (I:Nat→Prop) (w:World) (s:Sg) (vs:Array Value),SimH I w s (hpL [])→RDs I w s vs args→Calls P F vs w fun e w'=>e = .returned v∧Below w.heap.size w w'):DC P F args [] (fun r h=>r = .c (.v v)∧h=[]):=fun I w s vs H hv=>by
  refine (hc I w s vs H hv).mono ?_
  rintro e w' ⟨rfl,hb⟩
  exact ⟨v,I,s,.c (.v v),[],rfl,⟨rfl,rfl⟩,.c _ _ (.v _ _ h1),⟨H.top,fun k cs hk=>by simp [hpL] at hk,fun k k' b cs cs' h=>by simp [hpL] at h,fun b hb'=>Nat.lt_of_lt_of_le (H.imm b hb') hb.size,
      H.yng.step hb.size (fun b hlt=>hb.block b (Nat.lt_of_lt_of_le hlt H.yng.1)) (fun b h => .inl h),H.wri.step (shp_below hb)⟩,
    ⟨hb.os,hb.tape,hb.output,hb.size,fun b hlt _=>hb.block b hlt,shp_below hb,fun _ _=>rfl,fun _ h=>h,fun _ h => .inl h,fun _ h => .inl h⟩,Nat.le_refl _⟩
end
abbrev ynAt (w:World):Yn:=⟨w.heap.size,fun b=>w.heap[b]?⟩
theorem DC.calls {P : Program} {F : FuncId} {args : List D} {v : Value} {w : World} {vs : Array Value} (hD : @DC (ynAt w) P F args [] (fun r h => r = .c (.v v) ∧ h = [])) (hv : ∀ s, @RDs (ynAt w) (fun b => b < w.heap.size) w s vs args) :
    Calls P F vs w fun e w'=>e = .returned v∧Below w.heap.size w w':=by
  letI:Yn:=ynAt w
  refine (hD (fun b=>b<w.heap.size) w (fun _=>none) vs ⟨fun _ _=>rfl,fun k cs hk=>by simp [hpL] at hk,fun k k' b cs cs' hk=>by simp [hpL] at hk,fun b hb=>hb,⟨Nat.le_refl _,fun b ⟨k,cs,hk,_⟩=>by simp [hpL] at hk,fun b _=>rfl⟩,fun b hb hn=>absurd hb (Nat.not_lt.2 hn)⟩ (hv _)).mono fun e w' ⟨x,I',s',d,h',he,⟨hd,_⟩,hrd,_,hE,_⟩=>?_
  subst hd
  cases hrd with
  | c _ _ hc=>cases hc with | v _ _ _=>exact ⟨he,hE.os,hE.tape,hE.output,hE.size,fun k hk=>hE.same k hk fun ⟨j,cs,hj,_⟩=>by simp [hpL] at hj⟩
theorem rds_ints {y:Yn} {I:Nat→Prop} {w:World} {s:Sg} (xs:List Int) : @RDs y I w s #[.agg ((xs.map (Value.int .i64)).toArray)] [.agg (xs.map fun n => .v (.int .i64 n))]:=by
  refine ⟨rfl,fun j h1 h2=>?_⟩
  have:j=0:=by simpa using h1
  subst this
  refine .agg _ _ (by simp) fun i g1 g2=>?_
  simp only [List.getElem_toArray,List.getElem_map]
  exact .v _ _ rfl
end Go.CT
