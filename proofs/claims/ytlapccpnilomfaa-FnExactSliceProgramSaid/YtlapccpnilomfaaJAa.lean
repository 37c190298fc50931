/- A small assertion language for the walk: values of the model that read as plain data, blocks that a call owns, and how both survive a step. No program in sight. -/
import Derived.WalkKit
import Derived.Orders
set_option linter.unusedVariables false
set_option linter.unusedSimpArgs false
set_option linter.unusedSectionVars false
set_option maxHeartbeats 16000000
set_option maxRecDepth 100000
namespace Go.CT
class Yn where
  n:Nat
  o:Nat→Option Obj
inductive C where
  | v (x:Value)
  | isl (sz:Nat) (xs:List (List C))
  | csl (y:Bool) (sz:Nat) (xs:List (List C))
  | num (k:IntKind)
  | msl (k sz off len:Nat)
  | ptr (k off:Nat)
  | eptr (cs:List C)
  | clo (f:FuncId) (caps:List C)
  | met (f:FuncId) (cs:List C)
  | z
  | unk
def kf : C → Bool
  | .v _ | .isl _ _ | .csl _ _ _ | .num _ | .z | .unk | .eptr _ | .met _ _=>true
  | _=>false
def kfs : List C → Bool
  | []=>true
  | c :: r=>kf c && kfs r
inductive D where
  | c (x:C)
  | agg (cs:List C)
  | tup (ds:List D)
  | when (b:Bool) (d:D)
def one : Value → Bool
  | .agg _ | .tuple _=>false
  | _=>true
abbrev mx:Nat:=281474976710656
abbrev Sg:=Nat→Option (Option Nat)
def Sg0:Sg:=fun _=>none
def Sg.le (s t:Sg):Prop:=∀ k x,s k=some x→t k=some x
theorem Sg.le_refl (s:Sg):s.le s:=fun _ _ h=>h
theorem Sg.le_trans {s t u:Sg} (h:s.le t) (h':t.le u):s.le u:=fun k x e=>h' k x (h k x e)
theorem Sg0.le (s:Sg):Sg0.le s:=fun _ _ h=>by cases h
variable [Yn]
inductive RC (I : Nat → Prop) (w : World) : Sg → Value → C → Prop
  | v (s:Sg) (x:Value) (h1:one x=true):RC I w s x (.v x)
  | unk (s:Sg) (x:Value) (h1:one x=true):RC I w s x .unk
  | z (s:Sg) (a:Option Addr):RC I w s (.slice a 0 0) .z
  | isl0 (s:Sg) (a:Option Addr) (cap sz:Nat):RC I w s (.slice a 0 cap) (.isl sz [])
  | isl (s : Sg) (b off cap sz : Nat) (xs : List (List C)) (y : Nat → Nat → Value) (hI : I b)
      (hl:∀ i (h:i<xs.length),(xs[i]).length=sz)
      (hc:∀ i j,i<xs.length→j<sz→w.cell? ⟨b,off+i * sz+j,none⟩=some (y i j))
      (hr:∀ i (h:i<xs.length) j (h':j<(xs[i]).length),RC I w Sg0 (y i j) (xs[i])[j])
      (hcap:xs.length≤cap∧xs.length≤mx):RC I w s (.slice (some ⟨b,off,none⟩) xs.length cap) (.isl sz xs)
  | num (s:Sg) (k:IntKind) (n:Int):RC I w s (.int k n) (.num k)
  | csl0 (s:Sg) (a:Option Addr) (cap sz:Nat) (y:Bool):RC I w s (.slice a 0 cap) (.csl y sz [])
  | csl (s : Sg) (b off len cap sz : Nat) (xs : List (List C)) (y : Bool) (h : RC I w s (.slice (some ⟨b, off, none⟩) len cap) (.isl sz xs)) (hN : if y = true then Yn.n ≤ b else b < Yn.n) :
      RC I w s (.slice (some ⟨b,off,none⟩) len cap) (.csl y sz xs)
  | msl0 (s:Sg) (a:Option Addr) (k sz:Nat) (h:s k=some none):RC I w s (.slice a 0 0) (.msl k sz 0 0)
  | msl (s : Sg) (k b sz off len cap : Nat) (arr : Array Value) (T : TypeId) (fr : Nat × Nat) (h : s k = some (some b)) (hlen : len ≤ cap ∧ len ≤ mx)
      (hb:w.heap[b]? = some (.cells arr T fr)) (hcap:off+cap * sz≤arr.size):RC I w s (.slice (some ⟨b,off,none⟩) len cap) (.msl k sz off len)
  | ptr (s:Sg) (k b off:Nat) (h:s k=some (some b)):RC I w s (.pointer (some ⟨b,off,none⟩)) (.ptr k off)
  | eptr (s : Sg) (b off : Nat) (cs : List C) (y : Nat → Value) (hI : I b) (hc : ∀ j, j < cs.length → w.cell? ⟨b, off + j, none⟩ = some (y j))
      (hr:∀ j (h:j<cs.length),RC I w Sg0 (y j) cs[j]):RC I w s (.pointer (some ⟨b,off,none⟩)) (.eptr cs)
  | clo (s : Sg) (f : FuncId) (caps : List C) (vs : Array Value) (hl : vs.size = caps.length)
      (hr:∀ j (h:j<vs.size) (h':j<caps.length),RC I w s vs[j] caps[j]):RC I w s (.func (.func f) #[] vs) (.clo f caps)
  | met (s : Sg) (f : FuncId) (cs : List C) (vs : Array Value) (hl : vs.size = cs.length)
      (hr:∀ j (h:j<vs.size) (h':j<cs.length),RC I w Sg0 vs[j] cs[j]):RC I w s (.func (.func f) #[.agg vs] #[]) (.met f cs)
theorem RC.isl_any {I:Nat→Prop} {w:World} {s:Sg} {x:Value} {sz:Nat} {xs:List (List C)} (h:RC I w s x (.isl sz xs)) (s':Sg):RC I w s' x (.isl sz xs):=by
  cases h with
  | isl0 _ a cap _=>exact .isl0 _ a cap sz
  | isl _ b off cap _ _ y hI hl hc hr hcap=>exact .isl _ b off cap sz xs y hI hl hc hr hcap
theorem RC.one {I:Nat→Prop} {w:World} {s:Sg} {x:Value} {c:C} (h:RC I w s x c):one x=true:=by
  cases h<;>first | assumption | rfl
def Shp (w w':World):Prop:=∀ (b:Nat) (arr:Array Value) (T:TypeId) (fr:Nat × Nat),w.heap[b]? = some (.cells arr T fr)→∃ arr',w'.heap[b]? = some (.cells arr' T fr)∧arr'.size=arr.size
theorem Shp.refl (w:World):Shp w w:=fun b arr T fr h=>⟨arr,h,rfl⟩
theorem Shp.trans {w w' w'':World} (h:Shp w w') (h':Shp w' w''):Shp w w'':=fun b arr T fr e=>by
  obtain ⟨a1,e1,s1⟩:=h b arr T fr e
  obtain ⟨a2,e2,s2⟩:=h' b a1 T fr e1
  exact ⟨a2,e2,s2.trans s1⟩
def Keeps (I:Nat→Prop) (w w':World):Prop:=∀ b,I b→w'.heap[b]? = w.heap[b]?
theorem cell_of_heap {w w':World} {b off:Nat} (h:w'.heap[b]? = w.heap[b]?):w'.cell? ⟨b,off,none⟩=w.cell? ⟨b,off,none⟩:=by
  simp only [World.cell?,h]
theorem RC.mono {I I' : Nat → Prop} {w w' : World} (hI : ∀ b, I b → I' b) (hw : Keeps I w w') (hs : Shp w w') {s : Sg} {x : Value} {c : C} (h : RC I w s x c) :
    ∀ {s':Sg},s.le s'→RC I' w' s' x c:=by
  induction h with
  | v s x h1=>exact fun _ => .v _ x h1
  | unk s x h1=>exact fun _ => .unk _ x h1
  | z s a=>exact fun _ => .z _ a
  | isl0 s a cap sz=>exact fun _ => .isl0 _ a cap sz
  | isl s b off cap sz xs y hIb hl hc hr hcap ih =>
    exact fun _ => .isl _ b off cap sz xs y (hI b hIb) hl (fun i j hi hj=>(cell_of_heap (hw b hIb)).trans (hc i j hi hj)) (fun i h j h'=>ih i h j h' (Sg.le_refl _)) hcap
  | num s k n=>exact fun _ => .num _ k n
  | csl0 s a cap sz y=>exact fun _ => .csl0 _ a cap sz y
  | csl s b off len cap sz xs y h hN ih=>exact fun hle => .csl _ b off len cap sz xs y (ih hle) hN
  | msl0 s a k sz h=>exact fun hle => .msl0 _ a k sz (hle _ _ h)
  | msl s k b sz off len cap arr T fr h hlen hb hcap =>
    intro s' hle
    obtain ⟨arr',e,hsz⟩:=hs b arr T fr hb
    exact .msl _ k b sz off len cap arr' T fr (hle _ _ h) hlen e (by omega)
  | ptr s k b off h=>exact fun hle => .ptr _ k b off (hle _ _ h)
  | eptr s b off cs y hIb hc hr ih =>
    exact fun _ => .eptr _ b off cs y (hI b hIb) (fun j hj=>(cell_of_heap (hw b hIb)).trans (hc j hj)) (fun j h=>ih j h (Sg.le_refl _))
  | clo s f caps vs hl hr ih=>exact fun hle => .clo _ f caps vs hl (fun j h h'=>ih j h h' hle)
  | met s f cs vs hl hr ih=>exact fun _ => .met _ f cs vs hl (fun j h h'=>ih j h h' (Sg.le_refl _))
inductive RD (I : Nat → Prop) (w : World) (s : Sg) : Value → D → Prop
  | c (x:Value) (c:C) (h:RC I w s x c):RD I w s x (.c c)
  | agg (vs:Array Value) (cs:List C) (hl:vs.size=cs.length) (hr:∀ j (h:j<vs.size) (h':j<cs.length),RC I w s vs[j] cs[j]):RD I w s (.agg vs) (.agg cs)
  | tup (vs:Array Value) (ds:List D) (hl:vs.size=ds.length) (hr:∀ j (h:j<vs.size) (h':j<ds.length),RD I w s vs[j] ds[j]):RD I w s (.tuple vs) (.tup ds)
  | when (x:Value) (b:Bool) (d:D) (h:b=true→RD I w s x d) (h0:b=false→x=undef):RD I w s x (.when b d)
theorem RD.mono {I I' : Nat → Prop} {w w' : World} (hI : ∀ b, I b → I' b) (hw : Keeps I w w') (hs : Shp w w') {s s' : Sg} (hle : s.le s') {x : Value} {d : D} (h : RD I w s x d) :
    RD I' w' s' x d:=by
  induction h with
  | c x c h=>exact .c _ _ (h.mono hI hw hs hle)
  | agg vs cs hl hr=>exact .agg vs cs hl fun j h h'=>(hr j h h').mono hI hw hs hle
  | tup vs ds hl hr ih=>exact .tup vs ds hl fun j h h'=>ih j h h'
  | when x b d h h0 ih=>exact .when x b d (fun hb=>ih hb) h0
def D.cells : D → Option (List C)
  | .c x=>some [x]
  | .agg cs=>some cs
  | _=>none
theorem RD.cells {I : Nat → Prop} {w : World} {s : Sg} {x : Value} {d : D} {cs : List C} (h : RD I w s x d) (hd : d.cells = some cs) :
    x.cells.size=cs.length∧∀ j (hj:j<x.cells.size) (h':j<cs.length),RC I w s x.cells[j] cs[j]:=by
  cases h with
  | c x c h =>
    simp only [D.cells,Option.some.injEq] at hd
    subst hd
    have h1:=h.one
    have hx:x.cells=#[x]:=by cases x<;>first | rfl | (simp [one] at h1)
    rw [hx]
    refine ⟨rfl,fun j hj h'=>?_⟩
    have:j=0:=by simpa using hj
    subst this
    exact h
  | agg vs cs' hl hr =>
    simp only [D.cells,Option.some.injEq] at hd
    subst hd
    exact ⟨hl,fun j hj h'=>hr j hj h'⟩
  | tup vs ds hl hr=>simp [D.cells] at hd
  | when x b d h h0=>simp [D.cells] at hd
open Go.RowKit (Below)
def upd {α:Type} (f:Nat→α) (n:Nat) (x:α):Nat→α:=fun k=>if k=n then x else f k
theorem upd_same {α:Type} (f:Nat→α) (n:Nat) (x:α):upd f n x n=x:=by simp [upd]
theorem upd_ne {α:Type} (f:Nat→α) {n k:Nat} (x:α) (h:k ≠ n):upd f n x k=f k:=by simp [upd,h]
abbrev Hp:=Nat→Option (Option (List C))
def Live (s:Sg) (hp:Hp) (b:Nat):Prop:=∃ k cs,hp k=some (some cs)∧s k=some (some b)
def Yg (w:World) (s:Sg) (hp:Hp):Prop:=Yn.n≤w.heap.size∧(∀ b,Live s hp b→Yn.n≤b)∧∀ b,b<Yn.n→w.heap[b]? = Yn.o b
theorem Yg.step {w w':World} {s s':Sg} {hp hp':Hp} (h:Yg w s hp) (hsz:w.heap.size≤w'.heap.size) (ho:∀ b,b<Yn.n→w'.heap[b]? = w.heap[b]?) (hl:∀ b,Live s' hp' b→Live s hp b∨w.heap.size≤b):Yg w' s' hp' :=
  ⟨Nat.le_trans h.1 hsz,fun b hb=>(hl b hb).elim (h.2.1 b) fun q=>Nat.le_trans h.1 q,fun b hb=>(ho b hb).trans (h.2.2 b hb)⟩
theorem Yg.keep {w w':World} {s:Sg} {hp:Hp} (h:Yg w s hp) (hs:∀ b,b<w.heap.size→¬ Live s hp b→w'.heap[b]? = w.heap[b]?):∀ b,b<Yn.n→w'.heap[b]? = w.heap[b]? := fun b hb =>
  hs b (Nat.lt_of_lt_of_le hb h.1) fun hl=>absurd (h.2.1 b hl) (Nat.not_le.2 hb)
def Wr (I:Nat→Prop) (w:World):Prop:=∀ b,I b→Yn.n≤b→∃ arr T,w.heap[b]? = some (.cells arr T (0,0))
theorem Wr.step {I:Nat→Prop} {w w':World} (h:Wr I w) (hs:Shp w w'):Wr I w':=fun b hb hn =>
  let ⟨arr,T,e⟩:=h b hb hn;let ⟨arr',e',_⟩:=hs b arr T _ e;⟨arr',T,e'⟩
structure SimH (I : Nat → Prop) (w : World) (s : Sg) (hp : Hp) : Prop where
  top:∀ k,hp k=none→s k=none
  blk : ∀ k cs, hp k = some (some cs) → (s k = some none ∧ cs = []) ∨
    ∃ b arr T,s k=some (some b)∧w.heap[b]? = some (.cells arr T (0,0))∧cs.length≤arr.size∧¬ I b∧∀ j (h:j<cs.length),∃ y,arr[j]? = some y∧RC I w s y cs[j]
  inj:∀ k k' b cs cs',hp k=some (some cs)→hp k'=some (some cs')→s k=some (some b)→s k'=some (some b)→k=k'
  imm:∀ b,I b→b<w.heap.size
  yng:Yg w s hp
  wri:Wr I w
structure Ext (m : Nat) (I : Nat → Prop) (w : World) (s : Sg) (hp : Hp) (I' : Nat → Prop) (w' : World) (s' : Sg) (hp' : Hp) : Prop where
  os:w'.os=w.os
  tape:w'.tape=w.tape
  output:w'.output=w.output
  size:w.heap.size≤w'.heap.size
  same:∀ b,b<w.heap.size→¬ Live s hp b→w'.heap[b]? = w.heap[b]?
  shp:Shp w w'
  key:∀ k,k<m→s' k=s k
  imm:∀ b,I b→I' b
  imm':∀ b,I' b→I b∨Live s hp b∨w.heap.size≤b
  live:∀ b,Live s' hp' b→Live s hp b∨w.heap.size≤b
theorem Ext.refl (m:Nat) (I:Nat→Prop) (w:World) (s:Sg) (hp:Hp):Ext m I w s hp I w s hp :=
  ⟨rfl,rfl,rfl,Nat.le_refl _,fun _ _ _=>rfl,Shp.refl _,fun _ _=>rfl,fun _ h=>h,fun _ h => .inl h,fun _ h => .inl h⟩
theorem Ext.trans {m : Nat} {I I' I'' : Nat → Prop} {w w' w'' : World} {s s' s'' : Sg} {hp hp' hp'' : Hp}
    (h:Ext m I w s hp I' w' s' hp') (h':Ext m I' w' s' hp' I'' w'' s'' hp''):Ext m I w s hp I'' w'' s'' hp'' where
  os:=h'.os.trans h.os
  tape:=h'.tape.trans h.tape
  output:=h'.output.trans h.output
  size:=Nat.le_trans h.size h'.size
  same:=fun b hb hl=>(h'.same b (Nat.lt_of_lt_of_le hb h.size) fun hl'=>by
    rcases h.live b hl' with h1 | h1
    · exact hl h1
    · omega).trans (h.same b hb hl)
  shp:=h.shp.trans h'.shp
  key:=fun k hk=>(h'.key k hk).trans (h.key k hk)
  imm:=fun b hb=>h'.imm b (h.imm b hb)
  imm':=fun b hb=>by
    rcases h'.imm' b hb with h1 | h1 | h1
    · exact h.imm' b h1
    · exact .inr (h.live b h1)
    · exact .inr (.inr (Nat.le_trans h.size h1))
  live:=fun b hb=>by
    rcases h'.live b hb with h1 | h1
    · exact h.live b h1
    · exact .inr (Nat.le_trans h.size h1)
theorem SimH.live_lt {I:Nat→Prop} {w:World} {s:Sg} {hp:Hp} (H:SimH I w s hp) {b:Nat} (h:Live s hp b):b<w.heap.size∧¬ I b:=by
  obtain ⟨k,cs,hk,hs⟩:=h
  rcases H.blk k cs hk with ⟨h1,_⟩ | ⟨b',arr,T,h1,h2,_,h3,_⟩
  · rw [hs] at h1;cases h1
  · rw [hs] at h1
    simp only [Option.some.injEq] at h1
    subst h1
    refine ⟨?_,h3⟩
    by_cases hlt:b<w.heap.size
    · exact hlt
    · rw [Array.getElem?_eq_none (by omega)] at h2;cases h2
theorem Ext.keeps {m:Nat} {I I':Nat→Prop} {w w':World} {s s':Sg} {hp hp':Hp} (h:Ext m I w s hp I' w' s' hp') (H:SimH I w s hp):Keeps I w w' :=
  fun b hb=>h.same b (H.imm b hb) fun hl=>(H.live_lt hl).2 hb
theorem Ext.rc {m : Nat} {I I' : Nat → Prop} {w w' : World} {s s' : Sg} {hp hp' : Hp} (h : Ext m I w s hp I' w' s' hp') (H : SimH I w s hp) (hle : s.le s') {x : Value} {c : C}
    (hr:RC I w s x c):RC I' w' s' x c:=hr.mono h.imm (h.keeps H) h.shp hle
theorem Ext.rd {m : Nat} {I I' : Nat → Prop} {w w' : World} {s s' : Sg} {hp hp' : Hp} (h : Ext m I w s hp I' w' s' hp') (H : SimH I w s hp) (hle : s.le s') {x : Value} {d : D}
    (hr:RD I w s x d):RD I' w' s' x d:=hr.mono h.imm (h.keeps H) h.shp hle
theorem getD_put (a:Act) (n k:Nat) (v:Value):(a.put (some n) v).tmps.getD k undef=if k=n∧n<a.tmps.size then v else a.tmps.getD k undef:=by
  simp only [Act.put,Array.getD_eq_getD_getElem?,Array.getElem?_setIfInBounds]
  by_cases h:k=n
  · subst h
    by_cases h2:k<a.tmps.size
    · simp [h2]
    · simp [h2]
  · rw [if_neg (fun e=>h e.symm)]
    simp [h]
theorem heap_push_lt (w:World) (o:Obj) (b:Nat) (h:b<w.heap.size):(w.heap.push o)[b]? = w.heap[b]? := by
  rw [Array.getElem?_push,if_neg (by omega)]
theorem heap_push_eq (w:World) (o:Obj):(w.heap.push o)[w.heap.size]? = some o:=by simp
theorem lt_of_heap {w:World} {b:Nat} {o:Obj} (h:w.heap[b]? = some o):b<w.heap.size:=by
  by_cases hlt:b<w.heap.size
  · exact hlt
  · rw [Array.getElem?_eq_none (by omega)] at h;cases h
theorem sim_alloc {m : Nat} {I : Nat → Prop} {w : World} {s : Sg} {hp : Hp} (H : SimH I w s hp) (k : Nat) (hk : hp k = none) (hm : m ≤ k) (arr : Array Value) (T : TypeId) (cs : List C)
    (hl:cs.length≤arr.size) (hr:∀ j (h:j<cs.length),∃ y,arr[j]? = some y∧RC I w s y cs[j]) :
    let w':World:={ w with heap:=w.heap.push (.cells arr T (0,0)) }
    let s':=upd s k (some (some w.heap.size))
    let hp':=upd hp k (some (some cs))
    s.le s'∧SimH I w' s' hp'∧Ext m I w s hp I w' s' hp':=by
  intro w' s' hp'
  have hsk:s k=none:=H.top k hk
  have hle:s.le s':=fun j x hj=>by
    have:j ≠ k:=fun e=>by rw [e,hsk] at hj;cases hj
    simp [s',upd_ne _ _ this,hj]
  have hshp:Shp w w':=fun b arr0 T0 fr hb=>⟨arr0,by
    have:=lt_of_heap hb
    show (w.heap.push _)[b]? = _
    rw [heap_push_lt _ _ _ this];exact hb,rfl⟩
  have hlive:∀ b,Live s' hp' b→Live s hp b∨w.heap.size≤b:=by
    rintro b ⟨j,cs',hj,hs⟩
    by_cases e:j=k
    · subst e
      simp only [s',upd_same,Option.some.injEq] at hs
      exact .inr (by omega)
    · simp only [hp',upd_ne _ _ e] at hj
      simp only [s',upd_ne _ _ e] at hs
      exact .inl ⟨j,cs',hj,hs⟩
  have hext:Ext m I w s hp I w' s' hp':=by
    refine ⟨rfl,rfl,rfl,by simp [w'],fun b hb _=>heap_push_lt _ _ _ hb,hshp,fun j hj=>?_,fun _ h=>h,fun _ h => .inl h,hlive⟩
    exact upd_ne _ _ (by omega)
  refine ⟨hle,⟨fun j hj=>?_,fun j cs' hj=>?_,fun j j' b cs1 cs2 h1 h2 h3 h4=>?_,fun b hb=>?_,H.yng.step hext.size (H.yng.keep hext.same) hext.live,H.wri.step hshp⟩,hext⟩
  · by_cases e:j=k
    · subst e;simp [hp',upd_same] at hj
    · simp only [hp',upd_ne _ _ e] at hj
      simp only [s',upd_ne _ _ e]
      exact H.top j hj
  · by_cases e:j=k
    · subst e
      simp only [hp',upd_same,Option.some.injEq] at hj
      subst hj
      refine .inr ⟨w.heap.size,arr,T,by simp [s',upd_same],heap_push_eq w _,hl,fun hI=>Nat.lt_irrefl _ (H.imm _ hI),fun j' h'=>?_⟩
      obtain ⟨y,hy,hry⟩:=hr j' h'
      exact ⟨y,hy,hext.rc H hle hry⟩
    · simp only [hp',upd_ne _ _ e] at hj
      rcases H.blk j cs' hj with ⟨h1,h2⟩ | ⟨b,arr0,T0,h1,h2,h3,h4,h5⟩
      · exact .inl ⟨by simp [s',upd_ne _ _ e,h1],h2⟩
      · refine .inr ⟨b,arr0,T0,by simp [s',upd_ne _ _ e,h1],?_,h3,h4,fun j' h'=>?_⟩
        · show (w.heap.push _)[b]? = _
          rw [heap_push_lt _ _ _ (lt_of_heap h2)];exact h2
        · obtain ⟨y,hy,hry⟩:=h5 j' h'
          exact ⟨y,hy,hext.rc H hle hry⟩
  · have old:∀ i csi,hp' i=some (some csi)→s' i=some (some b)→(i=k∧b=w.heap.size)∨(i ≠ k∧hp i=some (some csi)∧s i=some (some b)):=by
      intro i csi hi hsi
      by_cases e:i=k
      · subst e
        simp only [s',upd_same,Option.some.injEq] at hsi
        exact .inl ⟨rfl,hsi.symm⟩
      · simp only [hp',upd_ne _ _ e] at hi
        simp only [s',upd_ne _ _ e] at hsi
        exact .inr ⟨e,hi,hsi⟩
    rcases old j cs1 h1 h3 with ⟨e1,e2⟩ | ⟨e1,e2,e3⟩<;>rcases old j' cs2 h2 h4 with ⟨f1,f2⟩ | ⟨f1,f2,f3⟩
    · rw [e1,f1]
    · have:=(H.live_lt ⟨j',cs2,f2,f3⟩).1;omega
    · have:=(H.live_lt ⟨j,cs1,e2,e3⟩).1;omega
    · exact H.inj j j' b cs1 cs2 e2 f2 e3 f3
  · have:=H.imm b hb
    simp [w'];omega
theorem sim_store {m : Nat} {I : Nat → Prop} {w w' : World} {s : Sg} {hp : Hp} (H : SimH I w s hp) (k : Nat) (cs cs' : List C) (hk : hp k = some (some cs)) (b : Nat) (arr arr' : Array Value) (T : TypeId)
    (hs:s k=some (some b)) (hb:w.heap[b]? = some (.cells arr T (0,0))) (hsz:arr'.size=arr.size) (hl:cs'.length≤arr'.size)
    (hr:∀ j (h:j<cs'.length),∃ y,arr'[j]? = some y∧RC I w s y cs'[j])
    (hw:w'={ w with heap:=w.heap.setIfInBounds b (.cells arr' T (0,0)) }) :
    SimH I w' s (upd hp k (some (some cs')))∧Ext m I w s hp I w' s (upd hp k (some (some cs'))):=by
  have hblt:=lt_of_heap hb
  have hget:∀ i,w'.heap[i]? = if i=b then some (.cells arr' T (0,0)) else w.heap[i]? := by
    intro i
    rw [hw]
    show (w.heap.setIfInBounds b _)[i]? = _
    rw [Array.getElem?_setIfInBounds]
    by_cases e:i=b
    · subst e;simp [hblt]
    · rw [if_neg (fun h=>e h.symm),if_neg e]
  have hlivek:Live s hp b:=⟨k,cs,hk,hs⟩
  have hlive:∀ b',Live s (upd hp k (some (some cs'))) b'→Live s hp b':=by
    rintro b' ⟨j,csj,hj,hsj⟩
    by_cases e:j=k
    · subst e
      exact ⟨j,cs,hk,hsj⟩
    · rw [upd_ne _ _ e] at hj
      exact ⟨j,csj,hj,hsj⟩
  have hshp:Shp w w':=fun b0 arr0 T0 fr h0=>by
    by_cases e:b0=b
    · subst e
      rw [hb] at h0
      simp only [Option.some.injEq,Obj.cells.injEq] at h0
      obtain ⟨rfl,rfl,rfl⟩:=h0
      exact ⟨arr',by rw [hget,if_pos rfl],hsz⟩
    · exact ⟨arr0,by rw [hget,if_neg e];exact h0,rfl⟩
  have hext:Ext m I w s hp I w' s (upd hp k (some (some cs'))):=by
    refine ⟨by rw [hw],by rw [hw],by rw [hw],by rw [hw];simp,fun b' hb' hl'=>?_,hshp,fun _ _=>rfl,fun _ h=>h,fun _ h => .inl h,fun b' h => .inl (hlive b' h)⟩
    have hne:b' ≠ b:=fun e=>hl' (by rw [e];exact hlivek)
    rw [hget,if_neg hne]
  refine ⟨⟨fun j hj=>?_,fun j csj hj=>?_,fun j j' b' cs1 cs2 h1 h2 h3 h4=>?_,fun b' hb'=>?_,H.yng.step hext.size (H.yng.keep hext.same) hext.live,H.wri.step hshp⟩,hext⟩
  · by_cases e:j=k
    · subst e;simp [upd_same] at hj
    · rw [upd_ne _ _ e] at hj;exact H.top j hj
  · by_cases e:j=k
    · subst e
      simp only [upd_same,Option.some.injEq] at hj
      subst hj
      refine .inr ⟨b,arr',T,hs,by rw [hget,if_pos rfl],hl,(H.live_lt hlivek).2,fun j' h'=>?_⟩
      obtain ⟨y,hy,hry⟩:=hr j' h'
      exact ⟨y,hy,hext.rc H (Sg.le_refl _) hry⟩
    · rw [upd_ne _ _ e] at hj
      rcases H.blk j csj hj with h1 | ⟨b0,arr0,T0,h1,h2,h3,h4,h5⟩
      · exact .inl h1
      · have hne:b0 ≠ b:=fun e'=>e (H.inj j k b csj cs hj hk (e' ▸ h1) hs)
        refine .inr ⟨b0,arr0,T0,h1,by rw [hget,if_neg hne];exact h2,h3,h4,fun j' h'=>?_⟩
        obtain ⟨y,hy,hry⟩:=h5 j' h'
        exact ⟨y,hy,hext.rc H (Sg.le_refl _) hry⟩
  · have old:∀ i csi,upd hp k (some (some cs')) i=some (some csi)→∃ csi',hp i=some (some csi'):=by
      intro i csi hi
      by_cases e:i=k
      · exact ⟨cs,e ▸ hk⟩
      · rw [upd_ne _ _ e] at hi;exact ⟨csi,hi⟩
    obtain ⟨c1,g1⟩:=old j cs1 h1
    obtain ⟨c2,g2⟩:=old j' cs2 h2
    exact H.inj j j' b' c1 c2 g1 g2 h3 h4
  · rw [hw];simpa using H.imm b' hb'
theorem sim_spend {m : Nat} {I : Nat → Prop} {w : World} {s : Sg} {hp : Hp} (H : SimH I w s hp) (k : Nat) (hk : hp k ≠ none) :
    SimH I w s (upd hp k (some none))∧Ext m I w s hp I w s (upd hp k (some none)):=by
  have hlive:∀ b',Live s (upd hp k (some none)) b'→Live s hp b':=by
    rintro b' ⟨j,csj,hj,hsj⟩
    by_cases e:j=k
    · subst e;simp [upd_same] at hj
    · rw [upd_ne _ _ e] at hj
      exact ⟨j,csj,hj,hsj⟩
  have old:∀ i csi,upd hp k (some none) i=some (some csi)→hp i=some (some csi):=by
    intro i csi hi
    by_cases e:i=k
    · subst e;simp [upd_same] at hi
    · rw [upd_ne _ _ e] at hi;exact hi
  refine ⟨⟨fun j hj=>?_,fun j csj hj=>H.blk j csj (old j csj hj),fun j j' b' cs1 cs2 h1 h2 h3 h4=>H.inj j j' b' cs1 cs2 (old _ _ h1) (old _ _ h2) h3 h4,H.imm,H.yng.step (Nat.le_refl _) (fun _ _=>rfl) fun b' h => .inl (hlive b' h),H.wri⟩,
    ⟨rfl,rfl,rfl,Nat.le_refl _,fun _ _ _=>rfl,Shp.refl _,fun _ _=>rfl,fun _ h=>h,fun _ h => .inl h,fun b' h => .inl (hlive b' h)⟩⟩
  by_cases e:j=k
  · subst e;simp [upd_same] at hj
  · rw [upd_ne _ _ e] at hj;exact H.top j hj
section
variable {P:Program}
theorem add_plain (b off n:Nat):(⟨b,off,none⟩:Addr).add n=⟨b,off+n,none⟩:=by
  unfold Addr.add
  by_cases h:n=0
  · subst h;simp
  · simp [h]
theorem run_bind {α β:Type} (s:Sem α) (f:α→Sem β) (w w':World) (x:α) (h:s.run P w = .ok x w'):(s >>= f).run P w=(f x).run P w':=by
  have key:∀ (s:Sem α) (w:World),s.run P w = .ok x w'→(s.bind f).run P w=(f x).run P w':=by
    intro s
    induction s with
    | pure a=>intro w h;simp only [Sem.run,Result.ok.injEq] at h;obtain ⟨rfl,rfl⟩:=h;rfl
    | load m a k ih =>
      intro w h
      simp only [Sem.bind,Sem.run] at h ⊢
      split<;>rename_i hc<;>simp only [hc] at h
      · exact ih _ _ h
      · split<;>rename_i hf<;>simp only [hf] at h
        · exact ih _ _ h
        · cases h
    | store m a v k ih =>
      intro w h
      simp only [Sem.bind]
      cases v <;> simp only [Sem.run] at h ⊢ <;> first
        | cases h
        | (split <;> rename_i hc <;> simp only [hc] at h
           · split<;>rename_i hf<;>simp only [hf,if_true,if_false,Bool.false_eq_true] at h
             · cases h
             · exact ih _ h
           · split<;>rename_i hf<;>simp only [hf] at h
             · exact ih _ h
             · cases h)
    | new o k ih=>intro w h;exact ih _ _ h
    | shape r k ih=>intro w h;exact ih _ _ h
    | freeze a n k ih=>intro w h;exact ih _ h
    | frozen a k ih=>intro w h;exact ih _ _ h
    | getObj r k ih =>
      intro w h
      simp only [Sem.bind,Sem.run] at h ⊢
      split<;>rename_i hc<;>simp only [hc] at h
      · cases h
      · exact ih _ _ h
      · cases h
    | setObj r o k ih =>
      intro w h
      simp only [Sem.bind,Sem.run] at h ⊢
      split<;>rename_i hc<;>simp only [hc] at h
      · cases h
      · exact ih _ h
      · cases h
    | choose q k ih =>
      intro w h
      simp only [Sem.bind,Sem.run] at h ⊢
      split<;>rename_i hc<;>simp only [hc,if_true,if_false,Bool.false_eq_true] at h
      · exact ih _ _ h
      · exact ih _ _ h
    | sys c k ih=>intro w h;exact ih _ _ h
    | program k ih=>intro w h;exact ih _ _ h
    | mark m k ih=>intro w h;exact ih _ h
    | halt x=>intro w h;simp [Sem.run] at h
  exact key s w h
theorem run_pure {α:Type} (x:α) (w:World):(pure x:Sem α).run P w = .ok x w:=rfl
def tsz (P:Program) (t:TypeId):Option Nat:=(P.info? t).map (·.size)
def tbytes (P:Program) (t:TypeId):Option Nat:=(P.info? t).map (·.bytes)
def tagg (P:Program) (t:TypeId):Option Bool:=(P.underlying t).map fun d=>match d with | .struct _ | .array _ _=>true | _=>false
def tslice (P:Program) (t:TypeId):Option TypeId:=match P.underlying t with | some (.slice e)=>some e | _=>none
def tint (P:Program) (t:TypeId):Option IntKind:=match P.underlying t with | some (.int k)=>some k | _=>none
def tzero (P:Program) (t:TypeId):Option (List Value):=((P.info? t).bind (·.zero)).map (·.cells.toList)
def tfield (P:Program) (s:TypeId) (f:Nat):Option (Nat × TypeId) :=
  match P.underlying s with
  | some (.struct fs)=>(fs[f]?).bind fun x=>match tsz P x.type with | some (_+1)=>some (x.offset,x.type) | _=>none
  | _=>none
theorem run_typeInfo {t:TypeId} {i:TypeInfo} (h:P.info? t=some i) (w:World):(typeInfo t).run P w = .ok i w:=by
  simp only [typeInfo,program]
  show (Sem.run P ((Sem.program Sem.pure) >>= _) w)=_
  rw [run_bind (w':=w) (x:=P) _ _ _ (by rfl)]
  simp only [h]
  rfl
theorem run_sizeOf {t n:Nat} (h:tsz P t=some n) (w:World):(sizeOf t).run P w = .ok n w:=by
  simp only [tsz,Option.map_eq_some_iff] at h
  obtain ⟨i,hi,rfl⟩:=h
  simp only [sizeOf]
  rw [run_bind _ _ _ _ _ (run_typeInfo hi w)]
  rfl
theorem run_underlying {t:TypeId} {d:TypeDesc} (h:P.underlying t=some d) (w:World):(underlying t).run P w = .ok d w:=by
  simp only [underlying,program]
  rw [run_bind (w':=w) (x:=P) _ _ _ (by rfl)]
  simp only [h]
  rfl
theorem run_isAgg {t:TypeId} {b:Bool} (h:tagg P t=some b) (w:World):(isAgg t).run P w = .ok b w:=by
  simp only [tagg,Option.map_eq_some_iff] at h
  obtain ⟨d,hd,rfl⟩:=h
  simp only [isAgg]
  rw [run_bind _ _ _ _ _ (run_underlying hd w)]
  split<;>simp_all<;>rfl
theorem und_slice {t e:TypeId} (h:tslice P t=some e):P.underlying t=some (.slice e):=by
  unfold tslice at h
  split at h<;>simp_all
theorem und_int {t:TypeId} {k:IntKind} (h:tint P t=some k):P.underlying t=some (.int k):=by
  unfold tint at h
  split at h<;>simp_all
theorem run_zeroValue {t:TypeId} {zs:List Value} (h:tzero P t=some zs) (w:World):∃ z:Value,z.cells.toList=zs∧(zeroValue t).run P w = .ok z w:=by
  simp only [tzero,Option.map_eq_some_iff,Option.bind_eq_some_iff] at h
  obtain ⟨z,⟨i,hi,hz⟩,rfl⟩:=h
  refine ⟨z,rfl,?_⟩
  simp only [zeroValue]
  rw [run_bind _ _ _ _ _ (run_typeInfo hi w)]
  simp only [hz]
  rfl
theorem run_load {a:Addr} {v:Value} {w:World} (h:w.cell? a=some v):(load a).run P w = .ok v w:=by
  simp only [load,Sem.run,h]
theorem run_loadCellsFrom (b off:Nat) (y:Nat→Value) (w:World):∀ (n i:Nat) (acc:Array Value),(∀ j,i≤j→j<i+n→w.cell? ⟨b,off+j,none⟩=some (y j)) →
    (loadCellsFrom ⟨b,off,none⟩ i n acc).run P w = .ok (acc++((List.range' i n).map y).toArray) w:=by
  intro n
  induction n with
  | zero=>intro i acc h;simp [loadCellsFrom,run_pure]
  | succ n ih =>
    intro i acc h
    simp only [loadCellsFrom]
    rw [run_bind _ _ _ _ _ (run_load (by rw [add_plain];exact h i (Nat.le_refl _) (by omega)))]
    rw [ih (i+1) (acc.push (y i)) (fun j h1 h2=>h j (by omega) (by omega))]
    congr 1
    rw [List.range'_succ]
    apply Array.ext'
    simp
theorem run_loadCells (b off : Nat) (y : Nat → Value) (w : World) (n : Nat) (h : ∀ j, j < n → w.cell? ⟨b, off + j, none⟩ = some (y j)) :
    (loadCells ⟨b,off,none⟩ n).run P w = .ok ((List.range n).map y).toArray w:=by
  simp only [loadCells]
  rw [run_loadCellsFrom b off y w n 0 #[] (fun j _ h2=>h j (by omega))]
  simp [List.range_eq_range']
theorem run_loadVar {t : TypeId} {g : Bool} {n : Nat} (ht : tagg P t = some g) (hn : tsz P t = some n) (b off : Nat) (y : Nat → Value) (w : World)
    (h:∀ j,j<n→w.cell? ⟨b,off+j,none⟩=some (y j)) (h1:g=false→n=1) :
    (Instr.loadAt t (.pointer (some ⟨b,off,none⟩))).run P w = .ok (if g then .agg ((List.range n).map y).toArray else y 0) w:=by
  simp only [Instr.loadAt,Instr.sureAddr]
  rw [run_bind _ _ _ _ _ (run_pure _ _)]
  simp only [loadVar]
  rw [run_bind _ _ _ _ _ (run_isAgg ht w)]
  cases g with
  | true =>
    simp only [if_true]
    rw [run_bind _ _ _ _ _ (run_sizeOf hn w),run_bind _ _ _ _ _ (run_loadCells b off y w n h)]
    rfl
  | false =>
    simp only [Bool.false_eq_true,if_false]
    have:=h1 rfl
    subst this
    exact run_load (by simpa using h 0 (by omega))
theorem run_store {a:Addr} {v u:Value} {w:World} (h:w.cell? a=some u) (hf:w.frozen? a=false) (h1:one v=true):(store a v).run P w = .ok () (w.setCell a v):=by
  simp only [store]
  cases v<;>first | (simp [one] at h1;done) | (simp only [Sem.run,h,hf];rfl)
theorem setCell_plain {w : World} {b off : Nat} {arr : Array Value} {T : TypeId} {v : Value} (h : w.heap[b]? = some (.cells arr T (0, 0))) :
    w.setCell ⟨b,off,none⟩ v={ w with heap:=w.heap.setIfInBounds b (.cells (arr.setIfInBounds off v) T (0,0)) }:=by
  have hlt:=lt_of_heap h
  simp only [World.setCell]
  congr 1
  apply Array.ext_getElem?
  intro i
  rw [Array.getElem?_modify,Array.getElem?_setIfInBounds]
  by_cases e:b=i
  · subst e
    rw [if_pos rfl,if_pos rfl,if_pos hlt,h]
    simp
  · simp [e]
def setCells (arr : Array Value) (off : Nat) : List Value → Array Value
  | []=>arr
  | v :: r=>setCells (arr.setIfInBounds off v) (off+1) r
theorem size_setCells : ∀ (vs : List Value) (arr : Array Value) (off : Nat), (setCells arr off vs).size = arr.size
  | [],_,_=>rfl
  | v :: r,arr,off=>by simp only [setCells];rw [size_setCells r];simp
theorem get_setCells:∀ (vs:List Value) (arr:Array Value) (off j:Nat),off+vs.length≤arr.size →
    (setCells arr off vs)[j]? = if off≤j∧j<off+vs.length then vs[j - off]? else arr[j]?
  | [],arr,off,j,_=>by simp only [setCells,List.length_nil];rw [if_neg (by omega)]
  | v :: r,arr,off,j,h=>by
    simp only [List.length_cons] at h
    simp only [setCells]
    rw [get_setCells r _ _ _ (by simp;omega)]
    simp only [List.length_cons,Array.getElem?_setIfInBounds]
    by_cases e:j=off
    · subst e
      rw [if_neg (by omega),if_pos rfl,if_pos (by omega),if_pos (by omega)]
      simp
    · by_cases h2:off+1≤j∧j<off+1+r.length
      · rw [if_pos h2,if_pos (by omega)]
        rw [show j - off=(j - (off+1))+1 from by omega,List.getElem?_cons_succ]
      · rw [if_neg h2,if_neg (fun e'=>e e'.symm),if_neg (by omega)]
theorem run_storeCells (b:Nat) (T:TypeId):∀ (vs:List Value) (arr:Array Value) (w:World) (off i:Nat),w.heap[b]? = some (.cells arr T (0,0))→off+i+vs.length≤arr.size →
    (∀ v ∈ vs,one v=true) →
    (storeCells ⟨b,off,none⟩ vs i).run P w = .ok () { w with heap:=w.heap.setIfInBounds b (.cells (setCells arr (off+i) vs) T (0,0)) }
  | [],arr,w,off,i,h,_,_=>by
    have:w.heap.setIfInBounds b (.cells arr T (0,0))=w.heap:=by
      apply Array.ext_getElem?
      intro j
      rw [Array.getElem?_setIfInBounds]
      by_cases e:b=j
      · subst e;rw [if_pos rfl,if_pos (lt_of_heap h),h]
      · simp [e]
    simp only [storeCells,setCells,this]
    rfl
  | v :: r,arr,w,off,i,h,hl,h1=>by
    simp only [List.length_cons] at hl
    have hlt:=lt_of_heap h
    have hc:w.cell? ⟨b,off+i,none⟩=some arr[off+i]:=by
      simp [World.cell?,h]
    have hf:w.frozen? ⟨b,off+i,none⟩=false:=by simp [World.frozen?,h]
    simp only [storeCells]
    rw [run_bind _ _ _ _ _ (run_store (by rw [add_plain];exact hc) (by rw [add_plain];exact hf) (h1 v (by simp)))]
    rw [add_plain,setCell_plain h]
    rw [run_storeCells b T r (arr.setIfInBounds (off+i) v) _ off (i+1) (by simp [hlt]) (by simp;omega) (fun u hu=>h1 u (by simp [hu]))]
    simp only [setCells,Nat.add_assoc]
    congr 2
    apply Array.ext_getElem?
    intro j
    simp only [Array.getElem?_setIfInBounds]
    by_cases e:b=j<;>simp [e,hlt]
theorem run_storeVar {t : TypeId} {n : Nat} (hn : tsz P t = some n) (b off : Nat) (T : TypeId) (v : Value) (arr : Array Value) (w : World) (h : w.heap[b]? = some (.cells arr T (0, 0)))
    (hl:off+n≤arr.size) (hv:v.cells.size=n) (h1:∀ u ∈ v.cells.toList,one u=true) :
    (Instr.storeAt t (.pointer (some ⟨b,off,none⟩)) v).run P w = .ok () { w with heap:=w.heap.setIfInBounds b (.cells (setCells arr off v.cells.toList) T (0,0)) }:=by
  simp only [Instr.storeAt,Instr.sureAddr]
  rw [run_bind _ _ _ _ _ (run_pure _ _)]
  simp only [storeVar]
  rw [run_bind _ _ _ _ _ (run_sizeOf hn w)]
  rw [if_neg (by simp [hv])]
  have:=run_storeCells (P:=P) b T v.cells.toList arr w off 0 h (by simp;omega) h1
  simpa using this
theorem run_newRow (T:TypeId) (cells:Array Value) (w:World):(newRow T cells).run P w = .ok ⟨w.heap.size,0,none⟩ { w with heap:=w.heap.push (.cells cells T (0,0)) }:=rfl
theorem run_box (T : TypeId) (v : Value) (w : World) :
    (Instr.box T v).run P w = .ok (.pointer (some ⟨w.heap.size,0,none⟩)) { w with heap:=w.heap.push (.cells v.cells T (0,0)) }:=rfl
theorem run_alloc {t : TypeId} {zs : List Value} (h : tzero P t = some zs) (old : Value) (w : World) :
    (Instr.alloc t true old).run P w = .ok (.pointer (some ⟨w.heap.size,0,none⟩)) { w with heap:=w.heap.push (.cells zs.toArray t (0,0)) }:=by
  obtain ⟨z,hz,hr⟩:=run_zeroValue h w
  simp only [Instr.alloc]
  rw [run_bind _ _ _ _ _ hr]
  have:z.cells=zs.toArray:=by rw [← hz]
  show Result.ok _ _=_
  simp only [this]
end
def InK : IntKind → Int → Prop
  | .i8,n => -128≤n∧n≤127
  | .i16,n => -32768≤n∧n≤32767
  | .i32,n => -2147483648≤n∧n≤2147483647
  | .i64,n => -9223372036854775808≤n∧n≤9223372036854775807
  | .u8,n=>0≤n∧n≤255
  | .u16,n=>0≤n∧n≤65535
  | .u32,n=>0≤n∧n≤4294967295
  | .u64,n=>0≤n∧n≤18446744073709551615
theorem wrap_of_InK {k:IntKind} {n:Int} (h:InK k n):k.wrap n=n:=by
  cases k<;>simp only [InK] at h<;>simp only [IntKind.wrap,IntKind.bits,IntKind.signed]<;>(try simp)<;>(try split)<;>omega
abbrev DI (k:IntKind) (n:Int):D := .c (.v (.int k n))
abbrev DB (b:Bool):D := .c (.v (.bool b))
abbrev DS (s:ByteArray):D := .c (.v (.string s))
def andZ (k:IntKind) (a b:Int):Int:=k.wrap (((BitVec.ofInt k.bits a &&& BitVec.ofInt k.bits b).toNat:Nat):Int)
def dint (op:BinOp) (k:IntKind) (a b:Int):Option (Prop × D) :=
  match op with
  | .add=>some (InK k (a+b),DI k (a+b))
  | .sub=>some (InK k (a - b),DI k (a - b))
  | .mul=>some (InK k (a * b),DI k (a * b))
  | .quo=>some ((0≤a∧0<b)∧InK k a,DI k (a / b))
  | .rem=>some (0≤a∧0<b,DI k (a % b))
  | .and=>some (True,DI k (andZ k a b))
  | .or=>some ((0≤a∧0≤b)∧InK k a∧InK k b,DI k ((a.toNat ||| b.toNat:Nat):Int))
  | .xor=>some ((0≤a∧0≤b)∧InK k a∧InK k b,DI k ((a.toNat ^^^ b.toNat:Nat):Int))
  | .andNot=>some ((0≤a∧0≤b)∧InK k a∧InK k b,DI k ((a.toNat ^^^ (a.toNat &&& b.toNat):Nat):Int))
  | .eql=>some (True,DB (a == b))
  | .neq=>some (True,DB (a != b))
  | .lss=>some (True,DB (decide (a<b)))
  | .leq=>some (True,DB (decide (a≤b)))
  | .gtr=>some (True,DB (decide (b<a)))
  | .geq=>some (True,DB (decide (b≤a)))
  | _=>none
def dshift (op:BinOp) (k:IntKind) (a b:Int):Option (Prop × D) :=
  match op with
  | .shl=>some ((0≤b∧b≤k.bits)∧InK k (a * 2 ^ b.toNat),DI k (a * 2 ^ b.toNat))
  | .shr=>some (0≤b∧b≤k.bits,DI k (a / 2 ^ b.toNat))
  | _=>none
def dstr (op:BinOp) (a b:ByteArray):Option (Prop × D) :=
  match op with
  | .add=>some (((a.size+b.size:Nat):Int)≤9223372036854775807,DS (a++b))
  | .eql=>some (True,DB (a.toList == b.toList))
  | .neq=>some (True,DB (!(a.toList == b.toList)))
  | _=>none
def dbin (op:BinOp) (x y:D):Option (Prop × D) :=
  match x,y with
  | .c (.v (.int k a)),.c (.v (.int k' b))=>if op = .shl∨op = .shr then dshift op k a b else if k=k' then dint op k a b else none
  | .c (.v (.bool a)),.c (.v (.bool b))=>(match op with | .eql=>some (True,DB (a == b)) | .neq=>some (True,DB (a != b)) | _=>none)
  | .c (.v (.string a)),.c (.v (.string b))=>dstr op a b
  | _,_=>none
def dun (op:UnOp) (x:D):Option (Prop × D) :=
  match op,x with
  | .not,.c (.v (.bool b))=>some (True,DB !b)
  | .neg,.c (.v (.int k n))=>some (InK k (0 - n),DI k (0 - n))
  | _,_=>none
section
variable {P:Program}
theorem rd_scalar {I:Nat→Prop} {w:World} {s:Sg} {x y:Value} (h:RD I w s x (.c (.v y))):x=y∧one y=true:=by
  cases h with
  | c _ _ h=>cases h with | v _ _ h1=>exact ⟨rfl,h1⟩
theorem rd_int {I:Nat→Prop} {w:World} {s:Sg} (k:IntKind) (n:Int):RD I w s (.int k n) (DI k n) := .c _ _ (.v _ _ rfl)
theorem rd_bool {I:Nat→Prop} {w:World} {s:Sg} (b:Bool):RD I w s (.bool b) (DB b) := .c _ _ (.v _ _ rfl)
theorem rd_str {I:Nat→Prop} {w:World} {s:Sg} (b:ByteArray):RD I w s (.string b) (DS b) := .c _ _ (.v _ _ rfl)
theorem ofInt_nonneg (n:Nat) (a:Int) (h:0≤a) (h2:a.toNat<2 ^ n):(BitVec.ofInt n a).toNat=a.toNat:=by
  rw [BitVec.toNat_ofInt]
  obtain ⟨m,rfl⟩:=Int.eq_ofNat_of_zero_le h
  simp only [Int.toNat_natCast] at h2 ⊢
  have:((2 ^ n:Nat):Int)=(2:Int) ^ n:=by simp
  rw [Int.emod_eq_of_lt (by omega) (by omega)]
  simp
theorem InK_pow {k:IntKind}:∃ t,(∀ m:Nat,InK k (m:Int) ↔ m<2 ^ t)∧t≤k.bits:=by
  cases k
  · exact ⟨7,fun m=>by simp only [InK];omega,by simp [IntKind.bits]⟩
  · exact ⟨15,fun m=>by simp only [InK];omega,by simp [IntKind.bits]⟩
  · exact ⟨31,fun m=>by simp only [InK];omega,by simp [IntKind.bits]⟩
  · exact ⟨63,fun m=>by simp only [InK];omega,by simp [IntKind.bits]⟩
  · exact ⟨8,fun m=>by simp only [InK];omega,by simp [IntKind.bits]⟩
  · exact ⟨16,fun m=>by simp only [InK];omega,by simp [IntKind.bits]⟩
  · exact ⟨32,fun m=>by simp only [InK];omega,by simp [IntKind.bits]⟩
  · exact ⟨64,fun m=>by simp only [InK];omega,by simp [IntKind.bits]⟩
theorem bits_run {k : IntKind} {a b : Int} (ha : 0 ≤ a) (hb : 0 ≤ b) (hka : InK k a) (hkb : InK k b) (w : World) :
    (Op.intBits .and k a b).run P w = .ok (.int k ((a.toNat &&& b.toNat:Nat):Int)) w ∧
    (Op.intBits .or k a b).run P w = .ok (.int k ((a.toNat ||| b.toNat:Nat):Int)) w ∧
    (Op.intBits .xor k a b).run P w = .ok (.int k ((a.toNat ^^^ b.toNat:Nat):Int)) w ∧
    (Op.intBits .andNot k a b).run P w = .ok (.int k ((a.toNat ^^^ (a.toNat &&& b.toNat):Nat):Int)) w:=by
  obtain ⟨t,ht,htk⟩:=InK_pow (k:=k)
  have ea:InK k (a.toNat:Int):=by rw [Int.toNat_of_nonneg ha];exact hka
  have eb:InK k (b.toNat:Int):=by rw [Int.toNat_of_nonneg hb];exact hkb
  have la:=(ht _).1 ea
  have lb:=(ht _).1 eb
  have hp:2 ^ t≤2 ^ k.bits:=Nat.pow_le_pow_right (by omega) htk
  have na:=ofInt_nonneg k.bits a ha (by omega)
  have nb:=ofInt_nonneg k.bits b hb (by omega)
  have fin:∀ m:Nat,m<2 ^ t→k.wrap (m:Int)=m:=fun m hm=>wrap_of_InK ((ht m).2 hm)
  refine ⟨?_,?_,?_,?_⟩
  · show Result.ok _ _=_
    rw [BitVec.toNat_and,na,nb,fin _ (Nat.lt_of_le_of_lt Nat.and_le_left la)]
  · show Result.ok _ _=_
    rw [BitVec.toNat_or,na,nb,fin _ (Nat.or_lt_two_pow la lb)]
  · show Result.ok _ _=_
    rw [BitVec.toNat_xor,na,nb,fin _ (Nat.xor_lt_two_pow la lb)]
  · show Result.ok _ _=_
    have e:(BitVec.ofInt k.bits a &&& ~~~(BitVec.ofInt k.bits b))=(BitVec.ofInt k.bits a ^^^ (BitVec.ofInt k.bits a &&& BitVec.ofInt k.bits b)):=by
      ext i hi
      simp
      cases (BitVec.ofInt k.bits a)[i]<;>cases (BitVec.ofInt k.bits b)[i]<;>rfl
    rw [e,BitVec.toNat_xor,BitVec.toNat_and,na,nb,fin _ (Nat.xor_lt_two_pow la (Nat.lt_of_le_of_lt Nat.and_le_left la))]
theorem and_run (k:IntKind) (a b:Int) (w:World):(Op.intBits .and k a b).run P w = .ok (.int k (andZ k a b)) w:=by
  show Result.ok _ _=_
  rfl
theorem andZ_nn {k:IntKind} {a b:Int} (ha:0≤a) (hb:0≤b) (hka:InK k a) (hkb:InK k b):andZ k a b=((a.toNat &&& b.toNat:Nat):Int):=by
  obtain ⟨t,ht,htk⟩:=InK_pow (k:=k)
  have ea:InK k (a.toNat:Int):=by rw [Int.toNat_of_nonneg ha];exact hka
  have eb:InK k (b.toNat:Int):=by rw [Int.toNat_of_nonneg hb];exact hkb
  have la:=(ht _).1 ea
  have lb:=(ht _).1 eb
  have hp:2 ^ t≤2 ^ k.bits:=Nat.pow_le_pow_right (by omega) htk
  have na:=ofInt_nonneg k.bits a ha (by omega)
  have nb:=ofInt_nonneg k.bits b hb (by omega)
  rw [andZ,BitVec.toNat_and,na,nb]
  exact wrap_of_InK ((ht _).2 (Nat.lt_of_le_of_lt Nat.and_le_left la))
theorem andZ_small (T c:Nat) (hc:c<9223372036854775808):andZ .i64 (T:Int) (c:Int)=((T &&& c:Nat):Int):=by
  have hp:IntKind.i64.bits=64:=rfl
  have h1:T &&& c≤c:=Nat.and_le_right
  have e:(BitVec.ofInt IntKind.i64.bits (T:Int) &&& BitVec.ofInt IntKind.i64.bits (c:Int)).toNat=T &&& c:=by
    rw [BitVec.toNat_and,hp]
    simp only [BitVec.ofInt_natCast,BitVec.toNat_ofNat]
    rw [← Nat.and_mod_two_pow]
    exact Nat.mod_eq_of_lt (by omega)
  rw [andZ,e]
  exact wrap_of_InK (by simp only [InK];omega)
theorem andZ_1 (T:Nat):andZ .i64 (T:Int) 1=((T &&& 1:Nat):Int):=andZ_small T 1 (by omega)
theorem andZ_2 (T:Nat):andZ .i64 (T:Int) 2=((T &&& 2:Nat):Int):=andZ_small T 2 (by omega)
theorem dint_sound {op : BinOp} {k : IntKind} {a b : Int} {vc : Prop} {d : D} (h : dint op k a b = some (vc, d)) (hvc : vc) (hsh : op ≠ .shl ∧ op ≠ .shr) (t : TypeId) (w : World) :
    ∃ y,(binOp op t (.int k a) (.int k b)).run P w = .ok y w∧d = .c (.v y)∧one y=true:=by
  cases op <;> simp only [dint, Option.some.injEq, Prod.mk.injEq, reduceCtorEq] at h <;> (try (obtain ⟨rfl, rfl⟩ := h)) <;> first
    | exact absurd rfl hsh.1
    | exact absurd rfl hsh.2
    | (refine ⟨_, ?_, rfl, rfl⟩
       simp only [binOp,ne_eq,not_true_eq_false,if_false]
       first
         | exact and_run k a b w
         | exact (bits_run hvc.1.1 hvc.1.2 hvc.2.1 hvc.2.2 w).2.1
         | exact (bits_run hvc.1.1 hvc.1.2 hvc.2.1 hvc.2.2 w).2.2.1
         | exact (bits_run hvc.1.1 hvc.1.2 hvc.2.1 hvc.2.2 w).2.2.2
         | (simp only [Op.intArith,wrap_of_InK hvc];rfl)
         | (simp only [Op.intCmp];rfl)
         | (have h0 : ¬ (b = 0) := by omega
            simp only [Op.intDiv,if_neg h0,Int.tmod_eq_emod_of_nonneg hvc.1];rfl)
         | (have h0 : ¬ (b = 0) := by omega
            have hb:InK k (a / b):=by
              have h1:0≤a / b:=Int.ediv_nonneg hvc.1.1 (by omega)
              have h2:a / b≤a:=Int.ediv_le_self b hvc.1.1
              have:=hvc.2
              cases k<;>simp only [InK] at this ⊢<;>omega
            simp only [Op.intDiv,if_neg h0,Int.tdiv_eq_ediv_of_nonneg hvc.1.1,wrap_of_InK hb];rfl))
theorem dshift_sound {op : BinOp} {k k' : IntKind} {a b : Int} {vc : Prop} {d : D} (h : dshift op k a b = some (vc, d)) (hvc : vc) (t : TypeId) (w : World) :
    ∃ y,(binOp op t (.int k a) (.int k' b)).run P w = .ok y w∧d = .c (.v y)∧one y=true:=by
  cases op<;>simp only [dshift,Option.some.injEq,Prod.mk.injEq,reduceCtorEq] at h
  · obtain ⟨rfl,rfl⟩:=h
    refine ⟨_,?_,rfl,rfl⟩
    have h0:¬ (b<0):=by omega
    have hm:min b.toNat k.bits=b.toNat:=by omega
    simp only [binOp,Op.shift,if_neg h0,hm,wrap_of_InK hvc.2]
    rfl
  · obtain ⟨rfl,rfl⟩:=h
    refine ⟨_,?_,rfl,rfl⟩
    have h0:¬ (b<0):=by omega
    have hm:min b.toNat k.bits=b.toNat:=by omega
    have hp:(0:Int)≤2 ^ b.toNat:=Int.le_of_lt (Int.pow_pos (by omega))
    simp only [binOp,Op.shift,if_neg h0,hm]
    rw [Int.fdiv_eq_ediv_of_nonneg _ hp]
    rfl
theorem dstr_sound {op : BinOp} {a b : ByteArray} {vc : Prop} {d : D} (h : dstr op a b = some (vc, d)) (hvc : vc) (t : TypeId) (w : World) :
    ∃ y,(binOp op t (.string a) (.string b)).run P w = .ok y w∧d = .c (.v y)∧one y=true:=by
  cases op<;>simp only [dstr,Option.some.injEq,Prod.mk.injEq,reduceCtorEq] at h<;>(obtain ⟨rfl,rfl⟩:=h)<;>refine ⟨_,?_,rfl,rfl⟩<;>simp only [binOp,Op.stringOp]
  · rw [if_neg (by simp [IntKind.max,IntKind.signed,IntKind.bits];omega)]
    rfl
  · rfl
  · rfl
end
end Go.CT
