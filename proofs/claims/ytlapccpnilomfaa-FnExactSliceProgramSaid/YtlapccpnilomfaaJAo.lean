/- Functions that write numbers into young plain blocks: what survives such a write; their contracts; the rules for a store, for a call among them, and for a call out of a law. -/
import Derived.Test.YtlapccpnilomfaaJAn
set_option linter.unusedVariables false
set_option linter.unusedSimpArgs false
set_option linter.unusedSectionVars false
set_option maxHeartbeats 16000000
set_option maxRecDepth 100000
namespace Go.CT
open Go.RowKit
variable [Yn]
inductive Mk : C → Prop
  | num (k:IntKind):Mk (.num k)
  | unk:Mk .unk
  | sl (sz:Nat) (xs:List (List C)) (h:∀ r ∈ xs,∀ c ∈ r,Mk c):Mk (.isl sz xs)
  | ep (cs:List C) (h:∀ c ∈ cs,Mk c):Mk (.eptr cs)
def Tu (x x':Value):Prop:=x'=x∨∃ k n n',x = .int k n∧x' = .int k n'
theorem Nm.cell {I:Nat→Prop} {w w':World} (h:Nm I w w') {b off:Nat} {y:Value} (hb:I b) (hc:w.cell? ⟨b,off,none⟩=some y):∃ y',w'.cell? ⟨b,off,none⟩=some y'∧Tu y y':=by
  simp only [World.cell?] at hc
  split at hc
  · rename_i arr T fr e
    obtain ⟨arr',e',_,hj⟩:=h b arr T fr hb e
    simp only [Option.isSome_none,Bool.false_eq_true,if_false] at hc
    rcases hj off y hc with q | ⟨k,n,n',rfl,q⟩
    · exact ⟨y,by simp [World.cell?,e',q],.inl rfl⟩
    · exact ⟨_,by simp only [World.cell?,e'];simpa using q,.inr ⟨k,n,n',rfl,rfl⟩⟩
  · cases hc
theorem RC.mm {I:Nat→Prop} {w w':World} (hN:Nm I w w') {c:C} (hm:Mk c):∀ {s:Sg} {x x':Value},Tu x x'→RC I w s x c→RC I w' s x' c:=by
  induction hm with
  | num k =>
    intro s x x' ht h
    cases h with
    | num _ _ n =>
      rcases ht with rfl | ⟨k',m,m',e,rfl⟩
      · exact .num _ k n
      · cases e;exact .num _ k m'
  | unk =>
    intro s x x' ht h
    cases h with
    | unk _ _ h1 =>
      rcases ht with rfl | ⟨k',m,m',e,rfl⟩
      · exact .unk _ _ h1
      · exact .unk _ _ rfl
  | sl sz xs h ih =>
    intro s x x' ht hr
    have hx:x'=x:=by
      rcases ht with e | ⟨k,m,m',e,_⟩
      · exact e
      · subst e;cases hr
    subst hx
    cases hr with
    | isl0 _ a cap _=>exact .isl0 _ a cap sz
    | isl _ b off cap _ _ y hI hl hc hrd hcap =>
      have each:∀ i j,∃ y',i<xs.length→j<sz→w'.cell? ⟨b,off+i * sz+j,none⟩=some y'∧Tu (y i j) y':=fun i j=>by
        by_cases hij:i<xs.length∧j<sz
        · obtain ⟨y',h1,h2⟩:=hN.cell hI (hc i j hij.1 hij.2)
          exact ⟨y',fun _ _=>⟨h1,h2⟩⟩
        · exact ⟨undef,fun h1 h2=>absurd ⟨h1,h2⟩ hij⟩
      have hY:=fun i j=>Classical.choose_spec (each i j)
      exact .isl _ b off cap sz xs (fun i j => Classical.choose (each i j)) hI hl (fun i j hi hj => (hY i j hi hj).1)
        (fun i hi j hj=>ih _ (List.getElem_mem hi) _ (List.getElem_mem hj) (hY i j hi (by rw [← hl i hi];exact hj)).2 (hrd i hi j hj)) hcap
  | ep cs h ih =>
    intro s x x' ht hr
    have hx:x'=x:=by
      rcases ht with e | ⟨k,m,m',e,_⟩
      · exact e
      · subst e;cases hr
    subst hx
    cases hr with
    | eptr _ b off _ y hI hc hrd =>
      have each:∀ j,∃ y',j<cs.length→w'.cell? ⟨b,off+j,none⟩=some y'∧Tu (y j) y':=fun j=>by
        by_cases hj:j<cs.length
        · obtain ⟨y',h1,h2⟩:=hN.cell hI (hc j hj)
          exact ⟨y',fun _=>⟨h1,h2⟩⟩
        · exact ⟨undef,fun h1=>absurd h1 hj⟩
      have hY:=fun j=>Classical.choose_spec (each j)
      exact .eptr _ b off cs (fun j=>Classical.choose (each j)) hI (fun j hj=>(hY j hj).1) (fun j hj=>ih _ (List.getElem_mem hj) (hY j hj).2 (hrd j hj))
inductive Ws : C → Prop
  | v (x:Value):Ws (.v x)
  | mm {c:C} (h:Mk c):Ws c
  | msl (k sz off len:Nat):Ws (.msl k sz off len)
  | ptr (k off:Nat):Ws (.ptr k off)
  | z:Ws .z
theorem RC.ws {I:Nat→Prop} {w w':World} {s:Sg} {x:Value} {c:C} (hN:Nm I w w') (hs:Shp w w') (h:RC I w s x c) (hw:Ws c):RC I w' s x c:=by
  cases hw with
  | v y=>cases h with | v _ _ h1=>exact .v _ _ h1
  | mm hm=>exact h.mm hN hm (.inl rfl)
  | msl k sz off len =>
    cases h with
    | msl0 _ a _ _ h=>exact .msl0 _ a k sz h
    | msl _ _ b _ _ _ cap arr T fr h hlen hb hcap =>
      obtain ⟨arr',e,hsz⟩:=hs b arr T fr hb
      exact .msl _ k b sz off len cap arr' T fr h hlen e (by omega)
  | ptr k off=>cases h with | ptr _ _ b _ h=>exact .ptr _ k b off h
  | z=>cases h with | z _ a=>exact .z _ a
def WsD : D → Prop
  | .c c=>Ws c
  | .agg cs=>∀ c ∈ cs,Ws c
  | _=>False
theorem RD.ws {I:Nat→Prop} {w w':World} {s:Sg} {x:Value} {d:D} (hN:Nm I w w') (hs:Shp w w') (h:RD I w s x d) (hw:WsD d):RD I w' s x d:=by
  cases h with
  | c _ c h=>exact .c _ _ (h.ws hN hs hw)
  | agg vs cs hl hr=>exact .agg vs cs hl fun j h1 h2=>(hr j h1 h2).ws hN hs (hw _ (List.getElem_mem h2))
  | _=>exact hw.elim
structure Mw (I : Nat → Prop) (w w' : World) : Prop where
  os:w'.os=w.os
  tape:w'.tape=w.tape
  output:w'.output=w.output
  size:w.heap.size≤w'.heap.size
  same:∀ b,b<w.heap.size→¬ I b→w'.heap[b]? = w.heap[b]?
  shp:Shp w w'
  num:Nm I w w'
theorem Mw.sim {I:Nat→Prop} {w w':World} {s:Sg} {hp:Hp} (h0:Yn.n=0) (H:SimH I w s hp) (M:Mw I w w') (hh:∀ k cs,hp k=some (some cs)→∀ c ∈ cs,Ws c):SimH I w' s hp∧ExtW I w s hp I w' s hp:=by
  refine ⟨⟨H.top,fun k cs hk=>?_,H.inj,fun b hb=>Nat.lt_of_lt_of_le (H.imm b hb) M.size,H.yng.step M.size (fun b hb=>absurd hb (by omega)) fun b h => .inl h,H.wri.step M.shp⟩,
    ⟨M.os,M.tape,M.output,M.size,fun b hb hn hl=>M.same b hb fun hi=>hn ⟨hi,by omega⟩,M.shp,M.num,fun b hb => .inl hb,fun b hb => .inl hb⟩⟩
  rcases H.blk k cs hk with h1 | ⟨b,arr,T,h1,h2,h3,h4,h5⟩
  · exact .inl h1
  · refine .inr ⟨b,arr,T,h1,by rw [M.same b (lt_of_heap h2) h4];exact h2,h3,h4,fun j hj=>?_⟩
    obtain ⟨y,hy,hr⟩:=h5 j hj
    exact ⟨y,hy,hr.ws M.num M.shp (hh k cs hk _ (List.getElem_mem hj))⟩
theorem tOf_mem : ∀ {tl : List (Nat × D)} {n : Nat} {d : D}, tOf tl n = some d → (n, d) ∈ tl
  | [],n,d,h=>by simp [tOf] at h
  | (j,y) :: l,n,d,h=>by
    simp only [tOf,upd] at h
    split at h
    · rename_i e
      simp only [Option.some.injEq] at h
      rw [e,h];simp
    · simp [tOf_mem h]
theorem Rc.weak {I : Nat → Prop} {w w' : World} {s : Sg} {a : Act} {tm : Nat → Option D} {hp : Hp} {nt : Nat} (h0 : Yn.n = 0) (hR : Rc I w s a tm hp nt) (M : Mw I w w') (hh : ∀ k cs, hp k = some (some cs) → ∀ c ∈ cs, Ws c)
    {tl:List (Nat × D)} (htl:∀ p ∈ tl,tm p.1=some p.2∧WsD p.2):Rc I w' s a (tOf tl) hp nt :=
  ⟨(M.sim h0 hR.H hh).1,fun n d hd=>(hR.tm n d (htl _ (tOf_mem hd)).1).ws M.num M.shp (htl _ (tOf_mem hd)).2,hR.df,hR.sz⟩
theorem Rc.put {I : Nat → Prop} {w : World} {s : Sg} {a : Act} {tm : Nat → Option D} {hp : Hp} {nt : Nat} (hR : Rc I w s a tm hp nt) {dst : Option Tmp} {v : Value} {d : D} (hd : RD I w s v d) (hf : fitsT nt dst = true) :
    Rc I w s (a.put dst v) (setT tm dst (some d)) hp nt :=
  ⟨hR.H,slots_put hR.tm hR.sz (fun d' e=>by cases e;exact hd) hf,by cases dst<;>simp [Act.put,hR.df],by cases dst<;>simp [Act.put,hR.sz]⟩
theorem Rc.putN {I : Nat → Prop} {w : World} {s : Sg} {a : Act} {tm : Nat → Option D} {hp : Hp} {nt : Nat} (hR : Rc I w s a tm hp nt) {dst : Option Tmp} {v : Value} (hf : fitsT nt dst = true) :
    Rc I w s (a.put dst v) (setT tm dst none) hp nt :=
  ⟨hR.H,slots_put hR.tm hR.sz (fun d' e=>by cases e) hf,by cases dst<;>simp [Act.put,hR.df],by cases dst<;>simp [Act.put,hR.sz]⟩
def DW (P:Program) (F:FuncId) (args:List D) (R:Int→Prop):Prop :=
  ∀ (I:Nat→Prop) (w:World) (vs:Array Value),(∀ b,I b→b<w.heap.size)→(∀ b,I b→∃ arr T,w.heap[b]? = some (.cells arr T (0,0)))→RDs I w Sg0 vs args →
    Calls P F vs w fun e w'=>∃ n,e = .returned (.int .i64 n)∧R n∧Mw I w w'
theorem DW.imp {P:Program} {F:FuncId} {args:List D} {R R':Int→Prop} (h:DW P F args R) (hr:∀ n,R n→R' n):DW P F args R':=fun I w vs h1 h2 h3 =>
  (h I w vs h1 h2 h3).mono fun e w' ⟨n,e1,e2,e3⟩=>⟨n,e1,hr n e2,e3⟩
section
variable {P:Program} {m:Nat} {f:FuncId} {nt:Nat} {R:D→List (Option (List C))→Prop}
theorem dw_of_go (h0 : Yn.n = 0) {fn : Func} {c : Code} {R' : Int → Prop} {args : List D} (hf : P.funcs[f]? = some fn)
    (hg:Go true P 0 f fn.ntmps (fun d h'=>(∃ n,d=DI .i64 n∧R' n)∧h'=[]) [.code c] ⟨ofArgs 0 args,hpL [],0⟩) (hb:fn.body=some c:=by rfl) (hn:args.length≤fn.ntmps:=by simp):DW P f args R':=fun I w vs hI hW hvs=>by
  intro cs
  have henter:Frame.enter P f vs .normal=(bf f).at { tmps:=vs++Array.replicate (fn.ntmps - vs.size) undef,defers:=[] } [.code c]:=by
    simp [Frame.enter,Frame.at,hf,hb,bf]
  have hsz:vs.size=args.length:=hvs.1
  have H:SimH I w Sg0 (hpL []):=⟨fun _ _=>rfl,fun k cs hk=>by simp [hpL] at hk,fun k k' b cs cs' hk=>by simp [hpL] at hk,hI,⟨by omega,fun b ⟨k,cs,hk,_⟩=>by simp [hpL] at hk,fun b hb=>absurd hb (by omega)⟩,fun b hb _=>hW b hb⟩
  have hR:Rc I w Sg0 { tmps:=vs++Array.replicate (fn.ntmps - vs.size) undef,defers:=[] } (ofArgs 0 args) (hpL []) fn.ntmps:=by
    refine ⟨H,fun n d hd=>?_,rfl,by simp;omega⟩
    rw [ofArgs_get,if_pos (Nat.zero_le _),Nat.sub_zero] at hd
    obtain ⟨hlt,e⟩:=List.getElem?_eq_some_iff.1 hd
    have:(vs++Array.replicate (fn.ntmps - vs.size) undef).getD n undef=vs[n]'(by omega):=by
      rw [Array.getD_eq_getD_getElem?,Array.getElem?_append_left (by omega)]
      simp [show n<vs.size from by omega]
    simp only [this]
    rw [← e]
    exact hvs.2 n (by omega) hlt
  obtain ⟨v,w',fr,I',s',d,h',⟨⟨n,rfl,g1⟩,rfl⟩,g2,g3,g4,g5,g6,g7,g8⟩:=hg I w Sg0 _ hR cs
  rw [← henter] at g6
  unfold ExtG at g4
  rw [if_pos rfl] at g4
  obtain ⟨rfl,_⟩:=rd_scalar g2
  exact ⟨_,w',fr,⟨n,rfl,g1,⟨g4.os,g4.tape,g4.output,g4.size,fun b hb hn=>g4.same b hb (fun q=>hn q.1) fun ⟨k,cs,hk,_⟩=>by simp [hpL] at hk,g4.shp,g4.num⟩⟩,g6,g7,g8⟩
def kfD : D → Bool
  | .c c=>kf c
  | .agg cs=>kfs cs
  | _=>false
theorem RD.key0 {I:Nat→Prop} {w:World} {s:Sg} {x:Value} {d:D} (h:RD I w s x d) (hk:kfD d=true):RD I w Sg0 x d:=by
  cases h with
  | c _ c h=>exact .c _ _ (h.kf0 hk)
  | agg vs cs hl hr=>exact .agg vs cs hl fun j h1 h2=>(hr j h1 h2).kf0 (kfs_get hk j h2)
  | _=>cases hk
theorem XK.wcall (h0 : Yn.n = 0) {all : Array Oper} {i : Nat} {o : Oper} {rest : List Oper} {lg : Lg} {nx0 : Nat} {k : List Item} {S : Ms} {F : FuncId} {args : List D} {R' : Int → Prop} (tl : List (Nat × D))
    (hD:DW P F args R') (hfn:fnOK P F=true) (hh:∀ k cs,S.hp k=some (some cs)→∀ c ∈ cs,Ws c) (htl:∀ p ∈ tl,S.tm p.1=some p.2∧WsD p.2)
    (next:∀ n,R' n→XK true P m f nt R (some ⟨all,false,i+1,rest,lg,nx0⟩) k ⟨setT (tOf tl) o.dst (some (DI .i64 n)),S.hp,S.nx⟩)
    (hop:o.op = .call (getCall o):=by rfl) (hg:o.guard=none:=by rfl) (hc:calleeOf S.tm (getCall o)=some (F,args):=by rfl) (hok:okB S.tm (getCall o).operands.toList=true:=by rfl) (hkf:args.all kfD=true:=by rfl)
    (hf:fitsT nt o.dst=true:=by rfl) :
    XK true P m f nt R (some ⟨all,false,i,o :: rest,lg,nx0⟩) k S:=by
  simp only [XK,dopsL]
  refine Pre.intro (.inr ⟨⟨rfl,rfl⟩,fun ho I w s a hR Q Kc hK=>?_⟩)
  unfold wpOp
  simp only [ho]
  have hw:Region.wanted o (yielded all a.tmps)=true:=by simp [Region.wanted,hg]
  rw [if_pos hw]
  refine .inl ?_
  unfold Oper.wp
  obtain ⟨vs,hrun,hvs⟩:=call_run (P:=P) hR.tm hop hc (okP_of hok) hfn
  rw [hrun]
  refine (hD I w vs hR.H.imm (fun b hb=>hR.H.wri b hb (by omega)) ⟨hvs.1,fun j h1 h2=>(hvs.2 j h1 h2).key0 (List.all_eq_true.1 hkf _ (List.getElem_mem h2))⟩).mono ?_
  rintro e w' ⟨n,rfl,hn,M⟩
  exact hK _ w' I s _ (next n hn) ((hR.weak h0 M hh htl).put (rd_int _ _) hf) (M.sim h0 hR.H hh).2
theorem XK.wst (h0 : Yn.n = 0) {all : Array Oper} {i : Nat} {o : Oper} {rest : List Oper} {lg : Lg} {nx0 : Nat} {k : List Item} {S : Ms} {t : TypeId} {px vx : Operand} {kk : IntKind} {cs : List C} {n : Int} (tl : List (Nat × D))
    (hh:∀ k cs,S.hp k=some (some cs)→∀ c ∈ cs,Ws c) (htl:∀ p ∈ tl,S.tm p.1=some p.2∧WsD p.2)
    (next:XK true P m f nt R (some ⟨all,false,i+1,rest,lg,nx0⟩) k ⟨setT (tOf tl) o.dst none,S.hp,S.nx⟩)
    (hop:o.op = .store t px vx:=by rfl) (hg:o.guard=none:=by rfl) (hpx:evP S.tm px=some (.c (.eptr (.num kk :: cs))):=by rfl) (hvx:evP S.tm vx=some (.c (.v (.int kk n))):=by rfl) (hsz:tsz P t=some 1:=by kernel_rfl)
    (hok:okB S.tm [px,vx]=true:=by rfl) (hf:fitsT nt o.dst=true:=by rfl) :
    XK true P m f nt R (some ⟨all,false,i,o :: rest,lg,nx0⟩) k S:=by
  simp only [XK,dopsL]
  refine Pre.intro (.inr ⟨⟨rfl,rfl⟩,fun ho I w s a hR Q Kc hK=>?_⟩)
  have hok':=okP_of hok
  obtain ⟨b,off,y,hxv,hIb,hc,hrd⟩:=rd_eptr (evP_sound hR.tm hpx hok' (by simp))
  have hv:=(rd_scalar (evP_sound hR.tm hvx hok' (by simp))).1
  have h1:=hc 0 (by simp)
  have h2:=hrd 0 (by simp)
  simp only [Nat.add_zero,List.getElem_cons_zero] at h1 h2
  obtain ⟨arr,T,hb⟩:=hR.H.wri b hIb (by omega)
  obtain ⟨n0,hy⟩:∃ n0,y 0 = .int kk n0:=by
    generalize y 0=yy at h2
    cases h2 with | num _ _ n0=>exact ⟨n0,rfl⟩
  have hcell:arr[off]? = some (.int kk n0):=by
    simp only [World.cell?,hb] at h1
    simpa [hy] using h1
  have hlt:off<arr.size:=(Array.getElem?_eq_some_iff.1 hcell).1
  have hrun:=run_storeVar (P:=P) hsz b off T (a.eval vx) arr w hb (by omega) (by rw [hv];rfl) (fun u hu=>by rw [hv] at hu;simp [Value.cells] at hu;subst hu;rfl)
  rw [hv] at hrun
  let w':World:={ w with heap:=w.heap.setIfInBounds b (.cells (arr.setIfInBounds off (.int kk n)) T (0,0)) }
  have hget:∀ j,w'.heap[j]? = if j=b then some (.cells (arr.setIfInBounds off (.int kk n)) T (0,0)) else w.heap[j]? := fun j=>by
    show (w.heap.setIfInBounds b _)[j]? = _
    rw [Array.getElem?_setIfInBounds]
    by_cases e:j=b
    · subst e;simp [lt_of_heap hb]
    · rw [if_neg (fun h=>e h.symm),if_neg e]
  have hrun':(execOp a.eval o).run P w = .ok .skip w':=by
    simp only [execOp,hop,hxv,hv]
    exact run_u hrun
  have hnum:∀ (j:Nat) (z:Value),arr[j]? = some z→(arr.setIfInBounds off (.int kk n))[j]? = some z∨∃ q q1 q2,z = .int q q1∧(arr.setIfInBounds off (.int kk n))[j]? = some (.int q q2):=fun j z hz=>by
    rw [Array.getElem?_setIfInBounds]
    by_cases e:off=j
    · subst e
      rw [hcell] at hz
      cases hz
      exact .inr ⟨kk,n0,n,rfl,by simp [hlt]⟩
    · rw [if_neg e];exact .inl hz
  have M:Mw I w w':=by
    refine ⟨rfl,rfl,rfl,by simp [w'],fun j hj hn=>?_,fun j arr0 T0 fr e=>?_,fun j arr0 T0 fr hj e=>?_⟩
    · rw [hget,if_neg (fun e=>hn (by rw [e];exact hIb))]
    · by_cases q:j=b
      · subst q
        rw [hb] at e;cases e
        exact ⟨_,by rw [hget,if_pos rfl],by simp⟩
      · exact ⟨arr0,by rw [hget,if_neg q];exact e,rfl⟩
    · by_cases q:j=b
      · subst q
        rw [hb] at e;cases e
        exact ⟨_,by rw [hget,if_pos rfl],by simp,hnum⟩
      · exact ⟨arr0,by rw [hget,if_neg q];exact e,rfl,fun j' z hz => .inl hz⟩
  unfold wpOp
  simp only [ho]
  have hw:Region.wanted o (yielded all a.tmps)=true:=by simp [Region.wanted,hg]
  rw [if_pos hw]
  refine .inl ?_
  unfold Oper.wp
  rw [hrun']
  exact hK _ w' I s _ next ((hR.weak h0 M hh htl).putN hf) (M.sim h0 hR.H hh).2
inductive Yt : C → C → Prop
  | v (x:Value):Yt (.v x) (.v x)
  | num (k:IntKind) (n:Int):Yt (.v (.int k n)) (.num k)
  | nn (k:IntKind):Yt (.num k) (.num k)
  | sl (sz : Nat) (xs xs' : List (List C)) (hl : xs.length = xs'.length) (h : ∀ (i : Nat) (r r' : List C), xs[i]? = some r → xs'[i]? = some r' → r.length = r'.length)
      (hc:∀ (i j:Nat) (r r':List C) (c c':C),xs[i]? = some r→xs'[i]? = some r'→r[j]? = some c→r'[j]? = some c'→Yt c c'):Yt (.csl true sz xs) (.isl sz xs')
theorem RC.yt {I:Nat→Prop} {w:World} {c c':C} (h:Yt c c'):∀ {s:Sg} {x:Value},RC I w s x c→@RC ⟨0,fun _=>none⟩ (fun b=>I b∧Yn.n≤b) w Sg0 x c':=by
  induction h with
  | v y=>intro s x h;cases h with | v _ _ h1=>exact @RC.v ⟨0,fun _=>none⟩ _ _ _ _ h1
  | num k n=>intro s x h;cases h with | v _ _ h1=>exact @RC.num ⟨0,fun _=>none⟩ _ _ _ k n
  | nn k=>intro s x h;cases h with | num _ _ n=>exact @RC.num ⟨0,fun _=>none⟩ _ _ _ k n
  | sl sz xs xs' hl hr hc ih =>
    intro s x h
    cases h with
    | csl0 _ a cap _ _ =>
      have:xs'=[]:=List.eq_nil_of_length_eq_zero (by simpa using hl.symm)
      subst this
      exact @RC.isl0 ⟨0,fun _=>none⟩ _ _ _ a cap sz
    | csl _ b off len cap _ _ _ h hN =>
      cases h with
      | isl0 _ _ _ _ =>
        have:xs'=[]:=List.eq_nil_of_length_eq_zero (by simpa using hl.symm)
        subst this
        exact @RC.isl0 ⟨0,fun _=>none⟩ _ _ _ _ cap sz
      | isl _ _ _ _ _ _ z hI hle hcell hrd hcap =>
        rw [hl] at hcap ⊢
        refine @RC.isl ⟨0,fun _=>none⟩ _ _ _ b off cap sz xs' z ⟨hI,by simpa using hN⟩ (fun i hi=>?_) (fun i j hi hj=>hcell i j (by omega) hj) (fun i hi j hj=>?_) hcap
        · have hi':i<xs.length:=by omega
          have:=hr i xs[i] xs'[i] (List.getElem?_eq_getElem hi') (List.getElem?_eq_getElem hi)
          rw [← this];exact hle i hi'
        · have hi':i<xs.length:=by omega
          have e:=hr i xs[i] xs'[i] (List.getElem?_eq_getElem hi') (List.getElem?_eq_getElem hi)
          have hj':j<(xs[i]).length:=by omega
          exact ih i j _ _ _ _ (List.getElem?_eq_getElem hi') (List.getElem?_eq_getElem hi) (List.getElem?_eq_getElem hj') (List.getElem?_eq_getElem hj) (hrd i hi' j hj')
def Yts (cs cs':List C):Prop:=cs.length=cs'.length∧∀ (j:Nat) (c c':C),cs[j]? = some c→cs'[j]? = some c'→Yt c c'
theorem Yt.map {α:Type} {sz:Nat} {l:List α} {f g:α→List C} (h:∀ a ∈ l,Yts (f a) (g a)):Yt (.csl true sz (l.map f)) (.isl sz (l.map g)):=by
  refine .sl sz _ _ (by simp) (fun i r r' hr hr'=>?_) (fun i j r r' c c' hr hr' hc hc'=>?_)
  · simp only [List.getElem?_map,Option.map_eq_some_iff] at hr hr'
    obtain ⟨a,ha,rfl⟩:=hr
    obtain ⟨a',ha',rfl⟩:=hr'
    rw [ha] at ha';cases ha'
    exact (h a (List.mem_of_getElem? ha)).1
  · simp only [List.getElem?_map,Option.map_eq_some_iff] at hr hr'
    obtain ⟨a,ha,rfl⟩:=hr
    obtain ⟨a',ha',rfl⟩:=hr'
    rw [ha] at ha';cases ha'
    exact (h a (List.mem_of_getElem? ha)).2 j c c' hc hc'
theorem Yts.nil:Yts [] []:=⟨rfl,fun j c c' h=>by simp at h⟩
theorem Yts.cons {c c':C} {cs cs':List C} (h:Yt c c') (h':Yts cs cs'):Yts (c :: cs) (c' :: cs') :=
  ⟨by simp [h'.1],fun j d d' g g'=>by
    cases j with
    | zero=>simp only [List.getElem?_cons_zero,Option.some.injEq] at g g';subst g;subst g';exact h
    | succ j=>exact h'.2 j d d' (by simpa using g) (by simpa using g')⟩
theorem Yts.app {a a' b b':List C} (h:Yts a a') (h':Yts b b'):Yts (a++b) (a'++b') :=
  ⟨by simp [h.1,h'.1],fun j d d' g g'=>by
    rcases Nat.lt_or_ge j a.length with hj | hj
    · rw [List.getElem?_append_left hj] at g
      rw [List.getElem?_append_left (by rw [← h.1];exact hj)] at g'
      exact h.2 j d d' g g'
    · rw [List.getElem?_append_right hj] at g
      rw [List.getElem?_append_right (by rw [← h.1];exact hj),← h.1] at g'
      exact h'.2 _ d d' g g'⟩
inductive YtD : D → D → Prop
  | c {a b:C} (h:Yt a b):YtD (.c a) (.c b)
  | agg {a b:List C} (h:Yts a b):YtD (.agg a) (.agg b)
theorem RD.yt {I:Nat→Prop} {w:World} {s:Sg} {x:Value} {d d':D} (h:YtD d d') (hr:RD I w s x d) : @RD ⟨0,fun _=>none⟩ (fun b=>I b∧Yn.n≤b) w Sg0 x d':=by
  cases h with
  | c h=>cases hr with | c _ _ hr=>exact @RD.c ⟨0,fun _=>none⟩ _ _ _ _ _ (hr.yt h)
  | agg h =>
    cases hr with
    | agg vs _ hl hr =>
      have h3:=h.1
      refine @RD.agg ⟨0,fun _=>none⟩ _ _ _ vs _ (by rw [hl,h.1]) fun j h1 h2=>?_
      exact (hr j h1 (by omega)).yt (h.2 j _ _ (List.getElem?_eq_getElem (by omega)) (List.getElem?_eq_getElem h2))
inductive YtDs : List D → List D → Prop
  | nil:YtDs [] []
  | cons {d d':D} {l l':List D} (h:YtD d d') (h':YtDs l l'):YtDs (d :: l) (d' :: l')
theorem YtDs.len {l l':List D} (h:YtDs l l'):l.length=l'.length:=by
  induction h with
  | nil=>rfl
  | cons _ _ ih=>simp [ih]
theorem YtDs.at {l l':List D} (h:YtDs l l'):∀ (j:Nat) (d d':D),l[j]? = some d→l'[j]? = some d'→YtD d d':=by
  induction h with
  | nil=>intro j d d' h;simp at h
  | cons h h' ih =>
    intro j d d' g g'
    cases j with
    | zero=>simp only [List.getElem?_cons_zero,Option.some.injEq] at g g';subst g;subst g';exact h
    | succ j=>exact ih j d d' (by simpa using g) (by simpa using g')
inductive Od (hT : Hp) : C → Prop
  | v (x:Value):Od hT (.v x)
  | sl (sz:Nat) (xs:List (List C)) (h:∀ r ∈ xs,∀ c ∈ r,Od hT c):Od hT (.csl false sz xs)
  | nil (sz:Nat):Od hT (.isl sz [])
  | msl (k sz off len:Nat) (h:hT k ≠ none):Od hT (.msl k sz off len)
  | ptr (k off:Nat) (h:hT k ≠ none):Od hT (.ptr k off)
theorem RC.od {I:Nat→Prop} {w w':World} {hT:Hp} (hM:∀ b,I b→b<Yn.n→w'.heap[b]? = w.heap[b]?) (hs:Shp w w') {c:C} (h:Od hT c):∀ {s s':Sg} {x:Value},(∀ k,hT k ≠ none→s' k=s k)→RC I w s x c→RC (fun b=>I b∧b<Yn.n) w' s' x c:=by
  induction h with
  | v y=>intro s s' x _ h;cases h with | v _ _ h1=>exact .v _ _ h1
  | sl sz xs h ih =>
    intro s s' x _ h
    cases h with
    | csl0 _ a cap _ _=>exact .csl0 _ a cap sz false
    | csl _ b off len cap _ _ _ h hN =>
      cases h with
      | isl0 _ _ _ _=>exact .csl _ b off 0 cap sz [] false (.isl0 _ _ cap sz) hN
      | isl _ _ _ _ _ _ z hI hle hcell hrd hcap =>
        have hb:b<Yn.n:=by simpa using hN
        exact .csl _ b off _ cap sz xs false (.isl _ b off cap sz xs z ⟨hI, hb⟩ hle (fun i j hi hj => (cell_of_heap (hM b hI hb)).trans (hcell i j hi hj))
          (fun i hi j hj=>ih _ (List.getElem_mem hi) _ (List.getElem_mem hj) (fun _ _=>rfl) (hrd i hi j hj)) hcap) hN
  | nil sz =>
    intro s s' x _ h
    generalize hxs:([]:List (List C))=xs at h
    cases h with
    | isl0 _ a cap _=>exact .isl0 _ a cap sz
    | isl _ b off cap _ _ y hI hl hc hr hcap =>
      subst hxs
      exact .isl0 _ _ cap sz
  | msl k sz off len hk =>
    intro s s' x hk' h
    cases h with
    | msl0 _ a _ _ h=>exact .msl0 _ a k sz (by rw [hk' k hk];exact h)
    | msl _ _ b _ _ _ cap arr T fr h hlen hb hcap =>
      obtain ⟨arr',e,hsz⟩:=hs b arr T fr hb
      exact .msl _ k b sz off len cap arr' T fr (by rw [hk' k hk];exact h) hlen e (by omega)
  | ptr k off hk=>intro s s' x hk' h;cases h with | ptr _ _ b _ h=>exact .ptr _ k b off (by rw [hk' k hk];exact h)
def OdD (hT : Hp) : D → Prop
  | .c c=>Od hT c
  | .agg cs=>∀ c ∈ cs,Od hT c
  | _=>False
theorem RD.od {I:Nat→Prop} {w w':World} {hT:Hp} (hM:∀ b,I b→b<Yn.n→w'.heap[b]? = w.heap[b]?) (hs:Shp w w') {s s':Sg} {x:Value} {d:D} (h:OdD hT d) (hk:∀ k,hT k ≠ none→s' k=s k) (hr:RD I w s x d):RD (fun b=>I b∧b<Yn.n) w' s' x d:=by
  cases hr with
  | c _ c hr=>exact .c _ _ (hr.od hM hs h hk)
  | agg vs cs hl hr=>exact .agg vs cs hl fun j h1 h2=>(hr j h1 h2).od hM hs (h _ (List.getElem_mem h2)) hk
  | _=>exact h.elim
inductive Yw : C → C → Prop
  | num (k:IntKind) (n:Int):Yw (.v (.int k n)) (.num k)
  | nn (k:IntKind):Yw (.num k) (.num k)
  | sl (sz : Nat) (xs xs' : List (List C)) (hl : xs.length = xs'.length) (h : ∀ (i : Nat) (r r' : List C), xs[i]? = some r → xs'[i]? = some r' → r.length = r'.length)
      (hc:∀ (i j:Nat) (r r':List C) (c c':C),xs[i]? = some r→xs'[i]? = some r'→r[j]? = some c→r'[j]? = some c'→Yw c c'):Yw (.csl true sz xs) (.csl true sz xs')
  | nv (v:Value) (hv:∀ k n,v ≠ .int k n):Yw (.v v) (.v v)
  | isl (sz : Nat) (xs xs' : List (List C)) (hl : xs.length = xs'.length) (h : ∀ (i : Nat) (r r' : List C), xs[i]? = some r → xs'[i]? = some r' → r.length = r'.length)
      (hc:∀ (i j:Nat) (r r':List C) (c c':C),xs[i]? = some r→xs'[i]? = some r'→r[j]? = some c→r'[j]? = some c'→Yw c c'):Yw (.isl sz xs) (.isl sz xs')
theorem RC.yw {I:Nat→Prop} {w w':World} (hN:Nm I w w') {c c':C} (h:Yw c c'):∀ {s s':Sg} {x x':Value},Tu x x'→RC I w s x c→RC I w' s' x' c':=by
  induction h with
  | num k n =>
    intro s s' x x' ht h
    cases h with
    | v _ _ h1 =>
      rcases ht with rfl | ⟨k',m,m',e,rfl⟩
      · exact .num _ k n
      · cases e;exact .num _ k m'
  | nn k =>
    intro s s' x x' ht h
    cases h with
    | num _ _ n =>
      rcases ht with rfl | ⟨k',m,m',e,rfl⟩
      · exact .num _ k n
      · cases e;exact .num _ k m'
  | sl sz xs xs' hl hr hc ih =>
    intro s s' x x' ht h
    have hx:x'=x:=by
      rcases ht with e | ⟨k,m,m',e,_⟩
      · exact e
      · subst e;cases h
    subst hx
    cases h with
    | csl0 _ a cap _ _ =>
      have:xs'=[]:=List.eq_nil_of_length_eq_zero (by simpa using hl.symm)
      subst this
      exact .csl0 _ a cap sz true
    | csl _ b off len cap _ _ _ h hB =>
      refine .csl _ b off len cap sz xs' true ?_ hB
      cases h with
      | isl0 _ _ _ _ =>
        have:xs'=[]:=List.eq_nil_of_length_eq_zero (by simpa using hl.symm)
        subst this
        exact .isl0 _ _ cap sz
      | isl _ _ _ _ _ _ z hI hle hcell hrd hcap =>
        rw [hl] at hcap ⊢
        have each:∀ i j,∃ y',i<xs.length→j<sz→w'.cell? ⟨b,off+i * sz+j,none⟩=some y'∧Tu (z i j) y':=fun i j=>by
          by_cases hij:i<xs.length∧j<sz
          · obtain ⟨y',h1,h2⟩:=hN.cell hI (hcell i j hij.1 hij.2)
            exact ⟨y',fun _ _=>⟨h1,h2⟩⟩
          · exact ⟨undef,fun h1 h2=>absurd ⟨h1,h2⟩ hij⟩
        have hY:=fun i j=>Classical.choose_spec (each i j)
        have hr2:∀ i (hi:i<xs.length) (hi':i<xs'.length),(xs[i]).length=(xs'[i]).length:=fun i hi hi'=>hr i xs[i] xs'[i] (List.getElem?_eq_getElem hi) (List.getElem?_eq_getElem hi')
        refine .isl _ b off cap sz xs' (fun i j=>Classical.choose (each i j)) hI (fun i hi=>?_) (fun i j hi hj=>(hY i j (by omega) hj).1) (fun i hi j hj=>?_) hcap
        · have hi':i<xs.length:=by omega
          rw [← hr2 i hi' hi];exact hle i hi'
        · have hi':i<xs.length:=by omega
          have e:=hr2 i hi' hi
          have hj':j<(xs[i]).length:=by omega
          exact ih i j _ _ _ _ (List.getElem?_eq_getElem hi') (List.getElem?_eq_getElem hi) (List.getElem?_eq_getElem hj') (List.getElem?_eq_getElem hj) (hY i j hi' (by rw [← hle i hi'];exact hj')).2 (hrd i hi' j hj')
  | nv v hv =>
    intro s s' x x' ht h
    cases h with
    | v _ _ h1 =>
      rcases ht with rfl | ⟨k',m,m',e,rfl⟩
      · exact .v _ _ h1
      · exact absurd e (hv k' m)
  | isl sz xs xs' hl hr hc ih =>
    intro s s' x x' ht h
    have hx:x'=x:=by
      rcases ht with e | ⟨k,m,m',e,_⟩
      · exact e
      · subst e;cases h
    subst hx
    cases h with
    | isl0 _ _ cap _ =>
      have:xs'=[]:=List.eq_nil_of_length_eq_zero (by simpa using hl.symm)
      subst this
      exact .isl0 _ _ cap sz
    | isl _ b off cap _ _ z hI hle hcell hrd hcap =>
      rw [hl] at hcap ⊢
      have each:∀ i j,∃ y',i<xs.length→j<sz→w'.cell? ⟨b,off+i * sz+j,none⟩=some y'∧Tu (z i j) y':=fun i j=>by
        by_cases hij:i<xs.length∧j<sz
        · obtain ⟨y',h1,h2⟩:=hN.cell hI (hcell i j hij.1 hij.2)
          exact ⟨y',fun _ _=>⟨h1,h2⟩⟩
        · exact ⟨undef,fun h1 h2=>absurd ⟨h1,h2⟩ hij⟩
      have hY:=fun i j=>Classical.choose_spec (each i j)
      have hr2:∀ i (hi:i<xs.length) (hi':i<xs'.length),(xs[i]).length=(xs'[i]).length:=fun i hi hi'=>hr i xs[i] xs'[i] (List.getElem?_eq_getElem hi) (List.getElem?_eq_getElem hi')
      refine .isl _ b off cap sz xs' (fun i j=>Classical.choose (each i j)) hI (fun i hi=>?_) (fun i j hi hj=>(hY i j (by omega) hj).1) (fun i hi j hj=>?_) hcap
      · have hi':i<xs.length:=by omega
        rw [← hr2 i hi' hi];exact hle i hi'
      · have hi':i<xs.length:=by omega
        have e:=hr2 i hi' hi
        have hj':j<(xs[i]).length:=by omega
        exact ih i j _ _ _ _ (List.getElem?_eq_getElem hi') (List.getElem?_eq_getElem hi) (List.getElem?_eq_getElem hj') (List.getElem?_eq_getElem hj) (hY i j hi' (by rw [← hle i hi'];exact hj')).2 (hrd i hi' j hj')
theorem Yw.map {α:Type} {sz:Nat} {l:List α} {f g:α→List C} (h:∀ a ∈ l,(f a).length=(g a).length∧∀ (j:Nat) (c c':C),(f a)[j]? = some c→(g a)[j]? = some c'→Yw c c'):Yw (.csl true sz (l.map f)) (.csl true sz (l.map g)):=by
  refine .sl sz _ _ (by simp) (fun i r r' hr hr'=>?_) (fun i j r r' c c' hr hr' hc hc'=>?_)
  · simp only [List.getElem?_map,Option.map_eq_some_iff] at hr hr'
    obtain ⟨a,ha,rfl⟩:=hr
    obtain ⟨a',ha',rfl⟩:=hr'
    rw [ha] at ha';cases ha'
    exact (h a (List.mem_of_getElem? ha)).1
  · simp only [List.getElem?_map,Option.map_eq_some_iff] at hr hr'
    obtain ⟨a,ha,rfl⟩:=hr
    obtain ⟨a',ha',rfl⟩:=hr'
    rw [ha] at ha';cases ha'
    exact (h a (List.mem_of_getElem? ha)).2 j c c' hc hc'
inductive Sm (hT : Hp) : C → C → Prop
  | od {c:C} (h:Od hT c):Sm hT c c
  | yw {c c':C} (h:Yw c c'):Sm hT c c'
inductive Sms (hT : Hp) : List C → List C → Prop
  | nil:Sms hT [] []
  | cons {c c':C} {l l':List C} (h:Sm hT c c') (h':Sms hT l l'):Sms hT (c :: l) (c' :: l')
theorem Sms.od {hT : Hp} : ∀ {cs : List C}, (∀ c ∈ cs, Od hT c) → Sms hT cs cs
  | [],_ => .nil
  | c :: r,h => .cons (.od (h c (by simp))) (Sms.od fun c' hc=>h c' (by simp [hc]))
theorem Sms.len {hT:Hp} {l l':List C} (h:Sms hT l l'):l.length=l'.length:=by
  induction h with
  | nil=>rfl
  | cons _ _ ih=>simp [ih]
theorem Sms.at {hT:Hp} {l l':List C} (h:Sms hT l l'):∀ (j:Nat) (d d':C),l[j]? = some d→l'[j]? = some d'→Sm hT d d':=by
  induction h with
  | nil=>intro j d d' h;simp at h
  | cons h h' ih =>
    intro j d d' g g'
    cases j with
    | zero=>simp only [List.getElem?_cons_zero,Option.some.injEq] at g g';subst g;subst g';exact h
    | succ j=>exact ih j d d' (by simpa using g) (by simpa using g')
inductive SmD (hT : Hp) : D → D → Prop
  | c {a b:C} (h:Sm hT a b):SmD hT (.c a) (.c b)
  | agg {a b:List C} (h:Sms hT a b):SmD hT (.agg a) (.agg b)
theorem RC.sm {I:Nat→Prop} {w w':World} {hT:Hp} (hM:∀ b,I b→b<Yn.n→w'.heap[b]? = w.heap[b]?) (hN:Nm I w w') (hs:Shp w w') {s s':Sg} (hk:∀ k,hT k ≠ none→s' k=s k) {x:Value} {c c':C} (h:Sm hT c c') (hr:RC I w s x c):RC I w' s' x c':=by
  cases h with
  | od h=>exact (hr.od hM hs h hk).mono (fun _ h=>h.1) (fun _ _=>rfl) (Shp.refl _) (Sg.le_refl _)
  | yw h=>exact hr.yw hN h (.inl rfl)
theorem RD.sm {I:Nat→Prop} {w w':World} {hT:Hp} (hM:∀ b,I b→b<Yn.n→w'.heap[b]? = w.heap[b]?) (hN:Nm I w w') (hs:Shp w w') {s s':Sg} (hk:∀ k,hT k ≠ none→s' k=s k) {x:Value} {d d':D} (h:SmD hT d d') (hr:RD I w s x d):RD I w' s' x d':=by
  cases h with
  | c h=>cases hr with | c _ _ hr=>exact .c _ _ (hr.sm hM hN hs hk h)
  | agg h =>
    cases hr with
    | agg vs _ hl hr =>
      have h3:=h.len
      exact .agg vs _ (by omega) fun j h1 h2=>(hr j h1 (by omega)).sm hM hN hs hk (h.at j _ _ (List.getElem?_eq_getElem (by omega)) (List.getElem?_eq_getElem h2))
theorem XK.mark {all : Array Oper} {i : Nat} {o : Oper} {rest : List Oper} {lg : Lg} {nx0 : Nat} {k : List Item} {S : Ms} {F : FuncId} {ds args : List D} {R' : Int → Prop} (tl : List (Nat × D)) (hl : List (Nat × Option (List C)))
    (hD : @DW ⟨0,fun _=>none⟩ P F args R') (hfn:fnOK P F=true) (hy:YtDs ds args) (hhl:∀ p ∈ hl,∃ cs cs',S.hp p.1=some (some cs)∧p.2=some cs'∧Sms (hOf hl) cs cs') (htl:∀ p ∈ tl,∃ d,S.tm p.1=some d∧SmD (hOf hl) d p.2)
    (next:∀ n,R' n→XK true P m f nt R (some ⟨all,false,i+1,rest,lg,nx0⟩) k ⟨setT (tOf tl) o.dst (some (DI .i64 n)),hOf hl,S.nx⟩)
    (hop:o.op = .call (getCall o):=by rfl) (hg:o.guard=none:=by rfl) (hc:calleeOf S.tm (getCall o)=some (F,ds):=by rfl) (hok:okB S.tm (getCall o).operands.toList=true:=by rfl)
    (hf:fitsT nt o.dst=true:=by rfl) :
    XK true P m f nt R (some ⟨all,false,i,o :: rest,lg,nx0⟩) k S:=by
  simp only [XK,dopsL]
  refine Pre.intro (.inr ⟨⟨rfl,rfl⟩,fun ho I w s a hR Q Kc hK=>?_⟩)
  unfold wpOp
  simp only [ho]
  have hw:Region.wanted o (yielded all a.tmps)=true:=by simp [Region.wanted,hg]
  rw [if_pos hw]
  refine .inl ?_
  unfold Oper.wp
  obtain ⟨vs,hrun,hvs⟩:=call_run (P:=P) hR.tm hop hc (okP_of hok) hfn
  rw [hrun]
  have hlen:=hy.len
  refine (hD (fun b=>I b∧Yn.n≤b) w vs (fun b hb=>hR.H.imm b hb.1) (fun b hb=>hR.H.wri b hb.1 hb.2) ⟨by rw [hvs.1,hlen],fun j h1 h2 =>
    (hvs.2 j h1 (by omega)).yt (hy.at j _ _ (List.getElem?_eq_getElem (by omega)) (List.getElem?_eq_getElem h2))⟩).mono ?_
  rintro e w' ⟨n,rfl,hn,M⟩
  let s':Sg:=fun k=>match hOf hl k with | none=>none | some _=>s k
  have hs':∀ k,hOf hl k ≠ none→s' k=s k:=fun k hk=>by
    simp only [s']
    cases h:hOf hl k with
    | none=>exact absurd h hk
    | some _=>rfl
  have hold:∀ b,I b→b<Yn.n→w'.heap[b]? = w.heap[b]? := fun b hb hn=>M.same b (hR.H.imm b hb) fun q=>by omega
  have hnum:Nm I w w':=fun b arr T fr hb e=>by
    by_cases q:Yn.n≤b
    · exact M.num b arr T fr ⟨hb,q⟩ e
    · exact ⟨arr,by rw [hold b hb (by omega)];exact e,rfl,fun j y hy => .inl hy⟩
  have hin:∀ k cs',hOf hl k=some (some cs')→∃ cs,S.hp k=some (some cs)∧Sms (hOf hl) cs cs':=fun k cs' hk=>by
    obtain ⟨cs,cs2,h1,h2,h3⟩:=hhl _ (hOf_mem hk)
    simp only [Option.some.injEq] at h2
    subst h2
    exact ⟨cs,h1,h3⟩
  have hlive:∀ b,Live s' (hOf hl) b→Live s S.hp b:=by
    rintro b ⟨k,cs,hk,hs⟩
    rw [hs' k (by rw [hk];simp)] at hs
    obtain ⟨cs0,h1,_⟩:=hin k cs hk
    exact ⟨k,cs0,h1,hs⟩
  have H':SimH I w' s' (hOf hl):=by
    refine ⟨fun k hk=>by simp [s',hk],fun k cs hk=>?_,fun k k' b cs cs' h1 h2 h3 h4=>?_,fun b hb=>Nat.lt_of_lt_of_le (hR.H.imm b hb) M.size,hR.H.yng.step M.size (fun b hb=>M.same b (Nat.lt_of_lt_of_le hb hR.H.yng.1) fun q=>by omega) fun b hb => .inl (hlive b hb),hR.H.wri.step M.shp⟩
    · obtain ⟨cs0,g1,g2⟩:=hin k cs hk
      have hlen2:=g2.len
      rw [hs' k (by rw [hk];simp)]
      rcases hR.H.blk k cs0 g1 with ⟨h1,h1'⟩ | ⟨b,arr,T,h1,h2,h3,h4,h5⟩
      · exact .inl ⟨h1,by subst h1';exact List.eq_nil_of_length_eq_zero hlen2.symm⟩
      · refine .inr ⟨b,arr,T,h1,by rw [M.same b (lt_of_heap h2) fun q=>h4 q.1];exact h2,by omega,h4,fun j hj=>?_⟩
        obtain ⟨y,hy',hr⟩:=h5 j (by omega)
        exact ⟨y,hy',hr.sm hold hnum M.shp hs' (g2.at j _ _ (List.getElem?_eq_getElem (by omega)) (List.getElem?_eq_getElem hj))⟩
    · rw [hs' k (by rw [h1];simp)] at h3
      rw [hs' k' (by rw [h2];simp)] at h4
      obtain ⟨_,f1,_⟩:=hin k cs h1
      obtain ⟨_,f2,_⟩:=hin k' cs' h2
      exact hR.H.inj k k' b _ _ f1 f2 h3 h4
  have R1:Rc I w' s' a (tOf tl) (hOf hl) nt:=⟨H',fun n d hd=>by
    obtain ⟨d0,h1,h2⟩:=htl _ (tOf_mem hd)
    exact (hR.tm n d0 h1).sm hold hnum M.shp hs' h2,hR.df,hR.sz⟩
  exact hK _ w' _ s' _ (next n hn) (R1.put (rd_int _ _) hf) ⟨M.os,M.tape,M.output,M.size,fun b hb hn _=>M.same b hb hn,M.shp,hnum,fun b hb => .inl hb,fun b hb => .inl (hlive b hb)⟩
def LW (P:Program) (F:FuncId) (args:List D):Prop :=
  ∀ (w:World) (vs:Array Value),(∀ s,@RDs ⟨w.heap.size,fun b=>w.heap[b]?⟩ (fun b=>b<w.heap.size) w s vs args)→Calls P F vs w fun e w'=>e = .returned (.bool true)∧Below w.heap.size w w'
omit [Yn] in
theorem lw_of_go {fn : Func} {c : Code} {args args' : List D} (hf : P.funcs[f]? = some fn) (ha : CoL false args' args)
    (hg:∀ (_:Yn),Go true P 0 f fn.ntmps (fun d h'=>d=DB true∧h'=[]) [.code c] ⟨ofArgs 0 args',hpL [],0⟩) (hb:fn.body=some c:=by rfl) (hn:args'.length≤fn.ntmps:=by simp):LW P f args:=fun w vs hvs0=>by
  intro cs
  letI:Yn:=⟨w.heap.size,fun b=>w.heap[b]?⟩
  have hvs:RDs (fun b=>b<w.heap.size) w Sg0 vs args':=by
    have h1:=hvs0 Sg0
    have hlen:=ha.len
    refine ⟨by rw [h1.1,hlen],fun j g1 g2=>?_⟩
    exact (h1.2 j g1 (by omega)).ol (fun b hb=>hb) (ha.at j _ _ (List.getElem?_eq_getElem g2) (List.getElem?_eq_getElem (by omega)))
  have henter:Frame.enter P f vs .normal=(bf f).at { tmps:=vs++Array.replicate (fn.ntmps - vs.size) undef,defers:=[] } [.code c]:=by
    simp [Frame.enter,Frame.at,hf,hb,bf]
  have hsz:vs.size=args'.length:=hvs.1
  have H:SimH (fun b=>b<w.heap.size) w Sg0 (hpL []):=⟨fun _ _=>rfl,fun k cs hk=>by simp [hpL] at hk,fun k k' b cs cs' hk=>by simp [hpL] at hk,fun b hb=>hb,⟨Nat.le_refl _,fun b ⟨k,cs,hk,_⟩=>by simp [hpL] at hk,fun _ _=>rfl⟩,fun b hb hn=>absurd hb (Nat.not_lt.2 hn)⟩
  have hR:Rc (fun b=>b<w.heap.size) w Sg0 { tmps:=vs++Array.replicate (fn.ntmps - vs.size) undef,defers:=[] } (ofArgs 0 args') (hpL []) fn.ntmps:=by
    refine ⟨H,fun n d hd=>?_,rfl,by simp;omega⟩
    rw [ofArgs_get,if_pos (Nat.zero_le _),Nat.sub_zero] at hd
    obtain ⟨hlt,e⟩:=List.getElem?_eq_some_iff.1 hd
    have:(vs++Array.replicate (fn.ntmps - vs.size) undef).getD n undef=vs[n]'(by omega):=by
      rw [Array.getD_eq_getD_getElem?,Array.getElem?_append_left (by omega)]
      simp [show n<vs.size from by omega]
    simp only [this]
    rw [← e]
    exact hvs.2 n (by omega) hlt
  obtain ⟨v,w',fr,I',s',d,h',⟨rfl,rfl⟩,g2,g3,g4,g5,g6,g7,g8⟩:=hg ⟨w.heap.size,fun b=>w.heap[b]?⟩ _ w Sg0 _ hR cs
  rw [← henter] at g6
  unfold ExtG at g4
  rw [if_pos rfl] at g4
  obtain ⟨rfl,_⟩:=rd_scalar g2
  exact ⟨_,w',fr,⟨rfl,g4.os,g4.tape,g4.output,g4.size,fun b hb=>g4.same b hb (fun q=>absurd q.1 (Nat.not_lt.2 q.2)) fun ⟨k,cs,hk,_⟩=>by simp [hpL] at hk⟩,g6,g7,g8⟩
end
def drvW (K : Bool) (P : Program) (m : Nat) (f : FuncId) (nt : Nat) (R : D → List (Option (List C)) → Prop) (rs : List ResultVar) : Nat → Option Rg → List Item → Ms → Prop
  | 0,r,k,S=>XK K P m f nt R r k S
  | n+1,some ⟨all,dr,i,[],lg,nx0⟩,k,S=>drvW K P m f nt R rs n none k ⟨S.tm,S.hp,nx0+64 * all.size⟩
  | n+1,some ⟨all,dr,i,o :: rest,lg,nx0⟩,k,S=>if isFn o then XK K P m f nt R (some ⟨all,dr,i,o :: rest,lg,nx0⟩) k S else
      (match nxt P m nx0 all i o S.tm S.hp with
      | some (vc,d,up,rd)=>(vc∧fitsT nt o.dst=true∧(dr=true→lgokF nx0 all lg i rd (up.map (·.1))=true)) ∧
          drvW K P m f nt R rs n (some ⟨all,dr,i+1,rest,upd lg i (some (rd,up.map (·.1))),nx0⟩) k ⟨setT S.tm o.dst d,appUp S.hp up,S.nx⟩
      | none=>XK K P m f nt R (some ⟨all,dr,i,o :: rest,lg,nx0⟩) k S)
  | n+1,none,[],S=>retP P m R rs S
  | n+1,none,.code (.seq a b) :: k,S=>drvW K P m f nt R rs n none (.code a :: .code b :: k) S
  | n+1,none,.code .skip :: k,S=>drvW K P m f nt R rs n none k S
  | n+1,none,.code (.label _) :: k,S=>drvW K P m f nt R rs n none k S
  | n+1,none,.inBlock _ :: k,S=>drvW K P m f nt R rs n none k S
  | n+1,none,.code (.block id c) :: k,S=>drvW K P m f nt R rs n none (.code c :: .inBlock id :: k) S
  | n+1,none,.code (.cond c x y) :: k,S=>(match evT S.tm c with
      | some d=>(match peelD d with
        | .c (.v (.bool t))=>peelB d=true∧(t=true→drvW K P m f nt R rs n none (.code x :: k) S)∧(t=false→drvW K P m f nt R rs n none (.code y :: k) S)
        | _=>False)
      | none=>False)
  | n+1,none,.code (.exit id) :: k,S=>(match exitTo id k with
      | some k'=>drvW K P m f nt R rs n none k' S
      | none=>False)
  | n+1,none,.code .ret :: k,S=>retP P m R rs S
  | n+1,none,.code (.region id all dr) :: k,S=>(dr=true→drawOK all=true)∧drvW K P m f nt R rs n (some ⟨all,dr,0,all.toList,fun _=>none,S.nx⟩) k S
  | n+1,none,k,S=>XK K P m f nt R none k S
section
variable {K:Bool} {P:Program} {m:Nat} {f:FuncId} {nt:Nat} {R:D→List (Option (List C))→Prop}
theorem drvW_sound {fn : Func} (hfn : P.funcs[f]? = some fn) (hmo : P.follows .mixedOrders = true) {rs : List ResultVar} (hrs : fn.results.toList = rs) : ∀ (n : Nat) (r : Option Rg) (k : List Item) (S : Ms), drvW K P m f nt R rs n r k S → XK K P m f nt R r k S
  | 0,r,k,S,h=>by simpa only [drvW] using h
  | n+1,some ⟨all,dr,i,[],lg,nx0⟩,k,S,h=>by
    simp only [drvW] at h
    have:=drvW_sound hfn hmo hrs n none k _ h
    simp only [XK,dopsL] at this ⊢
    exact Pre.intro this
  | n+1,some ⟨all,dr,i,o :: rest,lg,nx0⟩,k,S,h=>by
    simp only [drvW] at h
    split at h
    · exact h
    · rename_i hf
      split at h
      · rename_i vc d up rd hn
        obtain ⟨⟨h1,h2,h3⟩,h4⟩:=h
        have h5:=drvW_sound hfn hmo hrs n _ k _ h4
        simp only [XK,dopsL] at h5 ⊢
        refine Pre.intro (.inl ⟨rd,up.map (·.1),_,nxt_stp (by simpa using hf) hn h1,h2,fun hdr=>⟨lgokF_eq _ _ _ _ _ _ (h3 hdr),d,up,rfl,rfl⟩,fun d' up' ht=>?_⟩)
        obtain ⟨rfl,rfl⟩:=ht
        exact h5
      · exact h
  | n+1,none,[],S,h=>by
    simp only [drvW,retP] at h
    split at h
    · rename_i vc ds hr
      exact Go.done hfn (by rw [hrs];exact hr) h.1 h.2
    · exact h.elim
  | n+1,none,.code c :: k,S,h=>by
    cases c with
    | seq a b=>simp only [drvW] at h;exact Go.seq (drvW_sound hfn hmo hrs n none _ S h)
    | skip=>simp only [drvW] at h;exact Go.skip (drvW_sound hfn hmo hrs n none _ S h)
    | label l=>simp only [drvW] at h;exact Go.label (drvW_sound hfn hmo hrs n none _ S h)
    | block id c=>simp only [drvW] at h;exact Go.block (drvW_sound hfn hmo hrs n none _ S h)
    | cond c x y =>
      simp only [drvW] at h
      split at h
      · rename_i d hd
        split at h
        · rename_i t ht
          exact Go.cond hd h.1 ht (fun e=>drvW_sound hfn hmo hrs n none _ S (h.2.1 e)) (fun e=>drvW_sound hfn hmo hrs n none _ S (h.2.2 e))
        · exact h.elim
      · exact h.elim
    | exit id =>
      simp only [drvW] at h
      split at h
      · rename_i k' hk
        exact Go.exit hk (drvW_sound hfn hmo hrs n none _ S h)
      · exact h.elim
    | ret =>
      simp only [drvW,retP] at h
      split at h
      · rename_i vc ds hr
        exact Go.ret hfn (by rw [hrs];exact hr) h.1 h.2
      · exact h.elim
    | region id all dr =>
      simp only [drvW] at h
      exact Go.region (fun _=>hmo) h.1 (drvW_sound hfn hmo hrs n _ k S h.2)
    | _=>simpa only [drvW] using h
  | n+1,none,.inBlock id :: k,S,h=>by simp only [drvW] at h;exact Go.inBlock (drvW_sound hfn hmo hrs n none _ S h)
  | n+1,none,.inLoop c :: k,S,h=>by simpa only [drvW] using h
  | n+1,none,.inScope c :: k,S,h=>by simpa only [drvW] using h
  | n+1,none,.inRegion a b :: k,S,h=>by simpa only [drvW] using h
  | n+1,none,.inRangeFunc a :: k,S,h=>by simpa only [drvW] using h
  | n+1,none,.endRangeFunc a :: k,S,h=>by simpa only [drvW] using h
  | n+1,none,.beginRound :: k,S,h=>by simpa only [drvW] using h
  | n+1,none,.call a b c d :: k,S,h=>by simpa only [drvW] using h
  | n+1,none,.extern a b :: k,S,h=>by simpa only [drvW] using h
theorem RetOb.frozenY {R : D → List (Option (List C)) → Prop} {k sz n : Nat} {hp : Hp} {xs : List (List C)} (hR : R (.c (.csl true sz xs)) []) (hk : hp k = some (some xs.flatten)) (hn : n = xs.length)
    (hl:∀ x ∈ xs,x.length=sz) (hkf:∀ x ∈ xs,∀ c ∈ x,kf c=true):RetOb 0 R (.c (.msl k sz 0 n)) hp :=
  RetOb.of (fun _ => none) [k] _ [] ⟨fun k cs h => by simp [hpL] at h, fun k k' cs cs' j h => by simp [hpL] at h, fun k h => by omega⟩
    (by simp only [DM,CM];exact ⟨trivial,⟨trivial,trivial,hn⟩,by simp,hk,hl,hkf⟩) hR (Nat.le_refl _)
end
attribute [go_sem] drvW
end Go.CT
namespace Go.CT
variable [Yn]
section
variable {K:Bool} {P:Program} {m:Nat} {f:FuncId} {nt:Nat} {R:D→List (Option (List C))→Prop}
end
structure Sl where
  a:Option Addr
  length:Nat
  cap:Nat
def Sl.c (x:Sl):C := .v (.slice x.a x.length x.cap)
attribute [go_sem] Sl.c
def kb (n : Nat) : C → Bool
  | .msl k _ _ _=>decide (k<n)
  | .ptr k _=>decide (k<n)
  | .clo _ _=>false
  | _=>true
def kbD (n : Nat) : D → Bool
  | .c c=>kb n c
  | .agg cs=>cs.all (kb n)
  | _=>false
theorem RC.cut {I:Nat→Prop} {w:World} {s s1:Sg} {n:Nat} (hs:∀ k,k<n→s1 k=s k) {x:Value} {c:C} (h:RC I w s x c) (hk:kb n c=true):RC I w s1 x c:=by
  cases h with
  | msl0 _ a k sz h=>exact .msl0 _ a k sz (by rw [hs k (by simpa [kb] using hk)];exact h)
  | msl _ k b sz off len cap arr T fr h hlen hb hcap=>exact .msl _ k b sz off len cap arr T fr (by rw [hs k (by simpa [kb] using hk)];exact h) hlen hb hcap
  | ptr _ k b off h=>exact .ptr _ k b off (by rw [hs k (by simpa [kb] using hk)];exact h)
  | clo _ f caps vs hl hr=>simp [kb] at hk
  | v _ x h1=>exact .v _ _ h1
  | unk _ x h1=>exact .unk _ _ h1
  | z _ a=>exact .z _ a
  | isl0 _ a cap sz=>exact .isl0 _ a cap sz
  | isl _ b off cap sz xs y hIb hl hc hr hcap=>exact .isl _ b off cap sz xs y hIb hl hc hr hcap
  | num _ k n=>exact .num _ k n
  | csl0 _ a cap sz y=>exact .csl0 _ a cap sz y
  | csl _ b off len cap sz xs y h hN=>exact .csl _ b off len cap sz xs y (h.isl_any _) hN
  | eptr _ b off cs y hIb hc hr=>exact .eptr _ b off cs y hIb hc hr
  | met _ f cs vs hl hr=>exact .met _ f cs vs hl hr
theorem RD.cut {I:Nat→Prop} {w:World} {s s1:Sg} {n:Nat} (hs:∀ k,k<n→s1 k=s k) {x:Value} {d:D} (h:RD I w s x d) (hk:kbD n d=true):RD I w s1 x d:=by
  cases h with
  | c _ c h=>exact .c _ _ (h.cut hs hk)
  | agg vs cs hl hr =>
    simp only [kbD,List.all_eq_true] at hk
    exact .agg vs cs hl fun j h1 h2=>(hr j h1 h2).cut hs (hk _ (List.getElem_mem h2))
  | _=>simp [kbD] at hk
def cutS (n:Nat) (s:Sg):Sg:=fun k=>if k<n then s k else none
end Go.CT
namespace Go.CT
open Go.RowKit
section
variable [Yn]
theorem shp_below {w w':World} (hb:Below w.heap.size w w'):Shp w w':=fun b arr T fr hbk=>⟨arr,by rw [hb.block b (lt_of_heap hbk)];exact hbk,rfl⟩
end
abbrev ynAt (w:World):Yn:=⟨w.heap.size,fun b=>w.heap[b]?⟩
theorem DC.calls {P : Program} {F : FuncId} {args : List D} {v : Value} {w : World} {vs : Array Value} (hD : @DC (ynAt w) P F args [] (fun r h => r = .c (.v v) ∧ h = [])) (hv : ∀ s, @RDs (ynAt w) (fun b => b < w.heap.size) w s vs args) :
    Calls P F vs w fun e w'=>e = .returned v∧Below w.heap.size w w':=by
  letI:Yn:=ynAt w
  refine (hD (fun b=>b<w.heap.size) w (fun _=>none) vs ⟨fun _ _=>rfl,fun k cs hk=>by simp [hpL] at hk,fun k k' b cs cs' hk=>by simp [hpL] at hk,fun b hb=>hb,⟨Nat.le_refl _,fun b ⟨k,cs,hk,_⟩=>by simp [hpL] at hk,fun b _=>rfl⟩,fun b hb hn=>absurd hb (Nat.not_lt.2 hn)⟩ (hv _)).mono fun e w' ⟨x,I',s',d,h',he,⟨hd,_⟩,hrd,_,hE,_⟩=>?_
  subst hd
  cases hrd with
  | c _ _ hc=>cases hc with | v _ _ _=>exact ⟨he,hE.os,hE.tape,hE.output,hE.size,fun k hk=>hE.same k hk fun ⟨j,cs,hj,_⟩=>by simp [hpL] at hj⟩
end Go.CT
