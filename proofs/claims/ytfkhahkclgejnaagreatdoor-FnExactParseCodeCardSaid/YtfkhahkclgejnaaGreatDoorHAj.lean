/- Blocks in a number that is not written out: row i stands at key b + i. -/
import Derived.ChangeArms
import Derived.DataReads
import Derived.SizedLaws
import Derived.ProofKit
import Derived.Test.YtfkhahkclgejnaaGreatDoorHXy
set_option linter.unusedVariables false
set_option linter.unusedSimpArgs false
set_option linter.unusedSectionVars false
set_option maxHeartbeats 16000000
set_option maxRecDepth 100000
namespace Go.CT
variable [Yn]
def fam (hp:Hp) (b:Nat) (rows:List (List C)):Hp:=fun j=>if b≤j∧j<b+32 then (rows[j - b]?).map some else hp j
theorem fam_at {hp:Hp} {b i:Nat} {rows:List (List C)} (hi:i<32):fam hp b rows (b+i)=(rows[i]?).map some:=by
  unfold fam;rw [if_pos (by omega),Nat.add_sub_cancel_left]
def famC (b w n:Nat):List C:=(List.range n).map fun i => .msl (b+i) 1 0 w
section
variable {K:Bool} {P:Program} {m:Nat} {f:FuncId} {nt:Nat} {R:D→List (Option (List C))→Prop}
structure Mh (m : Nat) (r : Nat → Option Nat) (fz : List Nat) (tl : List (Nat × D)) (hT : Hp) (S : Ms) : Prop where
  tm:TmOK hT r S.hp fz S.tm tl
  hp:SubH m r fz hT S.hp
theorem Go.subH {r:Nat→Option Nat} {fz:List Nat} {tl:List (Nat × D)} {hT:Hp} {S:Ms} {k:List Item} (nx:Nat) (h:Mh m r fz tl hT S) (hg:Go K P m f nt R k ⟨tOf tl,hT,nx⟩):Go K P m f nt R k S:=fun I w s a hR cs=>by
  obtain ⟨H',E'⟩:=h.hp.sim hR.H
  have hR':Rc (subI fz S.hp s I) w (subS r hT s) a (tOf tl) hT nt:=⟨H',fun n d hd=>by
    obtain ⟨d',h1,h2⟩:=h.tm.at n d hd
    exact DM.rd hR.H d d' h2 (hR.tm n d' h1),hR.df,hR.sz⟩
  obtain ⟨v,w',fr,I',s',d,h',g1,g2,g3,g4,g5,g6,g7⟩:=hg _ w _ a hR' cs
  exact ⟨v,w',fr,I',s',d,h',g1,g2,g3,E'.transG hR.H g4,g5,g6,g7⟩
theorem Mh.sub {r:Nat→Option Nat} {fz:List Nat} {tl:List (Nat × D)} {hT:Hp} {S:Ms} (h:Mh m r fz tl hT S) (lg lg':Lg):Sub m nt ⟨S.tm,S.hp,lg⟩ ⟨tOf tl,hT,lg'⟩:=fun I w s a hR=>by
  obtain ⟨H',E'⟩:=h.hp.sim hR.H
  exact ⟨_,_,⟨H',fun n d hd=>by
    obtain ⟨d',h1,h2⟩:=h.tm.at n d hd
    exact DM.rd hR.H d d' h2 (hR.tm n d' h1),hR.df,hR.sz⟩,E'⟩
theorem XK.subH {all : Array Oper} {i : Nat} {rest : List Oper} {lg : Lg} {nx0 : Nat} {k : List Item} {S : Ms} {r : Nat → Option Nat} {fz : List Nat} {tl : List (Nat × D)} {hT : Hp} (h : Mh m r fz tl hT S)
    (hn:XK K P m f nt R (some ⟨all,false,i,rest,lg,nx0⟩) k ⟨tOf tl,hT,S.nx⟩):XK K P m f nt R (some ⟨all,false,i,rest,lg,nx0⟩) k S :=
  XK.sub (S':=⟨tOf tl,hT,S.nx⟩) (lg':=lg) (h.sub lg lg) hn
end
theorem SubH.fam {m : Nat} {r : Nat → Option Nat} {fz : List Nat} {hl : List (Nat × Option (List C))} {hS : Hp} {b : Nat} {rows : List (List C)} (g : Nat → Nat) (hr : ∀ i, i < rows.length → r (b + i) = some (g i))
    (hg:∀ i j,i<rows.length→j<rows.length→g i=g j→i=j)
    (hfz:∀ i,i<rows.length→g i ∉ fz) (hS2:∀ i row,rows[i]? = some row→hS (g i)=some (some row)) (hkf:∀ x ∈ rows,∀ c ∈ x,kf c=true)
    (hok:HpOK (Go.CT.fam (hOf hl) b rows) r hS fz hl) (hlow:LowOK r (Go.CT.fam (hOf hl) b rows) m) (hnd:((hl.filterMap fun p=>p.2.map fun _=>p.1).filterMap r).Nodup)
    (hdis:∀ k j cs,(k,some cs) ∈ hl→r k=some j→∀ i,i<rows.length→j ≠ g i):SubH m r fz (Go.CT.fam (hOf hl) b rows) hS where
  live:=fun k cs hk=>by
    unfold Go.CT.fam at hk
    by_cases h:b≤k∧k<b+32
    · rw [if_pos h] at hk
      cases hx:rows[k - b]? with
      | none=>rw [hx] at hk;simp at hk
      | some row =>
        rw [hx] at hk
        simp only [Option.map_some,Option.some.injEq] at hk
        subst hk
        have hlt:k - b<rows.length:=(List.getElem?_eq_some_iff.1 hx).1
        have h1:=hr (k - b) hlt
        rw [show b+(k - b)=k from by omega] at h1
        exact .inl ⟨_,row,h1,hfz _ hlt,hS2 _ _ hx,CMs.kf (hkf row (List.mem_of_getElem? hx))⟩
    · rw [if_neg h] at hk
      exact HpOK.at hok k cs (hOf_mem hk)
  inj:=fun k k' cs cs' j h1 h2 h3 h4=>by
    have key:∀ k cs,Go.CT.fam (hOf hl) b rows k=some (some cs)→r k=some j→(∃ i,i<rows.length∧k=b+i∧j=g i)∨((k,some cs) ∈ hl∧∀ i,i<rows.length→j ≠ g i):=fun k cs hk hj=>by
      unfold Go.CT.fam at hk
      by_cases h:b≤k∧k<b+32
      · rw [if_pos h] at hk
        cases hx:rows[k - b]? with
        | none=>rw [hx] at hk;simp at hk
        | some row =>
          have hlt:k - b<rows.length:=(List.getElem?_eq_some_iff.1 hx).1
          have h1:=hr (k - b) hlt
          rw [show b+(k - b)=k from by omega,hj] at h1
          exact .inl ⟨k - b,hlt,by omega,by simpa using h1⟩
      · rw [if_neg h] at hk
        exact .inr ⟨hOf_mem hk,hdis k j cs (hOf_mem hk) hj⟩
    rcases key k cs h1 h3 with ⟨i,hi,e1,e2⟩ | ⟨hm1,hd1⟩<;>rcases key k' cs' h2 h4 with ⟨i',hi',e1',e2'⟩ | ⟨hm2,hd2⟩
    · have:=hg i i' hi hi' (by omega)
      omega
    · exact absurd e2 (hd2 i hi)
    · exact absurd e2' (hd1 i' hi')
    · exact filterMap_inj hnd k k' j (live_mem hm1) (live_mem hm2) h3 h4
  low:=hlow.at
theorem CMs.app {hT hS : Hp} {r : Nat → Option Nat} {fz : List Nat} : ∀ {as as' bs bs' : List C}, CMs hT r hS fz as as' → CMs hT r hS fz bs bs' → CMs hT r hS fz (as ++ bs) (as' ++ bs')
  | [],as',bs,bs',h,h'=>by simp only [CMs] at h;subst h;exact h'
  | a :: as,[],bs,bs',h,h'=>by simp [CMs] at h
  | a :: as,a' :: as',bs,bs',h,h'=>by
    simp only [CMs,List.cons_append] at h ⊢
    exact ⟨h.1,CMs.app h.2 h'⟩
theorem CMs.fam {hT hS:Hp} {r:Nat→Option Nat} {fz:List Nat} {b b' w n:Nat} (hr:∀ i,i<n→r (b+i)=some (b' + i)) (hT2:∀ i,i<n→hT (b+i) ≠ none):CMs hT r hS fz (famC b w n) (famC b' w n):=by
  have gen:∀ (l:List Nat),(∀ i ∈ l,i<n)→CMs hT r hS fz (l.map fun i=>C.msl (b+i) 1 0 w) (l.map fun i=>C.msl (b' + i) 1 0 w):=fun l=>by
    induction l with
    | nil=>intro _;simp [CMs]
    | cons a t ih =>
      intro h
      simp only [List.map_cons,CMs,CM]
      exact ⟨⟨hr a (h a (by simp)),hT2 a (h a (by simp)),trivial,trivial,trivial⟩,ih fun i hi=>h i (by simp [hi])⟩
  exact gen _ fun i hi=>List.mem_range.1 hi
theorem CMs.set {hT hS : Hp} {r : Nat → Option Nat} {fz : List Nat} : ∀ {as bs : List C} (i : Nat) {a b : C}, CMs hT r hS fz as bs → CM hT r hS fz a b → CMs hT r hS fz (as.set i a) (bs.set i b)
  | [],bs,i,a,b,h,_=>by simp only [CMs] at h;subst h;simp [CMs]
  | x :: as,[],i,a,b,h,_=>by simp [CMs] at h
  | x :: as,y :: bs,0,a,b,h,h'=>by
    simp only [CMs] at h
    simp only [List.set_cons_zero,CMs]
    exact ⟨h',h.2⟩
  | x :: as,y :: bs,i+1,a,b,h,h'=>by
    simp only [CMs] at h
    simp only [List.set_cons_succ,CMs]
    exact ⟨h.1,CMs.set i h.2 h'⟩
end Go.CT
/- Blocks lent: a call that is known for plain data may be given blocks that somebody owns; it leaves them as they are. -/
namespace Go.CT
variable [Yn]
end Go.CT
/- A contract weakened: what is left may be taken for other data. -/
namespace Go.CT
variable [Yn]
open Go.RowKit
end Go.CT
namespace Go.CT
open Go.RowKit
variable [Yn]
inductive Mk : C → Prop
  | num (k:IntKind):Mk (.num k)
  | unk:Mk .unk
  | sl (sz:Nat) (xs:List (List C)) (h:∀ r ∈ xs,∀ c ∈ r,Mk c):Mk (.isl sz xs)
  | ep (cs:List C) (h:∀ c ∈ cs,Mk c):Mk (.eptr cs)
def Tu (x x':Value):Prop:=x'=x∨∃ k n n',x = .int k n∧x' = .int k n'
theorem Nm.cell {I:Nat→Prop} {w w':World} (h:Nm I w w') {b off:Nat} {y:Value} (hb:I b) (hc:w.cell? ⟨b,off,none⟩=some y):∃ y',w'.cell? ⟨b,off,none⟩=some y'∧Tu y y':=by
  simp only [World.cell?] at hc
  split at hc
  · rename_i arr T fr e
    obtain ⟨arr',e',_,hj⟩:=h b arr T fr hb e
    simp only [Option.isSome_none,Bool.false_eq_true,if_false] at hc
    rcases hj off y hc with q | ⟨k,n,n',rfl,q⟩
    · exact ⟨y,by simp [World.cell?,e',q],.inl rfl⟩
    · exact ⟨_,by simp only [World.cell?,e'];simpa using q,.inr ⟨k,n,n',rfl,rfl⟩⟩
  · cases hc
theorem RC.mm {I:Nat→Prop} {w w':World} (hN:Nm I w w') {c:C} (hm:Mk c):∀ {s:Sg} {x x':Value},Tu x x'→RC I w s x c→RC I w' s x' c:=by
  induction hm with
  | num k =>
    intro s x x' ht h
    cases h with
    | num _ _ n =>
      rcases ht with rfl | ⟨k',m,m',e,rfl⟩
      · exact .num _ k n
      · cases e;exact .num _ k m'
  | unk =>
    intro s x x' ht h
    cases h with
    | unk _ _ h1 =>
      rcases ht with rfl | ⟨k',m,m',e,rfl⟩
      · exact .unk _ _ h1
      · exact .unk _ _ rfl
  | sl sz xs h ih =>
    intro s x x' ht hr
    have hx:x'=x:=by
      rcases ht with e | ⟨k,m,m',e,_⟩
      · exact e
      · subst e;cases hr
    subst hx
    cases hr with
    | isl0 _ a cap _=>exact .isl0 _ a cap sz
    | isl _ b off cap _ _ y hI hl hc hrd hcap =>
      have each:∀ i j,∃ y',i<xs.length→j<sz→w'.cell? ⟨b,off+i * sz+j,none⟩=some y'∧Tu (y i j) y':=fun i j=>by
        by_cases hij:i<xs.length∧j<sz
        · obtain ⟨y',h1,h2⟩:=hN.cell hI (hc i j hij.1 hij.2)
          exact ⟨y',fun _ _=>⟨h1,h2⟩⟩
        · exact ⟨undef,fun h1 h2=>absurd ⟨h1,h2⟩ hij⟩
      have hY:=fun i j=>Classical.choose_spec (each i j)
      exact .isl _ b off cap sz xs (fun i j => Classical.choose (each i j)) hI hl (fun i j hi hj => (hY i j hi hj).1)
        (fun i hi j hj=>ih _ (List.getElem_mem hi) _ (List.getElem_mem hj) (hY i j hi (by rw [← hl i hi];exact hj)).2 (hrd i hi j hj)) hcap
  | ep cs h ih =>
    intro s x x' ht hr
    have hx:x'=x:=by
      rcases ht with e | ⟨k,m,m',e,_⟩
      · exact e
      · subst e;cases hr
    subst hx
    cases hr with
    | eptr _ b off _ y hI hc hrd =>
      have each:∀ j,∃ y',j<cs.length→w'.cell? ⟨b,off+j,none⟩=some y'∧Tu (y j) y':=fun j=>by
        by_cases hj:j<cs.length
        · obtain ⟨y',h1,h2⟩:=hN.cell hI (hc j hj)
          exact ⟨y',fun _=>⟨h1,h2⟩⟩
        · exact ⟨undef,fun h1=>absurd h1 hj⟩
      have hY:=fun j=>Classical.choose_spec (each j)
      exact .eptr _ b off cs (fun j=>Classical.choose (each j)) hI (fun j hj=>(hY j hj).1) (fun j hj=>ih _ (List.getElem_mem hj) (hY j hj).2 (hrd j hj))
inductive Ws : C → Prop
  | v (x:Value):Ws (.v x)
  | mm {c:C} (h:Mk c):Ws c
  | msl (k sz off len:Nat):Ws (.msl k sz off len)
  | ptr (k off:Nat):Ws (.ptr k off)
  | z:Ws .z
theorem RC.ws {I:Nat→Prop} {w w':World} {s:Sg} {x:Value} {c:C} (hN:Nm I w w') (hs:Shp w w') (h:RC I w s x c) (hw:Ws c):RC I w' s x c:=by
  cases hw with
  | v y=>cases h with | v _ _ h1=>exact .v _ _ h1
  | mm hm=>exact h.mm hN hm (.inl rfl)
  | msl k sz off len =>
    cases h with
    | msl0 _ a _ _ h=>exact .msl0 _ a k sz h
    | msl _ _ b _ _ _ cap arr T fr h hlen hb hcap =>
      obtain ⟨arr',e,hsz⟩:=hs b arr T fr hb
      exact .msl _ k b sz off len cap arr' T fr h hlen e (by omega)
  | ptr k off=>cases h with | ptr _ _ b _ h=>exact .ptr _ k b off h
  | z=>cases h with | z _ a=>exact .z _ a
def WsD : D → Prop
  | .c c=>Ws c
  | .agg cs=>∀ c ∈ cs,Ws c
  | _=>False
theorem RD.ws {I:Nat→Prop} {w w':World} {s:Sg} {x:Value} {d:D} (hN:Nm I w w') (hs:Shp w w') (h:RD I w s x d) (hw:WsD d):RD I w' s x d:=by
  cases h with
  | c _ c h=>exact .c _ _ (h.ws hN hs hw)
  | agg vs cs hl hr=>exact .agg vs cs hl fun j h1 h2=>(hr j h1 h2).ws hN hs (hw _ (List.getElem_mem h2))
  | _=>exact hw.elim
structure Mw (I : Nat → Prop) (w w' : World) : Prop where
  os:w'.os=w.os
  tape:w'.tape=w.tape
  output:w'.output=w.output
  size:w.heap.size≤w'.heap.size
  same:∀ b,b<w.heap.size→¬ I b→w'.heap[b]? = w.heap[b]?
  shp:Shp w w'
  num:Nm I w w'
theorem Mw.sim {I:Nat→Prop} {w w':World} {s:Sg} {hp:Hp} (h0:Yn.n=0) (H:SimH I w s hp) (M:Mw I w w') (hh:∀ k cs,hp k=some (some cs)→∀ c ∈ cs,Ws c):SimH I w' s hp∧ExtW I w s hp I w' s hp:=by
  refine ⟨⟨H.top,fun k cs hk=>?_,H.inj,fun b hb=>Nat.lt_of_lt_of_le (H.imm b hb) M.size,H.yng.step M.size (fun b hb=>absurd hb (by omega)) fun b h => .inl h,H.wri.step M.shp⟩,
    ⟨M.os,M.tape,M.output,M.size,fun b hb hn hl=>M.same b hb fun hi=>hn ⟨hi,by omega⟩,M.shp,M.num,fun b hb => .inl hb,fun b hb => .inl hb⟩⟩
  rcases H.blk k cs hk with h1 | ⟨b,arr,T,h1,h2,h3,h4,h5⟩
  · exact .inl h1
  · refine .inr ⟨b,arr,T,h1,by rw [M.same b (lt_of_heap h2) h4];exact h2,h3,h4,fun j hj=>?_⟩
    obtain ⟨y,hy,hr⟩:=h5 j hj
    exact ⟨y,hy,hr.ws M.num M.shp (hh k cs hk _ (List.getElem_mem hj))⟩
theorem tOf_mem : ∀ {tl : List (Nat × D)} {n : Nat} {d : D}, tOf tl n = some d → (n, d) ∈ tl
  | [],n,d,h=>by simp [tOf] at h
  | (j,y) :: l,n,d,h=>by
    simp only [tOf,upd] at h
    split at h
    · rename_i e
      simp only [Option.some.injEq] at h
      rw [e,h];simp
    · simp [tOf_mem h]
theorem Rc.put {I : Nat → Prop} {w : World} {s : Sg} {a : Act} {tm : Nat → Option D} {hp : Hp} {nt : Nat} (hR : Rc I w s a tm hp nt) {dst : Option Tmp} {v : Value} {d : D} (hd : RD I w s v d) (hf : fitsT nt dst = true) :
    Rc I w s (a.put dst v) (setT tm dst (some d)) hp nt :=
  ⟨hR.H,slots_put hR.tm hR.sz (fun d' e=>by cases e;exact hd) hf,by cases dst<;>simp [Act.put,hR.df],by cases dst<;>simp [Act.put,hR.sz]⟩
def DW (P:Program) (F:FuncId) (args:List D) (R:Int→Prop):Prop :=
  ∀ (I:Nat→Prop) (w:World) (vs:Array Value),(∀ b,I b→b<w.heap.size)→(∀ b,I b→∃ arr T,w.heap[b]? = some (.cells arr T (0,0)))→RDs I w Sg0 vs args →
    Calls P F vs w fun e w'=>∃ n,e = .returned (.int .i64 n)∧R n∧Mw I w w'
theorem DW.imp {P:Program} {F:FuncId} {args:List D} {R R':Int→Prop} (h:DW P F args R) (hr:∀ n,R n→R' n):DW P F args R':=fun I w vs h1 h2 h3 =>
  (h I w vs h1 h2 h3).mono fun e w' ⟨n,e1,e2,e3⟩=>⟨n,e1,hr n e2,e3⟩
section
variable {P:Program} {m:Nat} {f:FuncId} {nt:Nat} {R:D→List (Option (List C))→Prop}
inductive Yt : C → C → Prop
  | v (x:Value):Yt (.v x) (.v x)
  | num (k:IntKind) (n:Int):Yt (.v (.int k n)) (.num k)
  | nn (k:IntKind):Yt (.num k) (.num k)
  | sl (sz : Nat) (xs xs' : List (List C)) (hl : xs.length = xs'.length) (h : ∀ (i : Nat) (r r' : List C), xs[i]? = some r → xs'[i]? = some r' → r.length = r'.length)
      (hc:∀ (i j:Nat) (r r':List C) (c c':C),xs[i]? = some r→xs'[i]? = some r'→r[j]? = some c→r'[j]? = some c'→Yt c c'):Yt (.csl true sz xs) (.isl sz xs')
theorem RC.yt {I:Nat→Prop} {w:World} {c c':C} (h:Yt c c'):∀ {s:Sg} {x:Value},RC I w s x c→@RC ⟨0,fun _=>none⟩ (fun b=>I b∧Yn.n≤b) w Sg0 x c':=by
  induction h with
  | v y=>intro s x h;cases h with | v _ _ h1=>exact @RC.v ⟨0,fun _=>none⟩ _ _ _ _ h1
  | num k n=>intro s x h;cases h with | v _ _ h1=>exact @RC.num ⟨0,fun _=>none⟩ _ _ _ k n
  | nn k=>intro s x h;cases h with | num _ _ n=>exact @RC.num ⟨0,fun _=>none⟩ _ _ _ k n
  | sl sz xs xs' hl hr hc ih =>
    intro s x h
    cases h with
    | csl0 _ a cap _ _ =>
      have:xs'=[]:=List.eq_nil_of_length_eq_zero (by simpa using hl.symm)
      subst this
      exact @RC.isl0 ⟨0,fun _=>none⟩ _ _ _ a cap sz
    | csl _ b off len cap _ _ _ h hN =>
      cases h with
      | isl0 _ _ _ _ =>
        have:xs'=[]:=List.eq_nil_of_length_eq_zero (by simpa using hl.symm)
        subst this
        exact @RC.isl0 ⟨0,fun _=>none⟩ _ _ _ _ cap sz
      | isl _ _ _ _ _ _ z hI hle hcell hrd hcap =>
        rw [hl] at hcap ⊢
        refine @RC.isl ⟨0,fun _=>none⟩ _ _ _ b off cap sz xs' z ⟨hI,by simpa using hN⟩ (fun i hi=>?_) (fun i j hi hj=>hcell i j (by omega) hj) (fun i hi j hj=>?_) hcap
        · have hi':i<xs.length:=by omega
          have:=hr i xs[i] xs'[i] (List.getElem?_eq_getElem hi') (List.getElem?_eq_getElem hi)
          rw [← this];exact hle i hi'
        · have hi':i<xs.length:=by omega
          have e:=hr i xs[i] xs'[i] (List.getElem?_eq_getElem hi') (List.getElem?_eq_getElem hi)
          have hj':j<(xs[i]).length:=by omega
          exact ih i j _ _ _ _ (List.getElem?_eq_getElem hi') (List.getElem?_eq_getElem hi) (List.getElem?_eq_getElem hj') (List.getElem?_eq_getElem hj) (hrd i hi' j hj')
def Yts (cs cs':List C):Prop:=cs.length=cs'.length∧∀ (j:Nat) (c c':C),cs[j]? = some c→cs'[j]? = some c'→Yt c c'
theorem Yt.map {α:Type} {sz:Nat} {l:List α} {f g:α→List C} (h:∀ a ∈ l,Yts (f a) (g a)):Yt (.csl true sz (l.map f)) (.isl sz (l.map g)):=by
  refine .sl sz _ _ (by simp) (fun i r r' hr hr'=>?_) (fun i j r r' c c' hr hr' hc hc'=>?_)
  · simp only [List.getElem?_map,Option.map_eq_some_iff] at hr hr'
    obtain ⟨a,ha,rfl⟩:=hr
    obtain ⟨a',ha',rfl⟩:=hr'
    rw [ha] at ha';cases ha'
    exact (h a (List.mem_of_getElem? ha)).1
  · simp only [List.getElem?_map,Option.map_eq_some_iff] at hr hr'
    obtain ⟨a,ha,rfl⟩:=hr
    obtain ⟨a',ha',rfl⟩:=hr'
    rw [ha] at ha';cases ha'
    exact (h a (List.mem_of_getElem? ha)).2 j c c' hc hc'
theorem Yts.nil:Yts [] []:=⟨rfl,fun j c c' h=>by simp at h⟩
theorem Yts.cons {c c':C} {cs cs':List C} (h:Yt c c') (h':Yts cs cs'):Yts (c :: cs) (c' :: cs') :=
  ⟨by simp [h'.1],fun j d d' g g'=>by
    cases j with
    | zero=>simp only [List.getElem?_cons_zero,Option.some.injEq] at g g';subst g;subst g';exact h
    | succ j=>exact h'.2 j d d' (by simpa using g) (by simpa using g')⟩
theorem Yts.app {a a' b b':List C} (h:Yts a a') (h':Yts b b'):Yts (a++b) (a'++b') :=
  ⟨by simp [h.1,h'.1],fun j d d' g g'=>by
    rcases Nat.lt_or_ge j a.length with hj | hj
    · rw [List.getElem?_append_left hj] at g
      rw [List.getElem?_append_left (by rw [← h.1];exact hj)] at g'
      exact h.2 j d d' g g'
    · rw [List.getElem?_append_right hj] at g
      rw [List.getElem?_append_right (by rw [← h.1];exact hj),← h.1] at g'
      exact h'.2 _ d d' g g'⟩
inductive YtD : D → D → Prop
  | c {a b:C} (h:Yt a b):YtD (.c a) (.c b)
  | agg {a b:List C} (h:Yts a b):YtD (.agg a) (.agg b)
theorem RD.yt {I:Nat→Prop} {w:World} {s:Sg} {x:Value} {d d':D} (h:YtD d d') (hr:RD I w s x d) : @RD ⟨0,fun _=>none⟩ (fun b=>I b∧Yn.n≤b) w Sg0 x d':=by
  cases h with
  | c h=>cases hr with | c _ _ hr=>exact @RD.c ⟨0,fun _=>none⟩ _ _ _ _ _ (hr.yt h)
  | agg h =>
    cases hr with
    | agg vs _ hl hr =>
      have h3:=h.1
      refine @RD.agg ⟨0,fun _=>none⟩ _ _ _ vs _ (by rw [hl,h.1]) fun j h1 h2=>?_
      exact (hr j h1 (by omega)).yt (h.2 j _ _ (List.getElem?_eq_getElem (by omega)) (List.getElem?_eq_getElem h2))
inductive YtDs : List D → List D → Prop
  | nil:YtDs [] []
  | cons {d d':D} {l l':List D} (h:YtD d d') (h':YtDs l l'):YtDs (d :: l) (d' :: l')
theorem YtDs.len {l l':List D} (h:YtDs l l'):l.length=l'.length:=by
  induction h with
  | nil=>rfl
  | cons _ _ ih=>simp [ih]
theorem YtDs.at {l l':List D} (h:YtDs l l'):∀ (j:Nat) (d d':D),l[j]? = some d→l'[j]? = some d'→YtD d d':=by
  induction h with
  | nil=>intro j d d' h;simp at h
  | cons h h' ih =>
    intro j d d' g g'
    cases j with
    | zero=>simp only [List.getElem?_cons_zero,Option.some.injEq] at g g';subst g;subst g';exact h
    | succ j=>exact ih j d d' (by simpa using g) (by simpa using g')
inductive Od (hT : Hp) : C → Prop
  | v (x:Value):Od hT (.v x)
  | sl (sz:Nat) (xs:List (List C)) (h:∀ r ∈ xs,∀ c ∈ r,Od hT c):Od hT (.csl false sz xs)
  | nil (sz:Nat):Od hT (.isl sz [])
  | msl (k sz off len:Nat) (h:hT k ≠ none):Od hT (.msl k sz off len)
  | ptr (k off:Nat) (h:hT k ≠ none):Od hT (.ptr k off)
theorem RC.od {I:Nat→Prop} {w w':World} {hT:Hp} (hM:∀ b,I b→b<Yn.n→w'.heap[b]? = w.heap[b]?) (hs:Shp w w') {c:C} (h:Od hT c):∀ {s s':Sg} {x:Value},(∀ k,hT k ≠ none→s' k=s k)→RC I w s x c→RC (fun b=>I b∧b<Yn.n) w' s' x c:=by
  induction h with
  | v y=>intro s s' x _ h;cases h with | v _ _ h1=>exact .v _ _ h1
  | sl sz xs h ih =>
    intro s s' x _ h
    cases h with
    | csl0 _ a cap _ _=>exact .csl0 _ a cap sz false
    | csl _ b off len cap _ _ _ h hN =>
      cases h with
      | isl0 _ _ _ _=>exact .csl _ b off 0 cap sz [] false (.isl0 _ _ cap sz) hN
      | isl _ _ _ _ _ _ z hI hle hcell hrd hcap =>
        have hb:b<Yn.n:=by simpa using hN
        exact .csl _ b off _ cap sz xs false (.isl _ b off cap sz xs z ⟨hI, hb⟩ hle (fun i j hi hj => (cell_of_heap (hM b hI hb)).trans (hcell i j hi hj))
          (fun i hi j hj=>ih _ (List.getElem_mem hi) _ (List.getElem_mem hj) (fun _ _=>rfl) (hrd i hi j hj)) hcap) hN
  | nil sz =>
    intro s s' x _ h
    generalize hxs:([]:List (List C))=xs at h
    cases h with
    | isl0 _ a cap _=>exact .isl0 _ a cap sz
    | isl _ b off cap _ _ y hI hl hc hr hcap =>
      subst hxs
      exact .isl0 _ _ cap sz
  | msl k sz off len hk =>
    intro s s' x hk' h
    cases h with
    | msl0 _ a _ _ h=>exact .msl0 _ a k sz (by rw [hk' k hk];exact h)
    | msl _ _ b _ _ _ cap arr T fr h hlen hb hcap =>
      obtain ⟨arr',e,hsz⟩:=hs b arr T fr hb
      exact .msl _ k b sz off len cap arr' T fr (by rw [hk' k hk];exact h) hlen e (by omega)
  | ptr k off hk=>intro s s' x hk' h;cases h with | ptr _ _ b _ h=>exact .ptr _ k b off (by rw [hk' k hk];exact h)
def OdD (hT : Hp) : D → Prop
  | .c c=>Od hT c
  | .agg cs=>∀ c ∈ cs,Od hT c
  | _=>False
theorem RD.od {I:Nat→Prop} {w w':World} {hT:Hp} (hM:∀ b,I b→b<Yn.n→w'.heap[b]? = w.heap[b]?) (hs:Shp w w') {s s':Sg} {x:Value} {d:D} (h:OdD hT d) (hk:∀ k,hT k ≠ none→s' k=s k) (hr:RD I w s x d):RD (fun b=>I b∧b<Yn.n) w' s' x d:=by
  cases hr with
  | c _ c hr=>exact .c _ _ (hr.od hM hs h hk)
  | agg vs cs hl hr=>exact .agg vs cs hl fun j h1 h2=>(hr j h1 h2).od hM hs (h _ (List.getElem_mem h2)) hk
  | _=>exact h.elim
inductive Yw : C → C → Prop
  | num (k:IntKind) (n:Int):Yw (.v (.int k n)) (.num k)
  | nn (k:IntKind):Yw (.num k) (.num k)
  | sl (sz : Nat) (xs xs' : List (List C)) (hl : xs.length = xs'.length) (h : ∀ (i : Nat) (r r' : List C), xs[i]? = some r → xs'[i]? = some r' → r.length = r'.length)
      (hc:∀ (i j:Nat) (r r':List C) (c c':C),xs[i]? = some r→xs'[i]? = some r'→r[j]? = some c→r'[j]? = some c'→Yw c c'):Yw (.csl true sz xs) (.csl true sz xs')
  | nv (v:Value) (hv:∀ k n,v ≠ .int k n):Yw (.v v) (.v v)
  | isl (sz : Nat) (xs xs' : List (List C)) (hl : xs.length = xs'.length) (h : ∀ (i : Nat) (r r' : List C), xs[i]? = some r → xs'[i]? = some r' → r.length = r'.length)
      (hc:∀ (i j:Nat) (r r':List C) (c c':C),xs[i]? = some r→xs'[i]? = some r'→r[j]? = some c→r'[j]? = some c'→Yw c c'):Yw (.isl sz xs) (.isl sz xs')
theorem RC.yw {I:Nat→Prop} {w w':World} (hN:Nm I w w') {c c':C} (h:Yw c c'):∀ {s s':Sg} {x x':Value},Tu x x'→RC I w s x c→RC I w' s' x' c':=by
  induction h with
  | num k n =>
    intro s s' x x' ht h
    cases h with
    | v _ _ h1 =>
      rcases ht with rfl | ⟨k',m,m',e,rfl⟩
      · exact .num _ k n
      · cases e;exact .num _ k m'
  | nn k =>
    intro s s' x x' ht h
    cases h with
    | num _ _ n =>
      rcases ht with rfl | ⟨k',m,m',e,rfl⟩
      · exact .num _ k n
      · cases e;exact .num _ k m'
  | sl sz xs xs' hl hr hc ih =>
    intro s s' x x' ht h
    have hx:x'=x:=by
      rcases ht with e | ⟨k,m,m',e,_⟩
      · exact e
      · subst e;cases h
    subst hx
    cases h with
    | csl0 _ a cap _ _ =>
      have:xs'=[]:=List.eq_nil_of_length_eq_zero (by simpa using hl.symm)
      subst this
      exact .csl0 _ a cap sz true
    | csl _ b off len cap _ _ _ h hB =>
      refine .csl _ b off len cap sz xs' true ?_ hB
      cases h with
      | isl0 _ _ _ _ =>
        have:xs'=[]:=List.eq_nil_of_length_eq_zero (by simpa using hl.symm)
        subst this
        exact .isl0 _ _ cap sz
      | isl _ _ _ _ _ _ z hI hle hcell hrd hcap =>
        rw [hl] at hcap ⊢
        have each:∀ i j,∃ y',i<xs.length→j<sz→w'.cell? ⟨b,off+i * sz+j,none⟩=some y'∧Tu (z i j) y':=fun i j=>by
          by_cases hij:i<xs.length∧j<sz
          · obtain ⟨y',h1,h2⟩:=hN.cell hI (hcell i j hij.1 hij.2)
            exact ⟨y',fun _ _=>⟨h1,h2⟩⟩
          · exact ⟨undef,fun h1 h2=>absurd ⟨h1,h2⟩ hij⟩
        have hY:=fun i j=>Classical.choose_spec (each i j)
        have hr2:∀ i (hi:i<xs.length) (hi':i<xs'.length),(xs[i]).length=(xs'[i]).length:=fun i hi hi'=>hr i xs[i] xs'[i] (List.getElem?_eq_getElem hi) (List.getElem?_eq_getElem hi')
        refine .isl _ b off cap sz xs' (fun i j=>Classical.choose (each i j)) hI (fun i hi=>?_) (fun i j hi hj=>(hY i j (by omega) hj).1) (fun i hi j hj=>?_) hcap
        · have hi':i<xs.length:=by omega
          rw [← hr2 i hi' hi];exact hle i hi'
        · have hi':i<xs.length:=by omega
          have e:=hr2 i hi' hi
          have hj':j<(xs[i]).length:=by omega
          exact ih i j _ _ _ _ (List.getElem?_eq_getElem hi') (List.getElem?_eq_getElem hi) (List.getElem?_eq_getElem hj') (List.getElem?_eq_getElem hj) (hY i j hi' (by rw [← hle i hi'];exact hj')).2 (hrd i hi' j hj')
  | nv v hv =>
    intro s s' x x' ht h
    cases h with
    | v _ _ h1 =>
      rcases ht with rfl | ⟨k',m,m',e,rfl⟩
      · exact .v _ _ h1
      · exact absurd e (hv k' m)
  | isl sz xs xs' hl hr hc ih =>
    intro s s' x x' ht h
    have hx:x'=x:=by
      rcases ht with e | ⟨k,m,m',e,_⟩
      · exact e
      · subst e;cases h
    subst hx
    cases h with
    | isl0 _ _ cap _ =>
      have:xs'=[]:=List.eq_nil_of_length_eq_zero (by simpa using hl.symm)
      subst this
      exact .isl0 _ _ cap sz
    | isl _ b off cap _ _ z hI hle hcell hrd hcap =>
      rw [hl] at hcap ⊢
      have each:∀ i j,∃ y',i<xs.length→j<sz→w'.cell? ⟨b,off+i * sz+j,none⟩=some y'∧Tu (z i j) y':=fun i j=>by
        by_cases hij:i<xs.length∧j<sz
        · obtain ⟨y',h1,h2⟩:=hN.cell hI (hcell i j hij.1 hij.2)
          exact ⟨y',fun _ _=>⟨h1,h2⟩⟩
        · exact ⟨undef,fun h1 h2=>absurd ⟨h1,h2⟩ hij⟩
      have hY:=fun i j=>Classical.choose_spec (each i j)
      have hr2:∀ i (hi:i<xs.length) (hi':i<xs'.length),(xs[i]).length=(xs'[i]).length:=fun i hi hi'=>hr i xs[i] xs'[i] (List.getElem?_eq_getElem hi) (List.getElem?_eq_getElem hi')
      refine .isl _ b off cap sz xs' (fun i j=>Classical.choose (each i j)) hI (fun i hi=>?_) (fun i j hi hj=>(hY i j (by omega) hj).1) (fun i hi j hj=>?_) hcap
      · have hi':i<xs.length:=by omega
        rw [← hr2 i hi' hi];exact hle i hi'
      · have hi':i<xs.length:=by omega
        have e:=hr2 i hi' hi
        have hj':j<(xs[i]).length:=by omega
        exact ih i j _ _ _ _ (List.getElem?_eq_getElem hi') (List.getElem?_eq_getElem hi) (List.getElem?_eq_getElem hj') (List.getElem?_eq_getElem hj) (hY i j hi' (by rw [← hle i hi'];exact hj')).2 (hrd i hi' j hj')
theorem Yw.map {α:Type} {sz:Nat} {l:List α} {f g:α→List C} (h:∀ a ∈ l,(f a).length=(g a).length∧∀ (j:Nat) (c c':C),(f a)[j]? = some c→(g a)[j]? = some c'→Yw c c'):Yw (.csl true sz (l.map f)) (.csl true sz (l.map g)):=by
  refine .sl sz _ _ (by simp) (fun i r r' hr hr'=>?_) (fun i j r r' c c' hr hr' hc hc'=>?_)
  · simp only [List.getElem?_map,Option.map_eq_some_iff] at hr hr'
    obtain ⟨a,ha,rfl⟩:=hr
    obtain ⟨a',ha',rfl⟩:=hr'
    rw [ha] at ha';cases ha'
    exact (h a (List.mem_of_getElem? ha)).1
  · simp only [List.getElem?_map,Option.map_eq_some_iff] at hr hr'
    obtain ⟨a,ha,rfl⟩:=hr
    obtain ⟨a',ha',rfl⟩:=hr'
    rw [ha] at ha';cases ha'
    exact (h a (List.mem_of_getElem? ha)).2 j c c' hc hc'
inductive Sm (hT : Hp) : C → C → Prop
  | od {c:C} (h:Od hT c):Sm hT c c
  | yw {c c':C} (h:Yw c c'):Sm hT c c'
inductive Sms (hT : Hp) : List C → List C → Prop
  | nil:Sms hT [] []
  | cons {c c':C} {l l':List C} (h:Sm hT c c') (h':Sms hT l l'):Sms hT (c :: l) (c' :: l')
theorem Sms.od {hT : Hp} : ∀ {cs : List C}, (∀ c ∈ cs, Od hT c) → Sms hT cs cs
  | [],_ => .nil
  | c :: r,h => .cons (.od (h c (by simp))) (Sms.od fun c' hc=>h c' (by simp [hc]))
theorem Sms.len {hT:Hp} {l l':List C} (h:Sms hT l l'):l.length=l'.length:=by
  induction h with
  | nil=>rfl
  | cons _ _ ih=>simp [ih]
theorem Sms.at {hT:Hp} {l l':List C} (h:Sms hT l l'):∀ (j:Nat) (d d':C),l[j]? = some d→l'[j]? = some d'→Sm hT d d':=by
  induction h with
  | nil=>intro j d d' h;simp at h
  | cons h h' ih =>
    intro j d d' g g'
    cases j with
    | zero=>simp only [List.getElem?_cons_zero,Option.some.injEq] at g g';subst g;subst g';exact h
    | succ j=>exact ih j d d' (by simpa using g) (by simpa using g')
inductive SmD (hT : Hp) : D → D → Prop
  | c {a b:C} (h:Sm hT a b):SmD hT (.c a) (.c b)
  | agg {a b:List C} (h:Sms hT a b):SmD hT (.agg a) (.agg b)
theorem RC.sm {I:Nat→Prop} {w w':World} {hT:Hp} (hM:∀ b,I b→b<Yn.n→w'.heap[b]? = w.heap[b]?) (hN:Nm I w w') (hs:Shp w w') {s s':Sg} (hk:∀ k,hT k ≠ none→s' k=s k) {x:Value} {c c':C} (h:Sm hT c c') (hr:RC I w s x c):RC I w' s' x c':=by
  cases h with
  | od h=>exact (hr.od hM hs h hk).mono (fun _ h=>h.1) (fun _ _=>rfl) (Shp.refl _) (Sg.le_refl _)
  | yw h=>exact hr.yw hN h (.inl rfl)
theorem RD.sm {I:Nat→Prop} {w w':World} {hT:Hp} (hM:∀ b,I b→b<Yn.n→w'.heap[b]? = w.heap[b]?) (hN:Nm I w w') (hs:Shp w w') {s s':Sg} (hk:∀ k,hT k ≠ none→s' k=s k) {x:Value} {d d':D} (h:SmD hT d d') (hr:RD I w s x d):RD I w' s' x d':=by
  cases h with
  | c h=>cases hr with | c _ _ hr=>exact .c _ _ (hr.sm hM hN hs hk h)
  | agg h =>
    cases hr with
    | agg vs _ hl hr =>
      have h3:=h.len
      exact .agg vs _ (by omega) fun j h1 h2=>(hr j h1 (by omega)).sm hM hN hs hk (h.at j _ _ (List.getElem?_eq_getElem (by omega)) (List.getElem?_eq_getElem h2))
theorem XK.mark {all : Array Oper} {i : Nat} {o : Oper} {rest : List Oper} {lg : Lg} {nx0 : Nat} {k : List Item} {S : Ms} {F : FuncId} {ds args : List D} {R' : Int → Prop} (tl : List (Nat × D)) (hl : List (Nat × Option (List C)))
    (hD : @DW ⟨0,fun _=>none⟩ P F args R') (hfn:fnOK P F=true) (hy:YtDs ds args) (hhl:∀ p ∈ hl,∃ cs cs',S.hp p.1=some (some cs)∧p.2=some cs'∧Sms (hOf hl) cs cs') (htl:∀ p ∈ tl,∃ d,S.tm p.1=some d∧SmD (hOf hl) d p.2)
    (next:∀ n,R' n→XK true P m f nt R (some ⟨all,false,i+1,rest,lg,nx0⟩) k ⟨setT (tOf tl) o.dst (some (DI .i64 n)),hOf hl,S.nx⟩)
    (hop:o.op = .call (getCall o):=by rfl) (hg:o.guard=none:=by rfl) (hc:calleeOf S.tm (getCall o)=some (F,ds):=by rfl) (hok:okB S.tm (getCall o).operands.toList=true:=by rfl)
    (hf:fitsT nt o.dst=true:=by rfl) :
    XK true P m f nt R (some ⟨all,false,i,o :: rest,lg,nx0⟩) k S:=by
  simp only [XK,dopsL]
  refine Pre.intro (.inr ⟨⟨rfl,rfl⟩,fun ho I w s a hR Q Kc hK=>?_⟩)
  unfold wpOp
  simp only [ho]
  have hw:Region.wanted o (yielded all a.tmps)=true:=by simp [Region.wanted,hg]
  rw [if_pos hw]
  refine .inl ?_
  unfold Oper.wp
  obtain ⟨vs,hrun,hvs⟩:=call_run (P:=P) hR.tm hop hc (okP_of hok) hfn
  rw [hrun]
  have hlen:=hy.len
  refine (hD (fun b=>I b∧Yn.n≤b) w vs (fun b hb=>hR.H.imm b hb.1) (fun b hb=>hR.H.wri b hb.1 hb.2) ⟨by rw [hvs.1,hlen],fun j h1 h2 =>
    (hvs.2 j h1 (by omega)).yt (hy.at j _ _ (List.getElem?_eq_getElem (by omega)) (List.getElem?_eq_getElem h2))⟩).mono ?_
  rintro e w' ⟨n,rfl,hn,M⟩
  let s':Sg:=fun k=>match hOf hl k with | none=>none | some _=>s k
  have hs':∀ k,hOf hl k ≠ none→s' k=s k:=fun k hk=>by
    simp only [s']
    cases h:hOf hl k with
    | none=>exact absurd h hk
    | some _=>rfl
  have hold:∀ b,I b→b<Yn.n→w'.heap[b]? = w.heap[b]? := fun b hb hn=>M.same b (hR.H.imm b hb) fun q=>by omega
  have hnum:Nm I w w':=fun b arr T fr hb e=>by
    by_cases q:Yn.n≤b
    · exact M.num b arr T fr ⟨hb,q⟩ e
    · exact ⟨arr,by rw [hold b hb (by omega)];exact e,rfl,fun j y hy => .inl hy⟩
  have hin:∀ k cs',hOf hl k=some (some cs')→∃ cs,S.hp k=some (some cs)∧Sms (hOf hl) cs cs':=fun k cs' hk=>by
    obtain ⟨cs,cs2,h1,h2,h3⟩:=hhl _ (hOf_mem hk)
    simp only [Option.some.injEq] at h2
    subst h2
    exact ⟨cs,h1,h3⟩
  have hlive:∀ b,Live s' (hOf hl) b→Live s S.hp b:=by
    rintro b ⟨k,cs,hk,hs⟩
    rw [hs' k (by rw [hk];simp)] at hs
    obtain ⟨cs0,h1,_⟩:=hin k cs hk
    exact ⟨k,cs0,h1,hs⟩
  have H':SimH I w' s' (hOf hl):=by
    refine ⟨fun k hk=>by simp [s',hk],fun k cs hk=>?_,fun k k' b cs cs' h1 h2 h3 h4=>?_,fun b hb=>Nat.lt_of_lt_of_le (hR.H.imm b hb) M.size,hR.H.yng.step M.size (fun b hb=>M.same b (Nat.lt_of_lt_of_le hb hR.H.yng.1) fun q=>by omega) fun b hb => .inl (hlive b hb),hR.H.wri.step M.shp⟩
    · obtain ⟨cs0,g1,g2⟩:=hin k cs hk
      have hlen2:=g2.len
      rw [hs' k (by rw [hk];simp)]
      rcases hR.H.blk k cs0 g1 with ⟨h1,h1'⟩ | ⟨b,arr,T,h1,h2,h3,h4,h5⟩
      · exact .inl ⟨h1,by subst h1';exact List.eq_nil_of_length_eq_zero hlen2.symm⟩
      · refine .inr ⟨b,arr,T,h1,by rw [M.same b (lt_of_heap h2) fun q=>h4 q.1];exact h2,by omega,h4,fun j hj=>?_⟩
        obtain ⟨y,hy',hr⟩:=h5 j (by omega)
        exact ⟨y,hy',hr.sm hold hnum M.shp hs' (g2.at j _ _ (List.getElem?_eq_getElem (by omega)) (List.getElem?_eq_getElem hj))⟩
    · rw [hs' k (by rw [h1];simp)] at h3
      rw [hs' k' (by rw [h2];simp)] at h4
      obtain ⟨_,f1,_⟩:=hin k cs h1
      obtain ⟨_,f2,_⟩:=hin k' cs' h2
      exact hR.H.inj k k' b _ _ f1 f2 h3 h4
  have R1:Rc I w' s' a (tOf tl) (hOf hl) nt:=⟨H',fun n d hd=>by
    obtain ⟨d0,h1,h2⟩:=htl _ (tOf_mem hd)
    exact (hR.tm n d0 h1).sm hold hnum M.shp hs' h2,hR.df,hR.sz⟩
  exact hK _ w' _ s' _ (next n hn) (R1.put (rd_int _ _) hf) ⟨M.os,M.tape,M.output,M.size,fun b hb hn _=>M.same b hb hn,M.shp,hnum,fun b hb => .inl hb,fun b hb => .inl (hlive b hb)⟩
end
def drvW (K : Bool) (P : Program) (m : Nat) (f : FuncId) (nt : Nat) (R : D → List (Option (List C)) → Prop) (rs : List ResultVar) : Nat → Option Rg → List Item → Ms → Prop
  | 0,r,k,S=>XK K P m f nt R r k S
  | n+1,some ⟨all,dr,i,[],lg,nx0⟩,k,S=>drvW K P m f nt R rs n none k ⟨S.tm,S.hp,nx0+64 * all.size⟩
  | n+1,some ⟨all,dr,i,o :: rest,lg,nx0⟩,k,S=>if isFn o then XK K P m f nt R (some ⟨all,dr,i,o :: rest,lg,nx0⟩) k S else
      (match nxt P m nx0 all i o S.tm S.hp with
      | some (vc,d,up,rd)=>(vc∧fitsT nt o.dst=true∧(dr=true→lgokF nx0 all lg i rd (up.map (·.1))=true)) ∧
          drvW K P m f nt R rs n (some ⟨all,dr,i+1,rest,upd lg i (some (rd,up.map (·.1))),nx0⟩) k ⟨setT S.tm o.dst d,appUp S.hp up,S.nx⟩
      | none=>XK K P m f nt R (some ⟨all,dr,i,o :: rest,lg,nx0⟩) k S)
  | n+1,none,[],S=>retP P m R rs S
  | n+1,none,.code (.seq a b) :: k,S=>drvW K P m f nt R rs n none (.code a :: .code b :: k) S
  | n+1,none,.code .skip :: k,S=>drvW K P m f nt R rs n none k S
  | n+1,none,.code (.label _) :: k,S=>drvW K P m f nt R rs n none k S
  | n+1,none,.inBlock _ :: k,S=>drvW K P m f nt R rs n none k S
  | n+1,none,.code (.block id c) :: k,S=>drvW K P m f nt R rs n none (.code c :: .inBlock id :: k) S
  | n+1,none,.code (.cond c x y) :: k,S=>(match evT S.tm c with
      | some d=>(match peelD d with
        | .c (.v (.bool t))=>peelB d=true∧(t=true→drvW K P m f nt R rs n none (.code x :: k) S)∧(t=false→drvW K P m f nt R rs n none (.code y :: k) S)
        | _=>False)
      | none=>False)
  | n+1,none,.code (.exit id) :: k,S=>(match exitTo id k with
      | some k'=>drvW K P m f nt R rs n none k' S
      | none=>False)
  | n+1,none,.code .ret :: k,S=>retP P m R rs S
  | n+1,none,.code (.region id all dr) :: k,S=>(dr=true→drawOK all=true)∧drvW K P m f nt R rs n (some ⟨all,dr,0,all.toList,fun _=>none,S.nx⟩) k S
  | n+1,none,k,S=>XK K P m f nt R none k S
section
variable {K:Bool} {P:Program} {m:Nat} {f:FuncId} {nt:Nat} {R:D→List (Option (List C))→Prop}
end
attribute [go_sem] drvW
end Go.CT
namespace Go.CT
variable [Yn]
def Frz (hp:Hp) (args' args:List D):Prop:=∀ (I:Nat→Prop) (w:World) (s:Sg) (vs:Array Value),SimH I w s hp→RDs I w s vs args'→∃ (I':Nat→Prop) (s':Sg),SimH I' w s' (hpL [])∧RDs I' w s' vs args
theorem Frz.of {hp:Hp} {args' args:List D} (fz:List Nat) (hm:DMs (hOf (enumL 0 [])) (fun _=>none) hp fz args args'):Frz hp args' args:=fun I w s vs H hv=>by
  have hs:SubH 0 (fun _=>none) fz (hOf (enumL 0 [])) hp :=
    ⟨fun k cs hk=>by simp [enumL,hOf] at hk,fun k k' cs cs' j h1=>by simp [enumL,hOf] at h1,fun k hk=>by omega⟩
  obtain ⟨H',_⟩:=hs.sim H
  have hv':=DMs.rds (r:=fun _=>none) (fz:=fz) (hT:=hOf (enumL 0 [])) H args args' vs.toList hm (by simpa using hv)
  rw [Array.toArray_toList] at hv'
  rw [hpL_enum] at H' hv'
  exact ⟨_,_,H',hv'⟩
theorem Frz.step {hp : Hp} {args' args1 args : List D} (r : Nat → Option Nat) (fz : List Nat) (hl : List (Nat × Option (List C)))
    (hq:HpOK (hOf hl) r hp fz hl∧((hl.filterMap fun p=>p.2.map fun _=>p.1).filterMap r).Nodup) (hm:DMs (hOf hl) r hp fz args1 args') (h:Frz (hOf hl) args1 args):Frz hp args' args:=fun I w s vs H hv=>by
  have hM:Mq 0 r fz [] hl ⟨fun _=>none,hp,0⟩:=⟨trivial,hq.1,trivial,hq.2⟩
  obtain ⟨H',_⟩:=hM.subH.sim H
  have hv':=DMs.rds (r:=r) (fz:=fz) (hT:=hOf hl) H args1 args' vs.toList hm (by simpa using hv)
  rw [Array.toArray_toList] at hv'
  exact h _ w _ vs H' hv'
theorem DC.borrowG {P : Program} {F : FuncId} {args args' : List D} {h : List (Option (List C))} {y : Value} (hf : Frz (hpL h) args' args) (hD : DC P F args [] (fun r h => r = .c (.v y) ∧ h = [])) :
    DC P F args' h (fun r h'=>r = .c (.v y)∧h'=h):=fun I w s vs H hv=>by
  obtain ⟨I0,s0,H',hv'⟩:=hf I w s vs H hv
  refine (hD _ w _ vs H' hv').mono ?_
  rintro e w' ⟨v,I',s'',d,h',rfl,⟨rfl,rfl⟩,hrd,hH,hE,hl⟩
  have same:∀ b,b<w.heap.size→w'.heap[b]? = w.heap[b]? := fun b hb=>hE.same b hb fun hn=>by
    obtain ⟨k,cs,h1,_⟩:=hn
    simp [hpL] at h1
  refine ⟨v,I,s,.c (.v y),h,rfl,⟨rfl,rfl⟩,?_,⟨H.top,fun k cs hk=>?_,H.inj,fun b hb=>Nat.lt_of_lt_of_le (H.imm b hb) hE.size,H.yng.step hE.size (fun b hb=>same b (Nat.lt_of_lt_of_le hb H.yng.1)) fun b h => .inl h,H.wri.step hE.shp⟩,
    ⟨hE.os,hE.tape,hE.output,hE.size,fun b hb _=>same b hb,hE.shp,fun _ _=>rfl,fun _ h=>h,fun _ h => .inl h,fun _ h => .inl h⟩,Nat.le_refl _⟩
  · cases hrd with
    | c _ _ hc=>cases hc with | v _ _ h1=>exact .c _ _ (.v _ _ h1)
  · rcases H.blk k cs hk with h1 | ⟨b,arr,T,h1,h2,h3,h4,h5⟩
    · exact .inl h1
    · have hb:b<w.heap.size:=by
        rcases Nat.lt_or_ge b w.heap.size with hb | hb
        · exact hb
        · rw [Array.getElem?_eq_none hb] at h2;cases h2
      refine .inr ⟨b,arr,T,h1,by rw [same b hb];exact h2,h3,h4,fun j hj=>?_⟩
      obtain ⟨y,hy,hr⟩:=h5 j hj
      exact ⟨y,hy,hr.mono (fun _ h=>h) (fun b hb=>same b (H.imm b hb)) hE.shp (fun _ _ h=>h)⟩
def blks : Nat → List (List C) → List (Nat × Option (List C))
  | _,[]=>[]
  | b,x :: r=>(b,some x) :: blks (b+1) r
theorem hOf_blks : ∀ (L : List (List C)) (b k : Nat), hOf (blks b L) k = if b ≤ k then (L[k - b]?).map some else none
  | [],b,k=>by simp [blks,hOf]
  | x :: r,b,k=>by
    simp only [blks,hOf,upd]
    by_cases h:k=b
    · subst h;simp
    · rw [if_neg h,hOf_blks r (b+1) k]
      by_cases h2:b≤k
      · rw [if_pos h2,if_pos (by omega)]
        obtain ⟨j,hj⟩:∃ j,k - b=j+1:=⟨k - b - 1,by omega⟩
        rw [hj,show k - (b+1)=j by omega]
        rfl
      · rw [if_neg h2,if_neg (by omega)]
theorem HpOK_blks {hT hS : Hp} {r : Nat → Option Nat} {fz : List Nat} : ∀ {L : List (List C)} {b : Nat}, (∀ i cs, L[i]? = some cs → ∃ k', r (b + i) = some k' ∧ k' ∉ fz ∧ ∃ cs', hS k' = some (some cs') ∧ CMs hT r hS fz cs cs') → HpOK hT r hS fz (blks b L)
  | [],b,h=>by simp [blks,HpOK]
  | x :: l,b,h=>by
    simp only [blks,HpOK]
    refine ⟨?_,HpOK_blks fun i cs hi=>?_⟩
    · obtain ⟨k',h1,h2,cs',h3,h4⟩:=h 0 x rfl
      rw [Nat.add_zero] at h1
      rw [h1]
      simp only [h3]
      exact ⟨h2,h4⟩
    · have:=h (i+1) cs hi
      rwa [show b+(i+1)=b+1+i by omega] at this
theorem keys_blks : ∀ (L : List (List C)) (b : Nat), (blks b L).filterMap (fun p => p.2.map fun _ => p.1) = (List.range L.length).map (b + ·)
  | [],b=>rfl
  | x :: r,b=>by
    rw [blks,List.filterMap_cons]
    simp only [Option.map_some,List.length_cons,keys_blks r (b+1)]
    rw [List.range_succ_eq_map,List.map_cons,List.map_map]
    simp only [Nat.add_zero,List.cons.injEq,true_and]
    exact List.map_congr_left fun i _=>by simp only [Function.comp];omega
theorem nodup_blks {A : List (Nat × Option (List C))} {L : List (List C)} {b : Nat} {r : Nat → Option Nat} {g : Nat → Nat} (hr : ∀ i, i < L.length → r (b + i) = some (g i)) (hg : ∀ i j, i < L.length → j < L.length → g i = g j → i = j)
    (hA:((A.filterMap fun p=>p.2.map fun _=>p.1).filterMap r).Nodup) (hd:∀ k ∈ (A.filterMap fun p=>p.2.map fun _=>p.1).filterMap r,∀ i,i<L.length→k ≠ g i) :
    (((A++blks b L).filterMap fun p=>p.2.map fun _=>p.1).filterMap r).Nodup:=by
  rw [List.filterMap_append,List.filterMap_append,keys_blks]
  have e:((List.range L.length).map (b + ·)).filterMap r=(List.range L.length).map g:=by
    rw [List.filterMap_map]
    have:∀ l:List Nat,(∀ i ∈ l,i<L.length)→l.filterMap (r ∘ (b + ·))=l.map g:=fun l=>by
      induction l with
      | nil=>intro _;rfl
      | cons a s ih =>
        intro h
        rw [List.filterMap_cons,show (r ∘ (b + ·)) a=some (g a) from hr a (h a (by simp)),List.map_cons]
        simp only
        rw [ih fun i hi=>h i (by simp [hi])]
    exact this _ fun i hi=>by simpa using hi
  rw [e,List.nodup_append]
  refine ⟨hA,?_,fun k hk k' hk'=>?_⟩
  · have:∀ n,n≤L.length→((List.range n).map g).Nodup:=fun n=>by
      induction n with
      | zero=>intro _;simp
      | succ n ih =>
        intro h
        rw [List.range_succ,List.map_append,List.nodup_append]
        refine ⟨ih (by omega),by simp,fun k hk k' hk'=>?_⟩
        obtain ⟨i,hi,rfl⟩:=List.mem_map.1 hk
        simp only [List.map_cons,List.map_nil,List.mem_singleton] at hk'
        subst hk'
        have hi':i<n:=by simpa using hi
        intro e
        have:=hg i n (by omega) (by omega) e
        omega
    exact this _ (Nat.le_refl _)
  · obtain ⟨i,hi,rfl⟩:=List.mem_map.1 hk'
    exact hd k hk i (by simpa using hi)
section
variable {K:Bool} {P:Program} {m:Nat} {f:FuncId} {nt:Nat} {R:D→List (Option (List C))→Prop}
end
structure Sl where
  a:Option Addr
  length:Nat
  cap:Nat
def Sl.c (x:Sl):C := .v (.slice x.a x.length x.cap)
attribute [go_sem] Sl.c
def kb (n : Nat) : C → Bool
  | .msl k _ _ _=>decide (k<n)
  | .ptr k _=>decide (k<n)
  | .clo _ _=>false
  | _=>true
def kbD (n : Nat) : D → Bool
  | .c c=>kb n c
  | .agg cs=>cs.all (kb n)
  | _=>false
theorem RC.cut {I:Nat→Prop} {w:World} {s s1:Sg} {n:Nat} (hs:∀ k,k<n→s1 k=s k) {x:Value} {c:C} (h:RC I w s x c) (hk:kb n c=true):RC I w s1 x c:=by
  cases h with
  | msl0 _ a k sz h=>exact .msl0 _ a k sz (by rw [hs k (by simpa [kb] using hk)];exact h)
  | msl _ k b sz off len cap arr T fr h hlen hb hcap=>exact .msl _ k b sz off len cap arr T fr (by rw [hs k (by simpa [kb] using hk)];exact h) hlen hb hcap
  | ptr _ k b off h=>exact .ptr _ k b off (by rw [hs k (by simpa [kb] using hk)];exact h)
  | clo _ f caps vs hl hr=>simp [kb] at hk
  | v _ x h1=>exact .v _ _ h1
  | unk _ x h1=>exact .unk _ _ h1
  | z _ a=>exact .z _ a
  | isl0 _ a cap sz=>exact .isl0 _ a cap sz
  | isl _ b off cap sz xs y hIb hl hc hr hcap=>exact .isl _ b off cap sz xs y hIb hl hc hr hcap
  | num _ k n=>exact .num _ k n
  | csl0 _ a cap sz y=>exact .csl0 _ a cap sz y
  | csl _ b off len cap sz xs y h hN=>exact .csl _ b off len cap sz xs y (h.isl_any _) hN
  | eptr _ b off cs y hIb hc hr=>exact .eptr _ b off cs y hIb hc hr
  | met _ f cs vs hl hr=>exact .met _ f cs vs hl hr
theorem RD.cut {I:Nat→Prop} {w:World} {s s1:Sg} {n:Nat} (hs:∀ k,k<n→s1 k=s k) {x:Value} {d:D} (h:RD I w s x d) (hk:kbD n d=true):RD I w s1 x d:=by
  cases h with
  | c _ c h=>exact .c _ _ (h.cut hs hk)
  | agg vs cs hl hr =>
    simp only [kbD,List.all_eq_true] at hk
    exact .agg vs cs hl fun j h1 h2=>(hr j h1 h2).cut hs (hk _ (List.getElem_mem h2))
  | _=>simp [kbD] at hk
end Go.CT
namespace Go.CT
open Go.RowKit
section
variable [Yn]
theorem shp_below {w w':World} (hb:Below w.heap.size w w'):Shp w w':=fun b arr T fr hbk=>⟨arr,by rw [hb.block b (lt_of_heap hbk)];exact hbk,rfl⟩
theorem DC.ofBelow {P : Program} {F : FuncId} {args : List D} {v : Value} (h1 : one v = true)
    (hc:∀ (I:Nat→Prop) (w:World) (s:Sg) (vs:Array Value),SimH I w s (hpL [])→RDs I w s vs args→Calls P F vs w fun e w'=>e = .returned v∧Below w.heap.size w w'):DC P F args [] (fun r h=>r = .c (.v v)∧h=[]):=fun I w s vs H hv=>by
  refine (hc I w s vs H hv).mono ?_
  rintro e w' ⟨rfl,hb⟩
  exact ⟨v,I,s,.c (.v v),[],rfl,⟨rfl,rfl⟩,.c _ _ (.v _ _ h1),⟨H.top,fun k cs hk=>by simp [hpL] at hk,fun k k' b cs cs' h=>by simp [hpL] at h,fun b hb'=>Nat.lt_of_lt_of_le (H.imm b hb') hb.size,
      H.yng.step hb.size (fun b hlt=>hb.block b (Nat.lt_of_lt_of_le hlt H.yng.1)) (fun b h => .inl h),H.wri.step (shp_below hb)⟩,
    ⟨hb.os,hb.tape,hb.output,hb.size,fun b hlt _=>hb.block b hlt,shp_below hb,fun _ _=>rfl,fun _ h=>h,fun _ h => .inl h,fun _ h => .inl h⟩,Nat.le_refl _⟩
end
abbrev ynAt (w:World):Yn:=⟨w.heap.size,fun b=>w.heap[b]?⟩
theorem DC.calls {P : Program} {F : FuncId} {args : List D} {v : Value} {w : World} {vs : Array Value} (hD : @DC (ynAt w) P F args [] (fun r h => r = .c (.v v) ∧ h = [])) (hv : ∀ s, @RDs (ynAt w) (fun b => b < w.heap.size) w s vs args) :
    Calls P F vs w fun e w'=>e = .returned v∧Below w.heap.size w w':=by
  letI:Yn:=ynAt w
  refine (hD (fun b=>b<w.heap.size) w (fun _=>none) vs ⟨fun _ _=>rfl,fun k cs hk=>by simp [hpL] at hk,fun k k' b cs cs' hk=>by simp [hpL] at hk,fun b hb=>hb,⟨Nat.le_refl _,fun b ⟨k,cs,hk,_⟩=>by simp [hpL] at hk,fun b _=>rfl⟩,fun b hb hn=>absurd hb (Nat.not_lt.2 hn)⟩ (hv _)).mono fun e w' ⟨x,I',s',d,h',he,⟨hd,_⟩,hrd,_,hE,_⟩=>?_
  subst hd
  cases hrd with
  | c _ _ hc=>cases hc with | v _ _ _=>exact ⟨he,hE.os,hE.tape,hE.output,hE.size,fun k hk=>hE.same k hk fun ⟨j,cs,hj,_⟩=>by simp [hpL] at hj⟩
theorem rds_ints {y:Yn} {I:Nat→Prop} {w:World} {s:Sg} (xs:List Int) : @RDs y I w s #[.agg ((xs.map (Value.int .i64)).toArray)] [.agg (xs.map fun n => .v (.int .i64 n))]:=by
  refine ⟨rfl,fun j h1 h2=>?_⟩
  have:j=0:=by simpa using h1
  subst this
  refine .agg _ _ (by simp) fun i g1 g2=>?_
  simp only [List.getElem_toArray,List.getElem_map]
  exact .v _ _ rfl
section
variable [Yn]
theorem DC.ofBelowD {P : Program} {F : FuncId} {args : List D} {R : D → Prop}
    (hc:∀ (I:Nat→Prop) (w:World) (s:Sg) (vs:Array Value),SimH I w s (hpL [])→RDs I w s vs args→Calls P F vs w fun e w'=>∃ v d,e = .returned v∧R d∧(∀ s,RD I w' s v d)∧Below w.heap.size w w'):DC P F args [] (fun r h=>R r∧h=[]):=fun I w s vs H hv=>by
  refine (hc I w s vs H hv).mono ?_
  rintro e w' ⟨v,d,rfl,hR,hd,hb⟩
  exact ⟨v,I,s,d,[],rfl,⟨hR,rfl⟩,hd s,⟨H.top,fun k cs hk=>by simp [hpL] at hk,fun k k' b cs cs' h=>by simp [hpL] at h,fun b hb'=>Nat.lt_of_lt_of_le (H.imm b hb') hb.size,
      H.yng.step hb.size (fun b hlt=>hb.block b (Nat.lt_of_lt_of_le hlt H.yng.1)) (fun b h => .inl h),H.wri.step (shp_below hb)⟩,
    ⟨hb.os,hb.tape,hb.output,hb.size,fun b hlt _=>hb.block b hlt,shp_below hb,fun _ _=>rfl,fun _ h=>h,fun _ h => .inl h,fun _ h => .inl h⟩,Nat.le_refl _⟩
theorem DC.ofBelowN {P : Program} {F : FuncId} {args : List D} {R : D → Prop}
    (hc:∀ (I:Nat→Prop) (w:World) (s:Sg) (vs:Array Value),SimH I w s (hpL [])→RDs I w s vs args→Calls P F vs w fun e w'=>∃ v d b arr T,e = .returned v∧R d∧w.heap.size≤b∧w'.heap[b]? = some (.cells arr T (0,0))∧(∀ s,RD (fun k=>I k∨k=b) w' s v d)∧Below w.heap.size w w'):DC P F args [] (fun r h=>R r∧h=[]):=fun I w s vs H hv=>by
  refine (hc I w s vs H hv).mono ?_
  rintro e w' ⟨v,d,b,arr,T,rfl,hR,hn,hbk,hd,hb⟩
  have hlt:b<w'.heap.size:=lt_of_heap hbk
  exact ⟨v,fun k=>I k∨k=b,s,d,[],rfl,⟨hR,rfl⟩,hd s,⟨H.top,fun k cs hk=>by simp [hpL] at hk,fun k k' b cs cs' h=>by simp [hpL] at h,fun k hk=>hk.elim (fun q=>Nat.lt_of_lt_of_le (H.imm k q) hb.size) (fun q=>q ▸ hlt),
      H.yng.step hb.size (fun b hlt=>hb.block b (Nat.lt_of_lt_of_le hlt H.yng.1)) (fun b h => .inl h),fun k hk hy=>hk.elim (fun q=>H.wri.step (shp_below hb) k q hy) (fun q=>q ▸ ⟨arr,T,hbk⟩)⟩,
    ⟨hb.os,hb.tape,hb.output,hb.size,fun b hlt _=>hb.block b hlt,shp_below hb,fun _ _=>rfl,fun _ h => .inl h,fun k h=>h.elim .inl (fun q => .inr (.inr (q ▸ hn))),fun _ h => .inl h⟩,Nat.le_refl _⟩
end
end Go.CT
