/- Small lemmas for a walk that reckons by itself. -/
import Derived.WalkKit
import Derived.ProofKit
import Derived.SizedLaws
import Derived.KernelRfl
import Derived.ChangeArms
import Derived.DataReads
import Derived.Test.YtoakidkcppinpaaGreatDAh
set_option linter.unusedVariables false
set_option linter.unusedSimpArgs false
set_option linter.unusedSectionVars false
set_option maxHeartbeats 16000000
set_option maxRecDepth 100000
namespace Go.CT
variable [Yn]
theorem RetOb.pure {R:D→List (Option (List C))→Prop} {d:D} {hp:Hp} (hR:R d []) (hd:DM (hpL []) some hp [] d d):RetOb 0 R d hp :=
  RetOb.of some [] d [] ⟨fun k cs h=>by simp [hpL] at h,fun k k' cs cs' j h=>by simp [hpL] at h,fun k h=>by omega⟩ hd hR (Nat.le_refl _)
mutual
theorem CM.kf {hT hS : Hp} {r : Nat → Option Nat} {fz : List Nat} : ∀ {c : C}, kf c = true → CM hT r hS fz c c
  | .v _,_=>by simp [CM]
  | .isl _ _,_=>by simp [CM]
  | .csl _ _ _,_=>by simp [CM]
  | .num _,_=>by simp [CM]
  | .z,_=>by simp [CM]
  | .unk,_=>by simp [CM]
  | .eptr _,_=>by simp [CM]
  | .met _ _,_=>by simp [CM]
  | .msl _ _ _ _,h=>by simp [Go.CT.kf] at h
  | .ptr _ _,h=>by simp [Go.CT.kf] at h
  | .clo _ _,h=>by simp [Go.CT.kf] at h
end
theorem CMs.kf {hT hS : Hp} {r : Nat → Option Nat} {fz : List Nat} : ∀ {cs : List C}, (∀ c ∈ cs, Go.CT.kf c = true) → CMs hT r hS fz cs cs
  | [],_=>by simp [CMs]
  | c :: r',h=>by simp only [CMs];exact ⟨CM.kf (h c (by simp)),CMs.kf fun c' hc'=>h c' (by simp [hc'])⟩
def kD : D → Prop
  | .c a=>kf a=true
  | .agg as=>∀ c ∈ as,kf c=true
  | _=>False
theorem DM.kD {hT hS:Hp} {r:Nat→Option Nat} {fz:List Nat} {d:D} (h:kD d):DM hT r hS fz d d:=by
  cases d with
  | c a=>simp only [DM];exact CM.kf h
  | agg as=>simp only [DM];exact CMs.kf h
  | _=>exact h.elim
theorem RetOb.plain {R:D→List (Option (List C))→Prop} {d:D} {hp:Hp} (hR:R d []) (hk:kD d):RetOb 0 R d hp := .pure hR (DM.kD hk)
theorem Mt.slots {fz:List Nat} {tl:List (Nat × D)} {S:Ms} (h:TmOK (hOf []) some S.hp fz S.tm tl):Mt 0 some fz tl [] S:=⟨h,trivial,trivial,by simp⟩
theorem TmOK.cons {hT:Hp} {r:Nat→Option Nat} {hS:Hp} {fz:List Nat} {tS:Nat→Option D} {n:Nat} {d:D} {l:List (Nat × D)} {d':D} (h:tS n=some d') (hd:DM hT r hS fz d d') (ht:TmOK hT r hS fz tS l):TmOK hT r hS fz tS ((n,d) :: l):=by
  simp only [TmOK,h];exact ⟨hd,ht⟩
theorem RetOb.frozen {R : D → List (Option (List C)) → Prop} {k sz n : Nat} {hp : Hp} {xs : List (List C)} (hR : R (.c (.isl sz xs)) []) (hk : hp k = some (some xs.flatten)) (hn : n = xs.length)
    (hl:∀ x ∈ xs,x.length=sz) (hkf:∀ x ∈ xs,∀ c ∈ x,kf c=true):RetOb 0 R (.c (.msl k sz 0 n)) hp :=
  RetOb.of (fun _ => none) [k] _ [] ⟨fun k cs h => by simp [hpL] at h, fun k k' cs cs' j h => by simp [hpL] at h, fun k h => by omega⟩
    (by simp only [DM,CM];exact ⟨⟨trivial,trivial,hn⟩,by simp,hk,hl,hkf⟩) hR (Nat.le_refl _)
theorem Mt.one {fz:List Nat} {tl:List (Nat × D)} {S:Ms} {k:Nat} {cs:List C} (h:TmOK (hOf [(k,some cs)]) some S.hp fz S.tm tl) (hk:k ∉ fz) (hb:S.hp k=some (some cs)) (hkf:∀ c ∈ cs,kf c=true):Mt 0 some fz tl [(k,some cs)] S:=by
  refine ⟨h,⟨?_,trivial⟩,trivial,by simp⟩
  simp only [hb]
  exact ⟨hk,CMs.kf hkf⟩
theorem flat1 {α:Type} (f:α→C) (xs:List α):(xs.map fun n=>[f n]).flatten=xs.map f:=by
  induction xs with
  | nil=>rfl
  | cons a r ih=>simp [ih]
theorem subH_one {r : Nat → Option Nat} {k : Nat} {cs : List C} {hp : Hp} (hr : r 0 = some k) (hb : hp k = some (some cs)) (hkf : ∀ c ∈ cs, kf c = true) : SubH 0 r [] (hpL [some cs]) hp where
  live j cs' hj:=by
    match j with
    | 0 =>
      simp only [hpL,List.getElem?_cons_zero,Option.some.injEq] at hj
      subst hj
      exact .inl ⟨k,cs,hr,by simp,hb,CMs.kf hkf⟩
    | j+1=>simp [hpL] at hj
  inj j j' cs1 cs2 b h1 h2 _ _:=by
    match j,j' with
    | 0,0=>rfl
    | 0,j' + 1=>simp [hpL] at h2
    | j+1,_=>simp [hpL] at h1
  low j hj:=by omega
theorem subH_one' {r : Nat → Option Nat} {cs : List C} {hp : Hp} (hr : r 0 = some 0) (hb : hp 0 = some (some cs)) (hkf : ∀ c ∈ cs, kf c = true) (_ : True) : SubH 1 r [] (hpL [some cs]) hp where
  live:=(subH_one hr hb hkf).live
  inj:=(subH_one hr hb hkf).inj
  low j hj:=by
    have:j=0:=by omega
    subst this
    exact ⟨hr,by simp [hpL]⟩
theorem updM {α:Type} (f:Nat→α) (n:Nat) (x:α) (k:Nat):upd f n x k=(match Nat.beq k n with | true=>x | false=>f k):=by
  unfold upd
  by_cases h:k=n
  · subst h;simp
  · have:Nat.beq k n=false:=by
      cases hb:Nat.beq k n with
      | false=>rfl
      | true=>exact absurd (Nat.eq_of_beq_eq_true hb) h
    rw [if_neg h,this]
theorem setT_some (tm:Nat→Option D) (n:Nat) (d:Option D):setT tm (some n) d=upd tm n d:=rfl
theorem setT_none (tm:Nat→Option D) (d:Option D):setT tm none d=tm:=rfl
theorem hhp_one {hp:Hp} {r:Nat→Nat} {k:Nat} {x:Option (List C)} (h:hp k=some (x.map (renCs r))):∀ i' y,[x][i']? = some y→hp ([k].getD i' 0)=some (y.map (renCs r)):=by
  intro i' y hy
  match i' with
  | 0=>simp only [List.getElem?_cons_zero,Option.some.injEq] at hy;subst hy;exact h
  | i' + 1=>simp at hy
theorem RetOb.keep1 {R:D→List (Option (List C))→Prop} {d:D} {cs:List C} {hp:Hp} (hR:R d [some cs]) (hb:hp 0=some (some cs)) (hkf:∀ c ∈ cs,kf c=true) (hd:kD d):RetOb 1 R d hp :=
  RetOb.of (fun k=>if k=0 then some 0 else none) [] d [some cs] (subH_one' rfl hb hkf trivial) (DM.kD hd) hR (Nat.le_refl _)
theorem beq_tt (b:Bool):(b == true)=b:=by cases b<;>rfl
theorem beq_ff (b:Bool):(b == false) = !b:=by cases b<;>rfl
theorem mx_eq:mx=281474976710656:=rfl
def okB (tm : Nat → Option D) : List Operand → Bool
  | []=>true
  | x :: r=>(match evT tm x with | some d=>peelB d | none=>true) && okB tm r
theorem okP_of {tm : Nat → Option D} : ∀ {l : List Operand}, okB tm l = true → okP tm l
  | [],_=>trivial
  | x :: r,h=>by
    simp only [okB,Bool.and_eq_true] at h
    refine ⟨?_,okP_of h.2⟩
    cases hx:evT tm x with
    | none=>trivial
    | some d=>rw [hx] at h;exact h.1
def getCall (o:Oper):Call:=match o.op with | .call c=>c | _=>{ callee := .builtin .len,args:=#[],argTypes:=#[] }
section
variable {K:Bool} {P:Program} {m:Nat} {f:FuncId} {nt:Nat} {R:D→List (Option (List C))→Prop}
theorem XK.plain {all : Array Oper} {dr : Bool} {i : Nat} {o : Oper} {rest : List Oper} {lg : Lg} {nx0 : Nat} {k : List Item} {S : Ms} {F : FuncId} {args : List D} {d0 : D}
    (hD:DC P F args [] (fun d h'=>d=d0∧h'=[])) (hfn:fnOK P F=true)
    (next:XK K P m f nt R (some ⟨all,dr,i+1,rest,upd lg i (some ([],[])),nx0⟩) k ⟨setT S.tm o.dst (some d0),S.hp,S.nx⟩)
    (hb:∀ j,j<64→S.hp (wkey nx0 i+j)=none:=by first | (intro j hj;rfl) | (intro j hj;simp only [upd,wkey,hpL,hOf,List.getElem?_nil];(repeat' split)<;>first | (exfalso;omega) | rfl | (apply List.getElem?_eq_none;simp only [List.length_cons,List.length_nil];omega))) (hdr:dr=true→lgok nx0 all lg i [] []=true:=by intro h;cases h)
    (hren:renD (rkey [] (wkey nx0 i)) d0=d0:=by rfl) (hm:m≤wkey nx0 i:=by first | exact Nat.zero_le _ | (simp only [wkey];decide))
    (hop:o.op = .call (getCall o):=by rfl) (hg:o.guard=none:=by rfl) (hc:calleeOf S.tm (getCall o)=some (F,args.map (renD (rk0 [] (wkey nx0 i)))):=by rfl) (hok:okB S.tm (getCall o).operands.toList=true:=by rfl)
    (hf:fitsT nt o.dst=true:=by rfl) :
    XK K P m f nt R (some ⟨all,dr,i,o :: rest,lg,nx0⟩) k S :=
  XK.pure hD (getCall o) hop hg hc (okP_of hok) hfn hm hb hf hdr (by rw [hren];exact next)
theorem XK.freeze {all : Array Oper} {i : Nat} {rest : List Oper} {lg : Lg} {nx0 : Nat} {kk : List Item} {S : Ms} (t k sz n : Nat) (xs : List (List C))
    (h:XK K P m f nt R (some ⟨all,false,i,rest,lg,nx0⟩) kk ⟨upd S.tm t (some (.c (.isl sz xs))),upd S.hp k (some none),S.nx⟩) (hk:S.hp k=some (some xs.flatten)) (ht:S.tm t=some (.c (.msl k sz 0 n)):=by rfl) (hn:n=xs.length:=by rfl)
    (hl:∀ x ∈ xs,x.length=sz:=by simp) (hkf:∀ x ∈ xs,∀ c ∈ x,kf c=true:=by simp [kf]):XK K P m f nt R (some ⟨all,false,i,rest,lg,nx0⟩) kk S :=
  XK.sub (S':=⟨upd S.tm t (some (.c (.isl sz xs))),upd S.hp k (some none),S.nx⟩) (lg':=lg) (Sub.freeze t k sz n xs ht hk hn hl hkf) h
theorem XK.callG {all : Array Oper} {dr : Bool} {i : Nat} {o : Oper} {rest : List Oper} {lg : Lg} {nx0 : Nat} {k : List Item} {S : Ms} {F : FuncId} {args : List D} {h : List (Option (List C))} {R' : D → List (Option (List C)) → Prop}
    (ks:List Nat) (hD:DC P F args h R') (hfn:fnOK P F=true)
    (hhp:∀ i' x,h[i']? = some x→S.hp (ks.getD i' 0)=some (x.map (renCs (rk0 ks (wkey nx0 i))))) (hb:∀ j,j<64→S.hp (wkey nx0 i+j)=none) (hlen:∀ d h',R' d h'→h'.length≤h.length+64)
    (next:∀ d h',R' d h'→h.length≤h'.length→XK K P m f nt R (some ⟨all,dr,i+1,rest,upd lg i (some (ks,ks)),nx0⟩) k ⟨setT S.tm o.dst (some (renD (rkey ks (wkey nx0 i)) d)),appUp S.hp (upsFrom (rkey ks (wkey nx0 i)) 0 h'),S.nx⟩)
    (hdr:dr=true→lgok nx0 all lg i ks ks=true∧∃ d h',R' d h'∧h.length≤h'.length:=by intro h;cases h)
    (hm:m≤wkey nx0 i:=by first | exact Nat.zero_le _ | (simp only [wkey];decide))
    (hop:o.op = .call (getCall o):=by rfl) (hg:o.guard=none:=by rfl) (hc:calleeOf S.tm (getCall o)=some (F,args.map (renD (rk0 ks (wkey nx0 i)))):=by rfl) (hok:okB S.tm (getCall o).operands.toList=true:=by rfl)
    (hks:ks.length=h.length:=by rfl) (hnd:ks.Nodup:=by decide) (hf:fitsT nt o.dst=true:=by rfl) :
    XK K P m f nt R (some ⟨all,dr,i,o :: rest,lg,nx0⟩) k S :=
  XK.call hD ks (getCall o) hop (.inl hg) hc (okP_of hok) hfn hks hnd hhp hm hb hlen hf hdr next
theorem XK.gplain {all : Array Oper} {dr : Bool} {i : Nat} {o : Oper} {rest : List Oper} {lg : Lg} {nx0 : Nat} {k : List Item} {S : Ms} {F : FuncId} {args : List D} {d0 : D} (g : Nat) (b x : Bool)
    (hD:x=true→DC P F args [] (fun d h'=>d=d0∧h'=[])) (hfn:fnOK P F=true)
    (next:XK K P m f nt R (some ⟨all,dr,i+1,rest,upd lg i (some ([],[])),nx0⟩) k ⟨setT S.tm o.dst (some (.when x d0)),S.hp,S.nx⟩)
    (hb:∀ j,j<64→S.hp (wkey nx0 i+j)=none:=by first | (intro j hj;rfl) | (intro j hj;simp only [upd,wkey,hpL,hOf,List.getElem?_nil];(repeat' split)<;>first | (exfalso;omega) | rfl | (apply List.getElem?_eq_none;simp only [List.length_cons,List.length_nil];omega))) (hdr:dr=true→lgok nx0 all lg i [] []=true:=by intro h;cases h)
    (hx:guardB all S.tm g b=some x:=by simp [guardB,evT,upd,peelB,peelD,DB,DI])
    (hok:x=true→okP S.tm (getCall o).operands.toList:=by intro hx;simp [okP,getCall,Call.operands,evT,upd,peelB,DB,DI,cst,one] at hx ⊢;first | done | exact hx | (simp_all;done) | omega)
    (hc:calleeOf S.tm (getCall o)=some (F,args.map (renD (rk0 [] (wkey nx0 i)))):=by rfl)
    (hren:renD (rkey [] (wkey nx0 i)) d0=d0:=by rfl) (hm:m≤wkey nx0 i:=by first | exact Nat.zero_le _ | (simp only [wkey];decide))
    (hop:o.op = .call (getCall o):=by rfl) (hcf:∃ f,(getCall o).callee = .value f:=by exact ⟨_,rfl⟩) (hg:o.guard=some (g,b):=by rfl)
    (hf:fitsT nt o.dst=true:=by rfl) :
    XK K P m f nt R (some ⟨all,dr,i,o :: rest,lg,nx0⟩) k S :=
  XK.gpure g b x (getCall o) hg hx hop hcf (fun e=>⟨F,args,hc,hok e,hfn,hD e,hren⟩) hm hb hf hdr next
theorem XK.callT {all : Array Oper} {dr : Bool} {i : Nat} {o : Oper} {rest : List Oper} {lg : Lg} {nx0 : Nat} {k : List Item} {S : Ms} {F : FuncId} {args : List D} {h : List (Option (List C))} {R' : D → List (Option (List C)) → Prop}
    (g:Nat) (b:Bool) (ks:List Nat) (hD:DC P F args h R') (hfn:fnOK P F=true)
    (hhp:∀ i' x,h[i']? = some x→S.hp (ks.getD i' 0)=some (x.map (renCs (rk0 ks (wkey nx0 i))))) (hb:∀ j,j<64→S.hp (wkey nx0 i+j)=none) (hlen:∀ d h',R' d h'→h'.length≤h.length+64)
    (next:∀ d h',R' d h'→h.length≤h'.length→XK K P m f nt R (some ⟨all,dr,i+1,rest,upd lg i (some (ks,ks)),nx0⟩) k ⟨setT S.tm o.dst (some (renD (rkey ks (wkey nx0 i)) d)),appUp S.hp (upsFrom (rkey ks (wkey nx0 i)) 0 h'),S.nx⟩)
    (hdr:dr=true→lgok nx0 all lg i ks ks=true∧∃ d h',R' d h'∧h.length≤h'.length:=by intro h;cases h)
    (hx:guardB all S.tm g b=some true:=by first | rfl | simp_all [guardB,evT,upd,peelB,peelD,DB,DI])
    (hok:okP S.tm (getCall o).operands.toList:=by first | exact okP_of rfl | simp_all [okP,getCall,Call.operands,evT,upd,peelB,DB,DI,cst,one])
    (hm:m≤wkey nx0 i:=by first | exact Nat.zero_le _ | (simp only [wkey];decide))
    (hop:o.op = .call (getCall o):=by rfl) (hg:o.guard=some (g,b):=by rfl) (hc:calleeOf S.tm (getCall o)=some (F,args.map (renD (rk0 ks (wkey nx0 i)))):=by rfl)
    (hks:ks.length=h.length:=by rfl) (hnd:ks.Nodup:=by decide) (hf:fitsT nt o.dst=true:=by rfl) :
    XK K P m f nt R (some ⟨all,dr,i,o :: rest,lg,nx0⟩) k S :=
  XK.call hD ks (getCall o) hop (.inr ⟨g,b,hg,hx⟩) hc hok hfn hks hnd hhp hm hb hlen hf hdr next
theorem XK.gskip {all : Array Oper} {dr : Bool} {i : Nat} {o : Oper} {rest : List Oper} {lg : Lg} {nx0 : Nat} {k : List Item} {S : Ms} (g : Nat) (b : Bool) (d0 : D)
    (next:XK K P m f nt R (some ⟨all,dr,i+1,rest,upd lg i (some ([],[])),nx0⟩) k ⟨setT S.tm o.dst (some (.when false d0)),S.hp,S.nx⟩)
    (hb:∀ j,j<64→S.hp (wkey nx0 i+j)=none:=by first | (intro j hj;rfl) | (intro j hj;simp only [upd,wkey,hpL,hOf,List.getElem?_nil];(repeat' split)<;>first | (exfalso;omega) | rfl | (apply List.getElem?_eq_none;simp only [List.length_cons,List.length_nil];omega))) (hdr:dr=true→lgok nx0 all lg i [] []=true:=by intro h;cases h)
    (hx:guardB all S.tm g b=some false:=by first | rfl | simp [guardB,evT,upd,peelB,peelD,DB,DI])
    (hm:m≤wkey nx0 i:=by first | exact Nat.zero_le _ | (simp only [wkey];decide))
    (hop:o.op = .call (getCall o):=by rfl) (hcf:∃ f,(getCall o).callee = .value f:=by exact ⟨_,rfl⟩) (hg:o.guard=some (g,b):=by rfl)
    (hf:fitsT nt o.dst=true:=by rfl) :
    XK K P m f nt R (some ⟨all,dr,i,o :: rest,lg,nx0⟩) k S :=
  XK.gpure g b false (getCall o) hg hx hop hcf (fun e=>by cases e) hm hb hf hdr next
end
open Go.RowKit
def ints (xs:List Int):D := .c (.isl 1 (xs.map fun n=>[.v (.int .i64 n)]))
def bytesD (xs:List Int):D := .c (.isl 1 (xs.map fun n=>[.v (.int .u8 n)]))
def intsK (k:IntKind) (xs:List Int):D := .c (.isl 1 (xs.map fun n=>[.v (.int k n)]))
def Fits (k:IntKind) (xs:List Int):Prop:=∀ n ∈ xs,InK k n
def IsRow (k:IntKind) (w:World) (a:Option Addr) (len cap:Nat) (zs:List Int):Prop :=
  (a=none∧len=0∧cap=0∧zs=[]) ∨
  ∃ x,a=some x∧len≤cap∧zs.length=cap∧(∀ i,i<zs.length→w.cell? (x.add i)=some (.int k (zs.getD i 0)))∧∀ n ∈ zs,(Lit.int k n).wf=true
theorem fits_of_wf {k:IntKind} {n:Int} (h:(Lit.int k n).wf=true):InK k n:=by
  simp only [Lit.wf,Bool.and_eq_true,decide_eq_true_eq] at h
  obtain ⟨h1,h2⟩:=h
  cases k<;>simp [IntKind.min,IntKind.max,IntKind.signed,IntKind.bits] at h1 h2<;>simp only [InK]<;>omega
theorem IsRow.rd {k : IntKind} {w : World} {s : Sg} {a : Option Addr} {len cap : Nat} {zs : List Int} (h : IsRow k w a len cap zs) (hm : len ≤ mx) :
    RD (fun b=>b<w.heap.size) w s (.slice a len cap) (intsK k (zs.take len))∧Fits k (zs.take len)∧(zs.take len).length=len:=by
  rcases h with ⟨rfl,rfl,rfl,rfl⟩ | ⟨x,rfl,hl,hz,hc,hwf⟩
  · exact ⟨.c _ _ (.isl0 _ _ _ _),by simp [Fits],rfl⟩
  · have hlen:(zs.take len).length=len:=by rw [List.length_take];omega
    refine ⟨?_,fun n hn=>fits_of_wf (hwf n (List.mem_of_mem_take hn)),hlen⟩
    rcases Nat.eq_zero_or_pos len with h0 | hpos
    · subst h0
      simp only [intsK,List.take_zero,List.map_nil]
      exact .c _ _ (.isl0 _ _ _ _)
    · obtain ⟨b,off,spot⟩:=x
      have hspot:spot=none:=by simpa [Addr.add] using World.cell?_spot (hc 0 (by omega))
      subst hspot
      have hb:b<w.heap.size:=by
        have:=hc 0 (by omega)
        simp only [Addr.add,if_true,World.cell?] at this
        split at this
        · rename_i h;exact lt_of_heap h
        · cases this
      have hcell:∀ i,i<zs.length→w.cell? ⟨b,off+i,none⟩=some (.int k (zs.getD i 0)):=fun i hi=>by
        have:=hc i hi
        rwa [add_plain] at this
      have := RC.isl (I := fun b => b < w.heap.size) (w := w) s b off cap 1 ((zs.take len).map fun n => [.v (.int k n)]) (fun i _ => .int k (zs.getD i 0)) hb (by simp)
        (fun i j hi hj=>by
          have:j=0:=by omega
          subst this
          simp only [List.length_map,hlen] at hi
          simpa using hcell i (by omega))
        (fun i hi j hj=>by
          simp only [List.length_map,hlen] at hi
          have:j=0:=by simpa using hj
          subst this
          have e:zs.getD i 0=zs[i]'(by omega):=by simp [List.getD,List.getElem?_eq_getElem (show i<zs.length by omega)]
          simp only [List.getElem_map,List.getElem_cons_zero,List.getElem_take,e]
          exact .v _ _ rfl)
        (by simp only [List.length_map,hlen];exact ⟨hl,hm⟩)
      simp only [List.length_map,hlen] at this
      exact .c _ _ this
theorem DC.below {P : Program} {F : FuncId} {args : List D} {w : World} {vs : Array Value} (h : DC P F args [] (fun d h' => d = DB true ∧ h' = [])) (hvs : ∀ s, RDs (fun b => b < w.heap.size) w s vs args) (h0 : Yn.n = w.heap.size := by rfl) :
    Calls P F vs w fun e w'=>e = .returned (.bool true)∧Below w.heap.size w w':=by
  refine (h (fun b=>b<w.heap.size) w (fun _=>none) vs ⟨fun _ _=>rfl,fun k cs hk=>by simp [hpL] at hk,fun k k' b cs cs' hk=>by simp [hpL] at hk,fun b hb=>hb,⟨by omega,fun b ⟨k,cs,hk,_⟩=>by simp [hpL] at hk⟩,fun b hb hn=>absurd hb (by omega)⟩ (hvs _)).mono fun e w' ⟨v,I',s',d,h',he,⟨hd,_⟩,hrd,_,hE,_⟩=>?_
  subst hd
  obtain ⟨rfl,_⟩:=rd_scalar hrd
  exact ⟨he,hE.os,hE.tape,hE.output,hE.size,fun k hk=>hE.same k hk fun ⟨j,cs,hj,_⟩=>by simp [hpL] at hj⟩
theorem RDs.one {I:Nat→Prop} {w:World} {s:Sg} {v:Value} {d:D} (h:RD I w s v d):RDs I w s #[v] [d] :=
  ⟨rfl, fun j hj _ => by have : j = 0 := by simpa using hj
                         subst this;exact h⟩
theorem RDs.two {I:Nat→Prop} {w:World} {s:Sg} {v v':Value} {d d':D} (h:RD I w s v d) (h':RD I w s v' d'):RDs I w s #[v,v'] [d,d'] :=
  ⟨rfl,fun j hj _=>by
    match j,hj with
    | 0,_=>exact h
    | 1,_=>exact h'⟩
theorem RDs.three {I:Nat→Prop} {w:World} {s:Sg} {v v' v'':Value} {d d' d'':D} (h:RD I w s v d) (h':RD I w s v' d') (h'':RD I w s v'' d''):RDs I w s #[v,v',v''] [d,d',d''] :=
  ⟨rfl,fun j hj _=>by
    match j,hj with
    | 0,_=>exact h
    | 1,_=>exact h'
    | 2,_=>exact h''⟩
inductive Ex where
  | mk (kind value:Int) (kids:List Ex)
inductive St1 where
  | mk (kind target:Int) (index value:Ex) (count:Int) (body els:List St1)
namespace Ex
def kind:Ex→Int | mk k _ _=>k
def value:Ex→Int | mk _ v _=>v
def kids:Ex→List Ex | mk _ _ ks=>ks
end Ex
namespace St1
def kind:St1→Int | mk k _ _ _ _ _ _=>k
def target:St1→Int | mk _ t _ _ _ _ _=>t
def index:St1→Ex | mk _ _ i _ _ _ _=>i
def value:St1→Ex | mk _ _ _ v _ _ _=>v
def count:St1→Int | mk _ _ _ _ c _ _=>c
def body:St1→List St1 | mk _ _ _ _ _ b _=>b
def els:St1→List St1 | mk _ _ _ _ _ _ e=>e
end St1
structure Pg where
  vars:List Int
  arrays:List Int
  body:List St1
structure Mm where
  vals:List Int
  arrays:List (List Int)
structure Ev where
  kind:Int
  value:Int
abbrev I64 (n:Int):C := .v (.int .i64 n)
def isI (xs:List Int):C := .isl 1 (xs.map fun n=>[I64 n])
mutual
def Ex.cells : Ex → List C
  | .mk k v ks=>[I64 k,I64 v,.isl 3 (Ex.cellsL ks)]
def Ex.cellsL : List Ex → List (List C)
  | []=>[]
  | e :: r=>Ex.cells e :: Ex.cellsL r
end
mutual
def St1.cells : St1 → List C
  | .mk k t i v c b e=>[I64 k,I64 t]++i.cells++v.cells++[I64 c,.isl 11 (St1.cellsL b),.isl 11 (St1.cellsL e)]
def St1.cellsL : List St1 → List (List C)
  | []=>[]
  | s :: r=>St1.cells s :: St1.cellsL r
end
def Pg.cells (p:Pg):List C:=[isI p.vars,isI p.arrays,.isl 11 (St1.cellsL p.body)]
def Mm.cells (m:Mm):List C:=[isI m.vals,.isl 1 (m.arrays.map fun a=>[isI a])]
def Ev.cells (e:Ev):List C:=[I64 e.kind,I64 e.value]
theorem Ex.cellsL_eq : ∀ l : List Ex, Ex.cellsL l = l.map Ex.cells
  | []=>rfl
  | e :: r=>by simp [Ex.cellsL,Ex.cellsL_eq r]
theorem St1.cellsL_eq : ∀ l : List St1, St1.cellsL l = l.map St1.cells
  | []=>rfl
  | e :: r=>by simp [St1.cellsL,St1.cellsL_eq r]
theorem Ex.cellsL_length (l:List Ex):(Ex.cellsL l).length=l.length:=by rw [Ex.cellsL_eq,List.length_map]
theorem Ex.cellsL_get (l:List Ex) (i:Nat):(Ex.cellsL l)[i]? = l[i]?.map Ex.cells:=by rw [Ex.cellsL_eq,List.getElem?_map]
theorem St1.cellsL_length (l:List St1):(St1.cellsL l).length=l.length:=by rw [St1.cellsL_eq,List.length_map]
theorem St1.cellsL_get (l:List St1) (i:Nat):(St1.cellsL l)[i]? = l[i]?.map St1.cells:=by rw [St1.cellsL_eq,List.getElem?_map]
theorem Ex.cells_len (e:Ex):e.cells.length=3:=by cases e;simp [Ex.cells]
theorem St1.cells_len (s:St1):s.cells.length=11:=by cases s;simp [St1.cells,Ex.cells_len]
end Go.CT
namespace Go.CT
variable [Yn]
def Mq (m:Nat) (r:Nat→Option Nat) (fz:List Nat) (tl:List (Nat × D)) (hl:List (Nat × Option (List C))) (S:Ms):Prop :=
  TmOK (hOf hl) r S.hp fz S.tm tl∧HpOK (hOf hl) r S.hp fz hl∧LowOK r (hOf hl) m∧((hl.filterMap fun p=>p.2.map fun _=>p.1).filterMap r).Nodup
section
variable {K:Bool} {P:Program} {m:Nat} {f:FuncId} {nt:Nat} {R:D→List (Option (List C))→Prop}
theorem live_mem {hl:List (Nat × Option (List C))} {k:Nat} {cs:List C} (h:(k,some cs) ∈ hl):k ∈ hl.filterMap fun p=>p.2.map fun _=>p.1 :=
  List.mem_filterMap.2 ⟨_,h,rfl⟩
theorem Mq.subH {r : Nat → Option Nat} {fz : List Nat} {tl : List (Nat × D)} {hl : List (Nat × Option (List C))} {S : Ms} (h : Mq m r fz tl hl S) : SubH m r fz (hOf hl) S.hp where
  live:=fun k cs hk=>HpOK.at h.2.1 k cs (hOf_mem hk)
  inj:=fun k k' cs cs' j h1 h2 h3 h4=>filterMap_inj h.2.2.2 k k' j (live_mem (hOf_mem h1)) (live_mem (hOf_mem h2)) h3 h4
  low:=h.2.2.1.at
theorem Mq.sub {r:Nat→Option Nat} {fz:List Nat} {tl:List (Nat × D)} {hl:List (Nat × Option (List C))} {S:Ms} (h:Mq m r fz tl hl S) (lg lg':Lg):Sub m nt ⟨S.tm,S.hp,lg⟩ ⟨tOf tl,hOf hl,lg'⟩:=fun I w s a hR=>by
  obtain ⟨H',E'⟩:=h.subH.sim hR.H
  exact ⟨_,_,⟨H',fun n d hd=>by
    obtain ⟨d',h1,h2⟩:=h.1.at n d hd
    exact DM.rd hR.H d d' h2 (hR.tm n d' h1),hR.df,hR.sz⟩,E'⟩
theorem XK.subQ {all : Array Oper} {i : Nat} {rest : List Oper} {lg : Lg} {nx0 : Nat} {k : List Item} {S : Ms} {r : Nat → Option Nat} {fz : List Nat} {tl : List (Nat × D)} {hl : List (Nat × Option (List C))} (h : Mq m r fz tl hl S)
    (hn:XK K P m f nt R (some ⟨all,false,i,rest,lg,nx0⟩) k ⟨tOf tl,hOf hl,S.nx⟩):XK K P m f nt R (some ⟨all,false,i,rest,lg,nx0⟩) k S :=
  XK.sub (S':=⟨tOf tl,hOf hl,S.nx⟩) (lg':=lg) (h.sub lg lg) hn
theorem Go.subQ {r:Nat→Option Nat} {fz:List Nat} {tl:List (Nat × D)} {hl:List (Nat × Option (List C))} {S:Ms} {k:List Item} (nx:Nat) (h:Mq m r fz tl hl S) (hg:Go K P m f nt R k ⟨tOf tl,hOf hl,nx⟩):Go K P m f nt R k S:=fun I w s a hR cs=>by
  obtain ⟨H',E'⟩:=h.subH.sim hR.H
  have hR':Rc (subI fz S.hp s I) w (subS r (hOf hl) s) a (tOf tl) (hOf hl) nt:=⟨H',fun n d hd=>by
    obtain ⟨d',h1,h2⟩:=h.1.at n d hd
    exact DM.rd hR.H d d' h2 (hR.tm n d' h1),hR.df,hR.sz⟩
  obtain ⟨v,w',fr,I',s',d,h',g1,g2,g3,g4,g5,g6,g7⟩:=hg _ w _ a hR' cs
  exact ⟨v,w',fr,I',s',d,h',g1,g2,g3,E'.transG hR.H g4,g5,g6,g7⟩
theorem Go.loopQ {X : Type} {c : Code} {k : List Item} (tl : X → List (Nat × D)) (hl : X → List (Nat × Option (List C))) (nx : Nat) (Inv : X → Prop) (μ : X → Nat)
    (round:∀ x,Inv x→(∀ x' r fz S',Inv x'→μ x' < μ x→Mq m r fz (tl x') (hl x') S'→Go K P m f nt R (.inLoop c :: k) S')→Go K P m f nt R (.code c :: .inLoop c :: k) ⟨tOf (tl x),hOf (hl x),nx⟩) :
    ∀ x r fz S,Inv x→Mq m r fz (tl x) (hl x) S→Go K P m f nt R (.code (.loop c) :: k) S:=by
  intro x r fz S hI hM
  refine Go.loop (Go.subQ nx hM ?_)
  exact round x hI fun x' r' fz' S' hi' hlt hm'=>Go.rounds (P:=P) (m:=m) (f:=f) (nt:=nt) (R:=R) (c:=c) (k:=k) (fun x S=>Inv x∧∃ r fz,Mq m r fz (tl x) (hl x) S) μ (fun x S ⟨hi,r,fz,hm⟩ ih =>
    Go.subQ nx hm (round x hi fun x' r' fz' S' hi' hlt hm'=>ih x' S' hlt ⟨hi',r',fz',hm'⟩)) x' S' ⟨hi',r',fz',hm'⟩
end
def enumL : Nat → List (Option (List C)) → List (Nat × Option (List C))
  | _,[]=>[]
  | i,x :: r=>(i,x) :: enumL (i+1) r
theorem hOf_enumL : ∀ (h : List (Option (List C))) (i k : Nat), hOf (enumL i h) k = if i ≤ k then h[k - i]? else none
  | [],i,k=>by simp [enumL,hOf]
  | x :: r,i,k=>by
    simp only [enumL,hOf,upd]
    by_cases e:k=i
    · subst e;simp
    · rw [if_neg e,hOf_enumL r (i+1) k]
      by_cases h2:i≤k
      · rw [if_pos h2,if_pos (by omega),show k - i=(k - (i+1))+1 from by omega,List.getElem?_cons_succ]
      · rw [if_neg h2,if_neg (by omega)]
theorem hpL_enum (h:List (Option (List C))):hOf (enumL 0 h)=hpL h:=funext fun k=>by rw [hOf_enumL];simp [hpL]
theorem RetOb.ofQ {m : Nat} {R : D → List (Option (List C)) → Prop} {d : D} {hp : Hp} (r : Nat → Option Nat) (fz : List Nat) (d' : D) (h' : List (Option (List C)))
    (hM:DM (hOf (enumL 0 h')) r hp fz d' d∧HpOK (hOf (enumL 0 h')) r hp fz (enumL 0 h')∧LowOK r (hOf (enumL 0 h')) m∧(((enumL 0 h').filterMap fun p=>p.2.map fun _=>p.1).filterMap r).Nodup) (hR:R d' h') (hm:m≤h'.length):RetOb m R d hp:=by
  have h:Mq m r fz [] (enumL 0 h') ⟨fun _=>none,hp,0⟩:=⟨trivial,hM.2.1,hM.2.2.1,hM.2.2.2⟩
  exact RetOb.of r fz d' h' (hpL_enum h' ▸ h.subH) (hpL_enum h' ▸ hM.1) hR hm
section
variable {P:Program}
theorem DC.nilOwn {F : FuncId} {args args' : List D} {h : List (Option (List C))} {R : D → List (Option (List C)) → Prop}
    (hargs:∀ I w s vs,s h.length=none→RDs I w s vs args'→RDs I w (upd s h.length (some none)) vs args) (hD:DC P F args (h++[some []]) R):DC P F args' h R:=fun I w s vs H hv=>by
  have hs:s h.length=none:=H.top _ (by simp [hpL])
  have hpe:∀ k,k ≠ h.length→hpL (h++[some []]) k=hpL h k:=fun k hk=>by
    simp only [hpL]
    rcases Nat.lt_or_ge k h.length with h1 | h1
    · rw [List.getElem?_append_left h1]
    · rw [List.getElem?_eq_none (by simp;omega),List.getElem?_eq_none h1]
  have hpl:hpL (h++[some []]) h.length=some (some []):=by simp [hpL]
  have hle:s.le (upd s h.length (some none)):=fun k x e=>by
    by_cases hk:k=h.length
    · subst hk;rw [hs] at e;cases e
    · rw [upd_ne _ _ hk];exact e
  have hlive:∀ b,Live (upd s h.length (some none)) (hpL (h++[some []])) b→Live s (hpL h) b:=by
    rintro b ⟨k,cs,h1,h2⟩
    by_cases hk:k=h.length
    · subst hk;rw [upd_same] at h2;cases h2
    · rw [upd_ne _ _ hk] at h2
      rw [hpe k hk] at h1
      exact ⟨k,cs,h1,h2⟩
  have hlive':∀ b,Live s (hpL h) b→Live (upd s h.length (some none)) (hpL (h++[some []])) b:=by
    rintro b ⟨k,cs,h1,h2⟩
    have hk:k ≠ h.length:=by rintro rfl;rw [hs] at h2;cases h2
    exact ⟨k,cs,by rw [hpe k hk];exact h1,by rw [upd_ne _ _ hk];exact h2⟩
  have H':SimH I w (upd s h.length (some none)) (hpL (h++[some []])):=by
    refine ⟨fun k hk=>?_,fun k cs hk=>?_,fun k k' b cs cs' h1 h2 h3 h4=>?_,H.imm,H.yng.step (Nat.le_refl _) fun b h => .inl (hlive b h),H.wri⟩
    · have hne:k ≠ h.length:=by rintro rfl;rw [hpl] at hk;cases hk
      rw [upd_ne _ _ hne]
      exact H.top k (by rw [← hpe k hne];exact hk)
    · by_cases hne:k=h.length
      · subst hne
        rw [hpl] at hk
        simp only [Option.some.injEq] at hk
        exact .inl ⟨upd_same _ _ _,hk.symm⟩
      · rw [hpe k hne] at hk
        rw [upd_ne _ _ hne]
        rcases H.blk k cs hk with h1 | ⟨b,arr,T,h1,h2,h3,h4,h5⟩
        · exact .inl h1
        · exact .inr ⟨b,arr,T,h1,h2,h3,h4,fun j hj=>by
            obtain ⟨y,hy,hr⟩:=h5 j hj
            exact ⟨y,hy,hr.mono (fun _ h=>h) (fun _ _=>rfl) (Shp.refl w) hle⟩⟩
    · have hk:k ≠ h.length:=by rintro rfl;rw [upd_same] at h3;cases h3
      have hk':k' ≠ h.length:=by rintro rfl;rw [upd_same] at h4;cases h4
      rw [hpe k hk] at h1
      rw [hpe k' hk'] at h2
      rw [upd_ne _ _ hk] at h3
      rw [upd_ne _ _ hk'] at h4
      exact H.inj k k' b cs cs' h1 h2 h3 h4
  refine (hD I w _ vs H' (hargs I w s vs hs hv)).mono ?_
  rintro e w' ⟨v,I',s'',d,h',rfl,hR,hrd,hH,hE,hl⟩
  simp only [List.length_append,List.length_cons,List.length_nil] at hE hl
  refine ⟨v,I',s'',d,h',rfl,hR,hrd,hH,⟨hE.os,hE.tape,hE.output,hE.size,fun b hb hn=>hE.same b hb fun hn'=>hn (hlive b hn'),hE.shp,fun k hk=>?_,hE.imm,fun b hb=>?_,fun b hb=>?_⟩,by omega⟩
  · rw [hE.key k (by omega),upd_ne _ _ (by omega)]
  · rcases hE.imm' b hb with h1 | h1 | h1
    · exact .inl h1
    · exact .inr (.inl (hlive b h1))
    · exact .inr (.inr h1)
  · rcases hE.live b hb with h1 | h1
    · exact .inl (hlive b h1)
    · exact .inr h1
end
attribute [go_sem] andZ_1 andZ_2
attribute [go_sem] drv nxt gkey stp pop evT evP cst dnil sameInts Option.isNone peelB peelD
  setT_some setT_none updM ofArgs tOf hOf isFn fitsT retP retD oneD exitTo
  islen Option.isSome okP guardB bnd appUp rdKeys mslKey spendUp target lends cellsOf
  partsS bld D.cells grab putCells Option.map if_true if_false ite_true ite_false dbin dint
  dun dstr dshift Op.operands Call.operands Bool.false_eq_true List.map DB DI DS Array.toList false_imp_iff
  true_and and_true forall_const dite_true Array.size List.length or_self Func.body Nat.add_eq beq_self_eq_true decide_true decide_false
  Array.append List.append List.cons_append List.nil_append Array.append_assoc List.push_toArray List.append_toArray List.size_toArray List.getElem?_cons_zero List.getElem?_cons_succ List.drop_zero List.take_zero
  Int.toNat_natCast Int.toNat_zero List.getElem?_map List.length_map Option.bind List.all_nil List.all_cons Bool.and_true Bool.and_self one List.drop_succ_cons List.take_succ_cons
  List.length_cons List.length_nil bne_iff_ne bne_eq_false_iff_eq beq_iff_eq beq_eq_false_iff_ne decide_eq_true_eq decide_eq_false_iff_not Bool.not_eq_true Bool.not_eq_false Int.not_lt Int.not_le
  Int.ofNat_lt Nat.not_lt ne_eq Classical.not_not cond_true cond_false true_or or_true false_or or_false List.set_cons_zero renD
  renDs renC renCs upsFrom rkey rk0 List.getD_cons_zero List.getD_cons_succ Int.add_sub_cancel List.map_take Nat.le_refl Nat.sub_zero
  Nat.sub_self Option.toArray_none Option.toArray_some List.append_nil Array.append_empty Array.empty_append Nat.zero_mul Int.mul_zero Int.zero_mul not_true_eq_false not_false_eq_true Nat.mul_one
  Nat.one_mul List.length_set wkey hpL List.getElem?_nil Nat.zero_le Nat.add_zero Nat.zero_add Int.add_zero Int.zero_add Bool.true_and Bool.false_and
  implies_true imp_self and_self beq_tt beq_ff Bool.cond_false_right Bool.cond_true_right Bool.cond_true_left Bool.cond_false_left Bool.and_eq_true Bool.and_eq_false_imp Bool.or_eq_true
  Bool.or_eq_false_iff Bool.not_eq_eq_eq_not Bool.not_true Bool.not_false List.getElem?_toArray Option.bind_some List.set_cons_succ Int.natCast_nonneg Int.natCast_add Int.natCast_one Int.cast_ofNat_Int mayUp kfs kf
  Pg.cells Ex.cells St1.cells isI Ex.cellsL_length Ex.cellsL_get St1.cellsL_length St1.cellsL_get
attribute [go_sem_proc] reduceIte reduceCtorEq Nat.reduceAdd Nat.reduceMul Nat.reduceSub Nat.reduceEqDiff Nat.reduceBEq Nat.reduceLT Int.reduceToNat Int.reduceLE Int.reduceLT Nat.reduceLeDiff Int.reduceBEq Int.reduceEq Int.reduceBNe Int.reduceAdd
theorem frU {f:Hp} {n b:Nat} {x:Option (Option (List C))} (h:∀ j,j<64→f (b+j)=none) (hn:n<b∨b+64≤n):∀ j,j<64→upd f n x (b+j)=none:=fun j hj=>by
  rw [upd_ne _ _ (by omega)];exact h j hj
theorem frL {h:List (Option (List C))} {b:Nat} (hl:h.length≤b):∀ j,j<64→hpL h (b+j)=none:=fun j hj=>by
  simp only [hpL];exact List.getElem?_eq_none (by omega)
theorem frO {b:Nat}:∀ j,j<64→hOf [] (b+j)=none:=fun _ _=>rfl
theorem hbT {hp : Hp} {nx0 i : Nat} (_u : Unit) (h : ∀ j, j < 64 → hp (wkey nx0 i + j) = none := by first | (intro j hj; rfl) | ((repeat (first | exact frL (by simp) | exact frO | refine frU ?_ (by simp only [wkey]; omega))); done) | (intro j hj; simp only [upd, wkey, hpL, hOf, List.getElem?_nil]; (repeat rw [if_neg (by omega)]); done) | (intro j hj; simp only [upd, wkey, hpL, hOf, List.getElem?_nil]; (repeat' split) <;> first | (exfalso; omega) | rfl | (apply List.getElem?_eq_none; simp only [List.length_cons, List.length_nil]; omega))) :
    ∀ j,j<64→hp (wkey nx0 i+j)=none:=h
theorem sd {a:Prop} (ha:a:=by ((repeat' with_reducible apply And.intro)<;>first | omega | (simp only [InK];omega) | (intro k e;cases e;rfl) | (intro hguard;exact ⟨hguard,by simp only [InK];omega⟩) | kernel_rfl)):a:=ha
section
variable {P:Program}
theorem DC.args {F:FuncId} {as as':List D} {h:List (Option (List C))} {R:D→List (Option (List C))→Prop} (hs:∀ I w s vs,RDs I w s vs as'→RDs I w s vs as) (hD:DC P F as h R):DC P F as' h R :=
  fun I w s vs H hv=>hD I w s vs H (hs I w s vs hv)
theorem RC.nil {I:Nat→Prop} {w:World} {s:Sg} {x:Value} {sz:Nat} (h:RC I w s x (.v (.slice none 0 0))):RC I w s x (.isl sz []):=by
  cases h with | v _ _ _=>exact .isl0 _ none 0 sz
theorem RD.nilAt {I:Nat→Prop} {w:World} {s:Sg} {x:Value} {sz:Nat} {pre post:List C} (h:RD I w s x (.agg (pre ++ .v (.slice none 0 0) :: post))):RD I w s x (.agg (pre ++ .isl sz [] :: post)):=by
  cases h with
  | agg vs cs hl hr =>
    refine .agg vs _ (by simpa using hl) fun j h1 h2=>?_
    have h3:j<(pre++C.v (.slice none 0 0) :: post).length:=by simpa using h2
    have h4:=hr j h1 h3
    rcases Nat.lt_trichotomy j pre.length with hj | hj | hj
    · rw [List.getElem_append_left hj] at h4 ⊢;exact h4
    · subst hj
      simp only [List.getElem_append_right (Nat.le_refl _),Nat.sub_self,List.getElem_cons_zero] at h4 ⊢
      exact h4.nil
    · obtain ⟨i,rfl⟩:∃ i,j=pre.length+(i+1):=⟨j - pre.length - 1,by omega⟩
      simp only [List.getElem_append_right (Nat.le_add_right _ _),Nat.add_sub_cancel_left,List.getElem_cons_succ] at h4 ⊢
      exact h4
theorem DC.nilAgg {F : FuncId} (as bs : List D) (sz : Nat) (pre post : List C) {h : List (Option (List C))} {R : D → List (Option (List C)) → Prop} (hD : DC P F (as ++ .agg (pre ++ .isl sz [] :: post) :: bs) h R) :
    DC P F (as ++ .agg (pre ++ .v (.slice none 0 0) :: post) :: bs) h R :=
  DC.args (fun I w s vs hv=>by
    obtain ⟨hl,hr⟩:=hv
    refine ⟨by simpa using hl,fun j h1 h2=>?_⟩
    have h3:j<(as++D.agg (pre ++ .v (.slice none 0 0) :: post) :: bs).length:=by simpa using h2
    have h4:=hr j h1 h3
    rcases Nat.lt_trichotomy j as.length with hj | hj | hj
    · rw [List.getElem_append_left hj] at h4 ⊢;exact h4
    · subst hj
      simp only [List.getElem_append_right (Nat.le_refl _),Nat.sub_self,List.getElem_cons_zero] at h4 ⊢
      exact h4.nilAt
    · obtain ⟨i,rfl⟩:∃ i,j=as.length+(i+1):=⟨j - as.length - 1,by omega⟩
      simp only [List.getElem_append_right (Nat.le_add_right _ _),Nat.add_sub_cancel_left,List.getElem_cons_succ] at h4 ⊢
      exact h4) hD
end
def frC (k sz : Nat) (xs : List (List C)) : C → C
  | .msl k' sz' off len=>(match Nat.beq k' k && Nat.beq off 0 && Nat.beq sz' sz && Nat.beq len xs.length with | true => .isl sz xs | false => .msl k' sz' off len)
  | c=>c
def frD (k sz : Nat) (xs : List (List C)) : D → D
  | .c x => .c (frC k sz xs x)
  | .agg cs => .agg (cs.map (frC k sz xs))
  | d=>d
def frT (k sz:Nat) (xs:List (List C)) (tm:Nat→Option D):Nat→Option D:=fun n=>(tm n).map (frD k sz xs)
section
variable {m nt:Nat} {I:Nat→Prop} {w:World} {s:Sg} {hp:Hp}
variable {K:Bool} {P:Program} {f:FuncId} {R:D→List (Option (List C))→Prop}
end
attribute [go_sem] frT frD frC
section
variable {K:Bool} {P:Program} {m:Nat} {f:FuncId} {nt:Nat} {R:D→List (Option (List C))→Prop}
theorem XK.p {all : Array Oper} {dr : Bool} {i : Nat} {o : Oper} {rest : List Oper} {lg : Lg} {nx0 : Nat} {k : List Item} {S : Ms} {F : FuncId} {args : List D} {d0 : D}
    (hD:DC P F args [] (fun d h'=>d=d0∧h'=[])) (hfn:fnOK P F=true)
    (next:XK K P m f nt R (some ⟨all,dr,i+1,rest,upd lg i (some ([],[])),nx0⟩) k ⟨setT S.tm o.dst (some d0),S.hp,S.nx⟩)
    (hop:o.op = .call (getCall o):=by rfl) (hg:o.guard=none:=by rfl) (hc:calleeOf S.tm (getCall o)=some (F,args.map (renD (rk0 [] (wkey nx0 i)))):=by rfl) (hok:okB S.tm (getCall o).operands.toList=true:=by rfl)
    (hren:renD (rkey [] (wkey nx0 i)) d0=d0:=by rfl) (hm:m≤wkey nx0 i:=by first | exact Nat.zero_le _ | (simp only [wkey];decide)) (hf:fitsT nt o.dst=true:=by rfl)
    (hb:∀ j,j<64→S.hp (wkey nx0 i+j)=none:=by exact hbT ()) (hdr:dr=true→lgok nx0 all lg i [] []=true:=by first | (intro h;cases h;done) | (intro _;kernel_rfl)) :
    XK K P m f nt R (some ⟨all,dr,i,o :: rest,lg,nx0⟩) k S :=
  XK.pure hD (getCall o) hop hg hc (okP_of hok) hfn hm hb hf hdr (by rw [hren];exact next)
theorem XK.gp {all : Array Oper} {dr : Bool} {i : Nat} {o : Oper} {rest : List Oper} {lg : Lg} {nx0 : Nat} {k : List Item} {S : Ms} {F : FuncId} {args : List D} {d0 : D} {g : Nat} {b x : Bool}
    (hD:DC P F args [] (fun d h'=>d=d0∧h'=[])) (hfn:fnOK P F=true)
    (next:XK K P m f nt R (some ⟨all,dr,i+1,rest,upd lg i (some ([],[])),nx0⟩) k ⟨setT S.tm o.dst (some (.when x d0)),S.hp,S.nx⟩)
    (hop:o.op = .call (getCall o):=by rfl) (hg:o.guard=some (g,b):=by rfl) (hc:calleeOf S.tm (getCall o)=some (F,args.map (renD (rk0 [] (wkey nx0 i)))):=by rfl)
    (hx:guardB all S.tm g b=some x:=by rfl)
    (hok:x=true→okP S.tm (getCall o).operands.toList:=by intro hx;simp [okP,getCall,Call.operands,evT,upd,peelB,DB,DI,cst,one] at hx ⊢;first | done | exact hx | (simp_all;done) | omega)
    (hren:renD (rkey [] (wkey nx0 i)) d0=d0:=by rfl) (hm:m≤wkey nx0 i:=by first | exact Nat.zero_le _ | (simp only [wkey];decide))
    (hcf:∃ f,(getCall o).callee = .value f:=by exact ⟨_,rfl⟩) (hf:fitsT nt o.dst=true:=by rfl)
    (hb:∀ j,j<64→S.hp (wkey nx0 i+j)=none:=by exact hbT ()) (hdr:dr=true→lgok nx0 all lg i [] []=true:=by first | (intro h;cases h;done) | (intro _;kernel_rfl)) :
    XK K P m f nt R (some ⟨all,dr,i,o :: rest,lg,nx0⟩) k S :=
  XK.gpure g b x (getCall o) hg hx hop hcf (fun e=>⟨F,args,hc,hok e,hfn,hD,hren⟩) hm hb hf hdr next
theorem XK.gs {all : Array Oper} {dr : Bool} {i : Nat} {o : Oper} {rest : List Oper} {lg : Lg} {nx0 : Nat} {k : List Item} {S : Ms} {g : Nat} {b : Bool} (d0 : D)
    (next:XK K P m f nt R (some ⟨all,dr,i+1,rest,upd lg i (some ([],[])),nx0⟩) k ⟨setT S.tm o.dst (some (.when false d0)),S.hp,S.nx⟩)
    (hop:o.op = .call (getCall o):=by rfl) (hg:o.guard=some (g,b):=by rfl)
    (hx:guardB all S.tm g b=some false:=by first | rfl | (simp [guardB,evT,upd,peelB,peelD,DB,DI];done))
    (hm:m≤wkey nx0 i:=by first | exact Nat.zero_le _ | (simp only [wkey];decide))
    (hcf:∃ f,(getCall o).callee = .value f:=by exact ⟨_,rfl⟩) (hf:fitsT nt o.dst=true:=by rfl)
    (hb:∀ j,j<64→S.hp (wkey nx0 i+j)=none:=by exact hbT ()) (hdr:dr=true→lgok nx0 all lg i [] []=true:=by first | (intro h;cases h;done) | (intro _;kernel_rfl)) :
    XK K P m f nt R (some ⟨all,dr,i,o :: rest,lg,nx0⟩) k S :=
  XK.gpure g b false (getCall o) hg hx hop hcf (fun e=>by cases e) hm hb hf hdr next
end
def HH (hp : Hp) (r : Nat → Nat) : List Nat → List (Option (List C)) → Prop
  | [],[]=>True
  | k :: ks,h :: hs=>hp k=some (h.map (renCs r))∧HH hp r ks hs
  | _,_=>False
theorem hhpG {hp : Hp} {r : Nat → Nat} : ∀ {ks : List Nat} {hs : List (Option (List C))}, HH hp r ks hs → ∀ i' x, hs[i']? = some x → hp (ks.getD i' 0) = some (x.map (renCs r))
  | [],[],_,i',x,hx=>by simp at hx
  | k :: ks,h :: hs,hh,0,x,hx=>by simp only [List.getElem?_cons_zero,Option.some.injEq] at hx;subst hx;exact hh.1
  | k :: ks,h :: hs,hh,i' + 1,x,hx=>by
    have:=hhpG hh.2 i' x (by simpa using hx)
    simpa using this
section
variable {K:Bool} {P:Program} {m:Nat} {f:FuncId} {nt:Nat} {R:D→List (Option (List C))→Prop}
theorem kfs_mapI (l:List C) (h:∀ c ∈ l,kf c=true):kfs l=true:=by
  induction l with
  | nil=>rfl
  | cons a r ih=>simp only [kfs,Bool.and_eq_true];exact ⟨h a (by simp),ih fun c hc=>h c (by simp [hc])⟩
def KF : List (Option (List C)) → Prop
  | []=>True
  | none :: r=>KF r
  | some cs :: r=>kfs cs=true∧KF r
theorem KF.mem : ∀ {h : List (Option (List C))}, KF h → ∀ cs, some cs ∈ h → kfs cs = true
  | none :: r,hk,cs,hm=>KF.mem (h:=r) hk cs (by simpa using hm)
  | some c :: r,hk,cs,hm=>by
    rcases List.mem_cons.1 hm with e | e
    · cases e;exact hk.1
    · exact KF.mem hk.2 cs e
theorem XK.rp {all : Array Oper} {dr : Bool} {i : Nat} {o : Oper} {rest : List Oper} {lg : Lg} {nx0 : Nat} {k : List Item} {S : Ms} {F : FuncId} {args : List D} {h : List (Option (List C))} {d0 : D}
    (ks:List Nat) (hD:DC P F args h (fun d h'=>d=d0∧h'=h)) (hfn:fnOK P F=true) (hh:HH S.hp (rk0 ks (wkey nx0 i)) ks h) (hkf:KF h)
    (next:XK K P m f nt R (some ⟨all,dr,i+1,rest,upd lg i (some (ks,[])),nx0⟩) k ⟨setT S.tm o.dst (some (renD (rkey ks (wkey nx0 i)) d0)),S.hp,S.nx⟩)
    (hop:o.op = .call (getCall o):=by rfl) (hg:o.guard=none:=by rfl) (hc:calleeOf S.tm (getCall o)=some (F,args.map (renD (rk0 ks (wkey nx0 i)))):=by rfl) (hok:okB S.tm (getCall o).operands.toList=true:=by rfl)
    (hks:ks.length=h.length:=by rfl) (hnd:ks.Nodup:=by decide) (hm:m≤wkey nx0 i:=by first | exact Nat.zero_le _ | (simp only [wkey];decide)) (hf:fitsT nt o.dst=true:=by rfl)
    (hb:∀ j,j<64→S.hp (wkey nx0 i+j)=none:=by exact hbT ()) (hdr:dr=true→lgok nx0 all lg i ks []=true:=by first | (intro h;cases h;done) | (intro _;kernel_rfl)) :
    XK K P m f nt R (some ⟨all,dr,i,o :: rest,lg,nx0⟩) k S:=by
  simp only [XK,dopsL]
  refine Pre.intro (.inl ⟨ks,[],_,.rcall (getCall o) F args ks h _ (.inl hg) hop hc (okP_of hok) hfn hD hks hnd (hhpG hh) hm hb (fun d h' e=>e.2) hkf.mem,hf,fun e=>⟨hdr e,_,_,d0,⟨rfl,rfl⟩,rfl,rfl⟩,fun d up ht=>?_⟩)
  obtain ⟨d',⟨rfl,_⟩,rfl,rfl⟩:=ht
  exact next
end
def fam (hp:Hp) (b:Nat) (rows:List (List C)):Hp:=fun j=>if b≤j∧j<b+32 then (rows[j - b]?).map some else hp j
theorem fam_at {hp:Hp} {b i:Nat} {rows:List (List C)} (hi:i<32):fam hp b rows (b+i)=(rows[i]?).map some:=by
  unfold fam;rw [if_pos (by omega),Nat.add_sub_cancel_left]
def famC (b w n:Nat):List C:=(List.range n).map fun i => .msl (b+i) 1 0 w
section
variable {K:Bool} {P:Program} {m:Nat} {f:FuncId} {nt:Nat} {R:D→List (Option (List C))→Prop}
structure Mh (m : Nat) (r : Nat → Option Nat) (fz : List Nat) (tl : List (Nat × D)) (hT : Hp) (S : Ms) : Prop where
  tm:TmOK hT r S.hp fz S.tm tl
  hp:SubH m r fz hT S.hp
theorem Go.subH {r:Nat→Option Nat} {fz:List Nat} {tl:List (Nat × D)} {hT:Hp} {S:Ms} {k:List Item} (nx:Nat) (h:Mh m r fz tl hT S) (hg:Go K P m f nt R k ⟨tOf tl,hT,nx⟩):Go K P m f nt R k S:=fun I w s a hR cs=>by
  obtain ⟨H',E'⟩:=h.hp.sim hR.H
  have hR':Rc (subI fz S.hp s I) w (subS r hT s) a (tOf tl) hT nt:=⟨H',fun n d hd=>by
    obtain ⟨d',h1,h2⟩:=h.tm.at n d hd
    exact DM.rd hR.H d d' h2 (hR.tm n d' h1),hR.df,hR.sz⟩
  obtain ⟨v,w',fr,I',s',d,h',g1,g2,g3,g4,g5,g6,g7⟩:=hg _ w _ a hR' cs
  exact ⟨v,w',fr,I',s',d,h',g1,g2,g3,E'.transG hR.H g4,g5,g6,g7⟩
theorem Mh.sub {r:Nat→Option Nat} {fz:List Nat} {tl:List (Nat × D)} {hT:Hp} {S:Ms} (h:Mh m r fz tl hT S) (lg lg':Lg):Sub m nt ⟨S.tm,S.hp,lg⟩ ⟨tOf tl,hT,lg'⟩:=fun I w s a hR=>by
  obtain ⟨H',E'⟩:=h.hp.sim hR.H
  exact ⟨_,_,⟨H',fun n d hd=>by
    obtain ⟨d',h1,h2⟩:=h.tm.at n d hd
    exact DM.rd hR.H d d' h2 (hR.tm n d' h1),hR.df,hR.sz⟩,E'⟩
theorem XK.subH {all : Array Oper} {i : Nat} {rest : List Oper} {lg : Lg} {nx0 : Nat} {k : List Item} {S : Ms} {r : Nat → Option Nat} {fz : List Nat} {tl : List (Nat × D)} {hT : Hp} (h : Mh m r fz tl hT S)
    (hn:XK K P m f nt R (some ⟨all,false,i,rest,lg,nx0⟩) k ⟨tOf tl,hT,S.nx⟩):XK K P m f nt R (some ⟨all,false,i,rest,lg,nx0⟩) k S :=
  XK.sub (S':=⟨tOf tl,hT,S.nx⟩) (lg':=lg) (h.sub lg lg) hn
theorem Go.loopH {X : Type} {c : Code} {k : List Item} (tl : X → List (Nat × D)) (hT : X → Hp) (nx : Nat) (Inv : X → Prop) (μ : X → Nat)
    (round:∀ x,Inv x→(∀ x' r fz S',Inv x'→μ x' < μ x→Mh m r fz (tl x') (hT x') S'→Go K P m f nt R (.inLoop c :: k) S')→Go K P m f nt R (.code c :: .inLoop c :: k) ⟨tOf (tl x),hT x,nx⟩) :
    ∀ x r fz S,Inv x→Mh m r fz (tl x) (hT x) S→Go K P m f nt R (.code (.loop c) :: k) S:=by
  intro x r fz S hI hM
  refine Go.loop (Go.subH nx hM ?_)
  exact round x hI fun x' r' fz' S' hi' hlt hm'=>Go.rounds (P:=P) (m:=m) (f:=f) (nt:=nt) (R:=R) (c:=c) (k:=k) (fun x S=>Inv x∧∃ r fz,Mh m r fz (tl x) (hT x) S) μ (fun x S ⟨hi,r,fz,hm⟩ ih =>
    Go.subH nx hm (round x hi fun x' r' fz' S' hi' hlt hm'=>ih x' S' hlt ⟨hi',r',fz',hm'⟩)) x' S' ⟨hi',r',fz',hm'⟩
end
theorem SubH.fam {m : Nat} {r : Nat → Option Nat} {fz : List Nat} {hl : List (Nat × Option (List C))} {hS : Hp} {b : Nat} {rows : List (List C)} (g : Nat → Nat) (hr : ∀ i, i < rows.length → r (b + i) = some (g i))
    (hg:∀ i j,i<rows.length→j<rows.length→g i=g j→i=j)
    (hfz:∀ i,i<rows.length→g i ∉ fz) (hS2:∀ i row,rows[i]? = some row→hS (g i)=some (some row)) (hkf:∀ x ∈ rows,∀ c ∈ x,kf c=true)
    (hok:HpOK (Go.CT.fam (hOf hl) b rows) r hS fz hl) (hlow:LowOK r (Go.CT.fam (hOf hl) b rows) m) (hnd:((hl.filterMap fun p=>p.2.map fun _=>p.1).filterMap r).Nodup)
    (hdis:∀ k j cs,(k,some cs) ∈ hl→r k=some j→∀ i,i<rows.length→j ≠ g i):SubH m r fz (Go.CT.fam (hOf hl) b rows) hS where
  live:=fun k cs hk=>by
    unfold Go.CT.fam at hk
    by_cases h:b≤k∧k<b+32
    · rw [if_pos h] at hk
      cases hx:rows[k - b]? with
      | none=>rw [hx] at hk;simp at hk
      | some row =>
        rw [hx] at hk
        simp only [Option.map_some,Option.some.injEq] at hk
        subst hk
        have hlt:k - b<rows.length:=(List.getElem?_eq_some_iff.1 hx).1
        have h1:=hr (k - b) hlt
        rw [show b+(k - b)=k from by omega] at h1
        exact .inl ⟨_,row,h1,hfz _ hlt,hS2 _ _ hx,CMs.kf (hkf row (List.mem_of_getElem? hx))⟩
    · rw [if_neg h] at hk
      exact HpOK.at hok k cs (hOf_mem hk)
  inj:=fun k k' cs cs' j h1 h2 h3 h4=>by
    have key:∀ k cs,Go.CT.fam (hOf hl) b rows k=some (some cs)→r k=some j→(∃ i,i<rows.length∧k=b+i∧j=g i)∨((k,some cs) ∈ hl∧∀ i,i<rows.length→j ≠ g i):=fun k cs hk hj=>by
      unfold Go.CT.fam at hk
      by_cases h:b≤k∧k<b+32
      · rw [if_pos h] at hk
        cases hx:rows[k - b]? with
        | none=>rw [hx] at hk;simp at hk
        | some row =>
          have hlt:k - b<rows.length:=(List.getElem?_eq_some_iff.1 hx).1
          have h1:=hr (k - b) hlt
          rw [show b+(k - b)=k from by omega,hj] at h1
          exact .inl ⟨k - b,hlt,by omega,by simpa using h1⟩
      · rw [if_neg h] at hk
        exact .inr ⟨hOf_mem hk,hdis k j cs (hOf_mem hk) hj⟩
    rcases key k cs h1 h3 with ⟨i,hi,e1,e2⟩ | ⟨hm1,hd1⟩<;>rcases key k' cs' h2 h4 with ⟨i',hi',e1',e2'⟩ | ⟨hm2,hd2⟩
    · have:=hg i i' hi hi' (by omega)
      omega
    · exact absurd e2 (hd2 i hi)
    · exact absurd e2' (hd1 i' hi')
    · exact filterMap_inj hnd k k' j (live_mem hm1) (live_mem hm2) h3 h4
  low:=hlow.at
theorem CMs.app {hT hS : Hp} {r : Nat → Option Nat} {fz : List Nat} : ∀ {as as' bs bs' : List C}, CMs hT r hS fz as as' → CMs hT r hS fz bs bs' → CMs hT r hS fz (as ++ bs) (as' ++ bs')
  | [],as',bs,bs',h,h'=>by simp only [CMs] at h;subst h;exact h'
  | a :: as,[],bs,bs',h,h'=>by simp [CMs] at h
  | a :: as,a' :: as',bs,bs',h,h'=>by
    simp only [CMs,List.cons_append] at h ⊢
    exact ⟨h.1,CMs.app h.2 h'⟩
theorem CMs.fam {hT hS:Hp} {r:Nat→Option Nat} {fz:List Nat} {b b' w n:Nat} (hr:∀ i,i<n→r (b+i)=some (b' + i)) (hT2:∀ i,i<n→hT (b+i) ≠ none):CMs hT r hS fz (famC b w n) (famC b' w n):=by
  have gen:∀ (l:List Nat),(∀ i ∈ l,i<n)→CMs hT r hS fz (l.map fun i=>C.msl (b+i) 1 0 w) (l.map fun i=>C.msl (b' + i) 1 0 w):=fun l=>by
    induction l with
    | nil=>intro _;simp [CMs]
    | cons a t ih =>
      intro h
      simp only [List.map_cons,CMs,CM]
      exact ⟨⟨hr a (h a (by simp)),hT2 a (h a (by simp)),trivial,trivial,trivial⟩,ih fun i hi=>h i (by simp [hi])⟩
  exact gen _ fun i hi=>List.mem_range.1 hi
theorem CMs.set {hT hS : Hp} {r : Nat → Option Nat} {fz : List Nat} : ∀ {as bs : List C} (i : Nat) {a b : C}, CMs hT r hS fz as bs → CM hT r hS fz a b → CMs hT r hS fz (as.set i a) (bs.set i b)
  | [],bs,i,a,b,h,_=>by simp only [CMs] at h;subst h;simp [CMs]
  | x :: as,[],i,a,b,h,_=>by simp [CMs] at h
  | x :: as,y :: bs,0,a,b,h,h'=>by
    simp only [CMs] at h
    simp only [List.set_cons_zero,CMs]
    exact ⟨h',h.2⟩
  | x :: as,y :: bs,i+1,a,b,h,h'=>by
    simp only [CMs] at h
    simp only [List.set_cons_succ,CMs]
    exact ⟨h.1,CMs.set i h.2 h'⟩
end Go.CT
/- Blocks lent: a call that is known for plain data may be given blocks that somebody owns; it leaves them as they are. -/
namespace Go.CT
variable [Yn]
theorem DC.borrow {P : Program} {F : FuncId} {args args' : List D} {h : List (Option (List C))} {y : Value} (fz : List Nat) (hm : DMs (hOf (enumL 0 [])) (fun _ => none) (hpL h) fz args args') (hD : DC P F args [] (fun r h => r = .c (.v y) ∧ h = [])) :
    DC P F args' h (fun r h'=>r = .c (.v y)∧h'=h):=fun I w s vs H hv=>by
  have hs:SubH 0 (fun _=>none) fz (hOf (enumL 0 [])) (hpL h) :=
    ⟨fun k cs hk=>by simp [enumL,hOf] at hk,fun k k' cs cs' j h1=>by simp [enumL,hOf] at h1,fun k hk=>by omega⟩
  obtain ⟨H',_⟩:=hs.sim H
  have hv':=DMs.rds (r:=fun _=>none) (fz:=fz) (hT:=hOf (enumL 0 [])) H args args' vs.toList hm (by simpa using hv)
  rw [Array.toArray_toList] at hv'
  rw [hpL_enum] at H' hv'
  refine (hD _ w _ vs H' hv').mono ?_
  rintro e w' ⟨v,I',s'',d,h',rfl,⟨rfl,rfl⟩,hrd,hH,hE,hl⟩
  have same:∀ b,b<w.heap.size→w'.heap[b]? = w.heap[b]? := fun b hb=>hE.same b hb fun hn=>by
    obtain ⟨k,cs,h1,_⟩:=hn
    simp [hpL] at h1
  refine ⟨v,I,s,.c (.v y),h,rfl,⟨rfl,rfl⟩,?_,⟨H.top,fun k cs hk=>?_,H.inj,fun b hb=>Nat.lt_of_lt_of_le (H.imm b hb) hE.size,H.yng.step hE.size fun b h => .inl h,H.wri.step hE.shp⟩,
    ⟨hE.os,hE.tape,hE.output,hE.size,fun b hb _=>same b hb,hE.shp,fun _ _=>rfl,fun _ h=>h,fun _ h => .inl h,fun _ h => .inl h⟩,Nat.le_refl _⟩
  · cases hrd with
    | c _ _ hc=>cases hc with | v _ _ h1=>exact .c _ _ (.v _ _ h1)
  · rcases H.blk k cs hk with h1 | ⟨b,arr,T,h1,h2,h3,h4,h5⟩
    · exact .inl h1
    · have hb:b<w.heap.size:=by
        rcases Nat.lt_or_ge b w.heap.size with hb | hb
        · exact hb
        · rw [Array.getElem?_eq_none hb] at h2;cases h2
      refine .inr ⟨b,arr,T,h1,by rw [same b hb];exact h2,h3,h4,fun j hj=>?_⟩
      obtain ⟨y,hy,hr⟩:=h5 j hj
      exact ⟨y,hy,hr.mono (fun _ h=>h) (fun b hb=>same b (H.imm b hb)) hE.shp (fun _ _ h=>h)⟩
end Go.CT
/- A contract weakened: what is left may be taken for other data. -/
namespace Go.CT
variable [Yn]
theorem DC.weaken {P : Program} {F : FuncId} {args : List D} {h : List (Option (List C))} {R1 R2 : D → List (Option (List C)) → Prop} (hD : DC P F args h R1)
    (hw:∀ d h',R1 d h'→h.length≤h'.length→RetOb h.length R2 d (hpL h')):DC P F args h R2:=fun I w s vs H hv=>by
  refine (hD I w s vs H hv).mono ?_
  rintro e w' ⟨v,I',s',d,h',rfl,hR,hrd,hH,hE,hl⟩
  obtain ⟨I2,s2,d2,h2,g1,g2,g3,g4,g5⟩:=hw d h' hR hl I' w' s' v hH hrd
  exact ⟨v,I2,s2,d2,h2,rfl,g1,g2,g3,Ext.trans hE g4,g5⟩
open Go.RowKit
end Go.CT
