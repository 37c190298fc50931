/- Small lemmas for a walk that reckons by itself. -/
import Derived.WalkKit
import Derived.ProofKit
import Derived.SizedLaws
import Derived.Test.YtlapccpnilomfaaJAh
set_option linter.unusedVariables false
set_option linter.unusedSimpArgs false
set_option linter.unusedSectionVars false
set_option maxHeartbeats 16000000
set_option maxRecDepth 100000
namespace Go.CT
variable [Yn]
theorem RetOb.pure {R:D→List (Option (List C))→Prop} {d:D} {hp:Hp} (hR:R d []) (hd:DM (hpL []) some hp [] d d):RetOb 0 R d hp :=
  RetOb.of some [] d [] ⟨fun k cs h=>by simp [hpL] at h,fun k k' cs cs' j h=>by simp [hpL] at h,fun k h=>by omega⟩ hd hR (Nat.le_refl _)
mutual
theorem CM.kf {hT hS : Hp} {r : Nat → Option Nat} {fz : List Nat} : ∀ {c : C}, kf c = true → CM hT r hS fz c c
  | .v _,_=>by simp [CM]
  | .isl _ _,_=>by simp [CM]
  | .csl _ _ _,_=>by simp [CM]
  | .num _,_=>by simp [CM]
  | .z,_=>by simp [CM]
  | .unk,_=>by simp [CM]
  | .eptr _,_=>by simp [CM]
  | .met _ _,_=>by simp [CM]
  | .msl _ _ _ _,h=>by simp [Go.CT.kf] at h
  | .ptr _ _,h=>by simp [Go.CT.kf] at h
  | .clo _ _,h=>by simp [Go.CT.kf] at h
end
theorem CMs.kf {hT hS : Hp} {r : Nat → Option Nat} {fz : List Nat} : ∀ {cs : List C}, (∀ c ∈ cs, Go.CT.kf c = true) → CMs hT r hS fz cs cs
  | [],_=>by simp [CMs]
  | c :: r',h=>by simp only [CMs];exact ⟨CM.kf (h c (by simp)),CMs.kf fun c' hc'=>h c' (by simp [hc'])⟩
def kD : D → Prop
  | .c a=>kf a=true
  | .agg as=>∀ c ∈ as,kf c=true
  | _=>False
theorem DM.kD {hT hS:Hp} {r:Nat→Option Nat} {fz:List Nat} {d:D} (h:kD d):DM hT r hS fz d d:=by
  cases d with
  | c a=>simp only [DM];exact CM.kf h
  | agg as=>simp only [DM];exact CMs.kf h
  | _=>exact h.elim
theorem RetOb.plain {R:D→List (Option (List C))→Prop} {d:D} {hp:Hp} (hR:R d []) (hk:kD d):RetOb 0 R d hp := .pure hR (DM.kD hk)
theorem Mt.slots {fz:List Nat} {tl:List (Nat × D)} {S:Ms} (h:TmOK (hOf []) some S.hp fz S.tm tl):Mt 0 some fz tl [] S:=⟨h,trivial,trivial,by simp⟩
theorem TmOK.cons {hT:Hp} {r:Nat→Option Nat} {hS:Hp} {fz:List Nat} {tS:Nat→Option D} {n:Nat} {d:D} {l:List (Nat × D)} {d':D} (h:tS n=some d') (hd:DM hT r hS fz d d') (ht:TmOK hT r hS fz tS l):TmOK hT r hS fz tS ((n,d) :: l):=by
  simp only [TmOK,h];exact ⟨hd,ht⟩
theorem RetOb.frozen {R : D → List (Option (List C)) → Prop} {k sz n : Nat} {hp : Hp} {xs : List (List C)} (hR : R (.c (.isl sz xs)) []) (hk : hp k = some (some xs.flatten)) (hn : n = xs.length)
    (hl:∀ x ∈ xs,x.length=sz) (hkf:∀ x ∈ xs,∀ c ∈ x,kf c=true):RetOb 0 R (.c (.msl k sz 0 n)) hp :=
  RetOb.of (fun _ => none) [k] _ [] ⟨fun k cs h => by simp [hpL] at h, fun k k' cs cs' j h => by simp [hpL] at h, fun k h => by omega⟩
    (by simp only [DM,CM];exact ⟨⟨trivial,trivial,hn⟩,by simp,hk,hl,hkf⟩) hR (Nat.le_refl _)
theorem flat_len {α:Type} (g:α→List C) (sz:Nat) (xs:List α) (hg:∀ x ∈ xs,(g x).length=sz):((xs.map g).flatten).length=xs.length * sz:=by
  induction xs with
  | nil=>simp
  | cons a r ih =>
    simp only [List.map_cons,List.flatten_cons,List.length_append,List.length_cons]
    rw [hg a (by simp),ih fun x hx=>hg x (by simp [hx]),Nat.add_mul]
    omega
theorem Mt.one {fz:List Nat} {tl:List (Nat × D)} {S:Ms} {k:Nat} {cs:List C} (h:TmOK (hOf [(k,some cs)]) some S.hp fz S.tm tl) (hk:k ∉ fz) (hb:S.hp k=some (some cs)) (hkf:∀ c ∈ cs,kf c=true):Mt 0 some fz tl [(k,some cs)] S:=by
  refine ⟨h,⟨?_,trivial⟩,trivial,by simp⟩
  simp only [hb]
  exact ⟨hk,CMs.kf hkf⟩
theorem flat1 {α:Type} (f:α→C) (xs:List α):(xs.map fun n=>[f n]).flatten=xs.map f:=by
  induction xs with
  | nil=>rfl
  | cons a r ih=>simp [ih]
theorem subH_one {r : Nat → Option Nat} {k : Nat} {cs : List C} {hp : Hp} (hr : r 0 = some k) (hb : hp k = some (some cs)) (hkf : ∀ c ∈ cs, kf c = true) : SubH 0 r [] (hpL [some cs]) hp where
  live j cs' hj:=by
    match j with
    | 0 =>
      simp only [hpL,List.getElem?_cons_zero,Option.some.injEq] at hj
      subst hj
      exact .inl ⟨k,cs,hr,by simp,hb,CMs.kf hkf⟩
    | j+1=>simp [hpL] at hj
  inj j j' cs1 cs2 b h1 h2 _ _:=by
    match j,j' with
    | 0,0=>rfl
    | 0,j' + 1=>simp [hpL] at h2
    | j+1,_=>simp [hpL] at h1
  low j hj:=by omega
theorem subH_one' {r : Nat → Option Nat} {cs : List C} {hp : Hp} (hr : r 0 = some 0) (hb : hp 0 = some (some cs)) (hkf : ∀ c ∈ cs, kf c = true) (_ : True) : SubH 1 r [] (hpL [some cs]) hp where
  live:=(subH_one hr hb hkf).live
  inj:=(subH_one hr hb hkf).inj
  low j hj:=by
    have:j=0:=by omega
    subst this
    exact ⟨hr,by simp [hpL]⟩
theorem updM {α:Type} (f:Nat→α) (n:Nat) (x:α) (k:Nat):upd f n x k=(match Nat.beq k n with | true=>x | false=>f k):=by
  unfold upd
  by_cases h:k=n
  · subst h;simp
  · have:Nat.beq k n=false:=by
      cases hb:Nat.beq k n with
      | false=>rfl
      | true=>exact absurd (Nat.eq_of_beq_eq_true hb) h
    rw [if_neg h,this]
theorem setT_some (tm:Nat→Option D) (n:Nat) (d:Option D):setT tm (some n) d=upd tm n d:=rfl
theorem setT_none (tm:Nat→Option D) (d:Option D):setT tm none d=tm:=rfl
theorem hhp_one {hp:Hp} {r:Nat→Nat} {k:Nat} {x:Option (List C)} (h:hp k=some (x.map (renCs r))):∀ i' y,[x][i']? = some y→hp ([k].getD i' 0)=some (y.map (renCs r)):=by
  intro i' y hy
  match i' with
  | 0=>simp only [List.getElem?_cons_zero,Option.some.injEq] at hy;subst hy;exact h
  | i' + 1=>simp at hy
theorem RetOb.keep1 {R:D→List (Option (List C))→Prop} {d:D} {cs:List C} {hp:Hp} (hR:R d [some cs]) (hb:hp 0=some (some cs)) (hkf:∀ c ∈ cs,kf c=true) (hd:kD d):RetOb 1 R d hp :=
  RetOb.of (fun k=>if k=0 then some 0 else none) [] d [some cs] (subH_one' rfl hb hkf trivial) (DM.kD hd) hR (Nat.le_refl _)
theorem beq_tt (b:Bool):(b == true)=b:=by cases b<;>rfl
theorem beq_ff (b:Bool):(b == false) = !b:=by cases b<;>rfl
theorem mx_eq:mx=281474976710656:=rfl
def okB (tm : Nat → Option D) : List Operand → Bool
  | []=>true
  | x :: r=>(match evT tm x with | some d=>peelB d | none=>true) && okB tm r
theorem okP_of {tm : Nat → Option D} : ∀ {l : List Operand}, okB tm l = true → okP tm l
  | [],_=>trivial
  | x :: r,h=>by
    simp only [okB,Bool.and_eq_true] at h
    refine ⟨?_,okP_of h.2⟩
    cases hx:evT tm x with
    | none=>trivial
    | some d=>rw [hx] at h;exact h.1
def getCall (o:Oper):Call:=match o.op with | .call c=>c | _=>{ callee := .builtin .len,args:=#[],argTypes:=#[] }
section
variable {K:Bool} {P:Program} {m:Nat} {f:FuncId} {nt:Nat} {R:D→List (Option (List C))→Prop}
theorem XK.plain {all : Array Oper} {dr : Bool} {i : Nat} {o : Oper} {rest : List Oper} {lg : Lg} {nx0 : Nat} {k : List Item} {S : Ms} {F : FuncId} {args : List D} {d0 : D}
    (hD:DC P F args [] (fun d h'=>d=d0∧h'=[])) (hfn:fnOK P F=true)
    (next:XK K P m f nt R (some ⟨all,dr,i+1,rest,upd lg i (some ([],[])),nx0⟩) k ⟨setT S.tm o.dst (some d0),S.hp,S.nx⟩)
    (hb:∀ j,j<64→S.hp (wkey nx0 i+j)=none:=by first | (intro j hj;rfl) | (intro j hj;simp only [upd,wkey,hpL,hOf,List.getElem?_nil];(repeat' split)<;>first | (exfalso;omega) | rfl | (apply List.getElem?_eq_none;simp only [List.length_cons,List.length_nil];omega))) (hdr:dr=true→lgok nx0 all lg i [] []=true:=by intro h;cases h)
    (hren:renD (rkey [] (wkey nx0 i)) d0=d0:=by rfl) (hm:m≤wkey nx0 i:=by first | exact Nat.zero_le _ | (simp only [wkey];decide))
    (hop:o.op = .call (getCall o):=by rfl) (hg:o.guard=none:=by rfl) (hc:calleeOf S.tm (getCall o)=some (F,args.map (renD (rk0 [] (wkey nx0 i)))):=by rfl) (hok:okB S.tm (getCall o).operands.toList=true:=by rfl)
    (hf:fitsT nt o.dst=true:=by rfl) :
    XK K P m f nt R (some ⟨all,dr,i,o :: rest,lg,nx0⟩) k S :=
  XK.pure hD (getCall o) hop hg hc (okP_of hok) hfn hm hb hf hdr (by rw [hren];exact next)
theorem XK.freeze {all : Array Oper} {i : Nat} {rest : List Oper} {lg : Lg} {nx0 : Nat} {kk : List Item} {S : Ms} (t k sz n : Nat) (xs : List (List C))
    (h:XK K P m f nt R (some ⟨all,false,i,rest,lg,nx0⟩) kk ⟨upd S.tm t (some (.c (.isl sz xs))),upd S.hp k (some none),S.nx⟩) (hk:S.hp k=some (some xs.flatten)) (ht:S.tm t=some (.c (.msl k sz 0 n)):=by rfl) (hn:n=xs.length:=by rfl)
    (hl:∀ x ∈ xs,x.length=sz:=by simp) (hkf:∀ x ∈ xs,∀ c ∈ x,kf c=true:=by simp [kf]):XK K P m f nt R (some ⟨all,false,i,rest,lg,nx0⟩) kk S :=
  XK.sub (S':=⟨upd S.tm t (some (.c (.isl sz xs))),upd S.hp k (some none),S.nx⟩) (lg':=lg) (Sub.freeze t k sz n xs ht hk hn hl hkf) h
theorem XK.callG {all : Array Oper} {dr : Bool} {i : Nat} {o : Oper} {rest : List Oper} {lg : Lg} {nx0 : Nat} {k : List Item} {S : Ms} {F : FuncId} {args : List D} {h : List (Option (List C))} {R' : D → List (Option (List C)) → Prop}
    (ks:List Nat) (hD:DC P F args h R') (hfn:fnOK P F=true)
    (hhp:∀ i' x,h[i']? = some x→S.hp (ks.getD i' 0)=some (x.map (renCs (rk0 ks (wkey nx0 i))))) (hb:∀ j,j<64→S.hp (wkey nx0 i+j)=none) (hlen:∀ d h',R' d h'→h'.length≤h.length+64)
    (next:∀ d h',R' d h'→h.length≤h'.length→XK K P m f nt R (some ⟨all,dr,i+1,rest,upd lg i (some (ks,ks)),nx0⟩) k ⟨setT S.tm o.dst (some (renD (rkey ks (wkey nx0 i)) d)),appUp S.hp (upsFrom (rkey ks (wkey nx0 i)) 0 h'),S.nx⟩)
    (hdr:dr=true→lgok nx0 all lg i ks ks=true∧∃ d h',R' d h'∧h.length≤h'.length:=by intro h;cases h)
    (hm:m≤wkey nx0 i:=by first | exact Nat.zero_le _ | (simp only [wkey];decide))
    (hop:o.op = .call (getCall o):=by rfl) (hg:o.guard=none:=by rfl) (hc:calleeOf S.tm (getCall o)=some (F,args.map (renD (rk0 ks (wkey nx0 i)))):=by rfl) (hok:okB S.tm (getCall o).operands.toList=true:=by rfl)
    (hks:ks.length=h.length:=by rfl) (hnd:ks.Nodup:=by decide) (hf:fitsT nt o.dst=true:=by rfl) :
    XK K P m f nt R (some ⟨all,dr,i,o :: rest,lg,nx0⟩) k S :=
  XK.call hD ks (getCall o) hop (.inl hg) hc (okP_of hok) hfn hks hnd hhp hm hb hlen hf hdr next
theorem XK.gplain {all : Array Oper} {dr : Bool} {i : Nat} {o : Oper} {rest : List Oper} {lg : Lg} {nx0 : Nat} {k : List Item} {S : Ms} {F : FuncId} {args : List D} {d0 : D} (g : Nat) (b x : Bool)
    (hD:x=true→DC P F args [] (fun d h'=>d=d0∧h'=[])) (hfn:fnOK P F=true)
    (next:XK K P m f nt R (some ⟨all,dr,i+1,rest,upd lg i (some ([],[])),nx0⟩) k ⟨setT S.tm o.dst (some (.when x d0)),S.hp,S.nx⟩)
    (hb:∀ j,j<64→S.hp (wkey nx0 i+j)=none:=by first | (intro j hj;rfl) | (intro j hj;simp only [upd,wkey,hpL,hOf,List.getElem?_nil];(repeat' split)<;>first | (exfalso;omega) | rfl | (apply List.getElem?_eq_none;simp only [List.length_cons,List.length_nil];omega))) (hdr:dr=true→lgok nx0 all lg i [] []=true:=by intro h;cases h)
    (hx:guardB all S.tm g b=some x:=by simp [guardB,evT,upd,peelB,peelD,DB,DI])
    (hok:x=true→okP S.tm (getCall o).operands.toList:=by intro hx;simp [okP,getCall,Call.operands,evT,upd,peelB,DB,DI,cst,one] at hx ⊢;first | done | exact hx | (simp_all;done) | omega)
    (hc:calleeOf S.tm (getCall o)=some (F,args.map (renD (rk0 [] (wkey nx0 i)))):=by rfl)
    (hren:renD (rkey [] (wkey nx0 i)) d0=d0:=by rfl) (hm:m≤wkey nx0 i:=by first | exact Nat.zero_le _ | (simp only [wkey];decide))
    (hop:o.op = .call (getCall o):=by rfl) (hcf:∃ f,(getCall o).callee = .value f:=by exact ⟨_,rfl⟩) (hg:o.guard=some (g,b):=by rfl)
    (hf:fitsT nt o.dst=true:=by rfl) :
    XK K P m f nt R (some ⟨all,dr,i,o :: rest,lg,nx0⟩) k S :=
  XK.gpure g b x (getCall o) hg hx hop hcf (fun e=>⟨F,args,hc,hok e,hfn,hD e,hren⟩) hm hb hf hdr next
theorem XK.callT {all : Array Oper} {dr : Bool} {i : Nat} {o : Oper} {rest : List Oper} {lg : Lg} {nx0 : Nat} {k : List Item} {S : Ms} {F : FuncId} {args : List D} {h : List (Option (List C))} {R' : D → List (Option (List C)) → Prop}
    (g:Nat) (b:Bool) (ks:List Nat) (hD:DC P F args h R') (hfn:fnOK P F=true)
    (hhp:∀ i' x,h[i']? = some x→S.hp (ks.getD i' 0)=some (x.map (renCs (rk0 ks (wkey nx0 i))))) (hb:∀ j,j<64→S.hp (wkey nx0 i+j)=none) (hlen:∀ d h',R' d h'→h'.length≤h.length+64)
    (next:∀ d h',R' d h'→h.length≤h'.length→XK K P m f nt R (some ⟨all,dr,i+1,rest,upd lg i (some (ks,ks)),nx0⟩) k ⟨setT S.tm o.dst (some (renD (rkey ks (wkey nx0 i)) d)),appUp S.hp (upsFrom (rkey ks (wkey nx0 i)) 0 h'),S.nx⟩)
    (hdr:dr=true→lgok nx0 all lg i ks ks=true∧∃ d h',R' d h'∧h.length≤h'.length:=by intro h;cases h)
    (hx:guardB all S.tm g b=some true:=by first | rfl | simp_all [guardB,evT,upd,peelB,peelD,DB,DI])
    (hok:okP S.tm (getCall o).operands.toList:=by first | exact okP_of rfl | simp_all [okP,getCall,Call.operands,evT,upd,peelB,DB,DI,cst,one])
    (hm:m≤wkey nx0 i:=by first | exact Nat.zero_le _ | (simp only [wkey];decide))
    (hop:o.op = .call (getCall o):=by rfl) (hg:o.guard=some (g,b):=by rfl) (hc:calleeOf S.tm (getCall o)=some (F,args.map (renD (rk0 ks (wkey nx0 i)))):=by rfl)
    (hks:ks.length=h.length:=by rfl) (hnd:ks.Nodup:=by decide) (hf:fitsT nt o.dst=true:=by rfl) :
    XK K P m f nt R (some ⟨all,dr,i,o :: rest,lg,nx0⟩) k S :=
  XK.call hD ks (getCall o) hop (.inr ⟨g,b,hg,hx⟩) hc hok hfn hks hnd hhp hm hb hlen hf hdr next
theorem XK.gskip {all : Array Oper} {dr : Bool} {i : Nat} {o : Oper} {rest : List Oper} {lg : Lg} {nx0 : Nat} {k : List Item} {S : Ms} (g : Nat) (b : Bool) (d0 : D)
    (next:XK K P m f nt R (some ⟨all,dr,i+1,rest,upd lg i (some ([],[])),nx0⟩) k ⟨setT S.tm o.dst (some (.when false d0)),S.hp,S.nx⟩)
    (hb:∀ j,j<64→S.hp (wkey nx0 i+j)=none:=by first | (intro j hj;rfl) | (intro j hj;simp only [upd,wkey,hpL,hOf,List.getElem?_nil];(repeat' split)<;>first | (exfalso;omega) | rfl | (apply List.getElem?_eq_none;simp only [List.length_cons,List.length_nil];omega))) (hdr:dr=true→lgok nx0 all lg i [] []=true:=by intro h;cases h)
    (hx:guardB all S.tm g b=some false:=by first | rfl | simp [guardB,evT,upd,peelB,peelD,DB,DI])
    (hm:m≤wkey nx0 i:=by first | exact Nat.zero_le _ | (simp only [wkey];decide))
    (hop:o.op = .call (getCall o):=by rfl) (hcf:∃ f,(getCall o).callee = .value f:=by exact ⟨_,rfl⟩) (hg:o.guard=some (g,b):=by rfl)
    (hf:fitsT nt o.dst=true:=by rfl) :
    XK K P m f nt R (some ⟨all,dr,i,o :: rest,lg,nx0⟩) k S :=
  XK.gpure g b false (getCall o) hg hx hop hcf (fun e=>by cases e) hm hb hf hdr next
end
open Go.RowKit
def ints (xs:List Int):D := .c (.isl 1 (xs.map fun n=>[.v (.int .i64 n)]))
theorem fits_of_wf {k:IntKind} {n:Int} (h:(Lit.int k n).wf=true):InK k n:=by
  simp only [Lit.wf,Bool.and_eq_true,decide_eq_true_eq] at h
  obtain ⟨h1,h2⟩:=h
  cases k<;>simp [IntKind.min,IntKind.max,IntKind.signed,IntKind.bits] at h1 h2<;>simp only [InK]<;>omega
theorem DC.below {P : Program} {F : FuncId} {args : List D} {w : World} {vs : Array Value} (h : DC P F args [] (fun d h' => d = DB true ∧ h' = [])) (hvs : ∀ s, RDs (fun b => b < w.heap.size) w s vs args) (h0 : Yn.n = w.heap.size := by rfl) (h1 : ∀ b, w.heap[b]? = Yn.o b := by intro _; rfl) :
    Calls P F vs w fun e w'=>e = .returned (.bool true)∧Below w.heap.size w w':=by
  refine (h (fun b=>b<w.heap.size) w (fun _=>none) vs ⟨fun _ _=>rfl,fun k cs hk=>by simp [hpL] at hk,fun k k' b cs cs' hk=>by simp [hpL] at hk,fun b hb=>hb,⟨by omega,fun b ⟨k,cs,hk,_⟩=>by simp [hpL] at hk,fun b _=>h1 b⟩,fun b hb hn=>absurd hb (by omega)⟩ (hvs _)).mono fun e w' ⟨v,I',s',d,h',he,⟨hd,_⟩,hrd,_,hE,_⟩=>?_
  subst hd
  obtain ⟨rfl,_⟩:=rd_scalar hrd
  exact ⟨he,hE.os,hE.tape,hE.output,hE.size,fun k hk=>hE.same k hk fun ⟨j,cs,hj,_⟩=>by simp [hpL] at hj⟩
theorem RDs.one {I:Nat→Prop} {w:World} {s:Sg} {v:Value} {d:D} (h:RD I w s v d):RDs I w s #[v] [d] :=
  ⟨rfl, fun j hj _ => by have : j = 0 := by simpa using hj
                         subst this;exact h⟩
theorem RDs.two {I:Nat→Prop} {w:World} {s:Sg} {v v':Value} {d d':D} (h:RD I w s v d) (h':RD I w s v' d'):RDs I w s #[v,v'] [d,d'] :=
  ⟨rfl,fun j hj _=>by
    match j,hj with
    | 0,_=>exact h
    | 1,_=>exact h'⟩
theorem RDs.three {I:Nat→Prop} {w:World} {s:Sg} {v v' v'':Value} {d d' d'':D} (h:RD I w s v d) (h':RD I w s v' d') (h'':RD I w s v'' d''):RDs I w s #[v,v',v''] [d,d',d''] :=
  ⟨rfl,fun j hj _=>by
    match j,hj with
    | 0,_=>exact h
    | 1,_=>exact h'
    | 2,_=>exact h''⟩
inductive Ex where
  | mk (kind value:Int) (kids:List Ex)
inductive St1 where
  | mk (kind target:Int) (index value:Ex) (count:Int) (body els:List St1)
namespace Ex
def kind:Ex→Int | mk k _ _=>k
def value:Ex→Int | mk _ v _=>v
def kids:Ex→List Ex | mk _ _ ks=>ks
end Ex
namespace St1
def kind:St1→Int | mk k _ _ _ _ _ _=>k
def target:St1→Int | mk _ t _ _ _ _ _=>t
def index:St1→Ex | mk _ _ i _ _ _ _=>i
def value:St1→Ex | mk _ _ _ v _ _ _=>v
def count:St1→Int | mk _ _ _ _ c _ _=>c
def body:St1→List St1 | mk _ _ _ _ _ b _=>b
def els:St1→List St1 | mk _ _ _ _ _ _ e=>e
end St1
structure Pg where
  vars:List Int
  arrays:List Int
  body:List St1
structure Mm where
  vals:List Int
  arrays:List (List Int)
structure Ev where
  kind:Int
  value:Int
abbrev I64 (n:Int):C := .v (.int .i64 n)
def isI (xs:List Int):C := .isl 1 (xs.map fun n=>[I64 n])
mutual
def Ex.cells : Ex → List C
  | .mk k v ks=>[I64 k,I64 v,.isl 3 (Ex.cellsL ks)]
def Ex.cellsL : List Ex → List (List C)
  | []=>[]
  | e :: r=>Ex.cells e :: Ex.cellsL r
end
mutual
def St1.cells : St1 → List C
  | .mk k t i v c b e=>[I64 k,I64 t]++i.cells++v.cells++[I64 c,.isl 11 (St1.cellsL b),.isl 11 (St1.cellsL e)]
def St1.cellsL : List St1 → List (List C)
  | []=>[]
  | s :: r=>St1.cells s :: St1.cellsL r
end
def Pg.cells (p:Pg):List C:=[isI p.vars,isI p.arrays,.isl 11 (St1.cellsL p.body)]
def Mm.cells (m:Mm):List C:=[isI m.vals,.isl 1 (m.arrays.map fun a=>[isI a])]
def Ev.cells (e:Ev):List C:=[I64 e.kind,I64 e.value]
theorem Ex.cellsL_eq : ∀ l : List Ex, Ex.cellsL l = l.map Ex.cells
  | []=>rfl
  | e :: r=>by simp [Ex.cellsL,Ex.cellsL_eq r]
theorem St1.cellsL_eq : ∀ l : List St1, St1.cellsL l = l.map St1.cells
  | []=>rfl
  | e :: r=>by simp [St1.cellsL,St1.cellsL_eq r]
theorem Ex.cellsL_length (l:List Ex):(Ex.cellsL l).length=l.length:=by rw [Ex.cellsL_eq,List.length_map]
theorem Ex.cellsL_get (l:List Ex) (i:Nat):(Ex.cellsL l)[i]? = l[i]?.map Ex.cells:=by rw [Ex.cellsL_eq,List.getElem?_map]
theorem St1.cellsL_length (l:List St1):(St1.cellsL l).length=l.length:=by rw [St1.cellsL_eq,List.length_map]
theorem St1.cellsL_get (l:List St1) (i:Nat):(St1.cellsL l)[i]? = l[i]?.map St1.cells:=by rw [St1.cellsL_eq,List.getElem?_map]
theorem Ex.cells_len (e:Ex):e.cells.length=3:=by cases e;simp [Ex.cells]
theorem St1.cells_len (s:St1):s.cells.length=11:=by cases s;simp [St1.cells,Ex.cells_len]
end Go.CT
