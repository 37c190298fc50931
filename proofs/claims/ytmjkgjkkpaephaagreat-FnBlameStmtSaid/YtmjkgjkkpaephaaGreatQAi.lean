/- Calls taken by contracts out of a list: what fails, fails early. -/
import Derived.KernelRfl
import Derived.Test.YtmjkgjkkpaephaaGreatQAh
set_option linter.unusedVariables false
set_option linter.unusedSimpArgs false
set_option maxHeartbeats 16000000
set_option maxRecDepth 100000
namespace Go.CT
section
variable {P:Program} {m:Nat} {f:FuncId} {nt:Nat} {R:D→List (Option (List C))→Prop}
theorem XK.p {all : Array Oper} {dr : Bool} {i : Nat} {o : Oper} {rest : List Oper} {lg : Lg} {nx0 : Nat} {k : List Item} {S : Ms} {F : FuncId} {args : List D} {d0 : D}
    (hD:DC P F args [] (fun d h'=>d=d0∧h'=[])) (hfn:fnOK P F=true)
    (next:XK P m f nt R (some ⟨all,dr,i+1,rest,upd lg i (some ([],[])),nx0⟩) k ⟨setT S.tm o.dst (some d0),S.hp,S.nx⟩)
    (hop:o.op = .call (getCall o):=by rfl) (hg:o.guard=none:=by rfl) (hc:calleeOf S.tm (getCall o)=some (F,args.map (renD (rk0 [] (wkey nx0 i)))):=by rfl) (hok:okB S.tm (getCall o).operands.toList=true:=by rfl)
    (hren:renD (rkey [] (wkey nx0 i)) d0=d0:=by rfl) (hm:m≤wkey nx0 i:=by first | exact Nat.zero_le _ | (simp only [wkey];decide)) (hf:fitsT nt o.dst=true:=by rfl)
    (hb:∀ j,j<64→S.hp (wkey nx0 i+j)=none:=by exact hbT ()) (hdr:dr=true→lgok nx0 all lg i [] []=true:=by first | (intro h;cases h;done) | (intro _;kernel_rfl)) :
    XK P m f nt R (some ⟨all,dr,i,o :: rest,lg,nx0⟩) k S :=
  XK.pure hD (getCall o) hop hg hc (okP_of hok) hfn hm hb hf hdr (by rw [hren];exact next)
theorem XK.gp {all : Array Oper} {dr : Bool} {i : Nat} {o : Oper} {rest : List Oper} {lg : Lg} {nx0 : Nat} {k : List Item} {S : Ms} {F : FuncId} {args : List D} {d0 : D} {g : Nat} {b x : Bool}
    (hD:DC P F args [] (fun d h'=>d=d0∧h'=[])) (hfn:fnOK P F=true)
    (next:XK P m f nt R (some ⟨all,dr,i+1,rest,upd lg i (some ([],[])),nx0⟩) k ⟨setT S.tm o.dst (some (.when x d0)),S.hp,S.nx⟩)
    (hop:o.op = .call (getCall o):=by rfl) (hg:o.guard=some (g,b):=by rfl) (hc:calleeOf S.tm (getCall o)=some (F,args.map (renD (rk0 [] (wkey nx0 i)))):=by rfl)
    (hx:guardB all S.tm g b=some x:=by rfl)
    (hok:x=true→okP S.tm (getCall o).operands.toList:=by intro hx;simp [okP,getCall,Call.operands,evT,upd,peelB,DB,DI,cst,one] at hx ⊢;first | done | exact hx | (simp_all;done) | omega)
    (hren:renD (rkey [] (wkey nx0 i)) d0=d0:=by rfl) (hm:m≤wkey nx0 i:=by first | exact Nat.zero_le _ | (simp only [wkey];decide))
    (hcf:∃ f,(getCall o).callee = .value f:=by exact ⟨_,rfl⟩) (hf:fitsT nt o.dst=true:=by rfl)
    (hb:∀ j,j<64→S.hp (wkey nx0 i+j)=none:=by exact hbT ()) (hdr:dr=true→lgok nx0 all lg i [] []=true:=by first | (intro h;cases h;done) | (intro _;kernel_rfl)) :
    XK P m f nt R (some ⟨all,dr,i,o :: rest,lg,nx0⟩) k S :=
  XK.gpure g b x (getCall o) hg hx hop hcf (fun e=>⟨F,args,hc,hok e,hfn,hD,hren⟩) hm hb hf hdr next
theorem XK.gs {all : Array Oper} {dr : Bool} {i : Nat} {o : Oper} {rest : List Oper} {lg : Lg} {nx0 : Nat} {k : List Item} {S : Ms} {g : Nat} {b : Bool} (d0 : D)
    (next:XK P m f nt R (some ⟨all,dr,i+1,rest,upd lg i (some ([],[])),nx0⟩) k ⟨setT S.tm o.dst (some (.when false d0)),S.hp,S.nx⟩)
    (hop:o.op = .call (getCall o):=by rfl) (hg:o.guard=some (g,b):=by rfl)
    (hx:guardB all S.tm g b=some false:=by first | rfl | (simp [guardB,evT,upd,peelB,peelD,DB,DI];done))
    (hm:m≤wkey nx0 i:=by first | exact Nat.zero_le _ | (simp only [wkey];decide))
    (hcf:∃ f,(getCall o).callee = .value f:=by exact ⟨_,rfl⟩) (hf:fitsT nt o.dst=true:=by rfl)
    (hb:∀ j,j<64→S.hp (wkey nx0 i+j)=none:=by exact hbT ()) (hdr:dr=true→lgok nx0 all lg i [] []=true:=by first | (intro h;cases h;done) | (intro _;kernel_rfl)) :
    XK P m f nt R (some ⟨all,dr,i,o :: rest,lg,nx0⟩) k S :=
  XK.gpure g b false (getCall o) hg hx hop hcf (fun e=>by cases e) hm hb hf hdr next
end
def HH (hp : Hp) (r : Nat → Nat) : List Nat → List (Option (List C)) → Prop
  | [],[]=>True
  | k :: ks,h :: hs=>hp k=some (h.map (renCs r))∧HH hp r ks hs
  | _,_=>False
theorem hhpG {hp : Hp} {r : Nat → Nat} : ∀ {ks : List Nat} {hs : List (Option (List C))}, HH hp r ks hs → ∀ i' x, hs[i']? = some x → hp (ks.getD i' 0) = some (x.map (renCs r))
  | [],[],_,i',x,hx=>by simp at hx
  | k :: ks,h :: hs,hh,0,x,hx=>by simp only [List.getElem?_cons_zero,Option.some.injEq] at hx;subst hx;exact hh.1
  | k :: ks,h :: hs,hh,i' + 1,x,hx=>by
    have:=hhpG hh.2 i' x (by simpa using hx)
    simpa using this
section
variable {P:Program} {m:Nat} {f:FuncId} {nt:Nat} {R:D→List (Option (List C))→Prop}
theorem kfs_mapI (l:List C) (h:∀ c ∈ l,kf c=true):kfs l=true:=by
  induction l with
  | nil=>rfl
  | cons a r ih=>simp only [kfs,Bool.and_eq_true];exact ⟨h a (by simp),ih fun c hc=>h c (by simp [hc])⟩
def KF : List (Option (List C)) → Prop
  | []=>True
  | none :: r=>KF r
  | some cs :: r=>kfs cs=true∧KF r
theorem KF.mem : ∀ {h : List (Option (List C))}, KF h → ∀ cs, some cs ∈ h → kfs cs = true
  | none :: r,hk,cs,hm=>KF.mem (h:=r) hk cs (by simpa using hm)
  | some c :: r,hk,cs,hm=>by
    rcases List.mem_cons.1 hm with e | e
    · cases e;exact hk.1
    · exact KF.mem hk.2 cs e
theorem XK.rp {all : Array Oper} {dr : Bool} {i : Nat} {o : Oper} {rest : List Oper} {lg : Lg} {nx0 : Nat} {k : List Item} {S : Ms} {F : FuncId} {args : List D} {h : List (Option (List C))} {d0 : D}
    (ks:List Nat) (hD:DC P F args h (fun d h'=>d=d0∧h'=h)) (hfn:fnOK P F=true) (hh:HH S.hp (rk0 ks (wkey nx0 i)) ks h) (hkf:KF h)
    (next:XK P m f nt R (some ⟨all,dr,i+1,rest,upd lg i (some (ks,[])),nx0⟩) k ⟨setT S.tm o.dst (some (renD (rkey ks (wkey nx0 i)) d0)),S.hp,S.nx⟩)
    (hop:o.op = .call (getCall o):=by rfl) (hg:o.guard=none:=by rfl) (hc:calleeOf S.tm (getCall o)=some (F,args.map (renD (rk0 ks (wkey nx0 i)))):=by rfl) (hok:okB S.tm (getCall o).operands.toList=true:=by rfl)
    (hks:ks.length=h.length:=by rfl) (hnd:ks.Nodup:=by decide) (hm:m≤wkey nx0 i:=by first | exact Nat.zero_le _ | (simp only [wkey];decide)) (hf:fitsT nt o.dst=true:=by rfl)
    (hb:∀ j,j<64→S.hp (wkey nx0 i+j)=none:=by exact hbT ()) (hdr:dr=true→lgok nx0 all lg i ks []=true:=by first | (intro h;cases h;done) | (intro _;kernel_rfl)) :
    XK P m f nt R (some ⟨all,dr,i,o :: rest,lg,nx0⟩) k S:=by
  simp only [XK,dopsL]
  refine Pre.intro ⟨ks,[],_,.rcall (getCall o) F args ks h _ (.inl hg) hop hc (okP_of hok) hfn hD hks hnd (hhpG hh) hm hb (fun d h' e=>e.2) hkf.mem,hf,fun e=>⟨hdr e,_,_,d0,⟨rfl,rfl⟩,rfl,rfl⟩,fun d up ht=>?_⟩
  obtain ⟨d',⟨rfl,_⟩,rfl,rfl⟩:=ht
  exact next
end
section
variable {P:Program} {m:Nat} {f:FuncId} {nt:Nat} {R:D→List (Option (List C))→Prop}
structure Mh (m : Nat) (r : Nat → Option Nat) (fz : List Nat) (tl : List (Nat × D)) (hT : Hp) (S : Ms) : Prop where
  tm:TmOK hT r S.hp fz S.tm tl
  hp:SubH m r fz hT S.hp
theorem Go.subH {r:Nat→Option Nat} {fz:List Nat} {tl:List (Nat × D)} {hT:Hp} {S:Ms} {k:List Item} (nx:Nat) (h:Mh m r fz tl hT S) (hg:Go P m f nt R k ⟨tOf tl,hT,nx⟩):Go P m f nt R k S:=fun I w s a hR cs=>by
  obtain ⟨H',E'⟩:=h.hp.sim hR.H
  have hR':Rc (subI fz S.hp s I) w (subS r hT s) a (tOf tl) hT nt:=⟨H',fun n d hd=>by
    obtain ⟨d',h1,h2⟩:=h.tm.at n d hd
    exact DM.rd hR.H d d' h2 (hR.tm n d' h1),hR.df,hR.sz⟩
  obtain ⟨v,w',fr,I',s',d,h',g1,g2,g3,g4,g5,g6,g7⟩:=hg _ w _ a hR' cs
  exact ⟨v,w',fr,I',s',d,h',g1,g2,g3,E'.trans g4,g5,g6,g7⟩
theorem Mh.sub {r:Nat→Option Nat} {fz:List Nat} {tl:List (Nat × D)} {hT:Hp} {S:Ms} (h:Mh m r fz tl hT S) (lg lg':Lg):Sub m nt ⟨S.tm,S.hp,lg⟩ ⟨tOf tl,hT,lg'⟩:=fun I w s a hR=>by
  obtain ⟨H',E'⟩:=h.hp.sim hR.H
  exact ⟨_,_,⟨H',fun n d hd=>by
    obtain ⟨d',h1,h2⟩:=h.tm.at n d hd
    exact DM.rd hR.H d d' h2 (hR.tm n d' h1),hR.df,hR.sz⟩,E'⟩
theorem XK.subH {all : Array Oper} {i : Nat} {rest : List Oper} {lg : Lg} {nx0 : Nat} {k : List Item} {S : Ms} {r : Nat → Option Nat} {fz : List Nat} {tl : List (Nat × D)} {hT : Hp} (h : Mh m r fz tl hT S)
    (hn:XK P m f nt R (some ⟨all,false,i,rest,lg,nx0⟩) k ⟨tOf tl,hT,S.nx⟩):XK P m f nt R (some ⟨all,false,i,rest,lg,nx0⟩) k S :=
  XK.sub (S':=⟨tOf tl,hT,S.nx⟩) (lg':=lg) (h.sub lg lg) hn
end
theorem CMs.app {hT hS : Hp} {r : Nat → Option Nat} {fz : List Nat} : ∀ {as as' bs bs' : List C}, CMs hT r hS fz as as' → CMs hT r hS fz bs bs' → CMs hT r hS fz (as ++ bs) (as' ++ bs')
  | [],as',bs,bs',h,h'=>by simp only [CMs] at h;subst h;exact h'
  | a :: as,[],bs,bs',h,h'=>by simp [CMs] at h
  | a :: as,a' :: as',bs,bs',h,h'=>by
    simp only [CMs,List.cons_append] at h ⊢
    exact ⟨h.1,CMs.app h.2 h'⟩
theorem CMs.set {hT hS : Hp} {r : Nat → Option Nat} {fz : List Nat} : ∀ {as bs : List C} (i : Nat) {a b : C}, CMs hT r hS fz as bs → CM hT r hS fz a b → CMs hT r hS fz (as.set i a) (bs.set i b)
  | [],bs,i,a,b,h,_=>by simp only [CMs] at h;subst h;simp [CMs]
  | x :: as,[],i,a,b,h,_=>by simp [CMs] at h
  | x :: as,y :: bs,0,a,b,h,h'=>by
    simp only [CMs] at h
    simp only [List.set_cons_zero,CMs]
    exact ⟨h',h.2⟩
  | x :: as,y :: bs,i+1,a,b,h,h'=>by
    simp only [CMs] at h
    simp only [List.set_cons_succ,CMs]
    exact ⟨h.1,CMs.set i h.2 h'⟩
end Go.CT
/- Blocks lent: a call that is known for plain data may be given blocks that somebody owns; it leaves them as they are. -/
namespace Go.CT
theorem DC.borrow {P : Program} {F : FuncId} {args args' : List D} {h : List (Option (List C))} {y : Value} (fz : List Nat) (hm : DMs (hOf (enumL 0 [])) (fun _ => none) (hpL h) fz args args') (hD : DC P F args [] (fun r h => r = .c (.v y) ∧ h = [])) :
    DC P F args' h (fun r h'=>r = .c (.v y)∧h'=h):=fun I w s vs H hv=>by
  have hs:SubH 0 (fun _=>none) fz (hOf (enumL 0 [])) (hpL h) :=
    ⟨fun k cs hk=>by simp [enumL,hOf] at hk,fun k k' cs cs' j h1=>by simp [enumL,hOf] at h1,fun k hk=>by omega⟩
  obtain ⟨H',_⟩:=hs.sim H
  have hv':=DMs.rds (r:=fun _=>none) (fz:=fz) (hT:=hOf (enumL 0 [])) H args args' vs.toList hm (by simpa using hv)
  rw [Array.toArray_toList] at hv'
  rw [hpL_enum] at H' hv'
  refine (hD _ w _ vs H' hv').mono ?_
  rintro e w' ⟨v,I',s'',d,h',rfl,⟨rfl,rfl⟩,hrd,hH,hE,hl⟩
  have same:∀ b,b<w.heap.size→w'.heap[b]? = w.heap[b]? := fun b hb=>hE.same b hb fun hn=>by
    obtain ⟨k,cs,h1,_⟩:=hn
    simp [hpL] at h1
  refine ⟨v,I,s,.c (.v y),h,rfl,⟨rfl,rfl⟩,?_,⟨H.top,fun k cs hk=>?_,H.inj,fun b hb=>Nat.lt_of_lt_of_le (H.imm b hb) hE.size⟩,
    ⟨hE.os,hE.tape,hE.output,hE.size,fun b hb _=>same b hb,hE.shp,fun _ _=>rfl,fun _ h=>h,fun _ h => .inl h,fun _ h => .inl h⟩,Nat.le_refl _⟩
  · cases hrd with
    | c _ _ hc=>cases hc with | v _ _ h1=>exact .c _ _ (.v _ _ h1)
  · rcases H.blk k cs hk with h1 | ⟨b,arr,T,h1,h2,h3,h4,h5⟩
    · exact .inl h1
    · have hb:b<w.heap.size:=by
        rcases Nat.lt_or_ge b w.heap.size with hb | hb
        · exact hb
        · rw [Array.getElem?_eq_none hb] at h2;cases h2
      refine .inr ⟨b,arr,T,h1,by rw [same b hb];exact h2,h3,h4,fun j hj=>?_⟩
      obtain ⟨y,hy,hr⟩:=h5 j hj
      exact ⟨y,hy,hr.mono (fun _ h=>h) (fun b hb=>same b (H.imm b hb)) hE.shp (fun _ _ h=>h)⟩
end Go.CT
/- A contract weakened: what is left may be taken for other data. -/
namespace Go.CT
end Go.CT
