/- Contracts of functions of the program, one behind the other, as plain data: what each call returns and which blocks it leaves. -/
import Derived.Test.YtbknljofedfpjaaGreatYFacts
import Derived.Test.YtbknljofedfpjaaGreatYAi
import Derived.Test.YtbknljofedfpjaaGreatYAk
import Derived.Test.YtbknljofedfpjaaGreatYAl
import Derived.Test.YtbknljofedfpjaaGreatYAm
import Derived.Test.YtbknljofedfpjaaGreatYAn
import Derived.Test.YtbknljofedfpjaaGreatYAo
import Derived.Test.YtbknljofedfpjaaGreatYAr
import Derived.Test.YtbknljofedfpjaaGreatYAp
import Derived.Test.YtbknljofedfpjaaGreatYAq
set_option linter.unusedVariables false
set_option linter.unusedSimpArgs false
set_option linter.unusedSectionVars false
set_option maxHeartbeats 16000000
set_option maxRecDepth 100000
namespace Go.Proofs.YtbknljofedfpjaaGreat.CtL
variable [Go.CT.Yn]
open Go Go.CT CtF CtR
theorem prj_idem (l:List Ev):prj (prj l)=prj l:=by simp [prj,List.filter_filter]
theorem prj_5 (n:Int) (l:List Ev):prj (⟨5,n⟩ :: l)=prj l:=by simp [prj]
theorem prj_1 (n:Int) (l:List Ev):prj (⟨1,n⟩ :: l)=prj l:=by simp [prj]
theorem prj_k {k:Int} (h:2≤k∧k≤4) (n:Int) (l:List Ev):prj (⟨k,n⟩ :: l)=⟨k,n⟩ :: prj l:=by simp [prj,h.1,h.2]
theorem prj_nil:prj []=[]:=rfl
theorem xE_prj {p : Pg} {m : Mm} : ∀ (d : Nat) (e : Ex), CtR.shape p d e = true → ∀ b, prj (xE m d b e) = (evalE m d e).2
  | 0,_,h,_=>by simp [CtR.shape] at h
  | d+1,.mk k v ks,h,b=>by
    rcases shape_form h with ⟨hk,rfl⟩ | ⟨a,rfl,rfl,ha,hat⟩ | ⟨a,b',k4,k10,rfl,ha,hb⟩ | ⟨a,b',c,rfl,rfl,ha,hb,hc⟩
    · rcases hk with ⟨rfl,_⟩ | rfl<;>simp [xE,seqX,evalE,prj_5,prj_nil]
    · simp only [xE,seqX,List.append_nil,if_true,prj_app,prj_5,prj_k (show (2:Int)≤2∧(2:Int)≤4 by decide),prj_nil,xE_prj d a ha]
      simp [evalE]
    · have n1:k ≠ 1:=by omega
      have n2:k ≠ 2:=by omega
      have n3:k ≠ 3:=by omega
      have n11:k ≠ 11:=by omega
      simp only [xE,seqX,List.append_nil,if_neg n3,prj_app,prj_5,prj_nil,xE_prj d a ha,xE_prj d b' hb]
      simp [evalE,n1,n2,n3,n11]
    · simp only [xE,seqX,List.append_nil,show ¬ ((11:Int)=3) by decide,if_false,prj_app,prj_5,prj_nil,xE_prj d a ha,xE_prj d b' hb,xE_prj d c hc]
      simp [evalE]
theorem ev_atom {p:Pg} {m:Mm} {d:Nat} {e:Ex} (hs:CtR.shape p d e=true) (ha:atom e=true):(evalE m d e).2=[]:=by
  obtain ⟨k,v,rfl,hk⟩:=atom_mk hs ha
  match d with
  | 0=>rfl
  | d+1=>rcases hk with ⟨rfl,_⟩ | ⟨rfl,_⟩<;>simp [evalE]
theorem seqT_prj {f : Nat → Mm → St1 → List Ev} {len : St1 → Nat} {g : Mm → St1 → Mm × List Ev} : ∀ (l : List St1) (b : Nat) (m : Mm), (∀ s ∈ l, ∀ b m, prj (f b m s) = prj (g m s).2) → prj (seqT f len g b m l) = prj (foldR g m l).2
  | [],_,_,_=>rfl
  | s :: r,b,m,h=>by
    simp only [seqT,foldR,prj_app]
    rw [h s (by simp),seqT_prj r _ _ fun s hs=>h s (by simp [hs])]
theorem iterX_prj {f : Mm → List Ev} {g : Mm → Mm × List Ev} (h : ∀ m, prj (f m) = prj (g m).2) : ∀ (n : Nat) (m : Mm), prj (iterX f g n m) = prj (iterR g n m).2
  | 0,_=>rfl
  | n+1,m=>by
    simp only [iterX,iterR,prj_app]
    rw [iterX_prj h n m,h]
theorem xS_prj {p : Pg} : ∀ (d : Nat) (s : St1), stmtOK p d s = true → ∀ b m, prj (xS d b m s) = prj (runS d m s).2
  | 0,_,h,_,_=>by simp [stmtOK] at h
  | d+1,.mk k t ix v c bd el,h,b,m=>by
    obtain ⟨hh,hb,he⟩:=stmtOK_succ h
    have ib:=fun b m=>seqT_prj (f:=xS d) (len:=lenS d) (g:=runS d) bd b m fun s hs b m=>xS_prj d s (hb s hs) b m
    have ie:=fun b m=>seqT_prj (f:=xS d) (len:=lenS d) (g:=runS d) el b m fun s hs b m=>xS_prj d s (he s hs) b m
    rcases head_kind hh with ⟨hk,ht0,ht1,hr⟩ | ⟨rfl,ht0,ht1,hri,hai,hr⟩ | ⟨rfl,hr⟩ | ⟨rfl,hc1,hc3⟩
    · have hx:=xE_prj (m:=m) 5 v (right_shape hr).1 b
      have hx2:prj (evalE m 5 v).2=(evalE m 5 v).2:=by rw [← hx,prj_idem]
      rcases hk with rfl | rfl
      · simp [xS,runS,prj_app,prj_5,prj_nil,hx,hx2]
      · simp [xS,runS,prj_app,prj_5,prj_nil,hx,hx2,prj_k (show (2:Int)≤4∧(4:Int)≤4 by decide)]
    · have hx:=xE_prj (m:=m) 5 v (right_shape hr).1 b
      have hx2:prj (evalE m 5 v).2=(evalE m 5 v).2:=by rw [← hx,prj_idem]
      have hi:=xE_prj (m:=m) 5 ix (right_shape hri).1 (b+cnt 5 v)
      rw [ev_atom (right_shape hri).1 hai] at hi
      simp [xS,runS,prj_app,prj_5,prj_nil,hx,hx2,hi,prj_k (show (2:Int)≤3∧(3:Int)≤4 by decide)]
    · have hx:=xE_prj (m:=m) 5 v (right_shape hr).1 b
      have hx2:prj (evalE m 5 v).2=(evalE m 5 v).2:=by rw [← hx,prj_idem]
      by_cases hv:(evalE m 5 v).1=0
      · simp [xS,runS,hv,prj_app,prj_5,prj_1,prj_nil,hx,hx2,ie]
      · simp [xS,runS,hv,prj_app,prj_5,prj_1,prj_nil,hx,hx2,ib]
    · have:=iterX_prj (f:=fun m=>seqT (xS d) (lenS d) (runS d) (b+1) m bd++[⟨5,(b+1+lenL d bd:Nat)⟩]) (g:=fun m=>foldR (runS d) m bd) (fun m=>by simp [prj_app,prj_5,prj_nil,ib]) c.toNat m
      simp only [xS,runS,if_true,prj_5]
      exact this
open Go Go.CT CtF CtR
def kindsOf (op:Int):List Nat :=
  if op=1 then [1,2,0,0] else if op=2 then [1,3,0,0] else if op=3 then [3,1,0,0] else if op=4 then [1,4,1,0] else if op=5 then [4,1,1,0]
  else if op=6 then [1,5,1,1] else if op=7 then [1,1,1,1] else if op=8 then [6,0,0,0] else if op=9 then [1,6,0,0] else if op=10 then [1,6,0,0]
  else if op=11 then [1,0,0,0] else [0,0,0,0]
def topOf (nv na nl:Nat) (k:Nat):Int:=if k=0 then 0 else if k=1 then 13 else if k=2 then 255 else if k=3 then (nv:Int) - 1 else if k=4 then (na:Int) - 1 else if k=5 then 10 else (nl:Int) - 1
def fOK (nv na nl:Nat) (k:Nat) (n:Int):Bool:=decide ((if k=5 then 4 else 0)≤n) && decide (n≤topOf nv na nl k)
def inOK (nv na nl:Nat) (x:In):Bool:=decide (1≤x.op) && decide (x.op≤13) && fOK nv na nl ((kindsOf x.op).getD 0 0) x.a && fOK nv na nl ((kindsOf x.op).getD 1 0) x.b && fOK nv na nl ((kindsOf x.op).getD 2 0) x.c && fOK nv na nl ((kindsOf x.op).getD 3 0) x.d
def endOK (l:List In):Bool:=(atC l (l.length - 1)).op == 13 || (atC l (l.length - 1)).op == 8
def codeOK (c:Cd):Bool:=headsOK c.vars c.arrays && decide (1≤(c.list.length:Int)) && decide ((c.list.length:Int)≤400) && c.list.all (inOK c.vars.length c.arrays.length c.list.length) && endOK c.list
def runC (c:Cd) (m:Mm):Mm × List Ev × Bool :=
  if codeOK c && memOK c.vars c.arrays m then (match runM c.list 20000 ⟨0,List.replicate 14 0,m⟩ with | some q=>(q.1,q.2,true) | none=>(⟨[],[]⟩,[],false)) else (⟨[],[]⟩,[],false)
theorem seqE_mem {f : Ex → Nat → List In} {x : In} : ∀ (l : List Ex) (n : Nat), x ∈ seqE f n l → ∃ e ∈ l, ∃ j, n ≤ j ∧ j < n + l.length ∧ x ∈ f e j
  | [],n,h=>by simp [seqE] at h
  | a :: r,n,h=>by
    rw [seqE,List.mem_append] at h
    rcases h with h | h
    · exact ⟨a,by simp,n,by simp,by simp,h⟩
    · obtain ⟨e,he,j,h1,h2,h3⟩:=seqE_mem r (n+1) h
      exact ⟨e,by simp [he],j,by omega,by simp;omega,h3⟩
theorem kE_ok {p : Pg} {nl : Nat} : ∀ (d : Nat) (e : Ex) (n : Nat), CtR.shape p d e = true → n + 2 * d ≤ 13 → ∀ x ∈ kE d e n, inOK p.vars.length p.arrays.length nl x = true ∧ x.op < 8
  | 0,_,_,h,_,_,_=>by simp [CtR.shape] at h
  | d+1,.mk k v ks,n,h,hn,x,hx=>by
    obtain ⟨g1,g2,g3⟩:=shape_succ h
    obtain ⟨_,_,hv0,hv1⟩:=fits_len g1
    rcases shape_form h with ⟨hk,rfl⟩ | ⟨a,rfl,rfl,ha,hat⟩ | ⟨a,b',k4,k10,rfl,ha,hb⟩ | ⟨a,b',c,rfl,rfl,ha,hb,hc⟩
    · rcases hk with ⟨rfl,h0,h1⟩ | rfl
      · simp [kE] at hx;subst hx
        simp [inOK,kindsOf,fOK,topOf];omega
      · simp [kE] at hx;subst hx
        simp [limit] at hv1
        simp [inOK,kindsOf,fOK,topOf];omega
    all_goals
      rw [kE,if_neg (by omega),if_neg (by omega),List.mem_append,List.mem_singleton] at hx
      rcases hx with hx | hx
      · obtain ⟨e,he,j,h1,h2,h3⟩:=seqE_mem _ _ hx
        exact kE_ok d e j (g2 e he) (by simp at h2;omega) x h3
    · simp [limit] at hv1
      subst hx
      simp [lastE,inOK,kindsOf,fOK,topOf];omega
    · subst hx
      have n3:k ≠ 3:=by omega
      have n11:k ≠ 11:=by omega
      simp [lastE,n3,n11,inOK,kindsOf,fOK,topOf];omega
    · subst hx
      simp [lastE,inOK,kindsOf,fOK,topOf];omega
theorem seqS_mem {f : Nat → St1 → List In} {len : St1 → Nat} {x : In} : ∀ (l : List St1) (b : Nat), x ∈ seqS f len b l → ∃ s ∈ l, ∃ j, b ≤ j ∧ j + len s ≤ b + (l.map len).sum ∧ x ∈ f j s
  | [],b,h=>by simp [seqS] at h
  | a :: r,b,h=>by
    rw [seqS,List.mem_append] at h
    rcases h with h | h
    · exact ⟨a,by simp,b,by simp,by simp,h⟩
    · obtain ⟨e,he,j,h1,h2,h3⟩:=seqS_mem r _ h
      exact ⟨e,by simp [he],j,by omega,by simp only [List.map_cons,List.sum_cons];omega,h3⟩
def goodI (p:Pg) (nl:Nat) (x:In):Prop:=inOK p.vars.length p.arrays.length nl x=true∧(x.op=10→9≤x.a)
theorem cS_ok {p : Pg} {nl : Nat} : ∀ (d dep : Nat) (s : St1) (b : Nat), d + dep ≤ 5 → stmtOK p d s = true → b + lenS d s < nl → ∀ x ∈ cS d dep b s, goodI p nl x
  | 0,_,_,_,_,h,_,_,_=>by simp [stmtOK] at h
  | d+1,dep,.mk k t ix v c bd el,b,hd,h,hlt,x,hx=>by
    obtain ⟨hh,hb,he⟩:=stmtOK_succ h
    have ge:∀ e n,CtR.shape p 5 e=true→n≤3→x ∈ kE 5 e n→goodI p nl x:=fun e n hs hn hx=>by
      obtain ⟨h1,h2⟩:=kE_ok 5 e n hs (by omega) x hx
      exact ⟨h1,fun h=>by omega⟩
    have gb:∀ l b',(∀ s ∈ l,stmtOK p d s=true)→b' + lenL d l<nl→x ∈ seqS (cS d (dep+1)) (lenS d) b' l→goodI p nl x:=fun l b' hl hlt hx=>by
      obtain ⟨s,hs,j,h1,h2,h3⟩:=seqS_mem l b' hx
      exact cS_ok d (dep+1) s j (by omega) (hl s hs) (by unfold lenL at hlt;omega) x h3
    rcases head_kind hh with ⟨hk,ht0,ht1,hr⟩ | ⟨rfl,ht0,ht1,hri,hai,hr⟩ | ⟨rfl,hr⟩ | ⟨rfl,hc1,hc3⟩
    · rcases hk with rfl | rfl
      · simp [cS] at hx
        rcases hx with hx | hx
        · exact ge v 0 (right_shape hr).1 (by omega) hx
        · subst hx;refine ⟨?_,by simp⟩
          simp [inOK,kindsOf,fOK,topOf];omega
      · simp [cS] at hx
        rcases hx with hx | hx | hx
        · exact ge v 0 (right_shape hr).1 (by omega) hx
        · subst hx;refine ⟨?_,by simp⟩
          simp [inOK,kindsOf,fOK,topOf]
        · subst hx;refine ⟨?_,by simp⟩
          simp [inOK,kindsOf,fOK,topOf];omega
    · simp [cS] at hx
      rcases hx with hx | hx | hx
      · exact ge v 0 (right_shape hr).1 (by omega) hx
      · exact ge ix 1 (right_shape hri).1 (by omega) hx
      · subst hx;refine ⟨?_,by simp⟩
        simp [inOK,kindsOf,fOK,topOf];omega
    · have hlen:lenS (d+1) (.mk 3 t ix v c bd el)=cnt 5 v+lenL d bd+lenL d el+2:=by simp [lenS,lenL]
      rw [hlen] at hlt
      have hx : x ∈ kE 5 v 0 ++ (⟨9, 0, (b + cnt 5 v + lenL d bd + 2 : Nat), 0, 0⟩ :: (seqS (cS d (dep + 1)) (lenS d) (b + cnt 5 v + 1) bd ++
        (⟨8,(b+cnt 5 v+lenL d bd+lenL d el+2:Nat),0,0,0⟩ :: seqS (cS d (dep+1)) (lenS d) (b+cnt 5 v+lenL d bd+2) el))):=hx
      simp only [List.mem_append,List.mem_cons] at hx
      rcases hx with hx | hx | hx | hx | hx
      · exact ge v 0 (right_shape hr).1 (by omega) hx
      · subst hx;refine ⟨?_,by simp⟩
        simp [inOK,kindsOf,fOK,topOf];omega
      · exact gb bd _ hb (by omega) hx
      · subst hx;refine ⟨?_,by simp⟩
        simp [inOK,kindsOf,fOK,topOf];omega
      · exact gb el _ he (by omega) hx
    · have hlen:lenS (d+1) (.mk 4 t ix v c bd el)=lenL d bd+2:=by simp [lenS,lenL]
      rw [hlen] at hlt
      have hx:x ∈ ⟨1,9+dep,c,0,0⟩ :: (seqS (cS d (dep+1)) (lenS d) (b+1) bd++[⟨10,9+dep,(b+1:Nat),0,0⟩]):=hx
      simp only [List.mem_append,List.mem_cons,List.not_mem_nil,or_false] at hx
      rcases hx with hx | hx | hx
      · subst hx;refine ⟨?_,by simp⟩
        simp [inOK,kindsOf,fOK,topOf];omega
      · exact gb bd _ hb (by omega) hx
      · subst hx;refine ⟨?_,fun _=>by show (9:Int)≤9+(dep:Int);omega⟩
        simp [inOK,kindsOf,fOK,topOf];omega
def compL (p:Pg):List In:=cL 5 0 0 p.body++[halt]
def compP (p:Pg):Cd × Bool:=if progOK p=true∧lenL 5 p.body+1≤400 then (⟨p.vars,p.arrays,compL p⟩,true) else (⟨[],[],[]⟩,false)
theorem compL_len {p:Pg} (h:progOK p=true):(compL p).length=lenL 5 p.body+1:=by
  rw [compL,List.length_append,cL_len (body_of h).1];rfl
theorem compL_end {p:Pg} (h:progOK p=true):(compL p)[lenL 5 p.body]? = some halt:=by
  have:=cL_len (dep:=0) (b:=0) (body_of h).1
  rw [compL,List.getElem?_append_right (by omega),this];simp
theorem compL_good {p:Pg} (h:progOK p=true):∀ x ∈ compL p,goodI p (compL p).length x:=by
  intro x hx
  rw [compL_len h]
  rw [compL,List.mem_append,List.mem_singleton] at hx
  rcases hx with hx | rfl
  · obtain ⟨s,hs,j,h1,h2,h3⟩:=seqS_mem p.body 0 hx
    exact cS_ok 5 0 s j (by omega) ((body_of h).1 s hs) (by unfold lenL;omega) x h3
  · exact ⟨by simp [halt,inOK,kindsOf,fOK,topOf],by simp [halt]⟩
theorem comp_valid {p:Pg} (h:progOK p=true) (hl:lenL 5 p.body+1≤400):codeOK ⟨p.vars,p.arrays,compL p⟩=true:=by
  have h1:=compL_len h
  have h2:=compL_end h
  have h3:=compL_good h
  have hh:headsOK p.vars p.arrays=true:=by
    simp only [progOK,Bool.and_eq_true] at h;exact h.1.1
  simp only [codeOK,Bool.and_eq_true,List.all_eq_true,decide_eq_true_eq,hh,true_and]
  refine ⟨⟨⟨by omega,by omega⟩,fun x hx=>(h3 x hx).1⟩,?_⟩
  have:atC (compL p) ((compL p).length - 1)=halt:=by
    rw [h1,atC,List.getD_eq_getElem?_getD,Nat.add_sub_cancel,h2];rfl
  simp only [endOK]
  rw [this];rfl
def xP (p:Pg) (m:Mm):List Ev:=xL 5 0 m p.body++[⟨5,(lenL 5 p.body:Nat)⟩]
theorem memFits2 {p:Pg} {m:Mm} (h:progOK p=true) (hm:memOK p.vars p.arrays m=true):MemFits p m:=memFits_of (by rw [h,hm];rfl)
theorem xP_prj {p:Pg} {m:Mm} (h:progOK p=true):prj (xP p m)=prj (runL 5 m p.body).2:=by
  rw [xP,prj_app,prj_5,prj_nil,List.append_nil]
  exact seqT_prj p.body 0 m fun s hs b m=>xS_prj 5 s ((body_of h).1 s hs) b m
end Go.Proofs.YtbknljofedfpjaaGreat.CtL
namespace Go.Proofs.YtbknljofedfpjaaGreat.CtD
open Go Go.CT CtF CtR
variable [Yn]
theorem projI (l:List Ev) (hl:l.length≤1000000000):DC Tryz.prog 21 [.c (trD l)] [] (fun r h=>r = .c (trD (CtL.prj l))∧h=[]):=by
  have hmx:=mx_eq
  generalize hR:(fun (r:D) (h:List (Option (List C)))=>r = .c (trD (CtL.prj l))∧h=[])=R
  unfold trD
  refine dcZ Tryz.func21 ?_
  simp only [go_sem]
  iterate 2 ((try (refine drvZ Tryz.func21 ?_;simp only [go_sem]));((with_reducible and_intros)<;>try exact sd))
  refine Go.loopQ (fun i : Nat => [(3, .c (.msl 67 2 0 (CtL.prj (l.take i)).length)), (6, .c (.isl 2 (l.map Ev.cells))), (7, DI .i64 l.length), (8, DI .i64 i)]) (fun i => [(67, some (trC (CtL.prj (l.take i))))])
    4096 (fun i=>i≤l.length) (fun i=>l.length - i) ?_ 0 (fun j=>if j=67 then none else some j) [] _ (Nat.zero_le _) ?_
  · intro i hi again
    rcases Nat.lt_or_ge i l.length with hlt | hge
    · obtain ⟨⟨k,v⟩,hx⟩:∃ x,l[i]? = some x:=⟨l[i],by simp [hlt]⟩
      have hT:CtL.prj (l.take (i+1))=CtL.prj (l.take i)++CtL.prj [⟨k,v⟩]:=by rw [List.take_add_one,hx,CtL.prj_app];rfl
      have hTl:(CtL.prj (l.take i)).length≤1000000000:=Nat.le_trans (List.length_filter_le _ _) (by rw [List.length_take];omega)
      have hw:=CtR.within k 2 4
      have hp:CtL.prj [⟨k,v⟩]=if (decide (2≤k) && decide (k≤4))=true then [⟨k,v⟩] else []:=by
        simp only [CtL.prj,List.filter_cons,List.filter_nil]
      generalize CtL.prj (l.take i)=T at *
      have hcl:=trC_len T
      cases hB:(decide (2≤k) && decide (k≤4)) with
      | true =>
        rw [hB] at hw hp
        rw [if_pos rfl] at hp
        rw [hp] at hT
        refine drvL Tryz.func21 ?_
        simp only [go_sem,hx,hlt,Ev.cells]
        iterate 6 ((try (refine drvZ Tryz.func21 ?_;simp only [go_sem,hx,hlt,Ev.cells,hcl]));((with_reducible and_intros)<;>try exact sd);(try first | refine XK.p hw ok70 ?_ | refine XK.gp hw ok70 ?_))
        refine again (i+1) (fun j=>if j=67 then some 4800 else some j) [] _ hlt (by omega) ?_
        rw [hT]
        simp only [go_sem,TmOK,DM,DMs,CM,CMs,forall_eq,exists_eq_left,Mq,HpOK,LowOK,trC_snoc,List.length_append]
        simp
        exact CMs.kf (kf_app (trC_kf _) (by simp [kf]))
      | false =>
        rw [hB] at hw hp
        rw [if_neg (by simp)] at hp
        rw [hp,List.append_nil] at hT
        refine drvL Tryz.func21 ?_
        simp only [go_sem,hx,hlt,Ev.cells]
        iterate 6 ((try (refine drvZ Tryz.func21 ?_;simp only [go_sem,hx,hlt,Ev.cells,hcl]));((with_reducible and_intros)<;>try exact sd);(try first | refine XK.p hw ok70 ?_ | refine XK.gp hw ok70 ?_))
        refine again (i+1) some [] _ hlt (by omega) ?_
        rw [hT]
        simp only [go_sem,TmOK,DM,DMs,CM,CMs,forall_eq,exists_eq_left,Mq,HpOK,LowOK]
        simp [CMs_tr]
    · have hn2:¬ i<l.length:=by omega
      obtain rfl:i=l.length:=by omega
      clear again
      rw [List.take_length]
      generalize CtL.prj l=T at *
      refine drvL Tryz.func21 ?_
      simp only [go_sem,hn2]
      iterate 3 ((try (refine drvZ Tryz.func21 ?_;simp only [go_sem,hn2]));((with_reducible and_intros)<;>try exact sd))
      refine RetOb.ofQ (fun _=>none) [67] (.c (trD T)) [] ?_ (by rw [← hR];exact ⟨rfl,rfl⟩) (by simp)
      simp [enumL,hOf,DM,CM,CMs,HpOK,LowOK,upd,trD,trC]
      exact ⟨fun x _=>rfl,fun x _ c hc=>by simp [Ev.cells] at hc;rcases hc with rfl | rfl<;>rfl⟩
  · simp only [go_sem,TmOK,DM,DMs,CM,CMs,forall_eq,exists_eq_left,Mq,HpOK,LowOK]
    simp [CtL.prj,trC,CMs]
open CtL (In Cd kE cL cS seqE lenS lenL)
def inX (x:In):List C:=[I64 x.op,I64 x.a,I64 x.b,I64 x.c,I64 x.d]
def inC (l:List In):List C:=(l.map inX).flatten
theorem inC_len (l:List In):(inC l).length=l.length * 5:=by
  unfold inC
  induction l with
  | nil=>rfl
  | cons a r ih=>simp only [List.map_cons,List.flatten_cons,List.length_append,ih,inX,List.length_cons,List.length_nil];omega
theorem inC_app (a b:List In):inC (a++b)=inC a++inC b:=by simp [inC]
theorem inC_one (x:In):inC [x]=inX x:=by simp [inC]
theorem inC_kf (l:List In):∀ c ∈ inC l,kf c=true:=by
  unfold inC
  intro c hc
  obtain ⟨x,hx,hc⟩:=List.mem_flatten.1 hc
  obtain ⟨e,_,rfl⟩:=List.mem_map.1 hx
  simp only [inX,List.mem_cons,List.not_mem_nil,or_false] at hc
  rcases hc with rfl | rfl | rfl | rfl | rfl<;>rfl
theorem renCs_in (r:Nat→Nat) (l:List In):renCs r (inC l)=inC l:=by
  unfold inC
  induction l with
  | nil=>rfl
  | cons a t ih=>simp only [List.map_cons,List.flatten_cons,inX,List.cons_append,List.nil_append,renCs,renC,ih]
theorem CMs_in {hT hS:Hp} {r:Nat→Option Nat} {fz:List Nat} (l:List In):CMs hT r hS fz (inC l) (inC l)=True:=eq_true (CMs.kf (inC_kf l))
theorem I_app (a b:List Int):(a++b).map I64=a.map I64++b.map I64:=List.map_append
abbrev CsD (k j:Nat) (L:List In) (O:List Int) (a:Int):D := .agg [.msl k 5 0 L.length,.msl j 1 0 O.length,I64 a]
abbrev CsH (L:List In) (O:List Int):List (Option (List C)):=[some (inC L),some (O.map I64)]
abbrev CsR (L:List In) (O:List Int):List (Option (List C)):=[none,none,some (inC L),some (O.map I64)]
theorem RetOb.csA {R : D → List (Option (List C)) → Prop} {L : List In} {O : List Int} {a : Int} {hp : Hp} {ka kb n1 n2 : Nat} {c1 c2 : List C} (hR : R (CsD 2 3 L O a) (CsR L O)) (ha : hp ka = some (some c1)) (hb : hp kb = some (some c2))
    (e1:c1=inC L) (e2:c2=O.map I64) (e3:n1=L.length) (e4:n2=O.length) (nab:ka ≠ kb) (h0:hp 0 ≠ none) (h1:hp 1 ≠ none):RetOb 2 R (.agg [.msl ka 5 0 n1,.msl kb 1 0 n2,I64 a]) hp:=by
  subst e1 e2 e3 e4
  refine RetOb.ofQ (fun j=>if j=2 then some ka else if j=3 then some kb else some j) [] (CsD 2 3 L O a) (CsR L O) ?_ hR (by simp [CsR])
  simp [CsR,CsD,enumL,hOf,DM,DMs,CM,CMs,HpOK,LowOK,upd,ha,hb,nab,CMs_I,CMs_in,h0,h1]
theorem csAdd (L : List In) (O : List Int) (a st op xa xb xc xd : Int) (hL : L.length ≤ 100000) (hO : O.length ≤ 100000) : DC Tryz.prog 93 [CsD 0 1 L O a, DI .i64 st, .agg [I64 op, I64 xa, I64 xb, I64 xc, I64 xd]] (CsH L O)
    (fun r h=>r=CsD 2 3 (L++[⟨op,xa,xb,xc,xd⟩]) (O++[st]) a∧h=CsR (L++[⟨op,xa,xb,xc,xd⟩]) (O++[st])):=by
  have hmx:=mx_eq
  have hcl:=inC_len L
  generalize hR:(fun (r:D) (h:List (Option (List C)))=>r=CsD 2 3 (L++[⟨op,xa,xb,xc,xd⟩]) (O++[st]) a∧h=CsR (L++[⟨op,xa,xb,xc,xd⟩]) (O++[st]))=R
  refine dcZ Tryz.func93 ?_
  simp only [go_sem,hcl]
  iterate 5 ((try (refine drvZ Tryz.func93 ?_;simp only [go_sem,hcl,List.length_map]));((with_reducible and_intros)<;>try exact sd))
  exact RetOb.csA (L:=L++[⟨op,xa,xb,xc,xd⟩]) (O:=O++[st]) (by rw [← hR];exact ⟨rfl,rfl⟩) rfl rfl (by simp [inC_app,inC_one,inX]) (by simp) (by simp) (by simp) (by decide) (by simp [upd,hpL]) (by simp [upd,hpL])
open CtL (In Cd kE cL cS seqE lenS lenL lastE)
theorem rep_app (n m:Nat) (x:Int):List.replicate n x++List.replicate m x=List.replicate (n+m) x:=by
  rw [List.replicate_append_replicate]
theorem rep_one (n:Nat) (x:Int):List.replicate n x++[x]=List.replicate (n+1) x:=by
  rw [show [x]=List.replicate 1 x from rfl,rep_app]
def CsOK (p:Pg) (a st:Int) (d:Nat):Prop:=∀ (e:Ex) (reg:Nat) (L:List In) (O:List Int),CtR.shape p d e=true→reg+3 * d≤1000→L.length+cnt d e≤90000→O.length+cnt d e≤90000 →
  DC Tryz.prog 160 [CsD 0 1 L O a,DI .i64 st,.agg e.cells,DI .i64 reg] (CsH L O) (fun r h=>r=CsD 2 3 (L++kE d e reg) (O++List.replicate (cnt d e) st) a∧h=CsR (L++kE d e reg) (O++List.replicate (cnt d e) st))
theorem csExpr1 (p:Pg) (a st:Int) (d:Nat) (ih:CsOK p a st d):CsOK p a st (d+1):=by
  have hmx:=mx_eq
  intro e reg L O hsh hreg hL hO
  unfold CsOK at ih
  obtain ⟨k,v,ks⟩:=e
  obtain ⟨g1,g2,g3⟩:=shape_succ hsh
  obtain ⟨hl3,hla,hv0,hv1⟩:=fits_len g1
  have hcn:cnt (d+1) (.mk k v ks)=1+(ks.map (cnt d)).sum:=rfl
  generalize hR:(fun (r:D) (h:List (Option (List C)))=>r=CsD 2 3 (L++kE (d+1) (.mk k v ks) reg) (O++List.replicate (cnt (d+1) (.mk k v ks)) st) a∧h=CsR (L++kE (d+1) (.mk k v ks) reg) (O++List.replicate (cnt (d+1) (.mk k v ks)) st))=R
  by_cases hk:k=1∨k=2
  · have hks:ks=[]:=by
      rcases CtL.shape_form hsh with ⟨_,h⟩ | ⟨a,h,_⟩ | ⟨a,b,h,_⟩ | ⟨a,b,c,h,_⟩
      · exact h
      all_goals omega
    subst hks
    have hcs:=fun op=>csAdd L O a st op reg v 0 0 (by omega) (by omega)
    rcases hk with rfl | rfl
    · have hcs:=hcs 1
      refine dcZ Tryz.func160 ?_
      simp only [go_sem]
      iterate 4 ((try (refine drvZ Tryz.func160 ?_;simp only [go_sem]));((with_reducible and_intros)<;>try exact sd))
      refine XK.callG [0,1] hcs ok93 (hhpG (by simp [HH,upd,hpL,renCs_in,renCs_I])) (hbT ()) (fun d h' ⟨_,e⟩=>by subst e;simp) ?_
      rintro _ _ ⟨rfl,rfl⟩ _
      iterate 3 ((try (refine drvZ Tryz.func160 ?_;simp only [go_sem,renCs_in,renCs_I]));((with_reducible and_intros)<;>try exact sd))
      exact RetOb.csA (by rw [← hR];exact ⟨rfl,rfl⟩) rfl rfl (by simp [CtL.kE]) (by simp [cnt]) (by simp [CtL.kE]) (by simp [cnt]) (by decide) (by simp [upd,hpL,appUp,upsFrom,rkey]) (by simp [upd,hpL,appUp,upsFrom,rkey])
    · have hcs:=hcs 2
      refine dcZ Tryz.func160 ?_
      simp only [go_sem]
      iterate 4 ((try (refine drvZ Tryz.func160 ?_;simp only [go_sem]));((with_reducible and_intros)<;>try exact sd))
      refine XK.callG [0,1] hcs ok93 (hhpG (by simp [HH,upd,hpL,renCs_in,renCs_I])) (hbT ()) (fun d h' ⟨_,e⟩=>by subst e;simp) ?_
      rintro _ _ ⟨rfl,rfl⟩ _
      iterate 3 ((try (refine drvZ Tryz.func160 ?_;simp only [go_sem,renCs_in,renCs_I]));((with_reducible and_intros)<;>try exact sd))
      exact RetOb.csA (by rw [← hR];exact ⟨rfl,rfl⟩) rfl rfl (by simp [CtL.kE]) (by simp [cnt]) (by simp [CtL.kE]) (by simp [cnt]) (by decide) (by simp [upd,hpL,appUp,upsFrom,rkey]) (by simp [upd,hpL,appUp,upsFrom,rkey])
  · have e1:(k == 1)=false:=by simp;omega
    have e2:(k == 2)=false:=by simp;omega
    have f1:(k=1)=False:=eq_false (by omega)
    have f2:(k=2)=False:=eq_false (by omega)
    have hkE:kE (d+1) (.mk k v ks) reg=seqE (kE d) reg ks++[lastE k v reg]:=by
      rw [kE,if_neg (by omega),if_neg (by omega)]
    have hsum:=fun i=>tsum_le (cnt d) ks i
    have hT:∀ i x,ks[i]? = some x→seqE (kE d) reg (ks.take (i+1))=seqE (kE d) reg (ks.take i)++kE d x (reg+i):=fun i x hx=>by
      obtain ⟨hlt,_⟩:=List.getElem?_eq_some_iff.1 hx
      rw [List.take_add_one,hx]
      have:=CtL.seqE_snoc (kE d) (ks.take i) reg x
      rw [List.length_take,Nat.min_eq_left (by omega)] at this
      exact this
    have hTl:∀ i,(seqE (kE d) reg (ks.take i)).length=tsum (cnt d) ks i:=fun i=>CtL.seqE_len (p:=p) (ks.take i) reg fun e he n=>CtL.kE_len d e (g2 e (List.mem_of_mem_take he)) n
    have hts:(ks.map (cnt d)).sum=tsum (cnt d) ks ks.length:=by simp [tsum]
    refine dcZ Tryz.func160 ?_
    simp only [go_sem,e1,e2,f1,f2]
    iterate 4 ((try (refine drvZ Tryz.func160 ?_;simp only [go_sem,e1,e2,f1,f2]));((with_reducible and_intros)<;>try exact sd))
    refine Go.loopQ (fun i : Nat => [(1, DI .i64 st), (3, DI .i64 reg), (4, .c (.ptr 2 0)), (6, .c (.ptr 66 0)), (8, .c (.ptr 130 0)), (9, DI .i64 i)])
      (fun i=>[(0,none),(1,none),(2,some [.msl 5 5 0 (L++seqE (kE d) reg (ks.take i)).length,.msl 6 1 0 (O++List.replicate (tsum (cnt d) ks i) st).length,I64 a]),(66,some (Ex.cells (.mk k v ks))),(130,some [.v (.slice none 0 0),.v (.slice none 0 0),I64 0]),
        (5,some (inC (L++seqE (kE d) reg (ks.take i)))),(6,some ((O++List.replicate (tsum (cnt d) ks i) st).map I64))])
      4096 (fun i=>i≤ks.length) (fun i=>ks.length - i) ?_ 0 (fun j=>if j=5 then some 0 else if j=6 then some 1 else some j) [] _ (Nat.zero_le _) ?_
    · intro i hi again
      rcases Nat.lt_or_ge i ks.length with hlt | hge
      · obtain ⟨⟨k',v',ks'⟩,hx⟩:∃ x,ks[i]? = some x:=⟨ks[i],by simp [hlt]⟩
        have hsx:=g2 _ (List.mem_of_getElem? hx)
        have hti:=tsum_succ (cnt d) ks i _ hx
        have hs1:=hsum (i+1)
        have hlx:=CtL.kE_len d _ hsx (reg+i)
        have hic:=ih (.mk k' v' ks') (reg+i) (L++seqE (kE d) reg (ks.take i)) (O++List.replicate (tsum (cnt d) ks i) st) hsx (by omega) (by rw [List.length_append,hTl];omega) (by rw [List.length_append,List.length_replicate];omega)
        have hTi:=hT i _ hx
        have hLl:(L++seqE (kE d) reg (ks.take i)).length≤90000:=by rw [List.length_append,hTl];omega
        have hOl:(O++List.replicate (tsum (cnt d) ks i) st).length≤90000:=by rw [List.length_append,List.length_replicate];omega
        rw [List.append_assoc,List.append_assoc,rep_app,← hTi,← hti] at hic
        generalize L++seqE (kE d) reg (ks.take i)=L1 at *
        generalize O++List.replicate (tsum (cnt d) ks i) st=O1 at *
        refine drvL Tryz.func160 ?_
        simp only [go_sem,hx,hlt]
        iterate 3 ((try (refine drvZ Tryz.func160 ?_;simp only [go_sem,hx,hlt]));((with_reducible and_intros)<;>try exact sd))
        refine XK.callG [5,6] hic ok160 (hhpG (by simp [HH,upd,hOf,hpL,renCs_in,renCs_I])) (hbT ()) (fun d h' ⟨_,e⟩=>by subst e;simp) ?_ (fun _=>⟨by kernel_rfl,_,_,⟨rfl,rfl⟩,by simp⟩)
        rintro _ _ ⟨rfl,rfl⟩ _
        iterate 4 ((try (refine drvZ Tryz.func160 ?_;simp only [go_sem,renCs_in,renCs_I]));((with_reducible and_intros)<;>try exact sd))
        refine again (i+1) (fun j=>if j=5 then some 5056 else if j=6 then some 5057 else some j) [] _ hlt (by omega) ?_
        simp only [go_sem,TmOK,DM,DMs,CM,CMs,forall_eq,exists_eq_left,Mq,HpOK,LowOK]
        simp [-List.map_append,CMs_in,CMs_I]
      · have hn2:¬ i<ks.length:=by omega
        obtain rfl:i=ks.length:=by omega
        have hTk:=hTl ks.length
        clear ih hT again
        rw [List.take_length] at hTk
        simp only [List.take_length]
        have hL2:(L++seqE (kE d) reg ks).length≤90000:=by rw [List.length_append];omega
        have hO2:(O++List.replicate (tsum (cnt d) ks ks.length) st).length≤90000:=by rw [List.length_append,List.length_replicate];omega
        have hrL:L++kE (d+1) (.mk k v ks) reg=(L++seqE (kE d) reg ks)++[lastE k v reg]:=by rw [hkE,List.append_assoc]
        have hrO:O++List.replicate (cnt (d+1) (.mk k v ks)) st=(O++List.replicate (tsum (cnt d) ks ks.length) st)++[st]:=by rw [hcn,hts,Nat.add_comm,← rep_one,List.append_assoc]
        rw [hrL,hrO] at hR
        generalize L++seqE (kE d) reg ks=L2 at *
        generalize O++List.replicate (tsum (cnt d) ks ks.length) st=O2 at *
        clear hrL hrO
        by_cases k3:k=3
        · subst k3
          have hcs:=csAdd L2 O2 a st 4 reg v reg 0 (by omega) (by omega)
          refine drvL Tryz.func160 ?_
          simp only [go_sem,hn2]
          iterate 5 ((try (refine drvZ Tryz.func160 ?_;simp only [go_sem,hn2]));((with_reducible and_intros)<;>try exact sd))
          refine XK.callG [5,6] hcs ok93 (hhpG (by simp [HH,upd,hOf,hpL,renCs_in,renCs_I])) (hbT ()) (fun d h' ⟨_,e⟩=>by subst e;simp) ?_
          rintro _ _ ⟨rfl,rfl⟩ _
          iterate 3 ((try (refine drvZ Tryz.func160 ?_;simp only [go_sem,renCs_in,renCs_I]));((with_reducible and_intros)<;>try exact sd))
          exact RetOb.csA (by rw [← hR];exact ⟨rfl,rfl⟩) rfl rfl (by simp [lastE,Int.reduceEq]) rfl (by simp [lastE,Int.reduceEq]) rfl (by decide) (by simp [upd,hpL,hOf,appUp,upsFrom,rkey]) (by simp [upd,hpL,hOf,appUp,upsFrom,rkey])
        by_cases k11:k=11
        · subst k11
          have hcs:=csAdd L2 O2 a st 7 reg reg ((reg:Int)+1) ((reg:Int)+2) (by omega) (by omega)
          refine drvL Tryz.func160 ?_
          simp only [go_sem,hn2]
          iterate 5 ((try (refine drvZ Tryz.func160 ?_;simp only [go_sem,hn2]));((with_reducible and_intros)<;>try exact sd))
          refine XK.callG [5,6] hcs ok93 (hhpG (by simp [HH,upd,hOf,hpL,renCs_in,renCs_I])) (hbT ()) (fun d h' ⟨_,e⟩=>by subst e;simp) ?_
          rintro _ _ ⟨rfl,rfl⟩ _
          iterate 3 ((try (refine drvZ Tryz.func160 ?_;simp only [go_sem,renCs_in,renCs_I]));((with_reducible and_intros)<;>try exact sd))
          exact RetOb.csA (by rw [← hR];exact ⟨rfl,rfl⟩) rfl rfl (by simp [lastE,Int.reduceEq]) rfl (by simp [lastE,Int.reduceEq]) rfl (by decide) (by simp [upd,hpL,hOf,appUp,upsFrom,rkey]) (by simp [upd,hpL,hOf,appUp,upsFrom,rkey])
        · have e3:(k == 3)=false:=by simp;omega
          have e11:(k == 11)=false:=by simp;omega
          have f3:(k=3)=False:=eq_false (by omega)
          have f11:(k=11)=False:=eq_false (by omega)
          have hcs:=csAdd L2 O2 a st 6 reg k reg ((reg:Int)+1) (by omega) (by omega)
          refine drvL Tryz.func160 ?_
          simp only [go_sem,hn2]
          iterate 5 ((try (refine drvZ Tryz.func160 ?_;simp only [go_sem,hn2,e3,e11,f3,f11]));((with_reducible and_intros)<;>try exact sd))
          refine XK.callG [5,6] hcs ok93 (hhpG (by simp [HH,upd,hOf,hpL,renCs_in,renCs_I])) (hbT ()) (fun d h' ⟨_,e⟩=>by subst e;simp) ?_
          rintro _ _ ⟨rfl,rfl⟩ _
          iterate 3 ((try (refine drvZ Tryz.func160 ?_;simp only [go_sem,renCs_in,renCs_I]));((with_reducible and_intros)<;>try exact sd))
          exact RetOb.csA (by rw [← hR];exact ⟨rfl,rfl⟩) rfl rfl (by simp [lastE,k3,k11]) rfl (by simp [lastE,k3,k11]) rfl (by decide) (by simp [upd,hpL,hOf,appUp,upsFrom,rkey]) (by simp [upd,hpL,hOf,appUp,upsFrom,rkey])
    · simp only [go_sem,TmOK,DM,DMs,CM,CMs,forall_eq,exists_eq_left,Mq,HpOK,LowOK]
      simp [CtL.seqE,tsum,CMs_in,CMs_I]
theorem csExpr (p : Pg) (a st : Int) : ∀ d, CsOK p a st d
  | 0=>fun e reg L O h=>by simp [CtR.shape] at h
  | d+1=>csExpr1 p a st d (csExpr p a st d)
open CtL (In Cd kE cL cS seqE seqS lenS lenL lastE)
def seqO (f : Nat → St1 → List Int) (sz : St1 → Nat) : Nat → List St1 → List Int
  | _,[]=>[]
  | n,s :: r=>f n s++seqO f sz (n+sz s) r
def oS : Nat → Nat → St1 → List Int
  | 0,_,_=>[]
  | d+1,n,.mk k t ix v c b e =>
    if k=4 then [(n:Int)]++(seqO (oS d) (tsize d) (n+1) b++[(n:Int)])
    else if k=1 then List.replicate (cnt 5 v) (n:Int)++[(n:Int)]
    else if k=5 then List.replicate (cnt 5 v) (n:Int)++([(n:Int)]++[(n:Int)])
    else if k=2 then List.replicate (cnt 5 v) (n:Int)++(List.replicate (cnt 5 ix) (n:Int)++[(n:Int)])
    else List.replicate (cnt 5 v) (n:Int)++([(n:Int)]++(seqO (oS d) (tsize d) (n+1) b++([(n:Int)]++seqO (oS d) (tsize d) (n+1+lsize d b) e)))
def oL (d n:Nat) (l:List St1):List Int:=seqO (oS d) (tsize d) n l
theorem seqO_snoc (f : Nat → St1 → List Int) (sz : St1 → Nat) : ∀ (l : List St1) (n : Nat) (s : St1), seqO f sz n (l ++ [s]) = seqO f sz n l ++ f (n + (l.map sz).sum) s
  | [],n,s=>by simp [seqO]
  | a :: r,n,s=>by simp only [List.cons_append,seqO,seqO_snoc f sz r,List.append_assoc,List.map_cons,List.sum_cons,Nat.add_assoc]
theorem seqO_len {f : Nat → St1 → List Int} {sz len : St1 → Nat} : ∀ (l : List St1) (n : Nat), (∀ s ∈ l, ∀ n, (f n s).length = len s) → (seqO f sz n l).length = (l.map len).sum
  | [],n,_=>rfl
  | a :: r,n,h=>by
    simp only [seqO,List.length_append,List.map_cons,List.sum_cons]
    rw [h a (by simp),seqO_len r _ fun s hs=>h s (by simp [hs])]
theorem oS_len {p : Pg} : ∀ (d : Nat) (s : St1), stmtOK p d s = true → ∀ n, (oS d n s).length = lenS d s
  | 0,_,h,_=>by simp [stmtOK] at h
  | d+1,.mk k t ix v c bd el,h,n=>by
    obtain ⟨hh,hb,he⟩:=stmtOK_succ h
    have eb:=fun n=>seqO_len (f:=oS d) (sz:=tsize d) bd n fun s hs n=>oS_len d s (hb s hs) n
    have ee:=fun n=>seqO_len (f:=oS d) (sz:=tsize d) el n fun s hs n=>oS_len d s (he s hs) n
    rcases head_kind hh with ⟨hk,ht0,ht1,hr⟩ | ⟨rfl,ht0,ht1,hri,hai,hr⟩ | ⟨rfl,hr⟩ | ⟨rfl,hc1,hc3⟩
    · rcases hk with rfl | rfl<;>simp [oS,lenS]
    · simp [oS,lenS];omega
    · simp [oS,lenS,eb,ee];omega
    · simp [oS,lenS,eb]
theorem oL_len {p:Pg} {d n:Nat} {l:List St1} (h:∀ s ∈ l,stmtOK p d s=true):(oL d n l).length=lenL d l:=seqO_len l n fun s hs n=>oS_len d s (h s hs) n
theorem inC_cons (x:In) (l:List In):inC (x :: l)=inX x++inC l:=by simp [inC]
theorem inC_setB (A R:List In) (x:In) (n:Int):(inC (A++x :: R)).set (A.length * 5+2) (.v (.int .i64 n))=inC (A++⟨x.op,x.a,n,x.c,x.d⟩ :: R):=by
  rw [inC_app,inC_app,List.set_append_right _ _ (by rw [inC_len];omega),inC_len,inC_cons,inC_cons]
  rw [show A.length * 5+2 - A.length * 5=2 by omega];rfl
theorem inC_setA (A R:List In) (x:In) (n:Int):(inC (A++x :: R)).set (A.length * 5+1) (.v (.int .i64 n))=inC (A++⟨x.op,n,x.b,x.c,x.d⟩ :: R):=by
  rw [inC_app,inC_app,List.set_append_right _ _ (by rw [inC_len];omega),inC_len,inC_cons,inC_cons]
  rw [show A.length * 5+1 - A.length * 5=1 by omega];rfl
def CtOK (p:Pg) (d dep:Nat):Prop:=∀ (s:St1) (L:List In) (O:List Int) (n:Nat),stmtOK p d s=true→dep+d≤100→n+tsize d s≤90000→L.length+lenS d s≤80000→O.length+lenS d s≤80000 →
  DC Tryz.prog 134 [CsD 0 1 L O n,.agg s.cells,DI .i64 dep] (CsH L O) (fun r h=>r=CsD 2 3 (L++cS d dep L.length s) (O++oS d n s) ((n+tsize d s:Nat):Int)∧h=CsR (L++cS d dep L.length s) (O++oS d n s))
def CbOK (p:Pg) (d dep:Nat):Prop:=∀ (l:List St1) (L:List In) (O:List Int) (n:Nat),(∀ s ∈ l,stmtOK p d s=true)→dep+d≤100→n+lsize d l≤90000→L.length+lenL d l≤80000→O.length+lenL d l≤80000 →
  DC Tryz.prog 92 [CsD 0 1 L O n,.c (.isl 11 (St1.cellsL l)),DI .i64 dep] (CsH L O) (fun r h=>r=CsD 2 3 (L++cL d dep L.length l) (O++oL d n l) ((n+lsize d l:Nat):Int)∧h=CsR (L++cL d dep L.length l) (O++oL d n l))
theorem cbOf (p:Pg) (d dep:Nat) (hs:CtOK p d dep):CbOK p d dep:=by
  have hmx:=mx_eq
  intro l L O n hok hdep hn hL hO
  unfold CtOK at hs
  have hsum:=fun i=>tsum_le (tsize d) l i
  have hsul:=fun i=>tsum_le (lenS d) l i
  have hlz:lsize d l=(l.map (tsize d)).sum:=rfl
  have hll:lenL d l=(l.map (lenS d)).sum:=rfl
  have hlen:=len_le_sum (tsize d) l fun s hs=>stmtOK_pos (hok s hs)
  have hoki:=fun i s (h:s ∈ l.take i)=>hok s (List.mem_of_mem_take h)
  have hTl:∀ i,(cL d dep L.length (l.take i)).length=tsum (lenS d) l i:=fun i=>CtL.cL_len (hoki i)
  have hOl:∀ i,(oL d n (l.take i)).length=tsum (lenS d) l i:=fun i=>oL_len (hoki i)
  have hT:∀ i x,l[i]? = some x→cL d dep L.length (l.take (i+1))=cL d dep L.length (l.take i)++cS d dep (L++cL d dep L.length (l.take i)).length x:=fun i x hx=>by
    rw [List.take_add_one,hx,List.length_append,hTl]
    exact CtL.seqS_snoc (cS d dep) (lenS d) (l.take i) L.length x
  have hU:∀ i x,l[i]? = some x→oL d n (l.take (i+1))=oL d n (l.take i)++oS d (n+tsum (tsize d) l i) x:=fun i x hx=>by
    rw [List.take_add_one,hx]
    exact seqO_snoc (oS d) (tsize d) (l.take i) n x
  generalize hR:(fun (r:D) (h:List (Option (List C)))=>r=CsD 2 3 (L++cL d dep L.length l) (O++oL d n l) ((n+lsize d l:Nat):Int)∧h=CsR (L++cL d dep L.length l) (O++oL d n l))=R
  refine dcZ Tryz.func92 ?_
  simp only [go_sem]
  iterate 2 ((try (refine drvZ Tryz.func92 ?_;simp only [go_sem]));((with_reducible and_intros)<;>try exact sd))
  refine Go.loopQ (fun i : Nat => [(1, .c (.isl 11 (St1.cellsL l))), (2, DI .i64 dep), (3, .c (.ptr 2 0)), (6, .c (.ptr 66 0)), (7, DI .i64 i)])
    (fun i=>[(0,none),(1,none),(2,some [.msl 5 5 0 (L++cL d dep L.length (l.take i)).length,.msl 6 1 0 (O++oL d n (l.take i)).length,I64 ((n+tsum (tsize d) l i:Nat):Int)]),(66,some [.v (.slice none 0 0),.v (.slice none 0 0),I64 0]),
      (5,some (inC (L++cL d dep L.length (l.take i)))),(6,some ((O++oL d n (l.take i)).map I64))])
    4096 (fun i=>i≤l.length) (fun i=>l.length - i) ?_ 0 (fun j=>if j=5 then some 0 else if j=6 then some 1 else some j) [] _ (Nat.zero_le _) ?_
  · intro i hi again
    rcases Nat.lt_or_ge i l.length with hlt | hge
    · obtain ⟨⟨k,t,⟨ik,iv,iks⟩,⟨vk,vv,vks⟩,c,b,e⟩,hx⟩:∃ x,l[i]? = some x:=⟨l[i],by simp [hlt]⟩
      have hsx:=hok _ (List.mem_of_getElem? hx)
      have hti:=tsum_succ (tsize d) l i _ hx
      have htj:=tsum_succ (lenS d) l i _ hx
      have hs1:=hsum (i+1)
      have hs2:=hsul (i+1)
      have hLl:(L++cL d dep L.length (l.take i)).length=L.length+tsum (lenS d) l i:=by rw [List.length_append,hTl]
      have hOl2:(O++oL d n (l.take i)).length=O.length+tsum (lenS d) l i:=by rw [List.length_append,hOl]
      have hic:=hs _ (L++cL d dep L.length (l.take i)) (O++oL d n (l.take i)) (n+tsum (tsize d) l i) hsx hdep (by omega) (by omega) (by omega)
      have hTi:=hT i _ hx
      have hUi:=hU i _ hx
      have hLb:(L++cL d dep L.length (l.take i)).length≤90000:=by omega
      have hOb:(O++oL d n (l.take i)).length≤90000:=by omega
      rw [List.append_assoc,List.append_assoc,← hTi,← hUi,Nat.add_assoc,← hti] at hic
      simp only [St1.cells,Ex.cells,List.cons_append,List.nil_append] at hic
      generalize L++cL d dep L.length (l.take i)=L1 at *
      generalize O++oL d n (l.take i)=O1 at *
      refine drvL Tryz.func92 ?_
      simp only [go_sem,hx,hlt]
      iterate 3 ((try (refine drvZ Tryz.func92 ?_;simp only [go_sem,hx,hlt]));((with_reducible and_intros)<;>try exact sd))
      refine XK.callG [5,6] hic ok134 (hhpG (by simp [HH,upd,hOf,hpL,renCs_in,renCs_I])) (hbT ()) (fun d h' ⟨_,e⟩=>by subst e;simp) ?_ (fun _=>⟨by kernel_rfl,_,_,⟨rfl,rfl⟩,by simp⟩)
      rintro _ _ ⟨rfl,rfl⟩ _
      iterate 4 ((try (refine drvZ Tryz.func92 ?_;simp only [go_sem,renCs_in,renCs_I]));((with_reducible and_intros)<;>try exact sd))
      refine again (i+1) (fun j=>if j=5 then some 4736 else if j=6 then some 4737 else some j) [] _ hlt (by omega) ?_
      simp only [go_sem,TmOK,DM,DMs,CM,CMs,forall_eq,exists_eq_left,Mq,HpOK,LowOK]
      simp [-List.map_append,CMs_in,CMs_I]
    · have hn2:¬ i<l.length:=by omega
      obtain rfl:i=l.length:=by omega
      have hzz:tsum (tsize d) l l.length=lsize d l:=by simp [tsum,lsize]
      clear hT hU again
      simp only [List.take_length,hzz]
      generalize L++cL d dep L.length l=L1 at *
      generalize O++oL d n l=O1 at *
      refine drvL Tryz.func92 ?_
      simp only [go_sem,hn2]
      iterate 3 ((try (refine drvZ Tryz.func92 ?_;simp only [go_sem,hn2]));((with_reducible and_intros)<;>try exact sd))
      exact RetOb.csA (by rw [← hR];exact ⟨rfl,rfl⟩) rfl rfl rfl rfl rfl rfl (by decide) (by simp [upd,hpL,hOf]) (by simp [upd,hpL,hOf])
  · simp only [go_sem,TmOK,DM,DMs,CM,CMs,forall_eq,exists_eq_left,Mq,HpOK,LowOK]
    simp [cL,oL,seqS,seqO,tsum,CMs_in,CMs_I]
end Go.Proofs.YtbknljofedfpjaaGreat.CtD
