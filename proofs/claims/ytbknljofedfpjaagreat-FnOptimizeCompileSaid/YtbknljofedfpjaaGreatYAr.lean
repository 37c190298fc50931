/- Contracts of functions of the program, one behind the other, as plain data: what each call returns and which blocks it leaves. -/
import Derived.Test.YtbknljofedfpjaaGreatYFacts
import Derived.Test.YtbknljofedfpjaaGreatYAi
import Derived.Test.YtbknljofedfpjaaGreatYAk
import Derived.Test.YtbknljofedfpjaaGreatYAl
import Derived.Test.YtbknljofedfpjaaGreatYAn
import Derived.Test.YtbknljofedfpjaaGreatYAq
import Derived.Test.YtbknljofedfpjaaGreatYAo
import Derived.Test.YtbknljofedfpjaaGreatYAm
import Derived.Test.YtbknljofedfpjaaGreatYAp
set_option linter.unusedVariables false
set_option linter.unusedSimpArgs false
set_option linter.unusedSectionVars false
set_option maxHeartbeats 16000000
set_option maxRecDepth 100000
namespace Go.Proofs.YtbknljofedfpjaaGreat.CtD
open Go Go.CT CtF CtR
variable [Yn]
end Go.Proofs.YtbknljofedfpjaaGreat.CtD
namespace Go.Proofs.YtbknljofedfpjaaGreat.CtR
end Go.Proofs.YtbknljofedfpjaaGreat.CtR
namespace Go.Proofs.YtbknljofedfpjaaGreat.CtD
open Go Go.CT CtF CtR
variable [Yn]
end Go.Proofs.YtbknljofedfpjaaGreat.CtD
namespace Go.Proofs.YtbknljofedfpjaaGreat.CtF
end Go.Proofs.YtbknljofedfpjaaGreat.CtF
namespace Go.Proofs.YtbknljofedfpjaaGreat.CtR
end Go.Proofs.YtbknljofedfpjaaGreat.CtR
namespace Go.Proofs.YtbknljofedfpjaaGreat.CtD
open Go Go.CT CtF CtR
variable [Yn]
end Go.Proofs.YtbknljofedfpjaaGreat.CtD
namespace Go.Proofs.YtbknljofedfpjaaGreat.CtF
end Go.Proofs.YtbknljofedfpjaaGreat.CtF
namespace Go.Proofs.YtbknljofedfpjaaGreat.CtR
end Go.Proofs.YtbknljofedfpjaaGreat.CtR
namespace Go.Proofs.YtbknljofedfpjaaGreat.CtD
open Go Go.CT CtF CtR
variable [Yn]
end Go.Proofs.YtbknljofedfpjaaGreat.CtD
namespace Go.Proofs.YtbknljofedfpjaaGreat.CtF
end Go.Proofs.YtbknljofedfpjaaGreat.CtF
namespace Go.Proofs.YtbknljofedfpjaaGreat.CtR
end Go.Proofs.YtbknljofedfpjaaGreat.CtR
namespace Go.Proofs.YtbknljofedfpjaaGreat.CtD
open Go Go.CT CtF CtR
variable [Yn]
end Go.Proofs.YtbknljofedfpjaaGreat.CtD
namespace Go.Proofs.YtbknljofedfpjaaGreat.CtF
end Go.Proofs.YtbknljofedfpjaaGreat.CtF
namespace Go.Proofs.YtbknljofedfpjaaGreat.CtR
end Go.Proofs.YtbknljofedfpjaaGreat.CtR
namespace Go.Proofs.YtbknljofedfpjaaGreat.CtD
open Go Go.CT CtF CtR
variable [Yn]
theorem len0 {l:List St1} (h:¬ 0<l.length):l=[]:=List.eq_nil_of_length_eq_zero (by omega)
end Go.Proofs.YtbknljofedfpjaaGreat.CtD
namespace Go.Proofs.YtbknljofedfpjaaGreat.CtF
variable [Go.CT.Yn]
end Go.Proofs.YtbknljofedfpjaaGreat.CtF
namespace Go.Proofs.YtbknljofedfpjaaGreat.CtR
variable [Go.CT.Yn]
open Go Go.CT CtF
def subL (a b:Nat):Bool:=a ||| b == b
open Go Go.CT CtF
open Go Go.CT CtF
end Go.Proofs.YtbknljofedfpjaaGreat.CtR
namespace Go.Proofs.YtbknljofedfpjaaGreat.CtF
end Go.Proofs.YtbknljofedfpjaaGreat.CtF
namespace Go.Proofs.YtbknljofedfpjaaGreat.CtR
end Go.Proofs.YtbknljofedfpjaaGreat.CtR
namespace Go.Proofs.YtbknljofedfpjaaGreat.CtR
open Go Go.CT CtF
variable [Yn]
theorem le3 {a:Nat} (h:a≤3):a=0∨a=1∨a=2∨a=3:=by omega
theorem subI (a b:Nat) (ha:a≤3) (hb:b≤3):decide (((a ||| b:Nat):Int)=(b:Int))=subL a b:=by
  rcases le3 ha with rfl | rfl | rfl | rfl<;>rcases le3 hb with rfl | rfl | rfl | rfl<;>decide
theorem l2Ints (xs ys:List Int) (hl:xs.length≤mx):DC Tryz.prog 116 [ints xs,ints ys] [] (fun r h=>r=DB (decide (xs=ys))∧h=[]):=by
  have hmx:=mx_eq
  have ret:∀ (b:Bool) (hp:Hp),b=decide (xs=ys)→RetOb 0 (fun r h=>r=DB (decide (xs=ys))∧h=[]) (DB b) hp:=fun b hp h=>RetOb.plain (d:=DB _) ⟨by rw [h],rfl⟩ rfl
  by_cases hlen:xs.length=ys.length
  · have hb:((xs.length:Int) != ys.length)=false:=by simp [hlen]
    have he:((xs.length:Int)=ys.length)=True:=eq_true (by omega)
    refine dc_of_go Tryz.func116 rfl (by simp) ?_
    refine drv_sound (n:=100) (rs:=_) Tryz.func116 mo rfl none _ _ ?_
    simp only [go_sem,ints,hb,he]
    refine Go.loopL (fun i:Nat=>[(0,ints xs),(1,ints ys),(5,DI .i64 i)]) (fun _=>[]) 1024 (fun i=>i≤xs.length∧decide (xs=ys)=decide (xs.drop i=ys.drop i)) (fun i=>xs.length - i) ?_ 0 some [] _ ⟨Nat.zero_le _,rfl⟩ ?_
    · intro i hi again
      refine drv_sound (n:=100) (rs:=_) Tryz.func116 mo rfl none _ _ ?_
      rcases Nat.lt_or_ge i xs.length with hlt | hge
      · obtain ⟨x,hx⟩:∃ x,xs[i]? = some x:=⟨xs[i],by simp [hlt]⟩
        obtain ⟨y,hy⟩:∃ y,ys[i]? = some y:=⟨ys[i]'(by omega),by simp⟩
        have hI:=hi.2
        obtain ⟨_,ex⟩:=List.getElem?_eq_some_iff.1 hx
        obtain ⟨hyl,ey⟩:=List.getElem?_eq_some_iff.1 hy
        rw [List.drop_eq_getElem_cons hlt,List.drop_eq_getElem_cons hyl,ex,ey] at hI
        simp only [go_sem,ints,hx,hy,hlt]
        (with_reducible and_intros)<;>try exact sd
        · intro hne;exact ret _ _ (by rw [hI];simp [hne])
        · intro heq;exact ⟨by simp only [InK];omega,again (i+1) some [] _ ⟨by omega,by rw [hI];simp [heq]⟩ (by omega) (Mt.slots (by
            simp only [go_sem,TmOK,DM,DMs,CM,CMs,forall_eq,exists_eq_left,ints]))⟩
      · have hn:¬ i<xs.length:=by omega
        simp only [go_sem,ints,hn]
        refine ret _ _ ?_
        rw [hi.2,List.drop_of_length_le hge,List.drop_of_length_le (by omega)];rfl
    · refine Mt.slots ?_
      simp only [go_sem,TmOK,DM,DMs,CM,CMs,forall_eq,exists_eq_left,ints]
  · have hb:((xs.length:Int) != ys.length)=true:=by simp;omega
    have he:((xs.length:Int)=ys.length)=False:=eq_false (by omega)
    refine dc_of_go Tryz.func116 rfl (by simp) ?_
    refine drv_sound (n:=100) (rs:=_) Tryz.func116 mo rfl none _ _ ?_
    simp only [go_sem,ints,hb,he]
    refine ret _ _ ?_
    symm;rw [decide_eq_false_iff_not];intro h;exact hlen (by rw [h])
structure Up (l l' : List Int) : Prop where
  len:l'.length=l.length
  lab:lab3 l'
  le:∀ (i:Nat) (x x':Int),l[i]? = some x→l'[i]? = some x'→x≤x'
theorem Up.refl {l:List Int} (h:lab3 l):Up l l:=⟨rfl,h,fun i x x' a b=>by rw [a] at b;cases b;exact Int.le_refl _⟩
theorem Up.trans {a b c:List Int} (h:Up a b) (h':Up b c):Up a c :=
  ⟨h'.len.trans h.len,h'.lab,fun i x x' h1 h2=>by
    have hi:i<b.length:=by have:=(List.getElem?_eq_some_iff.1 h1).1;rw [h.len];exact this
    exact Int.le_trans (h.le i x b[i] h1 (by simp [hi])) (h'.le i b[i] x' (by simp [hi]) h2)⟩
theorem Up.set {l l':List Int} (h:Up l l') {i T n:Nat} (ht:l'[i]? = some (T:Int)) (hn:n≤3) (hT:T≤n):Up l (l'.set i (n:Int)) :=
  ⟨by rw [List.length_set,h.len],fun x hx=>by
    rcases List.mem_or_eq_of_mem_set hx with h1 | rfl
    · exact h.lab x h1
    · omega,fun j x x' h1 h2=>by
    rw [List.getElem?_set] at h2
    by_cases e:i=j
    · subst e
      have hlt:=(List.getElem?_eq_some_iff.1 ht).1
      rw [if_pos rfl,if_pos hlt] at h2
      cases h2
      have:=h.le i x T h1 ht
      omega
    · rw [if_neg e] at h2;exact h.le j x x' h1 h2⟩
end Go.Proofs.YtbknljofedfpjaaGreat.CtR
namespace Go.Proofs.YtbknljofedfpjaaGreat.CtD
open Go Go.CT CtF CtR
variable [Yn]
theorem stmtOK_len {p q:Pg} (h1:q.vars.length=p.vars.length) (h2:q.arrays.length=p.arrays.length):∀ (d:Nat) (s:St1),stmtOK q d s=stmtOK p d s:=by
  have hsh:∀ (d:Nat) (e:Ex),CtR.shape q d e=CtR.shape p d e:=by
    have hlim:∀ k,limit q k=limit p k:=fun k=>by simp only [limit,h1,h2]
    intro d
    induction d with
    | zero=>intro e;rfl
    | succ d ih =>
      intro e
      obtain ⟨k,v,ks⟩:=e
      have he:CtR.shape q d=CtR.shape p d:=funext ih
      simp only [CtR.shape,fitsE,hlim,he]
  have hr:∀ e,right q e=right p e:=fun e=>by simp only [right,hsh]
  intro d
  induction d with
  | zero=>intro s;rfl
  | succ d ih =>
    intro s
    obtain ⟨k,t,ix,v,c,b,e⟩:=s
    have h3:∀ l:List St1,l.all (stmtOK q d)=l.all (stmtOK p d):=fun l=>by congr 1;funext s;exact ih s
    simp only [stmtOK,headOK,hr,h1,h2,h3]
theorem DrP.up {p q:Pg} (h:DrP p) (h1:CtR.Up p.vars q.vars) (h2:CtR.Up p.arrays q.arrays) (h3:q.body=p.body):DrP q:=by
  refine ⟨?_,by rw [h1.len];exact h.nv,by rw [h2.len];exact h.na,by rw [h3];exact h.nb,by rw [h3];exact h.sm⟩
  have hok:=h.ok
  simp only [progOK,headsOK,Bool.and_eq_true,decide_eq_true_eq] at hok ⊢
  have hst:(stmtOK q 5)=stmtOK p 5:=funext fun s=>stmtOK_len h1.len h2.len 5 s
  refine ⟨⟨?_,by rw [h3,hst];exact hok.1.2⟩,by rw [h3];exact hok.2⟩
  have hl:∀ l:List Int,lab3 l→labs l=true:=fun l hl=>by
    simp only [labs,List.all_eq_true,Bool.and_eq_true,decide_eq_true_eq]
    exact hl
  obtain ⟨⟨⟨⟨g1,g2⟩,g3⟩,g4⟩,g5⟩:=hok.1.1
  rw [h1.len,h2.len]
  exact ⟨⟨⟨⟨g1,g2⟩,g3⟩,hl _ h1.lab⟩,hl _ h2.lab⟩
end Go.Proofs.YtbknljofedfpjaaGreat.CtD
namespace Go.Proofs.YtbknljofedfpjaaGreat.CtR
variable [Go.CT.Yn]
open Go Go.CT CtF
open Go Go.CT CtF
end Go.Proofs.YtbknljofedfpjaaGreat.CtR
namespace Go.Proofs.YtbknljofedfpjaaGreat.CtD
open Go Go.CT CtF CtR
variable [Yn]
def nI (S:List Nat):List Int:=S.map fun (n:Nat)=>(n:Int)
theorem nI_len (S:List Nat):(nI S).length=S.length:=by simp [nI]
theorem boolsKeep {hp:Hp} {k w:Nat} {L:List Bool} (hk:hp k=some (some (boolsC L))) (hw:L.length=w):RetOb 0 (fun r h=>r = .c (.msl 0 1 0 w)∧h=[some (boolsC L)]) (.c (.msl k 1 0 w)) hp:=by
  refine RetOb.ofQ (fun j=>if j=0 then some k else none) [] _ [some (boolsC L)] ?_ ⟨rfl,rfl⟩ (by simp)
  have e4:∀ {hT hS:Hp} {r:Nat→Option Nat} {fz:List Nat},CMs hT r hS fz (boolsC L) (boolsC L)=True:=eq_true (CMs.kf (boolsC_kf _))
  simp [enumL,DM,DMs,CM,CMs,HpOK,LowOK,hOf,upd,hk,e4]
end Go.Proofs.YtbknljofedfpjaaGreat.CtD
namespace Go.Proofs.YtbknljofedfpjaaGreat.CtR
variable [Go.CT.Yn]
open Go Go.CT CtF
end Go.Proofs.YtbknljofedfpjaaGreat.CtR
namespace Go.Proofs.YtbknljofedfpjaaGreat.CtL
variable [Go.CT.Yn]
open Go Go.CT CtF CtR
def e0:Ex := .mk 0 0 []
theorem shape_of {p:Pg} {d:Nat} {k v:Int} {ks:List Ex} (h1:fitsE p k v ks.length=true) (h2:∀ x ∈ ks,CtR.shape p d x=true) (h3:k=3→headAtom ks=true):CtR.shape p (d+1) (.mk k v ks)=true:=by
  simp only [CtR.shape,Bool.and_eq_true,List.all_eq_true,Bool.or_eq_true]
  refine ⟨⟨h1,h2⟩,?_⟩
  by_cases hk:k=3
  · exact .inr (h3 hk)
  · exact .inl (by simpa using hk)
theorem read_kid {p:Pg} {d:Nat} {v:Int} {ks:List Ex} (h:CtR.shape p (d+1) (.mk 3 v ks)=true):∃ a,ks=[a]∧CtR.shape p d a=true∧atom a=true∧0≤v∧v<p.arrays.length:=by
  obtain ⟨g1,g2,g3⟩:=shape_succ h
  obtain ⟨_,b,c,e⟩:=fits_len g1
  have g3:=g3 rfl
  match ks,b,g2,g3 with
  | [a],_,g2,g3=>exact ⟨a,rfl,g2 a (by simp),g3,c,by simpa [limit] using e⟩
  | [],b,_,_=>simp [arity] at b
  | _ :: _ :: r,b,_,_=>simp [arity] at b;omega
theorem atom_mk {p:Pg} {d:Nat} {a:Ex} (hs:CtR.shape p d a=true) (ha:atom a=true):∃ k v,a = .mk k v []∧(k=1∧0≤v∧v≤255∨k=2∧0≤v∧v<p.vars.length):=by
  match d,a,hs with
  | 0,_,hs=>simp [CtR.shape] at hs
  | d+1,.mk k v ks,hs =>
    obtain ⟨g1,g2,g3⟩:=shape_succ hs
    obtain ⟨_,b,c,e⟩:=fits_len g1
    have hk:k=1∨k=2:=by simpa [atom,Ex.kind] using ha
    refine ⟨k,v,?_,?_⟩
    · have:ks.length=0:=by rcases hk with rfl | rfl<;>simp [arity] at b<;>simpa using b
      rw [List.length_eq_zero_iff.1 this]
    · rcases hk with rfl | rfl
      · exact .inl ⟨rfl,c,by simp [limit] at e;omega⟩
      · exact .inr ⟨rfl,c,by simpa [limit] using e⟩
open Go Go.CT CtF CtR
theorem shape_form {p : Pg} {d : Nat} {k v : Int} {ks : List Ex} (h : CtR.shape p (d + 1) (.mk k v ks) = true) :
    ((k=1∧0≤v∧v<256∨k=2)∧ks=[])∨(∃ a,k=3∧ks=[a]∧CtR.shape p d a=true∧atom a=true)∨(∃ a b,4≤k∧k≤10∧ks=[a,b]∧CtR.shape p d a=true∧CtR.shape p d b=true)
    ∨ (∃ a b c,k=11∧ks=[a,b,c]∧CtR.shape p d a=true∧CtR.shape p d b=true∧CtR.shape p d c=true):=by
  obtain ⟨g1,g2,g3⟩:=shape_succ h
  obtain ⟨_,b,c,e⟩:=fits_len g1
  by_cases k1:k=1∨k=2
  · left
    have:ks.length=0:=by rcases k1 with rfl | rfl<;>simp [arity] at b<;>simpa using b
    refine ⟨?_,List.length_eq_zero_iff.1 this⟩
    rcases k1 with rfl | rfl
    · exact .inl ⟨rfl,c,by simpa [limit] using e⟩
    · exact .inr rfl
  by_cases k3:k=3
  · subst k3
    obtain ⟨a,h1,h2,h3,_⟩:=read_kid h
    exact .inr (.inl ⟨a,rfl,h1,h2,h3⟩)
  by_cases k4:4≤k∧k≤10
  · have:ks.length=2:=by
      have:arity k=2:=by unfold arity;rw [if_neg k1,if_neg k3,if_pos k4]
      omega
    match ks,this with
    | [x,y],_=>exact .inr (.inr (.inl ⟨x,y,k4.1,k4.2,rfl,g2 x (by simp),g2 y (by simp)⟩))
  by_cases k11:k=11
  · subst k11
    have:ks.length=3:=by simp [arity] at b;omega
    match ks,this with
    | [x,y,z],_=>exact .inr (.inr (.inr ⟨x,y,z,rfl,rfl,g2 x (by simp),g2 y (by simp),g2 z (by simp)⟩))
  · have:arity k = -1:=by unfold arity;rw [if_neg k1,if_neg k3,if_neg k4,if_neg k11]
    omega
open Go Go.CT CtF CtR
def prj (l:List Ev):List Ev:=l.filter fun e=>decide (2≤e.kind) && decide (e.kind≤4)
theorem prj_app (a b:List Ev):prj (a++b)=prj a++prj b:=by simp [prj]
open Go Go.CT CtF CtR
def Ext (p:Pg) (vs:List Int):Prop:=∃ w,vs=p.vars++w
theorem Ext.more {p:Pg} {vs ws:List Int} (h:Ext p vs) (h2:∃ w,ws=vs++w):Ext p ws:=by
  obtain ⟨a,rfl⟩:=h
  obtain ⟨b,rfl⟩:=h2
  exact ⟨a++b,by simp⟩
theorem Ext.le {p:Pg} {vs:List Int} (h:Ext p vs):p.vars.length≤vs.length:=by
  obtain ⟨a,rfl⟩:=h
  simp
open Go Go.CT CtF CtR
open Go Go.CT CtF CtR
def Sub (a b:Nat):Prop:=∀ β,a.testBit β=true→b.testBit β=true
theorem Sub.refl (a:Nat):Sub a a:=fun _ h=>h
theorem Sub.trans {a b c:Nat} (h:Sub a b) (g:Sub b c):Sub a c:=fun β x=>g β (h β x)
theorem Sub.zero (a:Nat):Sub 0 a:=fun β h=>by simp at h
theorem Sub.or {a b c:Nat}:Sub (a ||| b) c ↔ Sub a c∧Sub b c:=by
  constructor
  · exact fun h=>⟨fun β x=>h β (by simp [x]),fun β x=>h β (by simp [x])⟩
  · rintro ⟨h1,h2⟩ β x
    rw [Nat.testBit_or,Bool.or_eq_true] at x
    exact x.elim (h1 β) (h2 β)
theorem Sub.left (a b:Nat):Sub a (a ||| b):=fun β h=>by simp [h]
theorem Sub.right (a b:Nat):Sub b (a ||| b):=fun β h=>by simp [h]
theorem Sub.l {a b c:Nat} (h:Sub a b):Sub a (b ||| c):=h.trans (Sub.left _ _)
theorem Sub.r {a b c:Nat} (h:Sub a c):Sub a (b ||| c):=h.trans (Sub.right _ _)
open Go Go.CT CtF CtR
open Go Go.CT CtF CtR
theorem none0_e0 {e:Ex} (h:none0 e=true):e=e0:=by
  obtain ⟨k,v,ks⟩:=e
  simp only [none0,Ex.kind,Ex.value,Ex.kids,Bool.and_eq_true,beq_iff_eq,List.isEmpty_iff] at h
  obtain ⟨⟨rfl,rfl⟩,rfl⟩:=h
  rfl
theorem head_parts {p : Pg} {k t : Int} {ix v : Ex} {c : Int} {b e : List St1} (h : headOK p k t ix v c b.length e.length = true) :
    (k=4→e=[]∧ix=e0∧v=e0)∧(k ≠ 4→c=0∧(k ≠ 2→ix=e0))∧(k ≠ 3→k ≠ 4→b=[]∧e=[])∧(k=3∨k=4→t=0):=by
  simp only [headOK,parts,blk,Bool.and_eq_true] at h
  obtain ⟨⟨h1,h2⟩,_⟩:=h
  refine ⟨fun hk=>?_,fun hk=>?_,fun h3 h4=>?_,fun hk=>?_⟩
  · rw [if_pos hk] at h2
    simp only [Bool.and_eq_true,beq_iff_eq] at h2
    exact ⟨List.length_eq_zero_iff.1 (by omega),none0_e0 h2.1.2,none0_e0 h2.2⟩
  · rw [if_neg hk] at h2
    simp only [Bool.and_eq_true,beq_iff_eq,Bool.or_eq_true] at h2
    exact ⟨h2.1,fun h=>none0_e0 (h2.2.resolve_left h)⟩
  · have e1:(k == 3)=false:=by simpa using h3
    have e2:(k == 4)=false:=by simpa using h4
    have:b.length=0∧e.length=0:=by
      cases b<;>cases e<;>simp_all
    exact ⟨List.length_eq_zero_iff.1 this.1,List.length_eq_zero_iff.1 this.2⟩
  · have:(k == 3 || k == 4)=true:=by rcases hk with rfl | rfl<;>rfl
    rw [this] at h1
    simpa using h1
open Go Go.CT CtF CtR
end Go.Proofs.YtbknljofedfpjaaGreat.CtL
namespace Go.Proofs.YtbknljofedfpjaaGreat.CtD
open Go Go.CT CtF CtR
variable [Yn]
inductive FE : Ex → Prop
  | mk (k v:Int) (ks:List Ex) (h:ks.length≤1048576) (h2:∀ x ∈ ks,FE x):FE (.mk k v ks)
end Go.Proofs.YtbknljofedfpjaaGreat.CtD
namespace Go.Proofs.YtbknljofedfpjaaGreat.CtL
variable [Go.CT.Yn]
open Go Go.CT CtF CtR
open Go Go.CT CtF CtR
structure In where
  op:Int
  a:Int
  b:Int
  c:Int
  d:Int
structure Cd where
  vars:List Int
  arrays:List Int
  list:List In
structure Mc where
  pc:Nat
  regs:List Int
  mem:Mm
def halt:In:=⟨13,0,0,0,0⟩
def stepM (x:In) (s:Mc):Mc × List Ev :=
  if x.op=1 then (⟨s.pc+1,s.regs.set x.a.toNat x.b,s.mem⟩,[⟨5,s.pc⟩])
  else if x.op=2 then (⟨s.pc+1,s.regs.set x.a.toNat (nth s.mem.vals x.b),s.mem⟩,[⟨5,s.pc⟩])
  else if x.op=3 then (⟨s.pc+1,s.regs,setV s.mem x.a (nth s.regs x.b)⟩,[⟨5,s.pc⟩])
  else if x.op=4 then (⟨s.pc+1,s.regs.set x.a.toNat (nth (arrAt s.mem x.b) (nth s.regs x.c % 4)),s.mem⟩,[⟨5,s.pc⟩,⟨2,x.b * 4+nth s.regs x.c % 4⟩])
  else if x.op=5 then (⟨s.pc+1,s.regs,setA s.mem x.a (nth s.regs x.b % 4) (nth s.regs x.c)⟩,[⟨5,s.pc⟩,⟨3,x.a * 4+nth s.regs x.b % 4⟩])
  else if x.op=6 then (⟨s.pc+1,s.regs.set x.a.toNat (bin x.b (nth s.regs x.c) (nth s.regs x.d)),s.mem⟩,[⟨5,s.pc⟩])
  else if x.op=7 then (⟨s.pc+1,s.regs.set x.a.toNat (if nth s.regs x.b ≠ 0 then nth s.regs x.c else nth s.regs x.d),s.mem⟩,[⟨5,s.pc⟩])
  else if x.op=8 then (⟨x.a.toNat,s.regs,s.mem⟩,[⟨5,s.pc⟩])
  else if x.op=9 then (⟨if nth s.regs x.a=0 then x.b.toNat else s.pc+1,s.regs,s.mem⟩,[⟨5,s.pc⟩])
  else if x.op=10 then (⟨if (nth s.regs x.a+255) % 256 ≠ 0 then x.b.toNat else s.pc+1,s.regs.set x.a.toNat ((nth s.regs x.a+255) % 256),s.mem⟩,[⟨5,s.pc⟩])
  else if x.op=11 then (⟨s.pc+1,s.regs,s.mem⟩,[⟨5,s.pc⟩,⟨4,nth s.regs x.a⟩])
  else if x.op=13 then (s,[⟨5,s.pc⟩])
  else (⟨s.pc+1,s.regs,s.mem⟩,[⟨5,s.pc⟩])
def atC (C:List In) (i:Nat):In:=C.getD i halt
def runM (C : List In) : Nat → Mc → Option (Mm × List Ev)
  | 0,_=>none
  | n + 1, s => if (atC C s.pc).op = 13 then some ((stepM (atC C s.pc) s).1.mem, (stepM (atC C s.pc) s).2)
    else (runM C n (stepM (atC C s.pc) s).1).map fun q=>(q.1,(stepM (atC C s.pc) s).2++q.2)
def stp (X:List Ev):Nat:=X.countP fun e=>e.kind == 5
def Reach (C:List In) (s s':Mc) (X:List Ev):Prop:=∀ n,runM C (stp X+n) s=(runM C n s').map fun q=>(q.1,X++q.2)
theorem Reach.rfl {C:List In} {s:Mc}:Reach C s s []:=fun n=>by simp [stp]
theorem Reach.trans {C:List In} {s s' s'':Mc} {X Y:List Ev} (h:Reach C s s' X) (h2:Reach C s' s'' Y):Reach C s s'' (X++Y):=fun n=>by
  have:stp (X++Y)+n=stp X+(stp Y+n):=by simp [stp,List.countP_append];omega
  rw [this,h,h2,Option.map_map]
  congr 1
  funext q
  simp
theorem stp_step (x:In) (s:Mc):stp (stepM x s).2=1:=by
  unfold stepM
  by_cases h1:x.op=1
  · rw [if_pos h1];rfl
  rw [if_neg h1]
  by_cases h2:x.op=2
  · rw [if_pos h2];rfl
  rw [if_neg h2]
  by_cases h3:x.op=3
  · rw [if_pos h3];rfl
  rw [if_neg h3]
  by_cases h4:x.op=4
  · rw [if_pos h4];rfl
  rw [if_neg h4]
  by_cases h5:x.op=5
  · rw [if_pos h5];rfl
  rw [if_neg h5]
  by_cases h6:x.op=6
  · rw [if_pos h6];rfl
  rw [if_neg h6]
  by_cases h7:x.op=7
  · rw [if_pos h7];rfl
  rw [if_neg h7]
  by_cases h8:x.op=8
  · rw [if_pos h8];rfl
  rw [if_neg h8]
  by_cases h9:x.op=9
  · rw [if_pos h9];rfl
  rw [if_neg h9]
  by_cases h10:x.op=10
  · rw [if_pos h10];rfl
  rw [if_neg h10]
  by_cases h11:x.op=11
  · rw [if_pos h11];rfl
  rw [if_neg h11]
  by_cases h13:x.op=13
  · rw [if_pos h13];rfl
  rw [if_neg h13]
  rfl
theorem Reach.one {C:List In} {s:Mc} {x:In} (h:C[s.pc]? = some x) (hx:x.op ≠ 13):Reach C s (stepM x s).1 (stepM x s).2:=fun n=>by
  have e:atC C s.pc=x:=by simp [atC,List.getD,h]
  rw [stp_step,Nat.add_comm,runM,e,if_neg hx]
theorem Reach.one' {C:List In} {s s':Mc} {x:In} {X:List Ev} (h:C[s.pc]? = some x) (hx:x.op ≠ 13) (he:stepM x s=(s',X)):Reach C s s' X:=by
  have:=Reach.one h hx
  rw [he] at this
  exact this
theorem runM_halt {C:List In} {s:Mc} (h:C[s.pc]? = some halt) (n:Nat):runM C (n+1) s=some (s.mem,[⟨5,s.pc⟩]):=by
  have e:atC C s.pc=halt:=by simp [atC,List.getD,h]
  rw [runM,e,if_pos (by rfl)]
  rfl
theorem runM_more {C : List In} : ∀ (n k : Nat) (s : Mc) (q : Mm × List Ev), runM C n s = some q → runM C (n + k) s = some q
  | 0,k,s,q,h=>by simp [runM] at h
  | n+1,k,s,q,h=>by
    rw [show n+1+k=(n+k)+1 by omega]
    rw [runM] at h ⊢
    split
    · rename_i hc;rw [if_pos hc] at h;exact h
    · rename_i hc
      rw [if_neg hc] at h
      obtain ⟨q',hq,rfl⟩:=Option.map_eq_some_iff.1 h
      rw [runM_more n k _ q' hq];rfl
theorem Reach.run {C : List In} {s s' : Mc} {X : List Ev} (h : Reach C s s' X) (hh : C[s'.pc]? = some halt) (F : Nat) :
    runM C F s=if stp X+1≤F then some (s'.mem,X++[⟨5,s'.pc⟩]) else none:=by
  split
  · rename_i hle
    obtain ⟨k,rfl⟩:∃ k,F=stp X+(k+1):=⟨F - stp X - 1,by omega⟩
    rw [h,runM_halt hh];rfl
  · rename_i hle
    cases hr:runM C F s with
    | none=>rfl
    | some q =>
      have:=runM_more F (stp X - F) s q hr
      rw [show F+(stp X - F)=stp X+0 by omega,h] at this
      simp [runM] at this
def At (C:List In) (b:Nat) (L:List In):Prop:=∃ pre post,C=pre++L++post∧pre.length=b
theorem At.left {C:List In} {b:Nat} {L R:List In} (h:At C b (L++R)):At C b L:=by
  obtain ⟨pre,post,rfl,hl⟩:=h
  exact ⟨pre,R++post,by simp,hl⟩
theorem At.right {C:List In} {b n:Nat} {L R:List In} (h:At C b (L++R)) (hn:L.length=n):At C (b+n) R:=by
  obtain ⟨pre,post,rfl,hl⟩:=h
  exact ⟨pre++L,post,by simp,by simp [hl,hn]⟩
theorem At.head {C:List In} {b:Nat} {x:In} {R:List In} (h:At C b (x :: R)):C[b]? = some x:=by
  obtain ⟨pre,post,rfl,hl⟩:=h
  subst hl;simp
theorem At.tail {C:List In} {b:Nat} {x:In} {R:List In} (h:At C b (x :: R)):At C (b+1) R:=At.right (L:=[x]) h rfl
def seqE (f : Ex → Nat → List In) : Nat → List Ex → List In
  | _,[]=>[]
  | n,e :: r=>f e n++seqE f (n+1) r
def lastE (k v:Int) (n:Nat):In :=
  if k=3 then ⟨4,n,v,n,0⟩ else if k=11 then ⟨7,n,n,(n:Int)+1,(n:Int)+2⟩ else ⟨6,n,k,n,(n:Int)+1⟩
def kE : Nat → Ex → Nat → List In
  | 0,_,_=>[]
  | d+1,.mk k v ks,n=>if k=1 then [⟨1,n,v,0,0⟩] else if k=2 then [⟨2,n,v,0,0⟩] else seqE (kE d) n ks++[lastE k v n]
theorem seqE_snoc (f : Ex → Nat → List In) : ∀ (l : List Ex) (n : Nat) (e : Ex), seqE f n (l ++ [e]) = seqE f n l ++ f e (n + l.length)
  | [],n,e=>by simp [seqE]
  | a :: r,n,e=>by
    simp only [List.cons_append,seqE,seqE_snoc f r,List.append_assoc,List.length_cons]
    rw [show n+1+r.length=n+(r.length+1) by omega]
theorem seqE_len {p : Pg} {d : Nat} : ∀ (l : List Ex) (n : Nat), (∀ e ∈ l, ∀ n, (kE d e n).length = cnt d e) → (seqE (kE d) n l).length = (l.map (cnt d)).sum
  | [],n,_=>rfl
  | a :: r,n,h=>by
    simp only [seqE,List.length_append,List.map_cons,List.sum_cons]
    rw [h a (by simp),seqE_len (p:=p) r (n+1) fun e he=>h e (by simp [he])]
theorem kE_len {p : Pg} : ∀ (d : Nat) (e : Ex), CtR.shape p d e = true → ∀ n, (kE d e n).length = cnt d e
  | 0,_,h,_=>by simp [CtR.shape] at h
  | d+1,.mk k v ks,h,n=>by
    obtain ⟨g1,g2,g3⟩:=shape_succ h
    rcases shape_form h with ⟨hk,rfl⟩ | ⟨a,rfl,rfl,ha,hat⟩ | ⟨a,b,k4,k10,rfl,ha,hb⟩ | ⟨a,b,c,rfl,rfl,ha,hb,hc⟩
    · rcases hk with ⟨rfl,_⟩ | rfl<;>simp [kE,cnt]
    all_goals
      rw [kE,if_neg (by omega),if_neg (by omega),List.length_append,seqE_len (p:=p) _ _ fun e he n=>kE_len d e (g2 e he) n]
      simp only [cnt,List.length_singleton];omega
def seqX (f : Nat → Ex → List Ev) (len : Ex → Nat) : Nat → List Ex → List Ev
  | _,[]=>[]
  | b,e :: r=>f b e++seqX f len (b+len e) r
def xE (m : Mm) : Nat → Nat → Ex → List Ev
  | 0,_,_=>[]
  | d+1,b,.mk k v ks=>seqX (xE m d) (cnt d) b ks++⟨5,(b+(ks.map (cnt d)).sum:Nat)⟩ :: (if k=3 then [⟨2,v * 4+(ks.map fun e=>(evalE m d e).1).getD 0 0 % 4⟩] else [])
def EOk (C:List In) (m:Mm) (n b l:Nat) (X:List Ev) (val:Int):Prop:=∀ regs:List Int,regs.length=14→∃ regs':List Int,Reach C ⟨b,regs,m⟩ ⟨b+l,regs',m⟩ X∧regs'.length=14∧regs'.getD n 0=val∧∀ j,j<n∨9≤j→regs'.getD j 0=regs.getD j 0
theorem nth_nat (l:List Int) (n:Nat):nth l (n:Int)=l.getD n 0:=by simp [nth]
theorem nth_nat1 (l:List Int) (n:Nat):nth l ((n:Int)+1)=l.getD (n+1) 0:=by
  rw [show (n:Int)+1=((n+1:Nat):Int) by omega,nth_nat]
theorem nth_nat2 (l:List Int) (n:Nat):nth l ((n:Int)+2)=l.getD (n+2) 0:=by
  rw [show (n:Int)+2=((n+2:Nat):Int) by omega,nth_nat]
theorem getD_set (l:List Int) (i j:Nat) (x:Int) (hi:i<l.length):(l.set i x).getD j 0=if i=j then x else l.getD j 0:=by
  simp only [List.getD_eq_getElem?_getD,List.getElem?_set]
  by_cases h:i=j
  · subst h;simp [hi]
  · simp [h]
theorem EOk.fin {C : List In} {m : Mm} {n b : Nat} {x : In} {val : Int} {X : List Ev} {regs : List Int} (hr : regs.length = 14) (hn : n < 9) (h : C[b]? = some x) (hx : x.op ≠ 13) (he : stepM x ⟨b, regs, m⟩ = (⟨b + 1, regs.set n val, m⟩, X)) :
    ∃ regs':List Int,Reach C ⟨b,regs,m⟩ ⟨b+1,regs',m⟩ X∧regs'.length=14∧regs'.getD n 0=val∧∀ j,j<n∨9≤j→regs'.getD j 0=regs.getD j 0:=by
  refine ⟨regs.set n val,Reach.one' h hx he,by simp [hr],by rw [getD_set _ _ _ _ (by omega),if_pos rfl],fun j hj=>by rw [getD_set _ _ _ _ (by omega),if_neg (by omega)]⟩
theorem kE_run {p : Pg} {C : List In} {m : Mm} (hm : MemFits p m) : ∀ (d : Nat) (e : Ex) (n b : Nat), CtR.shape p d e = true → n + 2 * d ≤ 10 → At C b (kE d e n) → EOk C m n b (cnt d e) (xE m d b e) (evalE m d e).1
  | 0,_,_,_,h,_,_=>by simp [CtR.shape] at h
  | d+1,.mk k v ks,n,b,h,hn,hat=>by
    intro regs hr
    rcases shape_form h with ⟨hk,rfl⟩ | ⟨a,rfl,rfl,ha,_⟩ | ⟨a,b',k4,k10,rfl,ha,hb⟩ | ⟨a,b',c,rfl,rfl,ha,hb,hc⟩
    · rcases hk with ⟨rfl,_⟩ | rfl
      · simp only [kE,if_true] at hat
        have:=EOk.fin (C:=C) (m:=m) (n:=n) (b:=b) (val:=v) (X:=[⟨5,b⟩]) hr (by omega) hat.head (by simp) (by simp [stepM])
        simpa [cnt,xE,seqX,evalE] using this
      · simp [kE] at hat
        have:=EOk.fin (C:=C) (m:=m) (n:=n) (b:=b) (val:=nth m.vals v) (X:=[⟨5,b⟩]) hr (by omega) hat.head (by simp) (by simp [stepM])
        simpa [cnt,xE,seqX,evalE] using this
    · simp only [kE,seqE,List.append_nil,lastE] at hat
      simp at hat
      obtain ⟨r1,h1,h2,h3,h4⟩:=kE_run hm d a n b ha (by omega) hat.left regs hr
      have hl:=hat.right (kE_len d a ha n)
      obtain ⟨r2,g1,g2,g3,g4⟩:=EOk.fin (C:=C) (m:=m) (n:=n) (b:=b+cnt d a) (val:=nth (arrAt m v) ((evalE m d a).1 % 4)) (X:=[⟨5,(b+cnt d a:Nat)⟩,⟨2,v * 4+(evalE m d a).1 % 4⟩]) h2 (by omega) hl.head (by simp) (by simp only [stepM,nth_nat,Int.toNat_natCast,h3];simp)
      refine ⟨r2,?_,g2,?_,fun j hj=>by rw [g4 j hj,h4 j hj]⟩
      · have:=h1.trans g1
        simpa [cnt,xE,seqX,Nat.add_assoc,Nat.add_comm,Nat.add_left_comm] using this
      · simpa [evalE] using g3
    · have n1:k ≠ 1:=by omega
      have n2:k ≠ 2:=by omega
      have n3:k ≠ 3:=by omega
      have n11:k ≠ 11:=by omega
      simp only [kE,seqE,List.append_nil,lastE,if_neg n1,if_neg n2,if_neg n3,if_neg n11,List.append_assoc] at hat
      obtain ⟨r1,h1,h2,h3,h4⟩:=kE_run hm d a n b ha (by omega) hat.left regs hr
      have hl:=hat.right (kE_len d a ha n)
      obtain ⟨r2,i1,i2,i3,i4⟩:=kE_run hm d b' (n+1) (b+cnt d a) hb (by omega) hl.left r1 h2
      have hl2:=hl.right (kE_len d b' hb (n+1))
      have e0:r2.getD n 0=(evalE m d a).1:=by rw [i4 n (by omega),h3]
      obtain ⟨r3,g1,g2,g3,g4⟩:=EOk.fin (C:=C) (m:=m) (n:=n) (b:=b+cnt d a+cnt d b') (val:=bin k (evalE m d a).1 (evalE m d b').1) (X:=[⟨5,(b+cnt d a+cnt d b':Nat)⟩]) i2 (by omega) hl2.head (by simp) (by simp only [stepM,nth_nat,nth_nat1,Int.toNat_natCast];rw [e0,i3];simp)
      refine ⟨r3,?_,g2,?_,fun j hj=>by rw [g4 j hj,i4 j (by omega),h4 j hj]⟩
      · have:=(h1.trans i1).trans g1
        simpa [cnt,xE,seqX,n3,Nat.add_assoc,Nat.add_comm,Nat.add_left_comm] using this
      · simpa [evalE,n1,n2,n3,n11] using g3
    · simp only [kE,seqE,List.append_nil,lastE,List.append_assoc] at hat
      simp only [show ¬ ((11:Int)=1) by decide,show ¬ ((11:Int)=2) by decide,show ¬ ((11:Int)=3) by decide,if_true,if_false] at hat
      obtain ⟨r1,h1,h2,h3,h4⟩:=kE_run hm d a n b ha (by omega) hat.left regs hr
      have hl:=hat.right (kE_len d a ha n)
      obtain ⟨r2,i1,i2,i3,i4⟩:=kE_run hm d b' (n+1) (b+cnt d a) hb (by omega) hl.left r1 h2
      have hl2:=hl.right (kE_len d b' hb (n+1))
      obtain ⟨r3,j1,j2,j3,j4⟩:=kE_run hm d c (n+1+1) (b+cnt d a+cnt d b') hc (by omega) hl2.left r2 i2
      have hl3:=hl2.right (kE_len d c hc (n+1+1))
      have e0:r3.getD n 0=(evalE m d a).1:=by rw [j4 n (by omega),i4 n (by omega),h3]
      have e1:r3.getD (n+1) 0=(evalE m d b').1:=by rw [j4 (n+1) (by omega),i3]
      obtain ⟨r4,g1,g2,g3,g4⟩:=EOk.fin (C:=C) (m:=m) (n:=n) (b:=b+cnt d a+cnt d b' + cnt d c) (val:=if (evalE m d a).1 ≠ 0 then (evalE m d b').1 else (evalE m d c).1) (X:=[⟨5,(b+cnt d a+cnt d b' + cnt d c:Nat)⟩]) j2 (by omega) hl3.head (by simp) (by simp only [stepM,nth_nat,nth_nat1,nth_nat2,Int.toNat_natCast];rw [e0,e1,j3];simp)
      refine ⟨r4,?_,g2,?_,fun j hj=>by rw [g4 j hj,j4 j (by omega),i4 j (by omega),h4 j hj]⟩
      · have:=((h1.trans i1).trans j1).trans g1
        simpa [cnt,xE,seqX,Nat.add_assoc,Nat.add_comm,Nat.add_left_comm] using this
      · simpa [evalE] using g3
open Go Go.CT CtF CtR
def lenS : Nat → St1 → Nat
  | 0,_=>0
  | d + 1, .mk k t ix v c b e => if k = 4 then (b.map (lenS d)).sum + 2 else if k = 1 then cnt 5 v + 1 else if k = 5 then cnt 5 v + 2
      else if k=2 then cnt 5 v+cnt 5 ix+1 else cnt 5 v+(b.map (lenS d)).sum+(e.map (lenS d)).sum+2
def lenL (d:Nat) (l:List St1):Nat:=(l.map (lenS d)).sum
def seqS (f : Nat → St1 → List In) (len : St1 → Nat) : Nat → List St1 → List In
  | _,[]=>[]
  | b,s :: r=>f b s++seqS f len (b+len s) r
def cS : Nat → Nat → Nat → St1 → List In
  | 0,_,_,_=>[]
  | d+1,dep,b,.mk k t ix v c bd el =>
    if k=4 then ⟨1,9+dep,c,0,0⟩ :: (seqS (cS d (dep+1)) (lenS d) (b+1) bd++[⟨10,9+dep,(b+1:Nat),0,0⟩])
    else if k=1 then kE 5 v 0++[⟨3,t,0,0,0⟩]
    else if k=5 then kE 5 v 0++[⟨11,0,0,0,0⟩,⟨3,t,0,0,0⟩]
    else if k=2 then kE 5 v 0++(kE 5 ix 1++[⟨5,t,1,0,0⟩])
    else kE 5 v 0 ++ (⟨9, 0, (b + cnt 5 v + lenL d bd + 2 : Nat), 0, 0⟩ :: (seqS (cS d (dep + 1)) (lenS d) (b + cnt 5 v + 1) bd ++
      (⟨8,(b+cnt 5 v+lenL d bd+lenL d el+2:Nat),0,0,0⟩ :: seqS (cS d (dep+1)) (lenS d) (b+cnt 5 v+lenL d bd+2) el)))
def cL (d dep b:Nat) (l:List St1):List In:=seqS (cS d dep) (lenS d) b l
theorem seqS_snoc (f : Nat → St1 → List In) (len : St1 → Nat) : ∀ (l : List St1) (b : Nat) (s : St1), seqS f len b (l ++ [s]) = seqS f len b l ++ f (b + (l.map len).sum) s
  | [],b,s=>by simp [seqS]
  | a :: r,b,s=>by
    simp only [List.cons_append,seqS,seqS_snoc f len r,List.append_assoc,List.map_cons,List.sum_cons,Nat.add_assoc]
theorem seqS_len {f : Nat → St1 → List In} {len : St1 → Nat} : ∀ (l : List St1) (b : Nat), (∀ s ∈ l, ∀ b, (f b s).length = len s) → (seqS f len b l).length = (l.map len).sum
  | [],b,_=>rfl
  | a :: r,b,h=>by
    simp only [seqS,List.length_append,List.map_cons,List.sum_cons]
    rw [h a (by simp),seqS_len r _ fun s hs=>h s (by simp [hs])]
theorem atom_cnt {p:Pg} {d:Nat} {e:Ex} (hs:CtR.shape p d e=true) (ha:atom e=true):∃ k v,e = .mk k v []∧(k=1∨k=2):=by
  obtain ⟨k,v,rfl,hk⟩:=atom_mk hs ha
  exact ⟨k,v,rfl,hk.imp (·.1) (·.1)⟩
theorem cS_len {p : Pg} : ∀ (d : Nat) (s : St1), stmtOK p d s = true → ∀ dep b, (cS d dep b s).length = lenS d s
  | 0,_,h,_,_=>by simp [stmtOK] at h
  | d+1,.mk k t ix v c bd el,h,dep,b=>by
    obtain ⟨hh,hb,he⟩:=stmtOK_succ h
    have eb:=fun b=>seqS_len (f:=cS d (dep+1)) bd b fun s hs b=>cS_len d s (hb s hs) (dep+1) b
    have ee:=fun b=>seqS_len (f:=cS d (dep+1)) el b fun s hs b=>cS_len d s (he s hs) (dep+1) b
    rcases head_kind hh with ⟨hk,ht0,ht1,hr⟩ | ⟨rfl,ht0,ht1,hri,hai,hr⟩ | ⟨rfl,hr⟩ | ⟨rfl,hc1,hc3⟩
    · have:=kE_len 5 v (right_shape hr).1 0
      rcases hk with rfl | rfl<;>simp [cS,lenS,this]
    · have h1:=kE_len 5 v (right_shape hr).1 0
      have h2:=kE_len 5 ix (right_shape hri).1 1
      simp [cS,lenS,h1,h2];omega
    · have h1:=kE_len 5 v (right_shape hr).1 0
      simp [cS,lenS,h1,eb,ee];omega
    · simp [cS,lenS,eb]
theorem cL_len {p:Pg} {d dep b:Nat} {l:List St1} (h:∀ s ∈ l,stmtOK p d s=true):(cL d dep b l).length=lenL d l:=seqS_len l b fun s hs b=>cS_len d s (h s hs) dep b
def seqT (f : Nat → Mm → St1 → List Ev) (len : St1 → Nat) (g : Mm → St1 → Mm × List Ev) : Nat → Mm → List St1 → List Ev
  | _,_,[]=>[]
  | b,m,s :: r=>f b m s++seqT f len g (b+len s) (g m s).1 r
def iterX (f : Mm → List Ev) (g : Mm → Mm × List Ev) : Nat → Mm → List Ev
  | 0,_=>[]
  | n+1,m=>iterX f g n m++f (iterR g n m).1
def xS : Nat → Nat → Mm → St1 → List Ev
  | 0,_,_,_=>[]
  | d+1,b,m,.mk k t ix v c bd el =>
    if k=4 then ⟨5,b⟩ :: iterX (fun m=>seqT (xS d) (lenS d) (runS d) (b+1) m bd++[⟨5,(b+1+lenL d bd:Nat)⟩]) (fun m=>foldR (runS d) m bd) c.toNat m
    else if k=1 then xE m 5 b v++[⟨5,(b+cnt 5 v:Nat)⟩]
    else if k=5 then xE m 5 b v++[⟨5,(b+cnt 5 v:Nat)⟩,⟨4,(evalE m 5 v).1⟩,⟨5,(b+cnt 5 v+1:Nat)⟩]
    else if k=2 then xE m 5 b v++(xE m 5 (b+cnt 5 v) ix++[⟨5,(b+cnt 5 v+cnt 5 ix:Nat)⟩,⟨3,t * 4+(evalE m 5 ix).1 % 4⟩])
    else xE m 5 b v ++ (⟨5, (b + cnt 5 v : Nat)⟩ :: (if (evalE m 5 v).1 ≠ 0 then seqT (xS d) (lenS d) (runS d) (b + cnt 5 v + 1) m bd ++ [⟨5, (b + cnt 5 v + 1 + lenL d bd : Nat)⟩]
      else seqT (xS d) (lenS d) (runS d) (b+cnt 5 v+lenL d bd+2) m el))
def xL (d b:Nat) (m:Mm) (l:List St1):List Ev:=seqT (xS d) (lenS d) (runS d) b m l
def SOk (C:List In) (dep b l:Nat) (m m':Mm) (X:List Ev):Prop:=∀ regs:List Int,regs.length=14→∃ regs':List Int,Reach C ⟨b,regs,m⟩ ⟨b+l,regs',m'⟩ X∧regs'.length=14∧∀ j,9≤j→j<9+dep→regs'.getD j 0=regs.getD j 0
theorem seq_run {p : Pg} {C : List In} {d dep : Nat} (ih : ∀ (s : St1) (b : Nat) (m : Mm), MemFits p m → stmtOK p d s = true → At C b (cS d dep b s) → SOk C dep b (lenS d s) m (runS d m s).1 (xS d b m s)) :
    ∀ (l:List St1) (b:Nat) (m:Mm),MemFits p m→(∀ s ∈ l,stmtOK p d s=true)→At C b (cL d dep b l)→SOk C dep b (lenL d l) m (foldR (runS d) m l).1 (xL d b m l)
  | [],b,m,hm,_,_=>fun regs hr=>⟨regs,by simpa [foldR,xL,seqT,lenL] using Reach.rfl,hr,fun _ _ _=>rfl⟩
  | s :: r,b,m,hm,hok,hat=>fun regs hr=>by
    have hat:At C b (cS d dep b s++cL d dep (b+lenS d s) r):=hat
    obtain ⟨r1,h1,h2,h3⟩:=ih s b m hm (hok s (by simp)) hat.left regs hr
    obtain ⟨r2,g1,g2,g3⟩:=seq_run ih r (b+lenS d s) _ (runS_ok d m s hm (hok s (by simp))).1 (fun x hx=>hok x (by simp [hx])) (hat.right (cS_len d s (hok s (by simp)) dep b)) r1 h2
    refine ⟨r2,?_,g2,fun j hj hj2=>by rw [g3 j hj hj2,h3 j hj hj2]⟩
    have:=h1.trans g1
    simpa [foldR,xL,seqT,lenL,Nat.add_assoc] using this
theorem iter_fits {p : Pg} {d : Nat} {bd : List St1} (hb : ∀ s ∈ bd, stmtOK p d s = true) : ∀ (n : Nat) (m : Mm), MemFits p m → MemFits p (iterR (fun m => foldR (runS d) m bd) n m).1
  | 0,m,hm=>hm
  | n+1,m,hm=>(runL_ok (iter_fits hb n m hm) hb).1
theorem cS_run {p : Pg} {C : List In} : ∀ (d dep : Nat) (s : St1) (b : Nat) (m : Mm), d + dep ≤ 5 → MemFits p m → stmtOK p d s = true → At C b (cS d dep b s) → SOk C dep b (lenS d s) m (runS d m s).1 (xS d b m s)
  | 0,_,_,_,_,_,_,h,_=>by simp [stmtOK] at h
  | d+1,dep,.mk k t ix v c bd el,b,m,hdep,hm,h,hat=>fun regs hr=>by
    obtain ⟨hh,hb,he⟩:=stmtOK_succ h
    have ihb:=fun l b m hm hl=>seq_run (p:=p) (C:=C) (fun s b m=>cS_run d (dep+1) s b m (by omega)) l b m hm hl
    rcases head_kind hh with ⟨hk,ht0,ht1,hrt⟩ | ⟨rfl,ht0,ht1,hri,hai,hrt⟩ | ⟨rfl,hrt⟩ | ⟨rfl,hc1,hc3⟩
    · have hs:=(right_shape hrt).1
      have hl:=kE_len 5 v hs 0
      rcases hk with rfl | rfl
      · simp only [cS] at hat
        simp at hat
        obtain ⟨r1,h1,h2,h3,h4⟩:=kE_run hm 5 v 0 b hs (by omega) hat.left regs hr
        have h5:=(hat.right hl).head
        have h6:Reach C ⟨b+cnt 5 v,r1,m⟩ ⟨b+cnt 5 v+1,r1,setV m t (evalE m 5 v).1⟩ [⟨5,(b+cnt 5 v:Nat)⟩] :=
          Reach.one' (s:=⟨b+cnt 5 v,r1,m⟩) h5 (by simp) (by simp [stepM,nth];rw [← List.getD_eq_getElem?_getD,h3])
        refine ⟨r1,?_,h2,fun j hj _=>h4 j (.inr hj)⟩
        simpa [runS,xS,lenS,Nat.add_assoc] using h1.trans h6
      · simp only [cS] at hat
        simp at hat
        obtain ⟨r1,h1,h2,h3,h4⟩:=kE_run hm 5 v 0 b hs (by omega) hat.left regs hr
        have h5:=(hat.right hl).head
        have h7:=(hat.right hl).tail.head
        have h6:Reach C ⟨b+cnt 5 v,r1,m⟩ ⟨b+cnt 5 v+1,r1,m⟩ [⟨5,(b+cnt 5 v:Nat)⟩,⟨4,(evalE m 5 v).1⟩] :=
          Reach.one' (s:=⟨b+cnt 5 v,r1,m⟩) h5 (by simp) (by simp [stepM,nth];rw [← List.getD_eq_getElem?_getD,h3])
        have h8:Reach C ⟨b+cnt 5 v+1,r1,m⟩ ⟨b+cnt 5 v+1+1,r1,setV m t (evalE m 5 v).1⟩ [⟨5,(b+cnt 5 v+1:Nat)⟩] :=
          Reach.one' (s:=⟨b+cnt 5 v+1,r1,m⟩) h7 (by simp) (by simp [stepM,nth];rw [← List.getD_eq_getElem?_getD,h3])
        refine ⟨r1,?_,h2,fun j hj _=>h4 j (.inr hj)⟩
        simpa [runS,xS,lenS,Nat.add_assoc] using (h1.trans h6).trans h8
    · have hs:=(right_shape hrt).1
      have hl:=kE_len 5 v hs 0
      have hl2:=kE_len 5 ix (right_shape hri).1 1
      obtain ⟨ki,vi,rfl,hki⟩:=atom_cnt (right_shape hri).1 hai
      simp only [cS] at hat
      simp at hat
      obtain ⟨r1,h1,h2,h3,h4⟩:=kE_run hm 5 v 0 b hs (by omega) hat.left regs hr
      have hat2:=hat.right hl
      have hs1:CtR.shape p 1 (.mk ki vi [])=true:=by
        obtain ⟨g1,_,g3⟩:=shape_succ (right_shape hri).1
        exact shape_of g1 (by simp) (fun hk=>by rcases hki with rfl | rfl<;>simp at hk)
      have hcE:kE 5 (.mk ki vi []) 1=kE 1 (.mk ki vi []) 1:=rfl
      have hx1:xE m 5 (b+cnt 5 v) (.mk ki vi [])=xE m 1 (b+cnt 5 v) (.mk ki vi []):=rfl
      have hv1:evalE m 5 (.mk ki vi [])=evalE m 1 (.mk ki vi []):=rfl
      have hc1:cnt 5 (.mk ki vi [])=cnt 1 (.mk ki vi []):=rfl
      rw [hc1] at hl2
      rw [hcE] at hat2 hl2
      obtain ⟨r2,i1,i2,i3,i4⟩:=kE_run hm 1 (.mk ki vi []) 1 (b+cnt 5 v) hs1 (by omega) hat2.left r1 h2
      have h5:=(hat2.right hl2).head
      have e0:r2.getD 0 0=(evalE m 5 v).1:=by rw [i4 0 (by omega),h3]
      have h6:Reach C ⟨b+cnt 5 v+cnt 1 (.mk ki vi []),r2,m⟩ ⟨b+cnt 5 v+cnt 1 (.mk ki vi [])+1,r2,setA m t ((evalE m 5 (.mk ki vi [])).1 % 4) (evalE m 5 v).1⟩ [⟨5,(b+cnt 5 v+cnt 1 (.mk ki vi []):Nat)⟩,⟨3,t * 4+(evalE m 5 (.mk ki vi [])).1 % 4⟩] :=
        Reach.one' (s:=⟨b+cnt 5 v+cnt 1 (.mk ki vi []),r2,m⟩) h5 (by simp) (by
          have e1:nth r2 1=(evalE m 5 (.mk ki vi [])).1:=by rw [hv1,← i3];rfl
          have e2:nth r2 0=(evalE m 5 v).1:=by rw [← e0];rfl
          simp [stepM,e1,e2])
      refine ⟨r2,?_,i2,fun j hj _=>by rw [i4 j (.inr hj),h4 j (.inr hj)]⟩
      have:=(h1.trans i1).trans h6
      rw [← hc1,← hx1] at this
      simpa [runS,xS,lenS,Nat.add_assoc] using this
    · have hs:=(right_shape hrt).1
      have hl:=kE_len 5 v hs 0
      have hat : At C b (kE 5 v 0 ++ (⟨9, 0, (b + cnt 5 v + lenL d bd + 2 : Nat), 0, 0⟩ :: (cL d (dep + 1) (b + cnt 5 v + 1) bd ++
        (⟨8,(b+cnt 5 v+lenL d bd+lenL d el+2:Nat),0,0,0⟩ :: cL d (dep+1) (b+cnt 5 v+lenL d bd+2) el)))):=hat
      obtain ⟨r1,h1,h2,h3,h4⟩:=kE_run hm 5 v 0 b hs (by omega) hat.left regs hr
      have hat2:=hat.right hl
      have hat3:=hat2.tail
      have hat4:=hat3.right (cL_len hb)
      have hat5:=hat4.tail
      have e0:nth r1 0=(evalE m 5 v).1:=by rw [← h3];rfl
      by_cases hv:(evalE m 5 v).1=0
      · have h6:Reach C ⟨b+cnt 5 v,r1,m⟩ ⟨b+cnt 5 v+lenL d bd+2,r1,m⟩ [⟨5,(b+cnt 5 v:Nat)⟩] :=
          Reach.one' (s:=⟨b+cnt 5 v,r1,m⟩) hat2.head (by simp) (by simp only [stepM,e0,hv];simp;rfl)
        obtain ⟨r2,i1,i2,i3⟩:=ihb el (b+cnt 5 v+lenL d bd+2) m hm he (by rw [show b+cnt 5 v+lenL d bd+2=b+cnt 5 v+1+lenL d bd+1 by omega] at *;exact hat5) r1 h2
        refine ⟨r2,?_,i2,fun j hj hj2=>by rw [i3 j hj (by omega),h4 j (.inr hj)]⟩
        have:=(h1.trans h6).trans i1
        have e1:(runS (d+1) m (.mk 3 t ix v c bd el)).1=(foldR (runS d) m el).1:=by simp [runS,hv]
        have e2:xS (d+1) b m (.mk 3 t ix v c bd el)=xE m 5 b v++[⟨5,(b+cnt 5 v:Nat)⟩]++xL d (b+cnt 5 v+lenL d bd+2) m el:=by simp [xS,hv,xL]
        rw [e1,e2]
        have e3:b+lenS (d+1) (.mk 3 t ix v c bd el)=b+cnt 5 v+lenL d bd+2+lenL d el:=by simp [lenS,lenL];omega
        rw [e3];exact this
      · have h6:Reach C ⟨b+cnt 5 v,r1,m⟩ ⟨b+cnt 5 v+1,r1,m⟩ [⟨5,(b+cnt 5 v:Nat)⟩] :=
          Reach.one' (s:=⟨b+cnt 5 v,r1,m⟩) hat2.head (by simp) (by simp [stepM,e0,hv])
        obtain ⟨r2,i1,i2,i3⟩:=ihb bd (b+cnt 5 v+1) m hm hb hat3.left r1 h2
        have h7:Reach C ⟨b+cnt 5 v+1+lenL d bd,r2,(foldR (runS d) m bd).1⟩ ⟨b+cnt 5 v+lenL d bd+lenL d el+2,r2,(foldR (runS d) m bd).1⟩ [⟨5,(b+cnt 5 v+1+lenL d bd:Nat)⟩] :=
          Reach.one' (s:=⟨b+cnt 5 v+1+lenL d bd,r2,(foldR (runS d) m bd).1⟩) hat4.head (by simp) (by simp only [stepM];simp;rfl)
        refine ⟨r2,?_,i2,fun j hj hj2=>by rw [i3 j hj (by omega),h4 j (.inr hj)]⟩
        have:=((h1.trans h6).trans i1).trans h7
        have e1:(runS (d+1) m (.mk 3 t ix v c bd el)).1=(foldR (runS d) m bd).1:=by simp [runS,hv]
        have e2:xS (d+1) b m (.mk 3 t ix v c bd el)=xE m 5 b v++[⟨5,(b+cnt 5 v:Nat)⟩]++xL d (b+cnt 5 v+1) m bd++[⟨5,(b+cnt 5 v+1+lenL d bd:Nat)⟩]:=by simp [xS,hv,xL]
        rw [e1,e2]
        have e3:b+lenS (d+1) (.mk 3 t ix v c bd el)=b+cnt 5 v+lenL d bd+lenL d el+2:=by simp [lenS,lenL];omega
        rw [e3];exact this
    · have hat:At C b (⟨1,9+dep,c,0,0⟩ :: (cL d (dep+1) (b+1) bd++[⟨10,9+dep,(b+1:Nat),0,0⟩])):=hat
      have hat2:=hat.tail
      have hlo:=(hat2.right (cL_len hb)).head
      have hreg:(9+(dep:Int)).toNat=9+dep:=by omega
      have h0:Reach C ⟨b,regs,m⟩ ⟨b+1,regs.set (9+dep) c,m⟩ [⟨5,b⟩] :=
        Reach.one' (s:=⟨b,regs,m⟩) hat.head (by simp) (by simp [stepM,hreg])
      have key : ∀ n, n ≤ c.toNat → ∃ r' : List Int, Reach C ⟨b + 1, regs.set (9 + dep) c, m⟩ ⟨if n = c.toNat then b + 1 + lenL d bd + 1 else b + 1, r', (iterR (fun m => foldR (runS d) m bd) n m).1⟩
          (iterX (fun m=>xL d (b+1) m bd++[⟨5,(b+1+lenL d bd:Nat)⟩]) (fun m=>foldR (runS d) m bd) n m)∧r'.length=14∧r'.getD (9+dep) 0=c - n∧∀ j,9≤j→j<9+dep→r'.getD j 0=regs.getD j 0:=by
        intro n
        induction n with
        | zero =>
          intro _
          refine ⟨regs.set (9+dep) c,?_,by simp [hr],by rw [getD_set _ _ _ _ (by omega),if_pos rfl];omega,fun j hj hj2=>by rw [getD_set _ _ _ _ (by omega),if_neg (by omega)]⟩
          rw [if_neg (by omega)]
          exact Reach.rfl
        | succ n ihn =>
          intro hn
          obtain ⟨r1,h1,h2,h3,h4⟩:=ihn (by omega)
          rw [if_neg (by omega)] at h1
          obtain ⟨r2,i1,i2,i3⟩:=ihb bd (b+1) _ (iter_fits hb n m hm) hb hat2.left r1 h2
          have e0:nth r2 (9+(dep:Int))=c - n:=by
            have:nth r2 (9+(dep:Int))=r2.getD (9+dep) 0:=by rw [nth,hreg]
            rw [this,i3 (9+dep) (by omega) (by omega),h3]
          have e1:(c - (n:Int)+255) % 256=c - (n+1:Nat):=by omega
          have h7:Reach C ⟨b+1+lenL d bd,r2,(foldR (runS d) (iterR (fun m=>foldR (runS d) m bd) n m).1 bd).1⟩ ⟨if n+1=c.toNat then b+1+lenL d bd+1 else b+1,r2.set (9+dep) (c - (n+1:Nat)),(foldR (runS d) (iterR (fun m=>foldR (runS d) m bd) n m).1 bd).1⟩ [⟨5,(b+1+lenL d bd:Nat)⟩]:=by
            refine Reach.one' (s:=⟨b+1+lenL d bd,r2,(foldR (runS d) (iterR (fun m=>foldR (runS d) m bd) n m).1 bd).1⟩) hlo (by simp) ?_
            simp only [stepM,e0,e1,hreg]
            have hif:(if c - ((n+1:Nat):Int) ≠ 0 then (((b+1:Nat):Int)).toNat else b+1+lenL d bd+1)=if n+1=c.toNat then b+1+lenL d bd+1 else b+1:=by
              by_cases hc:n+1=c.toNat
              · rw [if_pos hc,if_neg (by omega)]
              · rw [if_neg hc,if_pos (by omega)];omega
            rw [hif]
            simp
          refine ⟨r2.set (9+dep) (c - (n+1:Nat)),?_,by simp [i2],by rw [getD_set _ _ _ _ (by omega),if_pos rfl],fun j hj hj2=>by rw [getD_set _ _ _ _ (by omega),if_neg (by omega),i3 j hj (by omega),h4 j hj hj2]⟩
          have:=(h1.trans i1).trans h7
          simp only [iterX,iterR]
          rw [List.append_assoc] at this
          exact this
      obtain ⟨r1,h1,h2,h3,h4⟩:=key c.toNat (Nat.le_refl _)
      rw [if_pos rfl] at h1
      refine ⟨r1,?_,h2,fun j hj hj2=>h4 j hj hj2⟩
      have:=h0.trans h1
      have e3:b+lenS (d+1) (.mk 4 t ix v c bd el)=b+1+lenL d bd+1:=by simp [lenS,lenL];omega
      have e1:runS (d+1) m (.mk 4 t ix v c bd el)=iterR (fun m=>foldR (runS d) m bd) c.toNat m:=by simp [runS]
      have e2:xS (d+1) b m (.mk 4 t ix v c bd el)=[⟨5,b⟩]++iterX (fun m=>xL d (b+1) m bd++[⟨5,(b+1+lenL d bd:Nat)⟩]) (fun m=>foldR (runS d) m bd) c.toNat m:=by simp [xS,xL]
      rw [e3,e1,e2];exact this
end Go.Proofs.YtbknljofedfpjaaGreat.CtL
