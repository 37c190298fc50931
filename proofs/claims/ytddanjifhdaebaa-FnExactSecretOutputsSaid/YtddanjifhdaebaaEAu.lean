/- Contracts of functions of the program, one behind the other, as plain data: what each call returns and which blocks it leaves. -/
import Derived.Test.YtddanjifhdaebaaEFacts
import Derived.Test.YtddanjifhdaebaaEAj
import Derived.Test.YtddanjifhdaebaaTG1
import Derived.Test.YtddanjifhdaebaaEAm
import Derived.Test.YtddanjifhdaebaaEAp
import Derived.Test.YtddanjifhdaebaaEAr
import Derived.Test.YtddanjifhdaebaaEAs
import Derived.Test.YtddanjifhdaebaaEAt
import Derived.Test.YtddanjifhdaebaaEAw
import Derived.Test.YtddanjifhdaebaaEAq
import Derived.Test.YtddanjifhdaebaaEAl
import Derived.Test.YtddanjifhdaebaaEAn
import Derived.Test.YtddanjifhdaebaaEAo
set_option linter.unusedVariables false
set_option linter.unusedSimpArgs false
set_option linter.unusedSectionVars false
set_option maxHeartbeats 16000000
set_option maxRecDepth 100000
namespace Go.Proofs.Ytddanjifhdaebaa.CtD
open Go Go.CT CtF CtR
variable [Yn]
theorem TL.nil {tm:Nat→Option D}:∀ p ∈ ([]:List (Nat × D)),tm p.1=some p.2∧WsD p.2:=fun p h=>by simp at h
theorem TL.cons {tm:Nat→Option D} {n:Nat} {d:D} {l:List (Nat × D)} (h1:tm n=some d) (h2:WsD d) (h:∀ p ∈ l,tm p.1=some p.2∧WsD p.2):∀ p ∈ (n,d) :: l,tm p.1=some p.2∧WsD p.2:=fun p hp=>by
 rcases List.mem_cons.1 hp with rfl | hp
 ·exact ⟨h1,h2⟩
 ·exact h p hp
theorem hh0:∀ k cs,hOf [] k=some (some cs)→∀ c ∈ cs,Ws c:=fun k cs h=>by simp [hOf] at h
theorem hhL:∀ k cs,hpL [] k=some (some cs)→∀ c ∈ cs,Ws c:=fun k cs h=>by simp [hpL] at h
theorem hh1 {hp:Hp} {n:Nat} {cs0:List C} (h0:∀ c ∈ cs0,Ws c) (h:∀ k cs,hp k=some (some cs)→∀ c ∈ cs,Ws c):∀ k cs,upd hp n (some (some cs0)) k=some (some cs)→∀ c ∈ cs,Ws c:=fun k cs e=>by
 simp only [upd] at e
 split at e
 ·cases e;exact h0
 ·exact h k cs e
mutual
def ctE : Ex → Nat
 | .mk _ _ ks=>ctEL ks
def ctEL : List Ex → Nat
 | []=>0
 | e :: r=>(2+ctE e)+ctEL r
end
theorem ctEL_eq : ∀ l : List Ex, ctEL l = (l.map fun e => 2 + ctE e).sum
 | []=>rfl
 | e :: r=>by simp only [ctEL,List.map_cons,List.sum_cons,ctEL_eq r]
mutual
def ctS : St1 → Nat
 | .mk _ _ ix v _ b e=>ctE ix+ctE v+ctSL b+ctSL e
def ctSL : List St1 → Nat
 | []=>0
 | s :: r=>(7+ctS s)+ctSL r
end
theorem ctSL_eq : ∀ l : List St1, ctSL l = (l.map fun e => 7 + ctS e).sum
 | []=>rfl
 | e :: r=>by simp only [ctSL,List.map_cons,List.sum_cons,ctSL_eq r]
theorem cnEL_at {l:List Ex} {i:Nat} {e:Ex} (h:l[i]? = some e):(cnEL l)[i]? = some (cnE e):=by rw [cnEL_eq,List.getElem?_map,h];rfl
theorem cnSL_at {l:List St1} {i:Nat} {e:St1} (h:l[i]? = some e):(cnSL l)[i]? = some (cnS e):=by rw [cnSL_eq,List.getElem?_map,h];rfl
theorem sum_one {α : Type} : ∀ l : List α, (l.map fun _ => 1).sum = l.length
 | []=>rfl
 | a :: r=>by simp only [List.map_cons,List.sum_cons,List.length_cons,sum_one r];omega
theorem markIntSW (h0:Yn.n=0) (l:List Int) (hl:l.length≤1048576) (k:Int) (hk:0≤k) (hb:k+(l.length:Nat)≤1099511627776)  : DW Try.prog 51 [.c (.isl 1 (l.map fun _=>[C.num .i64])),DI .i64 k] (fun n=>n=k+(l.length:Nat)):=by
 have hmx:=mx_eq
 have hrl:(l.map fun _=>[C.num .i64]).length=l.length:=by simp
 have hws:WsD (.c (.isl 1 (l.map fun _=>[C.num .i64]))) := .mm (cnI_mk l)
 have hf:∀ (i:Nat) (x:Int),l[i]? = some x→((l.map (fun _=>1)).take (i+1)).sum=((l.map (fun _=>1)).take i).sum+(fun _=>1) x∧((l.map (fun _=>1)).take i).sum+(fun _=>1) x≤(l.map (fun _=>1)).sum:=fun i x h=>by
  have:=sum_take (fun _=>1) h
  rwa [List.map_take,List.map_take] at this
 have htot:l.length=(l.map (fun _=>1)).sum:=(sum_one l).symm
 have ret:∀ (n:Int) (hp:Hp),n=k+(l.length:Nat)→RetOb 0 (fun d h'=>(∃ n,d=DI .i64 n∧n=k+(l.length:Nat))∧h'=[]) (DI .i64 n) hp:=fun n hp h=>RetOb.plain ⟨⟨n,rfl,h⟩,rfl⟩ rfl
 refine dwZ h0 Try.func51 ?_
 generalize hR:(fun (d:D) (h':List (Option (List C)))=>(∃ n,d=DI .i64 n∧n=k+(l.length:Nat))∧h'=[])=R at ret ⊢
 clear hR
 simp only [go_sem,hrl]
 iterate 3 ((try (refine drvZW Try.func51 ?_;simp only [go_sem,hrl]));((with_reducible and_intros)<;>try exact sd))
 refine Go.loopQ (fun i:Nat=>[(0,.c (.isl 1 (l.map fun _=>[C.num .i64]))),(1,DI .i64 (k+(((l.map (fun _=>1)).take i).sum:Nat))),(5,DI .i64 i)]) (fun i=>[]) 1024 (fun i=>i≤l.length) (fun i=>l.length - i) ?_ 0 some [] _ (by omega) ?_
 ·intro i hi again
  rcases Nat.lt_or_ge i l.length with hlt | hge
  ·obtain ⟨x,hx⟩:∃ x,l[i]? = some x:=⟨l[i],by simp [hlt]⟩
   obtain ⟨hs1,hs2⟩:=hf i x hx
   have hmem:=List.mem_of_getElem? hx
   have hxl:(l.map fun _=>[C.num .i64])[i]? = some [C.num .i64]:=by rw [List.getElem?_map,hx];rfl
   rw [← htot] at hs2
   try dsimp only at hs1 hs2
   try simp only [ctE,ctS] at hs1 hs2
   generalize ((l.map (fun _=>1)).take i).sum=A at *
   generalize (l.map fun _=>[C.num .i64])=rows at *
   refine drvLW Try.func51 ?_
   simp only [go_sem,hrl,hlt,hxl]
   ((try (refine drvZW Try.func51 ?_;simp only [go_sem,hrl,hlt,hxl]));((with_reducible and_intros)<;>try exact sd))
   refine XK.wst h0 [(0,.c (.isl 1 rows)),(1,DI .i64 (k+(A:Nat))),(5,DI .i64 i)] hh0 (TL.cons rfl hws (TL.cons rfl (.v _) (TL.cons rfl (.v _) TL.nil))) ?_
   iterate 3 ((try (refine drvZW Try.func51 ?_;simp only [go_sem,hrl,hlt,hxl]));((with_reducible and_intros)<;>try exact sd))
   refine again (i+1) some [] _ hlt (by omega) ?_
   simp only [go_sem,TmOK,DM,DMs,CM,CMs,forall_eq,exists_eq_left,Mq,HpOK,LowOK]
   simp
   rw [hs1]
   omega
  ·obtain rfl:i=l.length:=by omega
   have hn:¬ l.length<l.length:=by omega
   refine drvLW Try.func51 ?_
   simp only [go_sem,hrl,hn]
   iterate 3 ((try (refine drvZW Try.func51 ?_;simp only [go_sem,hrl,hn]));((with_reducible and_intros)<;>try exact sd))
   exact ret _ _ (by rw [List.take_of_length_le (by simp),htot])
 ·simp only [go_sem,TmOK,DM,DMs,CM,CMs,forall_eq,exists_eq_left,Mq,HpOK,LowOK]
  simp
theorem markExprSWOf (h0:Yn.n=0) (l:List Ex) (hl:l.length≤1048576) (k:Int) (hk:0≤k) (hb:k+(ctEL l:Nat)≤1099511627776) (hc:∀ x ∈ l,∀ k:Int,0≤k→k+(ctEL x.kids:Nat)≤1099511627776→DW Try.prog 149 [.c (.isl 3 (cnEL x.kids)),DI .i64 k] (fun n=>n=k+(ctEL x.kids:Nat))):DW Try.prog 149 [.c (.isl 3 (cnEL l)),DI .i64 k] (fun n=>n=k+(ctEL l:Nat)):=by
 have hmx:=mx_eq
 have hrl:(cnEL l).length=l.length:=by simp [cnEL_eq]
 have hws:WsD (.c (.isl 3 (cnEL l))) := .mm (cnEL_mk l)
 have hf:∀ (i:Nat) (x:Ex),l[i]? = some x→((l.map (fun e=>2+ctE e)).take (i+1)).sum=((l.map (fun e=>2+ctE e)).take i).sum+(fun e=>2+ctE e) x∧((l.map (fun e=>2+ctE e)).take i).sum+(fun e=>2+ctE e) x≤(l.map (fun e=>2+ctE e)).sum:=fun i x h=>by
  have:=sum_take (fun e=>2+ctE e) h
  rwa [List.map_take,List.map_take] at this
 have htot:ctEL l=(l.map (fun e=>2+ctE e)).sum:=ctEL_eq l
 have ret:∀ (n:Int) (hp:Hp),n=k+(ctEL l:Nat)→RetOb 0 (fun d h'=>(∃ n,d=DI .i64 n∧n=k+(ctEL l:Nat))∧h'=[]) (DI .i64 n) hp:=fun n hp h=>RetOb.plain ⟨⟨n,rfl,h⟩,rfl⟩ rfl
 refine dwZ h0 Try.func149 ?_
 generalize hR:(fun (d:D) (h':List (Option (List C)))=>(∃ n,d=DI .i64 n∧n=k+(ctEL l:Nat))∧h'=[])=R at ret ⊢
 clear hR
 simp only [go_sem,hrl]
 iterate 3 ((try (refine drvZW Try.func149 ?_;simp only [go_sem,hrl]));((with_reducible and_intros)<;>try exact sd))
 refine Go.loopQ (fun i:Nat=>[(0,.c (.isl 3 (cnEL l))),(1,DI .i64 (k+(((l.map (fun e=>2+ctE e)).take i).sum:Nat))),(5,DI .i64 i)]) (fun i=>[]) 1024 (fun i=>i≤l.length) (fun i=>l.length - i) ?_ 0 some [] _ (by omega) ?_
 ·intro i hi again
  rcases Nat.lt_or_ge i l.length with hlt | hge
  ·obtain ⟨x,hx⟩:∃ x,l[i]? = some x:=⟨l[i],by simp [hlt]⟩
   obtain ⟨hs1,hs2⟩:=hf i x hx
   have hmem:=List.mem_of_getElem? hx
   have hcm:=hc _ hmem
   obtain ⟨k0,v0,ks⟩:=x
   simp only [Ex.kids,St1.body,St1.els] at hcm
   have hxl:(cnEL l)[i]? = some [.num .i64,.num .i64,.isl 3 (cnEL ks)]:=by rw [cnEL_at hx];rfl
   rw [← htot] at hs2
   try dsimp only at hs1 hs2
   try simp only [ctE,ctS] at hs1 hs2
   generalize ((l.map (fun e=>2+ctE e)).take i).sum=A at *
   generalize (cnEL l)=rows at *
   refine drvLW Try.func149 ?_
   simp only [go_sem,hrl,hlt,hxl]
   ((try (refine drvZW Try.func149 ?_;simp only [go_sem,hrl,hlt,hxl]));((with_reducible and_intros)<;>try exact sd))
   refine XK.wst h0 [(0,.c (.isl 3 rows)),(1,DI .i64 (k+(A:Nat))),(5,DI .i64 i)] hh0 (TL.cons rfl hws (TL.cons rfl (.v _) (TL.cons rfl (.v _) TL.nil))) ?_
   iterate 3 ((try (refine drvZW Try.func149 ?_;simp only [go_sem,hrl,hlt,hxl]));((with_reducible and_intros)<;>try exact sd))
   refine XK.wst h0 [(0,.c (.isl 3 rows)),(1,DI .i64 (k+(A:Nat)+1)),(5,DI .i64 i)] hh0 (TL.cons rfl hws (TL.cons rfl (.v _) (TL.cons rfl (.v _) TL.nil))) ?_
   iterate 3 ((try (refine drvZW Try.func149 ?_;simp only [go_sem,hrl,hlt,hxl]));((with_reducible and_intros)<;>try exact sd))
   have hc1:=hcm (k+(A:Nat)+1+1) (by omega) (by omega)
   refine XK.wcall h0 [(0,.c (.isl 3 rows)),(5,DI .i64 i)] hc1 ok149 hh0 (TL.cons rfl hws (TL.cons rfl (.v _) TL.nil)) ?_
   rintro _ rfl
   iterate 3 ((try (refine drvZW Try.func149 ?_;simp only [go_sem,hrl,hlt,hxl]));((with_reducible and_intros)<;>try exact sd))
   refine again (i+1) some [] _ hlt (by omega) ?_
   simp only [go_sem,TmOK,DM,DMs,CM,CMs,forall_eq,exists_eq_left,Mq,HpOK,LowOK]
   simp
   rw [hs1]
   omega
  ·obtain rfl:i=l.length:=by omega
   have hn:¬ l.length<l.length:=by omega
   refine drvLW Try.func149 ?_
   simp only [go_sem,hrl,hn]
   iterate 3 ((try (refine drvZW Try.func149 ?_;simp only [go_sem,hrl,hn]));((with_reducible and_intros)<;>try exact sd))
   exact ret _ _ (by rw [List.take_of_length_le (by simp),htot])
 ·simp only [go_sem,TmOK,DM,DMs,CM,CMs,forall_eq,exists_eq_left,Mq,HpOK,LowOK]
  simp
theorem markExprSW (h0 : Yn.n = 0) : ∀ (n : Nat) (l : List Ex), SizeOf.sizeOf l ≤ n → l.length ≤ 1048576 → (∀ x ∈ l, ExN x) → ∀ k : Int, 0 ≤ k → k + (ctEL l : Nat) ≤ 1099511627776 → DW Try.prog 149 [.c (.isl 3 (cnEL l)), DI .i64 k] (fun n => n = k + (ctEL l : Nat))
 | 0,l,h,_,_,k,hk,hb=>by cases l<;>simp at h
 | n+1,l,h,hl,hN,k,hk,hb=>markExprSWOf h0 l hl k hk hb fun x hx k' h1 h2=>by
  have:=List.sizeOf_lt_of_mem hx
  have hN':=hN x hx
  cases hN' with
  | mk a b ks g1 g2 =>
   simp only [Ex.mk.sizeOf_spec] at this
   exact markExprSW h0 n ks (by omega) g1 g2 k' h1 h2
theorem markStmtSWOf (h0:Yn.n=0) (l:List St1) (hl:l.length≤1048576) (k:Int) (hk:0≤k) (hb:k+(ctSL l:Nat)≤1099511627776) (hc:∀ x ∈ l,(∀ k:Int,0≤k→k+(ctSL x.body:Nat)≤1099511627776→DW Try.prog 91 [.c (.isl 11 (cnSL x.body)),DI .i64 k] (fun n=>n=k+(ctSL x.body:Nat)))∧(∀ k:Int,0≤k→k+(ctSL x.els:Nat)≤1099511627776→DW Try.prog 91 [.c (.isl 11 (cnSL x.els)),DI .i64 k] (fun n=>n=k+(ctSL x.els:Nat)))) (hN:∀ x ∈ l,StN x):DW Try.prog 91 [.c (.isl 11 (cnSL l)),DI .i64 k] (fun n=>n=k+(ctSL l:Nat)):=by
 have hmx:=mx_eq
 have hrl:(cnSL l).length=l.length:=by simp [cnSL_eq]
 have hws:WsD (.c (.isl 11 (cnSL l))) := .mm (cnSL_mk l)
 have hf:∀ (i:Nat) (x:St1),l[i]? = some x→((l.map (fun e=>7+ctS e)).take (i+1)).sum=((l.map (fun e=>7+ctS e)).take i).sum+(fun e=>7+ctS e) x∧((l.map (fun e=>7+ctS e)).take i).sum+(fun e=>7+ctS e) x≤(l.map (fun e=>7+ctS e)).sum:=fun i x h=>by
  have:=sum_take (fun e=>7+ctS e) h
  rwa [List.map_take,List.map_take] at this
 have htot:ctSL l=(l.map (fun e=>7+ctS e)).sum:=ctSL_eq l
 have ret:∀ (n:Int) (hp:Hp),n=k+(ctSL l:Nat)→RetOb 0 (fun d h'=>(∃ n,d=DI .i64 n∧n=k+(ctSL l:Nat))∧h'=[]) (DI .i64 n) hp:=fun n hp h=>RetOb.plain ⟨⟨n,rfl,h⟩,rfl⟩ rfl
 refine dwZ h0 Try.func91 ?_
 generalize hR:(fun (d:D) (h':List (Option (List C)))=>(∃ n,d=DI .i64 n∧n=k+(ctSL l:Nat))∧h'=[])=R at ret ⊢
 clear hR
 simp only [go_sem,hrl]
 iterate 3 ((try (refine drvZW Try.func91 ?_;simp only [go_sem,hrl]));((with_reducible and_intros)<;>try exact sd))
 refine Go.loopQ (fun i:Nat=>[(0,.c (.isl 11 (cnSL l))),(1,DI .i64 (k+(((l.map (fun e=>7+ctS e)).take i).sum:Nat))),(5,DI .i64 i)]) (fun i=>[]) 1024 (fun i=>i≤l.length) (fun i=>l.length - i) ?_ 0 some [] _ (by omega) ?_
 ·intro i hi again
  rcases Nat.lt_or_ge i l.length with hlt | hge
  ·obtain ⟨x,hx⟩:∃ x,l[i]? = some x:=⟨l[i],by simp [hlt]⟩
   obtain ⟨hs1,hs2⟩:=hf i x hx
   have hmem:=List.mem_of_getElem? hx
   have hcm:=hc _ hmem
   have hNx:=hN _ hmem
   obtain ⟨k0,t0,⟨a1,b1,c1⟩,⟨a2,b2,c2⟩,c0,bd,el⟩:=x
   obtain ⟨q1,q2⟩:((c1.length≤1048576∧∀ x ∈ c1,ExN x)∧(c2.length≤1048576∧∀ x ∈ c2,ExN x)):=by
    cases hNx with
    | mk _ _ _ _ _ _ _ h1 h2=>cases h1 with | mk _ _ _ g1 g2=>cases h2 with | mk _ _ _ g3 g4=>exact ⟨⟨g1,g2⟩,⟨g3,g4⟩⟩
   simp only [Ex.kids,St1.body,St1.els] at hcm
   have hxl:(cnSL l)[i]? = some [.num .i64,.num .i64,.num .i64,.num .i64,.isl 3 (cnEL c1),.num .i64,.num .i64,.isl 3 (cnEL c2),.num .i64,.isl 11 (cnSL bd),.isl 11 (cnSL el)]:=by rw [cnSL_at hx];rfl
   rw [← htot] at hs2
   try dsimp only at hs1 hs2
   try simp only [ctE,ctS] at hs1 hs2
   generalize ((l.map (fun e=>7+ctS e)).take i).sum=A at *
   generalize (cnSL l)=rows at *
   refine drvLW Try.func91 ?_
   simp only [go_sem,hrl,hlt,hxl]
   ((try (refine drvZW Try.func91 ?_;simp only [go_sem,hrl,hlt,hxl]));((with_reducible and_intros)<;>try exact sd))
   refine XK.wst h0 [(0,.c (.isl 11 rows)),(1,DI .i64 (k+(A:Nat))),(5,DI .i64 i)] hh0 (TL.cons rfl hws (TL.cons rfl (.v _) (TL.cons rfl (.v _) TL.nil))) ?_
   iterate 3 ((try (refine drvZW Try.func91 ?_;simp only [go_sem,hrl,hlt,hxl]));((with_reducible and_intros)<;>try exact sd))
   refine XK.wst h0 [(0,.c (.isl 11 rows)),(1,DI .i64 (k+(A:Nat)+1)),(5,DI .i64 i)] hh0 (TL.cons rfl hws (TL.cons rfl (.v _) (TL.cons rfl (.v _) TL.nil))) ?_
   iterate 3 ((try (refine drvZW Try.func91 ?_;simp only [go_sem,hrl,hlt,hxl]));((with_reducible and_intros)<;>try exact sd))
   refine XK.wst h0 [(0,.c (.isl 11 rows)),(1,DI .i64 (k+(A:Nat)+1+1)),(5,DI .i64 i)] hh0 (TL.cons rfl hws (TL.cons rfl (.v _) (TL.cons rfl (.v _) TL.nil))) ?_
   iterate 3 ((try (refine drvZW Try.func91 ?_;simp only [go_sem,hrl,hlt,hxl]));((with_reducible and_intros)<;>try exact sd))
   refine XK.wst h0 [(0,.c (.isl 11 rows)),(1,DI .i64 (k+(A:Nat)+1+1+1)),(5,DI .i64 i)] hh0 (TL.cons rfl hws (TL.cons rfl (.v _) (TL.cons rfl (.v _) TL.nil))) ?_
   iterate 3 ((try (refine drvZW Try.func91 ?_;simp only [go_sem,hrl,hlt,hxl]));((with_reducible and_intros)<;>try exact sd))
   have hc1:=markExprSW h0 _ c1 (Nat.le_refl _) q1.1 q1.2 (k+(A:Nat)+1+1+1+1) (by omega) (by omega)
   refine XK.wcall h0 [(0,.c (.isl 11 rows)),(5,DI .i64 i)] hc1 ok149 hh0 (TL.cons rfl hws (TL.cons rfl (.v _) TL.nil)) ?_
   rintro _ rfl
   iterate 3 ((try (refine drvZW Try.func91 ?_;simp only [go_sem,hrl,hlt,hxl]));((with_reducible and_intros)<;>try exact sd))
   refine XK.wst h0 [(0,.c (.isl 11 rows)),(1,DI .i64 (k+(A:Nat)+1+1+1+1+(ctEL c1:Nat))),(5,DI .i64 i)] hh0 (TL.cons rfl hws (TL.cons rfl (.v _) (TL.cons rfl (.v _) TL.nil))) ?_
   iterate 3 ((try (refine drvZW Try.func91 ?_;simp only [go_sem,hrl,hlt,hxl]));((with_reducible and_intros)<;>try exact sd))
   refine XK.wst h0 [(0,.c (.isl 11 rows)),(1,DI .i64 (k+(A:Nat)+1+1+1+1+(ctEL c1:Nat)+1)),(5,DI .i64 i)] hh0 (TL.cons rfl hws (TL.cons rfl (.v _) (TL.cons rfl (.v _) TL.nil))) ?_
   iterate 3 ((try (refine drvZW Try.func91 ?_;simp only [go_sem,hrl,hlt,hxl]));((with_reducible and_intros)<;>try exact sd))
   have hc2:=markExprSW h0 _ c2 (Nat.le_refl _) q2.1 q2.2 (k+(A:Nat)+1+1+1+1+(ctEL c1:Nat)+1+1) (by omega) (by omega)
   refine XK.wcall h0 [(0,.c (.isl 11 rows)),(5,DI .i64 i)] hc2 ok149 hh0 (TL.cons rfl hws (TL.cons rfl (.v _) TL.nil)) ?_
   rintro _ rfl
   iterate 3 ((try (refine drvZW Try.func91 ?_;simp only [go_sem,hrl,hlt,hxl]));((with_reducible and_intros)<;>try exact sd))
   refine XK.wst h0 [(0,.c (.isl 11 rows)),(1,DI .i64 (k+(A:Nat)+1+1+1+1+(ctEL c1:Nat)+1+1+(ctEL c2:Nat))),(5,DI .i64 i)] hh0 (TL.cons rfl hws (TL.cons rfl (.v _) (TL.cons rfl (.v _) TL.nil))) ?_
   iterate 3 ((try (refine drvZW Try.func91 ?_;simp only [go_sem,hrl,hlt,hxl]));((with_reducible and_intros)<;>try exact sd))
   have hc3:=hcm.1 (k+(A:Nat)+1+1+1+1+(ctEL c1:Nat)+1+1+(ctEL c2:Nat)+1) (by omega) (by omega)
   refine XK.wcall h0 [(0,.c (.isl 11 rows)),(5,DI .i64 i)] hc3 ok91 hh0 (TL.cons rfl hws (TL.cons rfl (.v _) TL.nil)) ?_
   rintro _ rfl
   iterate 3 ((try (refine drvZW Try.func91 ?_;simp only [go_sem,hrl,hlt,hxl]));((with_reducible and_intros)<;>try exact sd))
   have hc4:=hcm.2 (k+(A:Nat)+1+1+1+1+(ctEL c1:Nat)+1+1+(ctEL c2:Nat)+1+(ctSL bd:Nat)) (by omega) (by omega)
   refine XK.wcall h0 [(0,.c (.isl 11 rows)),(5,DI .i64 i)] hc4 ok91 hh0 (TL.cons rfl hws (TL.cons rfl (.v _) TL.nil)) ?_
   rintro _ rfl
   iterate 3 ((try (refine drvZW Try.func91 ?_;simp only [go_sem,hrl,hlt,hxl]));((with_reducible and_intros)<;>try exact sd))
   refine again (i+1) some [] _ hlt (by omega) ?_
   simp only [go_sem,TmOK,DM,DMs,CM,CMs,forall_eq,exists_eq_left,Mq,HpOK,LowOK]
   simp
   rw [hs1]
   omega
  ·obtain rfl:i=l.length:=by omega
   have hn:¬ l.length<l.length:=by omega
   refine drvLW Try.func91 ?_
   simp only [go_sem,hrl,hn]
   iterate 3 ((try (refine drvZW Try.func91 ?_;simp only [go_sem,hrl,hn]));((with_reducible and_intros)<;>try exact sd))
   exact ret _ _ (by rw [List.take_of_length_le (by simp),htot])
 ·simp only [go_sem,TmOK,DM,DMs,CM,CMs,forall_eq,exists_eq_left,Mq,HpOK,LowOK]
  simp
theorem markStmtSW (h0 : Yn.n = 0) : ∀ (n : Nat) (l : List St1), SizeOf.sizeOf l ≤ n → l.length ≤ 1048576 → (∀ x ∈ l, StN x) → ∀ k : Int, 0 ≤ k → k + (ctSL l : Nat) ≤ 1099511627776 → DW Try.prog 91 [.c (.isl 11 (cnSL l)), DI .i64 k] (fun n => n = k + (ctSL l : Nat))
 | 0,l,h,_,_,k,hk,hb=>by cases l<;>simp at h
 | n+1,l,h,hl,hN,k,hk,hb=>markStmtSWOf h0 l hl k hk hb (fun x hx=>by
  have:=List.sizeOf_lt_of_mem hx
  have hN':=hN x hx
  cases hN' with
  | mk a b ix v c bd el h1 h2 h3 h4 h5 h6 =>
   simp only [St1.mk.sizeOf_spec] at this
   exact ⟨fun k' g1 g2=>markStmtSW h0 n bd (by omega) h3 h5 k' g1 g2,fun k' g1 g2=>markStmtSW h0 n el (by omega) h4 h6 k' g1 g2⟩) hN
theorem markProgramW (h0:Yn.n=0) (p:Pg) (hv1:p.vars.length≤1048576) (hv2:p.arrays.length≤1048576) (hv3:p.body.length≤1048576) (hv4:∀ x ∈ p.body,StN x) (k:Int) (hk:0≤k) (hb:k+(p.vars.length+p.arrays.length+ctSL p.body:Nat)≤1099511627776):DW Try.prog 28 [.agg (cnP p),DI .i64 k] (fun n=>n=k+(p.vars.length+p.arrays.length+ctSL p.body:Nat)):=by
 have hmx:=mx_eq
 obtain ⟨vs,ar,bd⟩:=p
 simp only [cnP,cnM,cnI] at *
 have hws:∀ c ∈ ([.isl 1 (vs.map fun _=>[C.num .i64]),.isl 1 (ar.map fun _=>[C.num .i64]),.isl 11 (cnSL bd)]:List C),Ws c:=by
  intro c hc
  simp only [List.mem_cons,List.not_mem_nil,or_false] at hc
  rcases hc with rfl | rfl | rfl
  ·exact .mm (cnI_mk vs)
  ·exact .mm (cnI_mk ar)
  ·exact .mm (cnSL_mk bd)
 have ret:∀ (n:Int) (hp:Hp),n=k+(vs.length+ar.length+ctSL bd:Nat)→RetOb 0 (fun d h'=>(∃ n,d=DI .i64 n∧n=k+(vs.length+ar.length+ctSL bd:Nat))∧h'=[]) (DI .i64 n) hp:=fun n hp h=>RetOb.plain ⟨⟨n,rfl,h⟩,rfl⟩ rfl
 refine dwZ h0 Try.func28 ?_
 generalize hR:(fun (d:D) (h':List (Option (List C)))=>(∃ n,d=DI .i64 n∧n=k+(vs.length+ar.length+ctSL bd:Nat))∧h'=[])=R at ret ⊢
 clear hR
 simp only [go_sem]
 iterate 2 ((try (refine drvZW Try.func28 ?_;simp only [go_sem]));((with_reducible and_intros)<;>try exact sd))
 have hc0:=markIntSW h0 vs hv1 (k) (by omega) (by omega)
 refine XK.wcall h0 [(2,.c (.ptr 0 0))] hc0 ok51 (hh1 hws hhL) (TL.cons rfl (.ptr _ _) TL.nil) ?_
 rintro _ rfl
 iterate 3 ((try (refine drvZW Try.func28 ?_;simp only [go_sem]));((with_reducible and_intros)<;>try exact sd))
 have hc1:=markIntSW h0 ar hv2 (k+(vs.length:Nat)) (by omega) (by omega)
 refine XK.wcall h0 [(2,.c (.ptr 0 0))] hc1 ok51 (hh1 hws hhL) (TL.cons rfl (.ptr _ _) TL.nil) ?_
 rintro _ rfl
 iterate 3 ((try (refine drvZW Try.func28 ?_;simp only [go_sem]));((with_reducible and_intros)<;>try exact sd))
 have hc2:=markStmtSW h0 _ bd (Nat.le_refl _) hv3 hv4 (k+(vs.length:Nat)+(ar.length:Nat)) (by omega) (by omega)
 refine XK.wcall h0 [(2,.c (.ptr 0 0))] hc2 ok91 (hh1 hws hhL) (TL.cons rfl (.ptr _ _) TL.nil) ?_
 rintro _ rfl
 iterate 3 ((try (refine drvZW Try.func28 ?_;simp only [go_sem]));((with_reducible and_intros)<;>try exact sd))
 exact ret _ _ (by omega)
def mkB (k:Int) (n:Nat):List Bool:=(List.range n).map fun (i:Nat)=>(k+(i:Int)) % 3 == 0
theorem mkB_len (k:Int) (n:Nat):(mkB k n).length=n:=by simp [mkB]
theorem mkB_succ (k:Int) (n:Nat):mkB k (n+1)=mkB k n++[(k+(n:Int)) % 3 == 0]:=by simp [mkB,List.range_succ]
theorem set_next {α:Type} {A l:List α} {i:Nat} (hA:A.length=i) (h:i<l.length) (y:α):(A++l.drop i).set i y=A++[y]++l.drop (i+1):=by
 rw [List.drop_eq_getElem_cons h]
 generalize l[i]=z
 subst hA
 rw [List.set_append_right _ _ (Nat.le_refl _)]
 simp
theorem markBoolSO (l:List Bool) (k:Int) (hk:0≤k) (hb:k+(l.length:Nat)≤1099511627776):DC Try.prog 29 [.c (.msl 0 1 0 l.length),DI .i64 k] [some (boolsC l)] (fun r h=>r=DI .i64 (k+(l.length:Nat))∧h=[some (boolsC (mkB k l.length))]):=by
 have hmx:=mx_eq
 have ret:∀ (n:Int) (cs:List C) (hp:Hp),n=k+(l.length:Nat)→hp 0=some (some cs)→cs=boolsC (mkB k l.length)→RetOb 1 (fun r h=>r=DI .i64 (k+(l.length:Nat))∧h=[some (boolsC (mkB k l.length))]) (DI .i64 n) hp:=fun n cs hp h1 h2 h3=>by
  subst h1 h3
  refine RetOb.ofQ (fun j=>if j=0 then some 0 else none) [] _ [some (boolsC (mkB k l.length))] ?_ ⟨rfl,rfl⟩ (by simp)
  have e4:∀ {hT hS:Hp} {r:Nat→Option Nat} {fz:List Nat},CMs hT r hS fz (boolsC (mkB k l.length)) (boolsC (mkB k l.length))=True:=eq_true (CMs.kf (boolsC_kf _))
  simp [enumL,DM,DMs,CM,CMs,HpOK,LowOK,hOf,upd,h2,e4]
 generalize hR:(fun (r:D) (h:List (Option (List C)))=>r=DI .i64 (k+(l.length:Nat))∧h=[some (boolsC (mkB k l.length))])=R at ret ⊢
 clear hR
 have hcl:=boolsC_len l
 refine dcZ Try.func29 ?_
 simp only [go_sem]
 iterate 3 ((try (refine drvZ Try.func29 ?_;simp only [go_sem]));((with_reducible and_intros)<;>try exact sd))
 refine Go.loopQ (fun i:Nat=>[(0,.c (.msl 0 1 0 l.length)),(1,DI .i64 (k+(i:Int))),(5,DI .i64 i)]) (fun i=>[(0,some (boolsC (mkB k i++l.drop i)))]) 1024 (fun i=>i≤l.length) (fun i=>l.length - i) ?_ 0 some [] _ (by omega) ?_
 ·intro i hi again
  have hci:(boolsC (mkB k i++l.drop i)).length=l.length:=by rw [boolsC_len,List.length_append,mkB_len,List.length_drop];omega
  rcases Nat.lt_or_ge i l.length with hlt | hge
  ·have hst:(boolsC (mkB k i++l.drop i)).set i (.v (.bool ((k+(i:Int)) % 3 == 0)))=boolsC (mkB k (i+1)++l.drop (i+1)):=by
    rw [mkB_succ,← set_next (mkB_len k i) hlt]
    simp [boolsC,List.map_set]
   have h3:(0:Int)≤k+(i:Int):=by omega
   generalize boolsC (mkB k i++l.drop i)=B at *
   refine drvL Try.func29 ?_
   simp only [go_sem,hlt,hci,h3]
   iterate 4 ((try (refine drvZ Try.func29 ?_;simp only [go_sem,hlt,hci,h3,Nat.mul_one]));((with_reducible and_intros)<;>try exact sd))
   simp only [hst]
   refine again (i+1) some [] _ hlt (by omega) ?_
   simp only [go_sem,TmOK,DM,DMs,CM,CMs,forall_eq,exists_eq_left,Mq,HpOK,LowOK]
   exact ⟨by rw [Int.add_assoc],⟨by simp,CMs.kf (boolsC_kf _)⟩,by simp⟩
  ·obtain rfl:i=l.length:=by omega
   have hn:¬ l.length<l.length:=by omega
   refine drvL Try.func29 ?_
   simp only [go_sem,hn]
   iterate 3 ((try (refine drvZ Try.func29 ?_;simp only [go_sem,hn]));((with_reducible and_intros)<;>try exact sd))
   exact ret _ _ _ rfl rfl (by rw [List.drop_length,List.append_nil])
 ·simp only [go_sem,TmOK,DM,DMs,CM,CMs,forall_eq,exists_eq_left,Mq,HpOK,LowOK]
  exact ⟨⟨by simp,CMs.kf (boolsC_kf l)⟩,by simp⟩
theorem heldBoolSP (k:Int) (n:Nat) (hk:0≤k) (hb:k+(n:Nat)≤1099511627776) (hn:n≤mx):DC Try.prog 30 [.c (.isl 1 ((mkB k n).map fun b=>[C.v (.bool b)])),DI .i64 k] [] (fun r h=>r=DI .i64 (k+(n:Nat))∧h=[]):=by
 have hmx:=mx_eq
 have ret:∀ (v:Int) (hp:Hp),v=k+(n:Nat)→RetOb 0 (fun r h=>r=DI .i64 (k+(n:Nat))∧h=[]) (DI .i64 v) hp:=fun v hp h=>by subst h;exact RetOb.plain ⟨rfl,rfl⟩ rfl
 generalize hR:(fun (r:D) (h:List (Option (List C)))=>r=DI .i64 (k+(n:Nat))∧h=[])=R at ret ⊢
 clear hR
 have hrl:((mkB k n).map fun b=>[C.v (.bool b)]).length=n:=by simp [mkB_len]
 refine dcZ Try.func30 ?_
 simp only [go_sem,hrl]
 iterate 3 ((try (refine drvZ Try.func30 ?_;simp only [go_sem,hrl]));((with_reducible and_intros)<;>try exact sd))
 refine Go.loopQ (fun i:Nat=>[(0,.c (.isl 1 ((mkB k n).map fun b=>[C.v (.bool b)]))),(1,DI .i64 (k+(i:Int))),(5,DI .i64 i)]) (fun _=>[]) 1024 (fun i=>i≤n) (fun i=>n - i) ?_ 0 some [] _ (by omega) ?_
 ·intro i hi again
  rcases Nat.lt_or_ge i n with hlt | hge
  ·have hxl:((mkB k n).map fun b=>[C.v (.bool b)])[i]? = some [C.v (.bool ((k+(i:Int)) % 3 == 0))]:=by simp [mkB,hlt]
   have h3:(0:Int)≤k+(i:Int):=by omega
   generalize ((mkB k n).map fun b=>[C.v (.bool b)])=rows at *
   refine drvL Try.func30 ?_
   simp only [go_sem,hrl,hlt,hxl,h3,bne_self_eq_false]
   iterate 5 ((try (refine drvZ Try.func30 ?_;simp only [go_sem,hrl,hlt,hxl,h3,bne_self_eq_false]));((with_reducible and_intros)<;>try exact sd))
   refine again (i+1) some [] _ hlt (by omega) ?_
   simp only [go_sem,TmOK,DM,DMs,CM,CMs,forall_eq,exists_eq_left,Mq,HpOK,LowOK]
   simp
   omega
  ·obtain rfl:n=i:=by omega
   have hnn:¬ n<n:=by omega
   generalize ((mkB k n).map fun b=>[C.v (.bool b)])=rows at *
   refine drvL Try.func30 ?_
   simp only [go_sem,hrl,hnn]
   iterate 3 ((try (refine drvZ Try.func30 ?_;simp only [go_sem,hrl,hnn]));((with_reducible and_intros)<;>try exact sd))
   exact ret _ _ rfl
 ·simp only [go_sem,TmOK,DM,DMs,CM,CMs,forall_eq,exists_eq_left,Mq,HpOK,LowOK]
  all_goals simp
theorem eqBoolST (l:List Bool) (hl:l.length≤mx):DC Try.prog 26 [.c (.isl 1 (l.map fun b=>[C.v (.bool b)])),.c (.isl 1 (l.map fun b=>[C.v (.bool b)]))] [] (fun r h=>r=DB true∧h=[]):=by
 have hmx:=mx_eq
 have ret:∀ hp:Hp,RetOb 0 (fun r h=>r=DB true∧h=[]) (DB true) hp:=fun hp=>RetOb.plain (d:=DB true) ⟨rfl,rfl⟩ rfl
 generalize hR:(fun (r:D) (h:List (Option (List C)))=>r=DB true∧h=[])=R at ret ⊢
 clear hR
 have hrl:(l.map fun b=>[C.v (.bool b)]).length=l.length:=by simp
 refine dcZ Try.func26 ?_
 simp only [go_sem,hrl,bne_self_eq_false]
 iterate 4 ((try (refine drvZ Try.func26 ?_;simp only [go_sem,hrl,bne_self_eq_false]));((with_reducible and_intros)<;>try exact sd))
 refine Go.loopQ (fun i:Nat=>[(0,.c (.isl 1 (l.map fun b=>[C.v (.bool b)]))),(1,.c (.isl 1 (l.map fun b=>[C.v (.bool b)]))),(5,DI .i64 i)]) (fun _=>[]) 1024 (fun i=>i≤l.length) (fun i=>l.length - i) ?_ 0 some [] _ (by omega) ?_
 ·intro i hi again
  rcases Nat.lt_or_ge i l.length with hlt | hge
  ·obtain ⟨x,hx⟩:∃ x,l[i]? = some x:=⟨l[i],by simp [hlt]⟩
   have hxl:(l.map fun b=>[C.v (.bool b)])[i]? = some [C.v (.bool x)]:=by rw [List.getElem?_map,hx];rfl
   generalize hRW:(l.map fun b=>[C.v (.bool b)])=rows at *
   refine drvL Try.func26 ?_
   simp only [go_sem,hrl,hlt,hxl,bne_self_eq_false]
   iterate 6 ((try (refine drvZ Try.func26 ?_;simp only [go_sem,hrl,hlt,hxl,bne_self_eq_false]));((with_reducible and_intros)<;>try exact sd))
   refine again (i+1) some [] _ hlt (by omega) ?_
   simp only [go_sem,TmOK,DM,DMs,CM,CMs,forall_eq,exists_eq_left,Mq,HpOK,LowOK]
   try simp
  ·have hn:¬ i<l.length:=by omega
   generalize hRW:(l.map fun b=>[C.v (.bool b)])=rows at *
   refine drvL Try.func26 ?_
   simp only [go_sem,hrl,hn]
   iterate 3 ((try (refine drvZ Try.func26 ?_;simp only [go_sem,hrl,hn]));((with_reducible and_intros)<;>try exact sd))
   exact ret _
 ·simp only [go_sem,TmOK,DM,DMs,CM,CMs,forall_eq,exists_eq_left,Mq,HpOK,LowOK]
  try simp
theorem sownEN (e:Ex) (he:ExN e):DC Try.prog 202 [.agg e.cells] [] (fun r h=>r = .agg e.cells∧h=[]):=by
 have hmx:=mx_eq
 induction he with
 | mk k v ks hlen hall ih =>
  have ih:=sownLE ks (by omega) ih
  refine dcZ Try.func202 ?_
  simp only [go_sem]
  iterate 4 ((try (refine drvZ Try.func202 ?_;simp only [go_sem]));((with_reducible and_intros)<;>try exact sd);(try first | refine XK.p ih ok221 ?_ | refine XK.gp ih ok221 ?_))
  exact RetOb.plain ⟨rfl,rfl⟩ (by simp [kD,kf])
theorem sownSN (s:St1) (h:StN s):DC Try.prog 178 [.agg s.cells] [] (fun r h=>r = .agg s.cells∧h=[]):=by
 induction h with
 | mk k t ix v c b e h1 h2 h3 h4 h5 h6 i5 i6=>exact sownSO k t ix v c b e (sownEN _ h1) (sownEN _ h2) (sownLS b (by omega) i5) (sownLS e (by omega) i6)
theorem sownPN (p:Pg) (hp:PgN p):DC Try.prog 81 [.agg p.cells] [] (fun r h=>r = .agg p.cells∧h=[]):=by
 have hmx:=mx_eq
 have hbd:=sownLS p.body (by have:=hp.nb;omega) fun s hs=>sownSN s (hp.st s hs)
 have hv:=hp.nv
 have ha:=hp.na
 obtain ⟨vs,ar,bd⟩:=p
 simp only at hv ha hbd
 have hgv:=flat_I vs
 have hga:=flat_I ar
 refine dcZ Try.func81 ?_
 simp only [go_sem,flat_I']
 iterate 8 ((try (refine drvZ Try.func81 ?_;simp only [go_sem,flat_I']));((with_reducible and_intros)<;>try exact sd);(try first | refine XK.p hbd ok138 ?_ | refine XK.gp hbd ok138 ?_))
 refine RetOb.ofQ (fun j=>none) [320,704] (.agg [.isl 1 (vs.map fun n=>[I64 n]),.isl 1 (ar.map fun n=>[I64 n]),.isl 11 (St1.cellsL bd)]) [] ?_ ⟨rfl,rfl⟩ (by simp)
 simp [enumL,hOf,DM,CM,CMs,HpOK,LowOK,upd,hgv,hga,kf,List.take_of_length_le]
theorem ML.nil {hT:Hp} {tm:Nat→Option D}:∀ p ∈ ([]:List (Nat × D)),tm p.1=some p.2∧OdD hT p.2:=fun p h=>by simp at h
theorem ML.cons {hT:Hp} {tm:Nat→Option D} {n:Nat} {d:D} {l:List (Nat × D)} (h1:tm n=some d) (h2:OdD hT d) (h:∀ p ∈ l,tm p.1=some p.2∧OdD hT p.2):∀ p ∈ (n,d) :: l,tm p.1=some p.2∧OdD hT p.2:=fun p hp=>by
 rcases List.mem_cons.1 hp with rfl | hp
 ·exact ⟨h1,h2⟩
 ·exact h p hp
theorem HL.nil {hT hp:Hp}:∀ p ∈ ([]:List (Nat × Option (List C))),hp p.1=some p.2∧∀ cs,p.2=some cs→∀ c ∈ cs,Od hT c:=fun p h=>by simp at h
theorem HL.cons {hT hp : Hp} {n : Nat} {cs0 : List C} {l : List (Nat × Option (List C))} (h1 : hp n = some (some cs0)) (h2 : ∀ c ∈ cs0, Od hT c) (h : ∀ p ∈ l, hp p.1 = some p.2 ∧ ∀ cs, p.2 = some cs → ∀ c ∈ cs, Od hT c) :
 ∀ p ∈ (n,some cs0) :: l,hp p.1=some p.2∧∀ cs,p.2=some cs→∀ c ∈ cs,Od hT c:=fun p hp=>by
 rcases List.mem_cons.1 hp with rfl | hp
 ·exact ⟨h1,fun cs e=>by cases e;exact h2⟩
 ·exact h p hp
theorem boolsC_od {hT:Hp} (L:List Bool):∀ c ∈ boolsC L,Od hT c:=fun c hc=>by obtain ⟨b,_,rfl⟩:=List.mem_map.1 hc;exact .v _
theorem boolsD1 (L:List Bool):∀ x ∈ (L.map fun b=>[C.v (.bool b)]),x.length=1:=fun x hx=>by obtain ⟨b,_,rfl⟩:=List.mem_map.1 hx;rfl
theorem boolsDk (L:List Bool):∀ x ∈ (L.map fun b=>[C.v (.bool b)]),∀ c ∈ x,kf c=true:=fun x hx c hc=>by
 obtain ⟨b,_,rfl⟩:=List.mem_map.1 hx
 simp only [List.mem_singleton] at hc
 subst hc;rfl
theorem boolsDf (L:List Bool):(L.map fun b=>[C.v (.bool b)]).flatten=boolsC L:=boolsC_flat L
theorem eqBoolO (L:List Bool) (w:Nat) (hw:L.length=w) (hm:w≤mx):DC Try.prog 26 [.c (.msl 0 1 0 w),.c (.msl 1 1 0 w)] [some (boolsC L),some (boolsC L)] (fun r h'=>r=DB true∧h'=[some (boolsC L),some (boolsC L)]) :=
 DC.borrow [0,1] (by
  simp only [DMs,DM,CM]
  exact ⟨⟨⟨trivial,trivial,by simp [hw]⟩,by simp,by rw [boolsDf];rfl,boolsD1 L,boolsDk L⟩,⟨⟨trivial,trivial,by simp [hw]⟩,by simp,by rw [boolsDf];rfl,boolsD1 L,boolsDk L⟩,trivial⟩) (eqBoolST L (by omega))
theorem heldBoolO (k:Int) (n:Nat) (hk:0≤k) (hb:k+(n:Nat)≤1099511627776) (hn:n≤mx):DC Try.prog 30 [.c (.msl 0 1 0 n),DI .i64 k] [some (boolsC (mkB k n))] (fun r h'=>r=DI .i64 (k+(n:Nat))∧h'=[some (boolsC (mkB k n))]) :=
 DC.borrow [0] (by
  simp only [DMs,DM,CM]
  exact ⟨⟨⟨trivial,trivial,by simp [mkB_len]⟩,by simp,by rw [boolsDf];rfl,boolsD1 _,boolsDk _⟩,trivial,trivial⟩) (heldBoolSP k n hk hb hn)
theorem eqBoolN:DC Try.prog 26 [.c (.isl 1 []),.c (.isl 1 [])] [] (fun r h'=>r=DB true∧h'=[]):=eqBoolST [] (by simp)
theorem heldBoolN:DC Try.prog 30 [.c (.isl 1 []),DI .i64 1] [] (fun r h'=>r=DI .i64 1∧h'=[]):=heldBoolSP 1 0 (by omega) (by omega) (by simp)
theorem markBoolN:DC Try.prog 29 [.c (.isl 1 []),DI .i64 1] [] (fun r h'=>r=DI .i64 1∧h'=[]):=by
 have ret:∀ hp:Hp,RetOb 0 (fun r h'=>r=DI .i64 1∧h'=[]) (DI .i64 1) hp:=fun hp=>RetOb.plain ⟨rfl,rfl⟩ rfl
 generalize hR:(fun (r:D) (h:List (Option (List C)))=>r=DI .i64 1∧h=[])=R at ret ⊢
 refine dcZ Try.func29 ?_
 simp only [go_sem]
 iterate 3 ((try (refine drvZ Try.func29 ?_;simp only [go_sem]));((with_reducible and_intros)<;>try exact sd))
 refine Go.loopQ (fun _:Unit=>[(0,.c (.isl 1 [])),(1,DI .i64 1),(5,DI .i64 0)]) (fun _=>[]) 1024 (fun _=>True) (fun _=>0) ?_ () some [] _ trivial ?_
 ·intro _ _ _
  refine drvL Try.func29 ?_
  simp only [go_sem,Int.reduceLT]
  iterate 3 ((try (refine drvZ Try.func29 ?_;simp only [go_sem,Int.reduceLT]));((with_reducible and_intros)<;>try exact sd))
  exact ret _
 ·simp only [go_sem,TmOK,DM,DMs,CM,CMs,forall_eq,exists_eq_left,Mq,HpOK,LowOK]
  all_goals simp
theorem ctE_le : ∀ (n : Nat) (e : Ex), SizeOf.sizeOf e ≤ n → ctE e ≤ 7 * szE e
 | 0,.mk k v ks,h=>by simp at h
 | n+1,.mk k v ks,h=>by
  have key:∀ l:List Ex,(∀ x ∈ l,SizeOf.sizeOf x≤n)→ctEL l≤7 * szEL l:=fun l=>by
   induction l with
   | nil=>intro _;simp [ctEL,szEL]
   | cons a r ih =>
    intro hx
    have h1:=ctE_le n a (hx a (by simp))
    have h2:=ih fun x hx'=>hx x (by simp [hx'])
    simp only [ctEL,szEL];omega
  simp only [ctE,szE]
  exact key ks fun x hx=>by have:=List.sizeOf_lt_of_mem hx;simp only [Ex.mk.sizeOf_spec] at h;omega
theorem ctS_le : ∀ (n : Nat) (s : St1), SizeOf.sizeOf s ≤ n → ctS s ≤ 7 * szS s
 | 0,.mk k t ix v c b e,h=>by simp at h
 | n+1,.mk k t ix v c b e,h=>by
  have key:∀ l:List St1,(∀ x ∈ l,SizeOf.sizeOf x≤n)→ctSL l≤7 * szSL l:=fun l=>by
   induction l with
   | nil=>intro _;simp [ctSL,szSL]
   | cons a r ih =>
    intro hx
    have h1:=ctS_le n a (hx a (by simp))
    have h2:=ih fun x hx'=>hx x (by simp [hx'])
    simp only [ctSL,szSL];omega
  simp only [St1.mk.sizeOf_spec] at h
  have h1:=ctE_le _ ix (Nat.le_refl _)
  have h2:=ctE_le _ v (Nat.le_refl _)
  have h3:=key b fun x hx=>by have:=List.sizeOf_lt_of_mem hx;omega
  have h4:=key e fun x hx=>by have:=List.sizeOf_lt_of_mem hx;omega
  simp only [ctS,szS];omega
theorem ctSL_le : ∀ l : List St1, ctSL l ≤ 7 * szSL l
 | []=>by simp [ctSL,szSL]
 | a :: r=>by
  have h1:=ctS_le _ a (Nat.le_refl _)
  have h2:=ctSL_le r
  simp only [ctSL,szSL];omega
omit [Yn] in
theorem markP1 (p:Pg) (hp:PgN p) (hs:szP p≤1048576) : @DW ⟨0⟩ Try.prog 28 [.agg (cnP p),DI .i64 1] (fun n=>0≤n∧n≤100000000):=by
 letI:Yn:=⟨0⟩
 have h4:=ctSL_le p.body
 unfold szP at hs
 exact (markProgramW rfl p hp.nv hp.na hp.nb hp.st 1 (by omega) (by omega)).imp fun n e=>⟨by omega,by omega⟩
theorem lawXRel (p:Pg) (hp:PgB p):LW Try.prog 4 [.agg p.cells]:=by
 have hmx:=mx_eq
 refine lwZ Try.func4 (.cons (.agg (cyP_co false p)) .nil) fun y=>?_
 have z1:=(szProgram_c p hp 1048576 (by omega) (by omega)).er (.cons (.agg (cyP_co false p)) (.cons (y:=false) (.rfl _) .nil))
 have ret:∀ hp:Hp,RetOb 0 (fun d h=>d=DB true∧h=[]) (DB true) hp:=fun hp=>RetOb.plain (d:=DB true) ⟨rfl,rfl⟩ rfl
 by_cases q1:((szP p:Nat):Int)≤1048576
 ·rw [subZ,if_pos q1] at z1
  have g1:((1048576:Int) - (szP p:Int)<0)=False:=eq_false (by omega)
  have np:=pgN_of (p:=p) (by omega)
  have hls:lsize 5 p.body≤1048576:=by
   have h1:=lsize_le 5 p.body
   have h2:szSL p.body≤szP p:=by unfold szP;omega
   omega
  have c1:=(toProgram_y p np).er (.cons (.agg (cyP_co false p)) .nil)
  have e1:=(eqProgram_c p hp).er (.cons (.agg (cyP_co true p)) (.cons (.agg (cyP_co true p)) .nil))
  cases hok:progOK p with
  | true =>
   have hln:=prog_len hok
   obtain ⟨w,hw⟩:∃ w,p.vars.length+p.arrays.length=w:=⟨_,rfl⟩
   have hs:=(releaseDependsSO p hw (by omega) (by omega) (sownPN p np) (by omega) hok).er (.cons (.agg (cyP_co true p)) .nil)
   have hi:=(releaseDependsO p hw (by omega) (by omega) hok).er (.cons (.agg (cyP_co true p)) .nil)
   have hLl:=bl_len w (depP p).re
   have hw14:w≤14:=by omega
   have hmk:=markP1 p np (by omega)
   have hyt:=cyP_yt p
   generalize bl w (depP p).re=L at *
   have hod:=cyP_od (hT:=fun _=>none) p
   generalize szP p=s1 at *
   obtain ⟨vs,ar,bd⟩:=p
   simp only [cyP,cyI] at hyt hod c1 e1 hs hi z1 ⊢
   simp only [go_sem]
   iterate 4 ((try (refine drvZ Try.func4 ?_;simp only [go_sem,g1]));((with_reducible and_intros)<;>try exact sd);(try first | refine XK.p z1 ok22 ?_ | refine XK.gp z1 ok22 ?_ | refine XK.p c1 ok24 ?_ | refine XK.gp c1 ok24 ?_))
   refine XK.callG [] hs ok23 (fun i' x h=>by simp at h) (hbT ()) (fun d h' ⟨_,e⟩=>by subst e;simp) ?_
   rintro _ _ ⟨rfl,rfl⟩ _
   iterate 4 ((try (refine drvZ Try.func4 ?_;simp only [go_sem,g1,boolsC_ren]));((with_reducible and_intros)<;>try exact sd);(try first | refine XK.p c1 ok24 ?_ | refine XK.gp c1 ok24 ?_))
   refine XK.callG [] hi ok25 (fun i' x h=>by simp at h) (hbT ()) (fun d h' ⟨_,e⟩=>by subst e;simp) ?_
   rintro _ _ ⟨rfl,rfl⟩ _
   iterate 2 ((try (refine drvZ Try.func4 ?_;simp only [go_sem,g1,boolsC_ren]));((with_reducible and_intros)<;>try exact sd);(try first | refine XK.p c1 ok24 ?_ | refine XK.gp c1 ok24 ?_))
   have heq:=eqBoolO L w hLl (by omega)
   refine XK.callG [1152,704] heq ok26 (hhpG (by simp [HH,upd,hOf,boolsC_ren])) (hbT ()) (fun d h' ⟨_,e⟩=>by subst e;simp) ?_
   rintro _ _ ⟨rfl,rfl⟩ _
   iterate 6 ((try (refine drvZ Try.func4 ?_;simp only [go_sem,g1,boolsC_ren]));((with_reducible and_intros)<;>try exact sd);(try first | refine XK.p c1 ok24 ?_ | refine XK.gp c1 ok24 ?_ | refine XK.p e1 ok27 ?_ | refine XK.gp e1 ok27 ?_))
   refine XK.mark [(1, .c (.ptr 0 0)), (4, .c (.msl 704 1 0 w)), (6, .c (.msl 1152 1 0 w))] [(0, some [.csl false 1 (vs.map fun n => [I64 n]), .csl false 1 (ar.map fun n => [I64 n]), .csl false 11 (cySL false bd)]), (704, some (boolsC L)), (1152, some (boolsC L))] hmk ok28 (.cons (.agg hyt) (.cons (.c (.v _)) .nil))
    (HL.cons rfl (cyP_od ⟨vs,ar,bd⟩) (HL.cons rfl (boolsC_od L) (HL.cons rfl (boolsC_od L) HL.nil))) (ML.cons rfl (.ptr _ _ (by simp [hOf,upd])) (ML.cons rfl (.msl _ _ _ _ (by simp [hOf,upd])) (ML.cons rfl (.msl _ _ _ _ (by simp [hOf,upd])) ML.nil))) ?_
   rintro n ⟨hn0,hn1⟩
   have hn2:(n<0)=False:=eq_false (by omega)
   iterate 4 ((try (refine drvZ Try.func4 ?_;simp only [go_sem,hn2,boolsC_ren]));((with_reducible and_intros)<;>try exact sd))
   refine XK.callT 2 false [1152,704] heq ok26 (hhpG (by simp [HH,upd,hOf,boolsC_ren])) (hbT ()) (fun d h' ⟨_,e⟩=>by subst e;simp) ?_
   rintro _ _ ⟨rfl,rfl⟩ _
   iterate 4 ((try (refine drvZ Try.func4 ?_;simp only [go_sem,hn2,boolsC_ren]));((with_reducible and_intros)<;>try exact sd))
   have hmb:=markBoolSO L 1 (by omega) (by omega)
   rw [hLl] at hmb
   refine XK.callG [1152] hmb ok29 (hhpG (by simp [HH,upd,hOf,boolsC_ren])) (hbT ()) (fun d h' ⟨_,e⟩=>by subst e;simp) ?_
   rintro _ _ ⟨rfl,rfl⟩ _
   iterate 4 ((try (refine drvZ Try.func4 ?_;simp only [go_sem,hn2,boolsC_ren]));((with_reducible and_intros)<;>try exact sd))
   have hhb:=heldBoolO 1 w (by omega) (by omega) (by omega)
   refine XK.callG [1152] hhb ok30 (hhpG (by simp [HH,upd,hOf,boolsC_ren])) (hbT ()) (fun d h' ⟨_,e⟩=>by subst e;simp) ?_
   rintro _ _ ⟨rfl,rfl⟩ _
   have hq0:((1:Int)+(w:Int)<0)=False:=eq_false (by omega)
   iterate 6 ((try (refine drvZ Try.func4 ?_;simp only [go_sem,hq0,bne_self_eq_false,boolsC_ren]));((with_reducible and_intros)<;>try exact sd);(try first | refine XK.p c1 ok24 ?_ | refine XK.gp c1 ok24 ?_))
   refine XK.callG [] hi ok25 (fun i' x h=>by simp at h) (hbT ()) (fun d h' ⟨_,e⟩=>by subst e;simp) ?_
   rintro _ _ ⟨rfl,rfl⟩ _
   iterate 3 ((try (refine drvZ Try.func4 ?_;simp only [go_sem,boolsC_ren]));((with_reducible and_intros)<;>try exact sd))
   refine XK.callG [3776,704] heq ok26 (hhpG (by simp [HH,upd,hOf,boolsC_ren])) (hbT ()) (fun d h' ⟨_,e⟩=>by subst e;simp) ?_
   rintro _ _ ⟨rfl,rfl⟩ _
   iterate 4 ((try (refine drvZ Try.func4 ?_;simp only [go_sem,boolsC_ren]));((with_reducible and_intros)<;>try exact sd))
   refine XK.callG [1152] hhb ok30 (hhpG (by simp [HH,upd,hOf,boolsC_ren])) (hbT ()) (fun d h' ⟨_,e⟩=>by subst e;simp) ?_
   rintro _ _ ⟨rfl,rfl⟩ _
   iterate 5 ((try (refine drvZ Try.func4 ?_;simp only [go_sem,hq0,bne_self_eq_false,boolsC_ren]));((with_reducible and_intros)<;>try exact sd))
   exact ret _
  | false =>
   have nv:=np.nv
   have nar:=np.na
   have hs:=(releaseDependsS0G p (sownPN p np) (by omega) (by omega) (by omega) hok).er (.cons (.agg (cyP_co true p)) .nil)
   have hi:=(releaseDependsI0 p (by omega) (by omega) hok).er (.cons (.agg (cyP_co true p)) .nil)
   have hmk:=markP1 p np (by omega)
   have hyt:=cyP_yt p
   have heq:=eqBoolN
   have hmb:=markBoolN
   have hhb:=heldBoolN
   generalize szP p=s1 at *
   obtain ⟨vs,ar,bd⟩:=p
   simp only [cyP,cyI] at hyt c1 e1 hs hi z1 ⊢
   simp only [go_sem]
   iterate 16 ((try (refine drvZ Try.func4 ?_;simp only [go_sem,g1]));((with_reducible and_intros)<;>try exact sd);(try first | refine XK.p z1 ok22 ?_ | refine XK.gp z1 ok22 ?_ | refine XK.p c1 ok24 ?_ | refine XK.gp c1 ok24 ?_ | refine XK.p hs ok23 ?_ | refine XK.gp hs ok23 ?_ | refine XK.p hi ok25 ?_ | refine XK.gp hi ok25 ?_ | refine XK.p heq ok26 ?_ | refine XK.gp heq ok26 ?_ | refine XK.p e1 ok27 ?_ | refine XK.gp e1 ok27 ?_))
   refine XK.mark [(1, .c (.ptr 0 0)), (4, .c (.isl 1 [])), (6, .c (.isl 1 []))] [(0, some [.csl false 1 (vs.map fun n => [I64 n]), .csl false 1 (ar.map fun n => [I64 n]), .csl false 11 (cySL false bd)])] hmk ok28 (.cons (.agg hyt) (.cons (.c (.v _)) .nil))
    (HL.cons rfl (cyP_od ⟨vs,ar,bd⟩) HL.nil) (ML.cons rfl (.ptr _ _ (by simp [hOf,upd])) (ML.cons rfl (.nil _) (ML.cons rfl (.nil _) ML.nil))) ?_
   rintro n ⟨hn0,hn1⟩
   have hn2:(n<0)=False:=eq_false (by omega)
   iterate 30 ((try (refine drvZ Try.func4 ?_;simp only [go_sem,hn2,Int.reduceLT,bne_self_eq_false]));((with_reducible and_intros)<;>try exact sd);(try first | refine XK.p c1 ok24 ?_ | refine XK.gp c1 ok24 ?_ | refine XK.p hi ok25 ?_ | refine XK.gp hi ok25 ?_ | refine XK.p heq ok26 ?_ | refine XK.gp heq ok26 ?_ | refine XK.p hmb ok29 ?_ | refine XK.gp hmb ok29 ?_ | refine XK.p hhb ok30 ?_ | refine XK.gp hhb ok30 ?_))
   exact ret _
 ·rw [subZ,if_neg q1] at z1
  obtain ⟨vs,ar,bd⟩:=p
  simp only [cyP,cyI] at *
  simp only [go_sem]
  iterate 4 ((try (refine drvZ Try.func4 ?_;simp only [go_sem]));((with_reducible and_intros)<;>try exact sd);(try first | refine XK.p z1 ok22 ?_ | refine XK.gp z1 ok22 ?_))
  exact ret _
end Go.Proofs.Ytddanjifhdaebaa.CtD
