/- Contracts of functions of the program, one behind the other, as plain data: what each call returns and which blocks it leaves. -/
import Derived.Test.YtddanjifhdaebaaGFacts
import Derived.Test.YtddanjifhdaebaaGAk
import Derived.Test.YtddanjifhdaebaaGAr
import Derived.Test.YtddanjifhdaebaaGAs
import Derived.Test.YtddanjifhdaebaaGAu
import Derived.Test.YtddanjifhdaebaaGAi
import Derived.Test.YtddanjifhdaebaaGAn
import Derived.Test.YtddanjifhdaebaaGAt
import Derived.Test.YtddanjifhdaebaaGAm
import Derived.Test.YtddanjifhdaebaaGAq
set_option linter.unusedVariables false
set_option linter.unusedSimpArgs false
set_option linter.unusedSectionVars false
set_option maxHeartbeats 16000000
set_option maxRecDepth 100000
namespace Go.Proofs.Ytddanjifhdaebaa.CtD
open Go Go.CT CtF CtR
variable [Yn]
theorem TL.nil {tm:Nat→Option D}:∀ p ∈ ([]:List (Nat × D)),tm p.1=some p.2∧WsD p.2:=fun p h=>by simp at h
theorem TL.cons {tm:Nat→Option D} {n:Nat} {d:D} {l:List (Nat × D)} (h1:tm n=some d) (h2:WsD d) (h:∀ p ∈ l,tm p.1=some p.2∧WsD p.2):∀ p ∈ (n,d) :: l,tm p.1=some p.2∧WsD p.2:=fun p hp=>by
 rcases List.mem_cons.1 hp with rfl | hp
 ·exact ⟨h1,h2⟩
 ·exact h p hp
theorem hh0:∀ k cs,hOf [] k=some (some cs)→∀ c ∈ cs,Ws c:=fun k cs h=>by simp [hOf] at h
theorem hhL:∀ k cs,hpL [] k=some (some cs)→∀ c ∈ cs,Ws c:=fun k cs h=>by simp [hpL] at h
theorem hh1 {hp:Hp} {n:Nat} {cs0:List C} (h0:∀ c ∈ cs0,Ws c) (h:∀ k cs,hp k=some (some cs)→∀ c ∈ cs,Ws c):∀ k cs,upd hp n (some (some cs0)) k=some (some cs)→∀ c ∈ cs,Ws c:=fun k cs e=>by
 simp only [upd] at e
 split at e
 ·cases e;exact h0
 ·exact h k cs e
mutual
def ctE : Ex → Nat
 | .mk _ _ ks=>ctEL ks
def ctEL : List Ex → Nat
 | []=>0
 | e :: r=>(2+ctE e)+ctEL r
end
theorem ctEL_eq : ∀ l : List Ex, ctEL l = (l.map fun e => 2 + ctE e).sum
 | []=>rfl
 | e :: r=>by simp only [ctEL,List.map_cons,List.sum_cons,ctEL_eq r]
mutual
def ctS : St1 → Nat
 | .mk _ _ ix v _ b e=>ctE ix+ctE v+ctSL b+ctSL e
def ctSL : List St1 → Nat
 | []=>0
 | s :: r=>(7+ctS s)+ctSL r
end
theorem ctSL_eq : ∀ l : List St1, ctSL l = (l.map fun e => 7 + ctS e).sum
 | []=>rfl
 | e :: r=>by simp only [ctSL,List.map_cons,List.sum_cons,ctSL_eq r]
theorem cnEL_at {l:List Ex} {i:Nat} {e:Ex} (h:l[i]? = some e):(cnEL l)[i]? = some (cnE e):=by rw [cnEL_eq,List.getElem?_map,h];rfl
theorem cnSL_at {l:List St1} {i:Nat} {e:St1} (h:l[i]? = some e):(cnSL l)[i]? = some (cnS e):=by rw [cnSL_eq,List.getElem?_map,h];rfl
theorem sum_one {α : Type} : ∀ l : List α, (l.map fun _ => 1).sum = l.length
 | []=>rfl
 | a :: r=>by simp only [List.map_cons,List.sum_cons,List.length_cons,sum_one r];omega
theorem markIntSW (h0:Yn.n=0) (l:List Int) (hl:l.length≤1048576) (k:Int) (hk:0≤k) (hb:k+(l.length:Nat)≤1099511627776)  : DW Try.prog 51 [.c (.isl 1 (l.map fun _=>[C.num .i64])),DI .i64 k] (fun n=>n=k+(l.length:Nat)):=by
 have hmx:=mx_eq
 have hrl:(l.map fun _=>[C.num .i64]).length=l.length:=by simp
 have hws:WsD (.c (.isl 1 (l.map fun _=>[C.num .i64]))) := .mm (cnI_mk l)
 have hf:∀ (i:Nat) (x:Int),l[i]? = some x→((l.map (fun _=>1)).take (i+1)).sum=((l.map (fun _=>1)).take i).sum+(fun _=>1) x∧((l.map (fun _=>1)).take i).sum+(fun _=>1) x≤(l.map (fun _=>1)).sum:=fun i x h=>by
  have:=sum_take (fun _=>1) h
  rwa [List.map_take,List.map_take] at this
 have htot:l.length=(l.map (fun _=>1)).sum:=(sum_one l).symm
 have ret:∀ (n:Int) (hp:Hp),n=k+(l.length:Nat)→RetOb 0 (fun d h'=>(∃ n,d=DI .i64 n∧n=k+(l.length:Nat))∧h'=[]) (DI .i64 n) hp:=fun n hp h=>RetOb.plain ⟨⟨n,rfl,h⟩,rfl⟩ rfl
 refine dwZ h0 Try.func51 ?_
 generalize hR:(fun (d:D) (h':List (Option (List C)))=>(∃ n,d=DI .i64 n∧n=k+(l.length:Nat))∧h'=[])=R at ret ⊢
 clear hR
 simp only [go_sem,hrl]
 iterate 3 ((try (refine drvZW Try.func51 ?_;simp only [go_sem,hrl]));((with_reducible and_intros)<;>try exact sd))
 refine Go.loopQ (fun i:Nat=>[(0,.c (.isl 1 (l.map fun _=>[C.num .i64]))),(1,DI .i64 (k+(((l.map (fun _=>1)).take i).sum:Nat))),(5,DI .i64 i)]) (fun i=>[]) 1024 (fun i=>i≤l.length) (fun i=>l.length - i) ?_ 0 some [] _ (by omega) ?_
 ·intro i hi again
  rcases Nat.lt_or_ge i l.length with hlt | hge
  ·obtain ⟨x,hx⟩:∃ x,l[i]? = some x:=⟨l[i],by simp [hlt]⟩
   obtain ⟨hs1,hs2⟩:=hf i x hx
   have hmem:=List.mem_of_getElem? hx
   have hxl:(l.map fun _=>[C.num .i64])[i]? = some [C.num .i64]:=by rw [List.getElem?_map,hx];rfl
   rw [← htot] at hs2
   try dsimp only at hs1 hs2
   try simp only [ctE,ctS] at hs1 hs2
   generalize ((l.map (fun _=>1)).take i).sum=A at *
   generalize (l.map fun _=>[C.num .i64])=rows at *
   refine drvLW Try.func51 ?_
   simp only [go_sem,hrl,hlt,hxl]
   ((try (refine drvZW Try.func51 ?_;simp only [go_sem,hrl,hlt,hxl]));((with_reducible and_intros)<;>try exact sd))
   refine XK.wst h0 [(0,.c (.isl 1 rows)),(1,DI .i64 (k+(A:Nat))),(5,DI .i64 i)] hh0 (TL.cons rfl hws (TL.cons rfl (.v _) (TL.cons rfl (.v _) TL.nil))) ?_
   iterate 3 ((try (refine drvZW Try.func51 ?_;simp only [go_sem,hrl,hlt,hxl]));((with_reducible and_intros)<;>try exact sd))
   refine again (i+1) some [] _ hlt (by omega) ?_
   simp only [go_sem,TmOK,DM,DMs,CM,CMs,forall_eq,exists_eq_left,Mq,HpOK,LowOK]
   simp
   rw [hs1]
   omega
  ·obtain rfl:i=l.length:=by omega
   have hn:¬ l.length<l.length:=by omega
   refine drvLW Try.func51 ?_
   simp only [go_sem,hrl,hn]
   iterate 3 ((try (refine drvZW Try.func51 ?_;simp only [go_sem,hrl,hn]));((with_reducible and_intros)<;>try exact sd))
   exact ret _ _ (by rw [List.take_of_length_le (by simp),htot])
 ·simp only [go_sem,TmOK,DM,DMs,CM,CMs,forall_eq,exists_eq_left,Mq,HpOK,LowOK]
  simp
theorem markIntSSW (h0:Yn.n=0) (l:List (List Int)) (hl:l.length≤1048576) (k:Int) (hk:0≤k) (hb:k+((l.map List.length).sum:Nat)≤1099511627776) (hls:∀ x ∈ l,x.length≤1048576):DW Try.prog 106 [.c (.isl 1 (l.map fun a=>[cnI a])),DI .i64 k] (fun n=>n=k+((l.map List.length).sum:Nat)):=by
 have hmx:=mx_eq
 have hrl:(l.map fun a=>[cnI a]).length=l.length:=by simp
 have hws:WsD (.c (.isl 1 (l.map fun a=>[cnI a]))) := .mm (cnIL_mk l)
 have hf:∀ (i:Nat) (x:(List Int)),l[i]? = some x→((l.map (List.length)).take (i+1)).sum=((l.map (List.length)).take i).sum+(List.length) x∧((l.map (List.length)).take i).sum+(List.length) x≤(l.map (List.length)).sum:=fun i x h=>by
  have:=sum_take (List.length) h
  rwa [List.map_take,List.map_take] at this
 have htot:(l.map List.length).sum=(l.map (List.length)).sum:=rfl
 have ret:∀ (n:Int) (hp:Hp),n=k+((l.map List.length).sum:Nat)→RetOb 0 (fun d h'=>(∃ n,d=DI .i64 n∧n=k+((l.map List.length).sum:Nat))∧h'=[]) (DI .i64 n) hp:=fun n hp h=>RetOb.plain ⟨⟨n,rfl,h⟩,rfl⟩ rfl
 refine dwZ h0 Try.func106 ?_
 generalize hR:(fun (d:D) (h':List (Option (List C)))=>(∃ n,d=DI .i64 n∧n=k+((l.map List.length).sum:Nat))∧h'=[])=R at ret ⊢
 clear hR
 simp only [go_sem,hrl]
 iterate 3 ((try (refine drvZW Try.func106 ?_;simp only [go_sem,hrl]));((with_reducible and_intros)<;>try exact sd))
 refine Go.loopQ (fun i:Nat=>[(0,.c (.isl 1 (l.map fun a=>[cnI a]))),(1,DI .i64 (k+(((l.map (List.length)).take i).sum:Nat))),(5,DI .i64 i)]) (fun i=>[]) 1024 (fun i=>i≤l.length) (fun i=>l.length - i) ?_ 0 some [] _ (by omega) ?_
 ·intro i hi again
  rcases Nat.lt_or_ge i l.length with hlt | hge
  ·obtain ⟨x,hx⟩:∃ x,l[i]? = some x:=⟨l[i],by simp [hlt]⟩
   obtain ⟨hs1,hs2⟩:=hf i x hx
   have hmem:=List.mem_of_getElem? hx
   have hxl:(l.map fun a=>[cnI a])[i]? = some [.isl 1 (x.map fun _=>[C.num .i64])]:=by rw [List.getElem?_map,hx];rfl
   rw [← htot] at hs2
   try dsimp only at hs1 hs2
   try simp only [ctE,ctS] at hs1 hs2
   generalize ((l.map (List.length)).take i).sum=A at *
   generalize (l.map fun a=>[cnI a])=rows at *
   refine drvLW Try.func106 ?_
   simp only [go_sem,hrl,hlt,hxl]
   ((try (refine drvZW Try.func106 ?_;simp only [go_sem,hrl,hlt,hxl]));((with_reducible and_intros)<;>try exact sd))
   have hc1:=markIntSW h0 x (hls x hmem) (k+(A:Nat)) (by omega) (by omega)
   refine XK.wcall h0 [(0,.c (.isl 1 rows)),(5,DI .i64 i)] hc1 ok51 hh0 (TL.cons rfl hws (TL.cons rfl (.v _) TL.nil)) ?_
   rintro _ rfl
   iterate 3 ((try (refine drvZW Try.func106 ?_;simp only [go_sem,hrl,hlt,hxl]));((with_reducible and_intros)<;>try exact sd))
   refine again (i+1) some [] _ hlt (by omega) ?_
   simp only [go_sem,TmOK,DM,DMs,CM,CMs,forall_eq,exists_eq_left,Mq,HpOK,LowOK]
   simp
   rw [hs1]
   omega
  ·obtain rfl:i=l.length:=by omega
   have hn:¬ l.length<l.length:=by omega
   refine drvLW Try.func106 ?_
   simp only [go_sem,hrl,hn]
   iterate 3 ((try (refine drvZW Try.func106 ?_;simp only [go_sem,hrl,hn]));((with_reducible and_intros)<;>try exact sd))
   exact ret _ _ (by rw [List.take_of_length_le (by simp),htot])
 ·simp only [go_sem,TmOK,DM,DMs,CM,CMs,forall_eq,exists_eq_left,Mq,HpOK,LowOK]
  simp
theorem markExprSWOf (h0:Yn.n=0) (l:List Ex) (hl:l.length≤1048576) (k:Int) (hk:0≤k) (hb:k+(ctEL l:Nat)≤1099511627776) (hc:∀ x ∈ l,∀ k:Int,0≤k→k+(ctEL x.kids:Nat)≤1099511627776→DW Try.prog 149 [.c (.isl 3 (cnEL x.kids)),DI .i64 k] (fun n=>n=k+(ctEL x.kids:Nat))):DW Try.prog 149 [.c (.isl 3 (cnEL l)),DI .i64 k] (fun n=>n=k+(ctEL l:Nat)):=by
 have hmx:=mx_eq
 have hrl:(cnEL l).length=l.length:=by simp [cnEL_eq]
 have hws:WsD (.c (.isl 3 (cnEL l))) := .mm (cnEL_mk l)
 have hf:∀ (i:Nat) (x:Ex),l[i]? = some x→((l.map (fun e=>2+ctE e)).take (i+1)).sum=((l.map (fun e=>2+ctE e)).take i).sum+(fun e=>2+ctE e) x∧((l.map (fun e=>2+ctE e)).take i).sum+(fun e=>2+ctE e) x≤(l.map (fun e=>2+ctE e)).sum:=fun i x h=>by
  have:=sum_take (fun e=>2+ctE e) h
  rwa [List.map_take,List.map_take] at this
 have htot:ctEL l=(l.map (fun e=>2+ctE e)).sum:=ctEL_eq l
 have ret:∀ (n:Int) (hp:Hp),n=k+(ctEL l:Nat)→RetOb 0 (fun d h'=>(∃ n,d=DI .i64 n∧n=k+(ctEL l:Nat))∧h'=[]) (DI .i64 n) hp:=fun n hp h=>RetOb.plain ⟨⟨n,rfl,h⟩,rfl⟩ rfl
 refine dwZ h0 Try.func149 ?_
 generalize hR:(fun (d:D) (h':List (Option (List C)))=>(∃ n,d=DI .i64 n∧n=k+(ctEL l:Nat))∧h'=[])=R at ret ⊢
 clear hR
 simp only [go_sem,hrl]
 iterate 3 ((try (refine drvZW Try.func149 ?_;simp only [go_sem,hrl]));((with_reducible and_intros)<;>try exact sd))
 refine Go.loopQ (fun i:Nat=>[(0,.c (.isl 3 (cnEL l))),(1,DI .i64 (k+(((l.map (fun e=>2+ctE e)).take i).sum:Nat))),(5,DI .i64 i)]) (fun i=>[]) 1024 (fun i=>i≤l.length) (fun i=>l.length - i) ?_ 0 some [] _ (by omega) ?_
 ·intro i hi again
  rcases Nat.lt_or_ge i l.length with hlt | hge
  ·obtain ⟨x,hx⟩:∃ x,l[i]? = some x:=⟨l[i],by simp [hlt]⟩
   obtain ⟨hs1,hs2⟩:=hf i x hx
   have hmem:=List.mem_of_getElem? hx
   have hcm:=hc _ hmem
   obtain ⟨k0,v0,ks⟩:=x
   simp only [Ex.kids,St1.body,St1.els] at hcm
   have hxl:(cnEL l)[i]? = some [.num .i64,.num .i64,.isl 3 (cnEL ks)]:=by rw [cnEL_at hx];rfl
   rw [← htot] at hs2
   try dsimp only at hs1 hs2
   try simp only [ctE,ctS] at hs1 hs2
   generalize ((l.map (fun e=>2+ctE e)).take i).sum=A at *
   generalize (cnEL l)=rows at *
   refine drvLW Try.func149 ?_
   simp only [go_sem,hrl,hlt,hxl]
   ((try (refine drvZW Try.func149 ?_;simp only [go_sem,hrl,hlt,hxl]));((with_reducible and_intros)<;>try exact sd))
   refine XK.wst h0 [(0,.c (.isl 3 rows)),(1,DI .i64 (k+(A:Nat))),(5,DI .i64 i)] hh0 (TL.cons rfl hws (TL.cons rfl (.v _) (TL.cons rfl (.v _) TL.nil))) ?_
   iterate 3 ((try (refine drvZW Try.func149 ?_;simp only [go_sem,hrl,hlt,hxl]));((with_reducible and_intros)<;>try exact sd))
   refine XK.wst h0 [(0,.c (.isl 3 rows)),(1,DI .i64 (k+(A:Nat)+1)),(5,DI .i64 i)] hh0 (TL.cons rfl hws (TL.cons rfl (.v _) (TL.cons rfl (.v _) TL.nil))) ?_
   iterate 3 ((try (refine drvZW Try.func149 ?_;simp only [go_sem,hrl,hlt,hxl]));((with_reducible and_intros)<;>try exact sd))
   have hc1:=hcm (k+(A:Nat)+1+1) (by omega) (by omega)
   refine XK.wcall h0 [(0,.c (.isl 3 rows)),(5,DI .i64 i)] hc1 ok149 hh0 (TL.cons rfl hws (TL.cons rfl (.v _) TL.nil)) ?_
   rintro _ rfl
   iterate 3 ((try (refine drvZW Try.func149 ?_;simp only [go_sem,hrl,hlt,hxl]));((with_reducible and_intros)<;>try exact sd))
   refine again (i+1) some [] _ hlt (by omega) ?_
   simp only [go_sem,TmOK,DM,DMs,CM,CMs,forall_eq,exists_eq_left,Mq,HpOK,LowOK]
   simp
   rw [hs1]
   omega
  ·obtain rfl:i=l.length:=by omega
   have hn:¬ l.length<l.length:=by omega
   refine drvLW Try.func149 ?_
   simp only [go_sem,hrl,hn]
   iterate 3 ((try (refine drvZW Try.func149 ?_;simp only [go_sem,hrl,hn]));((with_reducible and_intros)<;>try exact sd))
   exact ret _ _ (by rw [List.take_of_length_le (by simp),htot])
 ·simp only [go_sem,TmOK,DM,DMs,CM,CMs,forall_eq,exists_eq_left,Mq,HpOK,LowOK]
  simp
theorem markExprSW (h0 : Yn.n = 0) : ∀ (n : Nat) (l : List Ex), SizeOf.sizeOf l ≤ n → l.length ≤ 1048576 → (∀ x ∈ l, ExN x) → ∀ k : Int, 0 ≤ k → k + (ctEL l : Nat) ≤ 1099511627776 → DW Try.prog 149 [.c (.isl 3 (cnEL l)), DI .i64 k] (fun n => n = k + (ctEL l : Nat))
 | 0,l,h,_,_,k,hk,hb=>by cases l<;>simp at h
 | n+1,l,h,hl,hN,k,hk,hb=>markExprSWOf h0 l hl k hk hb fun x hx k' h1 h2=>by
  have:=List.sizeOf_lt_of_mem hx
  have hN':=hN x hx
  cases hN' with
  | mk a b ks g1 g2 =>
   simp only [Ex.mk.sizeOf_spec] at this
   exact markExprSW h0 n ks (by omega) g1 g2 k' h1 h2
theorem markStmtSWOf (h0:Yn.n=0) (l:List St1) (hl:l.length≤1048576) (k:Int) (hk:0≤k) (hb:k+(ctSL l:Nat)≤1099511627776) (hc:∀ x ∈ l,(∀ k:Int,0≤k→k+(ctSL x.body:Nat)≤1099511627776→DW Try.prog 91 [.c (.isl 11 (cnSL x.body)),DI .i64 k] (fun n=>n=k+(ctSL x.body:Nat)))∧(∀ k:Int,0≤k→k+(ctSL x.els:Nat)≤1099511627776→DW Try.prog 91 [.c (.isl 11 (cnSL x.els)),DI .i64 k] (fun n=>n=k+(ctSL x.els:Nat)))) (hN:∀ x ∈ l,StN x):DW Try.prog 91 [.c (.isl 11 (cnSL l)),DI .i64 k] (fun n=>n=k+(ctSL l:Nat)):=by
 have hmx:=mx_eq
 have hrl:(cnSL l).length=l.length:=by simp [cnSL_eq]
 have hws:WsD (.c (.isl 11 (cnSL l))) := .mm (cnSL_mk l)
 have hf:∀ (i:Nat) (x:St1),l[i]? = some x→((l.map (fun e=>7+ctS e)).take (i+1)).sum=((l.map (fun e=>7+ctS e)).take i).sum+(fun e=>7+ctS e) x∧((l.map (fun e=>7+ctS e)).take i).sum+(fun e=>7+ctS e) x≤(l.map (fun e=>7+ctS e)).sum:=fun i x h=>by
  have:=sum_take (fun e=>7+ctS e) h
  rwa [List.map_take,List.map_take] at this
 have htot:ctSL l=(l.map (fun e=>7+ctS e)).sum:=ctSL_eq l
 have ret:∀ (n:Int) (hp:Hp),n=k+(ctSL l:Nat)→RetOb 0 (fun d h'=>(∃ n,d=DI .i64 n∧n=k+(ctSL l:Nat))∧h'=[]) (DI .i64 n) hp:=fun n hp h=>RetOb.plain ⟨⟨n,rfl,h⟩,rfl⟩ rfl
 refine dwZ h0 Try.func91 ?_
 generalize hR:(fun (d:D) (h':List (Option (List C)))=>(∃ n,d=DI .i64 n∧n=k+(ctSL l:Nat))∧h'=[])=R at ret ⊢
 clear hR
 simp only [go_sem,hrl]
 iterate 3 ((try (refine drvZW Try.func91 ?_;simp only [go_sem,hrl]));((with_reducible and_intros)<;>try exact sd))
 refine Go.loopQ (fun i:Nat=>[(0,.c (.isl 11 (cnSL l))),(1,DI .i64 (k+(((l.map (fun e=>7+ctS e)).take i).sum:Nat))),(5,DI .i64 i)]) (fun i=>[]) 1024 (fun i=>i≤l.length) (fun i=>l.length - i) ?_ 0 some [] _ (by omega) ?_
 ·intro i hi again
  rcases Nat.lt_or_ge i l.length with hlt | hge
  ·obtain ⟨x,hx⟩:∃ x,l[i]? = some x:=⟨l[i],by simp [hlt]⟩
   obtain ⟨hs1,hs2⟩:=hf i x hx
   have hmem:=List.mem_of_getElem? hx
   have hcm:=hc _ hmem
   have hNx:=hN _ hmem
   obtain ⟨k0,t0,⟨a1,b1,c1⟩,⟨a2,b2,c2⟩,c0,bd,el⟩:=x
   obtain ⟨q1,q2⟩:((c1.length≤1048576∧∀ x ∈ c1,ExN x)∧(c2.length≤1048576∧∀ x ∈ c2,ExN x)):=by
    cases hNx with
    | mk _ _ _ _ _ _ _ h1 h2=>cases h1 with | mk _ _ _ g1 g2=>cases h2 with | mk _ _ _ g3 g4=>exact ⟨⟨g1,g2⟩,⟨g3,g4⟩⟩
   simp only [Ex.kids,St1.body,St1.els] at hcm
   have hxl:(cnSL l)[i]? = some [.num .i64,.num .i64,.num .i64,.num .i64,.isl 3 (cnEL c1),.num .i64,.num .i64,.isl 3 (cnEL c2),.num .i64,.isl 11 (cnSL bd),.isl 11 (cnSL el)]:=by rw [cnSL_at hx];rfl
   rw [← htot] at hs2
   try dsimp only at hs1 hs2
   try simp only [ctE,ctS] at hs1 hs2
   generalize ((l.map (fun e=>7+ctS e)).take i).sum=A at *
   generalize (cnSL l)=rows at *
   refine drvLW Try.func91 ?_
   simp only [go_sem,hrl,hlt,hxl]
   ((try (refine drvZW Try.func91 ?_;simp only [go_sem,hrl,hlt,hxl]));((with_reducible and_intros)<;>try exact sd))
   refine XK.wst h0 [(0,.c (.isl 11 rows)),(1,DI .i64 (k+(A:Nat))),(5,DI .i64 i)] hh0 (TL.cons rfl hws (TL.cons rfl (.v _) (TL.cons rfl (.v _) TL.nil))) ?_
   iterate 3 ((try (refine drvZW Try.func91 ?_;simp only [go_sem,hrl,hlt,hxl]));((with_reducible and_intros)<;>try exact sd))
   refine XK.wst h0 [(0,.c (.isl 11 rows)),(1,DI .i64 (k+(A:Nat)+1)),(5,DI .i64 i)] hh0 (TL.cons rfl hws (TL.cons rfl (.v _) (TL.cons rfl (.v _) TL.nil))) ?_
   iterate 3 ((try (refine drvZW Try.func91 ?_;simp only [go_sem,hrl,hlt,hxl]));((with_reducible and_intros)<;>try exact sd))
   refine XK.wst h0 [(0,.c (.isl 11 rows)),(1,DI .i64 (k+(A:Nat)+1+1)),(5,DI .i64 i)] hh0 (TL.cons rfl hws (TL.cons rfl (.v _) (TL.cons rfl (.v _) TL.nil))) ?_
   iterate 3 ((try (refine drvZW Try.func91 ?_;simp only [go_sem,hrl,hlt,hxl]));((with_reducible and_intros)<;>try exact sd))
   refine XK.wst h0 [(0,.c (.isl 11 rows)),(1,DI .i64 (k+(A:Nat)+1+1+1)),(5,DI .i64 i)] hh0 (TL.cons rfl hws (TL.cons rfl (.v _) (TL.cons rfl (.v _) TL.nil))) ?_
   iterate 3 ((try (refine drvZW Try.func91 ?_;simp only [go_sem,hrl,hlt,hxl]));((with_reducible and_intros)<;>try exact sd))
   have hc1:=markExprSW h0 _ c1 (Nat.le_refl _) q1.1 q1.2 (k+(A:Nat)+1+1+1+1) (by omega) (by omega)
   refine XK.wcall h0 [(0,.c (.isl 11 rows)),(5,DI .i64 i)] hc1 ok149 hh0 (TL.cons rfl hws (TL.cons rfl (.v _) TL.nil)) ?_
   rintro _ rfl
   iterate 3 ((try (refine drvZW Try.func91 ?_;simp only [go_sem,hrl,hlt,hxl]));((with_reducible and_intros)<;>try exact sd))
   refine XK.wst h0 [(0,.c (.isl 11 rows)),(1,DI .i64 (k+(A:Nat)+1+1+1+1+(ctEL c1:Nat))),(5,DI .i64 i)] hh0 (TL.cons rfl hws (TL.cons rfl (.v _) (TL.cons rfl (.v _) TL.nil))) ?_
   iterate 3 ((try (refine drvZW Try.func91 ?_;simp only [go_sem,hrl,hlt,hxl]));((with_reducible and_intros)<;>try exact sd))
   refine XK.wst h0 [(0,.c (.isl 11 rows)),(1,DI .i64 (k+(A:Nat)+1+1+1+1+(ctEL c1:Nat)+1)),(5,DI .i64 i)] hh0 (TL.cons rfl hws (TL.cons rfl (.v _) (TL.cons rfl (.v _) TL.nil))) ?_
   iterate 3 ((try (refine drvZW Try.func91 ?_;simp only [go_sem,hrl,hlt,hxl]));((with_reducible and_intros)<;>try exact sd))
   have hc2:=markExprSW h0 _ c2 (Nat.le_refl _) q2.1 q2.2 (k+(A:Nat)+1+1+1+1+(ctEL c1:Nat)+1+1) (by omega) (by omega)
   refine XK.wcall h0 [(0,.c (.isl 11 rows)),(5,DI .i64 i)] hc2 ok149 hh0 (TL.cons rfl hws (TL.cons rfl (.v _) TL.nil)) ?_
   rintro _ rfl
   iterate 3 ((try (refine drvZW Try.func91 ?_;simp only [go_sem,hrl,hlt,hxl]));((with_reducible and_intros)<;>try exact sd))
   refine XK.wst h0 [(0,.c (.isl 11 rows)),(1,DI .i64 (k+(A:Nat)+1+1+1+1+(ctEL c1:Nat)+1+1+(ctEL c2:Nat))),(5,DI .i64 i)] hh0 (TL.cons rfl hws (TL.cons rfl (.v _) (TL.cons rfl (.v _) TL.nil))) ?_
   iterate 3 ((try (refine drvZW Try.func91 ?_;simp only [go_sem,hrl,hlt,hxl]));((with_reducible and_intros)<;>try exact sd))
   have hc3:=hcm.1 (k+(A:Nat)+1+1+1+1+(ctEL c1:Nat)+1+1+(ctEL c2:Nat)+1) (by omega) (by omega)
   refine XK.wcall h0 [(0,.c (.isl 11 rows)),(5,DI .i64 i)] hc3 ok91 hh0 (TL.cons rfl hws (TL.cons rfl (.v _) TL.nil)) ?_
   rintro _ rfl
   iterate 3 ((try (refine drvZW Try.func91 ?_;simp only [go_sem,hrl,hlt,hxl]));((with_reducible and_intros)<;>try exact sd))
   have hc4:=hcm.2 (k+(A:Nat)+1+1+1+1+(ctEL c1:Nat)+1+1+(ctEL c2:Nat)+1+(ctSL bd:Nat)) (by omega) (by omega)
   refine XK.wcall h0 [(0,.c (.isl 11 rows)),(5,DI .i64 i)] hc4 ok91 hh0 (TL.cons rfl hws (TL.cons rfl (.v _) TL.nil)) ?_
   rintro _ rfl
   iterate 3 ((try (refine drvZW Try.func91 ?_;simp only [go_sem,hrl,hlt,hxl]));((with_reducible and_intros)<;>try exact sd))
   refine again (i+1) some [] _ hlt (by omega) ?_
   simp only [go_sem,TmOK,DM,DMs,CM,CMs,forall_eq,exists_eq_left,Mq,HpOK,LowOK]
   simp
   rw [hs1]
   omega
  ·obtain rfl:i=l.length:=by omega
   have hn:¬ l.length<l.length:=by omega
   refine drvLW Try.func91 ?_
   simp only [go_sem,hrl,hn]
   iterate 3 ((try (refine drvZW Try.func91 ?_;simp only [go_sem,hrl,hn]));((with_reducible and_intros)<;>try exact sd))
   exact ret _ _ (by rw [List.take_of_length_le (by simp),htot])
 ·simp only [go_sem,TmOK,DM,DMs,CM,CMs,forall_eq,exists_eq_left,Mq,HpOK,LowOK]
  simp
theorem markStmtSW (h0 : Yn.n = 0) : ∀ (n : Nat) (l : List St1), SizeOf.sizeOf l ≤ n → l.length ≤ 1048576 → (∀ x ∈ l, StN x) → ∀ k : Int, 0 ≤ k → k + (ctSL l : Nat) ≤ 1099511627776 → DW Try.prog 91 [.c (.isl 11 (cnSL l)), DI .i64 k] (fun n => n = k + (ctSL l : Nat))
 | 0,l,h,_,_,k,hk,hb=>by cases l<;>simp at h
 | n+1,l,h,hl,hN,k,hk,hb=>markStmtSWOf h0 l hl k hk hb (fun x hx=>by
  have:=List.sizeOf_lt_of_mem hx
  have hN':=hN x hx
  cases hN' with
  | mk a b ix v c bd el h1 h2 h3 h4 h5 h6 =>
   simp only [St1.mk.sizeOf_spec] at this
   exact ⟨fun k' g1 g2=>markStmtSW h0 n bd (by omega) h3 h5 k' g1 g2,fun k' g1 g2=>markStmtSW h0 n el (by omega) h4 h6 k' g1 g2⟩) hN
theorem markProgramW (h0:Yn.n=0) (p:Pg) (hv1:p.vars.length≤1048576) (hv2:p.arrays.length≤1048576) (hv3:p.body.length≤1048576) (hv4:∀ x ∈ p.body,StN x) (k:Int) (hk:0≤k) (hb:k+(p.vars.length+p.arrays.length+ctSL p.body:Nat)≤1099511627776):DW Try.prog 28 [.agg (cnP p),DI .i64 k] (fun n=>n=k+(p.vars.length+p.arrays.length+ctSL p.body:Nat)):=by
 have hmx:=mx_eq
 obtain ⟨vs,ar,bd⟩:=p
 simp only [cnP,cnM,cnI] at *
 have hws:∀ c ∈ ([.isl 1 (vs.map fun _=>[C.num .i64]),.isl 1 (ar.map fun _=>[C.num .i64]),.isl 11 (cnSL bd)]:List C),Ws c:=by
  intro c hc
  simp only [List.mem_cons,List.not_mem_nil,or_false] at hc
  rcases hc with rfl | rfl | rfl
  ·exact .mm (cnI_mk vs)
  ·exact .mm (cnI_mk ar)
  ·exact .mm (cnSL_mk bd)
 have ret:∀ (n:Int) (hp:Hp),n=k+(vs.length+ar.length+ctSL bd:Nat)→RetOb 0 (fun d h'=>(∃ n,d=DI .i64 n∧n=k+(vs.length+ar.length+ctSL bd:Nat))∧h'=[]) (DI .i64 n) hp:=fun n hp h=>RetOb.plain ⟨⟨n,rfl,h⟩,rfl⟩ rfl
 refine dwZ h0 Try.func28 ?_
 generalize hR:(fun (d:D) (h':List (Option (List C)))=>(∃ n,d=DI .i64 n∧n=k+(vs.length+ar.length+ctSL bd:Nat))∧h'=[])=R at ret ⊢
 clear hR
 simp only [go_sem]
 iterate 2 ((try (refine drvZW Try.func28 ?_;simp only [go_sem]));((with_reducible and_intros)<;>try exact sd))
 have hc0:=markIntSW h0 vs hv1 (k) (by omega) (by omega)
 refine XK.wcall h0 [(2,.c (.ptr 0 0))] hc0 ok51 (hh1 hws hhL) (TL.cons rfl (.ptr _ _) TL.nil) ?_
 rintro _ rfl
 iterate 3 ((try (refine drvZW Try.func28 ?_;simp only [go_sem]));((with_reducible and_intros)<;>try exact sd))
 have hc1:=markIntSW h0 ar hv2 (k+(vs.length:Nat)) (by omega) (by omega)
 refine XK.wcall h0 [(2,.c (.ptr 0 0))] hc1 ok51 (hh1 hws hhL) (TL.cons rfl (.ptr _ _) TL.nil) ?_
 rintro _ rfl
 iterate 3 ((try (refine drvZW Try.func28 ?_;simp only [go_sem]));((with_reducible and_intros)<;>try exact sd))
 have hc2:=markStmtSW h0 _ bd (Nat.le_refl _) hv3 hv4 (k+(vs.length:Nat)+(ar.length:Nat)) (by omega) (by omega)
 refine XK.wcall h0 [(2,.c (.ptr 0 0))] hc2 ok91 (hh1 hws hhL) (TL.cons rfl (.ptr _ _) TL.nil) ?_
 rintro _ rfl
 iterate 3 ((try (refine drvZW Try.func28 ?_;simp only [go_sem]));((with_reducible and_intros)<;>try exact sd))
 exact ret _ _ (by omega)
theorem markMemoryW (h0:Yn.n=0) (m:Mm) (hv1:m.vals.length≤1048576) (hv2:m.arrays.length≤1048576) (hv3:∀ x ∈ m.arrays,x.length≤1048576) (k:Int) (hk:0≤k) (hb:k+(m.vals.length+(m.arrays.map List.length).sum:Nat)≤1099511627776):DW Try.prog 50 [.agg (cnM m),DI .i64 k] (fun n=>n=k+(m.vals.length+(m.arrays.map List.length).sum:Nat)):=by
 have hmx:=mx_eq
 obtain ⟨va,arr⟩:=m
 simp only [cnP,cnM,cnI] at *
 have hws:∀ c ∈ ([.isl 1 (va.map fun _=>[C.num .i64]),.isl 1 (arr.map fun a=>[cnI a])]:List C),Ws c:=by
  intro c hc
  simp only [List.mem_cons,List.not_mem_nil,or_false] at hc
  rcases hc with rfl | rfl
  ·exact .mm (cnI_mk va)
  ·exact .mm (cnIL_mk arr)
 have ret:∀ (n:Int) (hp:Hp),n=k+(va.length+(arr.map List.length).sum:Nat)→RetOb 0 (fun d h'=>(∃ n,d=DI .i64 n∧n=k+(va.length+(arr.map List.length).sum:Nat))∧h'=[]) (DI .i64 n) hp:=fun n hp h=>RetOb.plain ⟨⟨n,rfl,h⟩,rfl⟩ rfl
 refine dwZ h0 Try.func50 ?_
 generalize hR:(fun (d:D) (h':List (Option (List C)))=>(∃ n,d=DI .i64 n∧n=k+(va.length+(arr.map List.length).sum:Nat))∧h'=[])=R at ret ⊢
 clear hR
 simp only [go_sem]
 iterate 2 ((try (refine drvZW Try.func50 ?_;simp only [go_sem]));((with_reducible and_intros)<;>try exact sd))
 have hc0:=markIntSW h0 va hv1 (k) (by omega) (by omega)
 refine XK.wcall h0 [(2,.c (.ptr 0 0))] hc0 ok51 (hh1 hws hhL) (TL.cons rfl (.ptr _ _) TL.nil) ?_
 rintro _ rfl
 iterate 3 ((try (refine drvZW Try.func50 ?_;simp only [go_sem]));((with_reducible and_intros)<;>try exact sd))
 have hc1:=(fun k hk hb=>markIntSSW h0 arr hv2 k hk hb hv3) (k+(va.length:Nat)) (by omega) (by omega)
 refine XK.wcall h0 [(2,.c (.ptr 0 0))] hc1 ok106 (hh1 hws hhL) (TL.cons rfl (.ptr _ _) TL.nil) ?_
 rintro _ rfl
 iterate 3 ((try (refine drvZW Try.func50 ?_;simp only [go_sem]));((with_reducible and_intros)<;>try exact sd))
 exact ret _ _ (by omega)
def mkI (k:Int) (n:Nat):List Int:=(List.range n).map fun (i:Nat)=>k+(i:Int)
theorem mkI_len (k:Int) (n:Nat):(mkI k n).length=n:=by simp [mkI]
theorem mkI_succ (k:Int) (n:Nat):mkI k (n+1)=mkI k n++[k+(n:Int)]:=by simp [mkI,List.range_succ]
theorem set_next {α:Type} {A l:List α} {i:Nat} (hA:A.length=i) (h:i<l.length) (y:α):(A++l.drop i).set i y=A++[y]++l.drop (i+1):=by
 rw [List.drop_eq_getElem_cons h]
 generalize l[i]=z
 subst hA
 rw [List.set_append_right _ _ (Nat.le_refl _)]
 simp
def intsC (l:List Int):List C:=l.map I64
theorem intsC_len (l:List Int):(intsC l).length=l.length:=by simp [intsC]
theorem intsC_kf (l:List Int):∀ c ∈ intsC l,kf c=true:=fun c hc=>by obtain ⟨x,_,rfl⟩:=List.mem_map.1 hc;rfl
theorem markIntSO (l:List Int) (k:Int) (hk:0≤k) (hb:k+(l.length:Nat)≤1099511627776):DC Try.prog 51 [.c (.msl 0 1 0 l.length),DI .i64 k] [some (intsC l)] (fun r h=>r=DI .i64 (k+(l.length:Nat))∧h=[some (intsC (mkI k l.length))]):=by
 have hmx:=mx_eq
 have ret:∀ (n:Int) (cs:List C) (hp:Hp),n=k+(l.length:Nat)→hp 0=some (some cs)→cs=intsC (mkI k l.length)→RetOb 1 (fun r h=>r=DI .i64 (k+(l.length:Nat))∧h=[some (intsC (mkI k l.length))]) (DI .i64 n) hp:=fun n cs hp h1 h2 h3=>by
  subst h1 h3
  refine RetOb.ofQ (fun j=>if j=0 then some 0 else none) [] _ [some (intsC (mkI k l.length))] ?_ ⟨rfl,rfl⟩ (by simp)
  have e4:∀ {hT hS:Hp} {r:Nat→Option Nat} {fz:List Nat},CMs hT r hS fz (intsC (mkI k l.length)) (intsC (mkI k l.length))=True:=eq_true (CMs.kf (intsC_kf _))
  simp [enumL,DM,DMs,CM,CMs,HpOK,LowOK,hOf,upd,h2,e4]
 generalize hR:(fun (r:D) (h:List (Option (List C)))=>r=DI .i64 (k+(l.length:Nat))∧h=[some (intsC (mkI k l.length))])=R at ret ⊢
 clear hR
 have hcl:=intsC_len l
 refine dcZ Try.func51 ?_
 simp only [go_sem]
 iterate 3 ((try (refine drvZ Try.func51 ?_;simp only [go_sem]));((with_reducible and_intros)<;>try exact sd))
 refine Go.loopQ (fun i:Nat=>[(0,.c (.msl 0 1 0 l.length)),(1,DI .i64 (k+(i:Int))),(5,DI .i64 i)]) (fun i=>[(0,some (intsC (mkI k i++l.drop i)))]) 1024 (fun i=>i≤l.length) (fun i=>l.length - i) ?_ 0 some [] _ (by omega) ?_
 ·intro i hi again
  have hci:(intsC (mkI k i++l.drop i)).length=l.length:=by rw [intsC_len,List.length_append,mkI_len,List.length_drop];omega
  rcases Nat.lt_or_ge i l.length with hlt | hge
  ·have hst:(intsC (mkI k i++l.drop i)).set i (.v (.int .i64 (k+(i:Int))))=intsC (mkI k (i+1)++l.drop (i+1)):=by
    rw [mkI_succ,← set_next (mkI_len k i) hlt]
    simp [intsC,List.map_set]
   have h3:(0:Int)≤k+(i:Int):=by omega
   generalize intsC (mkI k i++l.drop i)=B at *
   refine drvL Try.func51 ?_
   simp only [go_sem,hlt,hci,h3]
   iterate 4 ((try (refine drvZ Try.func51 ?_;simp only [go_sem,hlt,hci,h3,Nat.mul_one]));((with_reducible and_intros)<;>try exact sd))
   simp only [hst]
   refine again (i+1) some [] _ hlt (by omega) ?_
   simp only [go_sem,TmOK,DM,DMs,CM,CMs,forall_eq,exists_eq_left,Mq,HpOK,LowOK]
   exact ⟨by rw [Int.add_assoc],⟨by simp,CMs.kf (intsC_kf _)⟩,by simp⟩
  ·obtain rfl:i=l.length:=by omega
   have hn:¬ l.length<l.length:=by omega
   refine drvL Try.func51 ?_
   simp only [go_sem,hn]
   iterate 3 ((try (refine drvZ Try.func51 ?_;simp only [go_sem,hn]));((with_reducible and_intros)<;>try exact sd))
   exact ret _ _ _ rfl rfl (by rw [List.drop_length,List.append_nil])
 ·simp only [go_sem,TmOK,DM,DMs,CM,CMs,forall_eq,exists_eq_left,Mq,HpOK,LowOK]
  exact ⟨⟨by simp,CMs.kf (intsC_kf l)⟩,by simp⟩
theorem heldIntSP (k:Int) (n:Nat) (hk:0≤k) (hb:k+(n:Nat)≤1099511627776) (hn:n≤mx):DC Try.prog 52 [.c (.isl 1 ((mkI k n).map fun b=>[I64 b])),DI .i64 k] [] (fun r h=>r=DI .i64 (k+(n:Nat))∧h=[]):=by
 have hmx:=mx_eq
 have ret:∀ (v:Int) (hp:Hp),v=k+(n:Nat)→RetOb 0 (fun r h=>r=DI .i64 (k+(n:Nat))∧h=[]) (DI .i64 v) hp:=fun v hp h=>by subst h;exact RetOb.plain ⟨rfl,rfl⟩ rfl
 generalize hR:(fun (r:D) (h:List (Option (List C)))=>r=DI .i64 (k+(n:Nat))∧h=[])=R at ret ⊢
 clear hR
 have hrl:((mkI k n).map fun b=>[I64 b]).length=n:=by simp [mkI_len]
 refine dcZ Try.func52 ?_
 simp only [go_sem,hrl]
 iterate 3 ((try (refine drvZ Try.func52 ?_;simp only [go_sem,hrl]));((with_reducible and_intros)<;>try exact sd))
 refine Go.loopQ (fun i:Nat=>[(0,.c (.isl 1 ((mkI k n).map fun b=>[I64 b]))),(1,DI .i64 (k+(i:Int))),(5,DI .i64 i)]) (fun _=>[]) 1024 (fun i=>i≤n) (fun i=>n - i) ?_ 0 some [] _ (by omega) ?_
 ·intro i hi again
  rcases Nat.lt_or_ge i n with hlt | hge
  ·have hxl:((mkI k n).map fun b=>[I64 b])[i]? = some [I64 (k+(i:Int))]:=by simp [mkI,hlt]
   have h3:(0:Int)≤k+(i:Int):=by omega
   generalize ((mkI k n).map fun b=>[I64 b])=rows at *
   refine drvL Try.func52 ?_
   simp only [go_sem,hrl,hlt,hxl,h3,bne_self_eq_false]
   iterate 5 ((try (refine drvZ Try.func52 ?_;simp only [go_sem,hrl,hlt,hxl,h3,bne_self_eq_false]));((with_reducible and_intros)<;>try exact sd))
   refine again (i+1) some [] _ hlt (by omega) ?_
   simp only [go_sem,TmOK,DM,DMs,CM,CMs,forall_eq,exists_eq_left,Mq,HpOK,LowOK]
   simp
   omega
  ·obtain rfl:n=i:=by omega
   have hnn:¬ n<n:=by omega
   generalize ((mkI k n).map fun b=>[I64 b])=rows at *
   refine drvL Try.func52 ?_
   simp only [go_sem,hrl,hnn]
   iterate 3 ((try (refine drvZ Try.func52 ?_;simp only [go_sem,hrl,hnn]));((with_reducible and_intros)<;>try exact sd))
   exact ret _ _ rfl
 ·simp only [go_sem,TmOK,DM,DMs,CM,CMs,forall_eq,exists_eq_left,Mq,HpOK,LowOK]
  all_goals simp
theorem ML.nil {hT:Hp} {tm:Nat→Option D}:∀ p ∈ ([]:List (Nat × D)),∃ d,tm p.1=some d∧SmD hT d p.2:=fun p h=>by simp at h
theorem ML.cons {hT:Hp} {tm:Nat→Option D} {n:Nat} {d0 d:D} {l:List (Nat × D)} (h1:tm n=some d0) (h2:SmD hT d0 d) (h:∀ p ∈ l,∃ d,tm p.1=some d∧SmD hT d p.2):∀ p ∈ (n,d) :: l,∃ d,tm p.1=some d∧SmD hT d p.2:=fun p hp=>by
 rcases List.mem_cons.1 hp with rfl | hp
 ·exact ⟨d0,h1,h2⟩
 ·exact h p hp
theorem HL.nil {hT hp:Hp}:∀ p ∈ ([]:List (Nat × Option (List C))),∃ cs cs',hp p.1=some (some cs)∧p.2=some cs'∧Sms hT cs cs':=fun p h=>by simp at h
theorem HL.cons {hT hp : Hp} {n : Nat} {cs0 cs1 : List C} {l : List (Nat × Option (List C))} (h1 : hp n = some (some cs0)) (h2 : Sms hT cs0 cs1) (h : ∀ p ∈ l, ∃ cs cs', hp p.1 = some (some cs) ∧ p.2 = some cs' ∧ Sms hT cs cs') :
 ∀ p ∈ (n,some cs1) :: l,∃ cs cs',hp p.1=some (some cs)∧p.2=some cs'∧Sms hT cs cs':=fun p hp=>by
 rcases List.mem_cons.1 hp with rfl | hp
 ·exact ⟨cs0,cs1,h1,rfl,h2⟩
 ·exact h p hp
theorem ctE_le : ∀ (n : Nat) (e : Ex), SizeOf.sizeOf e ≤ n → ctE e ≤ 7 * szE e
 | 0,.mk k v ks,h=>by simp at h
 | n+1,.mk k v ks,h=>by
  have key:∀ l:List Ex,(∀ x ∈ l,SizeOf.sizeOf x≤n)→ctEL l≤7 * szEL l:=fun l=>by
   induction l with
   | nil=>intro _;simp [ctEL,szEL]
   | cons a r ih =>
    intro hx
    have h1:=ctE_le n a (hx a (by simp))
    have h2:=ih fun x hx'=>hx x (by simp [hx'])
    simp only [ctEL,szEL];omega
  simp only [ctE,szE]
  exact key ks fun x hx=>by have:=List.sizeOf_lt_of_mem hx;simp only [Ex.mk.sizeOf_spec] at h;omega
theorem ctS_le : ∀ (n : Nat) (s : St1), SizeOf.sizeOf s ≤ n → ctS s ≤ 7 * szS s
 | 0,.mk k t ix v c b e,h=>by simp at h
 | n+1,.mk k t ix v c b e,h=>by
  have key:∀ l:List St1,(∀ x ∈ l,SizeOf.sizeOf x≤n)→ctSL l≤7 * szSL l:=fun l=>by
   induction l with
   | nil=>intro _;simp [ctSL,szSL]
   | cons a r ih =>
    intro hx
    have h1:=ctS_le n a (hx a (by simp))
    have h2:=ih fun x hx'=>hx x (by simp [hx'])
    simp only [ctSL,szSL];omega
  simp only [St1.mk.sizeOf_spec] at h
  have h1:=ctE_le _ ix (Nat.le_refl _)
  have h2:=ctE_le _ v (Nat.le_refl _)
  have h3:=key b fun x hx=>by have:=List.sizeOf_lt_of_mem hx;omega
  have h4:=key e fun x hx=>by have:=List.sizeOf_lt_of_mem hx;omega
  simp only [ctS,szS];omega
theorem ctSL_le : ∀ l : List St1, ctSL l ≤ 7 * szSL l
 | []=>by simp [ctSL,szSL]
 | a :: r=>by
  have h1:=ctS_le _ a (Nat.le_refl _)
  have h2:=ctSL_le r
  simp only [ctSL,szSL];omega
omit [Yn] in
theorem markP1 (p:Pg) (hp:PgN p) (hs:szP p≤1048576) : @DW ⟨0⟩ Try.prog 28 [.agg (cnP p),DI .i64 1] (fun n=>0≤n∧n≤100000000):=by
 letI:Yn:=⟨0⟩
 have h4:=ctSL_le p.body
 unfold szP at hs
 exact (markProgramW rfl p hp.nv hp.na hp.nb hp.st 1 (by omega) (by omega)).imp fun n e=>⟨by omega,by omega⟩
theorem intsD1 (L:List Int):∀ x ∈ (L.map fun b=>[I64 b]),x.length=1:=fun x hx=>by obtain ⟨b,_,rfl⟩:=List.mem_map.1 hx;rfl
theorem intsDk (L:List Int):∀ x ∈ (L.map fun b=>[I64 b]),∀ c ∈ x,kf c=true:=fun x hx c hc=>by
 obtain ⟨b,_,rfl⟩:=List.mem_map.1 hx
 simp only [List.mem_singleton] at hc
 subst hc;rfl
theorem ints_od {hT:Hp} (L:List Int):∀ c ∈ L.map I64,Od hT c:=fun c hc=>by obtain ⟨b,_,rfl⟩:=List.mem_map.1 hc;exact .v _
theorem I_ren (r:Nat→Nat) (L:List Int):renCs r (L.map I64)=L.map I64:=renCs_I r L
theorem eqIntO (L:List Int) (hm:L.length≤mx):DC Try.prog 48 [.c (.msl 0 1 0 L.length),.c (.msl 1 1 0 L.length)] [some (L.map I64),some (L.map I64)] (fun r h'=>r=DB true∧h'=[some (L.map I64),some (L.map I64)]) :=
 DC.borrow [0,1] (by
  simp only [DMs,DM,CM]
  exact ⟨⟨⟨trivial,trivial,by simp⟩,by simp,by rw [flat_I];rfl,intsD1 L,intsDk L⟩,⟨⟨trivial,trivial,by simp⟩,by simp,by rw [flat_I];rfl,intsD1 L,intsDk L⟩,trivial⟩) (eqIntST L hm)
theorem heldIntO (k:Int) (n:Nat) (hk:0≤k) (hb:k+(n:Nat)≤1099511627776) (hn:n≤mx):DC Try.prog 52 [.c (.msl 0 1 0 n),DI .i64 k] [some ((mkI k n).map I64)] (fun r h'=>r=DI .i64 (k+(n:Nat))∧h'=[some ((mkI k n).map I64)]) :=
 DC.borrow [0] (by
  simp only [DMs,DM,CM]
  exact ⟨⟨⟨trivial,trivial,by simp [mkI_len]⟩,by simp,by rw [flat_I];rfl,intsD1 _,intsDk _⟩,trivial,trivial⟩) (heldIntSP k n hk hb hn)
theorem markIntO (L:List Int) (hb:(1:Int)+(L.length:Nat)≤1099511627776):DC Try.prog 51 [.c (.msl 0 1 0 L.length),DI .i64 1] [some (L.map I64)] (fun r h=>r=DI .i64 (1+(L.length:Nat))∧h=[some ((mkI 1 L.length).map I64)]) :=
 markIntSO L 1 (by omega) hb
omit [Yn] in
theorem markM1 (m:Mm) (hm:MmN m) (hs:szM m≤1048576) (k:Int) (hk:0≤k∧k≤100000000) : @DW ⟨0⟩ Try.prog 50 [.agg (cnM m),DI .i64 k] (fun n=>0≤n∧n≤200000000):=by
 letI:Yn:=⟨0⟩
 have h4:(m.arrays.map List.length).sum≤szIL m.arrays:=by
  generalize m.arrays=l
  induction l with
  | nil=>simp [szIL]
  | cons a r ih=>simp only [List.map_cons,List.sum_cons,szIL];omega
 unfold szM at hs
 exact (markMemoryW rfl m hm.nv hm.na hm.ar k hk.1 (by omega)).imp fun n e=>⟨by omega,by omega⟩
theorem lawXRV (p:Pg) (m:Mm) (hp:PgB p) (hm:MmB m):LW Try.prog 9 [.agg p.cells,.agg m.cells]:=by
 have hmx:=mx_eq
 refine lwZ Try.func9 (.cons (.agg (cyP_co false p)) (.cons (.agg (cyM_co false m)) .nil)) fun y=>?_
 have z1:=(szProgram_c p hp 1048576 (by omega) (by omega)).er (.cons (.agg (cyP_co false p)) (.cons (y:=false) (.rfl _) .nil))
 have ret:∀ hp:Hp,RetOb 0 (fun d h=>d=DB true∧h=[]) (DB true) hp:=fun hp=>RetOb.plain (d:=DB true) ⟨rfl,rfl⟩ rfl
 by_cases q1:((szP p:Nat):Int)≤1048576
 ·rw [subZ,if_pos q1] at z1
  have g1:((1048576:Int) - (szP p:Int)<0)=False:=eq_false (by omega)
  have z2:=(szMemory_c m hm (1048576 - (szP p:Int)) (by omega) (by omega)).er (.cons (.agg (cyM_co false m)) (.cons (y:=false) (.rfl _) .nil))
  by_cases q2:((szM m:Nat):Int)≤1048576 - (szP p:Int)
  ·rw [subZ,if_pos q2] at z2
   have g2:((1048576:Int) - (szP p:Int) - (szM m:Int)<0)=False:=eq_false (by omega)
   have np:=pgN_of (p:=p) (by omega)
   have nm:=mmN_of (m:=m) (by omega)
   have hls:lsize 5 p.body≤1048576:=by
    have h1:=lsize_le 5 p.body
    have h2:szSL p.body≤szP p:=by unfold szP;omega
    omega
   have nv:=np.nv
   have nar:=np.na
   have c1:=(toProgram_y p np).er (.cons (.agg (cyP_co false p)) .nil)
   have c2:=(toMemory_y m nm).er (.cons (.agg (cyM_co false m)) .nil)
   have e1:=(eqProgram_c p hp).er (.cons (.agg (cyP_co true p)) (.cons (.agg (cyP_co true p)) .nil))
   have e2:=(eqMemory_c m hm).er (.cons (.agg (cyM_co true m)) (.cons (.agg (cyM_co true m)) .nil))
   have hs:=(releasedSO p m (by omega) (by omega) (by omega)).er (.cons (.agg (cyP_co true p)) (.cons (.agg (cyM_co true m)) .nil))
   have hi:=(releasedIO p m (by omega) (by omega)).er (.cons (.agg (cyP_co true p)) (.cons (.agg (cyM_co true m)) .nil))
   have hLm:(valR (runP p m).2.1).length≤100000000000:=by
    have h1:=(runP_sm p m).2.2.2
    have h2:(valR (runP p m).2.1).length≤(runP p m).2.1.length:=by rw [valR,List.length_map];exact List.length_filter_le _ _
    omega
   have hmk:=markP1 p np (by omega)
   have hmm:=markM1 m nm (by omega)
   have hyt:=cyP_yt p
   have hyw:=fun hT=>cyM_yw (hT:=hT) m
   have hwt:=cwM_yt m
   generalize valR (runP p m).2.1=L at *
   generalize (runP p m).2.2=ok at *
   generalize szP p=s1 at *
   generalize szM m=s2 at *
   obtain ⟨vs,ar,bd⟩:=p
   obtain ⟨va,arr⟩:=m
   simp only [cyP,cyM,cyI,cwM,cwI] at hyt hyw hwt c1 c2 e1 e2 hs hi z1 z2 ⊢
   simp only [go_sem]
   iterate 10 ((try (refine drvZ Try.func9 ?_;simp only [go_sem,g1,g2]));((with_reducible and_intros)<;>try exact sd);(try first | refine XK.p z1 ok22 ?_ | refine XK.gp z1 ok22 ?_ | refine XK.p z2 ok44 ?_ | refine XK.gp z2 ok44 ?_ | refine XK.p c1 ok24 ?_ | refine XK.gp c1 ok24 ?_ | refine XK.p c2 ok46 ?_ | refine XK.gp c2 ok46 ?_))
   refine XK.callG [] hs ok45 (fun i' x h=>by simp at h) (hbT ()) (fun d h' ⟨_,e⟩=>by subst e;simp) ?_ (fun _=>⟨by kernel_rfl,_,_,⟨rfl,rfl⟩,by simp⟩)
   rintro _ _ ⟨rfl,rfl⟩ _
   iterate 6 ((try (refine drvZ Try.func9 ?_;simp only [go_sem,I_ren]));((with_reducible and_intros)<;>try exact sd);(try first | refine XK.p c1 ok24 ?_ | refine XK.gp c1 ok24 ?_ | refine XK.p c2 ok46 ?_ | refine XK.gp c2 ok46 ?_))
   refine XK.callG [] hi ok47 (fun i' x h=>by simp at h) (hbT ()) (fun d h' ⟨_,e⟩=>by subst e;simp) ?_
   rintro _ _ ⟨rfl,rfl⟩ _
   iterate 4 ((try (refine drvZ Try.func9 ?_;simp only [go_sem,I_ren]));((with_reducible and_intros)<;>try exact sd))
   have heq:=eqIntO L (by omega)
   refine XK.callG [2304,1280] heq ok48 (hhpG (by simp [HH,upd,hOf,I_ren])) (hbT ()) (fun d h' ⟨_,e⟩=>by subst e;simp) ?_
   rintro _ _ ⟨rfl,rfl⟩ _
   iterate 10 ((try (refine drvZ Try.func9 ?_;simp only [go_sem,I_ren,bne_self_eq_false]));((with_reducible and_intros)<;>try exact sd);(try first | refine XK.p c1 ok24 ?_ | refine XK.gp c1 ok24 ?_ | refine XK.p c2 ok46 ?_ | refine XK.gp c2 ok46 ?_ | refine XK.p e1 ok27 ?_ | refine XK.gp e1 ok27 ?_ | refine XK.p e2 ok49 ?_ | refine XK.gp e2 ok49 ?_))
   refine XK.mark [(2,.c (.ptr 0 0)),(3,.c (.ptr 64 0)),(6,.c (.msl 1280 1 0 L.length)),(7,DB ok),(9,.c (.ptr 2048 0)),(10,.c (.msl 2304 1 0 L.length)),(11,DB ok)] [(0,some [.csl false 1 (vs.map fun n=>[I64 n]),.csl false 1 (ar.map fun n=>[I64 n]),.csl false 11 (cySL false bd)]),(64,some [.csl false 1 (va.map fun n=>[I64 n]),.csl false 1 (arr.map fun a=>[.csl false 1 (a.map fun n=>[I64 n])])]),(1280,some (L.map I64)),(2304,some (L.map I64)),(2048,some [.csl true 1 (va.map fun _=>[.num .i64]),.csl true 1 (arr.map fun a=>[.csl true 1 (a.map fun _=>[.num .i64])])])] hmk ok28 (.cons (.agg hyt) (.cons (.c (.v _)) .nil)) (HL.cons rfl (.od (cyP_od ⟨vs,ar,bd⟩)) (HL.cons rfl (.od (cyM_od ⟨va,arr⟩)) (HL.cons rfl (.od (ints_od L)) (HL.cons rfl (.od (ints_od L)) (HL.cons rfl (hyw _) HL.nil))))) (ML.cons rfl (.c (.od (.ptr _ _ (by simp [hOf,upd])))) (ML.cons rfl (.c (.od (.ptr _ _ (by simp [hOf,upd])))) (ML.cons rfl (.c (.od (.msl _ _ _ _ (by simp [hOf,upd])))) (ML.cons rfl (.c (.od (.v _))) (ML.cons rfl (.c (.od (.ptr _ _ (by simp [hOf,upd])))) (ML.cons rfl (.c (.od (.msl _ _ _ _ (by simp [hOf,upd])))) (ML.cons rfl (.c (.od (.v _))) ML.nil))))))) ?_
   rintro n ⟨hn0,hn1⟩
   iterate 3 ((try (refine drvZ Try.func9 ?_;simp only [go_sem,I_ren]));((with_reducible and_intros)<;>try exact sd))
   refine XK.mark [(2,.c (.ptr 0 0)),(3,.c (.ptr 64 0)),(6,.c (.msl 1280 1 0 L.length)),(7,DB ok),(10,.c (.msl 2304 1 0 L.length)),(11,DB ok)] [(0,some [.csl false 1 (vs.map fun n=>[I64 n]),.csl false 1 (ar.map fun n=>[I64 n]),.csl false 11 (cySL false bd)]),(64,some [.csl false 1 (va.map fun n=>[I64 n]),.csl false 1 (arr.map fun a=>[.csl false 1 (a.map fun n=>[I64 n])])]),(1280,some (L.map I64)),(2304,some (L.map I64))] (hmm n ⟨hn0,hn1⟩) ok50 (.cons (.agg hwt) (.cons (.c (.v _)) .nil)) (HL.cons rfl (.od (cyP_od ⟨vs,ar,bd⟩)) (HL.cons rfl (.od (cyM_od ⟨va,arr⟩)) (HL.cons rfl (.od (ints_od L)) (HL.cons rfl (.od (ints_od L)) HL.nil)))) (ML.cons rfl (.c (.od (.ptr _ _ (by simp [hOf,upd])))) (ML.cons rfl (.c (.od (.ptr _ _ (by simp [hOf,upd])))) (ML.cons rfl (.c (.od (.msl _ _ _ _ (by simp [hOf,upd])))) (ML.cons rfl (.c (.od (.v _))) (ML.cons rfl (.c (.od (.msl _ _ _ _ (by simp [hOf,upd])))) (ML.cons rfl (.c (.od (.v _))) ML.nil)))))) ?_
   rintro n2 ⟨hn3,hn4⟩
   have hn2:(n2<0)=False:=eq_false (by omega)
   iterate 3 ((try (refine drvZ Try.func9 ?_;simp only [go_sem,hn2,I_ren]));((with_reducible and_intros)<;>try exact sd))
   refine XK.callT 2 false [2304,1280] heq ok48 (hhpG (by simp [HH,upd,hOf,I_ren])) (hbT ()) (fun d h' ⟨_,e⟩=>by subst e;simp) ?_
   rintro _ _ ⟨rfl,rfl⟩ _
   iterate 4 ((try (refine drvZ Try.func9 ?_;simp only [go_sem,hn2,I_ren,bne_self_eq_false]));((with_reducible and_intros)<;>try exact sd))
   have hmb:=markIntO L (by omega)
   refine XK.callG [2304] hmb ok51 (hhpG (by simp [HH,upd,hOf,I_ren])) (hbT ()) (fun d h' ⟨_,e⟩=>by subst e;simp) ?_
   rintro _ _ ⟨rfl,rfl⟩ _
   iterate 4 ((try (refine drvZ Try.func9 ?_;simp only [go_sem,I_ren]));((with_reducible and_intros)<;>try exact sd))
   have hhb:=heldIntO 1 L.length (by omega) (by omega) (by omega)
   refine XK.callG [2304] hhb ok52 (hhpG (by simp [HH,upd,hOf,I_ren])) (hbT ()) (fun d h' ⟨_,e⟩=>by subst e;simp) ?_
   rintro _ _ ⟨rfl,rfl⟩ _
   have hq0:((1:Int)+(L.length:Int)<0)=False:=eq_false (by omega)
   iterate 7 ((try (refine drvZ Try.func9 ?_;simp only [go_sem,hq0,bne_self_eq_false,I_ren]));((with_reducible and_intros)<;>try exact sd);(try first | refine XK.p c1 ok24 ?_ | refine XK.gp c1 ok24 ?_ | refine XK.p c2 ok46 ?_ | refine XK.gp c2 ok46 ?_))
   refine XK.callG [] hi ok47 (fun i' x h=>by simp at h) (hbT ()) (fun d h' ⟨_,e⟩=>by subst e;simp) ?_ (fun _=>⟨by kernel_rfl,_,_,⟨rfl,rfl⟩,by simp⟩)
   rintro _ _ ⟨rfl,rfl⟩ _
   iterate 3 ((try (refine drvZ Try.func9 ?_;simp only [go_sem,I_ren]));((with_reducible and_intros)<;>try exact sd))
   refine XK.callG [6528,1280] heq ok48 (hhpG (by simp [HH,upd,hOf,I_ren])) (hbT ()) (fun d h' ⟨_,e⟩=>by subst e;simp) ?_
   rintro _ _ ⟨rfl,rfl⟩ _
   iterate 5 ((try (refine drvZ Try.func9 ?_;simp only [go_sem,bne_self_eq_false,I_ren]));((with_reducible and_intros)<;>try exact sd))
   refine XK.callG [2304] hhb ok52 (hhpG (by simp [HH,upd,hOf,I_ren])) (hbT ()) (fun d h' ⟨_,e⟩=>by subst e;simp) ?_
   rintro _ _ ⟨rfl,rfl⟩ _
   iterate 6 ((try (refine drvZ Try.func9 ?_;simp only [go_sem,hq0,bne_self_eq_false,I_ren]));((with_reducible and_intros)<;>try exact sd))
   exact ret _
  ·rw [subZ,if_neg q2] at z2
   obtain ⟨vs,ar,bd⟩:=p
   obtain ⟨va,arr⟩:=m
   simp only [cyP,cyM,cyI] at z1 z2 ⊢
   generalize szP ⟨vs,ar,bd⟩=s1 at *
   simp only [go_sem]
   iterate 7 ((try (refine drvZ Try.func9 ?_;simp only [go_sem,g1]));((with_reducible and_intros)<;>try exact sd);(try first | refine XK.p z1 ok22 ?_ | refine XK.gp z1 ok22 ?_ | refine XK.p z2 ok44 ?_ | refine XK.gp z2 ok44 ?_))
   exact ret _
 ·rw [subZ,if_neg q1] at z1
  obtain ⟨vs,ar,bd⟩:=p
  obtain ⟨va,arr⟩:=m
  simp only [cyP,cyM,cyI] at z1 ⊢
  simp only [go_sem]
  iterate 4 ((try (refine drvZ Try.func9 ?_;simp only [go_sem]));((with_reducible and_intros)<;>try exact sd);(try first | refine XK.p z1 ok22 ?_ | refine XK.gp z1 ok22 ?_))
  exact ret _
end Go.Proofs.Ytddanjifhdaebaa.CtD
