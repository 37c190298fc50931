/- Contracts of functions of the program, one behind the other, as plain data: what each call returns and which blocks it leaves. -/
import Derived.Test.YtddanjifhdaebaaHFacts
import Derived.Test.YtddanjifhdaebaaHAk
import Derived.Test.YtddanjifhdaebaaHAr
import Derived.Test.YtddanjifhdaebaaHAs
import Derived.Test.YtddanjifhdaebaaHAt
import Derived.Test.YtddanjifhdaebaaHAi
import Derived.Test.YtddanjifhdaebaaHAn
import Derived.Test.YtddanjifhdaebaaHAm
import Derived.Test.YtddanjifhdaebaaHAu
set_option linter.unusedVariables false
set_option linter.unusedSimpArgs false
set_option linter.unusedSectionVars false
set_option maxHeartbeats 16000000
set_option maxRecDepth 100000
namespace Go.Proofs.Ytddanjifhdaebaa.CtD
open Go Go.CT CtF CtR
variable [Yn]
theorem TL.nil {tm:Nat→Option D}:∀ p ∈ ([]:List (Nat × D)),tm p.1=some p.2∧WsD p.2:=fun p h=>by simp at h
theorem TL.cons {tm:Nat→Option D} {n:Nat} {d:D} {l:List (Nat × D)} (h1:tm n=some d) (h2:WsD d) (h:∀ p ∈ l,tm p.1=some p.2∧WsD p.2):∀ p ∈ (n,d) :: l,tm p.1=some p.2∧WsD p.2:=fun p hp=>by
 rcases List.mem_cons.1 hp with rfl | hp
 ·exact ⟨h1,h2⟩
 ·exact h p hp
theorem hh0:∀ k cs,hOf [] k=some (some cs)→∀ c ∈ cs,Ws c:=fun k cs h=>by simp [hOf] at h
theorem hhL:∀ k cs,hpL [] k=some (some cs)→∀ c ∈ cs,Ws c:=fun k cs h=>by simp [hpL] at h
theorem hh1 {hp:Hp} {n:Nat} {cs0:List C} (h0:∀ c ∈ cs0,Ws c) (h:∀ k cs,hp k=some (some cs)→∀ c ∈ cs,Ws c):∀ k cs,upd hp n (some (some cs0)) k=some (some cs)→∀ c ∈ cs,Ws c:=fun k cs e=>by
 simp only [upd] at e
 split at e
 ·cases e;exact h0
 ·exact h k cs e
mutual
def ctE : Ex → Nat
 | .mk _ _ ks=>ctEL ks
def ctEL : List Ex → Nat
 | []=>0
 | e :: r=>(2+ctE e)+ctEL r
end
theorem ctEL_eq : ∀ l : List Ex, ctEL l = (l.map fun e => 2 + ctE e).sum
 | []=>rfl
 | e :: r=>by simp only [ctEL,List.map_cons,List.sum_cons,ctEL_eq r]
mutual
def ctS : St1 → Nat
 | .mk _ _ ix v _ b e=>ctE ix+ctE v+ctSL b+ctSL e
def ctSL : List St1 → Nat
 | []=>0
 | s :: r=>(7+ctS s)+ctSL r
end
theorem ctSL_eq : ∀ l : List St1, ctSL l = (l.map fun e => 7 + ctS e).sum
 | []=>rfl
 | e :: r=>by simp only [ctSL,List.map_cons,List.sum_cons,ctSL_eq r]
theorem cnEL_at {l:List Ex} {i:Nat} {e:Ex} (h:l[i]? = some e):(cnEL l)[i]? = some (cnE e):=by rw [cnEL_eq,List.getElem?_map,h];rfl
theorem cnSL_at {l:List St1} {i:Nat} {e:St1} (h:l[i]? = some e):(cnSL l)[i]? = some (cnS e):=by rw [cnSL_eq,List.getElem?_map,h];rfl
theorem sum_one {α : Type} : ∀ l : List α, (l.map fun _ => 1).sum = l.length
 | []=>rfl
 | a :: r=>by simp only [List.map_cons,List.sum_cons,List.length_cons,sum_one r];omega
theorem markIntSW (h0:Yn.n=0) (l:List Int) (hl:l.length≤1048576) (k:Int) (hk:0≤k) (hb:k+(l.length:Nat)≤1099511627776)  : DW Try.prog 51 [.c (.isl 1 (l.map fun _=>[C.num .i64])),DI .i64 k] (fun n=>n=k+(l.length:Nat)):=by
 have hmx:=mx_eq
 have hrl:(l.map fun _=>[C.num .i64]).length=l.length:=by simp
 have hws:WsD (.c (.isl 1 (l.map fun _=>[C.num .i64]))) := .mm (cnI_mk l)
 have hf:∀ (i:Nat) (x:Int),l[i]? = some x→((l.map (fun _=>1)).take (i+1)).sum=((l.map (fun _=>1)).take i).sum+(fun _=>1) x∧((l.map (fun _=>1)).take i).sum+(fun _=>1) x≤(l.map (fun _=>1)).sum:=fun i x h=>by
  have:=sum_take (fun _=>1) h
  rwa [List.map_take,List.map_take] at this
 have htot:l.length=(l.map (fun _=>1)).sum:=(sum_one l).symm
 have ret:∀ (n:Int) (hp:Hp),n=k+(l.length:Nat)→RetOb 0 (fun d h'=>(∃ n,d=DI .i64 n∧n=k+(l.length:Nat))∧h'=[]) (DI .i64 n) hp:=fun n hp h=>RetOb.plain ⟨⟨n,rfl,h⟩,rfl⟩ rfl
 refine dwZ h0 Try.func51 ?_
 generalize hR:(fun (d:D) (h':List (Option (List C)))=>(∃ n,d=DI .i64 n∧n=k+(l.length:Nat))∧h'=[])=R at ret ⊢
 clear hR
 simp only [go_sem,hrl]
 iterate 3 ((try (refine drvZW Try.func51 ?_;simp only [go_sem,hrl]));((with_reducible and_intros)<;>try exact sd))
 refine Go.loopQ (fun i:Nat=>[(0,.c (.isl 1 (l.map fun _=>[C.num .i64]))),(1,DI .i64 (k+(((l.map (fun _=>1)).take i).sum:Nat))),(5,DI .i64 i)]) (fun i=>[]) 1024 (fun i=>i≤l.length) (fun i=>l.length - i) ?_ 0 some [] _ (by omega) ?_
 ·intro i hi again
  rcases Nat.lt_or_ge i l.length with hlt | hge
  ·obtain ⟨x,hx⟩:∃ x,l[i]? = some x:=⟨l[i],by simp [hlt]⟩
   obtain ⟨hs1,hs2⟩:=hf i x hx
   have hmem:=List.mem_of_getElem? hx
   have hxl:(l.map fun _=>[C.num .i64])[i]? = some [C.num .i64]:=by rw [List.getElem?_map,hx];rfl
   rw [← htot] at hs2
   try dsimp only at hs1 hs2
   try simp only [ctE,ctS] at hs1 hs2
   generalize ((l.map (fun _=>1)).take i).sum=A at *
   generalize (l.map fun _=>[C.num .i64])=rows at *
   refine drvLW Try.func51 ?_
   simp only [go_sem,hrl,hlt,hxl]
   ((try (refine drvZW Try.func51 ?_;simp only [go_sem,hrl,hlt,hxl]));((with_reducible and_intros)<;>try exact sd))
   refine XK.wst h0 [(0,.c (.isl 1 rows)),(1,DI .i64 (k+(A:Nat))),(5,DI .i64 i)] hh0 (TL.cons rfl hws (TL.cons rfl (.v _) (TL.cons rfl (.v _) TL.nil))) ?_
   iterate 3 ((try (refine drvZW Try.func51 ?_;simp only [go_sem,hrl,hlt,hxl]));((with_reducible and_intros)<;>try exact sd))
   refine again (i+1) some [] _ hlt (by omega) ?_
   simp only [go_sem,TmOK,DM,DMs,CM,CMs,forall_eq,exists_eq_left,Mq,HpOK,LowOK]
   simp
   rw [hs1]
   omega
  ·obtain rfl:i=l.length:=by omega
   have hn:¬ l.length<l.length:=by omega
   refine drvLW Try.func51 ?_
   simp only [go_sem,hrl,hn]
   iterate 3 ((try (refine drvZW Try.func51 ?_;simp only [go_sem,hrl,hn]));((with_reducible and_intros)<;>try exact sd))
   exact ret _ _ (by rw [List.take_of_length_le (by simp),htot])
 ·simp only [go_sem,TmOK,DM,DMs,CM,CMs,forall_eq,exists_eq_left,Mq,HpOK,LowOK]
  simp
theorem markIntSSW (h0:Yn.n=0) (l:List (List Int)) (hl:l.length≤1048576) (k:Int) (hk:0≤k) (hb:k+((l.map List.length).sum:Nat)≤1099511627776) (hls:∀ x ∈ l,x.length≤1048576):DW Try.prog 106 [.c (.isl 1 (l.map fun a=>[cnI a])),DI .i64 k] (fun n=>n=k+((l.map List.length).sum:Nat)):=by
 have hmx:=mx_eq
 have hrl:(l.map fun a=>[cnI a]).length=l.length:=by simp
 have hws:WsD (.c (.isl 1 (l.map fun a=>[cnI a]))) := .mm (cnIL_mk l)
 have hf:∀ (i:Nat) (x:(List Int)),l[i]? = some x→((l.map (List.length)).take (i+1)).sum=((l.map (List.length)).take i).sum+(List.length) x∧((l.map (List.length)).take i).sum+(List.length) x≤(l.map (List.length)).sum:=fun i x h=>by
  have:=sum_take (List.length) h
  rwa [List.map_take,List.map_take] at this
 have htot:(l.map List.length).sum=(l.map (List.length)).sum:=rfl
 have ret:∀ (n:Int) (hp:Hp),n=k+((l.map List.length).sum:Nat)→RetOb 0 (fun d h'=>(∃ n,d=DI .i64 n∧n=k+((l.map List.length).sum:Nat))∧h'=[]) (DI .i64 n) hp:=fun n hp h=>RetOb.plain ⟨⟨n,rfl,h⟩,rfl⟩ rfl
 refine dwZ h0 Try.func106 ?_
 generalize hR:(fun (d:D) (h':List (Option (List C)))=>(∃ n,d=DI .i64 n∧n=k+((l.map List.length).sum:Nat))∧h'=[])=R at ret ⊢
 clear hR
 simp only [go_sem,hrl]
 iterate 3 ((try (refine drvZW Try.func106 ?_;simp only [go_sem,hrl]));((with_reducible and_intros)<;>try exact sd))
 refine Go.loopQ (fun i:Nat=>[(0,.c (.isl 1 (l.map fun a=>[cnI a]))),(1,DI .i64 (k+(((l.map (List.length)).take i).sum:Nat))),(5,DI .i64 i)]) (fun i=>[]) 1024 (fun i=>i≤l.length) (fun i=>l.length - i) ?_ 0 some [] _ (by omega) ?_
 ·intro i hi again
  rcases Nat.lt_or_ge i l.length with hlt | hge
  ·obtain ⟨x,hx⟩:∃ x,l[i]? = some x:=⟨l[i],by simp [hlt]⟩
   obtain ⟨hs1,hs2⟩:=hf i x hx
   have hmem:=List.mem_of_getElem? hx
   have hxl:(l.map fun a=>[cnI a])[i]? = some [.isl 1 (x.map fun _=>[C.num .i64])]:=by rw [List.getElem?_map,hx];rfl
   rw [← htot] at hs2
   try dsimp only at hs1 hs2
   try simp only [ctE,ctS] at hs1 hs2
   generalize ((l.map (List.length)).take i).sum=A at *
   generalize (l.map fun a=>[cnI a])=rows at *
   refine drvLW Try.func106 ?_
   simp only [go_sem,hrl,hlt,hxl]
   ((try (refine drvZW Try.func106 ?_;simp only [go_sem,hrl,hlt,hxl]));((with_reducible and_intros)<;>try exact sd))
   have hc1:=markIntSW h0 x (hls x hmem) (k+(A:Nat)) (by omega) (by omega)
   refine XK.wcall h0 [(0,.c (.isl 1 rows)),(5,DI .i64 i)] hc1 ok51 hh0 (TL.cons rfl hws (TL.cons rfl (.v _) TL.nil)) ?_
   rintro _ rfl
   iterate 3 ((try (refine drvZW Try.func106 ?_;simp only [go_sem,hrl,hlt,hxl]));((with_reducible and_intros)<;>try exact sd))
   refine again (i+1) some [] _ hlt (by omega) ?_
   simp only [go_sem,TmOK,DM,DMs,CM,CMs,forall_eq,exists_eq_left,Mq,HpOK,LowOK]
   simp
   rw [hs1]
   omega
  ·obtain rfl:i=l.length:=by omega
   have hn:¬ l.length<l.length:=by omega
   refine drvLW Try.func106 ?_
   simp only [go_sem,hrl,hn]
   iterate 3 ((try (refine drvZW Try.func106 ?_;simp only [go_sem,hrl,hn]));((with_reducible and_intros)<;>try exact sd))
   exact ret _ _ (by rw [List.take_of_length_le (by simp),htot])
 ·simp only [go_sem,TmOK,DM,DMs,CM,CMs,forall_eq,exists_eq_left,Mq,HpOK,LowOK]
  simp
theorem markExprSWOf (h0:Yn.n=0) (l:List Ex) (hl:l.length≤1048576) (k:Int) (hk:0≤k) (hb:k+(ctEL l:Nat)≤1099511627776) (hc:∀ x ∈ l,∀ k:Int,0≤k→k+(ctEL x.kids:Nat)≤1099511627776→DW Try.prog 149 [.c (.isl 3 (cnEL x.kids)),DI .i64 k] (fun n=>n=k+(ctEL x.kids:Nat))):DW Try.prog 149 [.c (.isl 3 (cnEL l)),DI .i64 k] (fun n=>n=k+(ctEL l:Nat)):=by
 have hmx:=mx_eq
 have hrl:(cnEL l).length=l.length:=by simp [cnEL_eq]
 have hws:WsD (.c (.isl 3 (cnEL l))) := .mm (cnEL_mk l)
 have hf:∀ (i:Nat) (x:Ex),l[i]? = some x→((l.map (fun e=>2+ctE e)).take (i+1)).sum=((l.map (fun e=>2+ctE e)).take i).sum+(fun e=>2+ctE e) x∧((l.map (fun e=>2+ctE e)).take i).sum+(fun e=>2+ctE e) x≤(l.map (fun e=>2+ctE e)).sum:=fun i x h=>by
  have:=sum_take (fun e=>2+ctE e) h
  rwa [List.map_take,List.map_take] at this
 have htot:ctEL l=(l.map (fun e=>2+ctE e)).sum:=ctEL_eq l
 have ret:∀ (n:Int) (hp:Hp),n=k+(ctEL l:Nat)→RetOb 0 (fun d h'=>(∃ n,d=DI .i64 n∧n=k+(ctEL l:Nat))∧h'=[]) (DI .i64 n) hp:=fun n hp h=>RetOb.plain ⟨⟨n,rfl,h⟩,rfl⟩ rfl
 refine dwZ h0 Try.func149 ?_
 generalize hR:(fun (d:D) (h':List (Option (List C)))=>(∃ n,d=DI .i64 n∧n=k+(ctEL l:Nat))∧h'=[])=R at ret ⊢
 clear hR
 simp only [go_sem,hrl]
 iterate 3 ((try (refine drvZW Try.func149 ?_;simp only [go_sem,hrl]));((with_reducible and_intros)<;>try exact sd))
 refine Go.loopQ (fun i:Nat=>[(0,.c (.isl 3 (cnEL l))),(1,DI .i64 (k+(((l.map (fun e=>2+ctE e)).take i).sum:Nat))),(5,DI .i64 i)]) (fun i=>[]) 1024 (fun i=>i≤l.length) (fun i=>l.length - i) ?_ 0 some [] _ (by omega) ?_
 ·intro i hi again
  rcases Nat.lt_or_ge i l.length with hlt | hge
  ·obtain ⟨x,hx⟩:∃ x,l[i]? = some x:=⟨l[i],by simp [hlt]⟩
   obtain ⟨hs1,hs2⟩:=hf i x hx
   have hmem:=List.mem_of_getElem? hx
   have hcm:=hc _ hmem
   obtain ⟨k0,v0,ks⟩:=x
   simp only [Ex.kids,St1.body,St1.els] at hcm
   have hxl:(cnEL l)[i]? = some [.num .i64,.num .i64,.isl 3 (cnEL ks)]:=by rw [cnEL_at hx];rfl
   rw [← htot] at hs2
   try dsimp only at hs1 hs2
   try simp only [ctE,ctS] at hs1 hs2
   generalize ((l.map (fun e=>2+ctE e)).take i).sum=A at *
   generalize (cnEL l)=rows at *
   refine drvLW Try.func149 ?_
   simp only [go_sem,hrl,hlt,hxl]
   ((try (refine drvZW Try.func149 ?_;simp only [go_sem,hrl,hlt,hxl]));((with_reducible and_intros)<;>try exact sd))
   refine XK.wst h0 [(0,.c (.isl 3 rows)),(1,DI .i64 (k+(A:Nat))),(5,DI .i64 i)] hh0 (TL.cons rfl hws (TL.cons rfl (.v _) (TL.cons rfl (.v _) TL.nil))) ?_
   iterate 3 ((try (refine drvZW Try.func149 ?_;simp only [go_sem,hrl,hlt,hxl]));((with_reducible and_intros)<;>try exact sd))
   refine XK.wst h0 [(0,.c (.isl 3 rows)),(1,DI .i64 (k+(A:Nat)+1)),(5,DI .i64 i)] hh0 (TL.cons rfl hws (TL.cons rfl (.v _) (TL.cons rfl (.v _) TL.nil))) ?_
   iterate 3 ((try (refine drvZW Try.func149 ?_;simp only [go_sem,hrl,hlt,hxl]));((with_reducible and_intros)<;>try exact sd))
   have hc1:=hcm (k+(A:Nat)+1+1) (by omega) (by omega)
   refine XK.wcall h0 [(0,.c (.isl 3 rows)),(5,DI .i64 i)] hc1 ok149 hh0 (TL.cons rfl hws (TL.cons rfl (.v _) TL.nil)) ?_
   rintro _ rfl
   iterate 3 ((try (refine drvZW Try.func149 ?_;simp only [go_sem,hrl,hlt,hxl]));((with_reducible and_intros)<;>try exact sd))
   refine again (i+1) some [] _ hlt (by omega) ?_
   simp only [go_sem,TmOK,DM,DMs,CM,CMs,forall_eq,exists_eq_left,Mq,HpOK,LowOK]
   simp
   rw [hs1]
   omega
  ·obtain rfl:i=l.length:=by omega
   have hn:¬ l.length<l.length:=by omega
   refine drvLW Try.func149 ?_
   simp only [go_sem,hrl,hn]
   iterate 3 ((try (refine drvZW Try.func149 ?_;simp only [go_sem,hrl,hn]));((with_reducible and_intros)<;>try exact sd))
   exact ret _ _ (by rw [List.take_of_length_le (by simp),htot])
 ·simp only [go_sem,TmOK,DM,DMs,CM,CMs,forall_eq,exists_eq_left,Mq,HpOK,LowOK]
  simp
theorem markExprSW (h0 : Yn.n = 0) : ∀ (n : Nat) (l : List Ex), SizeOf.sizeOf l ≤ n → l.length ≤ 1048576 → (∀ x ∈ l, ExN x) → ∀ k : Int, 0 ≤ k → k + (ctEL l : Nat) ≤ 1099511627776 → DW Try.prog 149 [.c (.isl 3 (cnEL l)), DI .i64 k] (fun n => n = k + (ctEL l : Nat))
 | 0,l,h,_,_,k,hk,hb=>by cases l<;>simp at h
 | n+1,l,h,hl,hN,k,hk,hb=>markExprSWOf h0 l hl k hk hb fun x hx k' h1 h2=>by
  have:=List.sizeOf_lt_of_mem hx
  have hN':=hN x hx
  cases hN' with
  | mk a b ks g1 g2 =>
   simp only [Ex.mk.sizeOf_spec] at this
   exact markExprSW h0 n ks (by omega) g1 g2 k' h1 h2
theorem markStmtSWOf (h0:Yn.n=0) (l:List St1) (hl:l.length≤1048576) (k:Int) (hk:0≤k) (hb:k+(ctSL l:Nat)≤1099511627776) (hc:∀ x ∈ l,(∀ k:Int,0≤k→k+(ctSL x.body:Nat)≤1099511627776→DW Try.prog 91 [.c (.isl 11 (cnSL x.body)),DI .i64 k] (fun n=>n=k+(ctSL x.body:Nat)))∧(∀ k:Int,0≤k→k+(ctSL x.els:Nat)≤1099511627776→DW Try.prog 91 [.c (.isl 11 (cnSL x.els)),DI .i64 k] (fun n=>n=k+(ctSL x.els:Nat)))) (hN:∀ x ∈ l,StN x):DW Try.prog 91 [.c (.isl 11 (cnSL l)),DI .i64 k] (fun n=>n=k+(ctSL l:Nat)):=by
 have hmx:=mx_eq
 have hrl:(cnSL l).length=l.length:=by simp [cnSL_eq]
 have hws:WsD (.c (.isl 11 (cnSL l))) := .mm (cnSL_mk l)
 have hf:∀ (i:Nat) (x:St1),l[i]? = some x→((l.map (fun e=>7+ctS e)).take (i+1)).sum=((l.map (fun e=>7+ctS e)).take i).sum+(fun e=>7+ctS e) x∧((l.map (fun e=>7+ctS e)).take i).sum+(fun e=>7+ctS e) x≤(l.map (fun e=>7+ctS e)).sum:=fun i x h=>by
  have:=sum_take (fun e=>7+ctS e) h
  rwa [List.map_take,List.map_take] at this
 have htot:ctSL l=(l.map (fun e=>7+ctS e)).sum:=ctSL_eq l
 have ret:∀ (n:Int) (hp:Hp),n=k+(ctSL l:Nat)→RetOb 0 (fun d h'=>(∃ n,d=DI .i64 n∧n=k+(ctSL l:Nat))∧h'=[]) (DI .i64 n) hp:=fun n hp h=>RetOb.plain ⟨⟨n,rfl,h⟩,rfl⟩ rfl
 refine dwZ h0 Try.func91 ?_
 generalize hR:(fun (d:D) (h':List (Option (List C)))=>(∃ n,d=DI .i64 n∧n=k+(ctSL l:Nat))∧h'=[])=R at ret ⊢
 clear hR
 simp only [go_sem,hrl]
 iterate 3 ((try (refine drvZW Try.func91 ?_;simp only [go_sem,hrl]));((with_reducible and_intros)<;>try exact sd))
 refine Go.loopQ (fun i:Nat=>[(0,.c (.isl 11 (cnSL l))),(1,DI .i64 (k+(((l.map (fun e=>7+ctS e)).take i).sum:Nat))),(5,DI .i64 i)]) (fun i=>[]) 1024 (fun i=>i≤l.length) (fun i=>l.length - i) ?_ 0 some [] _ (by omega) ?_
 ·intro i hi again
  rcases Nat.lt_or_ge i l.length with hlt | hge
  ·obtain ⟨x,hx⟩:∃ x,l[i]? = some x:=⟨l[i],by simp [hlt]⟩
   obtain ⟨hs1,hs2⟩:=hf i x hx
   have hmem:=List.mem_of_getElem? hx
   have hcm:=hc _ hmem
   have hNx:=hN _ hmem
   obtain ⟨k0,t0,⟨a1,b1,c1⟩,⟨a2,b2,c2⟩,c0,bd,el⟩:=x
   obtain ⟨q1,q2⟩:((c1.length≤1048576∧∀ x ∈ c1,ExN x)∧(c2.length≤1048576∧∀ x ∈ c2,ExN x)):=by
    cases hNx with
    | mk _ _ _ _ _ _ _ h1 h2=>cases h1 with | mk _ _ _ g1 g2=>cases h2 with | mk _ _ _ g3 g4=>exact ⟨⟨g1,g2⟩,⟨g3,g4⟩⟩
   simp only [Ex.kids,St1.body,St1.els] at hcm
   have hxl:(cnSL l)[i]? = some [.num .i64,.num .i64,.num .i64,.num .i64,.isl 3 (cnEL c1),.num .i64,.num .i64,.isl 3 (cnEL c2),.num .i64,.isl 11 (cnSL bd),.isl 11 (cnSL el)]:=by rw [cnSL_at hx];rfl
   rw [← htot] at hs2
   try dsimp only at hs1 hs2
   try simp only [ctE,ctS] at hs1 hs2
   generalize ((l.map (fun e=>7+ctS e)).take i).sum=A at *
   generalize (cnSL l)=rows at *
   refine drvLW Try.func91 ?_
   simp only [go_sem,hrl,hlt,hxl]
   ((try (refine drvZW Try.func91 ?_;simp only [go_sem,hrl,hlt,hxl]));((with_reducible and_intros)<;>try exact sd))
   refine XK.wst h0 [(0,.c (.isl 11 rows)),(1,DI .i64 (k+(A:Nat))),(5,DI .i64 i)] hh0 (TL.cons rfl hws (TL.cons rfl (.v _) (TL.cons rfl (.v _) TL.nil))) ?_
   iterate 3 ((try (refine drvZW Try.func91 ?_;simp only [go_sem,hrl,hlt,hxl]));((with_reducible and_intros)<;>try exact sd))
   refine XK.wst h0 [(0,.c (.isl 11 rows)),(1,DI .i64 (k+(A:Nat)+1)),(5,DI .i64 i)] hh0 (TL.cons rfl hws (TL.cons rfl (.v _) (TL.cons rfl (.v _) TL.nil))) ?_
   iterate 3 ((try (refine drvZW Try.func91 ?_;simp only [go_sem,hrl,hlt,hxl]));((with_reducible and_intros)<;>try exact sd))
   refine XK.wst h0 [(0,.c (.isl 11 rows)),(1,DI .i64 (k+(A:Nat)+1+1)),(5,DI .i64 i)] hh0 (TL.cons rfl hws (TL.cons rfl (.v _) (TL.cons rfl (.v _) TL.nil))) ?_
   iterate 3 ((try (refine drvZW Try.func91 ?_;simp only [go_sem,hrl,hlt,hxl]));((with_reducible and_intros)<;>try exact sd))
   refine XK.wst h0 [(0,.c (.isl 11 rows)),(1,DI .i64 (k+(A:Nat)+1+1+1)),(5,DI .i64 i)] hh0 (TL.cons rfl hws (TL.cons rfl (.v _) (TL.cons rfl (.v _) TL.nil))) ?_
   iterate 3 ((try (refine drvZW Try.func91 ?_;simp only [go_sem,hrl,hlt,hxl]));((with_reducible and_intros)<;>try exact sd))
   have hc1:=markExprSW h0 _ c1 (Nat.le_refl _) q1.1 q1.2 (k+(A:Nat)+1+1+1+1) (by omega) (by omega)
   refine XK.wcall h0 [(0,.c (.isl 11 rows)),(5,DI .i64 i)] hc1 ok149 hh0 (TL.cons rfl hws (TL.cons rfl (.v _) TL.nil)) ?_
   rintro _ rfl
   iterate 3 ((try (refine drvZW Try.func91 ?_;simp only [go_sem,hrl,hlt,hxl]));((with_reducible and_intros)<;>try exact sd))
   refine XK.wst h0 [(0,.c (.isl 11 rows)),(1,DI .i64 (k+(A:Nat)+1+1+1+1+(ctEL c1:Nat))),(5,DI .i64 i)] hh0 (TL.cons rfl hws (TL.cons rfl (.v _) (TL.cons rfl (.v _) TL.nil))) ?_
   iterate 3 ((try (refine drvZW Try.func91 ?_;simp only [go_sem,hrl,hlt,hxl]));((with_reducible and_intros)<;>try exact sd))
   refine XK.wst h0 [(0,.c (.isl 11 rows)),(1,DI .i64 (k+(A:Nat)+1+1+1+1+(ctEL c1:Nat)+1)),(5,DI .i64 i)] hh0 (TL.cons rfl hws (TL.cons rfl (.v _) (TL.cons rfl (.v _) TL.nil))) ?_
   iterate 3 ((try (refine drvZW Try.func91 ?_;simp only [go_sem,hrl,hlt,hxl]));((with_reducible and_intros)<;>try exact sd))
   have hc2:=markExprSW h0 _ c2 (Nat.le_refl _) q2.1 q2.2 (k+(A:Nat)+1+1+1+1+(ctEL c1:Nat)+1+1) (by omega) (by omega)
   refine XK.wcall h0 [(0,.c (.isl 11 rows)),(5,DI .i64 i)] hc2 ok149 hh0 (TL.cons rfl hws (TL.cons rfl (.v _) TL.nil)) ?_
   rintro _ rfl
   iterate 3 ((try (refine drvZW Try.func91 ?_;simp only [go_sem,hrl,hlt,hxl]));((with_reducible and_intros)<;>try exact sd))
   refine XK.wst h0 [(0,.c (.isl 11 rows)),(1,DI .i64 (k+(A:Nat)+1+1+1+1+(ctEL c1:Nat)+1+1+(ctEL c2:Nat))),(5,DI .i64 i)] hh0 (TL.cons rfl hws (TL.cons rfl (.v _) (TL.cons rfl (.v _) TL.nil))) ?_
   iterate 3 ((try (refine drvZW Try.func91 ?_;simp only [go_sem,hrl,hlt,hxl]));((with_reducible and_intros)<;>try exact sd))
   have hc3:=hcm.1 (k+(A:Nat)+1+1+1+1+(ctEL c1:Nat)+1+1+(ctEL c2:Nat)+1) (by omega) (by omega)
   refine XK.wcall h0 [(0,.c (.isl 11 rows)),(5,DI .i64 i)] hc3 ok91 hh0 (TL.cons rfl hws (TL.cons rfl (.v _) TL.nil)) ?_
   rintro _ rfl
   iterate 3 ((try (refine drvZW Try.func91 ?_;simp only [go_sem,hrl,hlt,hxl]));((with_reducible and_intros)<;>try exact sd))
   have hc4:=hcm.2 (k+(A:Nat)+1+1+1+1+(ctEL c1:Nat)+1+1+(ctEL c2:Nat)+1+(ctSL bd:Nat)) (by omega) (by omega)
   refine XK.wcall h0 [(0,.c (.isl 11 rows)),(5,DI .i64 i)] hc4 ok91 hh0 (TL.cons rfl hws (TL.cons rfl (.v _) TL.nil)) ?_
   rintro _ rfl
   iterate 3 ((try (refine drvZW Try.func91 ?_;simp only [go_sem,hrl,hlt,hxl]));((with_reducible and_intros)<;>try exact sd))
   refine again (i+1) some [] _ hlt (by omega) ?_
   simp only [go_sem,TmOK,DM,DMs,CM,CMs,forall_eq,exists_eq_left,Mq,HpOK,LowOK]
   simp
   rw [hs1]
   omega
  ·obtain rfl:i=l.length:=by omega
   have hn:¬ l.length<l.length:=by omega
   refine drvLW Try.func91 ?_
   simp only [go_sem,hrl,hn]
   iterate 3 ((try (refine drvZW Try.func91 ?_;simp only [go_sem,hrl,hn]));((with_reducible and_intros)<;>try exact sd))
   exact ret _ _ (by rw [List.take_of_length_le (by simp),htot])
 ·simp only [go_sem,TmOK,DM,DMs,CM,CMs,forall_eq,exists_eq_left,Mq,HpOK,LowOK]
  simp
theorem markStmtSW (h0 : Yn.n = 0) : ∀ (n : Nat) (l : List St1), SizeOf.sizeOf l ≤ n → l.length ≤ 1048576 → (∀ x ∈ l, StN x) → ∀ k : Int, 0 ≤ k → k + (ctSL l : Nat) ≤ 1099511627776 → DW Try.prog 91 [.c (.isl 11 (cnSL l)), DI .i64 k] (fun n => n = k + (ctSL l : Nat))
 | 0,l,h,_,_,k,hk,hb=>by cases l<;>simp at h
 | n+1,l,h,hl,hN,k,hk,hb=>markStmtSWOf h0 l hl k hk hb (fun x hx=>by
  have:=List.sizeOf_lt_of_mem hx
  have hN':=hN x hx
  cases hN' with
  | mk a b ix v c bd el h1 h2 h3 h4 h5 h6 =>
   simp only [St1.mk.sizeOf_spec] at this
   exact ⟨fun k' g1 g2=>markStmtSW h0 n bd (by omega) h3 h5 k' g1 g2,fun k' g1 g2=>markStmtSW h0 n el (by omega) h4 h6 k' g1 g2⟩) hN
theorem markProgramW (h0:Yn.n=0) (p:Pg) (hv1:p.vars.length≤1048576) (hv2:p.arrays.length≤1048576) (hv3:p.body.length≤1048576) (hv4:∀ x ∈ p.body,StN x) (k:Int) (hk:0≤k) (hb:k+(p.vars.length+p.arrays.length+ctSL p.body:Nat)≤1099511627776):DW Try.prog 28 [.agg (cnP p),DI .i64 k] (fun n=>n=k+(p.vars.length+p.arrays.length+ctSL p.body:Nat)):=by
 have hmx:=mx_eq
 obtain ⟨vs,ar,bd⟩:=p
 simp only [cnP,cnM,cnI] at *
 have hws:∀ c ∈ ([.isl 1 (vs.map fun _=>[C.num .i64]),.isl 1 (ar.map fun _=>[C.num .i64]),.isl 11 (cnSL bd)]:List C),Ws c:=by
  intro c hc
  simp only [List.mem_cons,List.not_mem_nil,or_false] at hc
  rcases hc with rfl | rfl | rfl
  ·exact .mm (cnI_mk vs)
  ·exact .mm (cnI_mk ar)
  ·exact .mm (cnSL_mk bd)
 have ret:∀ (n:Int) (hp:Hp),n=k+(vs.length+ar.length+ctSL bd:Nat)→RetOb 0 (fun d h'=>(∃ n,d=DI .i64 n∧n=k+(vs.length+ar.length+ctSL bd:Nat))∧h'=[]) (DI .i64 n) hp:=fun n hp h=>RetOb.plain ⟨⟨n,rfl,h⟩,rfl⟩ rfl
 refine dwZ h0 Try.func28 ?_
 generalize hR:(fun (d:D) (h':List (Option (List C)))=>(∃ n,d=DI .i64 n∧n=k+(vs.length+ar.length+ctSL bd:Nat))∧h'=[])=R at ret ⊢
 clear hR
 simp only [go_sem]
 iterate 2 ((try (refine drvZW Try.func28 ?_;simp only [go_sem]));((with_reducible and_intros)<;>try exact sd))
 have hc0:=markIntSW h0 vs hv1 (k) (by omega) (by omega)
 refine XK.wcall h0 [(2,.c (.ptr 0 0))] hc0 ok51 (hh1 hws hhL) (TL.cons rfl (.ptr _ _) TL.nil) ?_
 rintro _ rfl
 iterate 3 ((try (refine drvZW Try.func28 ?_;simp only [go_sem]));((with_reducible and_intros)<;>try exact sd))
 have hc1:=markIntSW h0 ar hv2 (k+(vs.length:Nat)) (by omega) (by omega)
 refine XK.wcall h0 [(2,.c (.ptr 0 0))] hc1 ok51 (hh1 hws hhL) (TL.cons rfl (.ptr _ _) TL.nil) ?_
 rintro _ rfl
 iterate 3 ((try (refine drvZW Try.func28 ?_;simp only [go_sem]));((with_reducible and_intros)<;>try exact sd))
 have hc2:=markStmtSW h0 _ bd (Nat.le_refl _) hv3 hv4 (k+(vs.length:Nat)+(ar.length:Nat)) (by omega) (by omega)
 refine XK.wcall h0 [(2,.c (.ptr 0 0))] hc2 ok91 (hh1 hws hhL) (TL.cons rfl (.ptr _ _) TL.nil) ?_
 rintro _ rfl
 iterate 3 ((try (refine drvZW Try.func28 ?_;simp only [go_sem]));((with_reducible and_intros)<;>try exact sd))
 exact ret _ _ (by omega)
theorem markMemoryW (h0:Yn.n=0) (m:Mm) (hv1:m.vals.length≤1048576) (hv2:m.arrays.length≤1048576) (hv3:∀ x ∈ m.arrays,x.length≤1048576) (k:Int) (hk:0≤k) (hb:k+(m.vals.length+(m.arrays.map List.length).sum:Nat)≤1099511627776):DW Try.prog 50 [.agg (cnM m),DI .i64 k] (fun n=>n=k+(m.vals.length+(m.arrays.map List.length).sum:Nat)):=by
 have hmx:=mx_eq
 obtain ⟨va,arr⟩:=m
 simp only [cnP,cnM,cnI] at *
 have hws:∀ c ∈ ([.isl 1 (va.map fun _=>[C.num .i64]),.isl 1 (arr.map fun a=>[cnI a])]:List C),Ws c:=by
  intro c hc
  simp only [List.mem_cons,List.not_mem_nil,or_false] at hc
  rcases hc with rfl | rfl
  ·exact .mm (cnI_mk va)
  ·exact .mm (cnIL_mk arr)
 have ret:∀ (n:Int) (hp:Hp),n=k+(va.length+(arr.map List.length).sum:Nat)→RetOb 0 (fun d h'=>(∃ n,d=DI .i64 n∧n=k+(va.length+(arr.map List.length).sum:Nat))∧h'=[]) (DI .i64 n) hp:=fun n hp h=>RetOb.plain ⟨⟨n,rfl,h⟩,rfl⟩ rfl
 refine dwZ h0 Try.func50 ?_
 generalize hR:(fun (d:D) (h':List (Option (List C)))=>(∃ n,d=DI .i64 n∧n=k+(va.length+(arr.map List.length).sum:Nat))∧h'=[])=R at ret ⊢
 clear hR
 simp only [go_sem]
 iterate 2 ((try (refine drvZW Try.func50 ?_;simp only [go_sem]));((with_reducible and_intros)<;>try exact sd))
 have hc0:=markIntSW h0 va hv1 (k) (by omega) (by omega)
 refine XK.wcall h0 [(2,.c (.ptr 0 0))] hc0 ok51 (hh1 hws hhL) (TL.cons rfl (.ptr _ _) TL.nil) ?_
 rintro _ rfl
 iterate 3 ((try (refine drvZW Try.func50 ?_;simp only [go_sem]));((with_reducible and_intros)<;>try exact sd))
 have hc1:=(fun k hk hb=>markIntSSW h0 arr hv2 k hk hb hv3) (k+(va.length:Nat)) (by omega) (by omega)
 refine XK.wcall h0 [(2,.c (.ptr 0 0))] hc1 ok106 (hh1 hws hhL) (TL.cons rfl (.ptr _ _) TL.nil) ?_
 rintro _ rfl
 iterate 3 ((try (refine drvZW Try.func50 ?_;simp only [go_sem]));((with_reducible and_intros)<;>try exact sd))
 exact ret _ _ (by omega)
def mkI (k:Int) (n:Nat):List Int:=(List.range n).map fun (i:Nat)=>k+(i:Int)
theorem mkI_len (k:Int) (n:Nat):(mkI k n).length=n:=by simp [mkI]
theorem mkI_succ (k:Int) (n:Nat):mkI k (n+1)=mkI k n++[k+(n:Int)]:=by simp [mkI,List.range_succ]
theorem set_next {α:Type} {A l:List α} {i:Nat} (hA:A.length=i) (h:i<l.length) (y:α):(A++l.drop i).set i y=A++[y]++l.drop (i+1):=by
 rw [List.drop_eq_getElem_cons h]
 generalize l[i]=z
 subst hA
 rw [List.set_append_right _ _ (Nat.le_refl _)]
 simp
def intsC (l:List Int):List C:=l.map I64
theorem intsC_len (l:List Int):(intsC l).length=l.length:=by simp [intsC]
theorem intsC_kf (l:List Int):∀ c ∈ intsC l,kf c=true:=fun c hc=>by obtain ⟨x,_,rfl⟩:=List.mem_map.1 hc;rfl
theorem markIntSO (l:List Int) (k:Int) (hk:0≤k) (hb:k+(l.length:Nat)≤1099511627776):DC Try.prog 51 [.c (.msl 0 1 0 l.length),DI .i64 k] [some (intsC l)] (fun r h=>r=DI .i64 (k+(l.length:Nat))∧h=[some (intsC (mkI k l.length))]):=by
 have hmx:=mx_eq
 have ret:∀ (n:Int) (cs:List C) (hp:Hp),n=k+(l.length:Nat)→hp 0=some (some cs)→cs=intsC (mkI k l.length)→RetOb 1 (fun r h=>r=DI .i64 (k+(l.length:Nat))∧h=[some (intsC (mkI k l.length))]) (DI .i64 n) hp:=fun n cs hp h1 h2 h3=>by
  subst h1 h3
  refine RetOb.ofQ (fun j=>if j=0 then some 0 else none) [] _ [some (intsC (mkI k l.length))] ?_ ⟨rfl,rfl⟩ (by simp)
  have e4:∀ {hT hS:Hp} {r:Nat→Option Nat} {fz:List Nat},CMs hT r hS fz (intsC (mkI k l.length)) (intsC (mkI k l.length))=True:=eq_true (CMs.kf (intsC_kf _))
  simp [enumL,DM,DMs,CM,CMs,HpOK,LowOK,hOf,upd,h2,e4]
 generalize hR:(fun (r:D) (h:List (Option (List C)))=>r=DI .i64 (k+(l.length:Nat))∧h=[some (intsC (mkI k l.length))])=R at ret ⊢
 clear hR
 have hcl:=intsC_len l
 refine dcZ Try.func51 ?_
 simp only [go_sem]
 iterate 3 ((try (refine drvZ Try.func51 ?_;simp only [go_sem]));((with_reducible and_intros)<;>try exact sd))
 refine Go.loopQ (fun i:Nat=>[(0,.c (.msl 0 1 0 l.length)),(1,DI .i64 (k+(i:Int))),(5,DI .i64 i)]) (fun i=>[(0,some (intsC (mkI k i++l.drop i)))]) 1024 (fun i=>i≤l.length) (fun i=>l.length - i) ?_ 0 some [] _ (by omega) ?_
 ·intro i hi again
  have hci:(intsC (mkI k i++l.drop i)).length=l.length:=by rw [intsC_len,List.length_append,mkI_len,List.length_drop];omega
  rcases Nat.lt_or_ge i l.length with hlt | hge
  ·have hst:(intsC (mkI k i++l.drop i)).set i (.v (.int .i64 (k+(i:Int))))=intsC (mkI k (i+1)++l.drop (i+1)):=by
    rw [mkI_succ,← set_next (mkI_len k i) hlt]
    simp [intsC,List.map_set]
   have h3:(0:Int)≤k+(i:Int):=by omega
   generalize intsC (mkI k i++l.drop i)=B at *
   refine drvL Try.func51 ?_
   simp only [go_sem,hlt,hci,h3]
   iterate 4 ((try (refine drvZ Try.func51 ?_;simp only [go_sem,hlt,hci,h3,Nat.mul_one]));((with_reducible and_intros)<;>try exact sd))
   simp only [hst]
   refine again (i+1) some [] _ hlt (by omega) ?_
   simp only [go_sem,TmOK,DM,DMs,CM,CMs,forall_eq,exists_eq_left,Mq,HpOK,LowOK]
   exact ⟨by rw [Int.add_assoc],⟨by simp,CMs.kf (intsC_kf _)⟩,by simp⟩
  ·obtain rfl:i=l.length:=by omega
   have hn:¬ l.length<l.length:=by omega
   refine drvL Try.func51 ?_
   simp only [go_sem,hn]
   iterate 3 ((try (refine drvZ Try.func51 ?_;simp only [go_sem,hn]));((with_reducible and_intros)<;>try exact sd))
   exact ret _ _ _ rfl rfl (by rw [List.drop_length,List.append_nil])
 ·simp only [go_sem,TmOK,DM,DMs,CM,CMs,forall_eq,exists_eq_left,Mq,HpOK,LowOK]
  exact ⟨⟨by simp,CMs.kf (intsC_kf l)⟩,by simp⟩
theorem heldIntSP (k:Int) (n:Nat) (hk:0≤k) (hb:k+(n:Nat)≤1099511627776) (hn:n≤mx):DC Try.prog 52 [.c (.isl 1 ((mkI k n).map fun b=>[I64 b])),DI .i64 k] [] (fun r h=>r=DI .i64 (k+(n:Nat))∧h=[]):=by
 have hmx:=mx_eq
 have ret:∀ (v:Int) (hp:Hp),v=k+(n:Nat)→RetOb 0 (fun r h=>r=DI .i64 (k+(n:Nat))∧h=[]) (DI .i64 v) hp:=fun v hp h=>by subst h;exact RetOb.plain ⟨rfl,rfl⟩ rfl
 generalize hR:(fun (r:D) (h:List (Option (List C)))=>r=DI .i64 (k+(n:Nat))∧h=[])=R at ret ⊢
 clear hR
 have hrl:((mkI k n).map fun b=>[I64 b]).length=n:=by simp [mkI_len]
 refine dcZ Try.func52 ?_
 simp only [go_sem,hrl]
 iterate 3 ((try (refine drvZ Try.func52 ?_;simp only [go_sem,hrl]));((with_reducible and_intros)<;>try exact sd))
 refine Go.loopQ (fun i:Nat=>[(0,.c (.isl 1 ((mkI k n).map fun b=>[I64 b]))),(1,DI .i64 (k+(i:Int))),(5,DI .i64 i)]) (fun _=>[]) 1024 (fun i=>i≤n) (fun i=>n - i) ?_ 0 some [] _ (by omega) ?_
 ·intro i hi again
  rcases Nat.lt_or_ge i n with hlt | hge
  ·have hxl:((mkI k n).map fun b=>[I64 b])[i]? = some [I64 (k+(i:Int))]:=by simp [mkI,hlt]
   have h3:(0:Int)≤k+(i:Int):=by omega
   generalize ((mkI k n).map fun b=>[I64 b])=rows at *
   refine drvL Try.func52 ?_
   simp only [go_sem,hrl,hlt,hxl,h3,bne_self_eq_false]
   iterate 5 ((try (refine drvZ Try.func52 ?_;simp only [go_sem,hrl,hlt,hxl,h3,bne_self_eq_false]));((with_reducible and_intros)<;>try exact sd))
   refine again (i+1) some [] _ hlt (by omega) ?_
   simp only [go_sem,TmOK,DM,DMs,CM,CMs,forall_eq,exists_eq_left,Mq,HpOK,LowOK]
   simp
   omega
  ·obtain rfl:n=i:=by omega
   have hnn:¬ n<n:=by omega
   generalize ((mkI k n).map fun b=>[I64 b])=rows at *
   refine drvL Try.func52 ?_
   simp only [go_sem,hrl,hnn]
   iterate 3 ((try (refine drvZ Try.func52 ?_;simp only [go_sem,hrl,hnn]));((with_reducible and_intros)<;>try exact sd))
   exact ret _ _ rfl
 ·simp only [go_sem,TmOK,DM,DMs,CM,CMs,forall_eq,exists_eq_left,Mq,HpOK,LowOK]
  all_goals simp
theorem ML.nil {hT:Hp} {tm:Nat→Option D}:∀ p ∈ ([]:List (Nat × D)),∃ d,tm p.1=some d∧SmD hT d p.2:=fun p h=>by simp at h
theorem ML.cons {hT:Hp} {tm:Nat→Option D} {n:Nat} {d0 d:D} {l:List (Nat × D)} (h1:tm n=some d0) (h2:SmD hT d0 d) (h:∀ p ∈ l,∃ d,tm p.1=some d∧SmD hT d p.2):∀ p ∈ (n,d) :: l,∃ d,tm p.1=some d∧SmD hT d p.2:=fun p hp=>by
 rcases List.mem_cons.1 hp with rfl | hp
 ·exact ⟨d0,h1,h2⟩
 ·exact h p hp
theorem HL.nil {hT hp:Hp}:∀ p ∈ ([]:List (Nat × Option (List C))),∃ cs cs',hp p.1=some (some cs)∧p.2=some cs'∧Sms hT cs cs':=fun p h=>by simp at h
theorem HL.cons {hT hp : Hp} {n : Nat} {cs0 cs1 : List C} {l : List (Nat × Option (List C))} (h1 : hp n = some (some cs0)) (h2 : Sms hT cs0 cs1) (h : ∀ p ∈ l, ∃ cs cs', hp p.1 = some (some cs) ∧ p.2 = some cs' ∧ Sms hT cs cs') :
 ∀ p ∈ (n,some cs1) :: l,∃ cs cs',hp p.1=some (some cs)∧p.2=some cs'∧Sms hT cs cs':=fun p hp=>by
 rcases List.mem_cons.1 hp with rfl | hp
 ·exact ⟨cs0,cs1,h1,rfl,h2⟩
 ·exact h p hp
theorem ctE_le : ∀ (n : Nat) (e : Ex), SizeOf.sizeOf e ≤ n → ctE e ≤ 7 * szE e
 | 0,.mk k v ks,h=>by simp at h
 | n+1,.mk k v ks,h=>by
  have key:∀ l:List Ex,(∀ x ∈ l,SizeOf.sizeOf x≤n)→ctEL l≤7 * szEL l:=fun l=>by
   induction l with
   | nil=>intro _;simp [ctEL,szEL]
   | cons a r ih =>
    intro hx
    have h1:=ctE_le n a (hx a (by simp))
    have h2:=ih fun x hx'=>hx x (by simp [hx'])
    simp only [ctEL,szEL];omega
  simp only [ctE,szE]
  exact key ks fun x hx=>by have:=List.sizeOf_lt_of_mem hx;simp only [Ex.mk.sizeOf_spec] at h;omega
theorem ctS_le : ∀ (n : Nat) (s : St1), SizeOf.sizeOf s ≤ n → ctS s ≤ 7 * szS s
 | 0,.mk k t ix v c b e,h=>by simp at h
 | n+1,.mk k t ix v c b e,h=>by
  have key:∀ l:List St1,(∀ x ∈ l,SizeOf.sizeOf x≤n)→ctSL l≤7 * szSL l:=fun l=>by
   induction l with
   | nil=>intro _;simp [ctSL,szSL]
   | cons a r ih =>
    intro hx
    have h1:=ctS_le n a (hx a (by simp))
    have h2:=ih fun x hx'=>hx x (by simp [hx'])
    simp only [ctSL,szSL];omega
  simp only [St1.mk.sizeOf_spec] at h
  have h1:=ctE_le _ ix (Nat.le_refl _)
  have h2:=ctE_le _ v (Nat.le_refl _)
  have h3:=key b fun x hx=>by have:=List.sizeOf_lt_of_mem hx;omega
  have h4:=key e fun x hx=>by have:=List.sizeOf_lt_of_mem hx;omega
  simp only [ctS,szS];omega
theorem ctSL_le : ∀ l : List St1, ctSL l ≤ 7 * szSL l
 | []=>by simp [ctSL,szSL]
 | a :: r=>by
  have h1:=ctS_le _ a (Nat.le_refl _)
  have h2:=ctSL_le r
  simp only [ctSL,szSL];omega
omit [Yn] in
theorem markP1 (p:Pg) (hp:PgN p) (hs:szP p≤1048576) : @DW ⟨0⟩ Try.prog 28 [.agg (cnP p),DI .i64 1] (fun n=>0≤n∧n≤100000000):=by
 letI:Yn:=⟨0⟩
 have h4:=ctSL_le p.body
 unfold szP at hs
 exact (markProgramW rfl p hp.nv hp.na hp.nb hp.st 1 (by omega) (by omega)).imp fun n e=>⟨by omega,by omega⟩
theorem ints_od {hT:Hp} (L:List Int):∀ c ∈ L.map I64,Od hT c:=fun c hc=>by obtain ⟨b,_,rfl⟩:=List.mem_map.1 hc;exact .v _
theorem I_ren (r:Nat→Nat) (L:List Int):renCs r (L.map I64)=L.map I64:=renCs_I r L
theorem markM1 (m:Mm) (hm:MmN m) (hs:szM m≤1048576) (k:Int) (hk:0≤k∧k≤100000000) : @DW ⟨0⟩ Try.prog 50 [.agg (cnM m),DI .i64 k] (fun n=>0≤n∧n≤200000000):=by
 letI:Yn:=⟨0⟩
 have h4:(m.arrays.map List.length).sum≤szIL m.arrays:=by
  generalize m.arrays=l
  induction l with
  | nil=>simp [szIL]
  | cons a r ih=>simp only [List.map_cons,List.sum_cons,szIL];omega
 unfold szM at hs
 exact (markMemoryW rfl m hm.nv hm.na hm.ar k hk.1 (by omega)).imp fun n e=>⟨by omega,by omega⟩
def mkEv (k:Int) (n:Nat):List Ev:=(List.range n).map fun (i:Nat)=>(⟨k+2 * (i:Int),k+2 * (i:Int)+1⟩:Ev)
theorem mkEv_len (k:Int) (n:Nat):(mkEv k n).length=n:=by simp [mkEv]
theorem mkEv_succ (k:Int) (n:Nat):mkEv k (n+1)=mkEv k n++[(⟨k+2 * (n:Int),k+2 * (n:Int)+1⟩:Ev)]:=by simp [mkEv,List.range_succ]
theorem trC_mkEv (k:Int) (i:Nat):(trC (mkEv k i)).length=i * 2:=by rw [trC_len,mkEv_len]
theorem trC_set {k:Int} {i:Nat} {l:List Ev} (h:i<l.length):((trC (mkEv k i++l.drop i)).set (i * 2) (I64 (k+2 * (i:Int)))).set (i * 2+1) (I64 (k+2 * (i:Int)+1))=trC (mkEv k (i+1)++l.drop (i+1)):=by
 rw [mkEv_succ,List.drop_eq_getElem_cons h,trC_app,trC_app,trC_app]
 have h2:=trC_mkEv k i
 have h3:trC (l[i] :: l.drop (i+1))=I64 l[i].kind :: I64 l[i].value :: trC (l.drop (i+1)):=rfl
 have h4:trC [(⟨k+2 * (i:Int),k+2 * (i:Int)+1⟩:Ev)]=[I64 (k+2 * (i:Int)),I64 (k+2 * (i:Int)+1)]:=rfl
 rw [h3,h4]
 generalize trC (mkEv k i)=A at *
 generalize trC (l.drop (i+1))=B
 rw [← h2,List.set_append_right _ _ (Nat.le_refl _),List.set_append_right _ _ (by omega)]
 simp
theorem eqEventT (k v:Int):DC Try.prog 126 [.agg [I64 k,I64 v],.agg [I64 k,I64 v]] [] (fun r h=>r=DB true∧h=[]):=by
 have ret:∀ hp:Hp,RetOb 0 (fun r h=>r=DB true∧h=[]) (DB true) hp:=fun hp=>RetOb.plain (d:=DB true) ⟨rfl,rfl⟩ rfl
 generalize hR:(fun (r:D) (h:List (Option (List C)))=>r=DB true∧h=[])=R at ret ⊢
 clear hR
 refine dcZ Try.func126 ?_
 simp only [go_sem,bne_self_eq_false]
 iterate 10 ((try (refine drvZ Try.func126 ?_;simp only [go_sem,bne_self_eq_false]));((with_reducible and_intros)<;>try exact sd))
 exact ret _
theorem eqEventST (l:List Ev) (hl:l.length≤mx):DC Try.prog 62 [.c (trD l),.c (trD l)] [] (fun r h=>r=DB true∧h=[]):=by
 have hmx:=mx_eq
 have ret:∀ hp:Hp,RetOb 0 (fun r h=>r=DB true∧h=[]) (DB true) hp:=fun hp=>RetOb.plain (d:=DB true) ⟨rfl,rfl⟩ rfl
 generalize hR:(fun (r:D) (h:List (Option (List C)))=>r=DB true∧h=[])=R at ret ⊢
 clear hR
 have hrl:(l.map Ev.cells).length=l.length:=by simp
 unfold trD
 refine dcZ Try.func62 ?_
 simp only [go_sem,hrl,bne_self_eq_false]
 iterate 4 ((try (refine drvZ Try.func62 ?_;simp only [go_sem,hrl,bne_self_eq_false]));((with_reducible and_intros)<;>try exact sd))
 refine Go.loopQ (fun i:Nat=>[(0,.c (.isl 2 (l.map Ev.cells))),(1,.c (.isl 2 (l.map Ev.cells))),(5,DI .i64 i)]) (fun _=>[]) 1024 (fun i=>i≤l.length) (fun i=>l.length - i) ?_ 0 some [] _ (by omega) ?_
 ·intro i hi again
  rcases Nat.lt_or_ge i l.length with hlt | hge
  ·obtain ⟨x,hx⟩:∃ x,l[i]? = some x:=⟨l[i],by simp [hlt]⟩
   obtain ⟨x1,x2⟩:=x
   have hxl:(l.map Ev.cells)[i]? = some [I64 x1,I64 x2]:=by rw [List.getElem?_map,hx];rfl
   have hcx:=eqEventT x1 x2
   generalize hRW:(l.map Ev.cells)=rows at *
   refine drvL Try.func62 ?_
   simp only [go_sem,hrl,hlt,hxl,bne_self_eq_false]
   iterate 6 ((try (refine drvZ Try.func62 ?_;simp only [go_sem,hrl,hlt,hxl,bne_self_eq_false]));((with_reducible and_intros)<;>try exact sd);(try first | refine XK.p hcx ok126 ?_ | refine XK.gp hcx ok126 ?_))
   refine again (i+1) some [] _ hlt (by omega) ?_
   simp only [go_sem,TmOK,DM,DMs,CM,CMs,forall_eq,exists_eq_left,Mq,HpOK,LowOK]
   try simp
  ·have hn:¬ i<l.length:=by omega
   generalize hRW:(l.map Ev.cells)=rows at *
   refine drvL Try.func62 ?_
   simp only [go_sem,hrl,hn]
   iterate 3 ((try (refine drvZ Try.func62 ?_;simp only [go_sem,hrl,hn]));((with_reducible and_intros)<;>try exact sd))
   exact ret _
 ·simp only [go_sem,TmOK,DM,DMs,CM,CMs,forall_eq,exists_eq_left,Mq,HpOK,LowOK]
  try simp
theorem markEventSO (l:List Ev) (k:Int) (hk:0≤k) (hb:k+2 * (l.length:Nat)≤1099511627776):DC Try.prog 63 [.c (.msl 0 2 0 l.length),DI .i64 k] [some (trC l)] (fun r h=>r=DI .i64 (k+2 * (l.length:Nat))∧h=[some (trC (mkEv k l.length))]):=by
 have hmx:=mx_eq
 have ret:∀ (n:Int) (cs:List C) (hp:Hp),n=k+2 * (l.length:Nat)→hp 0=some (some cs)→cs=trC (mkEv k l.length)→RetOb 1 (fun r h=>r=DI .i64 (k+2 * (l.length:Nat))∧h=[some (trC (mkEv k l.length))]) (DI .i64 n) hp:=fun n cs hp h1 h2 h3=>by
  subst h1 h3
  refine RetOb.ofQ (fun j=>if j=0 then some 0 else none) [] _ [some (trC (mkEv k l.length))] ?_ ⟨rfl,rfl⟩ (by simp)
  have e4:∀ {hT hS:Hp} {r:Nat→Option Nat} {fz:List Nat},CMs hT r hS fz (trC (mkEv k l.length)) (trC (mkEv k l.length))=True:=eq_true (CMs.kf (trC_kf _))
  simp [enumL,DM,DMs,CM,CMs,HpOK,LowOK,hOf,upd,h2,e4]
 generalize hR:(fun (r:D) (h:List (Option (List C)))=>r=DI .i64 (k+2 * (l.length:Nat))∧h=[some (trC (mkEv k l.length))])=R at ret ⊢
 clear hR
 have hcl:=trC_len l
 refine dcZ Try.func63 ?_
 simp only [go_sem]
 iterate 3 ((try (refine drvZ Try.func63 ?_;simp only [go_sem]));((with_reducible and_intros)<;>try exact sd))
 refine Go.loopQ (fun i:Nat=>[(0,.c (.msl 0 2 0 l.length)),(1,DI .i64 (k+2 * (i:Int))),(5,DI .i64 i)]) (fun i=>[(0,some (trC (mkEv k i++l.drop i)))]) 1024 (fun i=>i≤l.length) (fun i=>l.length - i) ?_ 0 some [] _ (by omega) ?_
 ·intro i hi again
  have hci:(trC (mkEv k i++l.drop i)).length=l.length * 2:=by rw [trC_len,List.length_append,mkEv_len,List.length_drop];omega
  rcases Nat.lt_or_ge i l.length with hlt | hge
  ·have hst:=trC_set (k:=k) hlt
   have h3:(0:Int)≤k+2 * (i:Int):=by omega
   have hc1:i * 2<l.length * 2:=by omega
   have hc2:i * 2+1<l.length * 2:=by omega
   generalize trC (mkEv k i++l.drop i)=B at *
   refine drvL Try.func63 ?_
   simp only [go_sem,hlt,hci,h3,hc1,hc2]
   iterate 6 ((try (refine drvZ Try.func63 ?_;simp only [go_sem,hlt,hci,h3,hc1,hc2,List.length_set]));((with_reducible and_intros)<;>try exact sd))
   simp only [hst]
   refine again (i+1) some [] _ hlt (by omega) ?_
   simp only [go_sem,TmOK,DM,DMs,CM,CMs,forall_eq,exists_eq_left,Mq,HpOK,LowOK]
   exact ⟨by congr 1;omega,⟨by simp,CMs.kf (trC_kf _)⟩,by simp⟩
  ·obtain rfl:i=l.length:=by omega
   have hn:¬ l.length<l.length:=by omega
   refine drvL Try.func63 ?_
   simp only [go_sem,hn]
   iterate 3 ((try (refine drvZ Try.func63 ?_;simp only [go_sem,hn]));((with_reducible and_intros)<;>try exact sd))
   exact ret _ _ _ rfl rfl (by rw [List.drop_length,List.append_nil])
 ·simp only [go_sem,TmOK,DM,DMs,CM,CMs,forall_eq,exists_eq_left,Mq,HpOK,LowOK]
  exact ⟨⟨by simp,CMs.kf (trC_kf l)⟩,by simp⟩
theorem heldEventSP (k:Int) (n:Nat) (hk:0≤k) (hb:k+2 * (n:Nat)≤1099511627776) (hn:n≤mx):DC Try.prog 65 [.c (trD (mkEv k n)),DI .i64 k] [] (fun r h=>r=DI .i64 (k+2 * (n:Nat))∧h=[]):=by
 have hmx:=mx_eq
 have ret:∀ (v:Int) (hp:Hp),v=k+2 * (n:Nat)→RetOb 0 (fun r h=>r=DI .i64 (k+2 * (n:Nat))∧h=[]) (DI .i64 v) hp:=fun v hp h=>by subst h;exact RetOb.plain ⟨rfl,rfl⟩ rfl
 generalize hR:(fun (r:D) (h:List (Option (List C)))=>r=DI .i64 (k+2 * (n:Nat))∧h=[])=R at ret ⊢
 clear hR
 have hrl:((mkEv k n).map Ev.cells).length=n:=by simp [mkEv_len]
 unfold trD
 refine dcZ Try.func65 ?_
 simp only [go_sem,hrl]
 iterate 3 ((try (refine drvZ Try.func65 ?_;simp only [go_sem,hrl]));((with_reducible and_intros)<;>try exact sd))
 refine Go.loopQ (fun i:Nat=>[(0,.c (.isl 2 ((mkEv k n).map Ev.cells))),(1,DI .i64 (k+2 * (i:Int))),(5,DI .i64 i)]) (fun _=>[]) 1024 (fun i=>i≤n) (fun i=>n - i) ?_ 0 some [] _ (by omega) ?_
 ·intro i hi again
  rcases Nat.lt_or_ge i n with hlt | hge
  ·have hxl:((mkEv k n).map Ev.cells)[i]? = some [I64 (k+2 * (i:Int)),I64 (k+2 * (i:Int)+1)]:=by simp [mkEv,hlt,Ev.cells]
   have h3:(0:Int)≤k+2 * (i:Int):=by omega
   generalize ((mkEv k n).map Ev.cells)=rows at *
   refine drvL Try.func65 ?_
   simp only [go_sem,hrl,hlt,hxl,h3,bne_self_eq_false]
   iterate 6 ((try (refine drvZ Try.func65 ?_;simp only [go_sem,hrl,hlt,hxl,h3,bne_self_eq_false]));((with_reducible and_intros)<;>try exact sd))
   refine again (i+1) some [] _ hlt (by omega) ?_
   simp only [go_sem,TmOK,DM,DMs,CM,CMs,forall_eq,exists_eq_left,Mq,HpOK,LowOK]
   simp
   omega
  ·obtain rfl:n=i:=by omega
   have hnn:¬ n<n:=by omega
   generalize ((mkEv k n).map Ev.cells)=rows at *
   refine drvL Try.func65 ?_
   simp only [go_sem,hrl,hnn]
   iterate 3 ((try (refine drvZ Try.func65 ?_;simp only [go_sem,hrl,hnn]));((with_reducible and_intros)<;>try exact sd))
   exact ret _ _ rfl
 ·simp only [go_sem,TmOK,DM,DMs,CM,CMs,forall_eq,exists_eq_left,Mq,HpOK,LowOK]
  all_goals simp
end Go.Proofs.Ytddanjifhdaebaa.CtD
