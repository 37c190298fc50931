/- Contracts of functions of the program, one behind the other, as plain data: what each call returns and which blocks it leaves. -/
import Derived.Test.YtmjkgjkkpaephaaGreatXFacts
import Derived.Test.YtmjkgjkkpaephaaGreatXAi
import Derived.Test.YtmjkgjkkpaephaaGreatXAj
import Derived.Test.YtmjkgjkkpaephaaGreatXAl
import Derived.Test.YtmjkgjkkpaephaaGreatXAm
import Derived.Test.YtmjkgjkkpaephaaGreatXAs
import Derived.Test.YtmjkgjkkpaephaaGreatXAv
import Derived.Test.YtmjkgjkkpaephaaGreatXAk
import Derived.Test.YtmjkgjkkpaephaaGreatXAw
set_option linter.unusedVariables false
set_option linter.unusedSimpArgs false
set_option maxHeartbeats 16000000
set_option maxRecDepth 100000
namespace Go.Proofs.YtmjkgjkkpaephaaGreat.CtD
open Go Go.CT CtF CtR
theorem toIntST (l:List (Int)) (hl:l.length≤1048576)  : DC Tryz.prog 35 [.c (.isl 1 ((l.map fun n=>[I64 n])))] [] (fun r h=>r = .c (.isl 1 ((l.map fun n=>[I64 n])))∧h=[]):=by
 have hmx:=mx_eq
 have hrl:((l.map fun n=>[I64 n])).length=l.length:=by simp [List.length_map]
 have hrw:∀ x ∈ ((l.map fun n=>[I64 n])),x.length=1:=fun x hx=>by obtain ⟨e,_,rfl⟩:=List.mem_map.1 hx;rfl
 have hrk:∀ x ∈ ((l.map fun n=>[I64 n])),∀ c ∈ x,kf c=true:=fun x hx c hc=>by obtain ⟨e,_,rfl⟩:=List.mem_map.1 hx;simp only [List.mem_singleton] at hc;subst hc;rfl
 have ret:∀ (k n:Nat) (cs:List C) (hp:Hp),hp k=some (some cs)→cs=((l.map fun n=>[I64 n])).flatten→n=l.length→RetOb 0 (fun r h=>r = .c (.isl 1 ((l.map fun n=>[I64 n])))∧h=[]) (.c (.msl k 1 0 n)) hp:=fun k n cs hp h1 h2 h3=>RetOb.frozen (xs:=(l.map fun n=>[I64 n])) ⟨rfl,rfl⟩ (by rw [h1,h2]) (by rw [h3,hrl]) hrw hrk
 generalize hR:(fun (r:D) (h:List (Option (List C)))=>r = .c (.isl 1 ((l.map fun n=>[I64 n])))∧h=[])=R at ret ⊢
 clear hR
 have hrx:∀ (i:Nat) x,l[i]? = some x→True:=fun _ _ _=>trivial
 have flr:∀ i,i≤l.length→((((l.map fun n=>[I64 n])).take i).flatten).length=i * 1:=fun i hi=>by
  have:=List.length_flatten (L:=((l.map fun n=>[I64 n])).take i)
  rw [this,show ((((l.map fun n=>[I64 n])).take i).map List.length)=List.replicate i 1 from List.eq_replicate_iff.2 ⟨by simp [hrl];omega,fun b hb=>by obtain ⟨x,hx,rfl⟩:=List.mem_map.1 hb;exact hrw x (List.mem_of_mem_take hx)⟩]
  simp
 have hzk:∀ c ∈ ([I64 0]:List C),kf c=true:=by simp [kf]
 have hbk0:∀ c ∈ (List.replicate l.length ([I64 0]:List C)).flatten,kf c=true:=fun c hc=>by
  obtain ⟨y,hy,h2⟩:=List.mem_flatten.1 hc
  rw [List.eq_of_mem_replicate hy] at h2
  exact hzk c h2
 refine dcZ Tryz.func35 ?_
 simp only [go_sem,hrl]
 iterate 4 ((try (refine drvZ Tryz.func35 ?_;simp only [go_sem,hrl]));((with_reducible and_intros)<;>try exact sd))
 refine Go.loopQ (fun i:Nat=>[(0,.c (.isl 1 ((l.map fun n=>[I64 n])))),(3,.c (.msl 192 1 0 l.length)),(4,DI .i64 i)]) (fun i=>[(192,some ((((l.map fun n=>[I64 n])).take i).flatten++(List.replicate (l.length - i) [I64 0]).flatten))]) 1024 (fun i=>i≤l.length) (fun i=>l.length - i) ?_ 0 some [] _ (by omega) ?_
 ·intro i hi again
  rcases Nat.lt_or_ge i l.length with hlt | hge
  ·obtain ⟨x,hx⟩:∃ x,l[i]? = some x:=⟨l[i],by simp [hlt]⟩
   have hxl:((l.map fun n=>[I64 n]))[i]? = some [I64 x]:=by rw [List.getElem?_map,hx];rfl
   have hput:=put_row (rows:=((l.map fun n=>[I64 n])).take i) (zs:=[I64 0]) (ds:=[I64 x]) (m:=l.length - (i+1)) (k:=1) (i:=i) rfl rfl (flr i hi)
   rw [show l.length - (i+1)+1=l.length - i by omega,← (show ((l.map fun n=>[I64 n])).take (i+1)=((l.map fun n=>[I64 n])).take i++[[I64 x]] by rw [List.take_succ_eq_append_getElem (by rw [hrl];exact hlt)];congr 2;exact (List.getElem?_eq_some_iff.1 hxl).2)] at hput
   have hbl:((((l.map fun n=>[I64 n])).take i).flatten++(List.replicate (l.length - i) [I64 0]).flatten).length=l.length * 1:=by
    rw [List.length_append,flr i hi]
    have:((List.replicate (l.length - i) ([I64 0]:List C)).flatten).length=(l.length - i) * 1:=by simp
    rw [this];omega
   have hbk:∀ c ∈ (((l.map fun n=>[I64 n])).take (i+1)).flatten++(List.replicate (l.length - (i+1)) ([I64 0]:List C)).flatten,kf c=true:=fun c hc=>by
    rcases List.mem_append.1 hc with h1 | h1
    ·obtain ⟨y,hy,h2⟩:=List.mem_flatten.1 h1
     exact hrk y (List.mem_of_mem_take hy) c h2
    ·obtain ⟨y,hy,h2⟩:=List.mem_flatten.1 h1
     rw [List.eq_of_mem_replicate hy] at h2
     exact hzk c h2
   generalize hB1:(((l.map fun n=>[I64 n])).take i).flatten++(List.replicate (l.length - i) ([I64 0]:List C)).flatten=B1 at *
   generalize hB2:(((l.map fun n=>[I64 n])).take (i+1)).flatten++(List.replicate (l.length - (i+1)) ([I64 0]:List C)).flatten=B2 at *
   generalize hRW:(l.map fun n=>[I64 n])=rows at *
   refine drvL Tryz.func35 ?_
   simp only [go_sem,hrl,hlt,hxl]
   iterate 6 ((try (refine drvZ Tryz.func35 ?_;simp only [go_sem,hrl,hlt,hxl,hput]));((with_reducible and_intros)<;>try exact sd))
   simp only [putCells,Nat.mul_one,isI] at hput
   refine again (i+1) some [] _ hlt (by omega) ?_
   simp only [go_sem,TmOK,DM,DMs,CM,CMs,forall_eq,exists_eq_left,Mq,HpOK,LowOK,hput,hRW,hB2]
   exact ⟨⟨by simp,CMs.kf hbk⟩,by simp⟩
  ·obtain rfl:i=l.length:=by omega
   have hn:¬ l.length<l.length:=by omega
   have he:(((l.map fun n=>[I64 n])).take l.length).flatten++(List.replicate (l.length - l.length) ([I64 0]:List C)).flatten=((l.map fun n=>[I64 n])).flatten:=by
    rw [List.take_of_length_le (by rw [hrl];exact Nat.le_refl _),Nat.sub_self];simp
   generalize hB1:(((l.map fun n=>[I64 n])).take l.length).flatten++(List.replicate (l.length - l.length) ([I64 0]:List C)).flatten=B1 at *
   generalize hRW:(l.map fun n=>[I64 n])=rows at *
   refine drvL Tryz.func35 ?_
   simp only [go_sem,hrl,hn]
   iterate 3 ((try (refine drvZ Tryz.func35 ?_;simp only [go_sem,hrl,hn]));((with_reducible and_intros)<;>try exact sd))
   exact ret _ _ _ _ rfl he rfl
 ·simp only [go_sem,TmOK,DM,DMs,CM,CMs,forall_eq,exists_eq_left,Mq,HpOK,LowOK]
  refine ⟨⟨by simp,?_⟩,by simp⟩
  have e0:([]:List (List C)).flatten++(List.replicate l.length ([I64 0]:List C)).flatten=(List.replicate l.length ([I64 0]:List C)).flatten:=rfl
  exact CMs.kf hbk0
theorem toIntSSOf (l:List (List Int)) (hl:l.length≤1048576) (hc:∀ x ∈ l,DC Tryz.prog 35 [.c (isI x)] [] (fun r h=>r = .c (isI x)∧h=[])):DC Tryz.prog 37 [.c (.isl 1 ((l.map fun a=>[isI a])))] [] (fun r h=>r = .c (.isl 1 ((l.map fun a=>[isI a])))∧h=[]):=by
 have hmx:=mx_eq
 have hrl:((l.map fun a=>[isI a])).length=l.length:=by simp [List.length_map]
 have hrw:∀ x ∈ ((l.map fun a=>[isI a])),x.length=1:=fun x hx=>by obtain ⟨e,_,rfl⟩:=List.mem_map.1 hx;rfl
 have hrk:∀ x ∈ ((l.map fun a=>[isI a])),∀ c ∈ x,kf c=true:=fun x hx c hc=>by obtain ⟨e,_,rfl⟩:=List.mem_map.1 hx;simp only [List.mem_singleton] at hc;subst hc;rfl
 have ret:∀ (k n:Nat) (cs:List C) (hp:Hp),hp k=some (some cs)→cs=((l.map fun a=>[isI a])).flatten→n=l.length→RetOb 0 (fun r h=>r = .c (.isl 1 ((l.map fun a=>[isI a])))∧h=[]) (.c (.msl k 1 0 n)) hp:=fun k n cs hp h1 h2 h3=>RetOb.frozen (xs:=(l.map fun a=>[isI a])) ⟨rfl,rfl⟩ (by rw [h1,h2]) (by rw [h3,hrl]) hrw hrk
 generalize hR:(fun (r:D) (h:List (Option (List C)))=>r = .c (.isl 1 ((l.map fun a=>[isI a])))∧h=[])=R at ret ⊢
 clear hR
 have hrx:∀ (i:Nat) x,l[i]? = some x→True:=fun _ _ _=>trivial
 have flr:∀ i,i≤l.length→((((l.map fun a=>[isI a])).take i).flatten).length=i * 1:=fun i hi=>by
  have:=List.length_flatten (L:=((l.map fun a=>[isI a])).take i)
  rw [this,show ((((l.map fun a=>[isI a])).take i).map List.length)=List.replicate i 1 from List.eq_replicate_iff.2 ⟨by simp [hrl];omega,fun b hb=>by obtain ⟨x,hx,rfl⟩:=List.mem_map.1 hb;exact hrw x (List.mem_of_mem_take hx)⟩]
  simp
 have hzk:∀ c ∈ ([C.v (.slice none 0 0)]:List C),kf c=true:=by simp [kf]
 have hbk0:∀ c ∈ (List.replicate l.length ([C.v (.slice none 0 0)]:List C)).flatten,kf c=true:=fun c hc=>by
  obtain ⟨y,hy,h2⟩:=List.mem_flatten.1 hc
  rw [List.eq_of_mem_replicate hy] at h2
  exact hzk c h2
 refine dcZ Tryz.func37 ?_
 simp only [go_sem,hrl]
 iterate 4 ((try (refine drvZ Tryz.func37 ?_;simp only [go_sem,hrl]));((with_reducible and_intros)<;>try exact sd))
 refine Go.loopQ (fun i:Nat=>[(0,.c (.isl 1 ((l.map fun a=>[isI a])))),(3,.c (.msl 192 1 0 l.length)),(4,DI .i64 i)]) (fun i=>[(192,some ((((l.map fun a=>[isI a])).take i).flatten++(List.replicate (l.length - i) [C.v (.slice none 0 0)]).flatten))]) 1024 (fun i=>i≤l.length) (fun i=>l.length - i) ?_ 0 some [] _ (by omega) ?_
 ·intro i hi again
  rcases Nat.lt_or_ge i l.length with hlt | hge
  ·obtain ⟨x,hx⟩:∃ x,l[i]? = some x:=⟨l[i],by simp [hlt]⟩
   have hxl:((l.map fun a=>[isI a]))[i]? = some [isI x]:=by rw [List.getElem?_map,hx];rfl
   have hcx:=hc x (List.mem_of_getElem? hx)
   have hput:=put_row (rows:=((l.map fun a=>[isI a])).take i) (zs:=[C.v (.slice none 0 0)]) (ds:=[isI x]) (m:=l.length - (i+1)) (k:=1) (i:=i) rfl rfl (flr i hi)
   rw [show l.length - (i+1)+1=l.length - i by omega,← (show ((l.map fun a=>[isI a])).take (i+1)=((l.map fun a=>[isI a])).take i++[[isI x]] by rw [List.take_succ_eq_append_getElem (by rw [hrl];exact hlt)];congr 2;exact (List.getElem?_eq_some_iff.1 hxl).2)] at hput
   have hbl:((((l.map fun a=>[isI a])).take i).flatten++(List.replicate (l.length - i) [C.v (.slice none 0 0)]).flatten).length=l.length * 1:=by
    rw [List.length_append,flr i hi]
    have:((List.replicate (l.length - i) ([C.v (.slice none 0 0)]:List C)).flatten).length=(l.length - i) * 1:=by simp
    rw [this];omega
   have hbk:∀ c ∈ (((l.map fun a=>[isI a])).take (i+1)).flatten++(List.replicate (l.length - (i+1)) ([C.v (.slice none 0 0)]:List C)).flatten,kf c=true:=fun c hc=>by
    rcases List.mem_append.1 hc with h1 | h1
    ·obtain ⟨y,hy,h2⟩:=List.mem_flatten.1 h1
     exact hrk y (List.mem_of_mem_take hy) c h2
    ·obtain ⟨y,hy,h2⟩:=List.mem_flatten.1 h1
     rw [List.eq_of_mem_replicate hy] at h2
     exact hzk c h2
   generalize hB1:(((l.map fun a=>[isI a])).take i).flatten++(List.replicate (l.length - i) ([C.v (.slice none 0 0)]:List C)).flatten=B1 at *
   generalize hB2:(((l.map fun a=>[isI a])).take (i+1)).flatten++(List.replicate (l.length - (i+1)) ([C.v (.slice none 0 0)]:List C)).flatten=B2 at *
   generalize hRW:(l.map fun a=>[isI a])=rows at *
   refine drvL Tryz.func37 ?_
   simp only [go_sem,hrl,hlt,hxl]
   iterate 6 ((try (refine drvZ Tryz.func37 ?_;simp only [go_sem,hrl,hlt,hxl,hput]));((with_reducible and_intros)<;>try exact sd);(try first | refine XK.p hcx ok35 ?_ | refine XK.gp hcx ok35 ?_))
   simp only [putCells,Nat.mul_one,isI] at hput
   refine again (i+1) some [] _ hlt (by omega) ?_
   simp only [go_sem,TmOK,DM,DMs,CM,CMs,forall_eq,exists_eq_left,Mq,HpOK,LowOK,hput,hRW,hB2]
   exact ⟨⟨by simp,CMs.kf hbk⟩,by simp⟩
  ·obtain rfl:i=l.length:=by omega
   have hn:¬ l.length<l.length:=by omega
   have he:(((l.map fun a=>[isI a])).take l.length).flatten++(List.replicate (l.length - l.length) ([C.v (.slice none 0 0)]:List C)).flatten=((l.map fun a=>[isI a])).flatten:=by
    rw [List.take_of_length_le (by rw [hrl];exact Nat.le_refl _),Nat.sub_self];simp
   generalize hB1:(((l.map fun a=>[isI a])).take l.length).flatten++(List.replicate (l.length - l.length) ([C.v (.slice none 0 0)]:List C)).flatten=B1 at *
   generalize hRW:(l.map fun a=>[isI a])=rows at *
   refine drvL Tryz.func37 ?_
   simp only [go_sem,hrl,hn]
   iterate 3 ((try (refine drvZ Tryz.func37 ?_;simp only [go_sem,hrl,hn]));((with_reducible and_intros)<;>try exact sd))
   exact ret _ _ _ _ rfl he rfl
 ·simp only [go_sem,TmOK,DM,DMs,CM,CMs,forall_eq,exists_eq_left,Mq,HpOK,LowOK]
  refine ⟨⟨by simp,?_⟩,by simp⟩
  have e0:([]:List (List C)).flatten++(List.replicate l.length ([C.v (.slice none 0 0)]:List C)).flatten=(List.replicate l.length ([C.v (.slice none 0 0)]:List C)).flatten:=rfl
  exact CMs.kf hbk0
theorem toExprSOf (l:List (Ex)) (hl:l.length≤1048576) (hc:∀ x ∈ l,DC Tryz.prog 118 [.agg x.cells] [] (fun r h=>r = .agg x.cells∧h=[])):DC Tryz.prog 172 [.c (.isl 3 (Ex.cellsL l))] [] (fun r h=>r = .c (.isl 3 (Ex.cellsL l))∧h=[]):=by
 have hmx:=mx_eq
 have hrl:(Ex.cellsL l).length=l.length:=by simp [Ex.cellsL_length]
 have hrw:∀ x ∈ (Ex.cellsL l),x.length=3:=fun x hx=>by rw [Ex.cellsL_eq] at hx;obtain ⟨e,_,rfl⟩:=List.mem_map.1 hx;exact Ex.cells_len e
 have hrk:∀ x ∈ (Ex.cellsL l),∀ c ∈ x,kf c=true:=fun x hx=>by rw [Ex.cellsL_eq] at hx;obtain ⟨e,_,rfl⟩:=List.mem_map.1 hx;exact ex_kf e
 have ret:∀ (k n:Nat) (cs:List C) (hp:Hp),hp k=some (some cs)→cs=(Ex.cellsL l).flatten→n=l.length→RetOb 0 (fun r h=>r = .c (.isl 3 (Ex.cellsL l))∧h=[]) (.c (.msl k 3 0 n)) hp:=fun k n cs hp h1 h2 h3=>RetOb.frozen (xs:=Ex.cellsL l) ⟨rfl,rfl⟩ (by rw [h1,h2]) (by rw [h3,hrl]) hrw hrk
 generalize hR:(fun (r:D) (h:List (Option (List C)))=>r = .c (.isl 3 (Ex.cellsL l))∧h=[])=R at ret ⊢
 clear hR
 have hrx:∀ (i:Nat) x,l[i]? = some x→True:=fun _ _ _=>trivial
 have flr:∀ i,i≤l.length→(((Ex.cellsL l).take i).flatten).length=i * 3:=fun i hi=>by
  have:=List.length_flatten (L:=(Ex.cellsL l).take i)
  rw [this,show (((Ex.cellsL l).take i).map List.length)=List.replicate i 3 from List.eq_replicate_iff.2 ⟨by simp [hrl];omega,fun b hb=>by obtain ⟨x,hx,rfl⟩:=List.mem_map.1 hb;exact hrw x (List.mem_of_mem_take hx)⟩]
  simp
 have hzk:∀ c ∈ ([I64 0,I64 0,C.v (.slice none 0 0)]:List C),kf c=true:=by simp [kf]
 have hbk0:∀ c ∈ (List.replicate l.length ([I64 0,I64 0,C.v (.slice none 0 0)]:List C)).flatten,kf c=true:=fun c hc=>by
  obtain ⟨y,hy,h2⟩:=List.mem_flatten.1 hc
  rw [List.eq_of_mem_replicate hy] at h2
  exact hzk c h2
 refine dcZ Tryz.func172 ?_
 simp only [go_sem,hrl]
 iterate 4 ((try (refine drvZ Tryz.func172 ?_;simp only [go_sem,hrl]));((with_reducible and_intros)<;>try exact sd))
 refine Go.loopQ (fun i:Nat=>[(0,.c (.isl 3 (Ex.cellsL l))),(3,.c (.msl 192 3 0 l.length)),(4,DI .i64 i)]) (fun i=>[(192,some (((Ex.cellsL l).take i).flatten++(List.replicate (l.length - i) [I64 0,I64 0,C.v (.slice none 0 0)]).flatten))]) 1024 (fun i=>i≤l.length) (fun i=>l.length - i) ?_ 0 some [] _ (by omega) ?_
 ·intro i hi again
  rcases Nat.lt_or_ge i l.length with hlt | hge
  ·obtain ⟨x,hx⟩:∃ x,l[i]? = some x:=⟨l[i],by simp [hlt]⟩
   have hcx:=hc x (List.mem_of_getElem? hx)
   obtain ⟨k0,v0,ks0⟩:=x
   have hxl:(Ex.cellsL l)[i]? = some [I64 k0,I64 v0,.isl 3 (Ex.cellsL ks0)]:=by rw [Ex.cellsL_eq,List.getElem?_map,hx];rfl
   simp only [Ex.cells,St1.cells,List.cons_append,List.nil_append,List.append_assoc] at hcx
   have hput:=put_row (rows:=(Ex.cellsL l).take i) (zs:=[I64 0,I64 0,C.v (.slice none 0 0)]) (ds:=[I64 k0,I64 v0,.isl 3 (Ex.cellsL ks0)]) (m:=l.length - (i+1)) (k:=3) (i:=i) rfl rfl (flr i hi)
   rw [show l.length - (i+1)+1=l.length - i by omega,← (show (Ex.cellsL l).take (i+1)=(Ex.cellsL l).take i++[[I64 k0,I64 v0,.isl 3 (Ex.cellsL ks0)]] by rw [List.take_succ_eq_append_getElem (by rw [hrl];exact hlt)];congr 2;exact (List.getElem?_eq_some_iff.1 hxl).2)] at hput
   have hbl:(((Ex.cellsL l).take i).flatten++(List.replicate (l.length - i) [I64 0,I64 0,C.v (.slice none 0 0)]).flatten).length=l.length * 3:=by
    rw [List.length_append,flr i hi]
    have:((List.replicate (l.length - i) ([I64 0,I64 0,C.v (.slice none 0 0)]:List C)).flatten).length=(l.length - i) * 3:=by simp
    rw [this];omega
   have hbk:∀ c ∈ ((Ex.cellsL l).take (i+1)).flatten++(List.replicate (l.length - (i+1)) ([I64 0,I64 0,C.v (.slice none 0 0)]:List C)).flatten,kf c=true:=fun c hc=>by
    rcases List.mem_append.1 hc with h1 | h1
    ·obtain ⟨y,hy,h2⟩:=List.mem_flatten.1 h1
     exact hrk y (List.mem_of_mem_take hy) c h2
    ·obtain ⟨y,hy,h2⟩:=List.mem_flatten.1 h1
     rw [List.eq_of_mem_replicate hy] at h2
     exact hzk c h2
   generalize hB1:((Ex.cellsL l).take i).flatten++(List.replicate (l.length - i) ([I64 0,I64 0,C.v (.slice none 0 0)]:List C)).flatten=B1 at *
   generalize hB2:((Ex.cellsL l).take (i+1)).flatten++(List.replicate (l.length - (i+1)) ([I64 0,I64 0,C.v (.slice none 0 0)]:List C)).flatten=B2 at *
   generalize hRW:Ex.cellsL l=rows at *
   refine drvL Tryz.func172 ?_
   simp only [go_sem,hrl,hlt,hxl]
   iterate 6 ((try (refine drvZ Tryz.func172 ?_;simp only [go_sem,hrl,hlt,hxl,hput]));((with_reducible and_intros)<;>try exact sd);(try first | refine XK.p hcx ok118 ?_ | refine XK.gp hcx ok118 ?_))
   simp only [putCells] at hput
   refine again (i+1) some [] _ hlt (by omega) ?_
   simp only [go_sem,TmOK,DM,DMs,CM,CMs,forall_eq,exists_eq_left,Mq,HpOK,LowOK,hput,hRW,hB2]
   exact ⟨⟨by simp,CMs.kf hbk⟩,by simp⟩
  ·obtain rfl:i=l.length:=by omega
   have hn:¬ l.length<l.length:=by omega
   have he:((Ex.cellsL l).take l.length).flatten++(List.replicate (l.length - l.length) ([I64 0,I64 0,C.v (.slice none 0 0)]:List C)).flatten=(Ex.cellsL l).flatten:=by
    rw [List.take_of_length_le (by rw [hrl];exact Nat.le_refl _),Nat.sub_self];simp
   generalize hB1:((Ex.cellsL l).take l.length).flatten++(List.replicate (l.length - l.length) ([I64 0,I64 0,C.v (.slice none 0 0)]:List C)).flatten=B1 at *
   generalize hRW:Ex.cellsL l=rows at *
   refine drvL Tryz.func172 ?_
   simp only [go_sem,hrl,hn]
   iterate 3 ((try (refine drvZ Tryz.func172 ?_;simp only [go_sem,hrl,hn]));((with_reducible and_intros)<;>try exact sd))
   exact ret _ _ _ _ rfl he rfl
 ·simp only [go_sem,TmOK,DM,DMs,CM,CMs,forall_eq,exists_eq_left,Mq,HpOK,LowOK]
  refine ⟨⟨by simp,?_⟩,by simp⟩
  have e0:([]:List (List C)).flatten++(List.replicate l.length ([I64 0,I64 0,C.v (.slice none 0 0)]:List C)).flatten=(List.replicate l.length ([I64 0,I64 0,C.v (.slice none 0 0)]:List C)).flatten:=rfl
  exact CMs.kf hbk0
theorem toStmtSOf (l:List (St1)) (hl:l.length≤1048576) (hc:∀ x ∈ l,DC Tryz.prog 76 [.agg x.cells] [] (fun r h=>r = .agg x.cells∧h=[])):DC Tryz.prog 36 [.c (.isl 11 (St1.cellsL l))] [] (fun r h=>r = .c (.isl 11 (St1.cellsL l))∧h=[]):=by
 have hmx:=mx_eq
 have hrl:(St1.cellsL l).length=l.length:=by simp [St1.cellsL_length]
 have hrw:∀ x ∈ (St1.cellsL l),x.length=11:=fun x hx=>by rw [St1.cellsL_eq] at hx;obtain ⟨e,_,rfl⟩:=List.mem_map.1 hx;exact St1.cells_len e
 have hrk:∀ x ∈ (St1.cellsL l),∀ c ∈ x,kf c=true:=fun x hx=>by rw [St1.cellsL_eq] at hx;obtain ⟨e,_,rfl⟩:=List.mem_map.1 hx;exact st_kf e
 have ret:∀ (k n:Nat) (cs:List C) (hp:Hp),hp k=some (some cs)→cs=(St1.cellsL l).flatten→n=l.length→RetOb 0 (fun r h=>r = .c (.isl 11 (St1.cellsL l))∧h=[]) (.c (.msl k 11 0 n)) hp:=fun k n cs hp h1 h2 h3=>RetOb.frozen (xs:=St1.cellsL l) ⟨rfl,rfl⟩ (by rw [h1,h2]) (by rw [h3,hrl]) hrw hrk
 generalize hR:(fun (r:D) (h:List (Option (List C)))=>r = .c (.isl 11 (St1.cellsL l))∧h=[])=R at ret ⊢
 clear hR
 have hrx:∀ (i:Nat) x,l[i]? = some x→True:=fun _ _ _=>trivial
 have flr:∀ i,i≤l.length→(((St1.cellsL l).take i).flatten).length=i * 11:=fun i hi=>by
  have:=List.length_flatten (L:=(St1.cellsL l).take i)
  rw [this,show (((St1.cellsL l).take i).map List.length)=List.replicate i 11 from List.eq_replicate_iff.2 ⟨by simp [hrl];omega,fun b hb=>by obtain ⟨x,hx,rfl⟩:=List.mem_map.1 hb;exact hrw x (List.mem_of_mem_take hx)⟩]
  simp
 have hzk:∀ c ∈ ([I64 0,I64 0,I64 0,I64 0,.v (.slice none 0 0),I64 0,I64 0,.v (.slice none 0 0),I64 0,.v (.slice none 0 0),C.v (.slice none 0 0)]:List C),kf c=true:=by simp [kf]
 have hbk0:∀ c ∈ (List.replicate l.length ([I64 0,I64 0,I64 0,I64 0,.v (.slice none 0 0),I64 0,I64 0,.v (.slice none 0 0),I64 0,.v (.slice none 0 0),C.v (.slice none 0 0)]:List C)).flatten,kf c=true:=fun c hc=>by
  obtain ⟨y,hy,h2⟩:=List.mem_flatten.1 hc
  rw [List.eq_of_mem_replicate hy] at h2
  exact hzk c h2
 refine dcZ Tryz.func36 ?_
 simp only [go_sem,hrl]
 iterate 4 ((try (refine drvZ Tryz.func36 ?_;simp only [go_sem,hrl]));((with_reducible and_intros)<;>try exact sd))
 refine Go.loopQ (fun i:Nat=>[(0,.c (.isl 11 (St1.cellsL l))),(3,.c (.msl 192 11 0 l.length)),(4,DI .i64 i)]) (fun i=>[(192,some (((St1.cellsL l).take i).flatten++(List.replicate (l.length - i) [I64 0,I64 0,I64 0,I64 0,.v (.slice none 0 0),I64 0,I64 0,.v (.slice none 0 0),I64 0,.v (.slice none 0 0),C.v (.slice none 0 0)]).flatten))]) 1024 (fun i=>i≤l.length) (fun i=>l.length - i) ?_ 0 some [] _ (by omega) ?_
 ·intro i hi again
  rcases Nat.lt_or_ge i l.length with hlt | hge
  ·obtain ⟨x,hx⟩:∃ x,l[i]? = some x:=⟨l[i],by simp [hlt]⟩
   have hcx:=hc x (List.mem_of_getElem? hx)
   obtain ⟨k0,t0,⟨a1,b1,c1⟩,⟨a2,b2,c2⟩,c0,bd0,el0⟩:=x
   have hxl:(St1.cellsL l)[i]? = some [I64 k0,I64 t0,I64 a1,I64 b1,.isl 3 (Ex.cellsL c1),I64 a2,I64 b2,.isl 3 (Ex.cellsL c2),I64 c0,.isl 11 (St1.cellsL bd0),.isl 11 (St1.cellsL el0)]:=by rw [St1.cellsL_eq,List.getElem?_map,hx];rfl
   simp only [Ex.cells,St1.cells,List.cons_append,List.nil_append,List.append_assoc] at hcx
   have hput:=put_row (rows:=(St1.cellsL l).take i) (zs:=[I64 0,I64 0,I64 0,I64 0,.v (.slice none 0 0),I64 0,I64 0,.v (.slice none 0 0),I64 0,.v (.slice none 0 0),C.v (.slice none 0 0)]) (ds:=[I64 k0,I64 t0,I64 a1,I64 b1,.isl 3 (Ex.cellsL c1),I64 a2,I64 b2,.isl 3 (Ex.cellsL c2),I64 c0,.isl 11 (St1.cellsL bd0),.isl 11 (St1.cellsL el0)]) (m:=l.length - (i+1)) (k:=11) (i:=i) rfl rfl (flr i hi)
   rw [show l.length - (i+1)+1=l.length - i by omega,← (show (St1.cellsL l).take (i+1)=(St1.cellsL l).take i++[[I64 k0,I64 t0,I64 a1,I64 b1,.isl 3 (Ex.cellsL c1),I64 a2,I64 b2,.isl 3 (Ex.cellsL c2),I64 c0,.isl 11 (St1.cellsL bd0),.isl 11 (St1.cellsL el0)]] by rw [List.take_succ_eq_append_getElem (by rw [hrl];exact hlt)];congr 2;exact (List.getElem?_eq_some_iff.1 hxl).2)] at hput
   have hbl:(((St1.cellsL l).take i).flatten++(List.replicate (l.length - i) [I64 0,I64 0,I64 0,I64 0,.v (.slice none 0 0),I64 0,I64 0,.v (.slice none 0 0),I64 0,.v (.slice none 0 0),C.v (.slice none 0 0)]).flatten).length=l.length * 11:=by
    rw [List.length_append,flr i hi]
    have:((List.replicate (l.length - i) ([I64 0,I64 0,I64 0,I64 0,.v (.slice none 0 0),I64 0,I64 0,.v (.slice none 0 0),I64 0,.v (.slice none 0 0),C.v (.slice none 0 0)]:List C)).flatten).length=(l.length - i) * 11:=by simp
    rw [this];omega
   have hbk:∀ c ∈ ((St1.cellsL l).take (i+1)).flatten++(List.replicate (l.length - (i+1)) ([I64 0,I64 0,I64 0,I64 0,.v (.slice none 0 0),I64 0,I64 0,.v (.slice none 0 0),I64 0,.v (.slice none 0 0),C.v (.slice none 0 0)]:List C)).flatten,kf c=true:=fun c hc=>by
    rcases List.mem_append.1 hc with h1 | h1
    ·obtain ⟨y,hy,h2⟩:=List.mem_flatten.1 h1
     exact hrk y (List.mem_of_mem_take hy) c h2
    ·obtain ⟨y,hy,h2⟩:=List.mem_flatten.1 h1
     rw [List.eq_of_mem_replicate hy] at h2
     exact hzk c h2
   generalize hB1:((St1.cellsL l).take i).flatten++(List.replicate (l.length - i) ([I64 0,I64 0,I64 0,I64 0,.v (.slice none 0 0),I64 0,I64 0,.v (.slice none 0 0),I64 0,.v (.slice none 0 0),C.v (.slice none 0 0)]:List C)).flatten=B1 at *
   generalize hB2:((St1.cellsL l).take (i+1)).flatten++(List.replicate (l.length - (i+1)) ([I64 0,I64 0,I64 0,I64 0,.v (.slice none 0 0),I64 0,I64 0,.v (.slice none 0 0),I64 0,.v (.slice none 0 0),C.v (.slice none 0 0)]:List C)).flatten=B2 at *
   generalize hRW:St1.cellsL l=rows at *
   refine drvL Tryz.func36 ?_
   simp only [go_sem,hrl,hlt,hxl]
   iterate 6 ((try (refine drvZ Tryz.func36 ?_;simp only [go_sem,hrl,hlt,hxl,hput]));((with_reducible and_intros)<;>try exact sd);(try first | refine XK.p hcx ok76 ?_ | refine XK.gp hcx ok76 ?_))
   simp only [putCells] at hput
   refine again (i+1) some [] _ hlt (by omega) ?_
   simp only [go_sem,TmOK,DM,DMs,CM,CMs,forall_eq,exists_eq_left,Mq,HpOK,LowOK,hput,hRW,hB2]
   exact ⟨⟨by simp,CMs.kf hbk⟩,by simp⟩
  ·obtain rfl:i=l.length:=by omega
   have hn:¬ l.length<l.length:=by omega
   have he:((St1.cellsL l).take l.length).flatten++(List.replicate (l.length - l.length) ([I64 0,I64 0,I64 0,I64 0,.v (.slice none 0 0),I64 0,I64 0,.v (.slice none 0 0),I64 0,.v (.slice none 0 0),C.v (.slice none 0 0)]:List C)).flatten=(St1.cellsL l).flatten:=by
    rw [List.take_of_length_le (by rw [hrl];exact Nat.le_refl _),Nat.sub_self];simp
   generalize hB1:((St1.cellsL l).take l.length).flatten++(List.replicate (l.length - l.length) ([I64 0,I64 0,I64 0,I64 0,.v (.slice none 0 0),I64 0,I64 0,.v (.slice none 0 0),I64 0,.v (.slice none 0 0),C.v (.slice none 0 0)]:List C)).flatten=B1 at *
   generalize hRW:St1.cellsL l=rows at *
   refine drvL Tryz.func36 ?_
   simp only [go_sem,hrl,hn]
   iterate 3 ((try (refine drvZ Tryz.func36 ?_;simp only [go_sem,hrl,hn]));((with_reducible and_intros)<;>try exact sd))
   exact ret _ _ _ _ rfl he rfl
 ·simp only [go_sem,TmOK,DM,DMs,CM,CMs,forall_eq,exists_eq_left,Mq,HpOK,LowOK]
  refine ⟨⟨by simp,?_⟩,by simp⟩
  have e0:([]:List (List C)).flatten++(List.replicate l.length ([I64 0,I64 0,I64 0,I64 0,.v (.slice none 0 0),I64 0,I64 0,.v (.slice none 0 0),I64 0,.v (.slice none 0 0),C.v (.slice none 0 0)]:List C)).flatten=(List.replicate l.length ([I64 0,I64 0,I64 0,I64 0,.v (.slice none 0 0),I64 0,I64 0,.v (.slice none 0 0),I64 0,.v (.slice none 0 0),C.v (.slice none 0 0)]:List C)).flatten:=rfl
  exact CMs.kf hbk0
theorem toExprOf (k v:Int) (ks:List Ex) (hc:DC Tryz.prog 172 [.c (.isl 3 (Ex.cellsL ks))] [] (fun r h=>r = .c (.isl 3 (Ex.cellsL ks))∧h=[])):DC Tryz.prog 118 [.agg [I64 k,I64 v,.isl 3 (Ex.cellsL ks)]] [] (fun r h=>r = .agg [I64 k,I64 v,.isl 3 (Ex.cellsL ks)]∧h=[]):=by
 have hmx:=mx_eq
 refine dcZ Tryz.func118 ?_
 simp only [go_sem]
 iterate 8 ((try (refine drvZ Tryz.func118 ?_;simp only [go_sem]));((with_reducible and_intros)<;>try exact sd);(try first | refine XK.p hc ok172 ?_ | refine XK.gp hc ok172 ?_))
 refine RetOb.ofQ (fun _=>none) [] (.agg [I64 k,I64 v,.isl 3 (Ex.cellsL ks)]) [] ?_ ⟨rfl,rfl⟩ (by simp)
 all_goals simp [Pg.cells,Mm.cells,St1.cells,Ex.cells,isI,enumL,DM,DMs,CM,CMs,HpOK,LowOK,hOf,upd,kf]
theorem toStmtOf (k t:Int) (ix v:Ex) (c:Int) (bd el:List St1) (hi:DC Tryz.prog 118 [.agg ix.cells] [] (fun r h=>r = .agg ix.cells∧h=[])) (hv:DC Tryz.prog 118 [.agg v.cells] [] (fun r h=>r = .agg v.cells∧h=[])) (hb:DC Tryz.prog 36 [.c (.isl 11 (St1.cellsL bd))] [] (fun r h=>r = .c (.isl 11 (St1.cellsL bd))∧h=[])) (he:DC Tryz.prog 36 [.c (.isl 11 (St1.cellsL el))] [] (fun r h=>r = .c (.isl 11 (St1.cellsL el))∧h=[])):DC Tryz.prog 76 [.agg (St1.cells (.mk k t ix v c bd el))] [] (fun r h=>r = .agg (St1.cells (.mk k t ix v c bd el))∧h=[]):=by
 have hmx:=mx_eq
 obtain ⟨a1,b1,c1⟩:=ix
 obtain ⟨a2,b2,c2⟩:=v
 simp only [St1.cells,Ex.cells,List.cons_append,List.nil_append,List.append_assoc] at *
 refine dcZ Tryz.func76 ?_
 simp only [go_sem]
 iterate 20 ((try (refine drvZ Tryz.func76 ?_;simp only [go_sem]));((with_reducible and_intros)<;>try exact sd);(try first | refine XK.p hi ok118 ?_ | refine XK.gp hi ok118 ?_ | refine XK.p hv ok118 ?_ | refine XK.gp hv ok118 ?_ | refine XK.p hb ok36 ?_ | refine XK.gp hb ok36 ?_ | refine XK.p he ok36 ?_ | refine XK.gp he ok36 ?_))
 refine RetOb.ofQ (fun _=>none) [] (.agg [I64 k,I64 t,I64 a1,I64 b1,.isl 3 (Ex.cellsL c1),I64 a2,I64 b2,.isl 3 (Ex.cellsL c2),I64 c,.isl 11 (St1.cellsL bd),.isl 11 (St1.cellsL el)]) [] ?_ ⟨rfl,rfl⟩ (by simp)
 all_goals simp [Pg.cells,Mm.cells,St1.cells,Ex.cells,isI,enumL,DM,DMs,CM,CMs,HpOK,LowOK,hOf,upd,kf]
theorem toProgramOf (p:Pg) (hv:DC Tryz.prog 35 [.c (isI p.vars)] [] (fun r h=>r = .c (isI p.vars)∧h=[])) (ha:DC Tryz.prog 35 [.c (isI p.arrays)] [] (fun r h=>r = .c (isI p.arrays)∧h=[])) (hb:DC Tryz.prog 36 [.c (.isl 11 (St1.cellsL p.body))] [] (fun r h=>r = .c (.isl 11 (St1.cellsL p.body))∧h=[])):DC Tryz.prog 9 [.agg p.cells] [] (fun r h=>r = .agg p.cells∧h=[]):=by
 have hmx:=mx_eq
 obtain ⟨vs,ar,bd⟩:=p
 simp only [Pg.cells] at *
 refine dcZ Tryz.func9 ?_
 simp only [go_sem]
 iterate 14 ((try (refine drvZ Tryz.func9 ?_;simp only [go_sem]));((with_reducible and_intros)<;>try exact sd);(try first | refine XK.p hv ok35 ?_ | refine XK.gp hv ok35 ?_ | refine XK.p ha ok35 ?_ | refine XK.gp ha ok35 ?_ | refine XK.p hb ok36 ?_ | refine XK.gp hb ok36 ?_))
 refine RetOb.ofQ (fun _=>none) [] (.agg [isI vs,isI ar,.isl 11 (St1.cellsL bd)]) [] ?_ ⟨rfl,rfl⟩ (by simp)
 all_goals simp [Pg.cells,Mm.cells,St1.cells,Ex.cells,isI,enumL,DM,DMs,CM,CMs,HpOK,LowOK,hOf,upd,kf]
theorem toMemoryOf (m:Mm) (hv:DC Tryz.prog 35 [.c (isI m.vals)] [] (fun r h=>r = .c (isI m.vals)∧h=[])) (ha:DC Tryz.prog 37 [.c (.isl 1 (m.arrays.map fun a=>[isI a]))] [] (fun r h=>r = .c (.isl 1 (m.arrays.map fun a=>[isI a]))∧h=[])):DC Tryz.prog 10 [.agg m.cells] [] (fun r h=>r = .agg m.cells∧h=[]):=by
 have hmx:=mx_eq
 obtain ⟨va,arr⟩:=m
 simp only [Mm.cells] at *
 refine dcZ Tryz.func10 ?_
 simp only [go_sem]
 iterate 10 ((try (refine drvZ Tryz.func10 ?_;simp only [go_sem]));((with_reducible and_intros)<;>try exact sd);(try first | refine XK.p hv ok35 ?_ | refine XK.gp hv ok35 ?_ | refine XK.p ha ok37 ?_ | refine XK.gp ha ok37 ?_))
 refine RetOb.ofQ (fun _=>none) [] (.agg [isI va,.isl 1 (arr.map fun a=>[isI a])]) [] ?_ ⟨rfl,rfl⟩ (by simp)
 all_goals simp [Pg.cells,Mm.cells,St1.cells,Ex.cells,isI,enumL,DM,DMs,CM,CMs,HpOK,LowOK,hOf,upd,kf]
structure PgN (p : Pg) : Prop where
 nv:p.vars.length≤1048576
 na:p.arrays.length≤1048576
 nb:p.body.length≤1048576
 st:∀ s ∈ p.body,StN s
structure MmN (m : Mm) : Prop where
 nv:m.vals.length≤1048576
 na:m.arrays.length≤1048576
 ar:∀ a ∈ m.arrays,a.length≤1048576
theorem pgN_of {p:Pg} (h:szP p≤1048576):PgN p:=by
 unfold szP at h
 rw [szSL_eq] at h
 have h1:=sum_split szS p.body
 exact ⟨by omega,by omega,by omega,fun s hs=>stN_of _ s (Nat.le_refl _) (by have:=mem_sum szS hs;omega)⟩
theorem mmN_of {m:Mm} (h:szM m≤1048576):MmN m:=by
 unfold szM at h
 rw [szIL_eq] at h
 have h1:=sum_split List.length m.arrays
 exact ⟨by omega,by omega,fun a ha=>by have:=mem_sum List.length ha;omega⟩
theorem toExpr_c : ∀ (n : Nat) (e : Ex), SizeOf.sizeOf e ≤ n → ExN e → DC Tryz.prog 118 [.agg e.cells] [] (fun r h => r = .agg e.cells ∧ h = [])
 | 0,.mk k v ks,h,_=>by simp at h
 | n+1,.mk k v ks,h,hb=>by
  cases hb with
  | mk _ _ _ hl hk =>
   rw [show Ex.cells (.mk k v ks)=[I64 k,I64 v,.isl 3 (Ex.cellsL ks)] by simp only [Ex.cells]]
   exact toExprOf k v ks (toExprSOf ks hl fun x hx=>toExpr_c n x (by have:=List.sizeOf_lt_of_mem hx;simp only [Ex.mk.sizeOf_spec] at h;omega) (hk x hx))
theorem toStmt_c : ∀ (n : Nat) (s : St1), SizeOf.sizeOf s ≤ n → StN s → DC Tryz.prog 76 [.agg s.cells] [] (fun r h => r = .agg s.cells ∧ h = [])
 | 0,.mk k t ix v c b e,h,_=>by simp at h
 | n+1,.mk k t ix v c b e,h,hb=>by
  cases hb with
  | mk _ _ _ _ _ _ _ g1 g2 g3 g4 g5 g6 =>
   simp only [St1.mk.sizeOf_spec] at h
   exact toStmtOf k t ix v c b e (toExpr_c _ ix (Nat.le_refl _) g1) (toExpr_c _ v (Nat.le_refl _) g2) (toStmtSOf b g3 fun x hx => toStmt_c n x (by have := List.sizeOf_lt_of_mem hx; omega) (g5 x hx))
    (toStmtSOf e g4 fun x hx=>toStmt_c n x (by have:=List.sizeOf_lt_of_mem hx;omega) (g6 x hx))
theorem toProgram_c (p:Pg) (hb:PgN p):DC Tryz.prog 9 [.agg p.cells] [] (fun r h=>r = .agg p.cells∧h=[]) :=
 toProgramOf p (toIntST p.vars hb.nv) (toIntST p.arrays hb.na) (toStmtSOf p.body hb.nb fun x hx=>toStmt_c _ x (Nat.le_refl _) (hb.st x hx))
theorem toMemory_c (m:Mm) (hb:MmN m):DC Tryz.prog 10 [.agg m.cells] [] (fun r h=>r = .agg m.cells∧h=[]) :=
 toMemoryOf m (toIntST m.vals hb.nv) (toIntSSOf m.arrays hb.na fun x hx=>toIntST x (hb.ar x hx))
theorem tsize_le : ∀ (d : Nat) (s : St1), tsize d s ≤ 1 + szS s
 | 0,s=>by simp [tsize]
 | d+1,.mk k t ix v c b e=>by
  have h:∀ l:List St1,(l.map (tsize d)).sum≤szSL l:=fun l=>by
   induction l with
   | nil=>simp [szSL]
   | cons a r ih =>
    have:=tsize_le d a
    simp only [List.map_cons,List.sum_cons,szSL];omega
  have h1:=h b
  have h2:=h e
  simp only [tsize,szS];omega
theorem lsize_le (d : Nat) : ∀ l : List St1, lsize d l ≤ szSL l
 | []=>by simp [lsize,szSL]
 | a :: r=>by
  have h1:=tsize_le d a
  have h2:=lsize_le d r
  unfold lsize at h2 ⊢
  simp only [List.map_cons,List.sum_cons,szSL];omega
theorem lawXBStmt (p:Pg) (a b:Mm) (hp:PgB p) (ha:MmB a) (hb:MmB b):DC Tryz.prog 3 [.agg p.cells,.agg a.cells,.agg b.cells] [] (fun d h=>d=DB true∧h=[]):=by
 have hmx:=mx_eq
 have ret:∀ hp:Hp,RetOb 0 (fun d h=>d=DB true∧h=[]) (DB true) hp:=fun hp=>RetOb.plain (d:=DB true) ⟨rfl,rfl⟩ rfl
 generalize hRR:(fun (d:D) (h:List (Option (List C)))=>d=DB true∧h=[])=R at ret ⊢
 have z1:=szProgram_c p hp 1048576 (by omega) (by omega)
 by_cases q1:((szP p:Nat):Int)≤1048576
 ·rw [subZ,if_pos q1] at z1
  have g1:((1048576:Int) - (szP p:Int)<0)=False:=eq_false (by omega)
  have z2:=szMemory_c a ha (1048576 - (szP p:Int)) (by omega) (by omega)
  by_cases q2:((szM a:Nat):Int)≤1048576 - (szP p:Int)
  ·rw [subZ,if_pos q2] at z2
   have g2:((1048576:Int) - (szP p:Int) - (szM a:Int)<0)=False:=eq_false (by omega)
   have z3:=szMemory_c b hb (1048576 - (szP p:Int) - (szM a:Int)) (by omega) (by omega)
   by_cases q3:((szM b:Nat):Int)≤1048576 - (szP p:Int) - (szM a:Int)
   ·rw [subZ,if_pos q3] at z3
    have g3:((1048576:Int) - (szP p:Int) - (szM a:Int) - (szM b:Int)<0)=False:=eq_false (by omega)
    have np:=pgN_of (p:=p) (by omega)
    have na:=mmN_of (m:=a) (by omega)
    have nb:=mmN_of (m:=b) (by omega)
    have hls:lsize 5 p.body≤1048576:=by
     have h1:=lsize_le 5 p.body
     have h2:szSL p.body≤szP p:=by unfold szP;omega
     omega
    have c1:=toProgram_c p np
    have c2:=toMemory_c a na
    have c3:=toMemory_c b nb
    have e1:=eqProgram_c p hp
    have e2:=eqMemory_c a ha
    have e3:=eqMemory_c b hb
    have nv:=np.nv
    have nar:=np.na
    have hbs:DC Tryz.prog 8 [.agg p.cells,.agg a.cells,.agg b.cells] [] (fun r h=>r=DI .i64 (bsP p a b)∧h=[]):=blameStmtS p a b (by omega) (by omega) (by omega)
    have hbi:DC Tryz.prog 11 [.agg p.cells,.agg a.cells,.agg b.cells] [] (fun r h=>r=DI .i64 (bsP p a b)∧h=[]):=blameStmtI p a b (by omega) (by omega)
    generalize bsP p a b=k at *
    generalize szP p=s1 at *
    generalize szM a=s2 at *
    generalize szM b=s3 at *
    clear hls np na nb hp ha hb
    obtain ⟨vs,ar,bd⟩:=p
    obtain ⟨va,arr⟩:=a
    obtain ⟨va',arr'⟩:=b
    simp only [Pg.cells,Mm.cells] at *
    refine dcZ Tryz.func3 ?_
    simp only [go_sem,g1,g2,g3,bne_self_eq_false]
    iterate 50 ((try (refine drvZ Tryz.func3 ?_;simp only [go_sem,g1,g2,g3,bne_self_eq_false]));((with_reducible and_intros)<;>try exact sd);(try first | refine XK.p z1 ok6 ?_ | refine XK.gp z1 ok6 ?_ | refine XK.p z2 ok7 ?_ | refine XK.gp z2 ok7 ?_ | refine XK.p z3 ok7 ?_ | refine XK.gp z3 ok7 ?_ | refine XK.p c1 ok9 ?_ | refine XK.gp c1 ok9 ?_ | refine XK.p c2 ok10 ?_ | refine XK.gp c2 ok10 ?_ | refine XK.p c3 ok10 ?_ | refine XK.gp c3 ok10 ?_ | refine XK.p hbs ok8 ?_ | refine XK.gp hbs ok8 ?_ | refine XK.p hbi ok11 ?_ | refine XK.gp hbi ok11 ?_ | refine XK.p e1 ok12 ?_ | refine XK.gp e1 ok12 ?_ | refine XK.p e2 ok13 ?_ | refine XK.gp e2 ok13 ?_ | refine XK.p e3 ok13 ?_ | refine XK.gp e3 ok13 ?_))
    exact ret _
   ·rw [subZ,if_neg q3] at z3
    clear hp ha hb q1 q2 q3
    generalize szP p=s1 at *
    generalize szM a=s2 at *
    obtain ⟨vs,ar,bd⟩:=p
    obtain ⟨va,arr⟩:=a
    obtain ⟨va',arr'⟩:=b
    simp only [Pg.cells,Mm.cells] at *
    refine dcZ Tryz.func3 ?_
    simp only [go_sem,g1,g2]
    iterate 14 ((try (refine drvZ Tryz.func3 ?_;simp only [go_sem,g1,g2]));((with_reducible and_intros)<;>try exact sd);(try first | refine XK.p z1 ok6 ?_ | refine XK.gp z1 ok6 ?_ | refine XK.p z2 ok7 ?_ | refine XK.gp z2 ok7 ?_ | refine XK.p z3 ok7 ?_ | refine XK.gp z3 ok7 ?_))
    exact ret _
  ·rw [subZ,if_neg q2] at z2
   clear hp ha hb q1 q2
   generalize szP p=s1 at *
   obtain ⟨vs,ar,bd⟩:=p
   obtain ⟨va,arr⟩:=a
   obtain ⟨va',arr'⟩:=b
   simp only [Pg.cells,Mm.cells] at *
   refine dcZ Tryz.func3 ?_
   simp only [go_sem,g1]
   iterate 10 ((try (refine drvZ Tryz.func3 ?_;simp only [go_sem,g1]));((with_reducible and_intros)<;>try exact sd);(try first | refine XK.p z1 ok6 ?_ | refine XK.gp z1 ok6 ?_ | refine XK.p z2 ok7 ?_ | refine XK.gp z2 ok7 ?_))
   exact ret _
 ·rw [subZ,if_neg q1] at z1
  clear hp ha hb q1
  obtain ⟨vs,ar,bd⟩:=p
  obtain ⟨va,arr⟩:=a
  obtain ⟨va',arr'⟩:=b
  simp only [Pg.cells,Mm.cells] at *
  refine dcZ Tryz.func3 ?_
  simp only [go_sem]
  iterate 8 ((try (refine drvZ Tryz.func3 ?_;simp only [go_sem]));((with_reducible and_intros)<;>try exact sd);(try first | refine XK.p z1 ok6 ?_ | refine XK.gp z1 ok6 ?_))
  exact ret _
def TX (t:TypeId):Prop:=t ∈ ([3,22,26,119,117,121,23,25,28]:List TypeId)
theorem c1:Tryz.prog.cellsOf 3=1:=by kernel_rfl
theorem c2:Tryz.prog.cellsOf 22=1:=by kernel_rfl
theorem c3:Tryz.prog.cellsOf 119=3:=by kernel_rfl
theorem c4:Tryz.prog.cellsOf 121=11:=by kernel_rfl
theorem clX:Cl Tryz.prog TX:=⟨fun t ht=>by
 simp only [TX,List.mem_cons,List.not_mem_nil,or_false] at ht
 rcases ht with rfl | rfl | rfl | rfl | rfl | rfl | rfl | rfl | rfl
 ·exact .inl ⟨_,Tryz.underlying3⟩
 ·exact .inr (.inr (.inl ⟨_,Tryz.underlying22,by simp [TX],of_decide_eq_true (by kernel_rfl),of_decide_eq_true (by kernel_rfl)⟩))
 ·exact .inr (.inr (.inl ⟨_,Tryz.underlying26,by simp [TX],of_decide_eq_true (by kernel_rfl),of_decide_eq_true (by kernel_rfl)⟩))
 ·exact .inr (.inr (.inr ⟨_,Tryz.underlying119,by kernel_rfl,by simp [TX]⟩))
 ·exact .inr (.inr (.inl ⟨_,Tryz.underlying117,by simp [TX],of_decide_eq_true (by kernel_rfl),of_decide_eq_true (by kernel_rfl)⟩))
 ·exact .inr (.inr (.inr ⟨_,Tryz.underlying121,by kernel_rfl,by simp [TX]⟩))
 ·exact .inr (.inr (.inl ⟨_,Tryz.underlying23,by simp [TX],of_decide_eq_true (by kernel_rfl),of_decide_eq_true (by kernel_rfl)⟩))
 ·exact .inr (.inr (.inr ⟨_,Tryz.underlying25,by kernel_rfl,by simp [TX]⟩))
 ·exact .inr (.inr (.inr ⟨_,Tryz.underlying28,by kernel_rfl,by simp [TX]⟩))⟩
theorem sh_int {ks:List C} (h:Sh Tryz.prog 3 ks):∃ n:Int,ks=[I64 n]∧True:=by
 obtain ⟨n,rfl,_⟩:=h.int_of Tryz.underlying3
 exact ⟨n,rfl,trivial⟩
theorem sh_ints {ks:List C} (h:Sh Tryz.prog 22 ks):∃ l:List Int,ks=[isI l]∧l.length≤mx:=by
 obtain ⟨l,rfl,hl,_⟩:=h.rows_of (f:=fun n:Int=>[I64 n]) (Q:=fun _=>True) Tryz.underlying22 fun r hr=>sh_int hr
 exact ⟨l,by rw [c1];rfl,hl⟩
theorem sh_rows {ks:List C} (h:Sh Tryz.prog 26 ks):∃ l:List (List Int),ks=[.isl 1 (l.map fun a=>[isI a])]∧l.length≤mx∧∀ a ∈ l,a.length≤mx:=by
 obtain ⟨l,rfl,hl,hq⟩:=h.rows_of (f:=fun a:List Int=>[isI a]) (Q:=fun a=>a.length≤mx) Tryz.underlying26 fun r hr=>sh_ints hr
 exact ⟨l,by rw [c2],hl,hq⟩
theorem sh_ex {t:TypeId} {ks:List C} (h:Sh Tryz.prog t ks):(t=119→∃ e:Ex,ks=e.cells∧ExB e)∧(t=117→∃ es:List Ex,ks=[.isl 3 (Ex.cellsL es)]∧es.length≤mx∧∀ e ∈ es,ExB e):=by
 induction h with
 | int hu hn=>exact ⟨fun e=>(by rw [e,Tryz.underlying119] at hu;cases hu),fun e=>(by rw [e,Tryz.underlying117] at hu;cases hu)⟩
 | bool hu=>exact ⟨fun e=>(by rw [e,Tryz.underlying119] at hu;cases hu),fun e=>(by rw [e,Tryz.underlying117] at hu;cases hu)⟩
 | sl hu hm hx ih =>
  refine ⟨fun e=>(by rw [e,Tryz.underlying119] at hu;cases hu),fun e=>?_⟩
  rw [e,Tryz.underlying117] at hu
  cases hu
  obtain ⟨es,rfl,hb⟩:=list_of (f:=Ex.cells) (Q:=ExB) _ fun r hr=>(ih r hr).1 rfl
  exact ⟨es,by rw [c3,Ex.cellsL_eq],by simpa using hm,hb⟩
 | st hu hl hx ih =>
  refine ⟨fun e=>?_,fun e=>(by rw [e,Tryz.underlying117] at hu;cases hu)⟩
  rw [e,Tryz.underlying119] at hu
  cases hu
  rename_i kss
  match kss,hl,hx,ih with
  | [a,b,c],_,hx,ih =>
   obtain ⟨n,rfl,_⟩:=sh_int (hx 0 _ a rfl rfl)
   obtain ⟨v,rfl,_⟩:=sh_int (hx 1 _ b rfl rfl)
   obtain ⟨es,rfl,h1,h2⟩:=(ih 2 _ c rfl rfl).2 rfl
   exact ⟨.mk n v es,by simp [Ex.cells],.mk _ _ _ h1 h2⟩
theorem sh_st {t:TypeId} {ks:List C} (h:Sh Tryz.prog t ks):(t=121→∃ e:St1,ks=e.cells∧StB e)∧(t=23→∃ es:List St1,ks=[.isl 11 (St1.cellsL es)]∧es.length≤mx∧∀ e ∈ es,StB e):=by
 induction h with
 | int hu hn=>exact ⟨fun e=>(by rw [e,Tryz.underlying121] at hu;cases hu),fun e=>(by rw [e,Tryz.underlying23] at hu;cases hu)⟩
 | bool hu=>exact ⟨fun e=>(by rw [e,Tryz.underlying121] at hu;cases hu),fun e=>(by rw [e,Tryz.underlying23] at hu;cases hu)⟩
 | sl hu hm hx ih =>
  refine ⟨fun e=>(by rw [e,Tryz.underlying121] at hu;cases hu),fun e=>?_⟩
  rw [e,Tryz.underlying23] at hu
  cases hu
  obtain ⟨es,rfl,hb⟩:=list_of (f:=St1.cells) (Q:=StB) _ fun r hr=>(ih r hr).1 rfl
  exact ⟨es,by rw [c4,St1.cellsL_eq],by simpa using hm,hb⟩
 | st hu hl hx ih =>
  refine ⟨fun e=>?_,fun e=>(by rw [e,Tryz.underlying23] at hu;cases hu)⟩
  rw [e,Tryz.underlying121] at hu
  cases hu
  rename_i kss
  match kss,hl,hx,ih with
  | [a,b,c,d,e,f,g],_,hx,ih =>
   obtain ⟨k,rfl,_⟩:=sh_int (hx 0 _ a rfl rfl)
   obtain ⟨t,rfl,_⟩:=sh_int (hx 1 _ b rfl rfl)
   obtain ⟨ix,rfl,g1⟩:=(sh_ex (hx 2 _ c rfl rfl)).1 rfl
   obtain ⟨v,rfl,g2⟩:=(sh_ex (hx 3 _ d rfl rfl)).1 rfl
   obtain ⟨n,rfl,_⟩:=sh_int (hx 4 _ e rfl rfl)
   obtain ⟨bd,rfl,g3,g4⟩:=(ih 5 _ f rfl rfl).2 rfl
   obtain ⟨el,rfl,g5,g6⟩:=(ih 6 _ g rfl rfl).2 rfl
   exact ⟨.mk k t ix v n bd el,by simp [St1.cells],.mk _ _ _ _ _ _ _ g1 g2 g3 g5 g4 g6⟩
theorem sh_prog {ks:List C} (h:Sh Tryz.prog 25 ks):∃ p:Pg,ks=p.cells∧PgB p:=by
 obtain ⟨kss,rfl,hl,hx⟩:=h.st_of Tryz.underlying25
 match kss,hl,hx with
 | [a,b,c],_,hx =>
  obtain ⟨vs,rfl,h1⟩:=sh_ints (hx 0 _ a rfl rfl)
  obtain ⟨ar,rfl,h2⟩:=sh_ints (hx 1 _ b rfl rfl)
  obtain ⟨bd,rfl,h3,h4⟩:=(sh_st (hx 2 _ c rfl rfl)).2 rfl
  exact ⟨⟨vs,ar,bd⟩,rfl,⟨h1,h2,h3,h4⟩⟩
theorem sh_mem {ks:List C} (h:Sh Tryz.prog 28 ks):∃ m:Mm,ks=m.cells∧MmB m:=by
 obtain ⟨kss,rfl,hl,hx⟩:=h.st_of Tryz.underlying28
 match kss,hl,hx with
 | [a,b],_,hx =>
  obtain ⟨va,rfl,h1⟩:=sh_ints (hx 0 _ a rfl rfl)
  obtain ⟨arr,rfl,h2,h3⟩:=sh_rows (hx 1 _ b rfl rfl)
  exact ⟨⟨va,arr⟩,rfl,⟨h1,h2,h3⟩⟩
end Go.Proofs.YtmjkgjkkpaephaaGreat.CtD
