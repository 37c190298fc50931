/- Contracts of functions of the program, one behind the other, as plain data: what each call returns and which blocks it leaves. -/
import Derived.Test.YtddanjifhdaebaaHFacts
import Derived.Test.YtddanjifhdaebaaHAk
import Derived.Test.YtddanjifhdaebaaHAr
import Derived.Test.YtddanjifhdaebaaHAs
import Derived.Test.YtddanjifhdaebaaHAt
set_option linter.unusedVariables false
set_option linter.unusedSimpArgs false
set_option linter.unusedSectionVars false
set_option maxHeartbeats 16000000
set_option maxRecDepth 100000
namespace Go.Proofs.Ytddanjifhdaebaa.CtD
open Go Go.CT CtF CtR
variable [Yn]
theorem cyEL_at (y:Bool) {l:List Ex} {i:Nat} {e:Ex} (h:l[i]? = some e):(cyEL y l)[i]? = some (cyE y e):=by rw [cyEL_eq,List.getElem?_map,h];rfl
theorem cySL_at (y:Bool) {l:List St1} {i:Nat} {e:St1} (h:l[i]? = some e):(cySL y l)[i]? = some (cyS y e):=by rw [cySL_eq,List.getElem?_map,h];rfl
theorem cyE_len (y:Bool) (e:Ex):(cyE y e).length=3:=by cases e;simp [cyE]
theorem cyS_len (y:Bool) (e:St1):(cyS y e).length=11:=by cases e;simp [cyS,cyE_len]
theorem cyE_kf (y:Bool) (e:Ex):∀ c ∈ cyE y e,kf c=true:=by
 cases e;intro c hc;simp only [cyE,List.mem_cons,List.not_mem_nil,or_false] at hc;rcases hc with rfl | rfl | rfl<;>rfl
theorem cyS_kf (y:Bool) (e:St1):∀ c ∈ cyS y e,kf c=true:=by
 cases e;intro c hc
 simp only [cyS,List.mem_append,List.mem_cons,List.not_mem_nil,or_false] at hc
 rcases hc with (((rfl | rfl) | hc) | hc) | rfl | rfl | rfl<;>first | rfl | exact cyE_kf y _ c hc
theorem toIntSY (l:List (Int)) (hl:l.length≤1048576)  : DC Try.prog 74 [.c (.isl 1 (l.map fun n=>[I64 n]))] [] (fun r h=>r = .c (.csl true 1 (l.map fun n=>[I64 n]))∧h=[]):=by
 have hmx:=mx_eq
 have hrp:(l.map fun n=>[I64 n]).length=l.length:=by simp
 have hrl:(l.map fun n=>[I64 n]).length=l.length:=by simp
 have hrw:∀ x ∈ (l.map fun n=>[I64 n]),x.length=1:=fun x hx=>by obtain ⟨e,_,rfl⟩:=List.mem_map.1 hx;rfl
 have hrk:∀ x ∈ (l.map fun n=>[I64 n]),∀ c ∈ x,kf c=true:=fun x hx c hc=>by obtain ⟨e,_,rfl⟩:=List.mem_map.1 hx;simp only [List.mem_singleton] at hc;subst hc;rfl
 have ret:∀ (k n:Nat) (cs:List C) (hp:Hp),hp k=some (some cs)→cs=(l.map fun n=>[I64 n]).flatten→n=l.length→RetOb 0 (fun r h=>r = .c (.csl true 1 (l.map fun n=>[I64 n]))∧h=[]) (.c (.msl k 1 0 n)) hp:=fun k n cs hp h1 h2 h3=>RetOb.frozenY (xs:=(l.map fun n=>[I64 n])) ⟨rfl,rfl⟩ (by rw [h1,h2]) (by rw [h3,hrl]) hrw hrk
 generalize hR:(fun (r:D) (h:List (Option (List C)))=>r = .c (.csl true 1 (l.map fun n=>[I64 n]))∧h=[])=R at ret ⊢
 clear hR
 have flr:∀ i,i≤l.length→(((l.map fun n=>[I64 n]).take i).flatten).length=i * 1:=fun i hi=>by
  have:=List.length_flatten (L:=(l.map fun n=>[I64 n]).take i)
  rw [this,show (((l.map fun n=>[I64 n]).take i).map List.length)=List.replicate i 1 from List.eq_replicate_iff.2 ⟨by simp [hrl];omega,fun b hb=>by obtain ⟨x,hx,rfl⟩:=List.mem_map.1 hb;exact hrw x (List.mem_of_mem_take hx)⟩]
  simp
 have hzk:∀ c ∈ ([I64 0]:List C),kf c=true:=by simp [kf]
 have hbk0:∀ c ∈ (List.replicate l.length ([I64 0]:List C)).flatten,kf c=true:=fun c hc=>by
  obtain ⟨y,hy,h2⟩:=List.mem_flatten.1 hc
  rw [List.eq_of_mem_replicate hy] at h2
  exact hzk c h2
 refine dcZ Try.func74 ?_
 simp only [go_sem,hrp]
 iterate 4 ((try (refine drvZ Try.func74 ?_;simp only [go_sem,hrp]));((with_reducible and_intros)<;>try exact sd))
 refine Go.loopQ (fun i:Nat=>[(0,.c (.isl 1 (l.map fun n=>[I64 n]))),(3,.c (.msl 192 1 0 l.length)),(4,DI .i64 i)]) (fun i=>[(192,some (((l.map fun n=>[I64 n]).take i).flatten++(List.replicate (l.length - i) [I64 0]).flatten))]) 1024 (fun i=>i≤l.length) (fun i=>l.length - i) ?_ 0 some [] _ (by omega) ?_
 ·intro i hi again
  rcases Nat.lt_or_ge i l.length with hlt | hge
  ·obtain ⟨x,hx⟩:∃ x,l[i]? = some x:=⟨l[i],by simp [hlt]⟩
   have hxl:(l.map fun n=>[I64 n])[i]? = some [I64 x]:=by rw [List.getElem?_map,hx];rfl
   have hyl:(l.map fun n=>[I64 n])[i]? = some [I64 x]:=by rw [List.getElem?_map,hx];rfl
   have hput:=put_row (rows:=(l.map fun n=>[I64 n]).take i) (zs:=[I64 0]) (ds:=[I64 x]) (m:=l.length - (i+1)) (k:=1) (i:=i) rfl rfl (flr i hi)
   rw [show l.length - (i+1)+1=l.length - i by omega,← (show (l.map fun n=>[I64 n]).take (i+1)=(l.map fun n=>[I64 n]).take i++[[I64 x]] by rw [List.take_succ_eq_append_getElem (by rw [hrl];exact hlt)];congr 2;exact (List.getElem?_eq_some_iff.1 hyl).2)] at hput
   have hbl:(((l.map fun n=>[I64 n]).take i).flatten++(List.replicate (l.length - i) [I64 0]).flatten).length=l.length * 1:=by
    rw [List.length_append,flr i hi]
    have:((List.replicate (l.length - i) ([I64 0]:List C)).flatten).length=(l.length - i) * 1:=by simp
    rw [this];omega
   have hbk:∀ c ∈ ((l.map fun n=>[I64 n]).take (i+1)).flatten++(List.replicate (l.length - (i+1)) ([I64 0]:List C)).flatten,kf c=true:=fun c hc=>by
    rcases List.mem_append.1 hc with h1 | h1
    ·obtain ⟨y,hy,h2⟩:=List.mem_flatten.1 h1
     exact hrk y (List.mem_of_mem_take hy) c h2
    ·obtain ⟨y,hy,h2⟩:=List.mem_flatten.1 h1
     rw [List.eq_of_mem_replicate hy] at h2
     exact hzk c h2
   generalize hB1:((l.map fun n=>[I64 n]).take i).flatten++(List.replicate (l.length - i) ([I64 0]:List C)).flatten=B1 at *
   generalize hB2:((l.map fun n=>[I64 n]).take (i+1)).flatten++(List.replicate (l.length - (i+1)) ([I64 0]:List C)).flatten=B2 at *
   clear ret hrw hrk flr hyl
   generalize hRW:(l.map fun n=>[I64 n])=rows at *
   refine drvL Try.func74 ?_
   simp only [go_sem,hrp,hlt,hxl]
   iterate 6 ((try (refine drvZ Try.func74 ?_;simp only [go_sem,hrp,hlt,hxl,hput]));((with_reducible and_intros)<;>try exact sd))
   simp only [putCells,Nat.mul_one] at hput
   refine again (i+1) some [] _ hlt (by omega) ?_
   simp only [go_sem,TmOK,DM,DMs,CM,CMs,forall_eq,exists_eq_left,Mq,HpOK,LowOK,hput,hRW,hB2]
   exact ⟨⟨by simp,CMs.kf hbk⟩,by simp⟩
  ·obtain rfl:i=l.length:=by omega
   have hn:¬ l.length<l.length:=by omega
   have he:((l.map fun n=>[I64 n]).take l.length).flatten++(List.replicate (l.length - l.length) ([I64 0]:List C)).flatten=(l.map fun n=>[I64 n]).flatten:=by
    rw [List.take_of_length_le (by rw [hrl];exact Nat.le_refl _),Nat.sub_self];simp
   generalize hB1:((l.map fun n=>[I64 n]).take l.length).flatten++(List.replicate (l.length - l.length) ([I64 0]:List C)).flatten=B1 at *
   generalize hRY:(l.map fun n=>[I64 n]).flatten=ryf at *
   generalize hRW:(l.map fun n=>[I64 n])=rows at *
   refine drvL Try.func74 ?_
   simp only [go_sem,hrp,hn]
   iterate 3 ((try (refine drvZ Try.func74 ?_;simp only [go_sem,hrp,hn]));((with_reducible and_intros)<;>try exact sd))
   exact ret _ _ _ _ rfl he rfl
 ·simp only [go_sem,TmOK,DM,DMs,CM,CMs,forall_eq,exists_eq_left,Mq,HpOK,LowOK]
  refine ⟨⟨by simp,?_⟩,by simp⟩
  exact CMs.kf hbk0
theorem toIntSSY (l:List (List Int)) (hl:l.length≤1048576) (hc:∀ x ∈ l,DC Try.prog 74 [.c (isI x)] [] (fun r h=>r = .c (.csl true 1 (x.map fun n=>[I64 n]))∧h=[])):DC Try.prog 104 [.c (.isl 1 (l.map fun a=>[isI a]))] [] (fun r h=>r = .c (.csl true 1 (l.map fun a=>[cyI true a]))∧h=[]):=by
 have hmx:=mx_eq
 have hrp:(l.map fun a=>[isI a]).length=l.length:=by simp
 have hrl:(l.map fun a=>[cyI true a]).length=l.length:=by simp
 have hrw:∀ x ∈ (l.map fun a=>[cyI true a]),x.length=1:=fun x hx=>by obtain ⟨e,_,rfl⟩:=List.mem_map.1 hx;rfl
 have hrk:∀ x ∈ (l.map fun a=>[cyI true a]),∀ c ∈ x,kf c=true:=fun x hx c hc=>by obtain ⟨e,_,rfl⟩:=List.mem_map.1 hx;simp only [List.mem_singleton] at hc;subst hc;rfl
 have ret:∀ (k n:Nat) (cs:List C) (hp:Hp),hp k=some (some cs)→cs=(l.map fun a=>[cyI true a]).flatten→n=l.length→RetOb 0 (fun r h=>r = .c (.csl true 1 (l.map fun a=>[cyI true a]))∧h=[]) (.c (.msl k 1 0 n)) hp:=fun k n cs hp h1 h2 h3=>RetOb.frozenY (xs:=(l.map fun a=>[cyI true a])) ⟨rfl,rfl⟩ (by rw [h1,h2]) (by rw [h3,hrl]) hrw hrk
 generalize hR:(fun (r:D) (h:List (Option (List C)))=>r = .c (.csl true 1 (l.map fun a=>[cyI true a]))∧h=[])=R at ret ⊢
 clear hR
 have flr:∀ i,i≤l.length→(((l.map fun a=>[cyI true a]).take i).flatten).length=i * 1:=fun i hi=>by
  have:=List.length_flatten (L:=(l.map fun a=>[cyI true a]).take i)
  rw [this,show (((l.map fun a=>[cyI true a]).take i).map List.length)=List.replicate i 1 from List.eq_replicate_iff.2 ⟨by simp [hrl];omega,fun b hb=>by obtain ⟨x,hx,rfl⟩:=List.mem_map.1 hb;exact hrw x (List.mem_of_mem_take hx)⟩]
  simp
 have hzk:∀ c ∈ ([C.v (.slice none 0 0)]:List C),kf c=true:=by simp [kf]
 have hbk0:∀ c ∈ (List.replicate l.length ([C.v (.slice none 0 0)]:List C)).flatten,kf c=true:=fun c hc=>by
  obtain ⟨y,hy,h2⟩:=List.mem_flatten.1 hc
  rw [List.eq_of_mem_replicate hy] at h2
  exact hzk c h2
 refine dcZ Try.func104 ?_
 simp only [go_sem,hrp]
 iterate 4 ((try (refine drvZ Try.func104 ?_;simp only [go_sem,hrp]));((with_reducible and_intros)<;>try exact sd))
 refine Go.loopQ (fun i:Nat=>[(0,.c (.isl 1 (l.map fun a=>[isI a]))),(3,.c (.msl 192 1 0 l.length)),(4,DI .i64 i)]) (fun i=>[(192,some (((l.map fun a=>[cyI true a]).take i).flatten++(List.replicate (l.length - i) [C.v (.slice none 0 0)]).flatten))]) 1024 (fun i=>i≤l.length) (fun i=>l.length - i) ?_ 0 some [] _ (by omega) ?_
 ·intro i hi again
  rcases Nat.lt_or_ge i l.length with hlt | hge
  ·obtain ⟨x,hx⟩:∃ x,l[i]? = some x:=⟨l[i],by simp [hlt]⟩
   have hcx:=hc x (List.mem_of_getElem? hx)
   have hxl:(l.map fun a=>[isI a])[i]? = some [.isl 1 (x.map fun n=>[I64 n])]:=by rw [List.getElem?_map,hx];rfl
   have hyl:(l.map fun a=>[cyI true a])[i]? = some [.csl true 1 (x.map fun n=>[I64 n])]:=by rw [List.getElem?_map,hx];rfl
   simp only [Ex.cells,St1.cells,cyE,cyS,isI,List.cons_append,List.nil_append,List.append_assoc] at hcx
   have hput:=put_row (rows:=(l.map fun a=>[cyI true a]).take i) (zs:=[C.v (.slice none 0 0)]) (ds:=[.csl true 1 (x.map fun n=>[I64 n])]) (m:=l.length - (i+1)) (k:=1) (i:=i) rfl rfl (flr i hi)
   rw [show l.length - (i+1)+1=l.length - i by omega,← (show (l.map fun a=>[cyI true a]).take (i+1)=(l.map fun a=>[cyI true a]).take i++[[.csl true 1 (x.map fun n=>[I64 n])]] by rw [List.take_succ_eq_append_getElem (by rw [hrl];exact hlt)];congr 2;exact (List.getElem?_eq_some_iff.1 hyl).2)] at hput
   have hbl:(((l.map fun a=>[cyI true a]).take i).flatten++(List.replicate (l.length - i) [C.v (.slice none 0 0)]).flatten).length=l.length * 1:=by
    rw [List.length_append,flr i hi]
    have:((List.replicate (l.length - i) ([C.v (.slice none 0 0)]:List C)).flatten).length=(l.length - i) * 1:=by simp
    rw [this];omega
   have hbk:∀ c ∈ ((l.map fun a=>[cyI true a]).take (i+1)).flatten++(List.replicate (l.length - (i+1)) ([C.v (.slice none 0 0)]:List C)).flatten,kf c=true:=fun c hc=>by
    rcases List.mem_append.1 hc with h1 | h1
    ·obtain ⟨y,hy,h2⟩:=List.mem_flatten.1 h1
     exact hrk y (List.mem_of_mem_take hy) c h2
    ·obtain ⟨y,hy,h2⟩:=List.mem_flatten.1 h1
     rw [List.eq_of_mem_replicate hy] at h2
     exact hzk c h2
   generalize hB1:((l.map fun a=>[cyI true a]).take i).flatten++(List.replicate (l.length - i) ([C.v (.slice none 0 0)]:List C)).flatten=B1 at *
   generalize hB2:((l.map fun a=>[cyI true a]).take (i+1)).flatten++(List.replicate (l.length - (i+1)) ([C.v (.slice none 0 0)]:List C)).flatten=B2 at *
   clear ret hrw hrk flr hyl
   generalize hRW:(l.map fun a=>[isI a])=rows at *
   refine drvL Try.func104 ?_
   simp only [go_sem,hrp,hlt,hxl]
   iterate 6 ((try (refine drvZ Try.func104 ?_;simp only [go_sem,hrp,hlt,hxl,hput]));((with_reducible and_intros)<;>try exact sd);(try first | refine XK.p hcx ok74 ?_ | refine XK.gp hcx ok74 ?_))
   simp only [putCells,Nat.mul_one] at hput
   refine again (i+1) some [] _ hlt (by omega) ?_
   simp only [go_sem,TmOK,DM,DMs,CM,CMs,forall_eq,exists_eq_left,Mq,HpOK,LowOK,hput,hRW,hB2]
   exact ⟨⟨by simp,CMs.kf hbk⟩,by simp⟩
  ·obtain rfl:i=l.length:=by omega
   have hn:¬ l.length<l.length:=by omega
   have he:((l.map fun a=>[cyI true a]).take l.length).flatten++(List.replicate (l.length - l.length) ([C.v (.slice none 0 0)]:List C)).flatten=(l.map fun a=>[cyI true a]).flatten:=by
    rw [List.take_of_length_le (by rw [hrl];exact Nat.le_refl _),Nat.sub_self];simp
   generalize hB1:((l.map fun a=>[cyI true a]).take l.length).flatten++(List.replicate (l.length - l.length) ([C.v (.slice none 0 0)]:List C)).flatten=B1 at *
   generalize hRY:(l.map fun a=>[cyI true a]).flatten=ryf at *
   generalize hRW:(l.map fun a=>[isI a])=rows at *
   refine drvL Try.func104 ?_
   simp only [go_sem,hrp,hn]
   iterate 3 ((try (refine drvZ Try.func104 ?_;simp only [go_sem,hrp,hn]));((with_reducible and_intros)<;>try exact sd))
   exact ret _ _ _ _ rfl he rfl
 ·simp only [go_sem,TmOK,DM,DMs,CM,CMs,forall_eq,exists_eq_left,Mq,HpOK,LowOK]
  refine ⟨⟨by simp,?_⟩,by simp⟩
  exact CMs.kf hbk0
theorem toExprSY (l:List (Ex)) (hl:l.length≤1048576) (hc:∀ x ∈ l,DC Try.prog 180 [.agg x.cells] [] (fun r h=>r = .agg (cyE true x)∧h=[])):DC Try.prog 206 [.c (.isl 3 (Ex.cellsL l))] [] (fun r h=>r = .c (.csl true 3 (cyEL true l))∧h=[]):=by
 have hmx:=mx_eq
 have hrp:(Ex.cellsL l).length=l.length:=by simp [Ex.cellsL_length]
 have hrl:(cyEL true l).length=l.length:=by simp [cyEL_eq]
 have hrw:∀ x ∈ (cyEL true l),x.length=3:=fun x hx=>by rw [cyEL_eq] at hx;obtain ⟨e,_,rfl⟩:=List.mem_map.1 hx;exact cyE_len true e
 have hrk:∀ x ∈ (cyEL true l),∀ c ∈ x,kf c=true:=fun x hx c hc=>by rw [cyEL_eq] at hx;obtain ⟨e,_,rfl⟩:=List.mem_map.1 hx;exact cyE_kf true e c hc
 have ret:∀ (k n:Nat) (cs:List C) (hp:Hp),hp k=some (some cs)→cs=(cyEL true l).flatten→n=l.length→RetOb 0 (fun r h=>r = .c (.csl true 3 (cyEL true l))∧h=[]) (.c (.msl k 3 0 n)) hp:=fun k n cs hp h1 h2 h3=>RetOb.frozenY (xs:=(cyEL true l)) ⟨rfl,rfl⟩ (by rw [h1,h2]) (by rw [h3,hrl]) hrw hrk
 generalize hR:(fun (r:D) (h:List (Option (List C)))=>r = .c (.csl true 3 (cyEL true l))∧h=[])=R at ret ⊢
 clear hR
 have flr:∀ i,i≤l.length→(((cyEL true l).take i).flatten).length=i * 3:=fun i hi=>by
  have:=List.length_flatten (L:=(cyEL true l).take i)
  rw [this,show (((cyEL true l).take i).map List.length)=List.replicate i 3 from List.eq_replicate_iff.2 ⟨by simp [hrl];omega,fun b hb=>by obtain ⟨x,hx,rfl⟩:=List.mem_map.1 hb;exact hrw x (List.mem_of_mem_take hx)⟩]
  simp
 have hzk:∀ c ∈ ([I64 0,I64 0,C.v (.slice none 0 0)]:List C),kf c=true:=by simp [kf]
 have hbk0:∀ c ∈ (List.replicate l.length ([I64 0,I64 0,C.v (.slice none 0 0)]:List C)).flatten,kf c=true:=fun c hc=>by
  obtain ⟨y,hy,h2⟩:=List.mem_flatten.1 hc
  rw [List.eq_of_mem_replicate hy] at h2
  exact hzk c h2
 refine dcZ Try.func206 ?_
 simp only [go_sem,hrp]
 iterate 4 ((try (refine drvZ Try.func206 ?_;simp only [go_sem,hrp]));((with_reducible and_intros)<;>try exact sd))
 refine Go.loopQ (fun i:Nat=>[(0,.c (.isl 3 (Ex.cellsL l))),(3,.c (.msl 192 3 0 l.length)),(4,DI .i64 i)]) (fun i=>[(192,some (((cyEL true l).take i).flatten++(List.replicate (l.length - i) [I64 0,I64 0,C.v (.slice none 0 0)]).flatten))]) 1024 (fun i=>i≤l.length) (fun i=>l.length - i) ?_ 0 some [] _ (by omega) ?_
 ·intro i hi again
  rcases Nat.lt_or_ge i l.length with hlt | hge
  ·obtain ⟨x,hx⟩:∃ x,l[i]? = some x:=⟨l[i],by simp [hlt]⟩
   have hcx:=hc x (List.mem_of_getElem? hx)
   obtain ⟨k0,v0,ks0⟩:=x
   have hxl:(Ex.cellsL l)[i]? = some [I64 k0,I64 v0,.isl 3 (Ex.cellsL ks0)]:=by rw [Ex.cellsL_eq,List.getElem?_map,hx];rfl
   have hyl:(cyEL true l)[i]? = some [I64 k0,I64 v0,.csl true 3 (cyEL true ks0)]:=by rw [cyEL_at true hx];rfl
   simp only [Ex.cells,St1.cells,cyE,cyS,isI,List.cons_append,List.nil_append,List.append_assoc] at hcx
   have hput:=put_row (rows:=(cyEL true l).take i) (zs:=[I64 0,I64 0,C.v (.slice none 0 0)]) (ds:=[I64 k0,I64 v0,.csl true 3 (cyEL true ks0)]) (m:=l.length - (i+1)) (k:=3) (i:=i) rfl rfl (flr i hi)
   rw [show l.length - (i+1)+1=l.length - i by omega,← (show (cyEL true l).take (i+1)=(cyEL true l).take i++[[I64 k0,I64 v0,.csl true 3 (cyEL true ks0)]] by rw [List.take_succ_eq_append_getElem (by rw [hrl];exact hlt)];congr 2;exact (List.getElem?_eq_some_iff.1 hyl).2)] at hput
   have hbl:(((cyEL true l).take i).flatten++(List.replicate (l.length - i) [I64 0,I64 0,C.v (.slice none 0 0)]).flatten).length=l.length * 3:=by
    rw [List.length_append,flr i hi]
    have:((List.replicate (l.length - i) ([I64 0,I64 0,C.v (.slice none 0 0)]:List C)).flatten).length=(l.length - i) * 3:=by simp
    rw [this];omega
   have hbk:∀ c ∈ ((cyEL true l).take (i+1)).flatten++(List.replicate (l.length - (i+1)) ([I64 0,I64 0,C.v (.slice none 0 0)]:List C)).flatten,kf c=true:=fun c hc=>by
    rcases List.mem_append.1 hc with h1 | h1
    ·obtain ⟨y,hy,h2⟩:=List.mem_flatten.1 h1
     exact hrk y (List.mem_of_mem_take hy) c h2
    ·obtain ⟨y,hy,h2⟩:=List.mem_flatten.1 h1
     rw [List.eq_of_mem_replicate hy] at h2
     exact hzk c h2
   generalize hB1:((cyEL true l).take i).flatten++(List.replicate (l.length - i) ([I64 0,I64 0,C.v (.slice none 0 0)]:List C)).flatten=B1 at *
   generalize hB2:((cyEL true l).take (i+1)).flatten++(List.replicate (l.length - (i+1)) ([I64 0,I64 0,C.v (.slice none 0 0)]:List C)).flatten=B2 at *
   clear ret hrw hrk flr hyl
   generalize hRW:(Ex.cellsL l)=rows at *
   refine drvL Try.func206 ?_
   simp only [go_sem,hrp,hlt,hxl]
   iterate 6 ((try (refine drvZ Try.func206 ?_;simp only [go_sem,hrp,hlt,hxl,hput]));((with_reducible and_intros)<;>try exact sd);(try first | refine XK.p hcx ok180 ?_ | refine XK.gp hcx ok180 ?_))
   simp only [putCells,Nat.mul_one] at hput
   refine again (i+1) some [] _ hlt (by omega) ?_
   simp only [go_sem,TmOK,DM,DMs,CM,CMs,forall_eq,exists_eq_left,Mq,HpOK,LowOK,hput,hRW,hB2]
   exact ⟨⟨by simp,CMs.kf hbk⟩,by simp⟩
  ·obtain rfl:i=l.length:=by omega
   have hn:¬ l.length<l.length:=by omega
   have he:((cyEL true l).take l.length).flatten++(List.replicate (l.length - l.length) ([I64 0,I64 0,C.v (.slice none 0 0)]:List C)).flatten=(cyEL true l).flatten:=by
    rw [List.take_of_length_le (by rw [hrl];exact Nat.le_refl _),Nat.sub_self];simp
   generalize hB1:((cyEL true l).take l.length).flatten++(List.replicate (l.length - l.length) ([I64 0,I64 0,C.v (.slice none 0 0)]:List C)).flatten=B1 at *
   generalize hRY:(cyEL true l).flatten=ryf at *
   generalize hRW:(Ex.cellsL l)=rows at *
   refine drvL Try.func206 ?_
   simp only [go_sem,hrp,hn]
   iterate 3 ((try (refine drvZ Try.func206 ?_;simp only [go_sem,hrp,hn]));((with_reducible and_intros)<;>try exact sd))
   exact ret _ _ _ _ rfl he rfl
 ·simp only [go_sem,TmOK,DM,DMs,CM,CMs,forall_eq,exists_eq_left,Mq,HpOK,LowOK]
  refine ⟨⟨by simp,?_⟩,by simp⟩
  exact CMs.kf hbk0
theorem toStmtSY (l:List (St1)) (hl:l.length≤1048576) (hc:∀ x ∈ l,DC Try.prog 144 [.agg x.cells] [] (fun r h=>r = .agg (cyS true x)∧h=[])):DC Try.prog 86 [.c (.isl 11 (St1.cellsL l))] [] (fun r h=>r = .c (.csl true 11 (cySL true l))∧h=[]):=by
 have hmx:=mx_eq
 have hrp:(St1.cellsL l).length=l.length:=by simp [St1.cellsL_length]
 have hrl:(cySL true l).length=l.length:=by simp [cySL_eq]
 have hrw:∀ x ∈ (cySL true l),x.length=11:=fun x hx=>by rw [cySL_eq] at hx;obtain ⟨e,_,rfl⟩:=List.mem_map.1 hx;exact cyS_len true e
 have hrk:∀ x ∈ (cySL true l),∀ c ∈ x,kf c=true:=fun x hx c hc=>by rw [cySL_eq] at hx;obtain ⟨e,_,rfl⟩:=List.mem_map.1 hx;exact cyS_kf true e c hc
 have ret:∀ (k n:Nat) (cs:List C) (hp:Hp),hp k=some (some cs)→cs=(cySL true l).flatten→n=l.length→RetOb 0 (fun r h=>r = .c (.csl true 11 (cySL true l))∧h=[]) (.c (.msl k 11 0 n)) hp:=fun k n cs hp h1 h2 h3=>RetOb.frozenY (xs:=(cySL true l)) ⟨rfl,rfl⟩ (by rw [h1,h2]) (by rw [h3,hrl]) hrw hrk
 generalize hR:(fun (r:D) (h:List (Option (List C)))=>r = .c (.csl true 11 (cySL true l))∧h=[])=R at ret ⊢
 clear hR
 have flr:∀ i,i≤l.length→(((cySL true l).take i).flatten).length=i * 11:=fun i hi=>by
  have:=List.length_flatten (L:=(cySL true l).take i)
  rw [this,show (((cySL true l).take i).map List.length)=List.replicate i 11 from List.eq_replicate_iff.2 ⟨by simp [hrl];omega,fun b hb=>by obtain ⟨x,hx,rfl⟩:=List.mem_map.1 hb;exact hrw x (List.mem_of_mem_take hx)⟩]
  simp
 have hzk:∀ c ∈ ([I64 0,I64 0,I64 0,I64 0,.v (.slice none 0 0),I64 0,I64 0,.v (.slice none 0 0),I64 0,.v (.slice none 0 0),C.v (.slice none 0 0)]:List C),kf c=true:=by simp [kf]
 have hbk0:∀ c ∈ (List.replicate l.length ([I64 0,I64 0,I64 0,I64 0,.v (.slice none 0 0),I64 0,I64 0,.v (.slice none 0 0),I64 0,.v (.slice none 0 0),C.v (.slice none 0 0)]:List C)).flatten,kf c=true:=fun c hc=>by
  obtain ⟨y,hy,h2⟩:=List.mem_flatten.1 hc
  rw [List.eq_of_mem_replicate hy] at h2
  exact hzk c h2
 refine dcZ Try.func86 ?_
 simp only [go_sem,hrp]
 iterate 4 ((try (refine drvZ Try.func86 ?_;simp only [go_sem,hrp]));((with_reducible and_intros)<;>try exact sd))
 refine Go.loopQ (fun i:Nat=>[(0,.c (.isl 11 (St1.cellsL l))),(3,.c (.msl 192 11 0 l.length)),(4,DI .i64 i)]) (fun i=>[(192,some (((cySL true l).take i).flatten++(List.replicate (l.length - i) [I64 0,I64 0,I64 0,I64 0,.v (.slice none 0 0),I64 0,I64 0,.v (.slice none 0 0),I64 0,.v (.slice none 0 0),C.v (.slice none 0 0)]).flatten))]) 1024 (fun i=>i≤l.length) (fun i=>l.length - i) ?_ 0 some [] _ (by omega) ?_
 ·intro i hi again
  rcases Nat.lt_or_ge i l.length with hlt | hge
  ·obtain ⟨x,hx⟩:∃ x,l[i]? = some x:=⟨l[i],by simp [hlt]⟩
   have hcx:=hc x (List.mem_of_getElem? hx)
   obtain ⟨k0,t0,⟨a1,b1,c1⟩,⟨a2,b2,c2⟩,c0,bd0,el0⟩:=x
   have hxl:(St1.cellsL l)[i]? = some [I64 k0,I64 t0,I64 a1,I64 b1,.isl 3 (Ex.cellsL c1),I64 a2,I64 b2,.isl 3 (Ex.cellsL c2),I64 c0,.isl 11 (St1.cellsL bd0),.isl 11 (St1.cellsL el0)]:=by rw [St1.cellsL_eq,List.getElem?_map,hx];rfl
   have hyl:(cySL true l)[i]? = some [I64 k0,I64 t0,I64 a1,I64 b1,.csl true 3 (cyEL true c1),I64 a2,I64 b2,.csl true 3 (cyEL true c2),I64 c0,.csl true 11 (cySL true bd0),.csl true 11 (cySL true el0)]:=by rw [cySL_at true hx];rfl
   simp only [Ex.cells,St1.cells,cyE,cyS,isI,List.cons_append,List.nil_append,List.append_assoc] at hcx
   have hput:=put_row (rows:=(cySL true l).take i) (zs:=[I64 0,I64 0,I64 0,I64 0,.v (.slice none 0 0),I64 0,I64 0,.v (.slice none 0 0),I64 0,.v (.slice none 0 0),C.v (.slice none 0 0)]) (ds:=[I64 k0,I64 t0,I64 a1,I64 b1,.csl true 3 (cyEL true c1),I64 a2,I64 b2,.csl true 3 (cyEL true c2),I64 c0,.csl true 11 (cySL true bd0),.csl true 11 (cySL true el0)]) (m:=l.length - (i+1)) (k:=11) (i:=i) rfl rfl (flr i hi)
   rw [show l.length - (i+1)+1=l.length - i by omega,← (show (cySL true l).take (i+1)=(cySL true l).take i++[[I64 k0,I64 t0,I64 a1,I64 b1,.csl true 3 (cyEL true c1),I64 a2,I64 b2,.csl true 3 (cyEL true c2),I64 c0,.csl true 11 (cySL true bd0),.csl true 11 (cySL true el0)]] by rw [List.take_succ_eq_append_getElem (by rw [hrl];exact hlt)];congr 2;exact (List.getElem?_eq_some_iff.1 hyl).2)] at hput
   have hbl:(((cySL true l).take i).flatten++(List.replicate (l.length - i) [I64 0,I64 0,I64 0,I64 0,.v (.slice none 0 0),I64 0,I64 0,.v (.slice none 0 0),I64 0,.v (.slice none 0 0),C.v (.slice none 0 0)]).flatten).length=l.length * 11:=by
    rw [List.length_append,flr i hi]
    have:((List.replicate (l.length - i) ([I64 0,I64 0,I64 0,I64 0,.v (.slice none 0 0),I64 0,I64 0,.v (.slice none 0 0),I64 0,.v (.slice none 0 0),C.v (.slice none 0 0)]:List C)).flatten).length=(l.length - i) * 11:=by simp
    rw [this];omega
   have hbk:∀ c ∈ ((cySL true l).take (i+1)).flatten++(List.replicate (l.length - (i+1)) ([I64 0,I64 0,I64 0,I64 0,.v (.slice none 0 0),I64 0,I64 0,.v (.slice none 0 0),I64 0,.v (.slice none 0 0),C.v (.slice none 0 0)]:List C)).flatten,kf c=true:=fun c hc=>by
    rcases List.mem_append.1 hc with h1 | h1
    ·obtain ⟨y,hy,h2⟩:=List.mem_flatten.1 h1
     exact hrk y (List.mem_of_mem_take hy) c h2
    ·obtain ⟨y,hy,h2⟩:=List.mem_flatten.1 h1
     rw [List.eq_of_mem_replicate hy] at h2
     exact hzk c h2
   generalize hB1:((cySL true l).take i).flatten++(List.replicate (l.length - i) ([I64 0,I64 0,I64 0,I64 0,.v (.slice none 0 0),I64 0,I64 0,.v (.slice none 0 0),I64 0,.v (.slice none 0 0),C.v (.slice none 0 0)]:List C)).flatten=B1 at *
   generalize hB2:((cySL true l).take (i+1)).flatten++(List.replicate (l.length - (i+1)) ([I64 0,I64 0,I64 0,I64 0,.v (.slice none 0 0),I64 0,I64 0,.v (.slice none 0 0),I64 0,.v (.slice none 0 0),C.v (.slice none 0 0)]:List C)).flatten=B2 at *
   clear ret hrw hrk flr hyl
   generalize hRW:(St1.cellsL l)=rows at *
   refine drvL Try.func86 ?_
   simp only [go_sem,hrp,hlt,hxl]
   iterate 6 ((try (refine drvZ Try.func86 ?_;simp only [go_sem,hrp,hlt,hxl,hput]));((with_reducible and_intros)<;>try exact sd);(try first | refine XK.p hcx ok144 ?_ | refine XK.gp hcx ok144 ?_))
   simp only [putCells,Nat.mul_one] at hput
   refine again (i+1) some [] _ hlt (by omega) ?_
   simp only [go_sem,TmOK,DM,DMs,CM,CMs,forall_eq,exists_eq_left,Mq,HpOK,LowOK,hput,hRW,hB2]
   exact ⟨⟨by simp,CMs.kf hbk⟩,by simp⟩
  ·obtain rfl:i=l.length:=by omega
   have hn:¬ l.length<l.length:=by omega
   have he:((cySL true l).take l.length).flatten++(List.replicate (l.length - l.length) ([I64 0,I64 0,I64 0,I64 0,.v (.slice none 0 0),I64 0,I64 0,.v (.slice none 0 0),I64 0,.v (.slice none 0 0),C.v (.slice none 0 0)]:List C)).flatten=(cySL true l).flatten:=by
    rw [List.take_of_length_le (by rw [hrl];exact Nat.le_refl _),Nat.sub_self];simp
   generalize hB1:((cySL true l).take l.length).flatten++(List.replicate (l.length - l.length) ([I64 0,I64 0,I64 0,I64 0,.v (.slice none 0 0),I64 0,I64 0,.v (.slice none 0 0),I64 0,.v (.slice none 0 0),C.v (.slice none 0 0)]:List C)).flatten=B1 at *
   generalize hRY:(cySL true l).flatten=ryf at *
   generalize hRW:(St1.cellsL l)=rows at *
   refine drvL Try.func86 ?_
   simp only [go_sem,hrp,hn]
   iterate 3 ((try (refine drvZ Try.func86 ?_;simp only [go_sem,hrp,hn]));((with_reducible and_intros)<;>try exact sd))
   exact ret _ _ _ _ rfl he rfl
 ·simp only [go_sem,TmOK,DM,DMs,CM,CMs,forall_eq,exists_eq_left,Mq,HpOK,LowOK]
  refine ⟨⟨by simp,?_⟩,by simp⟩
  exact CMs.kf hbk0
theorem toExprY (k v:Int) (ks:List Ex) (hc:DC Try.prog 206 [.c (.isl 3 (Ex.cellsL ks))] [] (fun r h=>r = .c (.csl true 3 (cyEL true ks))∧h=[])):DC Try.prog 180 [.agg [I64 k,I64 v,.isl 3 (Ex.cellsL ks)]] [] (fun r h=>r = .agg [I64 k,I64 v,.csl true 3 (cyEL true ks)]∧h=[]):=by
 have hmx:=mx_eq
 refine dcZ Try.func180 ?_
 simp only [go_sem]
 iterate 8 ((try (refine drvZ Try.func180 ?_;simp only [go_sem]));((with_reducible and_intros)<;>try exact sd);(try first | refine XK.p hc ok206 ?_ | refine XK.gp hc ok206 ?_))
 refine RetOb.ofQ (fun _=>none) [] (.agg [I64 k,I64 v,.csl true 3 (cyEL true ks)]) [] ?_ ⟨rfl,rfl⟩ (by simp)
 all_goals simp [Pg.cells,Mm.cells,St1.cells,Ex.cells,isI,enumL,DM,DMs,CM,CMs,HpOK,LowOK,hOf,upd,kf]
theorem toStmtY (k t : Int) (ix v : Ex) (c : Int) (bd el : List St1) (hi : DC Try.prog 180 [.agg ix.cells] [] (fun r h => r = .agg (cyE true ix) ∧ h = [])) (hv : DC Try.prog 180 [.agg v.cells] [] (fun r h => r = .agg (cyE true v) ∧ h = []))
 (hb:DC Try.prog 86 [.c (.isl 11 (St1.cellsL bd))] [] (fun r h=>r = .c (.csl true 11 (cySL true bd))∧h=[])) (he:DC Try.prog 86 [.c (.isl 11 (St1.cellsL el))] [] (fun r h=>r = .c (.csl true 11 (cySL true el))∧h=[])) :
 DC Try.prog 144 [.agg (St1.mk k t ix v c bd el).cells] [] (fun r h=>r = .agg (cyS true (.mk k t ix v c bd el))∧h=[]):=by
 have hmx:=mx_eq
 obtain ⟨a1,b1,c1⟩:=ix
 obtain ⟨a2,b2,c2⟩:=v
 simp only [St1.cells,Ex.cells,cyE,cyS,List.cons_append,List.nil_append,List.append_assoc] at *
 refine dcZ Try.func144 ?_
 simp only [go_sem]
 iterate 20 ((try (refine drvZ Try.func144 ?_;simp only [go_sem]));((with_reducible and_intros)<;>try exact sd);(try first | refine XK.p hi ok180 ?_ | refine XK.gp hi ok180 ?_ | refine XK.p hv ok180 ?_ | refine XK.gp hv ok180 ?_ | refine XK.p hb ok86 ?_ | refine XK.gp hb ok86 ?_ | refine XK.p he ok86 ?_ | refine XK.gp he ok86 ?_))
 refine RetOb.ofQ (fun _=>none) [] (.agg [I64 k,I64 t,I64 a1,I64 b1,.csl true 3 (cyEL true c1),I64 a2,I64 b2,.csl true 3 (cyEL true c2),I64 c,.csl true 11 (cySL true bd),.csl true 11 (cySL true el)]) [] ?_ ⟨rfl,rfl⟩ (by simp)
 all_goals simp [Pg.cells,Mm.cells,St1.cells,Ex.cells,isI,enumL,DM,DMs,CM,CMs,HpOK,LowOK,hOf,upd,kf]
theorem toProgramY (p:Pg) (hv:DC Try.prog 74 [.c (isI p.vars)] [] (fun r h=>r = .c (.csl true 1 (p.vars.map fun n=>[I64 n]))∧h=[])) (ha:DC Try.prog 74 [.c (isI p.arrays)] [] (fun r h=>r = .c (.csl true 1 (p.arrays.map fun n=>[I64 n]))∧h=[])) (hb:DC Try.prog 86 [.c (.isl 11 (St1.cellsL p.body))] [] (fun r h=>r = .c (.csl true 11 (cySL true p.body))∧h=[])):DC Try.prog 24 [.agg p.cells] [] (fun r h=>r = .agg (cyP true p)∧h=[]):=by
 have hmx:=mx_eq
 obtain ⟨vs,ar,bd⟩:=p
 simp only [Pg.cells,Mm.cells,cyP,cyM,cyI] at *
 refine dcZ Try.func24 ?_
 simp only [go_sem]
 iterate 14 ((try (refine drvZ Try.func24 ?_;simp only [go_sem]));((with_reducible and_intros)<;>try exact sd);(try first | refine XK.p hv ok74 ?_ | refine XK.gp hv ok74 ?_ | refine XK.p ha ok74 ?_ | refine XK.gp ha ok74 ?_ | refine XK.p hb ok86 ?_ | refine XK.gp hb ok86 ?_))
 refine RetOb.ofQ (fun _=>none) [] (.agg [.csl true 1 (vs.map fun n=>[I64 n]),.csl true 1 (ar.map fun n=>[I64 n]),.csl true 11 (cySL true bd)]) [] ?_ ⟨rfl,rfl⟩ (by simp)
 all_goals simp [Pg.cells,Mm.cells,St1.cells,Ex.cells,isI,enumL,DM,DMs,CM,CMs,HpOK,LowOK,hOf,upd,kf]
theorem toMemoryY (m:Mm) (hv:DC Try.prog 74 [.c (isI m.vals)] [] (fun r h=>r = .c (.csl true 1 (m.vals.map fun n=>[I64 n]))∧h=[])) (ha:DC Try.prog 104 [.c (.isl 1 (m.arrays.map fun a=>[isI a]))] [] (fun r h=>r = .c (.csl true 1 (m.arrays.map fun a=>[cyI true a]))∧h=[])):DC Try.prog 46 [.agg m.cells] [] (fun r h=>r = .agg (cyM true m)∧h=[]):=by
 have hmx:=mx_eq
 obtain ⟨va,arr⟩:=m
 simp only [Pg.cells,Mm.cells,cyP,cyM,cyI] at *
 refine dcZ Try.func46 ?_
 simp only [go_sem]
 iterate 10 ((try (refine drvZ Try.func46 ?_;simp only [go_sem]));((with_reducible and_intros)<;>try exact sd);(try first | refine XK.p hv ok74 ?_ | refine XK.gp hv ok74 ?_ | refine XK.p ha ok104 ?_ | refine XK.gp ha ok104 ?_))
 refine RetOb.ofQ (fun _=>none) [] (.agg [.csl true 1 (va.map fun n=>[I64 n]),.csl true 1 (arr.map fun a=>[.csl true 1 (a.map fun n=>[I64 n])])]) [] ?_ ⟨rfl,rfl⟩ (by simp)
 all_goals simp [Pg.cells,Mm.cells,St1.cells,Ex.cells,isI,enumL,DM,DMs,CM,CMs,HpOK,LowOK,hOf,upd,kf]
theorem toExpr_y : ∀ (n : Nat) (e : Ex), SizeOf.sizeOf e ≤ n → ExN e → DC Try.prog 180 [.agg e.cells] [] (fun r h => r = .agg (cyE true e) ∧ h = [])
 | 0,.mk k v ks,h,_=>by simp at h
 | n+1,.mk k v ks,h,hb=>by
  cases hb with
  | mk _ _ _ hl hk =>
   simp only [Ex.cells,cyE]
   exact toExprY k v ks (toExprSY ks hl fun x hx=>toExpr_y n x (by have:=List.sizeOf_lt_of_mem hx;simp only [Ex.mk.sizeOf_spec] at h;omega) (hk x hx))
theorem toStmt_y : ∀ (n : Nat) (s : St1), SizeOf.sizeOf s ≤ n → StN s → DC Try.prog 144 [.agg s.cells] [] (fun r h => r = .agg (cyS true s) ∧ h = [])
 | 0,.mk k t ix v c b e,h,_=>by simp at h
 | n+1,.mk k t ix v c b e,h,hb=>by
  cases hb with
  | mk _ _ _ _ _ _ _ g1 g2 g3 g4 g5 g6 =>
   simp only [St1.mk.sizeOf_spec] at h
   exact toStmtY k t ix v c b e (toExpr_y _ ix (Nat.le_refl _) g1) (toExpr_y _ v (Nat.le_refl _) g2) (toStmtSY b g3 fun x hx => toStmt_y n x (by have := List.sizeOf_lt_of_mem hx; omega) (g5 x hx))
    (toStmtSY e g4 fun x hx=>toStmt_y n x (by have:=List.sizeOf_lt_of_mem hx;omega) (g6 x hx))
theorem toProgram_y (p:Pg) (hb:PgN p):DC Try.prog 24 [.agg p.cells] [] (fun r h=>r = .agg (cyP true p)∧h=[]) :=
 toProgramY p (toIntSY p.vars hb.nv) (toIntSY p.arrays hb.na) (toStmtSY p.body hb.nb fun x hx=>toStmt_y _ x (Nat.le_refl _) (hb.st x hx))
theorem toMemory_y (m:Mm) (hb:MmN m):DC Try.prog 46 [.agg m.cells] [] (fun r h=>r = .agg (cyM true m)∧h=[]) :=
 toMemoryY m (toIntSY m.vals hb.nv) (toIntSSY m.arrays hb.na fun x hx=>toIntSY x (hb.ar x hx))
end Go.Proofs.Ytddanjifhdaebaa.CtD
