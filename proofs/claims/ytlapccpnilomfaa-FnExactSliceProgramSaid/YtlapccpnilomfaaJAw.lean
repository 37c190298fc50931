/- Contracts of functions of the program, one behind the other, as plain data: what each call returns and which blocks it leaves. -/
import Derived.Test.YtlapccpnilomfaaJFacts
import Derived.Test.YtlapccpnilomfaaJAo
import Derived.Test.YtlapccpnilomfaaJAp
import Derived.Test.YtlapccpnilomfaaJAr
import Derived.Test.YtlapccpnilomfaaJAu
import Derived.Test.YtlapccpnilomfaaJAv
set_option linter.unusedVariables false
set_option linter.unusedSimpArgs false
set_option linter.unusedSectionVars false
set_option maxHeartbeats 16000000
set_option maxRecDepth 100000
namespace Go.Proofs.Ytlapccpnilomfaa.CtD
open Go Go.CT CtF CtR
variable [Yn]
theorem cyEL_at (y:Bool) {l:List Ex} {i:Nat} {e:Ex} (h:l[i]? = some e):(cyEL y l)[i]? = some (cyE y e):=by rw [cyEL_eq,List.getElem?_map,h];rfl
theorem cySL_at (y:Bool) {l:List St1} {i:Nat} {e:St1} (h:l[i]? = some e):(cySL y l)[i]? = some (cyS y e):=by rw [cySL_eq,List.getElem?_map,h];rfl
theorem cyE_len (y:Bool) (e:Ex):(cyE y e).length=3:=by cases e;simp [cyE]
theorem cyS_len (y:Bool) (e:St1):(cyS y e).length=11:=by cases e;simp [cyS,cyE_len]
theorem cyE_kf (y:Bool) (e:Ex):∀ c ∈ cyE y e,kf c=true:=by
 cases e;intro c hc;simp only [cyE,List.mem_cons,List.not_mem_nil,or_false] at hc;rcases hc with rfl | rfl | rfl<;>rfl
theorem cyS_kf (y:Bool) (e:St1):∀ c ∈ cyS y e,kf c=true:=by
 cases e;intro c hc
 simp only [cyS,List.mem_append,List.mem_cons,List.not_mem_nil,or_false] at hc
 rcases hc with (((rfl | rfl) | hc) | hc) | rfl | rfl | rfl<;>first | rfl | exact cyE_kf y _ c hc
theorem toIntSY (l:List (Int)) (hl:l.length≤1048576)  : DC Try.prog 21 [.c (.isl 1 (l.map fun n=>[I64 n]))] [] (fun r h=>r = .c (.csl true 1 (l.map fun n=>[I64 n]))∧h=[]):=by
 have hmx:=mx_eq
 have hrp:(l.map fun n=>[I64 n]).length=l.length:=by simp
 have hrl:(l.map fun n=>[I64 n]).length=l.length:=by simp
 have hrw:∀ x ∈ (l.map fun n=>[I64 n]),x.length=1:=fun x hx=>by obtain ⟨e,_,rfl⟩:=List.mem_map.1 hx;rfl
 have hrk:∀ x ∈ (l.map fun n=>[I64 n]),∀ c ∈ x,kf c=true:=fun x hx c hc=>by obtain ⟨e,_,rfl⟩:=List.mem_map.1 hx;simp only [List.mem_singleton] at hc;subst hc;rfl
 have ret:∀ (k n:Nat) (cs:List C) (hp:Hp),hp k=some (some cs)→cs=(l.map fun n=>[I64 n]).flatten→n=l.length→RetOb 0 (fun r h=>r = .c (.csl true 1 (l.map fun n=>[I64 n]))∧h=[]) (.c (.msl k 1 0 n)) hp:=fun k n cs hp h1 h2 h3=>RetOb.frozenY (xs:=(l.map fun n=>[I64 n])) ⟨rfl,rfl⟩ (by rw [h1,h2]) (by rw [h3,hrl]) hrw hrk
 generalize hR:(fun (r:D) (h:List (Option (List C)))=>r = .c (.csl true 1 (l.map fun n=>[I64 n]))∧h=[])=R at ret ⊢
 clear hR
 have flr:∀ i,i≤l.length→(((l.map fun n=>[I64 n]).take i).flatten).length=i * 1:=fun i hi=>by
  have:=List.length_flatten (L:=(l.map fun n=>[I64 n]).take i)
  rw [this,show (((l.map fun n=>[I64 n]).take i).map List.length)=List.replicate i 1 from List.eq_replicate_iff.2 ⟨by simp [hrl];omega,fun b hb=>by obtain ⟨x,hx,rfl⟩:=List.mem_map.1 hb;exact hrw x (List.mem_of_mem_take hx)⟩]
  simp
 have hzk:∀ c ∈ ([I64 0]:List C),kf c=true:=by simp [kf]
 have hbk0:∀ c ∈ (List.replicate l.length ([I64 0]:List C)).flatten,kf c=true:=fun c hc=>by
  obtain ⟨y,hy,h2⟩:=List.mem_flatten.1 hc
  rw [List.eq_of_mem_replicate hy] at h2
  exact hzk c h2
 refine dcZ Try.func21 ?_
 simp only [go_sem,hrp]
 iterate 4 ((try (refine drvZ Try.func21 ?_;simp only [go_sem,hrp]));((with_reducible and_intros)<;>try exact sd))
 refine Go.loopQ (fun i:Nat=>[(0,.c (.isl 1 (l.map fun n=>[I64 n]))),(3,.c (.msl 192 1 0 l.length)),(4,DI .i64 i)]) (fun i=>[(192,some (((l.map fun n=>[I64 n]).take i).flatten++(List.replicate (l.length - i) [I64 0]).flatten))]) 1024 (fun i=>i≤l.length) (fun i=>l.length - i) ?_ 0 some [] _ (by omega) ?_
 ·intro i hi again
  rcases Nat.lt_or_ge i l.length with hlt | hge
  ·obtain ⟨x,hx⟩:∃ x,l[i]? = some x:=⟨l[i],by simp [hlt]⟩
   have hxl:(l.map fun n=>[I64 n])[i]? = some [I64 x]:=by rw [List.getElem?_map,hx];rfl
   have hyl:(l.map fun n=>[I64 n])[i]? = some [I64 x]:=by rw [List.getElem?_map,hx];rfl
   have hput:=put_row (rows:=(l.map fun n=>[I64 n]).take i) (zs:=[I64 0]) (ds:=[I64 x]) (m:=l.length - (i+1)) (k:=1) (i:=i) rfl rfl (flr i hi)
   rw [show l.length - (i+1)+1=l.length - i by omega,← (show (l.map fun n=>[I64 n]).take (i+1)=(l.map fun n=>[I64 n]).take i++[[I64 x]] by rw [List.take_succ_eq_append_getElem (by rw [hrl];exact hlt)];congr 2;exact (List.getElem?_eq_some_iff.1 hyl).2)] at hput
   have hbl:(((l.map fun n=>[I64 n]).take i).flatten++(List.replicate (l.length - i) [I64 0]).flatten).length=l.length * 1:=by
    rw [List.length_append,flr i hi]
    have:((List.replicate (l.length - i) ([I64 0]:List C)).flatten).length=(l.length - i) * 1:=by simp
    rw [this];omega
   have hbk:∀ c ∈ ((l.map fun n=>[I64 n]).take (i+1)).flatten++(List.replicate (l.length - (i+1)) ([I64 0]:List C)).flatten,kf c=true:=fun c hc=>by
    rcases List.mem_append.1 hc with h1 | h1
    ·obtain ⟨y,hy,h2⟩:=List.mem_flatten.1 h1
     exact hrk y (List.mem_of_mem_take hy) c h2
    ·obtain ⟨y,hy,h2⟩:=List.mem_flatten.1 h1
     rw [List.eq_of_mem_replicate hy] at h2
     exact hzk c h2
   generalize hB1:((l.map fun n=>[I64 n]).take i).flatten++(List.replicate (l.length - i) ([I64 0]:List C)).flatten=B1 at *
   generalize hB2:((l.map fun n=>[I64 n]).take (i+1)).flatten++(List.replicate (l.length - (i+1)) ([I64 0]:List C)).flatten=B2 at *
   clear ret hrw hrk flr hyl
   generalize hRW:(l.map fun n=>[I64 n])=rows at *
   refine drvL Try.func21 ?_
   simp only [go_sem,hrp,hlt,hxl]
   iterate 6 ((try (refine drvZ Try.func21 ?_;simp only [go_sem,hrp,hlt,hxl,hput]));((with_reducible and_intros)<;>try exact sd))
   simp only [putCells,Nat.mul_one] at hput
   refine again (i+1) some [] _ hlt (by omega) ?_
   simp only [go_sem,TmOK,DM,DMs,CM,CMs,forall_eq,exists_eq_left,Mq,HpOK,LowOK,hput,hRW,hB2]
   exact ⟨⟨by simp,CMs.kf hbk⟩,by simp⟩
  ·obtain rfl:i=l.length:=by omega
   have hn:¬ l.length<l.length:=by omega
   have he:((l.map fun n=>[I64 n]).take l.length).flatten++(List.replicate (l.length - l.length) ([I64 0]:List C)).flatten=(l.map fun n=>[I64 n]).flatten:=by
    rw [List.take_of_length_le (by rw [hrl];exact Nat.le_refl _),Nat.sub_self];simp
   generalize hB1:((l.map fun n=>[I64 n]).take l.length).flatten++(List.replicate (l.length - l.length) ([I64 0]:List C)).flatten=B1 at *
   generalize hRY:(l.map fun n=>[I64 n]).flatten=ryf at *
   generalize hRW:(l.map fun n=>[I64 n])=rows at *
   refine drvL Try.func21 ?_
   simp only [go_sem,hrp,hn]
   iterate 3 ((try (refine drvZ Try.func21 ?_;simp only [go_sem,hrp,hn]));((with_reducible and_intros)<;>try exact sd))
   exact ret _ _ _ _ rfl he rfl
 ·simp only [go_sem,TmOK,DM,DMs,CM,CMs,forall_eq,exists_eq_left,Mq,HpOK,LowOK]
  refine ⟨⟨by simp,?_⟩,by simp⟩
  exact CMs.kf hbk0
theorem toExprSY (l:List (Ex)) (hl:l.length≤1048576) (hc:∀ x ∈ l,DC Try.prog 53 [.agg x.cells] [] (fun r h=>r = .agg (cyE true x)∧h=[])):DC Try.prog 62 [.c (.isl 3 (Ex.cellsL l))] [] (fun r h=>r = .c (.csl true 3 (cyEL true l))∧h=[]):=by
 have hmx:=mx_eq
 have hrp:(Ex.cellsL l).length=l.length:=by simp [Ex.cellsL_length]
 have hrl:(cyEL true l).length=l.length:=by simp [cyEL_eq]
 have hrw:∀ x ∈ (cyEL true l),x.length=3:=fun x hx=>by rw [cyEL_eq] at hx;obtain ⟨e,_,rfl⟩:=List.mem_map.1 hx;exact cyE_len true e
 have hrk:∀ x ∈ (cyEL true l),∀ c ∈ x,kf c=true:=fun x hx c hc=>by rw [cyEL_eq] at hx;obtain ⟨e,_,rfl⟩:=List.mem_map.1 hx;exact cyE_kf true e c hc
 have ret:∀ (k n:Nat) (cs:List C) (hp:Hp),hp k=some (some cs)→cs=(cyEL true l).flatten→n=l.length→RetOb 0 (fun r h=>r = .c (.csl true 3 (cyEL true l))∧h=[]) (.c (.msl k 3 0 n)) hp:=fun k n cs hp h1 h2 h3=>RetOb.frozenY (xs:=(cyEL true l)) ⟨rfl,rfl⟩ (by rw [h1,h2]) (by rw [h3,hrl]) hrw hrk
 generalize hR:(fun (r:D) (h:List (Option (List C)))=>r = .c (.csl true 3 (cyEL true l))∧h=[])=R at ret ⊢
 clear hR
 have flr:∀ i,i≤l.length→(((cyEL true l).take i).flatten).length=i * 3:=fun i hi=>by
  have:=List.length_flatten (L:=(cyEL true l).take i)
  rw [this,show (((cyEL true l).take i).map List.length)=List.replicate i 3 from List.eq_replicate_iff.2 ⟨by simp [hrl];omega,fun b hb=>by obtain ⟨x,hx,rfl⟩:=List.mem_map.1 hb;exact hrw x (List.mem_of_mem_take hx)⟩]
  simp
 have hzk:∀ c ∈ ([I64 0,I64 0,C.v (.slice none 0 0)]:List C),kf c=true:=by simp [kf]
 have hbk0:∀ c ∈ (List.replicate l.length ([I64 0,I64 0,C.v (.slice none 0 0)]:List C)).flatten,kf c=true:=fun c hc=>by
  obtain ⟨y,hy,h2⟩:=List.mem_flatten.1 hc
  rw [List.eq_of_mem_replicate hy] at h2
  exact hzk c h2
 refine dcZ Try.func62 ?_
 simp only [go_sem,hrp]
 iterate 4 ((try (refine drvZ Try.func62 ?_;simp only [go_sem,hrp]));((with_reducible and_intros)<;>try exact sd))
 refine Go.loopQ (fun i:Nat=>[(0,.c (.isl 3 (Ex.cellsL l))),(3,.c (.msl 192 3 0 l.length)),(4,DI .i64 i)]) (fun i=>[(192,some (((cyEL true l).take i).flatten++(List.replicate (l.length - i) [I64 0,I64 0,C.v (.slice none 0 0)]).flatten))]) 1024 (fun i=>i≤l.length) (fun i=>l.length - i) ?_ 0 some [] _ (by omega) ?_
 ·intro i hi again
  rcases Nat.lt_or_ge i l.length with hlt | hge
  ·obtain ⟨x,hx⟩:∃ x,l[i]? = some x:=⟨l[i],by simp [hlt]⟩
   have hcx:=hc x (List.mem_of_getElem? hx)
   obtain ⟨k0,v0,ks0⟩:=x
   have hxl:(Ex.cellsL l)[i]? = some [I64 k0,I64 v0,.isl 3 (Ex.cellsL ks0)]:=by rw [Ex.cellsL_eq,List.getElem?_map,hx];rfl
   have hyl:(cyEL true l)[i]? = some [I64 k0,I64 v0,.csl true 3 (cyEL true ks0)]:=by rw [cyEL_at true hx];rfl
   simp only [Ex.cells,St1.cells,cyE,cyS,isI,List.cons_append,List.nil_append,List.append_assoc] at hcx
   have hput:=put_row (rows:=(cyEL true l).take i) (zs:=[I64 0,I64 0,C.v (.slice none 0 0)]) (ds:=[I64 k0,I64 v0,.csl true 3 (cyEL true ks0)]) (m:=l.length - (i+1)) (k:=3) (i:=i) rfl rfl (flr i hi)
   rw [show l.length - (i+1)+1=l.length - i by omega,← (show (cyEL true l).take (i+1)=(cyEL true l).take i++[[I64 k0,I64 v0,.csl true 3 (cyEL true ks0)]] by rw [List.take_succ_eq_append_getElem (by rw [hrl];exact hlt)];congr 2;exact (List.getElem?_eq_some_iff.1 hyl).2)] at hput
   have hbl:(((cyEL true l).take i).flatten++(List.replicate (l.length - i) [I64 0,I64 0,C.v (.slice none 0 0)]).flatten).length=l.length * 3:=by
    rw [List.length_append,flr i hi]
    have:((List.replicate (l.length - i) ([I64 0,I64 0,C.v (.slice none 0 0)]:List C)).flatten).length=(l.length - i) * 3:=by simp
    rw [this];omega
   have hbk:∀ c ∈ ((cyEL true l).take (i+1)).flatten++(List.replicate (l.length - (i+1)) ([I64 0,I64 0,C.v (.slice none 0 0)]:List C)).flatten,kf c=true:=fun c hc=>by
    rcases List.mem_append.1 hc with h1 | h1
    ·obtain ⟨y,hy,h2⟩:=List.mem_flatten.1 h1
     exact hrk y (List.mem_of_mem_take hy) c h2
    ·obtain ⟨y,hy,h2⟩:=List.mem_flatten.1 h1
     rw [List.eq_of_mem_replicate hy] at h2
     exact hzk c h2
   generalize hB1:((cyEL true l).take i).flatten++(List.replicate (l.length - i) ([I64 0,I64 0,C.v (.slice none 0 0)]:List C)).flatten=B1 at *
   generalize hB2:((cyEL true l).take (i+1)).flatten++(List.replicate (l.length - (i+1)) ([I64 0,I64 0,C.v (.slice none 0 0)]:List C)).flatten=B2 at *
   clear ret hrw hrk flr hyl
   generalize hRW:(Ex.cellsL l)=rows at *
   refine drvL Try.func62 ?_
   simp only [go_sem,hrp,hlt,hxl]
   iterate 6 ((try (refine drvZ Try.func62 ?_;simp only [go_sem,hrp,hlt,hxl,hput]));((with_reducible and_intros)<;>try exact sd);(try first | refine XK.p hcx ok53 ?_ | refine XK.gp hcx ok53 ?_))
   simp only [putCells,Nat.mul_one] at hput
   refine again (i+1) some [] _ hlt (by omega) ?_
   simp only [go_sem,TmOK,DM,DMs,CM,CMs,forall_eq,exists_eq_left,Mq,HpOK,LowOK,hput,hRW,hB2]
   exact ⟨⟨by simp,CMs.kf hbk⟩,by simp⟩
  ·obtain rfl:i=l.length:=by omega
   have hn:¬ l.length<l.length:=by omega
   have he:((cyEL true l).take l.length).flatten++(List.replicate (l.length - l.length) ([I64 0,I64 0,C.v (.slice none 0 0)]:List C)).flatten=(cyEL true l).flatten:=by
    rw [List.take_of_length_le (by rw [hrl];exact Nat.le_refl _),Nat.sub_self];simp
   generalize hB1:((cyEL true l).take l.length).flatten++(List.replicate (l.length - l.length) ([I64 0,I64 0,C.v (.slice none 0 0)]:List C)).flatten=B1 at *
   generalize hRY:(cyEL true l).flatten=ryf at *
   generalize hRW:(Ex.cellsL l)=rows at *
   refine drvL Try.func62 ?_
   simp only [go_sem,hrp,hn]
   iterate 3 ((try (refine drvZ Try.func62 ?_;simp only [go_sem,hrp,hn]));((with_reducible and_intros)<;>try exact sd))
   exact ret _ _ _ _ rfl he rfl
 ·simp only [go_sem,TmOK,DM,DMs,CM,CMs,forall_eq,exists_eq_left,Mq,HpOK,LowOK]
  refine ⟨⟨by simp,?_⟩,by simp⟩
  exact CMs.kf hbk0
theorem toStmtSY (l:List (St1)) (hl:l.length≤1048576) (hc:∀ x ∈ l,DC Try.prog 41 [.agg x.cells] [] (fun r h=>r = .agg (cyS true x)∧h=[])):DC Try.prog 22 [.c (.isl 11 (St1.cellsL l))] [] (fun r h=>r = .c (.csl true 11 (cySL true l))∧h=[]):=by
 have hmx:=mx_eq
 have hrp:(St1.cellsL l).length=l.length:=by simp [St1.cellsL_length]
 have hrl:(cySL true l).length=l.length:=by simp [cySL_eq]
 have hrw:∀ x ∈ (cySL true l),x.length=11:=fun x hx=>by rw [cySL_eq] at hx;obtain ⟨e,_,rfl⟩:=List.mem_map.1 hx;exact cyS_len true e
 have hrk:∀ x ∈ (cySL true l),∀ c ∈ x,kf c=true:=fun x hx c hc=>by rw [cySL_eq] at hx;obtain ⟨e,_,rfl⟩:=List.mem_map.1 hx;exact cyS_kf true e c hc
 have ret:∀ (k n:Nat) (cs:List C) (hp:Hp),hp k=some (some cs)→cs=(cySL true l).flatten→n=l.length→RetOb 0 (fun r h=>r = .c (.csl true 11 (cySL true l))∧h=[]) (.c (.msl k 11 0 n)) hp:=fun k n cs hp h1 h2 h3=>RetOb.frozenY (xs:=(cySL true l)) ⟨rfl,rfl⟩ (by rw [h1,h2]) (by rw [h3,hrl]) hrw hrk
 generalize hR:(fun (r:D) (h:List (Option (List C)))=>r = .c (.csl true 11 (cySL true l))∧h=[])=R at ret ⊢
 clear hR
 have flr:∀ i,i≤l.length→(((cySL true l).take i).flatten).length=i * 11:=fun i hi=>by
  have:=List.length_flatten (L:=(cySL true l).take i)
  rw [this,show (((cySL true l).take i).map List.length)=List.replicate i 11 from List.eq_replicate_iff.2 ⟨by simp [hrl];omega,fun b hb=>by obtain ⟨x,hx,rfl⟩:=List.mem_map.1 hb;exact hrw x (List.mem_of_mem_take hx)⟩]
  simp
 have hzk:∀ c ∈ ([I64 0,I64 0,I64 0,I64 0,.v (.slice none 0 0),I64 0,I64 0,.v (.slice none 0 0),I64 0,.v (.slice none 0 0),C.v (.slice none 0 0)]:List C),kf c=true:=by simp [kf]
 have hbk0:∀ c ∈ (List.replicate l.length ([I64 0,I64 0,I64 0,I64 0,.v (.slice none 0 0),I64 0,I64 0,.v (.slice none 0 0),I64 0,.v (.slice none 0 0),C.v (.slice none 0 0)]:List C)).flatten,kf c=true:=fun c hc=>by
  obtain ⟨y,hy,h2⟩:=List.mem_flatten.1 hc
  rw [List.eq_of_mem_replicate hy] at h2
  exact hzk c h2
 refine dcZ Try.func22 ?_
 simp only [go_sem,hrp]
 iterate 4 ((try (refine drvZ Try.func22 ?_;simp only [go_sem,hrp]));((with_reducible and_intros)<;>try exact sd))
 refine Go.loopQ (fun i:Nat=>[(0,.c (.isl 11 (St1.cellsL l))),(3,.c (.msl 192 11 0 l.length)),(4,DI .i64 i)]) (fun i=>[(192,some (((cySL true l).take i).flatten++(List.replicate (l.length - i) [I64 0,I64 0,I64 0,I64 0,.v (.slice none 0 0),I64 0,I64 0,.v (.slice none 0 0),I64 0,.v (.slice none 0 0),C.v (.slice none 0 0)]).flatten))]) 1024 (fun i=>i≤l.length) (fun i=>l.length - i) ?_ 0 some [] _ (by omega) ?_
 ·intro i hi again
  rcases Nat.lt_or_ge i l.length with hlt | hge
  ·obtain ⟨x,hx⟩:∃ x,l[i]? = some x:=⟨l[i],by simp [hlt]⟩
   have hcx:=hc x (List.mem_of_getElem? hx)
   obtain ⟨k0,t0,⟨a1,b1,c1⟩,⟨a2,b2,c2⟩,c0,bd0,el0⟩:=x
   have hxl:(St1.cellsL l)[i]? = some [I64 k0,I64 t0,I64 a1,I64 b1,.isl 3 (Ex.cellsL c1),I64 a2,I64 b2,.isl 3 (Ex.cellsL c2),I64 c0,.isl 11 (St1.cellsL bd0),.isl 11 (St1.cellsL el0)]:=by rw [St1.cellsL_eq,List.getElem?_map,hx];rfl
   have hyl:(cySL true l)[i]? = some [I64 k0,I64 t0,I64 a1,I64 b1,.csl true 3 (cyEL true c1),I64 a2,I64 b2,.csl true 3 (cyEL true c2),I64 c0,.csl true 11 (cySL true bd0),.csl true 11 (cySL true el0)]:=by rw [cySL_at true hx];rfl
   simp only [Ex.cells,St1.cells,cyE,cyS,isI,List.cons_append,List.nil_append,List.append_assoc] at hcx
   have hput:=put_row (rows:=(cySL true l).take i) (zs:=[I64 0,I64 0,I64 0,I64 0,.v (.slice none 0 0),I64 0,I64 0,.v (.slice none 0 0),I64 0,.v (.slice none 0 0),C.v (.slice none 0 0)]) (ds:=[I64 k0,I64 t0,I64 a1,I64 b1,.csl true 3 (cyEL true c1),I64 a2,I64 b2,.csl true 3 (cyEL true c2),I64 c0,.csl true 11 (cySL true bd0),.csl true 11 (cySL true el0)]) (m:=l.length - (i+1)) (k:=11) (i:=i) rfl rfl (flr i hi)
   rw [show l.length - (i+1)+1=l.length - i by omega,← (show (cySL true l).take (i+1)=(cySL true l).take i++[[I64 k0,I64 t0,I64 a1,I64 b1,.csl true 3 (cyEL true c1),I64 a2,I64 b2,.csl true 3 (cyEL true c2),I64 c0,.csl true 11 (cySL true bd0),.csl true 11 (cySL true el0)]] by rw [List.take_succ_eq_append_getElem (by rw [hrl];exact hlt)];congr 2;exact (List.getElem?_eq_some_iff.1 hyl).2)] at hput
   have hbl:(((cySL true l).take i).flatten++(List.replicate (l.length - i) [I64 0,I64 0,I64 0,I64 0,.v (.slice none 0 0),I64 0,I64 0,.v (.slice none 0 0),I64 0,.v (.slice none 0 0),C.v (.slice none 0 0)]).flatten).length=l.length * 11:=by
    rw [List.length_append,flr i hi]
    have:((List.replicate (l.length - i) ([I64 0,I64 0,I64 0,I64 0,.v (.slice none 0 0),I64 0,I64 0,.v (.slice none 0 0),I64 0,.v (.slice none 0 0),C.v (.slice none 0 0)]:List C)).flatten).length=(l.length - i) * 11:=by simp
    rw [this];omega
   have hbk:∀ c ∈ ((cySL true l).take (i+1)).flatten++(List.replicate (l.length - (i+1)) ([I64 0,I64 0,I64 0,I64 0,.v (.slice none 0 0),I64 0,I64 0,.v (.slice none 0 0),I64 0,.v (.slice none 0 0),C.v (.slice none 0 0)]:List C)).flatten,kf c=true:=fun c hc=>by
    rcases List.mem_append.1 hc with h1 | h1
    ·obtain ⟨y,hy,h2⟩:=List.mem_flatten.1 h1
     exact hrk y (List.mem_of_mem_take hy) c h2
    ·obtain ⟨y,hy,h2⟩:=List.mem_flatten.1 h1
     rw [List.eq_of_mem_replicate hy] at h2
     exact hzk c h2
   generalize hB1:((cySL true l).take i).flatten++(List.replicate (l.length - i) ([I64 0,I64 0,I64 0,I64 0,.v (.slice none 0 0),I64 0,I64 0,.v (.slice none 0 0),I64 0,.v (.slice none 0 0),C.v (.slice none 0 0)]:List C)).flatten=B1 at *
   generalize hB2:((cySL true l).take (i+1)).flatten++(List.replicate (l.length - (i+1)) ([I64 0,I64 0,I64 0,I64 0,.v (.slice none 0 0),I64 0,I64 0,.v (.slice none 0 0),I64 0,.v (.slice none 0 0),C.v (.slice none 0 0)]:List C)).flatten=B2 at *
   clear ret hrw hrk flr hyl
   generalize hRW:(St1.cellsL l)=rows at *
   refine drvL Try.func22 ?_
   simp only [go_sem,hrp,hlt,hxl]
   iterate 6 ((try (refine drvZ Try.func22 ?_;simp only [go_sem,hrp,hlt,hxl,hput]));((with_reducible and_intros)<;>try exact sd);(try first | refine XK.p hcx ok41 ?_ | refine XK.gp hcx ok41 ?_))
   simp only [putCells,Nat.mul_one] at hput
   refine again (i+1) some [] _ hlt (by omega) ?_
   simp only [go_sem,TmOK,DM,DMs,CM,CMs,forall_eq,exists_eq_left,Mq,HpOK,LowOK,hput,hRW,hB2]
   exact ⟨⟨by simp,CMs.kf hbk⟩,by simp⟩
  ·obtain rfl:i=l.length:=by omega
   have hn:¬ l.length<l.length:=by omega
   have he:((cySL true l).take l.length).flatten++(List.replicate (l.length - l.length) ([I64 0,I64 0,I64 0,I64 0,.v (.slice none 0 0),I64 0,I64 0,.v (.slice none 0 0),I64 0,.v (.slice none 0 0),C.v (.slice none 0 0)]:List C)).flatten=(cySL true l).flatten:=by
    rw [List.take_of_length_le (by rw [hrl];exact Nat.le_refl _),Nat.sub_self];simp
   generalize hB1:((cySL true l).take l.length).flatten++(List.replicate (l.length - l.length) ([I64 0,I64 0,I64 0,I64 0,.v (.slice none 0 0),I64 0,I64 0,.v (.slice none 0 0),I64 0,.v (.slice none 0 0),C.v (.slice none 0 0)]:List C)).flatten=B1 at *
   generalize hRY:(cySL true l).flatten=ryf at *
   generalize hRW:(St1.cellsL l)=rows at *
   refine drvL Try.func22 ?_
   simp only [go_sem,hrp,hn]
   iterate 3 ((try (refine drvZ Try.func22 ?_;simp only [go_sem,hrp,hn]));((with_reducible and_intros)<;>try exact sd))
   exact ret _ _ _ _ rfl he rfl
 ·simp only [go_sem,TmOK,DM,DMs,CM,CMs,forall_eq,exists_eq_left,Mq,HpOK,LowOK]
  refine ⟨⟨by simp,?_⟩,by simp⟩
  exact CMs.kf hbk0
theorem toExprY (k v:Int) (ks:List Ex) (hc:DC Try.prog 62 [.c (.isl 3 (Ex.cellsL ks))] [] (fun r h=>r = .c (.csl true 3 (cyEL true ks))∧h=[])):DC Try.prog 53 [.agg [I64 k,I64 v,.isl 3 (Ex.cellsL ks)]] [] (fun r h=>r = .agg [I64 k,I64 v,.csl true 3 (cyEL true ks)]∧h=[]):=by
 have hmx:=mx_eq
 refine dcZ Try.func53 ?_
 simp only [go_sem]
 iterate 8 ((try (refine drvZ Try.func53 ?_;simp only [go_sem]));((with_reducible and_intros)<;>try exact sd);(try first | refine XK.p hc ok62 ?_ | refine XK.gp hc ok62 ?_))
 refine RetOb.ofQ (fun _=>none) [] (.agg [I64 k,I64 v,.csl true 3 (cyEL true ks)]) [] ?_ ⟨rfl,rfl⟩ (by simp)
 all_goals simp [Pg.cells,Mm.cells,St1.cells,Ex.cells,isI,enumL,DM,DMs,CM,CMs,HpOK,LowOK,hOf,upd,kf]
theorem toStmtY (k t : Int) (ix v : Ex) (c : Int) (bd el : List St1) (hi : DC Try.prog 53 [.agg ix.cells] [] (fun r h => r = .agg (cyE true ix) ∧ h = [])) (hv : DC Try.prog 53 [.agg v.cells] [] (fun r h => r = .agg (cyE true v) ∧ h = []))
 (hb:DC Try.prog 22 [.c (.isl 11 (St1.cellsL bd))] [] (fun r h=>r = .c (.csl true 11 (cySL true bd))∧h=[])) (he:DC Try.prog 22 [.c (.isl 11 (St1.cellsL el))] [] (fun r h=>r = .c (.csl true 11 (cySL true el))∧h=[])) :
 DC Try.prog 41 [.agg (St1.mk k t ix v c bd el).cells] [] (fun r h=>r = .agg (cyS true (.mk k t ix v c bd el))∧h=[]):=by
 have hmx:=mx_eq
 obtain ⟨a1,b1,c1⟩:=ix
 obtain ⟨a2,b2,c2⟩:=v
 simp only [St1.cells,Ex.cells,cyE,cyS,List.cons_append,List.nil_append,List.append_assoc] at *
 refine dcZ Try.func41 ?_
 simp only [go_sem]
 iterate 20 ((try (refine drvZ Try.func41 ?_;simp only [go_sem]));((with_reducible and_intros)<;>try exact sd);(try first | refine XK.p hi ok53 ?_ | refine XK.gp hi ok53 ?_ | refine XK.p hv ok53 ?_ | refine XK.gp hv ok53 ?_ | refine XK.p hb ok22 ?_ | refine XK.gp hb ok22 ?_ | refine XK.p he ok22 ?_ | refine XK.gp he ok22 ?_))
 refine RetOb.ofQ (fun _=>none) [] (.agg [I64 k,I64 t,I64 a1,I64 b1,.csl true 3 (cyEL true c1),I64 a2,I64 b2,.csl true 3 (cyEL true c2),I64 c,.csl true 11 (cySL true bd),.csl true 11 (cySL true el)]) [] ?_ ⟨rfl,rfl⟩ (by simp)
 all_goals simp [Pg.cells,Mm.cells,St1.cells,Ex.cells,isI,enumL,DM,DMs,CM,CMs,HpOK,LowOK,hOf,upd,kf]
theorem toProgramY (p:Pg) (hv:DC Try.prog 21 [.c (isI p.vars)] [] (fun r h=>r = .c (.csl true 1 (p.vars.map fun n=>[I64 n]))∧h=[])) (ha:DC Try.prog 21 [.c (isI p.arrays)] [] (fun r h=>r = .c (.csl true 1 (p.arrays.map fun n=>[I64 n]))∧h=[])) (hb:DC Try.prog 22 [.c (.isl 11 (St1.cellsL p.body))] [] (fun r h=>r = .c (.csl true 11 (cySL true p.body))∧h=[])):DC Try.prog 6 [.agg p.cells] [] (fun r h=>r = .agg (cyP true p)∧h=[]):=by
 have hmx:=mx_eq
 obtain ⟨vs,ar,bd⟩:=p
 simp only [Pg.cells,Mm.cells,cyP,cyM,cyI] at *
 refine dcZ Try.func6 ?_
 simp only [go_sem]
 iterate 14 ((try (refine drvZ Try.func6 ?_;simp only [go_sem]));((with_reducible and_intros)<;>try exact sd);(try first | refine XK.p hv ok21 ?_ | refine XK.gp hv ok21 ?_ | refine XK.p ha ok21 ?_ | refine XK.gp ha ok21 ?_ | refine XK.p hb ok22 ?_ | refine XK.gp hb ok22 ?_))
 refine RetOb.ofQ (fun _=>none) [] (.agg [.csl true 1 (vs.map fun n=>[I64 n]),.csl true 1 (ar.map fun n=>[I64 n]),.csl true 11 (cySL true bd)]) [] ?_ ⟨rfl,rfl⟩ (by simp)
 all_goals simp [Pg.cells,Mm.cells,St1.cells,Ex.cells,isI,enumL,DM,DMs,CM,CMs,HpOK,LowOK,hOf,upd,kf]
theorem toExpr_y : ∀ (n : Nat) (e : Ex), SizeOf.sizeOf e ≤ n → ExN e → DC Try.prog 53 [.agg e.cells] [] (fun r h => r = .agg (cyE true e) ∧ h = [])
 | 0,.mk k v ks,h,_=>by simp at h
 | n+1,.mk k v ks,h,hb=>by
  cases hb with
  | mk _ _ _ hl hk =>
   simp only [Ex.cells,cyE]
   exact toExprY k v ks (toExprSY ks hl fun x hx=>toExpr_y n x (by have:=List.sizeOf_lt_of_mem hx;simp only [Ex.mk.sizeOf_spec] at h;omega) (hk x hx))
theorem toStmt_y : ∀ (n : Nat) (s : St1), SizeOf.sizeOf s ≤ n → StN s → DC Try.prog 41 [.agg s.cells] [] (fun r h => r = .agg (cyS true s) ∧ h = [])
 | 0,.mk k t ix v c b e,h,_=>by simp at h
 | n+1,.mk k t ix v c b e,h,hb=>by
  cases hb with
  | mk _ _ _ _ _ _ _ g1 g2 g3 g4 g5 g6 =>
   simp only [St1.mk.sizeOf_spec] at h
   exact toStmtY k t ix v c b e (toExpr_y _ ix (Nat.le_refl _) g1) (toExpr_y _ v (Nat.le_refl _) g2) (toStmtSY b g3 fun x hx => toStmt_y n x (by have := List.sizeOf_lt_of_mem hx; omega) (g5 x hx))
    (toStmtSY e g4 fun x hx=>toStmt_y n x (by have:=List.sizeOf_lt_of_mem hx;omega) (g6 x hx))
theorem toProgram_y (p:Pg) (hb:PgN p):DC Try.prog 6 [.agg p.cells] [] (fun r h=>r = .agg (cyP true p)∧h=[]) :=
 toProgramY p (toIntSY p.vars hb.nv) (toIntSY p.arrays hb.na) (toStmtSY p.body hb.nb fun x hx=>toStmt_y _ x (Nat.le_refl _) (hb.st x hx))
theorem TL.nil {tm:Nat→Option D}:∀ p ∈ ([]:List (Nat × D)),tm p.1=some p.2∧WsD p.2:=fun p h=>by simp at h
theorem TL.cons {tm:Nat→Option D} {n:Nat} {d:D} {l:List (Nat × D)} (h1:tm n=some d) (h2:WsD d) (h:∀ p ∈ l,tm p.1=some p.2∧WsD p.2):∀ p ∈ (n,d) :: l,tm p.1=some p.2∧WsD p.2:=fun p hp=>by
 rcases List.mem_cons.1 hp with rfl | hp
 ·exact ⟨h1,h2⟩
 ·exact h p hp
theorem hh0:∀ k cs,hOf [] k=some (some cs)→∀ c ∈ cs,Ws c:=fun k cs h=>by simp [hOf] at h
theorem hhL:∀ k cs,hpL [] k=some (some cs)→∀ c ∈ cs,Ws c:=fun k cs h=>by simp [hpL] at h
theorem hh1 {hp:Hp} {n:Nat} {cs0:List C} (h0:∀ c ∈ cs0,Ws c) (h:∀ k cs,hp k=some (some cs)→∀ c ∈ cs,Ws c):∀ k cs,upd hp n (some (some cs0)) k=some (some cs)→∀ c ∈ cs,Ws c:=fun k cs e=>by
 simp only [upd] at e
 split at e
 ·cases e;exact h0
 ·exact h k cs e
mutual
def ctE : Ex → Nat
 | .mk _ _ ks=>ctEL ks
def ctEL : List Ex → Nat
 | []=>0
 | e :: r=>(2+ctE e)+ctEL r
end
theorem ctEL_eq : ∀ l : List Ex, ctEL l = (l.map fun e => 2 + ctE e).sum
 | []=>rfl
 | e :: r=>by simp only [ctEL,List.map_cons,List.sum_cons,ctEL_eq r]
mutual
def ctS : St1 → Nat
 | .mk _ _ ix v _ b e=>ctE ix+ctE v+ctSL b+ctSL e
def ctSL : List St1 → Nat
 | []=>0
 | s :: r=>(7+ctS s)+ctSL r
end
theorem ctSL_eq : ∀ l : List St1, ctSL l = (l.map fun e => 7 + ctS e).sum
 | []=>rfl
 | e :: r=>by simp only [ctSL,List.map_cons,List.sum_cons,ctSL_eq r]
theorem cnEL_at {l:List Ex} {i:Nat} {e:Ex} (h:l[i]? = some e):(cnEL l)[i]? = some (cnE e):=by rw [cnEL_eq,List.getElem?_map,h];rfl
theorem cnSL_at {l:List St1} {i:Nat} {e:St1} (h:l[i]? = some e):(cnSL l)[i]? = some (cnS e):=by rw [cnSL_eq,List.getElem?_map,h];rfl
theorem sum_one {α : Type} : ∀ l : List α, (l.map fun _ => 1).sum = l.length
 | []=>rfl
 | a :: r=>by simp only [List.map_cons,List.sum_cons,List.length_cons,sum_one r];omega
theorem markIntSW (h0:Yn.n=0) (l:List Int) (hl:l.length≤1048576) (k:Int) (hk:0≤k) (hb:k+(l.length:Nat)≤1099511627776)  : DW Try.prog 31 [.c (.isl 1 (l.map fun _=>[C.num .i64])),DI .i64 k] (fun n=>n=k+(l.length:Nat)):=by
 have hmx:=mx_eq
 have hrl:(l.map fun _=>[C.num .i64]).length=l.length:=by simp
 have hws:WsD (.c (.isl 1 (l.map fun _=>[C.num .i64]))) := .mm (cnI_mk l)
 have hf:∀ (i:Nat) (x:Int),l[i]? = some x→((l.map (fun _=>1)).take (i+1)).sum=((l.map (fun _=>1)).take i).sum+(fun _=>1) x∧((l.map (fun _=>1)).take i).sum+(fun _=>1) x≤(l.map (fun _=>1)).sum:=fun i x h=>by
  have:=sum_take (fun _=>1) h
  rwa [List.map_take,List.map_take] at this
 have htot:l.length=(l.map (fun _=>1)).sum:=(sum_one l).symm
 have ret:∀ (n:Int) (hp:Hp),n=k+(l.length:Nat)→RetOb 0 (fun d h'=>(∃ n,d=DI .i64 n∧n=k+(l.length:Nat))∧h'=[]) (DI .i64 n) hp:=fun n hp h=>RetOb.plain ⟨⟨n,rfl,h⟩,rfl⟩ rfl
 refine dwZ h0 Try.func31 ?_
 generalize hR:(fun (d:D) (h':List (Option (List C)))=>(∃ n,d=DI .i64 n∧n=k+(l.length:Nat))∧h'=[])=R at ret ⊢
 clear hR
 simp only [go_sem,hrl]
 iterate 3 ((try (refine drvZW Try.func31 ?_;simp only [go_sem,hrl]));((with_reducible and_intros)<;>try exact sd))
 refine Go.loopQ (fun i:Nat=>[(0,.c (.isl 1 (l.map fun _=>[C.num .i64]))),(1,DI .i64 (k+(((l.map (fun _=>1)).take i).sum:Nat))),(5,DI .i64 i)]) (fun i=>[]) 1024 (fun i=>i≤l.length) (fun i=>l.length - i) ?_ 0 some [] _ (by omega) ?_
 ·intro i hi again
  rcases Nat.lt_or_ge i l.length with hlt | hge
  ·obtain ⟨x,hx⟩:∃ x,l[i]? = some x:=⟨l[i],by simp [hlt]⟩
   obtain ⟨hs1,hs2⟩:=hf i x hx
   have hmem:=List.mem_of_getElem? hx
   have hxl:(l.map fun _=>[C.num .i64])[i]? = some [C.num .i64]:=by rw [List.getElem?_map,hx];rfl
   rw [← htot] at hs2
   try dsimp only at hs1 hs2
   try simp only [ctE,ctS] at hs1 hs2
   generalize ((l.map (fun _=>1)).take i).sum=A at *
   generalize (l.map fun _=>[C.num .i64])=rows at *
   refine drvLW Try.func31 ?_
   simp only [go_sem,hrl,hlt,hxl]
   ((try (refine drvZW Try.func31 ?_;simp only [go_sem,hrl,hlt,hxl]));((with_reducible and_intros)<;>try exact sd))
   refine XK.wst h0 [(0,.c (.isl 1 rows)),(1,DI .i64 (k+(A:Nat))),(5,DI .i64 i)] hh0 (TL.cons rfl hws (TL.cons rfl (.v _) (TL.cons rfl (.v _) TL.nil))) ?_
   iterate 3 ((try (refine drvZW Try.func31 ?_;simp only [go_sem,hrl,hlt,hxl]));((with_reducible and_intros)<;>try exact sd))
   refine again (i+1) some [] _ hlt (by omega) ?_
   simp only [go_sem,TmOK,DM,DMs,CM,CMs,forall_eq,exists_eq_left,Mq,HpOK,LowOK]
   simp
   rw [hs1]
   omega
  ·obtain rfl:i=l.length:=by omega
   have hn:¬ l.length<l.length:=by omega
   refine drvLW Try.func31 ?_
   simp only [go_sem,hrl,hn]
   iterate 3 ((try (refine drvZW Try.func31 ?_;simp only [go_sem,hrl,hn]));((with_reducible and_intros)<;>try exact sd))
   exact ret _ _ (by rw [List.take_of_length_le (by simp),htot])
 ·simp only [go_sem,TmOK,DM,DMs,CM,CMs,forall_eq,exists_eq_left,Mq,HpOK,LowOK]
  simp
theorem markExprSWOf (h0:Yn.n=0) (l:List Ex) (hl:l.length≤1048576) (k:Int) (hk:0≤k) (hb:k+(ctEL l:Nat)≤1099511627776) (hc:∀ x ∈ l,∀ k:Int,0≤k→k+(ctEL x.kids:Nat)≤1099511627776→DW Try.prog 48 [.c (.isl 3 (cnEL x.kids)),DI .i64 k] (fun n=>n=k+(ctEL x.kids:Nat))):DW Try.prog 48 [.c (.isl 3 (cnEL l)),DI .i64 k] (fun n=>n=k+(ctEL l:Nat)):=by
 have hmx:=mx_eq
 have hrl:(cnEL l).length=l.length:=by simp [cnEL_eq]
 have hws:WsD (.c (.isl 3 (cnEL l))) := .mm (cnEL_mk l)
 have hf:∀ (i:Nat) (x:Ex),l[i]? = some x→((l.map (fun e=>2+ctE e)).take (i+1)).sum=((l.map (fun e=>2+ctE e)).take i).sum+(fun e=>2+ctE e) x∧((l.map (fun e=>2+ctE e)).take i).sum+(fun e=>2+ctE e) x≤(l.map (fun e=>2+ctE e)).sum:=fun i x h=>by
  have:=sum_take (fun e=>2+ctE e) h
  rwa [List.map_take,List.map_take] at this
 have htot:ctEL l=(l.map (fun e=>2+ctE e)).sum:=ctEL_eq l
 have ret:∀ (n:Int) (hp:Hp),n=k+(ctEL l:Nat)→RetOb 0 (fun d h'=>(∃ n,d=DI .i64 n∧n=k+(ctEL l:Nat))∧h'=[]) (DI .i64 n) hp:=fun n hp h=>RetOb.plain ⟨⟨n,rfl,h⟩,rfl⟩ rfl
 refine dwZ h0 Try.func48 ?_
 generalize hR:(fun (d:D) (h':List (Option (List C)))=>(∃ n,d=DI .i64 n∧n=k+(ctEL l:Nat))∧h'=[])=R at ret ⊢
 clear hR
 simp only [go_sem,hrl]
 iterate 3 ((try (refine drvZW Try.func48 ?_;simp only [go_sem,hrl]));((with_reducible and_intros)<;>try exact sd))
 refine Go.loopQ (fun i:Nat=>[(0,.c (.isl 3 (cnEL l))),(1,DI .i64 (k+(((l.map (fun e=>2+ctE e)).take i).sum:Nat))),(5,DI .i64 i)]) (fun i=>[]) 1024 (fun i=>i≤l.length) (fun i=>l.length - i) ?_ 0 some [] _ (by omega) ?_
 ·intro i hi again
  rcases Nat.lt_or_ge i l.length with hlt | hge
  ·obtain ⟨x,hx⟩:∃ x,l[i]? = some x:=⟨l[i],by simp [hlt]⟩
   obtain ⟨hs1,hs2⟩:=hf i x hx
   have hmem:=List.mem_of_getElem? hx
   have hcm:=hc _ hmem
   obtain ⟨k0,v0,ks⟩:=x
   simp only [Ex.kids,St1.body,St1.els] at hcm
   have hxl:(cnEL l)[i]? = some [.num .i64,.num .i64,.isl 3 (cnEL ks)]:=by rw [cnEL_at hx];rfl
   rw [← htot] at hs2
   try dsimp only at hs1 hs2
   try simp only [ctE,ctS] at hs1 hs2
   generalize ((l.map (fun e=>2+ctE e)).take i).sum=A at *
   generalize (cnEL l)=rows at *
   refine drvLW Try.func48 ?_
   simp only [go_sem,hrl,hlt,hxl]
   ((try (refine drvZW Try.func48 ?_;simp only [go_sem,hrl,hlt,hxl]));((with_reducible and_intros)<;>try exact sd))
   refine XK.wst h0 [(0,.c (.isl 3 rows)),(1,DI .i64 (k+(A:Nat))),(5,DI .i64 i)] hh0 (TL.cons rfl hws (TL.cons rfl (.v _) (TL.cons rfl (.v _) TL.nil))) ?_
   iterate 3 ((try (refine drvZW Try.func48 ?_;simp only [go_sem,hrl,hlt,hxl]));((with_reducible and_intros)<;>try exact sd))
   refine XK.wst h0 [(0,.c (.isl 3 rows)),(1,DI .i64 (k+(A:Nat)+1)),(5,DI .i64 i)] hh0 (TL.cons rfl hws (TL.cons rfl (.v _) (TL.cons rfl (.v _) TL.nil))) ?_
   iterate 3 ((try (refine drvZW Try.func48 ?_;simp only [go_sem,hrl,hlt,hxl]));((with_reducible and_intros)<;>try exact sd))
   have hc1:=hcm (k+(A:Nat)+1+1) (by omega) (by omega)
   refine XK.wcall h0 [(0,.c (.isl 3 rows)),(5,DI .i64 i)] hc1 ok48 hh0 (TL.cons rfl hws (TL.cons rfl (.v _) TL.nil)) ?_
   rintro _ rfl
   iterate 3 ((try (refine drvZW Try.func48 ?_;simp only [go_sem,hrl,hlt,hxl]));((with_reducible and_intros)<;>try exact sd))
   refine again (i+1) some [] _ hlt (by omega) ?_
   simp only [go_sem,TmOK,DM,DMs,CM,CMs,forall_eq,exists_eq_left,Mq,HpOK,LowOK]
   simp
   rw [hs1]
   omega
  ·obtain rfl:i=l.length:=by omega
   have hn:¬ l.length<l.length:=by omega
   refine drvLW Try.func48 ?_
   simp only [go_sem,hrl,hn]
   iterate 3 ((try (refine drvZW Try.func48 ?_;simp only [go_sem,hrl,hn]));((with_reducible and_intros)<;>try exact sd))
   exact ret _ _ (by rw [List.take_of_length_le (by simp),htot])
 ·simp only [go_sem,TmOK,DM,DMs,CM,CMs,forall_eq,exists_eq_left,Mq,HpOK,LowOK]
  simp
theorem markExprSW (h0 : Yn.n = 0) : ∀ (n : Nat) (l : List Ex), SizeOf.sizeOf l ≤ n → l.length ≤ 1048576 → (∀ x ∈ l, ExN x) → ∀ k : Int, 0 ≤ k → k + (ctEL l : Nat) ≤ 1099511627776 → DW Try.prog 48 [.c (.isl 3 (cnEL l)), DI .i64 k] (fun n => n = k + (ctEL l : Nat))
 | 0,l,h,_,_,k,hk,hb=>by cases l<;>simp at h
 | n+1,l,h,hl,hN,k,hk,hb=>markExprSWOf h0 l hl k hk hb fun x hx k' h1 h2=>by
  have:=List.sizeOf_lt_of_mem hx
  have hN':=hN x hx
  cases hN' with
  | mk a b ks g1 g2 =>
   simp only [Ex.mk.sizeOf_spec] at this
   exact markExprSW h0 n ks (by omega) g1 g2 k' h1 h2
theorem markStmtSWOf (h0:Yn.n=0) (l:List St1) (hl:l.length≤1048576) (k:Int) (hk:0≤k) (hb:k+(ctSL l:Nat)≤1099511627776) (hc:∀ x ∈ l,(∀ k:Int,0≤k→k+(ctSL x.body:Nat)≤1099511627776→DW Try.prog 32 [.c (.isl 11 (cnSL x.body)),DI .i64 k] (fun n=>n=k+(ctSL x.body:Nat)))∧(∀ k:Int,0≤k→k+(ctSL x.els:Nat)≤1099511627776→DW Try.prog 32 [.c (.isl 11 (cnSL x.els)),DI .i64 k] (fun n=>n=k+(ctSL x.els:Nat)))) (hN:∀ x ∈ l,StN x):DW Try.prog 32 [.c (.isl 11 (cnSL l)),DI .i64 k] (fun n=>n=k+(ctSL l:Nat)):=by
 have hmx:=mx_eq
 have hrl:(cnSL l).length=l.length:=by simp [cnSL_eq]
 have hws:WsD (.c (.isl 11 (cnSL l))) := .mm (cnSL_mk l)
 have hf:∀ (i:Nat) (x:St1),l[i]? = some x→((l.map (fun e=>7+ctS e)).take (i+1)).sum=((l.map (fun e=>7+ctS e)).take i).sum+(fun e=>7+ctS e) x∧((l.map (fun e=>7+ctS e)).take i).sum+(fun e=>7+ctS e) x≤(l.map (fun e=>7+ctS e)).sum:=fun i x h=>by
  have:=sum_take (fun e=>7+ctS e) h
  rwa [List.map_take,List.map_take] at this
 have htot:ctSL l=(l.map (fun e=>7+ctS e)).sum:=ctSL_eq l
 have ret:∀ (n:Int) (hp:Hp),n=k+(ctSL l:Nat)→RetOb 0 (fun d h'=>(∃ n,d=DI .i64 n∧n=k+(ctSL l:Nat))∧h'=[]) (DI .i64 n) hp:=fun n hp h=>RetOb.plain ⟨⟨n,rfl,h⟩,rfl⟩ rfl
 refine dwZ h0 Try.func32 ?_
 generalize hR:(fun (d:D) (h':List (Option (List C)))=>(∃ n,d=DI .i64 n∧n=k+(ctSL l:Nat))∧h'=[])=R at ret ⊢
 clear hR
 simp only [go_sem,hrl]
 iterate 3 ((try (refine drvZW Try.func32 ?_;simp only [go_sem,hrl]));((with_reducible and_intros)<;>try exact sd))
 refine Go.loopQ (fun i:Nat=>[(0,.c (.isl 11 (cnSL l))),(1,DI .i64 (k+(((l.map (fun e=>7+ctS e)).take i).sum:Nat))),(5,DI .i64 i)]) (fun i=>[]) 1024 (fun i=>i≤l.length) (fun i=>l.length - i) ?_ 0 some [] _ (by omega) ?_
 ·intro i hi again
  rcases Nat.lt_or_ge i l.length with hlt | hge
  ·obtain ⟨x,hx⟩:∃ x,l[i]? = some x:=⟨l[i],by simp [hlt]⟩
   obtain ⟨hs1,hs2⟩:=hf i x hx
   have hmem:=List.mem_of_getElem? hx
   have hcm:=hc _ hmem
   have hNx:=hN _ hmem
   obtain ⟨k0,t0,⟨a1,b1,c1⟩,⟨a2,b2,c2⟩,c0,bd,el⟩:=x
   obtain ⟨q1,q2⟩:((c1.length≤1048576∧∀ x ∈ c1,ExN x)∧(c2.length≤1048576∧∀ x ∈ c2,ExN x)):=by
    cases hNx with
    | mk _ _ _ _ _ _ _ h1 h2=>cases h1 with | mk _ _ _ g1 g2=>cases h2 with | mk _ _ _ g3 g4=>exact ⟨⟨g1,g2⟩,⟨g3,g4⟩⟩
   simp only [Ex.kids,St1.body,St1.els] at hcm
   have hxl:(cnSL l)[i]? = some [.num .i64,.num .i64,.num .i64,.num .i64,.isl 3 (cnEL c1),.num .i64,.num .i64,.isl 3 (cnEL c2),.num .i64,.isl 11 (cnSL bd),.isl 11 (cnSL el)]:=by rw [cnSL_at hx];rfl
   rw [← htot] at hs2
   try dsimp only at hs1 hs2
   try simp only [ctE,ctS] at hs1 hs2
   generalize ((l.map (fun e=>7+ctS e)).take i).sum=A at *
   generalize (cnSL l)=rows at *
   refine drvLW Try.func32 ?_
   simp only [go_sem,hrl,hlt,hxl]
   ((try (refine drvZW Try.func32 ?_;simp only [go_sem,hrl,hlt,hxl]));((with_reducible and_intros)<;>try exact sd))
   refine XK.wst h0 [(0,.c (.isl 11 rows)),(1,DI .i64 (k+(A:Nat))),(5,DI .i64 i)] hh0 (TL.cons rfl hws (TL.cons rfl (.v _) (TL.cons rfl (.v _) TL.nil))) ?_
   iterate 3 ((try (refine drvZW Try.func32 ?_;simp only [go_sem,hrl,hlt,hxl]));((with_reducible and_intros)<;>try exact sd))
   refine XK.wst h0 [(0,.c (.isl 11 rows)),(1,DI .i64 (k+(A:Nat)+1)),(5,DI .i64 i)] hh0 (TL.cons rfl hws (TL.cons rfl (.v _) (TL.cons rfl (.v _) TL.nil))) ?_
   iterate 3 ((try (refine drvZW Try.func32 ?_;simp only [go_sem,hrl,hlt,hxl]));((with_reducible and_intros)<;>try exact sd))
   refine XK.wst h0 [(0,.c (.isl 11 rows)),(1,DI .i64 (k+(A:Nat)+1+1)),(5,DI .i64 i)] hh0 (TL.cons rfl hws (TL.cons rfl (.v _) (TL.cons rfl (.v _) TL.nil))) ?_
   iterate 3 ((try (refine drvZW Try.func32 ?_;simp only [go_sem,hrl,hlt,hxl]));((with_reducible and_intros)<;>try exact sd))
   refine XK.wst h0 [(0,.c (.isl 11 rows)),(1,DI .i64 (k+(A:Nat)+1+1+1)),(5,DI .i64 i)] hh0 (TL.cons rfl hws (TL.cons rfl (.v _) (TL.cons rfl (.v _) TL.nil))) ?_
   iterate 3 ((try (refine drvZW Try.func32 ?_;simp only [go_sem,hrl,hlt,hxl]));((with_reducible and_intros)<;>try exact sd))
   have hc1:=markExprSW h0 _ c1 (Nat.le_refl _) q1.1 q1.2 (k+(A:Nat)+1+1+1+1) (by omega) (by omega)
   refine XK.wcall h0 [(0,.c (.isl 11 rows)),(5,DI .i64 i)] hc1 ok48 hh0 (TL.cons rfl hws (TL.cons rfl (.v _) TL.nil)) ?_
   rintro _ rfl
   iterate 3 ((try (refine drvZW Try.func32 ?_;simp only [go_sem,hrl,hlt,hxl]));((with_reducible and_intros)<;>try exact sd))
   refine XK.wst h0 [(0,.c (.isl 11 rows)),(1,DI .i64 (k+(A:Nat)+1+1+1+1+(ctEL c1:Nat))),(5,DI .i64 i)] hh0 (TL.cons rfl hws (TL.cons rfl (.v _) (TL.cons rfl (.v _) TL.nil))) ?_
   iterate 3 ((try (refine drvZW Try.func32 ?_;simp only [go_sem,hrl,hlt,hxl]));((with_reducible and_intros)<;>try exact sd))
   refine XK.wst h0 [(0,.c (.isl 11 rows)),(1,DI .i64 (k+(A:Nat)+1+1+1+1+(ctEL c1:Nat)+1)),(5,DI .i64 i)] hh0 (TL.cons rfl hws (TL.cons rfl (.v _) (TL.cons rfl (.v _) TL.nil))) ?_
   iterate 3 ((try (refine drvZW Try.func32 ?_;simp only [go_sem,hrl,hlt,hxl]));((with_reducible and_intros)<;>try exact sd))
   have hc2:=markExprSW h0 _ c2 (Nat.le_refl _) q2.1 q2.2 (k+(A:Nat)+1+1+1+1+(ctEL c1:Nat)+1+1) (by omega) (by omega)
   refine XK.wcall h0 [(0,.c (.isl 11 rows)),(5,DI .i64 i)] hc2 ok48 hh0 (TL.cons rfl hws (TL.cons rfl (.v _) TL.nil)) ?_
   rintro _ rfl
   iterate 3 ((try (refine drvZW Try.func32 ?_;simp only [go_sem,hrl,hlt,hxl]));((with_reducible and_intros)<;>try exact sd))
   refine XK.wst h0 [(0,.c (.isl 11 rows)),(1,DI .i64 (k+(A:Nat)+1+1+1+1+(ctEL c1:Nat)+1+1+(ctEL c2:Nat))),(5,DI .i64 i)] hh0 (TL.cons rfl hws (TL.cons rfl (.v _) (TL.cons rfl (.v _) TL.nil))) ?_
   iterate 3 ((try (refine drvZW Try.func32 ?_;simp only [go_sem,hrl,hlt,hxl]));((with_reducible and_intros)<;>try exact sd))
   have hc3:=hcm.1 (k+(A:Nat)+1+1+1+1+(ctEL c1:Nat)+1+1+(ctEL c2:Nat)+1) (by omega) (by omega)
   refine XK.wcall h0 [(0,.c (.isl 11 rows)),(5,DI .i64 i)] hc3 ok32 hh0 (TL.cons rfl hws (TL.cons rfl (.v _) TL.nil)) ?_
   rintro _ rfl
   iterate 3 ((try (refine drvZW Try.func32 ?_;simp only [go_sem,hrl,hlt,hxl]));((with_reducible and_intros)<;>try exact sd))
   have hc4:=hcm.2 (k+(A:Nat)+1+1+1+1+(ctEL c1:Nat)+1+1+(ctEL c2:Nat)+1+(ctSL bd:Nat)) (by omega) (by omega)
   refine XK.wcall h0 [(0,.c (.isl 11 rows)),(5,DI .i64 i)] hc4 ok32 hh0 (TL.cons rfl hws (TL.cons rfl (.v _) TL.nil)) ?_
   rintro _ rfl
   iterate 3 ((try (refine drvZW Try.func32 ?_;simp only [go_sem,hrl,hlt,hxl]));((with_reducible and_intros)<;>try exact sd))
   refine again (i+1) some [] _ hlt (by omega) ?_
   simp only [go_sem,TmOK,DM,DMs,CM,CMs,forall_eq,exists_eq_left,Mq,HpOK,LowOK]
   simp
   rw [hs1]
   omega
  ·obtain rfl:i=l.length:=by omega
   have hn:¬ l.length<l.length:=by omega
   refine drvLW Try.func32 ?_
   simp only [go_sem,hrl,hn]
   iterate 3 ((try (refine drvZW Try.func32 ?_;simp only [go_sem,hrl,hn]));((with_reducible and_intros)<;>try exact sd))
   exact ret _ _ (by rw [List.take_of_length_le (by simp),htot])
 ·simp only [go_sem,TmOK,DM,DMs,CM,CMs,forall_eq,exists_eq_left,Mq,HpOK,LowOK]
  simp
theorem markStmtSW (h0 : Yn.n = 0) : ∀ (n : Nat) (l : List St1), SizeOf.sizeOf l ≤ n → l.length ≤ 1048576 → (∀ x ∈ l, StN x) → ∀ k : Int, 0 ≤ k → k + (ctSL l : Nat) ≤ 1099511627776 → DW Try.prog 32 [.c (.isl 11 (cnSL l)), DI .i64 k] (fun n => n = k + (ctSL l : Nat))
 | 0,l,h,_,_,k,hk,hb=>by cases l<;>simp at h
 | n+1,l,h,hl,hN,k,hk,hb=>markStmtSWOf h0 l hl k hk hb (fun x hx=>by
  have:=List.sizeOf_lt_of_mem hx
  have hN':=hN x hx
  cases hN' with
  | mk a b ix v c bd el h1 h2 h3 h4 h5 h6 =>
   simp only [St1.mk.sizeOf_spec] at this
   exact ⟨fun k' g1 g2=>markStmtSW h0 n bd (by omega) h3 h5 k' g1 g2,fun k' g1 g2=>markStmtSW h0 n el (by omega) h4 h6 k' g1 g2⟩) hN
theorem markProgramW (h0:Yn.n=0) (p:Pg) (hv1:p.vars.length≤1048576) (hv2:p.arrays.length≤1048576) (hv3:p.body.length≤1048576) (hv4:∀ x ∈ p.body,StN x) (k:Int) (hk:0≤k) (hb:k+(p.vars.length+p.arrays.length+ctSL p.body:Nat)≤1099511627776):DW Try.prog 11 [.agg (cnP p),DI .i64 k] (fun n=>n=k+(p.vars.length+p.arrays.length+ctSL p.body:Nat)):=by
 have hmx:=mx_eq
 obtain ⟨vs,ar,bd⟩:=p
 simp only [cnP,cnM,cnI] at *
 have hws:∀ c ∈ ([.isl 1 (vs.map fun _=>[C.num .i64]),.isl 1 (ar.map fun _=>[C.num .i64]),.isl 11 (cnSL bd)]:List C),Ws c:=by
  intro c hc
  simp only [List.mem_cons,List.not_mem_nil,or_false] at hc
  rcases hc with rfl | rfl | rfl
  ·exact .mm (cnI_mk vs)
  ·exact .mm (cnI_mk ar)
  ·exact .mm (cnSL_mk bd)
 have ret:∀ (n:Int) (hp:Hp),n=k+(vs.length+ar.length+ctSL bd:Nat)→RetOb 0 (fun d h'=>(∃ n,d=DI .i64 n∧n=k+(vs.length+ar.length+ctSL bd:Nat))∧h'=[]) (DI .i64 n) hp:=fun n hp h=>RetOb.plain ⟨⟨n,rfl,h⟩,rfl⟩ rfl
 refine dwZ h0 Try.func11 ?_
 generalize hR:(fun (d:D) (h':List (Option (List C)))=>(∃ n,d=DI .i64 n∧n=k+(vs.length+ar.length+ctSL bd:Nat))∧h'=[])=R at ret ⊢
 clear hR
 simp only [go_sem]
 iterate 2 ((try (refine drvZW Try.func11 ?_;simp only [go_sem]));((with_reducible and_intros)<;>try exact sd))
 have hc0:=markIntSW h0 vs hv1 (k) (by omega) (by omega)
 refine XK.wcall h0 [(2,.c (.ptr 0 0))] hc0 ok31 (hh1 hws hhL) (TL.cons rfl (.ptr _ _) TL.nil) ?_
 rintro _ rfl
 iterate 3 ((try (refine drvZW Try.func11 ?_;simp only [go_sem]));((with_reducible and_intros)<;>try exact sd))
 have hc1:=markIntSW h0 ar hv2 (k+(vs.length:Nat)) (by omega) (by omega)
 refine XK.wcall h0 [(2,.c (.ptr 0 0))] hc1 ok31 (hh1 hws hhL) (TL.cons rfl (.ptr _ _) TL.nil) ?_
 rintro _ rfl
 iterate 3 ((try (refine drvZW Try.func11 ?_;simp only [go_sem]));((with_reducible and_intros)<;>try exact sd))
 have hc2:=markStmtSW h0 _ bd (Nat.le_refl _) hv3 hv4 (k+(vs.length:Nat)+(ar.length:Nat)) (by omega) (by omega)
 refine XK.wcall h0 [(2,.c (.ptr 0 0))] hc2 ok32 (hh1 hws hhL) (TL.cons rfl (.ptr _ _) TL.nil) ?_
 rintro _ rfl
 iterate 3 ((try (refine drvZW Try.func11 ?_;simp only [go_sem]));((with_reducible and_intros)<;>try exact sd))
 exact ret _ _ (by omega)
theorem eqBoolST (l:List Bool) (hl:l.length≤mx):DC Try.prog 10 [.c (.isl 1 (l.map fun b=>[C.v (.bool b)])),.c (.isl 1 (l.map fun b=>[C.v (.bool b)]))] [] (fun r h=>r=DB true∧h=[]):=by
 have hmx:=mx_eq
 have ret:∀ hp:Hp,RetOb 0 (fun r h=>r=DB true∧h=[]) (DB true) hp:=fun hp=>RetOb.plain (d:=DB true) ⟨rfl,rfl⟩ rfl
 generalize hR:(fun (r:D) (h:List (Option (List C)))=>r=DB true∧h=[])=R at ret ⊢
 clear hR
 have hrl:(l.map fun b=>[C.v (.bool b)]).length=l.length:=by simp
 refine dcZ Try.func10 ?_
 simp only [go_sem,hrl,bne_self_eq_false]
 iterate 4 ((try (refine drvZ Try.func10 ?_;simp only [go_sem,hrl,bne_self_eq_false]));((with_reducible and_intros)<;>try exact sd))
 refine Go.loopQ (fun i:Nat=>[(0,.c (.isl 1 (l.map fun b=>[C.v (.bool b)]))),(1,.c (.isl 1 (l.map fun b=>[C.v (.bool b)]))),(5,DI .i64 i)]) (fun _=>[]) 1024 (fun i=>i≤l.length) (fun i=>l.length - i) ?_ 0 some [] _ (by omega) ?_
 ·intro i hi again
  rcases Nat.lt_or_ge i l.length with hlt | hge
  ·obtain ⟨x,hx⟩:∃ x,l[i]? = some x:=⟨l[i],by simp [hlt]⟩
   have hxl:(l.map fun b=>[C.v (.bool b)])[i]? = some [C.v (.bool x)]:=by rw [List.getElem?_map,hx];rfl
   generalize hRW:(l.map fun b=>[C.v (.bool b)])=rows at *
   refine drvL Try.func10 ?_
   simp only [go_sem,hrl,hlt,hxl,bne_self_eq_false]
   iterate 6 ((try (refine drvZ Try.func10 ?_;simp only [go_sem,hrl,hlt,hxl,bne_self_eq_false]));((with_reducible and_intros)<;>try exact sd))
   refine again (i+1) some [] _ hlt (by omega) ?_
   simp only [go_sem,TmOK,DM,DMs,CM,CMs,forall_eq,exists_eq_left,Mq,HpOK,LowOK]
   try simp
  ·have hn:¬ i<l.length:=by omega
   generalize hRW:(l.map fun b=>[C.v (.bool b)])=rows at *
   refine drvL Try.func10 ?_
   simp only [go_sem,hrl,hn]
   iterate 3 ((try (refine drvZ Try.func10 ?_;simp only [go_sem,hrl,hn]));((with_reducible and_intros)<;>try exact sd))
   exact ret _
 ·simp only [go_sem,TmOK,DM,DMs,CM,CMs,forall_eq,exists_eq_left,Mq,HpOK,LowOK]
  try simp
theorem lawXSBig (p:Pg) (hp:PgB p) (ws:List Bool) (hw:ws.length≤mx) (hbig:¬ (szP p≤1048576∧ws.length≤1048576)):LW Try.prog 3 [.agg p.cells,.c (boolsD ws)]:=by
 have hmx:=mx_eq
 refine lwZ Try.func3 (.cons (.agg (cyP_co false p)) (.cons (.rfl _) .nil)) fun y=>?_
 have ret:∀ hp:Hp,RetOb 0 (fun d h=>d=DB true∧h=[]) (DB true) hp:=fun hp=>RetOb.plain (d:=DB true) ⟨rfl,rfl⟩ rfl
 by_cases q0:ws.length≤1048576
 ·have z1:=(szProgram_c p hp 1048576 (by omega) (by omega)).er (.cons (.agg (cyP_co false p)) (.cons (y:=false) (.rfl _) .nil))
  rw [subZ,if_neg (by omega)] at z1
  have g0:((1048576:Int)<(ws.length:Int))=False:=eq_false (by omega)
  obtain ⟨vs,ar,bd⟩:=p
  simp only [cyP,cyI] at *
  simp only [go_sem,boolsD,BC,g0,List.length_map]
  iterate 6 ((try (refine drvZ Try.func3 ?_;simp only [go_sem,boolsD,BC,g0,List.length_map]));((with_reducible and_intros)<;>try exact sd);(try first | refine XK.p z1 ok4 ?_ | refine XK.gp z1 ok4 ?_))
  exact ret _
 ·have g0:((1048576:Int)<(ws.length:Int))=True:=eq_true (by omega)
  obtain ⟨vs,ar,bd⟩:=p
  simp only [cyP,cyI] at *
  simp only [go_sem,boolsD,BC,g0,List.length_map]
  iterate 4 ((try (refine drvZ Try.func3 ?_;simp only [go_sem,boolsD,BC,g0,List.length_map]));((with_reducible and_intros)<;>try exact sd))
  exact ret _
end Go.Proofs.Ytlapccpnilomfaa.CtD
