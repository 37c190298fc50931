/- Contracts of functions of the program, one behind the other, as plain data: what each call returns and which blocks it leaves. -/
import Derived.Test.YtfkhahkclgejnaaGreatDoorHFacts
import Derived.Test.YtfkhahkclgejnaaGreatDoorHAj
import Derived.Test.YtfkhahkclgejnaaGreatDoorHAk
import Derived.Test.YtfkhahkclgejnaaGreatDoorHAl
import Derived.Test.YtfkhahkclgejnaaGreatDoorHAm
set_option linter.unusedVariables false
set_option linter.unusedSimpArgs false
set_option linter.unusedSectionVars false
set_option maxHeartbeats 16000000
set_option maxRecDepth 100000
namespace Go.Proofs.YtfkhahkclgejnaaGreatDoor.CtD
open Go Go.CT CtF CtR
variable [Yn]
open CtL (In Cd kindsOf topOf fOK inOK codeOK)
open CtG (labT ltrL lstT)
def nmL:List (List UInt8):=[[99,111,110,115,116],[103,101,116],[112,117,116],[108,111,97,100],[115,116,111,114,101],[98,105,110],[115,101,108,101,99,116],[106,117,109,112],[122,101,114,111],[108,111,111,112],[114,101,108,101,97,115,101],[102,101,110,99,101],[104,97,108,116]]
def strD (l:List (List UInt8)):C := .isl 1 (l.map fun s=>[.v (.string (bstr s))])
theorem opWordsI:DC Tryz.prog 25 [] [] (fun r h=>r = .c (strD nmL)∧h=[]):=by
 have hmx:=mx_eq
 refine dcZ Tryz.func25 ?_
 simp only [go_sem]
 iterate 3 ((try (refine drvZ Tryz.func25 ?_;simp only [go_sem]));((with_reducible and_intros)<;>try exact sd))
 refine RetOb.ofQ (fun _=>none) [64] (.c (strD nmL)) [] ?_ ⟨rfl,rfl⟩ (by simp)
 simp [strD,nmL,bstr,enumL,DM,DMs,CM,CMs,HpOK,LowOK,hOf,upd,kf]
theorem l6NamesS:DC Tryz.prog 52 [] [] (fun r h=>r = .c (strD ([] :: nmL))∧h=[]):=by
 have hmx:=mx_eq
 refine dcZ Tryz.func52 ?_
 simp only [go_sem]
 iterate 3 ((try (refine drvZ Tryz.func52 ?_;simp only [go_sem]));((with_reducible and_intros)<;>try exact sd))
 refine RetOb.ofQ (fun _=>none) [64] (.c (strD ([] :: nmL))) [] ?_ ⟨rfl,rfl⟩ (by simp)
 simp [strD,nmL,bstr,enumL,DM,DMs,CM,CMs,HpOK,LowOK,hOf,upd,kf]
def nmT (op:Int):List UInt8:=nmL.getD (op - 1).toNat []
def narg (op:Int):Nat:=(sls op).size
def prT (x:In) (k:Nat):List UInt8:=(List.range k).flatMap fun i=>32 :: Lib.itoa ([x.a,x.b,x.c,x.d].getD i 0)
def lineT (x:In):List UInt8:=nmT x.op++prT x (narg x.op)
theorem prT_succ (x:In) (k:Nat):prT x (k+1)=prT x k++(32 :: Lib.itoa ([x.a,x.b,x.c,x.d].getD k 0)):=by
 unfold prT
 rw [List.range_succ,List.flatMap_append]
 simp
theorem bstr_size (l:List UInt8):(bstr l).size=l.length:=by simp [bstr,ByteArray.size]
theorem b1 (x:UInt8):(⟨#[x]⟩:ByteArray)=bstr [x]:=rfl
theorem itoa_len {n:Int} (h:0≤n∧n≤999):(Lib.itoa n).length≤3:=by
 obtain ⟨m,rfl⟩:∃ m:Nat,n=m:=⟨n.toNat,by omega⟩
 rw [Lib.itoa_nonneg]
 have one:∀ k,k<10→(Lib.decDigits k).length=1:=fun k hk=>by rw [Lib.decDigits_one hk];rfl
 have two:∀ k,k<100→(Lib.decDigits k).length≤2:=fun k hk=>by
  rcases Nat.lt_or_ge k 10 with q | q
  ·have:=one k q;omega
  ·rw [CtG.decStep q,List.length_append,one (k / 10) (by omega)];simp
 rcases Nat.lt_or_ge m 10 with q | q
 ·have:=one m q;omega
 ·have:=two (m / 10) (by omega)
  rw [CtG.decStep q,List.length_append];simp;omega
def InS (x:In):Prop:=(1≤x.op∧x.op≤13)∧∀ n ∈ [x.a,x.b,x.c,x.d],0≤n∧n≤999
theorem InS.at {x:In} (h:InS x) (i:Nat):0≤[x.a,x.b,x.c,x.d].getD i 0∧[x.a,x.b,x.c,x.d].getD i 0≤999:=by
 rw [List.getD_eq_getElem?_getD]
 cases hx:[x.a,x.b,x.c,x.d][i]? with
 | none=>simp
 | some v=>exact h.2 v (List.mem_of_getElem? hx)
theorem prT_len {x : In} (h : InS x) : ∀ k, (prT x k).length ≤ k * 4
 | 0=>by simp [prT]
 | k+1=>by
  have:=prT_len h k
  have:=itoa_len (h.at k)
  rw [prT_succ,List.length_append,List.length_cons];omega
theorem nm_at {op:Int} (h:1≤op∧op≤13):nmL[(op - 1).toNat]? = some (nmT op)∧(nmT op).length≤10:=by
 have key:op=1∨op=2∨op=3∨op=4∨op=5∨op=6∨op=7∨op=8∨op=9∨op=10∨op=11∨op=12∨op=13:=by omega
 rcases key with rfl | rfl | rfl | rfl | rfl | rfl | rfl | rfl | rfl | rfl | rfl | rfl | rfl<;>exact ⟨rfl,by decide⟩
theorem narg_lt (op:Int) (i:Nat) (h:i<4):(i<narg op ↔ ltr ((kindsOf op).getD i 0) ≠ 45):=by
 rw [narg,sls_len op i h]
 have h6:=kinds_le op i
 generalize (kindsOf op).getD i 0=k at *
 have:k=0∨k=1∨k=2∨k=3∨k=4∨k=5∨k=6:=by omega
 rcases this with rfl | rfl | rfl | rfl | rfl | rfl | rfl<;>decide
theorem narg_le (op:Int):narg op≤4:=by
 unfold narg sls kindsOf
 repeat' split
 all_goals decide
theorem textI (hT:TabY inferInstance) (x:In) (hx:InS x):DC Tryz.prog 93 [.agg (inX x)] [] (fun r h=>r=DS (bstr (lineT x))∧h=[]):=by
 have hmx:=mx_eq
 have how:=opWordsI
 have hsh:=shapeI x.op hx.1
 have hfi:=fieldsI x
 have hit:=fun (n:Int) (h:0≤n∧n≤999)=>itoaD hT n (by omega) (by omega)
 have hat:=hx.at
 have hpl:=prT_len hx
 obtain ⟨hnm,hnl⟩:=nm_at hx.1
 have hna:=narg_le x.op
 have ho:=hx.1
 have ret:∀ (l:List UInt8) (hp:Hp),l=lineT x→RetOb 0 (fun r h=>r=DS (bstr (lineT x))∧h=[]) (DS (bstr l)) hp:=fun l hp e=>by subst e;exact RetOb.plain (d:=DS _) ⟨rfl,rfl⟩ rfl
 generalize hR:(fun (r:D) (h:List (Option (List C)))=>r=DS (bstr (lineT x))∧h=[])=R at ret ⊢
 obtain ⟨op,a,b,c',d⟩:=x
 simp only [inX,strD] at hsh hfi how hnm hnl hna ho hat hpl ⊢
 have hnm2:(nmL.map fun s=>[C.v (.string (bstr s))])[(op - 1).toNat]? = some [.v (.string (bstr (nmT op)))]:=by rw [List.getElem?_map,hnm];rfl
 have hlt:(op - 1).toNat<nmL.length:=(List.getElem?_eq_some_iff.1 hnm).1
 refine dcZ Tryz.func93 ?_
 simp only [go_sem]
 iterate 6 ((try (refine drvZ Tryz.func93 ?_;simp only [go_sem,hnm2]));((with_reducible and_intros)<;>try exact sd);(try first | refine XK.p how ok25 ?_ | refine XK.gp how ok25 ?_ | refine XK.p hfi ok71 ?_ | refine XK.gp hfi ok71 ?_))
 refine Go.loopQ (fun i : Nat => [(1, .c (.ptr 0 0)), (3, DS (bstr (nmT op ++ prT ⟨op, a, b, c', d⟩ (min i (narg op))))), (13, .c (.isl 1 [[I64 a], [I64 b], [I64 c'], [I64 d]])), (14, DI .i64 4), (15, DI .i64 i)]) (fun _ => [(0, some [I64 op, I64 a, I64 b, I64 c', I64 d])])
  2048 (fun i=>i≤4) (fun i=>4 - i) ?_ 0 some [] _ (Nat.zero_le _) ?_
 ·intro i hi again
  rcases Nat.lt_or_ge i 4 with hlt4 | hge
  ·have hx:[[I64 a],[I64 b],[I64 c'],[I64 d]][i]? = some [I64 ([a,b,c',d].getD i 0)]:=by
    have:i=0∨i=1∨i=2∨i=3:=by omega
    rcases this with rfl | rfl | rfl | rfl<;>rfl
   have hlt':(i:Int)<4:=by omega
   have hlt2:i < [[I64 a],[I64 b],[I64 c'],[I64 d]].length:=hlt4
   have hsz:(shp op).size=4:=rfl
   have hsa:=shp_at op i hlt4
   have hnl4:=narg_lt op i hlt4
   have hps:=prT_succ ⟨op,a,b,c',d⟩ i
   have hbd:=hat i
   have hit:=hit _ hbd
   have hil:=itoa_len hbd
   have hpi:=hpl i
   simp only at hps hbd hit hil
   generalize ltr ((kindsOf op).getD i 0)=u at *
   generalize [a,b,c',d].getD i 0=n at *
   generalize [[I64 a],[I64 b],[I64 c'],[I64 d]]=fl at *
   by_cases hin:i<narg op
   ·have hu:((u.toNat:Int) != 45)=true:=by
     have:=hnl4.1 hin
     rw [bne_iff_ne];intro e;apply this
     have:u.toNat=45:=by omega
     exact UInt8.toNat_inj.1 this
    have em:min i (narg op)=i:=by omega
    have em2:min (i+1) (narg op)=i+1:=by omega
    have hfin:bstr (nmT op++prT ⟨op,a,b,c',d⟩ i)++(bstr [32]++bstr (Lib.itoa n))=bstr (nmT op++prT ⟨op,a,b,c',d⟩ (i+1)):=by rw [bstr_app,bstr_app,hps];simp
    have hz1:(((nmT op++prT ⟨op,a,b,c',d⟩ i).length:Int)+(1+((Lib.itoa n).length:Int))≤9223372036854775807)=True:=eq_true (by rw [List.length_append];omega)
    refine drvL Tryz.func93 ?_
    simp only [go_sem,em,hlt']
    iterate 8 ((try (refine drvZ Tryz.func93 ?_;simp only [go_sem,hx,hlt',hlt2,hlt4,hsz,hsa,hu,em,b1,bstr_size,hz1]));((with_reducible and_intros)<;>try exact sd);(try first | refine XK.p hsh ok70 ?_ | refine XK.gp hsh ok70 ?_ | refine XK.p hit ok110 ?_ | refine XK.gp hit ok110 ?_))
    refine again (i+1) some [] _ hlt4 (show 4 - (i+1)<4 - i by omega) ?_
    simp only [go_sem,TmOK,DM,DMs,CM,CMs,forall_eq,exists_eq_left,Mq,HpOK,LowOK,em2,hfin]
    try simp
   ·have hu:((u.toNat:Int) != 45)=false:=by
     have:¬ u ≠ 45:=fun h=>hin (hnl4.2 h)
     have:u=45:=by simpa using this
     subst this;rfl
    have em:min i (narg op)=narg op:=by omega
    have em2:min (i+1) (narg op)=narg op:=by omega
    refine drvL Tryz.func93 ?_
    simp only [go_sem,em,hlt']
    iterate 8 ((try (refine drvZ Tryz.func93 ?_;simp only [go_sem,hx,hlt',hlt2,hlt4,hsz,hsa,hu,em,b1,bstr_size]));((with_reducible and_intros)<;>try exact sd);(try first | refine XK.p hsh ok70 ?_ | refine XK.gp hsh ok70 ?_))
    refine again (i+1) some [] _ hlt4 (show 4 - (i+1)<4 - i by omega) ?_
    simp only [go_sem,TmOK,DM,DMs,CM,CMs,forall_eq,exists_eq_left,Mq,HpOK,LowOK,em2]
    try simp
  ·have hi4:i=4:=by omega
   subst hi4
   have em:min 4 (narg op)=narg op:=by omega
   clear again
   refine drvL Tryz.func93 ?_
   simp only [go_sem,em,Int.reduceLT]
   iterate 5 ((try (refine drvZ Tryz.func93 ?_;simp only [go_sem,em,Int.reduceLT]));((with_reducible and_intros)<;>try exact sd))
   exact ret _ _ rfl
 ·simp only [go_sem,TmOK,DM,DMs,CM,CMs,forall_eq,exists_eq_left,Mq,HpOK,LowOK]
  simp [prT]
open CtL (In Cd kindsOf topOf fOK inOK codeOK)
open CtG (labT ltrL lstT)
theorem lineT_len {x:In} (h:InS x):(lineT x).length≤26:=by
 have h1:=prT_len h (narg x.op)
 have h2:=narg_le x.op
 have h3:=(nm_at h.1).2
 rw [lineT,List.length_append];omega
def hltI:In:=⟨13,0,0,0,0⟩
theorem hltI_s:InS hltI:=⟨by decide,by decide⟩
def listT (l:List In):List UInt8:=l.flatMap fun x=>lineT x++[10]
theorem lst_eq (l:List In):lstT (fun k=>lineT (l.getD k hltI)) l.length=listT l:=by
 unfold lstT listT
 have h:(List.range l.length).map (fun k=>l.getD k hltI)=l:=by
  apply List.ext_getElem
  ·simp
  ·intro i h1 h2
   simp [List.getD,List.getElem?_eq_getElem h2]
 conv=>rhs;rw [← h]
 rw [List.flatMap_map]
theorem agg3 {I:Nat→Prop} {w:World} {s:Sg} {v:Value} {a b c:C} (h:RD I w s v (.agg [a,b,c])):∃ x y z,v = .agg #[x,y,z]∧RC I w s x a∧RC I w s y b∧RC I w s z c:=by
 cases h with
 | agg vs _ hl hr =>
  rcases vs with ⟨l⟩
  match l,hl with
  | [x,y,z],hl=>exact ⟨x,y,z,rfl,hr 0 (by simp) (by simp),hr 1 (by simp) (by simp),hr 2 (by simp) (by simp)⟩
theorem listTextI (hT:TabY inferInstance) (c:Cd) (hl:c.list.length≤1000000) (hne:1≤c.list.length) (hs:∀ x ∈ c.list,InS x):DC Tryz.prog 61 [.agg (cdC c)] [] (fun r h=>r=DS (bstr (listT c.list))∧h=[]) :=
 DC.ofBelow rfl fun I w s vs H hv=>by
  obtain ⟨v,rfl,hr⟩:=vs_one hv
  obtain ⟨x,y,z,rfl,_,_,hz⟩:=agg3 hr
  have hw:=SimH.tab H hT
  have hall:∀ k,InS (c.list.getD k hltI):=fun k=>by
   rw [List.getD_eq_getElem?_getD]
   cases hx:c.list[k]? with
   | none=>exact hltI_s
   | some u=>exact hs u (List.mem_of_getElem? hx)
  generalize hL:c.list.map inX=L at hz
  have hlen:L.length=c.list.length:=by rw [← hL];simp
  cases hz with
  | isl0 _ a cap _=>simp at hlen;omega
  | isl _ b off cap _ _ yv hI hl5 hc hrc hcap =>
   rw [hlen]
   let f:Nat→Nat→Int:=fun k j=>let u:=c.list.getD k hltI;[u.op,u.a,u.b,u.c,u.d].getD j 0
   have hcell:∀ k j,k<c.list.length→j<5→w.cell? ⟨b,off+(k * 5+j),none⟩=some (.int .i64 (f k j)):=fun k j hk hj=>by
    have h1:=hc k j (by omega) hj
    have hLk:L[k]'(by omega)=inX (c.list.getD k hltI):=by
     subst hL
     simp [List.getD,List.getElem?_eq_getElem hk]
    have h2:=hrc k (by omega) j (by rw [hLk];simpa [inX] using hj)
    have e2:(L[k]'(by omega))[j]'(by rw [hLk];simpa [inX] using hj)=C.v (.int .i64 (f k j)):=by
     simp only [hLk]
     have:j=0∨j=1∨j=2∨j=3∨j=4:=by omega
     rcases this with rfl | rfl | rfl | rfl | rfl<;>rfl
    rw [e2] at h2
    rw [show off+(k * 5+j)=off+k * 5+j by omega,h1,(rd_scalar (.c _ _ h2)).1]
   have key:=CtG.listText_any x y b off c.list.length cap f (fun k=>lineT (c.list.getD k hltI)) w hl (H.imm b hI) (fun k=>by have:=lineT_len (hall k);omega) hcell fun k hk w' hb'=>by
    have hd:=@textI (ynAt w') (tabY_at (tabW_below hw hb')) (c.list.getD k hltI) (hall k)
    exact DC.calls hd fun s'=>rds_ints [(c.list.getD k hltI).op,(c.list.getD k hltI).a,(c.list.getD k hltI).b,(c.list.getD k hltI).c,(c.list.getD k hltI).d]
   rw [lst_eq] at key
   exact key
open CtL (In Cd kindsOf topOf fOK inOK codeOK)
open CtG (labT ltrL lstT)
def fmtT (c:Cd):List UInt8:=[99,111,100,101,32]++labT c.vars++[47]++labT c.arrays++[10]++listT c.list
theorem ins_of {nv na nl:Nat} (h1:nv≤900) (h2:na≤900) (h3:nl≤900) {x:In} (h:inOK nv na nl x=true):InS x:=by
 simp only [inOK,Bool.and_eq_true,decide_eq_true_eq] at h
 obtain ⟨⟨⟨⟨⟨o1,o2⟩,q0⟩,q1⟩,q2⟩,q3⟩:=h
 have key:∀ (k:Nat) (n:Int),fOK nv na nl k n=true→0≤n∧n≤999:=fun k n hq=>by
  have ht:topOf nv na nl k≤999:=by
   unfold topOf
   repeat' split
   all_goals omega
  simp only [fOK,Bool.and_eq_true,decide_eq_true_eq] at hq
  refine ⟨?_,Int.le_trans hq.2 ht⟩
  have:=hq.1
  split at this<;>omega
 refine ⟨⟨o1,o2⟩,fun n hn=>?_⟩
 simp only [List.mem_cons,List.not_mem_nil,or_false] at hn
 rcases hn with rfl | rfl | rfl | rfl
 ·exact key _ _ q0
 ·exact key _ _ q1
 ·exact key _ _ q2
 ·exact key _ _ q3
structure CdS (c : Cd) : Prop where
 nv:c.vars.length≤12
 na:c.arrays.length≤2
 l1:1≤c.list.length
 nl:c.list.length≤400
 lv:labs c.vars=true
 la:labs c.arrays=true
 ins:∀ x ∈ c.list,InS x
theorem cds_of {c:Cd} (h:codeOK c=true):CdS c:=by
 simp only [codeOK,headsOK,Bool.and_eq_true,decide_eq_true_eq,List.all_eq_true] at h
 obtain ⟨⟨⟨⟨⟨⟨⟨⟨h1,h2⟩,h3⟩,h4⟩,h5⟩,h6⟩,h7⟩,h8⟩,_⟩:=h
 exact ⟨by omega,by omega,by omega,by omega,h4,h5,fun x hx=>ins_of (by omega) (by omega) (by omega) (h8 x hx)⟩
theorem labT_len (xs:List Int):(labT xs).length=xs.length:=by simp [labT]
theorem listT_len {l:List In} (h:∀ x ∈ l,InS x):(listT l).length≤l.length * 27:=by
 unfold listT
 induction l with
 | nil=>simp
 | cons a r ih =>
  have h1:=lineT_len (h a (by simp))
  have h2:=ih fun x hx=>h x (by simp [hx])
  simp only [List.flatMap_cons,List.length_append,List.length_cons,List.length_nil] at h2 ⊢
  omega
theorem b5:(⟨#[99,111,100,101,32]⟩:ByteArray)=bstr [99,111,100,101,32]:=rfl
theorem codeTextI (hT:TabY inferInstance) (c:Cd) (h:CdS c):DC Tryz.prog 28 [.agg (cdC c)] [] (fun r h=>r=DS (bstr (fmtT c))∧h=[]):=by
 have hmx:=mx_eq
 have f1:=formatLabelsI c.vars (by have:=h.nv;omega) h.lv
 have f2:=formatLabelsI c.arrays (by have:=h.na;omega) h.la
 have f3:=listTextI hT c (by have:=h.nl;omega) h.l1 h.ins
 have n1:=labT_len c.vars
 have n2:=labT_len c.arrays
 have n3:=listT_len h.ins
 have q1:=h.nv
 have q2:=h.na
 have q3:=h.nl
 have ret:∀ (l:List UInt8) (hp:Hp),l=fmtT c→RetOb 0 (fun r h=>r=DS (bstr (fmtT c))∧h=[]) (DS (bstr l)) hp:=fun l hp e=>by subst e;exact RetOb.plain (d:=DS _) ⟨rfl,rfl⟩ rfl
 generalize hR:(fun (r:D) (h:List (Option (List C)))=>r=DS (bstr (fmtT c))∧h=[])=R at ret ⊢
 unfold fmtT at ret
 clear hR h
 obtain ⟨vs,ar,l⟩:=c
 simp only [cdC] at f1 f2 f3 n1 n2 n3 q1 q2 q3 ret ⊢
 generalize labT vs=T1 at *
 generalize labT ar=T2 at *
 generalize listT l=T3 at *
 generalize l.map inX=L at *
 refine dcZ Tryz.func28 ?_
 simp only [go_sem]
 iterate 8 ((try (refine drvZ Tryz.func28 ?_;simp only [go_sem,b1,b5,bstr_size,bstr_app,List.length_append]));((with_reducible and_intros)<;>try exact sd);(try first | refine XK.p f1 ok60 ?_ | refine XK.gp f1 ok60 ?_ | refine XK.p f2 ok60 ?_ | refine XK.gp f2 ok60 ?_ | refine XK.p f3 ok61 ?_ | refine XK.gp f3 ok61 ?_))
 exact ret _ _ (by simp)
theorem codeValidI (c:Cd) (h1:c.vars.length≤2000000) (h2:c.arrays.length≤2000000) (h3:c.list.length≤100000000):DC Tryz.prog 13 [.agg (cdC c)] [] (fun r h=>r=DB (codeOK c)∧h=[]):=by
 have hmx:=mx_eq
 cases h:codeOK c with
 | true=>exact codeValidT c (by omega) (by omega) (by omega) h
 | false=>exact codeValidG0 c h1 h2 h3 h
def fmtC (c:Cd):List UInt8:=if codeOK c=true then fmtT c else []
theorem bstr_nil:(⟨#[]⟩:ByteArray)=bstr []:=rfl
open CtL (In Cd kindsOf topOf fOK inOK codeOK)
open CtG (labT ltrL lstT labT_snoc)
theorem b4:(⟨#[76,72,85,88]⟩:ByteArray)=bstr [76,72,85,88]:=rfl
theorem lhux {x:Int} (h:0≤x∧x≤3):(bstr [76,72,85,88]).extract x.toNat (x+1).toNat=bstr [ltrL x]:=by
 have:x=0∨x=1∨x=2∨x=3:=by omega
 rcases this with rfl | rfl | rfl | rfl<;>rfl
theorem fmtLabS (xs:List Int) (hl:xs.length≤1000000) (h:labs xs=true):DC Tryz.prog 36 [.c (isI xs)] [] (fun r h=>r=DS (bstr (labT xs))∧h=[]):=by
 have hmx:=mx_eq
 have hnn:=bstr_nil
 have h4:(bstr [76,72,85,88]).size=4:=rfl
 have ret:∀ (l:List UInt8) (hp:Hp),l=labT xs→RetOb 0 (fun r h=>r=DS (bstr (labT xs))∧h=[]) (DS (bstr l)) hp:=fun l hp e=>by subst e;exact RetOb.plain (d:=DS _) ⟨rfl,rfl⟩ rfl
 generalize hR:(fun (r:D) (h:List (Option (List C)))=>r=DS (bstr (labT xs))∧h=[])=R at ret ⊢
 clear hR
 simp only [labs,List.all_eq_true,Bool.and_eq_true,decide_eq_true_eq] at h
 have hu:isI xs = .isl 1 (xs.map fun x=>[I64 x]):=rfl
 refine dcZ Tryz.func36 ?_
 simp only [go_sem,hnn]
 iterate 3 ((try (refine drvZ Tryz.func36 ?_;simp only [go_sem,hnn]));((with_reducible and_intros)<;>try exact sd))
 refine Go.loopQ (fun i:Nat=>[(0,.c (.isl 1 (xs.map fun x=>[I64 x]))),(3,DS (bstr (labT (xs.take i)))),(4,DI .i64 i)]) (fun _=>[]) 1024 (fun i=>i≤xs.length) (fun i=>xs.length - i) ?_ 0 some [] _ (Nat.zero_le _) ?_
 ·intro i hi again
  rcases Nat.lt_or_ge i xs.length with hlt | hge
  ·obtain ⟨x,hx⟩:∃ x,xs[i]? = some x:=⟨xs[i],by simp [hlt]⟩
   have hxl:(xs.map fun x=>[I64 x])[i]? = some [I64 x]:=by rw [List.getElem?_map,hx];rfl
   have hb:=h x (List.mem_of_getElem? hx)
   have hlv:=labelValidS x
   have hdb:(decide (0≤x) && decide (x≤3))=true:=by simp [hb]
   rw [hdb] at hlv
   have hlh:=lhux hb
   have hsn:=labT_snoc xs i hlt
   rw [show xs.getD i 0=x by simp [List.getD,hx]] at hsn
   have hll:(labT (xs.take i)).length=i:=by simp [labT];omega
   have hnx:bstr (labT (xs.take i))++bstr [ltrL x]=bstr (labT (xs.take (i+1))):=by rw [bstr_app,hsn]
   generalize ltrL x=u at *
   generalize hT1:labT (xs.take i)=T1 at *
   generalize hT2:labT (xs.take (i+1))=T2 at *
   have hln:(xs.map fun x=>[I64 x]).length=xs.length:=by simp
   generalize (xs.map fun x=>[I64 x])=L at *
   refine drvL Tryz.func36 ?_
   simp only [go_sem,hT1,hln,hlt]
   iterate 8 ((try (refine drvZ Tryz.func36 ?_;simp only [go_sem,hln,hlt,hxl,b4,hlh,h4,bstr_size,hll]));((with_reducible and_intros)<;>try exact sd);(try first | refine XK.p hlv ok64 ?_ | refine XK.gp hlv ok64 ?_))
   refine again (i+1) some [] _ hlt (by omega) ?_
   simp only [go_sem,TmOK,DM,DMs,CM,CMs,forall_eq,exists_eq_left,Mq,HpOK,LowOK,hnx,hT2]
   try simp
  ·obtain rfl:i=xs.length:=by omega
   have hn:¬ xs.length<xs.length:=by omega
   simp only [List.take_length]
   have hln:(xs.map fun x=>[I64 x]).length=xs.length:=by simp
   generalize (xs.map fun x=>[I64 x])=L at *
   generalize hT1:labT xs=T1 at *
   refine drvL Tryz.func36 ?_
   simp only [go_sem,hln,hn]
   iterate 3 ((try (refine drvZ Tryz.func36 ?_;simp only [go_sem,hln,hn]));((with_reducible and_intros)<;>try exact sd))
   exact ret _ _ rfl
 ·simp only [go_sem,TmOK,DM,DMs,CM,CMs,forall_eq,exists_eq_left,Mq,HpOK,LowOK]
  simp [labT]
theorem nm_at' {op:Int} (h:1≤op∧op≤13):([] :: nmL)[op.toNat]? = some (nmT op):=by
 have key:op=1∨op=2∨op=3∨op=4∨op=5∨op=6∨op=7∨op=8∨op=9∨op=10∨op=11∨op=12∨op=13:=by omega
 rcases key with rfl | rfl | rfl | rfl | rfl | rfl | rfl | rfl | rfl | rfl | rfl | rfl | rfl<;>rfl
theorem lineS (x:In) (hx:InS x):DC Tryz.prog 37 [.agg (inX x)] [] (fun r h=>r=DS (bstr (lineT x++[10]))∧h=[]):=by
 have hmx:=mx_eq
 have how:=l6NamesS
 have hfd:=l6FieldsS x.op hx.1
 have hpa:=l6PartsS x
 have hat:=hx.at
 have hpl:=prT_len hx
 have hnl:=(nm_at hx.1).2
 have hnm:=nm_at' hx.1
 have hna:=narg_le x.op
 have ho:=hx.1
 have hnn:=bstr_nil
 have hdc:∀ n:Int,0≤n∧n≤999→DC Tryz.prog 67 [DI .i64 n] [] (fun r h=>r=DS (bstr (Lib.itoa n))∧h=[]):=fun n h=>by
  have:=decD n.toNat (by omega)
  rwa [Int.toNat_of_nonneg h.1] at this
 have ret:∀ (l:List UInt8) (hp:Hp),l=lineT x++[10]→RetOb 0 (fun r h=>r=DS (bstr (lineT x++[10]))∧h=[]) (DS (bstr l)) hp:=fun l hp e=>by subst e;exact RetOb.plain (d:=DS _) ⟨rfl,rfl⟩ rfl
 generalize hR:(fun (r:D) (h:List (Option (List C)))=>r=DS (bstr (lineT x++[10]))∧h=[])=R at ret ⊢
 clear hR
 unfold lineT at ret
 have hnar:(sls x.op).size=narg x.op:=rfl
 obtain ⟨op,a,b,c',d⟩:=x
 have hlL:(([] :: nmL).map fun s=>[C.v (.string (bstr s))]).length=14:=rfl
 have hnm2:(([] :: nmL).map fun s=>[C.v (.string (bstr s))])[op.toNat]? = some [.v (.string (bstr (nmT op)))]:=by rw [List.getElem?_map,hnm];rfl
 simp only [inX,strD,isI,List.map_cons (a:=a),List.map_cons (a:=b),List.map_cons (a:=c'),List.map_cons (a:=d),List.map_nil] at hfd hpa how hnl hna ho hat hpl hnar ret ⊢
 generalize (([] :: nmL).map fun s=>[C.v (.string (bstr s))])=NL at *
 have hlt:op.toNat<14:=by omega
 have prs:=prT_succ ⟨op,a,b,c',d⟩
 simp only at prs
 have pr0:prT ⟨op,a,b,c',d⟩ 0=[]:=rfl
 generalize sls op=S at *
 generalize nmT op=T at *
 generalize narg op=N at *
 generalize prT ⟨op,a,b,c',d⟩=P at *
 refine dcZ Tryz.func37 ?_
 simp only [go_sem,hnn]
 iterate 6 ((try (refine drvZ Tryz.func37 ?_;simp only [go_sem,hnn,hlL,hnm2]));((with_reducible and_intros)<;>try exact sd);(try first | refine XK.p how ok52 ?_ | refine XK.gp how ok52 ?_ | refine XK.p hfd ok65 ?_ | refine XK.gp hfd ok65 ?_ | refine XK.p hpa ok66 ?_ | refine XK.gp hpa ok66 ?_))
 refine Go.loopQ (fun i : Nat => [(1, .c (.ptr 0 0)), (3, DS (bstr (T ++ P i))), (4, DS S), (5, .c (.isl 1 [[I64 a], [I64 b], [I64 c'], [I64 d]])), (6, DI .i64 i)]) (fun _ => [(0, some [I64 op, I64 a, I64 b, I64 c', I64 d])])
  2048 (fun i=>i≤N) (fun i=>N - i) ?_ 0 some [] _ (Nat.zero_le _) ?_
 ·intro i hi again
  rcases Nat.lt_or_ge i N with hlt4 | hge
  ·have hx:[[I64 a],[I64 b],[I64 c'],[I64 d]][i]? = some [I64 ([a,b,c',d].getD i 0)]:=by
    have:i=0∨i=1∨i=2∨i=3:=by omega
    rcases this with rfl | rfl | rfl | rfl<;>rfl
   have hlS:i<S.size:=by omega
   have hlt2:i < [[I64 a],[I64 b],[I64 c'],[I64 d]].length:=show i<4 by omega
   have hbd:=hat i
   have hdc:=hdc _ hbd
   have hil:=itoa_len hbd
   have hpi:=hpl i
   have hps:=prs i
   generalize [a,b,c',d].getD i 0=n at *
   generalize [[I64 a],[I64 b],[I64 c'],[I64 d]]=fl at *
   have hfin:bstr (T++P i++[32]++Lib.itoa n)=bstr (T++P (i+1)):=by rw [hps];simp
   refine drvL Tryz.func37 ?_
   simp only [go_sem,hlS]
   iterate 8 ((try (refine drvZ Tryz.func37 ?_;simp only [go_sem,hx,hlS,hlt2,b1,bstr_size,bstr_app,List.length_append]));((with_reducible and_intros)<;>try exact sd);(try first | refine XK.p hdc ok67 ?_ | refine XK.gp hdc ok67 ?_))
   refine again (i+1) some [] _ hlt4 (show N - (i+1)<N - i by omega) ?_
   simp only [go_sem,TmOK,DM,DMs,CM,CMs,forall_eq,exists_eq_left,Mq,HpOK,LowOK,hfin]
   try simp
  ·obtain rfl:i=N:=by omega
   have hnS:¬ i<S.size:=by omega
   have hpi:=hpl i
   clear again
   refine drvL Tryz.func37 ?_
   simp only [go_sem,hnS]
   iterate 5 ((try (refine drvZ Tryz.func37 ?_;simp only [go_sem,hnS,b1,bstr_size,bstr_app,List.length_append]));((with_reducible and_intros)<;>try exact sd))
   exact ret _ _ rfl
 ·simp only [go_sem,TmOK,DM,DMs,CM,CMs,forall_eq,exists_eq_left,Mq,HpOK,LowOK]
  try simp [pr0]
theorem listT_take {l:List In} {i:Nat} {x:In} (h:l[i]? = some x):listT (l.take (i+1))=listT (l.take i)++(lineT x++[10]):=by
 unfold listT
 rw [List.take_add_one,h]
 simp
theorem formatCodeS (c:Cd) (h1:c.vars.length≤2000000) (h2:c.arrays.length≤2000000) (h3:c.list.length≤100000000):DC Tryz.prog 12 [.agg (cdC c)] [] (fun r h=>r=DS (bstr (fmtC c))∧h=[]):=by
 have hmx:=mx_eq
 have hnn:=bstr_nil
 have hv:=codeValidS c h1 h2 h3
 unfold fmtC
 cases hok:codeOK c with
 | false =>
  rw [hok] at hv
  simp only [Bool.false_eq_true,if_false]
  have ret:∀ (hp:Hp),RetOb 0 (fun r h=>r=DS (bstr [])∧h=[]) (DS (bstr [])) hp:=fun hp=>RetOb.plain (d:=DS _) ⟨rfl,rfl⟩ rfl
  generalize hR:(fun (r:D) (h:List (Option (List C)))=>r=DS (bstr [])∧h=[])=R at ret ⊢
  clear hR hok
  obtain ⟨vs,ar,l⟩:=c
  simp only [cdC] at hv ⊢
  refine dcZ Tryz.func12 ?_
  simp only [go_sem,hnn]
  iterate 8 ((try (refine drvZ Tryz.func12 ?_;simp only [go_sem,hnn]));((with_reducible and_intros)<;>try exact sd);(try first | refine XK.p hv ok14 ?_ | refine XK.gp hv ok14 ?_))
  exact ret _
 | true =>
  rw [hok] at hv
  simp only [if_true]
  have hS:=cds_of hok
  have f1:=fmtLabS c.vars (by have:=hS.nv;omega) hS.lv
  have f2:=fmtLabS c.arrays (by have:=hS.na;omega) hS.la
  have n1:=labT_len c.vars
  have n2:=labT_len c.arrays
  have q1:=hS.nv
  have q2:=hS.na
  have q3:=hS.nl
  have hin:=hS.ins
  have ret:∀ (l:List UInt8) (hp:Hp),l=fmtT c→RetOb 0 (fun r h=>r=DS (bstr (fmtT c))∧h=[]) (DS (bstr l)) hp:=fun l hp e=>by subst e;exact RetOb.plain (d:=DS _) ⟨rfl,rfl⟩ rfl
  generalize hR:(fun (r:D) (h:List (Option (List C)))=>r=DS (bstr (fmtT c))∧h=[])=R at ret ⊢
  unfold fmtT at ret
  clear hR hok hS
  obtain ⟨vs,ar,l⟩:=c
  simp only [cdC] at hv f1 f2 n1 n2 q1 q2 q3 hin ret ⊢
  have hlL:(l.map inX).length=l.length:=by simp
  have hxs:∀ i,(l.map inX)[i]? = (l[i]?).map inX:=fun i=>by rw [List.getElem?_map]
  generalize l.map inX=L at *
  generalize labT vs=T1 at *
  generalize labT ar=T2 at *
  refine dcZ Tryz.func12 ?_
  simp only [go_sem,hnn]
  iterate 8 ((try (refine drvZ Tryz.func12 ?_;simp only [go_sem,hnn,b1,b5,bstr_size,bstr_app,List.length_append]));((with_reducible and_intros)<;>try exact sd);(try first | refine XK.p hv ok14 ?_ | refine XK.gp hv ok14 ?_ | refine XK.p f1 ok36 ?_ | refine XK.gp f1 ok36 ?_ | refine XK.p f2 ok36 ?_ | refine XK.gp f2 ok36 ?_))
  generalize hH:[99,111,100,101,32]++T1++[47]++T2++[10]=H at *
  have hHl:H.length≤100:=by rw [← hH];simp only [List.length_append,List.length_cons,List.length_nil];omega
  refine Go.loopQ (fun i : Nat => [(1, .c (.ptr 0 0)), (3, DS (bstr (H ++ listT (l.take i)))), (4, DI .i64 i)]) (fun _ => [(0, some [isI vs, isI ar, .isl 5 L])])
   1024 (fun i=>i≤l.length) (fun i=>l.length - i) ?_ 0 some [] _ (Nat.zero_le _) ?_
  ·intro i hi again
   rcases Nat.lt_or_ge i l.length with hlt | hge
   ·obtain ⟨x,hx⟩:∃ x,l[i]? = some x:=⟨l[i],by simp [hlt]⟩
    have hxl:L[i]? = some (inX x):=by rw [hxs,hx];rfl
    have hmx':=hin x (List.mem_of_getElem? hx)
    have hli:=lineS x hmx'
    have hle:=lineT_len hmx'
    have htl:=listT_len (l:=l.take i) fun y hy=>hin y (List.mem_of_mem_take hy)
    have htn:(l.take i).length=i:=by simp;omega
    have hsn:=listT_take hx
    have hnx:bstr (H++listT (l.take i)++(lineT x++[10]))=bstr (H++listT (l.take (i+1))):=by rw [hsn];simp
    generalize hA:listT (l.take i)=A at *
    generalize hB1:listT (l.take (i+1))=B at *
    generalize hC:lineT x++[10]=Ln at *
    have hCl:Ln.length≤27:=by rw [← hC];simp;omega
    rw [htn] at htl
    obtain ⟨op,xa,xb,xc,xd⟩:=x
    simp only [inX] at hxl hli
    refine drvL Tryz.func12 ?_
    simp only [go_sem,hA,hlL,hlt]
    iterate 8 ((try (refine drvZ Tryz.func12 ?_;simp only [go_sem,hlL,hlt,hxl,bstr_size,bstr_app,List.length_append]));((with_reducible and_intros)<;>try exact sd);(try first | refine XK.p hli ok37 ?_ | refine XK.gp hli ok37 ?_))
    refine again (i+1) some [] _ hlt (by omega) ?_
    simp only [go_sem,TmOK,DM,DMs,CM,CMs,forall_eq,exists_eq_left,Mq,HpOK,LowOK,hnx,hB1]
    try simp
   ·obtain rfl:i=l.length:=by omega
    have hn:¬ l.length<l.length:=by omega
    simp only [List.take_length]
    clear again
    generalize listT l=A at *
    refine drvL Tryz.func12 ?_
    simp only [go_sem,hlL,hn]
    iterate 5 ((try (refine drvZ Tryz.func12 ?_;simp only [go_sem,hlL,hn]));((with_reducible and_intros)<;>try exact sd))
    exact ret _ _ rfl
  ·simp only [go_sem,TmOK,DM,DMs,CM,CMs,forall_eq,exists_eq_left,Mq,HpOK,LowOK]
   have l0:listT []=[]:=rfl
   try simp [l0,← hH]
open CtL (In Cd)
open CtL (In Cd kindsOf topOf fOK inOK codeOK)
open CtG (labT ltrL)
def val (l:List UInt8):Nat:=l.foldl (fun a d=>a * 10+(d.toNat - 48)) 0
theorem val_snoc (l:List UInt8) (d:UInt8):val (l++[d])=val l * 10+(d.toNat - 48):=by simp [val,List.foldl_append]
theorem dig_toNat {k:Nat} (h:k<10):(48+UInt8.ofNat k).toNat=48+k:=by
 have:k=0∨k=1∨k=2∨k=3∨k=4∨k=5∨k=6∨k=7∨k=8∨k=9:=by omega
 rcases this with rfl | rfl | rfl | rfl | rfl | rfl | rfl | rfl | rfl | rfl<;>rfl
theorem dec_one {m:Nat} (h:m<10):Lib.decDigits m=[48+UInt8.ofNat m]:=by
 rw [Lib.decDigits_one h]
 have:m=0∨m=1∨m=2∨m=3∨m=4∨m=5∨m=6∨m=7∨m=8∨m=9:=by omega
 rcases this with rfl | rfl | rfl | rfl | rfl | rfl | rfl | rfl | rfl | rfl<;>rfl
theorem dec_val (m:Nat):val (Lib.decDigits m)=m:=by
 induction m using Nat.strongRecOn with
 | _ m ih =>
  rcases Nat.lt_or_ge m 10 with h | h
  ·rw [dec_one h]
   have:=dig_toNat h
   simp [val,this]
  ·rw [CtG.decStep h,val_snoc,ih (m / 10) (by omega),dig_toNat (by omega)]
   omega
theorem dec_dig (m:Nat):∀ d ∈ Lib.decDigits m,48≤d.toNat∧d.toNat≤57:=by
 induction m using Nat.strongRecOn with
 | _ m ih =>
  rcases Nat.lt_or_ge m 10 with h | h
  ·rw [dec_one h]
   have:=dig_toNat h
   intro d hd
   simp only [List.mem_singleton] at hd
   subst hd
   omega
  ·rw [CtG.decStep h]
   intro d hd
   rw [List.mem_append,List.mem_singleton] at hd
   rcases hd with hd | rfl
   ·exact ih (m / 10) (by omega) d hd
   ·rw [dig_toNat (by omega)];omega
theorem itoa_inj {a b:Int} (ha:0≤a) (hb:0≤b) (h:Lib.itoa a=Lib.itoa b):a=b:=by
 obtain ⟨m,rfl⟩:∃ m:Nat,a=m:=⟨a.toNat,by omega⟩
 obtain ⟨n,rfl⟩:∃ n:Nat,b=n:=⟨b.toNat,by omega⟩
 rw [Lib.itoa_nonneg,Lib.itoa_nonneg] at h
 have:=congrArg val h
 rw [dec_val,dec_val] at this
 omega
theorem itoa_dig {a:Int} (ha:0≤a):∀ d ∈ Lib.itoa a,48≤d.toNat∧d.toNat≤57:=by
 obtain ⟨m,rfl⟩:∃ m:Nat,a=m:=⟨a.toNat,by omega⟩
 rw [Lib.itoa_nonneg]
 exact dec_dig m
theorem part {s : UInt8} : ∀ {u v x y : List UInt8}, s ∉ u → s ∉ v → u ++ s :: x = v ++ s :: y → u = v ∧ x = y
 | [],[],x,y,_,_,h=>⟨rfl,by simpa using h⟩
 | [],b :: v,x,y,_,hv,h=>by
  simp only [List.nil_append,List.cons_append,List.cons.injEq] at h
  exact absurd (by rw [h.1];simp) hv
 | a :: u,[],x,y,hu,_,h=>by
  simp only [List.nil_append,List.cons_append,List.cons.injEq] at h
  exact absurd (by rw [← h.1];simp) hu
 | a :: u,b :: v,x,y,hu,hv,h=>by
  simp only [List.cons_append,List.cons.injEq] at h
  have:=part (fun q=>hu (List.mem_cons_of_mem _ q)) (fun q=>hv (List.mem_cons_of_mem _ q)) h.2
  exact ⟨by rw [h.1,this.1],this.2⟩
theorem wordsP {s : UInt8} : ∀ {L M : List (List UInt8)} {u v : List UInt8}, s ∉ u → s ∉ v → (∀ w ∈ L, s ∉ w) → (∀ w ∈ M, s ∉ w) → u ++ L.flatMap (s :: ·) = v ++ M.flatMap (s :: ·) → u = v ∧ L = M
 | [],[],u,v,_,_,_,_,h=>⟨by simpa using h,rfl⟩
 | [],b :: M,u,v,hu,_,_,_,h=>by
  simp only [List.flatMap_nil,List.append_nil,List.flatMap_cons] at h
  exact absurd (by rw [h];simp) hu
 | a :: L,[],u,v,_,hv,_,_,h=>by
  simp only [List.flatMap_nil,List.append_nil,List.flatMap_cons] at h
  exact absurd (by rw [← h];simp) hv
 | a :: L,b :: M,u,v,hu,hv,hL,hM,h=>by
  simp only [List.flatMap_cons,List.cons_append] at h
  obtain ⟨h1,h2⟩:=part hu hv h
  obtain ⟨h3,h4⟩:=wordsP (hL a (by simp)) (hM b (by simp)) (fun w hw=>hL w (by simp [hw])) (fun w hw=>hM w (by simp [hw])) h2
  exact ⟨h1,by rw [h3,h4]⟩
theorem prT_words (x:In) (k:Nat):prT x k=((List.range k).map fun i=>Lib.itoa ([x.a,x.b,x.c,x.d].getD i 0)).flatMap (32 :: ·):=by
 unfold prT
 rw [List.flatMap_map]
theorem nmT_low {op:Int} (h:1≤op∧op≤13):∀ d ∈ nmT op,97≤d.toNat:=by
 have key:op=1∨op=2∨op=3∨op=4∨op=5∨op=6∨op=7∨op=8∨op=9∨op=10∨op=11∨op=12∨op=13:=by omega
 rcases key with rfl | rfl | rfl | rfl | rfl | rfl | rfl | rfl | rfl | rfl | rfl | rfl | rfl<;>decide
theorem nmT_inj {a b:Int} (ha:1≤a∧a≤13) (hb:1≤b∧b≤13) (h:nmT a=nmT b):a=b:=by
 have k1:a=1∨a=2∨a=3∨a=4∨a=5∨a=6∨a=7∨a=8∨a=9∨a=10∨a=11∨a=12∨a=13:=by omega
 have k2:b=1∨b=2∨b=3∨b=4∨b=5∨b=6∨b=7∨b=8∨b=9∨b=10∨b=11∨b=12∨b=13:=by omega
 rcases k1 with rfl | rfl | rfl | rfl | rfl | rfl | rfl | rfl | rfl | rfl | rfl | rfl | rfl<;>rcases k2 with rfl | rfl | rfl | rfl | rfl | rfl | rfl | rfl | rfl | rfl | rfl | rfl | rfl<;>first | rfl | exact absurd h (by decide)
theorem line_inj {nv na nl nv' na' nl':Nat} {x y:In} (sx:InS x) (sy:InS y) (hx:inOK nv na nl x=true) (hy:inOK nv' na' nl' y=true) (h:lineT x=lineT y):x=y:=by
 have hno:∀ {z:In},InS z→∀ w ∈ (List.range (narg z.op)).map (fun i=>Lib.itoa ([z.a,z.b,z.c,z.d].getD i 0)),(32:UInt8) ∉ w:=fun {z} hz w hw hq=>by
  obtain ⟨i,_,rfl⟩:=List.mem_map.1 hw
  have:=itoa_dig (hz.at i).1 _ hq
  simp at this
 have hnn:∀ {z:In},InS z→(32:UInt8) ∉ nmT z.op:=fun {z} hz hq=>by
  have:=nmT_low hz.1 _ hq
  simp at this
 unfold lineT at h
 rw [prT_words,prT_words] at h
 obtain ⟨e1,e2⟩:=wordsP (hnn sx) (hnn sy) (hno sx) (hno sy) h
 have eo:=nmT_inj sx.1 sy.1 e1
 have hf:∀ i,i<4→[x.a,x.b,x.c,x.d].getD i 0=[y.a,y.b,y.c,y.d].getD i 0:=fun i hi=>by
  by_cases hin:i<narg x.op
  ·have:=congrArg (fun l=>l[i]?) e2
   simp only [List.getElem?_map,List.getElem?_range hin,List.getElem?_range (show i<narg y.op by rw [← eo];exact hin),Option.map_some,Option.some.injEq] at this
   exact itoa_inj (sx.at i).1 (sy.at i).1 this
  ·have hz:∀ {z:In} {nv na nl:Nat},z.op=x.op→inOK nv na nl z=true→[z.a,z.b,z.c,z.d].getD i 0=0:=fun {z nv na nl} ez hz=>by
    have hk:=mt (narg_lt z.op i hi).2 (by rw [ez];exact hin)
    have h6:=kinds_le z.op i
    have hk0:(kindsOf z.op).getD i 0=0:=by
     generalize (kindsOf z.op).getD i 0=k at *
     have:k=0∨k=1∨k=2∨k=3∨k=4∨k=5∨k=6:=by omega
     rcases this with rfl | rfl | rfl | rfl | rfl | rfl | rfl
     ·rfl
     all_goals exact absurd (by decide) hk
    simp only [inOK,Bool.and_eq_true,decide_eq_true_eq] at hz
    obtain ⟨⟨⟨⟨⟨o1,o2⟩,q0⟩,q1⟩,q2⟩,q3⟩:=hz
    have key:∀ n,fOK nv na nl 0 n=true→n=0:=fun n hn=>by
     simp only [fOK,topOf,Bool.and_eq_true,decide_eq_true_eq] at hn
     simp at hn
     omega
    have:i=0∨i=1∨i=2∨i=3:=by omega
    rcases this with rfl | rfl | rfl | rfl
    ·rw [hk0] at q0;exact key _ q0
    ·rw [hk0] at q1;exact key _ q1
    ·rw [hk0] at q2;exact key _ q2
    ·rw [hk0] at q3;exact key _ q3
   rw [hz rfl hx,hz eo.symm hy]
 obtain ⟨o,a,b,c,d⟩:=x
 obtain ⟨o',a',b',c',d'⟩:=y
 have f0:=hf 0 (by omega)
 have f1:=hf 1 (by omega)
 have f2:=hf 2 (by omega)
 have f3:=hf 3 (by omega)
 simp only [List.getD_cons_zero,List.getD_cons_succ] at f0 f1 f2 f3
 simp only at eo
 rw [eo,f0,f1,f2,f3]
theorem line_10 {x:In} (hx:InS x):(10:UInt8) ∉ lineT x:=fun h=>by
 unfold lineT at h
 rw [prT_words,List.mem_append] at h
 rcases h with h | h
 ·have:=nmT_low hx.1 _ h
  simp at this
 ·obtain ⟨w,hw,h⟩:=List.mem_flatMap.1 h
  obtain ⟨i,_,rfl⟩:=List.mem_map.1 hw
  rw [List.mem_cons] at h
  rcases h with h | h
  ·exact absurd h (by decide)
  ·have:=itoa_dig (hx.at i).1 _ h
   simp at this
theorem list_inj : ∀ {l m : List In}, (∀ x ∈ l, InS x) → (∀ x ∈ m, InS x) → (∀ x ∈ l, ∀ y ∈ m, lineT x = lineT y → x = y) → listT l = listT m → l = m
 | [],[],_,_,_,_=>rfl
 | [],b :: m,_,_,_,h=>by simp [listT] at h
 | a :: l,[],_,_,_,h=>by simp [listT] at h
 | a :: l,b :: m,hl,hm,hq,h=>by
  simp only [listT,List.flatMap_cons,List.append_assoc,List.cons_append,List.nil_append] at h
  obtain ⟨e1,e2⟩:=part (line_10 (hl a (by simp))) (line_10 (hm b (by simp))) h
  rw [hq a (by simp) b (by simp) e1,list_inj (fun x hx=>hl x (by simp [hx])) (fun x hx=>hm x (by simp [hx])) (fun x hx y hy=>hq x (by simp [hx]) y (by simp [hy])) e2]
theorem ltr_inj {a b:Int} (ha:0≤a∧a≤3) (hb:0≤b∧b≤3) (h:ltrL a=ltrL b):a=b:=by
 have k1:a=0∨a=1∨a=2∨a=3:=by omega
 have k2:b=0∨b=1∨b=2∨b=3:=by omega
 rcases k1 with rfl | rfl | rfl | rfl<;>rcases k2 with rfl | rfl | rfl | rfl<;>first | rfl | exact absurd h (by decide)
theorem lab_inj : ∀ {l m : List Int}, labs l = true → labs m = true → labT l = labT m → l = m
 | [],[],_,_,_=>rfl
 | [],b :: m,_,_,h=>by simp [labT] at h
 | a :: l,[],_,_,h=>by simp [labT] at h
 | a :: l,b :: m,hl,hm,h=>by
  simp only [labs,List.all_cons,Bool.and_eq_true,decide_eq_true_eq] at hl hm
  simp only [labT,List.map_cons,List.cons.injEq] at h
  rw [ltr_inj hl.1 hm.1 h.1,lab_inj hl.2 hm.2 h.2]
theorem lab_low {l:List Int} (h:labs l=true):∀ d ∈ labT l,72≤d.toNat:=fun d hd=>by
 obtain ⟨x,hx,rfl⟩:=List.mem_map.1 hd
 simp only [labs,List.all_eq_true,Bool.and_eq_true,decide_eq_true_eq] at h
 have:=h x hx
 have k1:x=0∨x=1∨x=2∨x=3:=by omega
 rcases k1 with rfl | rfl | rfl | rfl<;>decide
theorem fmt_inj {a b:Cd} (ha:codeOK a=true) (hb:codeOK b=true) (h:fmtT a=fmtT b):a=b:=by
 have sa:=cds_of ha
 have sb:=cds_of hb
 unfold fmtT at h
 simp only [List.append_assoc,List.cons_append,List.nil_append,List.cons.injEq,true_and] at h
 have n47:∀ {l:List Int},labs l=true→(47:UInt8) ∉ labT l:=fun hl hq=>by have:=lab_low hl _ hq;simp at this
 have n10:∀ {l:List Int},labs l=true→(10:UInt8) ∉ labT l:=fun hl hq=>by have:=lab_low hl _ hq;simp at this
 obtain ⟨e1,h⟩:=part (n47 sa.lv) (n47 sb.lv) h
 obtain ⟨e2,h⟩:=part (n10 sa.la) (n10 sb.la) h
 have v:=lab_inj sa.lv sb.lv e1
 have r:=lab_inj sa.la sb.la e2
 have hla:∀ x ∈ a.list,inOK a.vars.length a.arrays.length a.list.length x=true:=by
  simp only [codeOK,Bool.and_eq_true,List.all_eq_true] at ha
  exact ha.1.2
 have hlb:∀ x ∈ b.list,inOK b.vars.length b.arrays.length b.list.length x=true:=by
  simp only [codeOK,Bool.and_eq_true,List.all_eq_true] at hb
  exact hb.1.2
 have l:=list_inj sa.ins sb.ins (fun x hx y hy=>line_inj (sa.ins x hx) (sb.ins y hy) (hla x hx) (hlb y hy)) h
 obtain ⟨_,_,_⟩:=a
 obtain ⟨_,_,_⟩:=b
 simp only at v r l
 rw [v,r,l]
open CtL (In Cd)
open CtL (In Cd)
open CtL (In Cd kindsOf topOf fOK inOK codeOK)
open CtG (labT ltrL)
def preC (u : List UInt8) : List (List UInt8) → List (List UInt8)
 | []=>[u]
 | h :: t=>(u++h) :: t
def splC (c : UInt8) : List UInt8 → List (List UInt8)
 | []=>[[]]
 | a :: r=>if a=c then [] :: splC c r else preC [a] (splC c r)
theorem splC_ne (c : UInt8) : ∀ l, splC c l ≠ []
 | []=>by simp [splC]
 | a :: r=>by
  unfold splC
  split
  ·simp
  ·cases hq:splC c r with
   | nil=>exact absurd hq (splC_ne c r)
   | cons h t=>simp [preC]
theorem preC_nil {c:UInt8} (l:List UInt8):preC [] (splC c l)=splC c l:=by
 cases hq:splC c l with
 | nil=>exact absurd hq (splC_ne c l)
 | cons h t=>simp [preC]
theorem preC_preC (u v:List UInt8) {L:List (List UInt8)} (h:L ≠ []):preC u (preC v L)=preC (u++v) L:=by
 cases L with
 | nil=>exact absurd rfl h
 | cons a t=>simp [preC]
theorem splC_no {c : UInt8} : ∀ {u : List UInt8} (x : List UInt8), c ∉ u → splC c (u ++ x) = preC u (splC c x)
 | [],x,_=>(preC_nil x).symm
 | a :: u,x,h=>by
  have h1:a ≠ c:=fun e=>h (by rw [e];simp)
  rw [List.cons_append,splC,if_neg h1,splC_no x (fun q=>h (List.mem_cons_of_mem _ q)),preC_preC _ _ (splC_ne c x)]
  rfl
theorem splC_at {c:UInt8} {u:List UInt8} (x:List UInt8) (h:c ∉ u):splC c (u++c :: x)=u :: splC c x:=by
 rw [splC_no _ h,splC,if_pos rfl];simp [preC]
theorem splC_end {c:UInt8} {u:List UInt8} (h:c ∉ u):splC c u=[u]:=by
 have:=splC_no [] h
 rw [List.append_nil] at this
 rw [this];simp [splC,preC]
theorem preC_le {n : Nat} (u : List UInt8) : ∀ {L : List (List UInt8)}, L ≠ [] → (∀ p ∈ L, u.length + p.length ≤ n) → ∀ p ∈ preC u L, p.length ≤ n
 | [],h,_,p,_=>absurd rfl h
 | a :: r,_,h,p,hp=>by
  simp only [preC,List.mem_cons] at hp
  rcases hp with rfl | hp
  ·have:=h a (by simp);simpa using this
  ·have:=h p (by simp [hp]);omega
theorem splC_le (c : UInt8) : ∀ l : List UInt8, ∀ p ∈ splC c l, p.length ≤ l.length
 | [],p,hp=>by simp [splC] at hp;simp [hp]
 | a :: r,p,hp=>by
  have ih:=splC_le c r
  unfold splC at hp
  split at hp
  ·rcases List.mem_cons.1 hp with rfl | hp
   ·simp
   ·have:=ih p hp;simp only [List.length_cons];omega
  ·exact preC_le [a] (splC_ne c r) (fun q hq=>by have:=ih q hq;simp only [List.length_cons,List.length_nil];omega) p hp
def isDig (d:UInt8):Bool:=decide (48≤d) && decide (d≤57)
def numU (neg:Bool) (r:List UInt8):Int × Bool :=
 if r.length=0∨17<r.length∨(r.getD 0 0=48∧(1<r.length∨neg=true)) then (0,false)
 else if r.all isDig=true then ((if neg=true then -(val r:Int) else (val r:Int)),true) else (0,false)
def numS (s:List UInt8):Int × Bool:=if s.length ≠ 0∧s.getD 0 0=45 then numU true (s.drop 1) else numU false s
def ltrX (c:UInt8):Int:=if c=76 then 0 else if c=72 then 1 else if c=85 then 2 else if c=88 then 3 else -1
def labP : List UInt8 → Option (List Int)
 | []=>some []
 | c :: r=>if ltrX c<0 then none else (labP r).map (ltrX c :: ·)
theorem ltrX_ltr {x:Int} (h:0≤x∧x≤3):ltrX (ltrL x)=x:=by
 have k1:x=0∨x=1∨x=2∨x=3:=by omega
 rcases k1 with rfl | rfl | rfl | rfl<;>decide
theorem labP_lab : ∀ {l : List Int}, labs l = true → labP (labT l) = some l
 | [],_=>rfl
 | a :: l,h=>by
  simp only [labs,List.all_cons,Bool.and_eq_true,decide_eq_true_eq] at h
  have h2:=labP_lab (l:=l) (by rw [labs];simpa using h.2)
  have hx:=ltrX_ltr h.1
  show (if ltrX (ltrL a)<0 then none else (labP (labT l)).map (ltrX (ltrL a) :: ·))=_
  rw [hx,h2,if_neg (by omega)]
  rfl
theorem val_num {n:Int} (h:0≤n∧n≤999):numS (Lib.itoa n)=(n,true):=by
 obtain ⟨m,rfl⟩:∃ m:Nat,n=m:=⟨n.toNat,by omega⟩
 have hd:=dec_dig m
 have hv:=dec_val m
 have hl:=itoa_len h
 rw [Lib.itoa_nonneg] at hl ⊢
 have h0:1≤(Lib.decDigits m).length∧((Lib.decDigits m).getD 0 0=48→(Lib.decDigits m).length=1):=by
  have key:∀ k,k<10→(Lib.decDigits k).length=1∧(1≤k→(Lib.decDigits k).getD 0 0 ≠ 48):=fun k hk=>by
   rw [dec_one hk]
   refine ⟨rfl,fun h1 e=>?_⟩
   have:=dig_toNat hk
   simp only [List.getD_cons_zero] at e
   rw [e] at this
   have h48:(48:UInt8).toNat=48:=rfl
   omega
  have two:∀ k,k<100→1≤(Lib.decDigits k).length∧((Lib.decDigits k).getD 0 0=48→(Lib.decDigits k).length=1)∧(1≤k→(Lib.decDigits k).getD 0 0 ≠ 48):=fun k hk=>by
   rcases Nat.lt_or_ge k 10 with q | q
   ·have:=key k q;exact ⟨by omega,fun _=>this.1,this.2⟩
   ·have h1:=key (k / 10) (by omega)
    rw [CtG.decStep q]
    have e:(Lib.decDigits (k / 10)++[48+UInt8.ofNat (k % 10)]).getD 0 0=(Lib.decDigits (k / 10)).getD 0 0:=by
     simp only [List.getD_eq_getElem?_getD]
     rw [List.getElem?_append_left (by omega)]
    rw [e]
    exact ⟨by simp,fun h=>absurd h (h1.2 (by omega)),fun _=>h1.2 (by omega)⟩
  rcases Nat.lt_or_ge m 100 with q | q
  ·have:=two m q;exact ⟨this.1,this.2.1⟩
  ·have h1:=two (m / 10) (by omega)
   rw [CtG.decStep (by omega)]
   have e:(Lib.decDigits (m / 10)++[48+UInt8.ofNat (m % 10)]).getD 0 0=(Lib.decDigits (m / 10)).getD 0 0:=by
    simp only [List.getD_eq_getElem?_getD]
    rw [List.getElem?_append_left (by omega)]
   rw [e]
   exact ⟨by simp,fun h=>absurd h (h1.2.2 (by omega))⟩
 generalize Lib.decDigits m=l at *
 have hne:¬ (l.length ≠ 0∧l.getD 0 0=45):=fun ⟨q1,q2⟩=>by
  have hm:l.getD 0 0 ∈ l:=by
   rw [List.getD_eq_getElem?_getD,List.getElem?_eq_getElem (show 0<l.length by omega)]
   simp
  have:=hd _ hm
  rw [q2] at this
  simp at this
 have hall:l.all isDig=true:=by
  rw [List.all_eq_true]
  intro d hdm
  have:=hd d hdm
  simp only [isDig,Bool.and_eq_true,decide_eq_true_eq]
  refine ⟨UInt8.le_iff_toNat_le.2 ?_,UInt8.le_iff_toNat_le.2 ?_⟩
  ·exact this.1
  ·exact this.2
 rw [numS,if_neg hne,numU,if_neg,if_pos hall]
 ·simp [hv]
 ·rintro (q | q | ⟨q1,q2 | q2⟩)
  ·omega
  ·omega
  ·have:=h0.2 q1;omega
  ·cases q2
def opOf (u:List UInt8):Nat:=nmL.findIdx (fun w=>w == u)+1
theorem opOf_nm {op:Int} (h:1≤op∧op≤13):(opOf (nmT op):Int)=op:=by
 have key:op=1∨op=2∨op=3∨op=4∨op=5∨op=6∨op=7∨op=8∨op=9∨op=10∨op=11∨op=12∨op=13:=by omega
 rcases key with rfl | rfl | rfl | rfl | rfl | rfl | rfl | rfl | rfl | rfl | rfl | rfl | rfl<;>decide
def plS (line:List UInt8):In × Bool :=
 let w:=splC 32 line
 if w.length≤5∧opOf (w.getD 0 [])≤13 then (⟨opOf (w.getD 0 []),(numS (w.getD 1 [])).1,(numS (w.getD 2 [])).1,(numS (w.getD 3 [])).1,(numS (w.getD 4 [])).1⟩,true) else (⟨0,0,0,0,0⟩,false)
def headT (c:Cd):List UInt8:=[99,111,100,101,32]++(labT c.vars++47 :: labT c.arrays)
theorem fmt_lines {c:Cd} (h:codeOK c=true):splC 10 (fmtT c)=headT c :: (c.list.map lineT++[[]]):=by
 have sc:=cds_of h
 have e:fmtT c=headT c++10 :: listT c.list:=by simp [fmtT,headT]
 have hn:(10:UInt8) ∉ headT c:=fun q=>by
  simp only [headT,List.mem_append,List.mem_cons,List.not_mem_nil,or_false] at q
  rcases q with (q | q | q | q | q) | q | q | q
  ·exact absurd q (by decide)
  ·exact absurd q (by decide)
  ·exact absurd q (by decide)
  ·exact absurd q (by decide)
  ·exact absurd q (by decide)
  ·have:=lab_low sc.lv _ q;simp at this
  ·exact absurd q (by decide)
  ·have:=lab_low sc.la _ q;simp at this
 rw [e,splC_at _ hn]
 congr 1
 have key:∀ l:List In,(∀ x ∈ l,InS x)→splC 10 (listT l)=l.map lineT++[[]]:=fun l hl=>by
  induction l with
  | nil=>rfl
  | cons a r ih =>
   have e2:listT (a :: r)=lineT a++10 :: listT r:=by simp [listT]
   rw [e2,splC_at _ (line_10 (hl a (by simp))),ih fun x hx=>hl x (by simp [hx])]
   rfl
 exact key _ sc.ins
theorem head_parts {c:Cd} (h:codeOK c=true):splC 47 ((headT c).drop 5)=[labT c.vars,labT c.arrays]:=by
 have sc:=cds_of h
 have n47:∀ {l:List Int},labs l=true→(47:UInt8) ∉ labT l:=fun hl hq=>by have:=lab_low hl _ hq;simp at this
 have e:(headT c).drop 5=labT c.vars++47 :: labT c.arrays:=by simp [headT]
 rw [e,splC_at _ (n47 sc.lv),splC_end (n47 sc.la)]
theorem splC_words {c : UInt8} : ∀ (L : List (List UInt8)) (u : List UInt8), c ∉ u → (∀ w ∈ L, c ∉ w) → splC c (u ++ L.flatMap (c :: ·)) = u :: L
 | [],u,h,_=>by simp [splC_end h]
 | a :: L,u,h,hL=>by
  rw [List.flatMap_cons,List.cons_append,splC_at _ h,splC_words L a (hL a (by simp)) (fun w hw=>hL w (by simp [hw]))]
def wordsT (x:In):List (List UInt8):=(List.range (narg x.op)).map fun i=>Lib.itoa ([x.a,x.b,x.c,x.d].getD i 0)
theorem line_words {x:In} (hx:InS x):splC 32 (lineT x)=nmT x.op :: wordsT x:=by
 have hno:∀ w ∈ wordsT x,(32:UInt8) ∉ w:=fun w hw hq=>by
  obtain ⟨i,_,rfl⟩:=List.mem_map.1 hw
  have:=itoa_dig (hx.at i).1 _ hq
  simp at this
 have hnn:(32:UInt8) ∉ nmT x.op:=fun hq=>by
  have:=nmT_low hx.1 _ hq
  simp at this
 rw [lineT,prT_words]
 exact splC_words _ _ hnn hno
theorem words_at {x:In} (hx:InS x) (i:Nat):(wordsT x)[i]? = if i<narg x.op then some (Lib.itoa ([x.a,x.b,x.c,x.d].getD i 0)) else none:=by
 unfold wordsT
 rw [List.getElem?_map]
 split
 ·rename_i h;rw [List.getElem?_range h];rfl
 ·rename_i h;rw [List.getElem?_eq_none (by simp;omega)];rfl
theorem zero_of {nv na nl:Nat} {x:In} {i:Nat} (hi:i<4) (hz:inOK nv na nl x=true) (h:¬ i<narg x.op):[x.a,x.b,x.c,x.d].getD i 0=0:=by
 have hk:=mt (narg_lt x.op i hi).2 h
 have h6:=kinds_le x.op i
 have hk0:(kindsOf x.op).getD i 0=0:=by
  generalize (kindsOf x.op).getD i 0=k at *
  have:k=0∨k=1∨k=2∨k=3∨k=4∨k=5∨k=6:=by omega
  rcases this with rfl | rfl | rfl | rfl | rfl | rfl | rfl
  ·rfl
  all_goals exact absurd (by decide) hk
 simp only [inOK,Bool.and_eq_true,decide_eq_true_eq] at hz
 obtain ⟨⟨⟨⟨⟨o1,o2⟩,q0⟩,q1⟩,q2⟩,q3⟩:=hz
 have key:∀ n,fOK nv na nl 0 n=true→n=0:=fun n hn=>by
  simp only [fOK,topOf,Bool.and_eq_true,decide_eq_true_eq] at hn
  simp at hn
  omega
 have:i=0∨i=1∨i=2∨i=3:=by omega
 rcases this with rfl | rfl | rfl | rfl
 ·rw [hk0] at q0;exact key _ q0
 ·rw [hk0] at q1;exact key _ q1
 ·rw [hk0] at q2;exact key _ q2
 ·rw [hk0] at q3;exact key _ q3
theorem plS_line {nv na nl:Nat} {x:In} (hs:InS x) (hx:inOK nv na nl x=true):plS (lineT x)=(x,true):=by
 have hna:=narg_le x.op
 have hop:=opOf_nm hs.1
 have hlen:(nmT x.op :: wordsT x).length=narg x.op+1:=by simp [wordsT]
 have hw:∀ i,i<4→(numS ((nmT x.op :: wordsT x).getD (i+1) [])).1=[x.a,x.b,x.c,x.d].getD i 0:=fun i hi=>by
  have e:=words_at hs i
  rw [List.getD_cons_succ,List.getD_eq_getElem?_getD,e]
  by_cases h:i<narg x.op
  ·rw [if_pos h,Option.getD_some,val_num (hs.at i)]
  ·rw [if_neg h,Option.getD_none,zero_of hi hx h];rfl
 have w0:=hw 0 (by omega)
 have w1:=hw 1 (by omega)
 have w2:=hw 2 (by omega)
 have w3:=hw 3 (by omega)
 unfold plS
 rw [line_words hs]
 simp only [hlen,List.getD_cons_zero]
 rw [if_pos ⟨by omega,by have:=hs.1;omega⟩]
 simp only [Nat.zero_add,Nat.reduceAdd] at w0 w1 w2 w3
 rw [w0,w1,w2,w3,hop]
 rfl
end Go.Proofs.YtfkhahkclgejnaaGreatDoor.CtD
