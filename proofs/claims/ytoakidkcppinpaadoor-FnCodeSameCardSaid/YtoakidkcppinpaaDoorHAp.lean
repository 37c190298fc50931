/- Contracts of functions of the program, one behind the other, as plain data: what each call returns and which blocks it leaves. -/
import Derived.Test.YtoakidkcppinpaaDoorHFacts
import Derived.Test.YtoakidkcppinpaaDoorHAj
import Derived.Test.YtoakidkcppinpaaDoorHAk
import Derived.Test.YtoakidkcppinpaaDoorHAm
import Derived.Test.YtoakidkcppinpaaDoorHAn
import Derived.Test.YtoakidkcppinpaaDoorHAo
import Derived.Test.YtoakidkcppinpaaDoorHAl
set_option linter.unusedVariables false
set_option linter.unusedSimpArgs false
set_option linter.unusedSectionVars false
set_option maxHeartbeats 16000000
set_option maxRecDepth 100000
namespace Go.Proofs.YtoakidkcppinpaaDoor.CtD
open Go Go.CT CtF CtR
variable [Yn]
open CtL (In Cd kindsOf topOf fOK inOK codeOK)
open CtG (labT ltrL lstT)
def nmL:List (List UInt8):=[[99,111,110,115,116],[103,101,116],[112,117,116],[108,111,97,100],[115,116,111,114,101],[98,105,110],[115,101,108,101,99,116],[106,117,109,112],[122,101,114,111],[108,111,111,112],[114,101,108,101,97,115,101],[102,101,110,99,101],[104,97,108,116]]
def strD (l:List (List UInt8)):C := .isl 1 (l.map fun s=>[.v (.string (bstr s))])
theorem opWordsI:DC Tryd.prog 68 [] [] (fun r h=>r = .c (strD nmL)∧h=[]):=by
 have hmx:=mx_eq
 refine dcZ Tryd.func68 ?_
 simp only [go_sem]
 iterate 3 ((try (refine drvZ Tryd.func68 ?_;simp only [go_sem]));((with_reducible and_intros)<;>try exact sd))
 refine RetOb.ofQ (fun _=>none) [64] (.c (strD nmL)) [] ?_ ⟨rfl,rfl⟩ (by simp)
 simp [strD,nmL,bstr,enumL,DM,DMs,CM,CMs,HpOK,LowOK,hOf,upd,kf]
def nmT (op:Int):List UInt8:=nmL.getD (op - 1).toNat []
def narg (op:Int):Nat:=(sls op).size
def prT (x:In) (k:Nat):List UInt8:=(List.range k).flatMap fun i=>32 :: Lib.itoa ([x.a,x.b,x.c,x.d].getD i 0)
def lineT (x:In):List UInt8:=nmT x.op++prT x (narg x.op)
theorem prT_succ (x:In) (k:Nat):prT x (k+1)=prT x k++(32 :: Lib.itoa ([x.a,x.b,x.c,x.d].getD k 0)):=by
 unfold prT
 rw [List.range_succ,List.flatMap_append]
 simp
theorem bstr_size (l:List UInt8):(bstr l).size=l.length:=by simp [bstr,ByteArray.size]
theorem b1 (x:UInt8):(⟨#[x]⟩:ByteArray)=bstr [x]:=rfl
theorem itoa_len {n:Int} (h:0≤n∧n≤999):(Lib.itoa n).length≤3:=by
 obtain ⟨m,rfl⟩:∃ m:Nat,n=m:=⟨n.toNat,by omega⟩
 rw [Lib.itoa_nonneg]
 have one:∀ k,k<10→(Lib.decDigits k).length=1:=fun k hk=>by rw [Lib.decDigits_one hk];rfl
 have two:∀ k,k<100→(Lib.decDigits k).length≤2:=fun k hk=>by
  rcases Nat.lt_or_ge k 10 with q | q
  ·have:=one k q;omega
  ·rw [CtG.decStep q,List.length_append,one (k / 10) (by omega)];simp
 rcases Nat.lt_or_ge m 10 with q | q
 ·have:=one m q;omega
 ·have:=two (m / 10) (by omega)
  rw [CtG.decStep q,List.length_append];simp;omega
def InS (x:In):Prop:=(1≤x.op∧x.op≤13)∧∀ n ∈ [x.a,x.b,x.c,x.d],0≤n∧n≤999
theorem InS.at {x:In} (h:InS x) (i:Nat):0≤[x.a,x.b,x.c,x.d].getD i 0∧[x.a,x.b,x.c,x.d].getD i 0≤999:=by
 rw [List.getD_eq_getElem?_getD]
 cases hx:[x.a,x.b,x.c,x.d][i]? with
 | none=>simp
 | some v=>exact h.2 v (List.mem_of_getElem? hx)
theorem prT_len {x : In} (h : InS x) : ∀ k, (prT x k).length ≤ k * 4
 | 0=>by simp [prT]
 | k+1=>by
  have:=prT_len h k
  have:=itoa_len (h.at k)
  rw [prT_succ,List.length_append,List.length_cons];omega
theorem nm_at {op:Int} (h:1≤op∧op≤13):nmL[(op - 1).toNat]? = some (nmT op)∧(nmT op).length≤10:=by
 have key:op=1∨op=2∨op=3∨op=4∨op=5∨op=6∨op=7∨op=8∨op=9∨op=10∨op=11∨op=12∨op=13:=by omega
 rcases key with rfl | rfl | rfl | rfl | rfl | rfl | rfl | rfl | rfl | rfl | rfl | rfl | rfl<;>exact ⟨rfl,by decide⟩
theorem narg_lt (op:Int) (i:Nat) (h:i<4):(i<narg op ↔ ltr ((kindsOf op).getD i 0) ≠ 45):=by
 rw [narg,sls_len op i h]
 have h6:=kinds_le op i
 generalize (kindsOf op).getD i 0=k at *
 have:k=0∨k=1∨k=2∨k=3∨k=4∨k=5∨k=6:=by omega
 rcases this with rfl | rfl | rfl | rfl | rfl | rfl | rfl<;>decide
theorem narg_le (op:Int):narg op≤4:=by
 unfold narg sls kindsOf
 repeat' split
 all_goals decide
theorem textI (hT:TabY inferInstance) (x:In) (hx:InS x):DC Tryd.prog 60 [.agg (inX x)] [] (fun r h=>r=DS (bstr (lineT x))∧h=[]):=by
 have hmx:=mx_eq
 have how:=opWordsI
 have hsh:=shapeI x.op hx.1
 have hfi:=fieldsI x
 have hit:=fun (n:Int) (h:0≤n∧n≤999)=>itoaD hT n (by omega) (by omega)
 have hat:=hx.at
 have hpl:=prT_len hx
 obtain ⟨hnm,hnl⟩:=nm_at hx.1
 have hna:=narg_le x.op
 have ho:=hx.1
 have ret:∀ (l:List UInt8) (hp:Hp),l=lineT x→RetOb 0 (fun r h=>r=DS (bstr (lineT x))∧h=[]) (DS (bstr l)) hp:=fun l hp e=>by subst e;exact RetOb.plain (d:=DS _) ⟨rfl,rfl⟩ rfl
 generalize hR:(fun (r:D) (h:List (Option (List C)))=>r=DS (bstr (lineT x))∧h=[])=R at ret ⊢
 obtain ⟨op,a,b,c',d⟩:=x
 simp only [inX,strD] at hsh hfi how hnm hnl hna ho hat hpl ⊢
 have hnm2:(nmL.map fun s=>[C.v (.string (bstr s))])[(op - 1).toNat]? = some [.v (.string (bstr (nmT op)))]:=by rw [List.getElem?_map,hnm];rfl
 have hlt:(op - 1).toNat<nmL.length:=(List.getElem?_eq_some_iff.1 hnm).1
 refine dcZ Tryd.func60 ?_
 simp only [go_sem]
 iterate 6 ((try (refine drvZ Tryd.func60 ?_;simp only [go_sem,hnm2]));((with_reducible and_intros)<;>try exact sd);(try first | refine XK.p how ok68 ?_ | refine XK.gp how ok68 ?_ | refine XK.p hfi ok55 ?_ | refine XK.gp hfi ok55 ?_))
 refine Go.loopQ (fun i : Nat => [(1, .c (.ptr 0 0)), (3, DS (bstr (nmT op ++ prT ⟨op, a, b, c', d⟩ (min i (narg op))))), (13, .c (.isl 1 [[I64 a], [I64 b], [I64 c'], [I64 d]])), (14, DI .i64 4), (15, DI .i64 i)]) (fun _ => [(0, some [I64 op, I64 a, I64 b, I64 c', I64 d])])
  2048 (fun i=>i≤4) (fun i=>4 - i) ?_ 0 some [] _ (Nat.zero_le _) ?_
 ·intro i hi again
  rcases Nat.lt_or_ge i 4 with hlt4 | hge
  ·have hx:[[I64 a],[I64 b],[I64 c'],[I64 d]][i]? = some [I64 ([a,b,c',d].getD i 0)]:=by
    have:i=0∨i=1∨i=2∨i=3:=by omega
    rcases this with rfl | rfl | rfl | rfl<;>rfl
   have hlt':(i:Int)<4:=by omega
   have hlt2:i < [[I64 a],[I64 b],[I64 c'],[I64 d]].length:=hlt4
   have hsz:(shp op).size=4:=rfl
   have hsa:=shp_at op i hlt4
   have hnl4:=narg_lt op i hlt4
   have hps:=prT_succ ⟨op,a,b,c',d⟩ i
   have hbd:=hat i
   have hit:=hit _ hbd
   have hil:=itoa_len hbd
   have hpi:=hpl i
   simp only at hps hbd hit hil
   generalize ltr ((kindsOf op).getD i 0)=u at *
   generalize [a,b,c',d].getD i 0=n at *
   generalize [[I64 a],[I64 b],[I64 c'],[I64 d]]=fl at *
   by_cases hin:i<narg op
   ·have hu:((u.toNat:Int) != 45)=true:=by
     have:=hnl4.1 hin
     rw [bne_iff_ne];intro e;apply this
     have:u.toNat=45:=by omega
     exact UInt8.toNat_inj.1 this
    have em:min i (narg op)=i:=by omega
    have em2:min (i+1) (narg op)=i+1:=by omega
    have hfin:bstr (nmT op++prT ⟨op,a,b,c',d⟩ i)++(bstr [32]++bstr (Lib.itoa n))=bstr (nmT op++prT ⟨op,a,b,c',d⟩ (i+1)):=by rw [bstr_app,bstr_app,hps];simp
    have hz1:(((nmT op++prT ⟨op,a,b,c',d⟩ i).length:Int)+(1+((Lib.itoa n).length:Int))≤9223372036854775807)=True:=eq_true (by rw [List.length_append];omega)
    refine drvL Tryd.func60 ?_
    simp only [go_sem,em,hlt']
    iterate 8 ((try (refine drvZ Tryd.func60 ?_;simp only [go_sem,hx,hlt',hlt2,hlt4,hsz,hsa,hu,em,b1,bstr_size,hz1]));((with_reducible and_intros)<;>try exact sd);(try first | refine XK.p hsh ok54 ?_ | refine XK.gp hsh ok54 ?_ | refine XK.p hit ok69 ?_ | refine XK.gp hit ok69 ?_))
    refine again (i+1) some [] _ hlt4 (show 4 - (i+1)<4 - i by omega) ?_
    simp only [go_sem,TmOK,DM,DMs,CM,CMs,forall_eq,exists_eq_left,Mq,HpOK,LowOK,em2,hfin]
    try simp
   ·have hu:((u.toNat:Int) != 45)=false:=by
     have:¬ u ≠ 45:=fun h=>hin (hnl4.2 h)
     have:u=45:=by simpa using this
     subst this;rfl
    have em:min i (narg op)=narg op:=by omega
    have em2:min (i+1) (narg op)=narg op:=by omega
    refine drvL Tryd.func60 ?_
    simp only [go_sem,em,hlt']
    iterate 8 ((try (refine drvZ Tryd.func60 ?_;simp only [go_sem,hx,hlt',hlt2,hlt4,hsz,hsa,hu,em,b1,bstr_size]));((with_reducible and_intros)<;>try exact sd);(try first | refine XK.p hsh ok54 ?_ | refine XK.gp hsh ok54 ?_))
    refine again (i+1) some [] _ hlt4 (show 4 - (i+1)<4 - i by omega) ?_
    simp only [go_sem,TmOK,DM,DMs,CM,CMs,forall_eq,exists_eq_left,Mq,HpOK,LowOK,em2]
    try simp
  ·have hi4:i=4:=by omega
   subst hi4
   have em:min 4 (narg op)=narg op:=by omega
   clear again
   refine drvL Tryd.func60 ?_
   simp only [go_sem,em,Int.reduceLT]
   iterate 5 ((try (refine drvZ Tryd.func60 ?_;simp only [go_sem,em,Int.reduceLT]));((with_reducible and_intros)<;>try exact sd))
   exact ret _ _ rfl
 ·simp only [go_sem,TmOK,DM,DMs,CM,CMs,forall_eq,exists_eq_left,Mq,HpOK,LowOK]
  simp [prT]
open CtL (In Cd kindsOf topOf fOK inOK codeOK)
open CtG (labT ltrL lstT)
theorem lineT_len {x:In} (h:InS x):(lineT x).length≤26:=by
 have h1:=prT_len h (narg x.op)
 have h2:=narg_le x.op
 have h3:=(nm_at h.1).2
 rw [lineT,List.length_append];omega
def hltI:In:=⟨13,0,0,0,0⟩
theorem hltI_s:InS hltI:=⟨by decide,by decide⟩
def listT (l:List In):List UInt8:=l.flatMap fun x=>lineT x++[10]
theorem lst_eq (l:List In):lstT (fun k=>lineT (l.getD k hltI)) l.length=listT l:=by
 unfold lstT listT
 have h:(List.range l.length).map (fun k=>l.getD k hltI)=l:=by
  apply List.ext_getElem
  ·simp
  ·intro i h1 h2
   simp [List.getD,List.getElem?_eq_getElem h2]
 conv=>rhs;rw [← h]
 rw [List.flatMap_map]
theorem agg3 {I:Nat→Prop} {w:World} {s:Sg} {v:Value} {a b c:C} (h:RD I w s v (.agg [a,b,c])):∃ x y z,v = .agg #[x,y,z]∧RC I w s x a∧RC I w s y b∧RC I w s z c:=by
 cases h with
 | agg vs _ hl hr =>
  rcases vs with ⟨l⟩
  match l,hl with
  | [x,y,z],hl=>exact ⟨x,y,z,rfl,hr 0 (by simp) (by simp),hr 1 (by simp) (by simp),hr 2 (by simp) (by simp)⟩
theorem listTextI (hT:TabY inferInstance) (c:Cd) (hl:c.list.length≤1000000) (hne:1≤c.list.length) (hs:∀ x ∈ c.list,InS x):DC Tryd.prog 46 [.agg (cdC c)] [] (fun r h=>r=DS (bstr (listT c.list))∧h=[]) :=
 DC.ofBelow rfl fun I w s vs H hv=>by
  obtain ⟨v,rfl,hr⟩:=vs_one hv
  obtain ⟨x,y,z,rfl,_,_,hz⟩:=agg3 hr
  have hw:=SimH.tab H hT
  have hall:∀ k,InS (c.list.getD k hltI):=fun k=>by
   rw [List.getD_eq_getElem?_getD]
   cases hx:c.list[k]? with
   | none=>exact hltI_s
   | some u=>exact hs u (List.mem_of_getElem? hx)
  generalize hL:c.list.map inX=L at hz
  have hlen:L.length=c.list.length:=by rw [← hL];simp
  cases hz with
  | isl0 _ a cap _=>simp at hlen;omega
  | isl _ b off cap _ _ yv hI hl5 hc hrc hcap =>
   rw [hlen]
   let f:Nat→Nat→Int:=fun k j=>let u:=c.list.getD k hltI;[u.op,u.a,u.b,u.c,u.d].getD j 0
   have hcell:∀ k j,k<c.list.length→j<5→w.cell? ⟨b,off+(k * 5+j),none⟩=some (.int .i64 (f k j)):=fun k j hk hj=>by
    have h1:=hc k j (by omega) hj
    have hLk:L[k]'(by omega)=inX (c.list.getD k hltI):=by
     subst hL
     simp [List.getD,List.getElem?_eq_getElem hk]
    have h2:=hrc k (by omega) j (by rw [hLk];simpa [inX] using hj)
    have e2:(L[k]'(by omega))[j]'(by rw [hLk];simpa [inX] using hj)=C.v (.int .i64 (f k j)):=by
     simp only [hLk]
     have:j=0∨j=1∨j=2∨j=3∨j=4:=by omega
     rcases this with rfl | rfl | rfl | rfl | rfl<;>rfl
    rw [e2] at h2
    rw [show off+(k * 5+j)=off+k * 5+j by omega,h1,(rd_scalar (.c _ _ h2)).1]
   have key:=CtG.listText_any x y b off c.list.length cap f (fun k=>lineT (c.list.getD k hltI)) w hl (H.imm b hI) (fun k=>by have:=lineT_len (hall k);omega) hcell fun k hk w' hb'=>by
    have hd:=@textI (ynAt w') (tabY_at (tabW_below hw hb')) (c.list.getD k hltI) (hall k)
    exact DC.calls hd fun s'=>rds_ints [(c.list.getD k hltI).op,(c.list.getD k hltI).a,(c.list.getD k hltI).b,(c.list.getD k hltI).c,(c.list.getD k hltI).d]
   rw [lst_eq] at key
   exact key
open CtL (In Cd kindsOf topOf fOK inOK codeOK)
open CtG (labT ltrL lstT)
def fmtT (c:Cd):List UInt8:=[99,111,100,101,32]++labT c.vars++[47]++labT c.arrays++[10]++listT c.list
theorem ins_of {nv na nl:Nat} (h1:nv≤900) (h2:na≤900) (h3:nl≤900) {x:In} (h:inOK nv na nl x=true):InS x:=by
 simp only [inOK,Bool.and_eq_true,decide_eq_true_eq] at h
 obtain ⟨⟨⟨⟨⟨o1,o2⟩,q0⟩,q1⟩,q2⟩,q3⟩:=h
 have key:∀ (k:Nat) (n:Int),fOK nv na nl k n=true→0≤n∧n≤999:=fun k n hq=>by
  have ht:topOf nv na nl k≤999:=by
   unfold topOf
   repeat' split
   all_goals omega
  simp only [fOK,Bool.and_eq_true,decide_eq_true_eq] at hq
  refine ⟨?_,Int.le_trans hq.2 ht⟩
  have:=hq.1
  split at this<;>omega
 refine ⟨⟨o1,o2⟩,fun n hn=>?_⟩
 simp only [List.mem_cons,List.not_mem_nil,or_false] at hn
 rcases hn with rfl | rfl | rfl | rfl
 ·exact key _ _ q0
 ·exact key _ _ q1
 ·exact key _ _ q2
 ·exact key _ _ q3
structure CdS (c : Cd) : Prop where
 nv:c.vars.length≤12
 na:c.arrays.length≤2
 l1:1≤c.list.length
 nl:c.list.length≤400
 lv:labs c.vars=true
 la:labs c.arrays=true
 ins:∀ x ∈ c.list,InS x
theorem cds_of {c:Cd} (h:codeOK c=true):CdS c:=by
 simp only [codeOK,headsOK,Bool.and_eq_true,decide_eq_true_eq,List.all_eq_true] at h
 obtain ⟨⟨⟨⟨⟨⟨⟨⟨h1,h2⟩,h3⟩,h4⟩,h5⟩,h6⟩,h7⟩,h8⟩,_⟩:=h
 exact ⟨by omega,by omega,by omega,by omega,h4,h5,fun x hx=>ins_of (by omega) (by omega) (by omega) (h8 x hx)⟩
theorem labT_len (xs:List Int):(labT xs).length=xs.length:=by simp [labT]
theorem listT_len {l:List In} (h:∀ x ∈ l,InS x):(listT l).length≤l.length * 27:=by
 unfold listT
 induction l with
 | nil=>simp
 | cons a r ih =>
  have h1:=lineT_len (h a (by simp))
  have h2:=ih fun x hx=>h x (by simp [hx])
  simp only [List.flatMap_cons,List.length_append,List.length_cons,List.length_nil] at h2 ⊢
  omega
theorem b5:(⟨#[99,111,100,101,32]⟩:ByteArray)=bstr [99,111,100,101,32]:=rfl
theorem codeTextI (hT:TabY inferInstance) (c:Cd) (h:CdS c):DC Tryd.prog 21 [.agg (cdC c)] [] (fun r h=>r=DS (bstr (fmtT c))∧h=[]):=by
 have hmx:=mx_eq
 have f1:=formatLabelsI c.vars (by have:=h.nv;omega) h.lv
 have f2:=formatLabelsI c.arrays (by have:=h.na;omega) h.la
 have f3:=listTextI hT c (by have:=h.nl;omega) h.l1 h.ins
 have n1:=labT_len c.vars
 have n2:=labT_len c.arrays
 have n3:=listT_len h.ins
 have q1:=h.nv
 have q2:=h.na
 have q3:=h.nl
 have ret:∀ (l:List UInt8) (hp:Hp),l=fmtT c→RetOb 0 (fun r h=>r=DS (bstr (fmtT c))∧h=[]) (DS (bstr l)) hp:=fun l hp e=>by subst e;exact RetOb.plain (d:=DS _) ⟨rfl,rfl⟩ rfl
 generalize hR:(fun (r:D) (h:List (Option (List C)))=>r=DS (bstr (fmtT c))∧h=[])=R at ret ⊢
 unfold fmtT at ret
 clear hR h
 obtain ⟨vs,ar,l⟩:=c
 simp only [cdC] at f1 f2 f3 n1 n2 n3 q1 q2 q3 ret ⊢
 generalize labT vs=T1 at *
 generalize labT ar=T2 at *
 generalize listT l=T3 at *
 generalize l.map inX=L at *
 refine dcZ Tryd.func21 ?_
 simp only [go_sem]
 iterate 8 ((try (refine drvZ Tryd.func21 ?_;simp only [go_sem,b1,b5,bstr_size,bstr_app,List.length_append]));((with_reducible and_intros)<;>try exact sd);(try first | refine XK.p f1 ok45 ?_ | refine XK.gp f1 ok45 ?_ | refine XK.p f2 ok45 ?_ | refine XK.gp f2 ok45 ?_ | refine XK.p f3 ok46 ?_ | refine XK.gp f3 ok46 ?_))
 exact ret _ _ (by simp)
theorem codeValidI (c:Cd) (h1:c.vars.length≤2000000) (h2:c.arrays.length≤2000000) (h3:c.list.length≤100000000):DC Tryd.prog 20 [.agg (cdC c)] [] (fun r h=>r=DB (codeOK c)∧h=[]):=by
 have hmx:=mx_eq
 cases h:codeOK c with
 | true=>exact codeValidT c (by omega) (by omega) (by omega) h
 | false=>exact codeValidG0 c h1 h2 h3 h
def fmtC (c:Cd):List UInt8:=if codeOK c=true then fmtT c else []
theorem formatCodeI (hT:TabY inferInstance) (c:Cd) (h1:c.vars.length≤2000000) (h2:c.arrays.length≤2000000) (h3:c.list.length≤100000000):DC Tryd.prog 8 [.agg (cdC c)] [] (fun r h=>r=DS (bstr (fmtC c))∧h=[]):=by
 have hmx:=mx_eq
 have hv:=codeValidI c h1 h2 h3
 unfold fmtC
 cases hok:codeOK c with
 | true =>
  have hct:=codeTextI hT c (cds_of hok)
  rw [hok] at hv
  simp only [if_true]
  have ret:∀ (hp:Hp),RetOb 0 (fun r h=>r=DS (bstr (fmtT c))∧h=[]) (DS (bstr (fmtT c))) hp:=fun hp=>RetOb.plain (d:=DS _) ⟨rfl,rfl⟩ rfl
  generalize hR:(fun (r:D) (h:List (Option (List C)))=>r=DS (bstr (fmtT c))∧h=[])=R at ret ⊢
  clear hR hok
  generalize fmtT c=T at *
  obtain ⟨vs,ar,l⟩:=c
  simp only [cdC] at hv hct ⊢
  refine dcZ Tryd.func8 ?_
  simp only [go_sem]
  iterate 8 ((try (refine drvZ Tryd.func8 ?_;simp only [go_sem]));((with_reducible and_intros)<;>try exact sd);(try first | refine XK.p hv ok20 ?_ | refine XK.gp hv ok20 ?_ | refine XK.p hct ok21 ?_ | refine XK.gp hct ok21 ?_))
  exact ret _
 | false =>
  rw [hok] at hv
  simp only [Bool.false_eq_true,if_false]
  have ret:∀ (hp:Hp),RetOb 0 (fun r h=>r=DS (bstr [])∧h=[]) (DS (bstr [])) hp:=fun hp=>RetOb.plain (d:=DS _) ⟨rfl,rfl⟩ rfl
  generalize hR:(fun (r:D) (h:List (Option (List C)))=>r=DS (bstr [])∧h=[])=R at ret ⊢
  clear hR hok
  obtain ⟨vs,ar,l⟩:=c
  simp only [cdC] at hv ⊢
  refine dcZ Tryd.func8 ?_
  simp only [go_sem]
  iterate 8 ((try (refine drvZ Tryd.func8 ?_;simp only [go_sem]));((with_reducible and_intros)<;>try exact sd);(try first | refine XK.p hv ok20 ?_ | refine XK.gp hv ok20 ?_))
  exact ret _
end Go.Proofs.YtoakidkcppinpaaDoor.CtD
namespace Go.Proofs.YtoakidkcppinpaaDoor.CtD
set_option pp.maxSteps 300000
set_option pp.deepTerms true
open Go Go.CT CtF CtR
variable [Yn]
open CtL (In Cd)
def co6F (bs:List Int) (n:Nat) (r:D) (h:List (Option (List C))):Prop:=∃ c:Cd,r = .agg (cdC c)∧c.vars.length≤13∧c.arrays.length≤2∧c.list.length≤400∧rdL bs n 1001000 h
theorem l6CodeF (bs:List Int) (n:Nat) (hb:Fits .u8 bs) (hl:bs.length≤2000) (hn:n≤270000000000):DC Tryd.prog 25 [.c (.ptr 0 0)] [some (rdr bs n)] (co6F bs n) :=
 DC.weaken (l6CodeO bs n hb hl hn) (fun d h' ⟨vs,ar,l,e,g1,g2,g3,_,_,n',q1,q2,e2⟩ _=>by
  subst e e2
  refine RetOb.ofQ (fun j=>if j=0 then some 0 else none) [1,2,3] (.agg (cdC ⟨vs,ar,l⟩)) [some (rdr bs n')] ?_ ⟨⟨vs,ar,l⟩,rfl,g1.2,g2,by simp only;omega,n',q1,q2,rfl⟩ (by simp)
  simp [cdC,isI,enumL,hOf,DM,DMs,CM,CMs,HpOK,LowOK,upd,rdr,kf,flat_I',hpL,CMs_in,in_flat,inX])
def dcsR (r:D) (h:List (Option (List C))):Prop:=∃ a b:Cd,r = .tup [.agg (cdC a),.agg (cdC b)]∧(a.vars.length≤13∧a.arrays.length≤2∧a.list.length≤400)∧(b.vars.length≤13∧b.arrays.length≤2∧b.list.length≤400)∧h=[]
theorem drawCodeSame (bs:List Int) (hb:Fits .u8 bs) (hl:bs.length≤mx):DC Tryd.prog 10 [bytesD bs] [] dcsR:=by
 have hmx:=mx_eq
 have hop:=l17Open bs hl
 have hb':=fits_take hb 2000
 have hl':(bs.take 2000).length≤2000:=by rw [List.length_take];omega
 generalize hR:dcsR=R
 generalize hbs:bs.take 2000=b2 at *
 unfold bytesD
 unfold bytesD at hop
 refine dcZ Tryd.func10 ?_
 simp only [go_sem]
 ((try (refine drvZ Tryd.func10 ?_;simp only [go_sem]));((with_reducible and_intros)<;>try exact sd))
 refine XK.callG [] hop ok24 (fun i' x h=>by simp at h) (hbT ()) (fun d h' ⟨_,e⟩=>by subst e;simp) ?_
 rintro _ _ ⟨rfl,rfl⟩ _
 iterate 2 ((try (refine drvZ Tryd.func10 ?_;simp only [go_sem,renCs_rdr]));((with_reducible and_intros)<;>try exact sd))
 have co:=l6CodeF b2 0 hb' hl' (by omega)
 refine XK.callG [192] co ok25 (hhp_one (by simp [upd,renCs_rdr])) (hbT ()) (fun d h' ⟨_,_,_,_,_,_,_,_,e⟩=>by subst e;simp) ?_
 rintro _ _ ⟨c,rfl,p1,p2,p3,n1,hn1,hn2,rfl⟩ _
 have fin:∀ (c':Cd) (hp:Hp),c'.vars.length≤13→c'.arrays.length≤2→c'.list.length≤400→RetOb 0 R (.tup [.agg (cdC c),.agg (cdC c')]) hp:=fun c' hp q1 q2 q3=>by
  refine RetOb.ofQ (fun _=>none) [] (.tup [.agg (cdC c),.agg (cdC c')]) [] ?_ (by rw [← hR];exact ⟨c,c',rfl,⟨p1,p2,p3⟩,⟨q1,q2,q3⟩,rfl⟩) (by simp)
  simp [cdC,isI,enumL,hOf,DM,DMs,CM,CMs,HpOK,LowOK,upd,kf]
 have hmu:=l6Mutate b2 (n1+1) c hb' hl' (by omega) p1 p2 p3
 obtain ⟨vs,ar,l⟩:=c
 unfold cdC at hmu
 simp only [cdC] at hmu fin ⊢
 iterate 3 ((try (refine drvZ Tryd.func10 ?_;simp only [go_sem,renCs_rdr]));((with_reducible and_intros)<;>try exact sd))
 refine XK.callG [192] (pick b2 n1 2 hb' hl' (by omega) (by simp only [InK];omega)) ok26 (hhp_one (by simp [upd,renCs_rdr])) (hbT ()) (fun d h' ⟨v,_,_,e⟩=>by subst e;simp) ?_
 rintro _ _ ⟨v,rfl,hv,rfl⟩ _
 have hvc:v=0∨v=1:=by omega
 rcases hvc with rfl | rfl
 ·iterate 3 ((try (refine drvZ Tryd.func10 ?_;simp only [go_sem,renCs_rdr]));((with_reducible and_intros)<;>try exact sd))
  have co:=l6CodeF b2 (n1+1) hb' hl' (by omega)
  refine XK.callG [192] co ok25 (hhp_one (by simp [upd,renCs_rdr])) (hbT ()) (fun d h' ⟨_,_,_,_,_,_,_,_,e⟩=>by subst e;simp) ?_ (fun _=>⟨by kernel_rfl,_,_,⟨⟨[],[],[]⟩,rfl,by simp,by simp,by simp,n1+1,Nat.le_refl _,by omega,rfl⟩,by simp⟩)
  rintro _ _ ⟨c2,rfl,q1,q2,q3,n2,hn3,hn4,rfl⟩ _
  obtain ⟨vs2,ar2,l2⟩:=c2
  have fin:=fin ⟨vs2,ar2,l2⟩
  simp only [cdC] at fin ⊢
  iterate 3 ((try (refine drvZ Tryd.func10 ?_;simp only [go_sem,renCs_rdr]));((with_reducible and_intros)<;>try exact sd))
  exact fin _ q1 q2 q3
 ·iterate 3 ((try (refine drvZ Tryd.func10 ?_;simp only [go_sem,renCs_rdr]));((with_reducible and_intros)<;>try exact sd))
  refine XK.callG [192] hmu ok27 (hhp_one (by simp [upd,renCs_rdr])) (hbT ()) (fun d h' ⟨_,_,_,_,_,_,_,_,e⟩=>by subst e;simp) ?_ (fun _=>⟨by kernel_rfl,_,_,⟨⟨[],[],[]⟩,rfl,by simp,by simp,by simp,n1+1,Nat.le_refl _,by omega,rfl⟩,by simp⟩)
  rintro _ _ ⟨c2,rfl,q1,q2,q3,n2,hn3,hn4,rfl⟩ _
  have hmu:=l6Mutate b2 n2 c2 hb' hl' (by omega) q1 q2 q3
  obtain ⟨vs2,ar2,l2⟩:=c2
  simp only [cdC] at hmu ⊢
  clear q1 q2 q3
  iterate 3 ((try (refine drvZ Tryd.func10 ?_;simp only [go_sem,renCs_rdr]));((with_reducible and_intros)<;>try exact sd))
  refine XK.callG [192] hmu ok27 (hhp_one (by simp [upd,renCs_rdr])) (hbT ()) (fun d h' ⟨_,_,_,_,_,_,_,_,e⟩=>by subst e;simp) ?_ (fun _=>⟨by kernel_rfl,_,_,⟨⟨[],[],[]⟩,rfl,by simp,by simp,by simp,n2,Nat.le_refl _,by omega,rfl⟩,by simp⟩)
  rintro _ _ ⟨c3,rfl,q1,q2,q3,n3,hn5,hn6,rfl⟩ _
  have hmu:=l6Mutate b2 n3 c3 hb' hl' (by omega) q1 q2 q3
  obtain ⟨vs3,ar3,l3⟩:=c3
  simp only [cdC] at hmu ⊢
  clear q1 q2 q3
  iterate 3 ((try (refine drvZ Tryd.func10 ?_;simp only [go_sem,renCs_rdr]));((with_reducible and_intros)<;>try exact sd))
  refine XK.callG [192] hmu ok27 (hhp_one (by simp [upd,renCs_rdr])) (hbT ()) (fun d h' ⟨_,_,_,_,_,_,_,_,e⟩=>by subst e;simp) ?_ (fun _=>⟨by kernel_rfl,_,_,⟨⟨[],[],[]⟩,rfl,by simp,by simp,by simp,n3,Nat.le_refl _,by omega,rfl⟩,by simp⟩)
  rintro _ _ ⟨c4,rfl,q1,q2,q3,n4,hn7,hn8,rfl⟩ _
  obtain ⟨vs4,ar4,l4⟩:=c4
  have fin:=fin ⟨vs4,ar4,l4⟩
  simp only [cdC] at fin ⊢
  iterate 3 ((try (refine drvZ Tryd.func10 ?_;simp only [go_sem,renCs_rdr]));((with_reducible and_intros)<;>try exact sd))
  exact fin _ q1 q2 q3
end Go.Proofs.YtoakidkcppinpaaDoor.CtD
namespace Go.Proofs.YtoakidkcppinpaaDoor.CtD
open Go Go.CT CtF CtR
variable [Yn]
open CtL (In Cd kindsOf topOf fOK inOK codeOK)
open CtG (labT ltrL)
def val (l:List UInt8):Nat:=l.foldl (fun a d=>a * 10+(d.toNat - 48)) 0
theorem val_snoc (l:List UInt8) (d:UInt8):val (l++[d])=val l * 10+(d.toNat - 48):=by simp [val,List.foldl_append]
theorem dig_toNat {k:Nat} (h:k<10):(48+UInt8.ofNat k).toNat=48+k:=by
 have:k=0∨k=1∨k=2∨k=3∨k=4∨k=5∨k=6∨k=7∨k=8∨k=9:=by omega
 rcases this with rfl | rfl | rfl | rfl | rfl | rfl | rfl | rfl | rfl | rfl<;>rfl
theorem dec_one {m:Nat} (h:m<10):Lib.decDigits m=[48+UInt8.ofNat m]:=by
 rw [Lib.decDigits_one h]
 have:m=0∨m=1∨m=2∨m=3∨m=4∨m=5∨m=6∨m=7∨m=8∨m=9:=by omega
 rcases this with rfl | rfl | rfl | rfl | rfl | rfl | rfl | rfl | rfl | rfl<;>rfl
theorem dec_val (m:Nat):val (Lib.decDigits m)=m:=by
 induction m using Nat.strongRecOn with
 | _ m ih =>
  rcases Nat.lt_or_ge m 10 with h | h
  ·rw [dec_one h]
   have:=dig_toNat h
   simp [val,this]
  ·rw [CtG.decStep h,val_snoc,ih (m / 10) (by omega),dig_toNat (by omega)]
   omega
theorem dec_dig (m:Nat):∀ d ∈ Lib.decDigits m,48≤d.toNat∧d.toNat≤57:=by
 induction m using Nat.strongRecOn with
 | _ m ih =>
  rcases Nat.lt_or_ge m 10 with h | h
  ·rw [dec_one h]
   have:=dig_toNat h
   intro d hd
   simp only [List.mem_singleton] at hd
   subst hd
   omega
  ·rw [CtG.decStep h]
   intro d hd
   rw [List.mem_append,List.mem_singleton] at hd
   rcases hd with hd | rfl
   ·exact ih (m / 10) (by omega) d hd
   ·rw [dig_toNat (by omega)];omega
theorem itoa_inj {a b:Int} (ha:0≤a) (hb:0≤b) (h:Lib.itoa a=Lib.itoa b):a=b:=by
 obtain ⟨m,rfl⟩:∃ m:Nat,a=m:=⟨a.toNat,by omega⟩
 obtain ⟨n,rfl⟩:∃ n:Nat,b=n:=⟨b.toNat,by omega⟩
 rw [Lib.itoa_nonneg,Lib.itoa_nonneg] at h
 have:=congrArg val h
 rw [dec_val,dec_val] at this
 omega
theorem itoa_dig {a:Int} (ha:0≤a):∀ d ∈ Lib.itoa a,48≤d.toNat∧d.toNat≤57:=by
 obtain ⟨m,rfl⟩:∃ m:Nat,a=m:=⟨a.toNat,by omega⟩
 rw [Lib.itoa_nonneg]
 exact dec_dig m
theorem part {s : UInt8} : ∀ {u v x y : List UInt8}, s ∉ u → s ∉ v → u ++ s :: x = v ++ s :: y → u = v ∧ x = y
 | [],[],x,y,_,_,h=>⟨rfl,by simpa using h⟩
 | [],b :: v,x,y,_,hv,h=>by
  simp only [List.nil_append,List.cons_append,List.cons.injEq] at h
  exact absurd (by rw [h.1];simp) hv
 | a :: u,[],x,y,hu,_,h=>by
  simp only [List.nil_append,List.cons_append,List.cons.injEq] at h
  exact absurd (by rw [← h.1];simp) hu
 | a :: u,b :: v,x,y,hu,hv,h=>by
  simp only [List.cons_append,List.cons.injEq] at h
  have:=part (fun q=>hu (List.mem_cons_of_mem _ q)) (fun q=>hv (List.mem_cons_of_mem _ q)) h.2
  exact ⟨by rw [h.1,this.1],this.2⟩
theorem wordsP {s : UInt8} : ∀ {L M : List (List UInt8)} {u v : List UInt8}, s ∉ u → s ∉ v → (∀ w ∈ L, s ∉ w) → (∀ w ∈ M, s ∉ w) → u ++ L.flatMap (s :: ·) = v ++ M.flatMap (s :: ·) → u = v ∧ L = M
 | [],[],u,v,_,_,_,_,h=>⟨by simpa using h,rfl⟩
 | [],b :: M,u,v,hu,_,_,_,h=>by
  simp only [List.flatMap_nil,List.append_nil,List.flatMap_cons] at h
  exact absurd (by rw [h];simp) hu
 | a :: L,[],u,v,_,hv,_,_,h=>by
  simp only [List.flatMap_nil,List.append_nil,List.flatMap_cons] at h
  exact absurd (by rw [← h];simp) hv
 | a :: L,b :: M,u,v,hu,hv,hL,hM,h=>by
  simp only [List.flatMap_cons,List.cons_append] at h
  obtain ⟨h1,h2⟩:=part hu hv h
  obtain ⟨h3,h4⟩:=wordsP (hL a (by simp)) (hM b (by simp)) (fun w hw=>hL w (by simp [hw])) (fun w hw=>hM w (by simp [hw])) h2
  exact ⟨h1,by rw [h3,h4]⟩
theorem prT_words (x:In) (k:Nat):prT x k=((List.range k).map fun i=>Lib.itoa ([x.a,x.b,x.c,x.d].getD i 0)).flatMap (32 :: ·):=by
 unfold prT
 rw [List.flatMap_map]
theorem nmT_low {op:Int} (h:1≤op∧op≤13):∀ d ∈ nmT op,97≤d.toNat:=by
 have key:op=1∨op=2∨op=3∨op=4∨op=5∨op=6∨op=7∨op=8∨op=9∨op=10∨op=11∨op=12∨op=13:=by omega
 rcases key with rfl | rfl | rfl | rfl | rfl | rfl | rfl | rfl | rfl | rfl | rfl | rfl | rfl<;>decide
theorem nmT_inj {a b:Int} (ha:1≤a∧a≤13) (hb:1≤b∧b≤13) (h:nmT a=nmT b):a=b:=by
 have k1:a=1∨a=2∨a=3∨a=4∨a=5∨a=6∨a=7∨a=8∨a=9∨a=10∨a=11∨a=12∨a=13:=by omega
 have k2:b=1∨b=2∨b=3∨b=4∨b=5∨b=6∨b=7∨b=8∨b=9∨b=10∨b=11∨b=12∨b=13:=by omega
 rcases k1 with rfl | rfl | rfl | rfl | rfl | rfl | rfl | rfl | rfl | rfl | rfl | rfl | rfl<;>rcases k2 with rfl | rfl | rfl | rfl | rfl | rfl | rfl | rfl | rfl | rfl | rfl | rfl | rfl<;>first | rfl | exact absurd h (by decide)
theorem line_inj {nv na nl nv' na' nl':Nat} {x y:In} (sx:InS x) (sy:InS y) (hx:inOK nv na nl x=true) (hy:inOK nv' na' nl' y=true) (h:lineT x=lineT y):x=y:=by
 have hno:∀ {z:In},InS z→∀ w ∈ (List.range (narg z.op)).map (fun i=>Lib.itoa ([z.a,z.b,z.c,z.d].getD i 0)),(32:UInt8) ∉ w:=fun {z} hz w hw hq=>by
  obtain ⟨i,_,rfl⟩:=List.mem_map.1 hw
  have:=itoa_dig (hz.at i).1 _ hq
  simp at this
 have hnn:∀ {z:In},InS z→(32:UInt8) ∉ nmT z.op:=fun {z} hz hq=>by
  have:=nmT_low hz.1 _ hq
  simp at this
 unfold lineT at h
 rw [prT_words,prT_words] at h
 obtain ⟨e1,e2⟩:=wordsP (hnn sx) (hnn sy) (hno sx) (hno sy) h
 have eo:=nmT_inj sx.1 sy.1 e1
 have hf:∀ i,i<4→[x.a,x.b,x.c,x.d].getD i 0=[y.a,y.b,y.c,y.d].getD i 0:=fun i hi=>by
  by_cases hin:i<narg x.op
  ·have:=congrArg (fun l=>l[i]?) e2
   simp only [List.getElem?_map,List.getElem?_range hin,List.getElem?_range (show i<narg y.op by rw [← eo];exact hin),Option.map_some,Option.some.injEq] at this
   exact itoa_inj (sx.at i).1 (sy.at i).1 this
  ·have hz:∀ {z:In} {nv na nl:Nat},z.op=x.op→inOK nv na nl z=true→[z.a,z.b,z.c,z.d].getD i 0=0:=fun {z nv na nl} ez hz=>by
    have hk:=mt (narg_lt z.op i hi).2 (by rw [ez];exact hin)
    have h6:=kinds_le z.op i
    have hk0:(kindsOf z.op).getD i 0=0:=by
     generalize (kindsOf z.op).getD i 0=k at *
     have:k=0∨k=1∨k=2∨k=3∨k=4∨k=5∨k=6:=by omega
     rcases this with rfl | rfl | rfl | rfl | rfl | rfl | rfl
     ·rfl
     all_goals exact absurd (by decide) hk
    simp only [inOK,Bool.and_eq_true,decide_eq_true_eq] at hz
    obtain ⟨⟨⟨⟨⟨o1,o2⟩,q0⟩,q1⟩,q2⟩,q3⟩:=hz
    have key:∀ n,fOK nv na nl 0 n=true→n=0:=fun n hn=>by
     simp only [fOK,topOf,Bool.and_eq_true,decide_eq_true_eq] at hn
     simp at hn
     omega
    have:i=0∨i=1∨i=2∨i=3:=by omega
    rcases this with rfl | rfl | rfl | rfl
    ·rw [hk0] at q0;exact key _ q0
    ·rw [hk0] at q1;exact key _ q1
    ·rw [hk0] at q2;exact key _ q2
    ·rw [hk0] at q3;exact key _ q3
   rw [hz rfl hx,hz eo.symm hy]
 obtain ⟨o,a,b,c,d⟩:=x
 obtain ⟨o',a',b',c',d'⟩:=y
 have f0:=hf 0 (by omega)
 have f1:=hf 1 (by omega)
 have f2:=hf 2 (by omega)
 have f3:=hf 3 (by omega)
 simp only [List.getD_cons_zero,List.getD_cons_succ] at f0 f1 f2 f3
 simp only at eo
 rw [eo,f0,f1,f2,f3]
theorem line_10 {x:In} (hx:InS x):(10:UInt8) ∉ lineT x:=fun h=>by
 unfold lineT at h
 rw [prT_words,List.mem_append] at h
 rcases h with h | h
 ·have:=nmT_low hx.1 _ h
  simp at this
 ·obtain ⟨w,hw,h⟩:=List.mem_flatMap.1 h
  obtain ⟨i,_,rfl⟩:=List.mem_map.1 hw
  rw [List.mem_cons] at h
  rcases h with h | h
  ·exact absurd h (by decide)
  ·have:=itoa_dig (hx.at i).1 _ h
   simp at this
theorem list_inj : ∀ {l m : List In}, (∀ x ∈ l, InS x) → (∀ x ∈ m, InS x) → (∀ x ∈ l, ∀ y ∈ m, lineT x = lineT y → x = y) → listT l = listT m → l = m
 | [],[],_,_,_,_=>rfl
 | [],b :: m,_,_,_,h=>by simp [listT] at h
 | a :: l,[],_,_,_,h=>by simp [listT] at h
 | a :: l,b :: m,hl,hm,hq,h=>by
  simp only [listT,List.flatMap_cons,List.append_assoc,List.cons_append,List.nil_append] at h
  obtain ⟨e1,e2⟩:=part (line_10 (hl a (by simp))) (line_10 (hm b (by simp))) h
  rw [hq a (by simp) b (by simp) e1,list_inj (fun x hx=>hl x (by simp [hx])) (fun x hx=>hm x (by simp [hx])) (fun x hx y hy=>hq x (by simp [hx]) y (by simp [hy])) e2]
theorem ltr_inj {a b:Int} (ha:0≤a∧a≤3) (hb:0≤b∧b≤3) (h:ltrL a=ltrL b):a=b:=by
 have k1:a=0∨a=1∨a=2∨a=3:=by omega
 have k2:b=0∨b=1∨b=2∨b=3:=by omega
 rcases k1 with rfl | rfl | rfl | rfl<;>rcases k2 with rfl | rfl | rfl | rfl<;>first | rfl | exact absurd h (by decide)
theorem lab_inj : ∀ {l m : List Int}, labs l = true → labs m = true → labT l = labT m → l = m
 | [],[],_,_,_=>rfl
 | [],b :: m,_,_,h=>by simp [labT] at h
 | a :: l,[],_,_,h=>by simp [labT] at h
 | a :: l,b :: m,hl,hm,h=>by
  simp only [labs,List.all_cons,Bool.and_eq_true,decide_eq_true_eq] at hl hm
  simp only [labT,List.map_cons,List.cons.injEq] at h
  rw [ltr_inj hl.1 hm.1 h.1,lab_inj hl.2 hm.2 h.2]
theorem lab_low {l:List Int} (h:labs l=true):∀ d ∈ labT l,72≤d.toNat:=fun d hd=>by
 obtain ⟨x,hx,rfl⟩:=List.mem_map.1 hd
 simp only [labs,List.all_eq_true,Bool.and_eq_true,decide_eq_true_eq] at h
 have:=h x hx
 have k1:x=0∨x=1∨x=2∨x=3:=by omega
 rcases k1 with rfl | rfl | rfl | rfl<;>decide
theorem fmt_inj {a b:Cd} (ha:codeOK a=true) (hb:codeOK b=true) (h:fmtT a=fmtT b):a=b:=by
 have sa:=cds_of ha
 have sb:=cds_of hb
 unfold fmtT at h
 simp only [List.append_assoc,List.cons_append,List.nil_append,List.cons.injEq,true_and] at h
 have n47:∀ {l:List Int},labs l=true→(47:UInt8) ∉ labT l:=fun hl hq=>by have:=lab_low hl _ hq;simp at this
 have n10:∀ {l:List Int},labs l=true→(10:UInt8) ∉ labT l:=fun hl hq=>by have:=lab_low hl _ hq;simp at this
 obtain ⟨e1,h⟩:=part (n47 sa.lv) (n47 sb.lv) h
 obtain ⟨e2,h⟩:=part (n10 sa.la) (n10 sb.la) h
 have v:=lab_inj sa.lv sb.lv e1
 have r:=lab_inj sa.la sb.la e2
 have hla:∀ x ∈ a.list,inOK a.vars.length a.arrays.length a.list.length x=true:=by
  simp only [codeOK,Bool.and_eq_true,List.all_eq_true] at ha
  exact ha.1.2
 have hlb:∀ x ∈ b.list,inOK b.vars.length b.arrays.length b.list.length x=true:=by
  simp only [codeOK,Bool.and_eq_true,List.all_eq_true] at hb
  exact hb.1.2
 have l:=list_inj sa.ins sb.ins (fun x hx y hy=>line_inj (sa.ins x hx) (sb.ins y hy) (hla x hx) (hlb y hy)) h
 obtain ⟨_,_,_⟩:=a
 obtain ⟨_,_,_⟩:=b
 simp only at v r l
 rw [v,r,l]
open CtL (In Cd)
theorem equalInG (xs ys:List In) (hl:xs.length≤mx) (b:Bool) (hb:b=true ↔ xs=ys):DC Tryd.prog 29 [.c (.isl 5 (xs.map inX)),.c (.isl 5 (ys.map inX))] [] (fun r h=>r=DB b∧h=[]):=by
 have hmx:=mx_eq
 by_cases hne:xs.length=ys.length
 ·have hq:((xs.length:Int) != (ys.length:Int))=false:=by simp [hne]
  have ret:∀ (v:Bool) (hp:Hp),v=b→RetOb 0 (fun r h=>r=DB b∧h=[]) (DB v) hp:=fun v hp e=>by subst e;exact RetOb.plain (d:=DB _) ⟨rfl,rfl⟩ rfl
  generalize hR:(fun (r:D) (h:List (Option (List C)))=>r=DB b∧h=[])=R at ret ⊢
  clear hR
  refine dcZ Tryd.func29 ?_
  simp only [go_sem,List.length_map,hq,hne,bne_self_eq_false]
  iterate 3 ((try (refine drvZ Tryd.func29 ?_;simp only [go_sem,List.length_map,hq,hne,bne_self_eq_false]));((with_reducible and_intros)<;>try exact sd))
  refine Go.loopQ (fun i:Nat=>[(0,.c (.isl 5 (xs.map inX))),(1,.c (.isl 5 (ys.map inX))),(12,DI .i64 ys.length),(13,DI .i64 i)]) (fun _=>[]) 1024 (fun i=>i≤xs.length∧xs.take i=ys.take i) (fun i=>xs.length - i) ?_ 0 some [] _ ⟨Nat.zero_le _,rfl⟩ ?_
  ·intro i ⟨hi,ht⟩ again
   rcases Nat.lt_or_ge i xs.length with hlt | hge
   ·obtain ⟨x,hx⟩:∃ x,xs[i]? = some x:=⟨xs[i],by simp [hlt]⟩
    obtain ⟨y,hy⟩:∃ y,ys[i]? = some y:=⟨ys[i]'(by omega),List.getElem?_eq_getElem (by omega)⟩
    have hlt2:i<ys.length:=by omega
    by_cases hxy:x=y
    ·subst hxy
     obtain ⟨op,xa,xb,xc,xd⟩:=x
     have ht2:xs.take (i+1)=ys.take (i+1):=by rw [List.take_add_one,List.take_add_one,ht,hx,hy]
     refine drvL Tryd.func29 ?_
     simp only [go_sem,hx,hy,hlt2,hlt,inX]
     iterate 4 ((try (refine drvZ Tryd.func29 ?_;simp only [go_sem,hx,hy,hlt2,hlt,inX,bne_self_eq_false,beq_self_eq_true]));((with_reducible and_intros)<;>try exact sd))
     refine again (i+1) some [] _ ⟨hlt,ht2⟩ (by omega) ?_
     simp only [go_sem,TmOK,DM,DMs,CM,CMs,forall_eq,exists_eq_left,Mq,HpOK,LowOK]
     try simp
    ·have hbf:b=false:=by
      cases hbb:b with
      | false=>rfl
      | true =>
       have:=hb.1 hbb
       subst this
       rw [hx] at hy
       simp only [Option.some.injEq] at hy
       exact absurd hy hxy
     obtain ⟨op,xa,xb,xc,xd⟩:=x
     obtain ⟨yo,ya,yb,yc,yd⟩:=y
     refine drvL Tryd.func29 ?_
     simp only [go_sem,hx,hy,hlt2,hlt,inX]
     iterate 3 ((try (refine drvZ Tryd.func29 ?_;simp only [go_sem,hx,hy,hlt2,hlt,inX]));((with_reducible and_intros)<;>try exact sd))
     ·intro _
      exact ret _ _ hbf.symm
     ·rintro ⟨rfl,rfl,rfl,rfl,rfl⟩
      exact absurd rfl hxy
   ·have hn:¬ i<ys.length:=by omega
    have hbt:b=true:=hb.2 (by
     rw [List.take_of_length_le (by omega),List.take_of_length_le (by omega)] at ht
     exact ht)
    refine drvL Tryd.func29 ?_
    simp only [go_sem,hn]
    iterate 3 ((try (refine drvZ Tryd.func29 ?_;simp only [go_sem,hn]));((with_reducible and_intros)<;>try exact sd))
    exact ret _ _ hbt.symm
  ·simp only [go_sem,TmOK,DM,DMs,CM,CMs,forall_eq,exists_eq_left,Mq,HpOK,LowOK]
   simp [hne]
 ·have hbf:b=false:=by
   cases hbb:b with
   | false=>rfl
   | true=>exact absurd (congrArg List.length (hb.1 hbb)) hne
  subst hbf
  have hq:((xs.length:Int) != (ys.length:Int))=true:=by simp;omega
  refine dcZ Tryd.func29 ?_
  simp only [go_sem,List.length_map,hq]
  iterate 2 ((try (refine drvZ Tryd.func29 ?_;simp only [go_sem,List.length_map,hq]));((with_reducible and_intros)<;>try exact sd))
  exact RetOb.plain (d:=DB false) ⟨rfl,rfl⟩ rfl
theorem codeSameV (vs ar:List Int) (l l2:List In) (h1:vs.length≤mx) (h2:ar.length≤mx) (h3:l.length≤mx) (b:Bool) (hb:b=true ↔ l=l2):DC Tryd.prog 11 [.agg (cdC ⟨vs,ar,l⟩),.agg (cdC ⟨vs,ar,l2⟩)] [] (fun r h=>r=DB b∧h=[]):=by
 have hmx:=mx_eq
 have e1:=equalI vs vs h1
 have e2:=equalI ar ar h2
 have e3:=equalInG l l2 h3 b hb
 rw [decide_eq_true rfl] at e1 e2
 unfold cdC
 refine dcZ Tryd.func11 ?_
 simp only [go_sem]
 iterate 6 ((try (refine drvZ Tryd.func11 ?_;simp only [go_sem]));((with_reducible and_intros)<;>try exact sd);(try first | refine XK.p e1 ok28 ?_ | refine XK.gp e1 ok28 ?_ | refine XK.p e2 ok28 ?_ | refine XK.gp e2 ok28 ?_ | refine XK.p e3 ok29 ?_ | refine XK.gp e3 ok29 ?_))
 exact RetOb.plain (d:=DB _) ⟨rfl,rfl⟩ rfl
open CtL (In Cd)
theorem codeSameS0 (vs ar:List Int) (xs ys:List In) (h1:vs.length≤mx) (h2:ar.length≤mx) (h3:xs.length≤mx) (b:Bool) (hb:b=true ↔ xs=ys):DC Tryd.prog 12 [.agg (cdC ⟨vs,ar,xs⟩),.agg (cdC ⟨vs,ar,ys⟩)] [] (fun r h=>r=DB b∧h=[]):=by
 have hmx:=mx_eq
 have e1:=l2Ints vs vs h1
 have e2:=l2Ints ar ar h2
 rw [decide_eq_true rfl] at e1 e2
 have ret:∀ (v:Bool) (hp:Hp),v=b→RetOb 0 (fun r h=>r=DB b∧h=[]) (DB v) hp:=fun v hp e=>by subst e;exact RetOb.plain (d:=DB _) ⟨rfl,rfl⟩ rfl
 generalize hR:(fun (r:D) (h:List (Option (List C)))=>r=DB b∧h=[])=R at ret ⊢
 clear hR
 simp only [cdC,ints] at e1 e2 ⊢
 by_cases hne:xs.length=ys.length
 ·have hq:((xs.length:Int) != (ys.length:Int))=false:=by simp [hne]
  refine dcZ Tryd.func12 ?_
  simp only [go_sem]
  iterate 8 ((try (refine drvZ Tryd.func12 ?_;simp only [go_sem,List.length_map,hq,hne,bne_self_eq_false]));((with_reducible and_intros)<;>try exact sd);(try first | refine XK.p e1 ok30 ?_ | refine XK.gp e1 ok30 ?_ | refine XK.p e2 ok30 ?_ | refine XK.gp e2 ok30 ?_))
  refine Go.loopQ (fun i:Nat=>[(2,.c (.ptr 0 0)),(3,.c (.ptr 64 0)),(5,DI .i64 i)]) (fun _=>[(0,some [isI vs,isI ar,.isl 5 (xs.map inX)]),(64,some [isI vs,isI ar,.isl 5 (ys.map inX)])]) 4096 (fun i=>i≤xs.length∧xs.take i=ys.take i) (fun i=>xs.length - i) ?_ 0 some [] _ ⟨Nat.zero_le _,rfl⟩ ?_
  ·intro i ⟨hi,ht⟩ again
   rcases Nat.lt_or_ge i xs.length with hlt | hge
   ·obtain ⟨x,hx⟩:∃ x,xs[i]? = some x:=⟨xs[i],by simp [hlt]⟩
    obtain ⟨y,hy⟩:∃ y,ys[i]? = some y:=⟨ys[i]'(by omega),List.getElem?_eq_getElem (by omega)⟩
    have hlt2:i<ys.length:=by omega
    by_cases hxy:x=y
    ·subst hxy
     obtain ⟨op,xa,xb,xc,xd⟩:=x
     have ht2:xs.take (i+1)=ys.take (i+1):=by rw [List.take_add_one,List.take_add_one,ht,hx,hy]
     refine drvL Tryd.func12 ?_
     simp only [go_sem,hx,hy,hlt2,hlt,inX]
     iterate 4 ((try (refine drvZ Tryd.func12 ?_;simp only [go_sem,hx,hy,hlt2,hlt,inX,bne_self_eq_false,beq_self_eq_true]));((with_reducible and_intros)<;>try exact sd))
     refine again (i+1) some [] _ ⟨hlt,ht2⟩ (by omega) ?_
     simp only [go_sem,TmOK,DM,DMs,CM,CMs,forall_eq,exists_eq_left,Mq,HpOK,LowOK]
     try simp [CMs,CM,isI,kf]
    ·have hbf:b=false:=by
      cases hbb:b with
      | false=>rfl
      | true =>
       have:=hb.1 hbb
       subst this
       rw [hx] at hy
       simp only [Option.some.injEq] at hy
       exact absurd hy hxy
     obtain ⟨op,xa,xb,xc,xd⟩:=x
     obtain ⟨yo,ya,yb,yc,yd⟩:=y
     refine drvL Tryd.func12 ?_
     simp only [go_sem,hx,hy,hlt2,hlt,inX]
     iterate 3 ((try (refine drvZ Tryd.func12 ?_;simp only [go_sem,hx,hy,hlt2,hlt,inX]));((with_reducible and_intros)<;>try exact sd))
     ·intro _
      exact ret _ _ hbf.symm
     ·rintro ⟨rfl,rfl,rfl,rfl,rfl⟩
      exact absurd rfl hxy
   ·have hn:¬ i<xs.length:=by omega
    have hbt:b=true:=hb.2 (by
     rw [List.take_of_length_le (by omega),List.take_of_length_le (by omega)] at ht
     exact ht)
    have hn2:¬ i<ys.length:=by omega
    refine drvL Tryd.func12 ?_
    simp only [go_sem,hn]
    iterate 3 ((try (refine drvZ Tryd.func12 ?_;simp only [go_sem,hn,hn2]));((with_reducible and_intros)<;>try exact sd))
    exact ret _ _ hbt.symm
  ·simp only [go_sem,TmOK,DM,DMs,CM,CMs,forall_eq,exists_eq_left,Mq,HpOK,LowOK]
   simp [hne,CMs,CM,isI,kf,upd]
 ·have hbf:b=false:=by
   cases hbb:b with
   | false=>rfl
   | true=>exact absurd (congrArg List.length (hb.1 hbb)) hne
  subst hbf
  have hq:((xs.length:Int) != (ys.length:Int))=true:=by simp;omega
  refine dcZ Tryd.func12 ?_
  simp only [go_sem]
  iterate 8 ((try (refine drvZ Tryd.func12 ?_;simp only [go_sem,List.length_map,hq]));((with_reducible and_intros)<;>try exact sd);(try first | refine XK.p e1 ok30 ?_ | refine XK.gp e1 ok30 ?_ | refine XK.p e2 ok30 ?_ | refine XK.gp e2 ok30 ?_))
  exact ret _ _ rfl
theorem cd_ne {vs ar vs' ar':List Int} {l l':List In} {b:Bool} (hb:b=true ↔ (⟨vs,ar,l⟩:Cd)=⟨vs',ar',l'⟩) (h:¬ (vs=vs'∧ar=ar')):b=false:=by
 cases hq:b with
 | false=>rfl
 | true =>
  have:=hb.1 hq
  simp only [Cd.mk.injEq] at this
  exact absurd ⟨this.1,this.2.1⟩ h
theorem codeSameSG (c1 c2:Cd) (h1:c1.vars.length≤mx) (h2:c1.arrays.length≤mx) (h3:c1.list.length≤mx) (b:Bool) (hb:b=true ↔ c1=c2):DC Tryd.prog 12 [.agg (cdC c1),.agg (cdC c2)] [] (fun r h=>r=DB b∧h=[]):=by
 have hmx:=mx_eq
 obtain ⟨vs,ar,l⟩:=c1
 obtain ⟨vs',ar',l'⟩:=c2
 simp only at h1 h2 h3
 by_cases hv:vs=vs'
 ·by_cases ha:ar=ar'
  ·subst hv ha
   exact codeSameS0 vs ar l l' h1 h2 h3 b (by rw [hb];simp)
  ·have hbf:=cd_ne hb (fun q=>ha q.2)
   subst hbf hv
   have e1:=l2Ints vs vs h1
   have e2:=l2Ints ar ar' h2
   rw [decide_eq_true rfl] at e1
   rw [decide_eq_false ha] at e2
   simp only [cdC,ints] at e1 e2 ⊢
   refine dcZ Tryd.func12 ?_
   simp only [go_sem]
   iterate 8 ((try (refine drvZ Tryd.func12 ?_;simp only [go_sem]));((with_reducible and_intros)<;>try exact sd);(try first | refine XK.p e1 ok30 ?_ | refine XK.gp e1 ok30 ?_ | refine XK.p e2 ok30 ?_ | refine XK.gp e2 ok30 ?_))
   exact RetOb.plain (d:=DB false) ⟨rfl,rfl⟩ rfl
 ·have hbf:=cd_ne hb (fun q=>hv q.1)
  subst hbf
  have e1:=l2Ints vs vs' h1
  rw [decide_eq_false hv] at e1
  simp only [cdC,ints] at e1 ⊢
  refine dcZ Tryd.func12 ?_
  simp only [go_sem]
  iterate 8 ((try (refine drvZ Tryd.func12 ?_;simp only [go_sem]));((with_reducible and_intros)<;>try exact sd);(try first | refine XK.p e1 ok30 ?_ | refine XK.gp e1 ok30 ?_ | refine XK.gs (DB false) ?_))
  exact RetOb.plain (d:=DB false) ⟨rfl,rfl⟩ rfl
theorem codeSameIG (c1 c2:Cd) (h1:c1.vars.length≤mx) (h2:c1.arrays.length≤mx) (h3:c1.list.length≤mx) (b:Bool) (hb:b=true ↔ c1=c2):DC Tryd.prog 11 [.agg (cdC c1),.agg (cdC c2)] [] (fun r h=>r=DB b∧h=[]):=by
 have hmx:=mx_eq
 obtain ⟨vs,ar,l⟩:=c1
 obtain ⟨vs',ar',l'⟩:=c2
 simp only at h1 h2 h3
 by_cases hv:vs=vs'
 ·by_cases ha:ar=ar'
  ·subst hv ha
   exact codeSameV vs ar l l' h1 h2 h3 b (by rw [hb];simp)
  ·have hbf:=cd_ne hb (fun q=>ha q.2)
   subst hbf hv
   have e1:=equalI vs vs h1
   have e2:=equalI ar ar' h2
   rw [decide_eq_true rfl] at e1
   rw [decide_eq_false ha] at e2
   unfold cdC
   refine dcZ Tryd.func11 ?_
   simp only [go_sem]
   iterate 6 ((try (refine drvZ Tryd.func11 ?_;simp only [go_sem]));((with_reducible and_intros)<;>try exact sd);(try first | refine XK.p e1 ok28 ?_ | refine XK.gp e1 ok28 ?_ | refine XK.p e2 ok28 ?_ | refine XK.gp e2 ok28 ?_ | refine XK.gs (DB false) ?_))
   exact RetOb.plain (d:=DB false) ⟨rfl,rfl⟩ rfl
 ·have hbf:=cd_ne hb (fun q=>hv q.1)
  subst hbf
  have e1:=equalI vs vs' h1
  rw [decide_eq_false hv] at e1
  unfold cdC
  refine dcZ Tryd.func11 ?_
  simp only [go_sem]
  iterate 6 ((try (refine drvZ Tryd.func11 ?_;simp only [go_sem]));((with_reducible and_intros)<;>try exact sd);(try first | refine XK.p e1 ok28 ?_ | refine XK.gp e1 ok28 ?_ | refine XK.gs (DB false) ?_))
  exact RetOb.plain (d:=DB false) ⟨rfl,rfl⟩ rfl
end Go.Proofs.YtoakidkcppinpaaDoor.CtD
