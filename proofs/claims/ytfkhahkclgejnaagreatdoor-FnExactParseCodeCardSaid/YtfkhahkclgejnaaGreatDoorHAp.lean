/- Contracts of functions of the program, one behind the other, as plain data: what each call returns and which blocks it leaves. -/
import Derived.Lib.SplitLaws
import Derived.Lib.AtoiAllCases
import Derived.Deep.Draws
import Derived.Lib.SlicesS
import Derived.Test.YtfkhahkclgejnaaGreatDoorHFacts
import Derived.Test.YtfkhahkclgejnaaGreatDoorHAj
import Derived.Test.YtfkhahkclgejnaaGreatDoorHAk
import Derived.Test.YtfkhahkclgejnaaGreatDoorHAl
import Derived.Test.YtfkhahkclgejnaaGreatDoorHAn
import Derived.Test.YtfkhahkclgejnaaGreatDoorHAm
import Derived.Test.YtfkhahkclgejnaaGreatDoorHAo
set_option linter.unusedVariables false
set_option linter.unusedSimpArgs false
set_option linter.unusedSectionVars false
set_option maxHeartbeats 16000000
set_option maxRecDepth 100000
namespace Go.Proofs.YtfkhahkclgejnaaGreatDoor.CtD
open Go Go.CT CtF CtR
variable [Yn]
open CtL (In Cd kindsOf topOf fOK inOK codeOK)
open CtG (labT ltrL)
def PR (t:List UInt8) (c:Cd) (b:Bool):Prop:=(b=true∧codeOK c=true∧fmtT c=t)∨(b=false∧c=⟨[],[],[]⟩∧∀ c',codeOK c'=true→fmtT c' ≠ t)
open Classical in
theorem PR.ex (t:List UInt8):∃ c b,PR t c b:=by
 by_cases h:∃ c,codeOK c=true∧fmtT c=t
 ·obtain ⟨c,h1,h2⟩:=h;exact ⟨c,true,.inl ⟨rfl,h1,h2⟩⟩
 ·exact ⟨⟨[],[],[]⟩,false,.inr ⟨rfl,rfl,fun c h1 h2=>h ⟨c,h1,h2⟩⟩⟩
theorem PR.no {t:List UInt8} {c:Cd} {b:Bool} (h:PR t c b) (hn:∀ c',codeOK c'=true→fmtT c'=t→False):(⟨[],[],[]⟩,false)=(c,b):=by
 rcases h with ⟨_,h1,h2⟩ | ⟨rfl,rfl,_⟩
 ·exact absurd h2 (fun e=>hn _ h1 e)
 ·rfl
theorem PR.yes {t:List UInt8} {c c':Cd} {b:Bool} (h:PR t c b) (h1:codeOK c'=true) (h2:fmtT c'=t):(c',true)=(c,b):=by
 rcases h with ⟨rfl,g1,g2⟩ | ⟨_,_,g⟩
 ·rw [fmt_inj h1 g1 (h2.trans g2.symm)]
 ·exact absurd h2 (g _ h1)
def rdI (line:List UInt8) (x:In):Prop:=∀ nv na nl y,InS y→inOK nv na nl y=true→lineT y=line→y=x
theorem rdI_plS (line:List UInt8):rdI line (plS line).1:=fun nv na nl y h1 h2 e=>by rw [← e,plS_line h1 h2]
theorem inS_of {c:Cd} (h:codeOK c=true) {x:In} (hx:x ∈ c.list):InS x∧∃ nv na nl,inOK nv na nl x=true:=by
 refine ⟨(cds_of h).ins x hx,?_⟩
 simp only [codeOK,headsOK,Bool.and_eq_true,decide_eq_true_eq,List.all_eq_true] at h
 exact ⟨_,_,_,h.1.2 x hx⟩
theorem linesL {c:Cd} (h:codeOK c=true) {L:List In} (hl:L.length=c.list.length) (hr:∀ (j:Nat) (x:In),L[j]? = some x→∃ w,(c.list.map lineT)[j]? = some w∧rdI w x):c.list=L:=by
 refine List.ext_getElem hl.symm fun j h1 h2=>?_
 obtain ⟨w,hw,hrd⟩:=hr j L[j] (by simp [h2])
 obtain ⟨hS,nv,na,nl,hin⟩:=inS_of h (List.getElem_mem h1)
 refine hrd nv na nl _ hS hin ?_
 simpa [h1] using hw
theorem head_take (c:Cd):(headT c).take 5=[99,111,100,101,32]:=by simp [headT]
theorem head_len (c:Cd):5≤(headT c).length:=by simp [headT]
structure Parts (W : List (List UInt8)) (c : Cd) : Prop where
 n1:3≤W.length
 n2:W.length≤402
 n3:W.length=c.list.length+2
 h0:W.getD 0 []=headT c
 hl:∀ j,j<c.list.length→W[j+1]? = (c.list.map lineT)[j]?
 hd:splC 47 ((headT c).drop 5)=[labT c.vars,labT c.arrays]
 lv:labP (labT c.vars)=some c.vars
 la:labP (labT c.arrays)=some c.arrays
theorem parts_of {t:List UInt8} {c:Cd} (h:codeOK c=true) (e:fmtT c=t):Parts (splC 10 t) c:=by
 have hs:=cds_of h
 have hf:=fmt_lines h
 rw [e] at hf
 have n3:(splC 10 t).length=c.list.length+2:=by rw [hf];simp
 have h1:=hs.l1
 have h2:=hs.nl
 have h0:(splC 10 t).getD 0 []=headT c:=by rw [hf];rfl
 refine ⟨by omega,by omega,n3,h0,fun j hj=>?_,head_parts h,labP_lab hs.lv,labP_lab hs.la⟩
 rw [hf,List.getElem?_cons_succ,List.getElem?_append_left (by simpa using hj)]
def LsI (W:List (List UInt8)) (k:Nat) (L:List In):Prop:=L.length=k∧∀ (j:Nat) (x:In),L[j]? = some x→∃ w,W[j+1]? = some w∧rdI w x
theorem lsI0 (W:List (List UInt8)):LsI W 0 []:=⟨rfl,fun j x h=>by simp at h⟩
theorem LsI.snoc {W:List (List UInt8)} {k:Nat} {L:List In} (h:LsI W k L) {w:List UInt8} (hw:W[k+1]? = some w) {x:In} (hx:rdI w x):LsI W (k+1) (L++[x]):=by
 refine ⟨by simp [h.1],fun j y hy=>?_⟩
 rcases Nat.lt_or_ge j L.length with hj | hj
 ·rw [List.getElem?_append_left hj] at hy;exact h.2 j y hy
 ·rw [List.getElem?_append_right hj] at hy
  have:j - L.length=0:=by
   rcases Nat.eq_zero_or_pos (j - L.length) with q | q
   ·exact q
   ·rw [List.getElem?_eq_none (by simp;omega)] at hy;cases hy
  rw [this] at hy
  simp only [List.getElem?_cons_zero,Option.some.injEq] at hy
  subst hy
  have hk:j=k:=by have:=h.1;omega
  subst hk
  exact ⟨w,hw,hx⟩
theorem LsI.list {W:List (List UInt8)} {k:Nat} {L:List In} (h:LsI W k L) (hk:k+2=W.length) {c:Cd} (hc:codeOK c=true) (hp:Parts W c):c.list=L:=by
 have hn:=hp.n3
 refine linesL hc (by have:=h.1;omega) fun j x hx=>?_
 obtain ⟨w,hw,hr⟩:=h.2 j x hx
 have hj:j<c.list.length:=by
  have:j<L.length:=by
   rcases Nat.lt_or_ge j L.length with q | q
   ·exact q
   ·rw [List.getElem?_eq_none q] at hx;cases hx
  have:=h.1;omega
 exact ⟨w,(hp.hl j hj).symm.trans hw,hr⟩
theorem plS_ok {W:List (List UInt8)} {c:Cd} (hc:codeOK c=true) (hp:Parts W c) {k:Nat} (hk:k+2<W.length) {w:List UInt8} (hw:W[k+1]? = some w):∃ x,lineT x=w∧InS x∧∃ nv na nl,inOK nv na nl x=true:=by
 have hn:=hp.n3
 have hj:k<c.list.length:=by omega
 have h2:=hp.hl k hj
 rw [hw] at h2
 obtain ⟨x,hx⟩:∃ x,c.list[k]? = some x:=⟨c.list[k],by simp [hj]⟩
 rw [List.getElem?_map,hx] at h2
 simp only [Option.map_some,Option.some.injEq] at h2
 obtain ⟨h3,h4⟩:=inS_of hc (List.mem_of_getElem? hx)
 exact ⟨x,h2.symm,h3,h4⟩
open CtL (In Cd codeOK)
open CtG (labT ltrL)
theorem RetOb.noCd {R:D→List (Option (List C))→Prop} {hp:Hp} (hR:R (.tup [.agg (cdC ⟨[],[],[]⟩),DB false]) []):RetOb 0 R (.tup [.agg [.v (.slice none 0 0),.v (.slice none 0 0),.v (.slice none 0 0)],DB false]) hp:=by
 refine RetOb.ofQ (fun _=>none) [] _ [] ⟨?_,trivial,trivial,by simp [enumL]⟩ hR (Nat.zero_le _)
 simp [DM,DMs,CM,CMs,cdC,ints,isI]
theorem RetOb.cdB {R:D→List (Option (List C))→Prop} {hp:Hp} {vs ar:List Int} {L:List In} {b:Bool} (hR:R (.tup [.agg [isI vs,isI ar,.isl 5 (L.map inX)],DB b]) []):RetOb 0 R (.tup [.agg [isI vs,isI ar,.isl 5 (L.map inX)],DB b]) hp:=by
 refine RetOb.ofQ (fun _=>none) [] _ [] ⟨?_,trivial,trivial,by simp [enumL]⟩ hR (Nat.zero_le _)
 simp [DM,DMs,CM,CMs,isI]
theorem neqS (a b:List UInt8):((bstr a).toList == (bstr b).toList)=(a == b):=by
 have htl:∀ l:List UInt8,(bstr l).toList=l:=fun l=>by rw [ByteArray.toList_eq];simp [bstr]
 rw [htl,htl]
theorem labP_getD_len (s:List UInt8):((labP s).getD []).length≤s.length:=by
 cases h:labP s with
 | none=>simp
 | some L=>simp [labP_len h]
theorem parseCodeS (t:List UInt8) (hl:t.length≤2000000) (c:Cd) (b:Bool) (hP:PR t c b):DC Tryz.prog 5 [DS (bstr t)] [] (fun r h=>r = .tup [.agg (cdC c),DB b]∧h=[]):=by
 have hmx:=mx_eq
 have fail:∀ hp:Hp,(∀ c',codeOK c'=true→fmtT c'=t→False)→RetOb 0 (fun r h=>r = .tup [.agg (cdC c),DB b]∧h=[]) (.tup [.agg [.v (.slice none 0 0),.v (.slice none 0 0),.v (.slice none 0 0)],DB false]) hp:=fun hp h=>by
  obtain ⟨rfl,rfl⟩:=Prod.mk.inj (hP.no h)
  exact RetOb.noCd ⟨rfl,rfl⟩
 have done:∀ (hp:Hp) (c':Cd),codeOK c'=true→fmtT c'=t→RetOb 0 (fun r h=>r = .tup [.agg (cdC c),DB b]∧h=[]) (.tup [.agg [isI c'.vars,isI c'.arrays,.isl 5 (c'.list.map inX)],DB true]) hp:=fun hp c' h1 h2=>by
  obtain ⟨rfl,rfl⟩:=Prod.mk.inj (hP.yes h1 h2)
  exact RetOb.cdB ⟨rfl,rfl⟩
 generalize hR:(fun (r:D) (h:List (Option (List C)))=>r = .tup [.agg (cdC c),DB b]∧h=[])=R at fail done ⊢
 clear hP hR
 have hcu:DC Tryz.prog 17 [DS (bstr t),DI .u8 10] [] (fun r h=>r = .c (strD (splC 10 t))∧h=[]):=l17CutS t 10 (by omega)
 have hne:=splC_ne 10 t
 have hwl:∀ p ∈ splC 10 t,p.length≤t.length:=splC_le 10 t
 have hpa:∀ c',codeOK c'=true→fmtT c'=t→Parts (splC 10 t) c':=fun c' h1 h2=>parts_of h1 h2
 have hwn:t=[]→(splC 10 t).length=1:=fun h=>by subst h;rfl
 generalize splC 10 t=w at *
 simp only [strD] at hcu
 have hn1:1≤w.length:=by cases w with | nil=>exact absurd rfl hne | cons a r=>simp
 obtain ⟨w0,hw0⟩:∃ a,w[0]? = some a:=⟨w[0],by simp [show 0<w.length by omega]⟩
 have hg0:w.getD 0 []=w0:=by rw [List.getD_eq_getElem?_getD,hw0];rfl
 have hw0l:=hwl w0 (List.mem_of_getElem? hw0)
 have hwm:∀ i,(w.map fun s=>[C.v (.string (bstr s))])[i]? = (w[i]?).map fun s=>[C.v (.string (bstr s))]:=fun i=>by rw [List.getElem?_map]
 have hw0m:(w.map fun s=>[C.v (.string (bstr s))])[0]? = some [C.v (.string (bstr w0))]:=by rw [hwm,hw0];rfl
 have hwlen:(w.map fun s=>[C.v (.string (bstr s))]).length=w.length:=by simp
 generalize hWW:(w.map fun s=>[C.v (.string (bstr s))])=WW at *
 have hsz0:=bstr_size w0
 have b5':(⟨#[99,111,100,101,32]⟩:ByteArray)=bstr [99,111,100,101,32]:=rfl
 have hx5:=bstr_sub w0 0 5
 rw [List.drop_zero] at hx5
 have hx6:=bstr_sub w0 5 w0.length
 rw [List.take_length] at hx6
 by_cases q1:w.length<3
 ·have i1:((w.length:Int)<3)=True:=eq_true (by omega)
  refine dcZ Tryz.func5 ?_
  simp only [go_sem,hwlen,hw0m]
  iterate 6 ((try (refine drvZ Tryz.func5 ?_;simp only [go_sem,hwlen,hw0m,hsz0,i1]));((with_reducible and_intros)<;>try exact sd);(try first | refine XK.p hcu ok17 ?_ | refine XK.gp hcu ok17 ?_))
  exact fail _ fun c' h1 h2=>by have:=(hpa c' h1 h2).n1;omega
 have i1:((w.length:Int)<3)=False:=eq_false (by omega)
 by_cases q2:402<w.length
 ·have i2:((402:Int)<(w.length:Int))=True:=eq_true (by omega)
  refine dcZ Tryz.func5 ?_
  simp only [go_sem,hwlen,hw0m]
  iterate 6 ((try (refine drvZ Tryz.func5 ?_;simp only [go_sem,hwlen,hw0m,hsz0,i1,i2]));((with_reducible and_intros)<;>try exact sd);(try first | refine XK.p hcu ok17 ?_ | refine XK.gp hcu ok17 ?_))
  exact fail _ fun c' h1 h2=>by have:=(hpa c' h1 h2).n2;omega
 have i2:((402:Int)<(w.length:Int))=False:=eq_false (by omega)
 have p1:0<w.length:=by omega
 by_cases q3:w0.length<5
 ·have i3:((w0.length:Int)<5)=True:=eq_true (by omega)
  refine dcZ Tryz.func5 ?_
  simp only [go_sem,hwlen,hw0m]
  iterate 6 ((try (refine drvZ Tryz.func5 ?_;simp only [go_sem,hwlen,i1,i2,hw0m,hsz0,i3,p1]));((with_reducible and_intros)<;>try exact sd);(try first | refine XK.p hcu ok17 ?_ | refine XK.gp hcu ok17 ?_))
  exact fail _ fun c' h1 h2=>by
   have:=(hpa c' h1 h2).h0
   rw [hg0] at this
   have:=head_len c'
   rw [‹w0=headT c'›] at q3
   omega
 have i3:((w0.length:Int)<5)=False:=eq_false (by omega)
 have p2:5≤w0.length:=by omega
 by_cases q4:w0.take 5=[99,111,100,101,32]
 rotate_left
 ·have i4:(w0.take 5 == [99,111,100,101,32])=false:=by rw [beq_eq_false_iff_ne];exact q4
  refine dcZ Tryz.func5 ?_
  simp only [go_sem,hwlen,hw0m]
  iterate 6 ((try (refine drvZ Tryz.func5 ?_;simp only [go_sem,hwlen,i1,i2,hw0m,hsz0,i3,p1,p2,hx5,b5',neqS,bne,i4]));((with_reducible and_intros)<;>try exact sd);(try first | refine XK.p hcu ok17 ?_ | refine XK.gp hcu ok17 ?_))
  exact fail _ fun c' h1 h2=>by
   have:=(hpa c' h1 h2).h0
   rw [hg0] at this
   exact q4 (by rw [this];exact head_take c')
 have i4:(w0.take 5 == [99,111,100,101,32])=true:=by rw [beq_iff_eq];exact q4
 have hrl:(w0.drop 5).length≤t.length:=by simp;omega
 have hcu2:DC Tryz.prog 17 [DS (bstr (w0.drop 5)),DI .u8 47] [] (fun r h=>r = .c (strD (splC 47 (w0.drop 5)))∧h=[]):=l17CutS _ 47 (by omega)
 have hpd:∀ c',codeOK c'=true→fmtT c'=t→splC 47 (w0.drop 5)=[labT c'.vars,labT c'.arrays]:=fun c' h1 h2=>by
  have h:=(hpa c' h1 h2)
  rw [← hg0,h.h0];exact h.hd
 have hvl:∀ p ∈ splC 47 (w0.drop 5),p.length≤t.length:=fun p hp=>by have:=splC_le 47 (w0.drop 5) p hp;omega
 generalize splC 47 (w0.drop 5)=v at *
 simp only [strD] at hcu2
 have hvm:∀ i,(v.map fun s=>[C.v (.string (bstr s))])[i]? = (v[i]?).map fun s=>[C.v (.string (bstr s))]:=fun i=>by rw [List.getElem?_map]
 have hvlen:(v.map fun s=>[C.v (.string (bstr s))]).length=v.length:=by simp
 by_cases q5:v.length=2
 rotate_left
 ·have i5:((v.length:Int) == 2)=false:=by rw [beq_eq_false_iff_ne];omega
  generalize hVV:(v.map fun s=>[C.v (.string (bstr s))])=VV at *
  refine dcZ Tryz.func5 ?_
  simp only [go_sem,hwlen,hw0m]
  iterate 10 ((try (refine drvZ Tryz.func5 ?_;simp only [go_sem,hwlen,i1,i2,hw0m,hsz0,i3,p1,p2,hx5,hx6,b5',neqS,bne,i4,hvlen,i5]));((with_reducible and_intros)<;>try exact sd);(try first | refine XK.p hcu ok17 ?_ | refine XK.gp hcu ok17 ?_ | refine XK.p hcu2 ok17 ?_ | refine XK.gp hcu2 ok17 ?_))
  exact fail _ fun c' h1 h2=>q5 (by rw [hpd c' h1 h2];rfl)
 have i5:((v.length:Int) == 2)=true:=by rw [beq_iff_eq];omega
 obtain ⟨v0,v1,rfl⟩:∃ a b,v=[a,b]:=by
  match v,q5 with
  | [a,b],_=>exact ⟨a,b,rfl⟩
 have hv0:([v0,v1].map fun s=>[C.v (.string (bstr s))])[0]? = some [.v (.string (bstr v0))]:=rfl
 have hv1:([v0,v1].map fun s=>[C.v (.string (bstr s))])[1]? = some [.v (.string (bstr v1))]:=rfl
 have hl0:=hvl v0 (by simp)
 have hl1:=hvl v1 (by simp)
 have hr0:=parseLabelsS v0 (by omega)
 have hr1:=parseLabelsS v1 (by omega)
 have hpe:∀ c',codeOK c'=true→fmtT c'=t→c'.vars=(labP v0).getD []∧c'.arrays=(labP v1).getD []:=fun c' h1 h2=>by
  have h:=hpd c' h1 h2
  simp only [List.cons.injEq,and_true] at h
  rw [h.1,h.2,(hpa c' h1 h2).lv,(hpa c' h1 h2).la]
  exact ⟨rfl,rfl⟩
 have hV:=labP_getD_len v0
 have hA:=labP_getD_len v1
 generalize (labP v0).getD []=V at *
 generalize (labP v1).getD []=A at *
 generalize (labP v0).isSome=B0 at *
 generalize (labP v1).isSome=B1 at *
 generalize ([v0,v1].map fun s=>[C.v (.string (bstr s))])=VV at *
 simp only [ints] at hr0 hr1
 clear hpd hvl hvm q5
 refine dcZ Tryz.func5 ?_
 simp only [go_sem,hwlen,hw0m]
 iterate 12 ((try (refine drvZ Tryz.func5 ?_;simp only [go_sem,hwlen,i1,i2,hw0m,hsz0,i3,p1,p2,hx5,hx6,b5',neqS,bne,i4,hvlen,i5,hv0,hv1]));((with_reducible and_intros)<;>try exact sd);(try first | refine XK.p hcu ok17 ?_ | refine XK.gp hcu ok17 ?_ | refine XK.p hcu2 ok17 ?_ | refine XK.gp hcu2 ok17 ?_ | refine XK.p hr0 ok18 ?_ | refine XK.gp hr0 ok18 ?_ | refine XK.p hr1 ok18 ?_ | refine XK.gp hr1 ok18 ?_))
 have hwf:∀ L:List In,∀ c',codeOK c'=true→fmtT c'=t→LsI w L.length L→L.length+2=w.length→c'=⟨V,A,L⟩:=fun L c' h1 h2 h3 h4=>by
  have e1:=hpe c' h1 h2
  have e2:=h3.list h4 h1 (hpa c' h1 h2)
  obtain ⟨a1,a2,a3⟩:=c'
  simp only at e1 e2
  rw [e1.1,e1.2,e2]
 have hpl:∀ c',codeOK c'=true→fmtT c'=t→∀ k p,k+2<w.length→w[k+1]? = some p→(plS p).2=true:=fun c' h1 h2 k p h3 h4=>by
  obtain ⟨x,rfl,hx1,nv,na,nl,hx2⟩:=plS_ok h1 (hpa c' h1 h2) h3 h4
  rw [plS_line hx1 hx2]
 refine Go.loopQ (fun x : Nat × List In => [(0, DS (bstr t)), (2, .c (.ptr 0 0)), (3, DB false), (4, .c (.isl 1 WW)), (6, .c (.ptr 2368 0)), (7, DI .i64 x.1)]) (fun x => [(0, some [.v (.slice none 0 0), .v (.slice none 0 0), .v (.slice none 0 0)]), (2368, some [isI V, isI A, .msl 3000 5 0 x.2.length]), (3000, some (inC x.2))])
  4096 (fun x=>x.1=x.2.length+1∧x.1+1≤w.length∧LsI w x.2.length x.2) (fun x=>w.length - x.1) ?_ (1,[]) (fun j=>if j=3000 then none else some j) [] _ ⟨rfl,by omega,lsI0 w⟩ ?_
 ·rintro ⟨i,L⟩ ⟨hi,hi2,hL⟩ again
  simp only at hi hi2 hL again ⊢
  rcases Nat.lt_or_ge (i+1) w.length with hlt | hge
  ·obtain ⟨p,hp⟩:∃ p,w[i]? = some p:=⟨w[i],by simp [show i<w.length by omega]⟩
   have hpm:WW[i]? = some [.v (.string (bstr p))]:=by rw [hwm,hp];rfl
   have hln:=l6ParseLineS p (by have:=hwl p (List.mem_of_getElem? hp);omega)
   have g1:((i:Int)+1<(w.length:Int))=True:=eq_true (by omega)
   have hiw:i<w.length:=by omega
   have hp':w[L.length+1]? = some p:=by rw [← hi];exact hp
   cases hb:(plS p).2 with
   | false =>
    rw [hb] at hln
    generalize (plS p).1=y at *
    simp only [inX] at hln
    clear again
    refine drvL Tryz.func5 ?_
    simp only [go_sem,hwlen,g1]
    iterate 8 ((try (refine drvZ Tryz.func5 ?_;simp only [go_sem,hwlen,g1,hiw,hpm]));((with_reducible and_intros)<;>try exact sd);(try first | refine XK.p hln ok19 ?_ | refine XK.gp hln ok19 ?_))
    exact fail _ fun c' h1 h2=>by
     have:=hpl c' h1 h2 L.length p (by omega) hp'
     rw [hb] at this;cases this
   | true =>
    rw [hb] at hln
    have hsn:=hL.snoc hp' (rdI_plS p)
    generalize (plS p).1=y at *
    simp only [inX] at hln
    have hln1:(L++[y]).length=L.length+1:=by simp
    have hic:=inC_len L
    refine drvL Tryz.func5 ?_
    simp only [go_sem,hwlen,g1]
    iterate 8 ((try (refine drvZ Tryz.func5 ?_;simp only [go_sem,hwlen,g1,hiw,hpm,hic]));((with_reducible and_intros)<;>try exact sd);(try first | refine XK.p hln ok19 ?_ | refine XK.gp hln ok19 ?_))
    have hia:inC (L++[y])=inC L++[I64 y.op,I64 y.a,I64 y.b,I64 y.c,I64 y.d]:=by rw [inC_app,inC_one];rfl
    have hic2:=inC_len L
    refine again (i+1,L++[y]) (fun j=>if j=3000 then some 5504 else some j) [] _ ⟨by simp;omega,by omega,by rw [hln1];exact hsn⟩ (by omega) ?_
    simp only [go_sem,TmOK,DM,DMs,CM,CMs,forall_eq,exists_eq_left,Mq,HpOK,LowOK,hia,hln1]
    simp
    exact CMs.app (CMs.kf (inC_kf L)) (by simp [CMs,CM])
  ·have hie:i+1=w.length:=by omega
   have g1:((i:Int)+1<(w.length:Int))=False:=eq_false (by omega)
   clear again
   refine drvL Tryz.func5 ?_
   simp only [go_sem,hwlen,g1]
   iterate 2 ((try (refine drvZ Tryz.func5 ?_;simp only [go_sem,hwlen,g1]));((with_reducible and_intros)<;>try exact sd))
   have g2:=in_len5 L
   have g3:=in_kf5 L
   have hfc:=formatCodeS ⟨V,A,L⟩ (by simp only;omega) (by simp only;omega) (by simp only;omega)
   simp only [cdC,ints] at hfc
   have hfm:fmtC ⟨V,A,L⟩=t→codeOK ⟨V,A,L⟩=true∧fmtT ⟨V,A,L⟩=t:=fun h=>by
    unfold fmtC at h
    split at h
    ·rename_i h1;exact ⟨h1,h⟩
    ·exact absurd (hwn h.symm) (by omega)
   have hfn:∀ c',codeOK c'=true→fmtT c'=t→fmtC ⟨V,A,L⟩=t:=fun c' h1 h2=>by
    have e:=hwf L c' h1 h2 hL (by omega)
    subst e
    unfold fmtC
    rw [if_pos h1];exact h2
   generalize fmtC ⟨V,A,L⟩=T at *
   refine XK.subQ (r:=some) (fz:=[3000]) (tl:=[(0,DS (bstr t)),(2,.c (.ptr 0 0)),(3,DB false),(6,.c (.ptr 2368 0)),(85,.agg [isI V,isI A,.isl 5 (L.map inX)])]) (hl:=[(0,some [.v (.slice none 0 0),.v (.slice none 0 0),.v (.slice none 0 0)]),(2368,some [isI V,isI A,.isl 5 (L.map inX)])]) ?_ ?_
   ·simp [-List.mem_map,Mq,HpOK,LowOK,TmOK,hOf,upd,DM,DMs,CM,CMs,isI,kf,in_flat]
    exact ⟨g2,g3⟩
   by_cases q6:T=t
   ·have i6:(T == t)=true:=by rw [beq_iff_eq];exact q6
    iterate 8 ((try (refine drvZ Tryz.func5 ?_;simp only [go_sem,neqS,bne,i6]));((with_reducible and_intros)<;>try exact sd);(try first | refine XK.p hfc ok12 ?_ | refine XK.gp hfc ok12 ?_))
    obtain ⟨a1,a2⟩:=hfm q6
    exact done _ ⟨V,A,L⟩ a1 a2
   ·have i6:(T == t)=false:=by rw [beq_eq_false_iff_ne];exact q6
    iterate 8 ((try (refine drvZ Tryz.func5 ?_;simp only [go_sem,neqS,bne,i6]));((with_reducible and_intros)<;>try exact sd);(try first | refine XK.p hfc ok12 ?_ | refine XK.gp hfc ok12 ?_))
    exact fail _ fun c' h1 h2=>q6 (hfn c' h1 h2)
 ·simp only [go_sem,TmOK,DM,DMs,CM,CMs,forall_eq,exists_eq_left,Mq,HpOK,LowOK]
  try simp
  try rfl
open CtL (In Cd codeOK)
theorem bstr_data (s:ByteArray):bstr s.data.toList=s:=by simp [bstr]
theorem idx1_cons (a c:UInt8) (r:List UInt8):Lib.index (a :: r) [c]=if a=c then 0 else if Lib.index r [c] == -1 then -1 else Lib.index r [c]+1:=by
 rw [Lib.index]
 by_cases h:a=c
 ·subst h;simp [List.isPrefixOf]
 ·have:(([c]:List UInt8).isPrefixOf (a :: r))=false:=by simp [List.isPrefixOf,Ne.symm h]
  rw [this,if_neg h];simp
theorem splitK_splC (c : UInt8) : ∀ l : List UInt8, Lib.splitK [c] 0 (Lib.count l [c]) l = splC c l
 | []=>by rw [Lib.count_one];rfl
 | a :: r=>by
  have ih:=splitK_splC c r
  unfold splC
  by_cases h:a=c
  ·subst h
   rw [if_pos rfl,Lib.count_cons_eq,Nat.add_comm,Lib.splitK,idx1_cons,if_pos rfl]
   simp [ih]
  ·rw [if_neg h,Lib.count_cons_ne a c r h,← ih]
   generalize hk:Lib.count r [c]=k
   cases k with
   | zero=>rfl
   | succ k =>
    have hm:Lib.index r [c] ≠ -1:=fun e=>by rw [Lib.count_miss e] at hk;omega
    have hge:=Lib.index_ge r [c]
    obtain ⟨j,hj⟩:∃ j:Nat,Lib.index r [c]=j:=⟨(Lib.index r [c]).toNat,by omega⟩
    rw [Lib.splitK,Lib.splitK,idx1_cons,if_neg h,hj]
    have e1:((j:Int) == -1)=false:=by rw [beq_eq_false_iff_ne];omega
    have e2:((j:Int)+1 == -1)=false:=by rw [beq_eq_false_iff_ne];omega
    simp only [e1,e2,Bool.false_eq_true,if_false]
    have e3:((j:Int)+1).toNat=j+1:=by omega
    rw [e3,Int.toNat_natCast]
    simp [preC]
theorem splitB_splC (c:UInt8) (s:List UInt8):Lib.splitB ⟨#[c]⟩ 0 (Lib.countB (bstr s) ⟨#[c]⟩) (bstr s)=(splC c s).map bstr:=by
 have h:=Lib.splitB_data ⟨#[c]⟩ 0 (Lib.countB (bstr s) ⟨#[c]⟩) (bstr s)
 rw [show Lib.countB (bstr s) ⟨#[c]⟩=Lib.count (bstr s).data.toList [c] from rfl] at h ⊢
 rw [bstr_list] at h ⊢
 rw [show (⟨#[c]⟩:ByteArray).data.toList=[c] from rfl,splitK_splC] at h
 rw [← h,List.map_map]
 conv=>lhs;rw [← List.map_id (Lib.splitB _ _ _ _)]
 exact List.map_congr_left fun x _=>(bstr_data x).symm
def MaxY (y:Yn):Prop:=∀ w:World,(∀ b,b<y.n→w.heap[b]? = y.o b)→∃ m,w.cell? ⟨0,0,none⟩=some (.int .i64 m)
def ErrY (y : Yn) : Prop := ∀ w : World, (∀ b, b < y.n → w.heap[b]? = y.o b) → (∃ tp p, w.var? Tryz.prog "strconv.ErrSyntax" = some #[.iface tp p]) ∧ ∃ tp p, w.var? Tryz.prog "strconv.ErrRange" = some #[.iface tp p]
theorem SimH.at_y {I:Nat→Prop} {w:World} {s:Sg} {hp:Hp} (H:SimH I w s hp):∀ b,b<Yn.n→w.heap[b]? = Yn.o b:=H.yng.2.2
theorem vs_two {I:Nat→Prop} {w:World} {s:Sg} {vs:Array Value} {d e:D} (h:RDs I w s vs [d,e]):∃ v u,vs=#[v,u]∧RD I w s v d∧RD I w s u e:=by
 obtain ⟨hsz,hrd⟩:=h
 rcases vs with ⟨l⟩
 match l,hsz with
 | [v,u],_=>exact ⟨v,u,rfl,hrd 0 (by simp) (by simp),hrd 1 (by simp) (by simp)⟩
theorem below_drewN {B:Nat} (w:World) (n:Nat):RowKit.Below B w (w.drewN n):=⟨rfl,rfl,rfl,Nat.le_refl _,fun _ _=>rfl⟩
theorem al (w:World) (o:Obj):(w.alloc o).heap[w.heap.size]? = some o:=by show (w.heap.push o)[w.heap.size]? = some o;simp
theorem splitI (hM:MaxY inferInstance) (s:List UInt8) (c:UInt8) (hl:s.length≤4294967280):DC Tryz.prog 20 [DS (bstr s),DS (bstr [c])] [] (fun r h=>r = .c (strD (splC c s))∧h=[]) :=
 DC.ofBelowN (R:=fun r=>r = .c (strD (splC c s))) fun I w sg vs H hv=>by
  obtain ⟨v,u,rfl,hr,hr2⟩:=vs_two hv
  obtain ⟨rfl,_⟩:=rd_scalar hr
  obtain ⟨rfl,_⟩:=rd_scalar hr2
  obtain ⟨m,hm⟩:=hM w (SimH.at_y H)
  refine (Tryz.strings_Split (bstr s) (bstr [c]) m w (by rw [bstr_size];omega) hm (Nat.le_refl 1)).mono ?_
  rintro e w' ⟨rfl,rfl⟩
  have hq:=splitB_splC c s
  have hk:=Lib.splitB_all (⟨#[c]⟩:ByteArray) (Nat.le_refl 1) 0 _ (bstr s) rfl
  rw [hq,List.length_map] at hk
  refine ⟨_,_,w.heap.size,_,_,rfl,rfl,Nat.le_refl _,al w _,fun sg'=>?_,RowKit.Below.alloc (RowKit.Below.refl _ w) (Nat.le_refl _) _⟩
  rw [show Lib.countB (bstr s) (bstr [c])=Lib.countB (bstr s) ⟨#[c]⟩ from rfl,← hk]
  unfold strD
  have hlen:((splC c s).map fun s=>[C.v (.string (bstr s))]).length=(splC c s).length:=by simp
  rw [← hlen]
  refine .c _ _ (.isl _ w.heap.size 0 _ 1 _ (fun i _ => .string (bstr ((splC c s).getD i []))) (.inr rfl) (fun i h=>by simp) (fun i j hi hj=>?_) (fun i h j h'=>?_) ⟨Nat.le_refl _,?_⟩)
  ·obtain rfl:j=0:=by omega
   rw [hlen] at hi
   have e:(Lib.splitB (bstr [c]) 0 (Lib.countB (bstr s) ⟨#[c]⟩) (bstr s))=(splC c s).map bstr:=hq
   rw [Lib.cell_of_heap (al w _)]
   simp [e,hi]
  ·have e:((splC c s).map fun s=>[C.v (.string (bstr s))])[i]=[C.v (.string (bstr ((splC c s).getD i [])))]:=by
    rw [hlen] at h
    simp [h]
   have hj:j=0:=by rw [e] at h';simp at h';exact h'
   subst hj
   have e2:((splC c s).map fun s=>[C.v (.string (bstr s))])[i][0]=C.v (.string (bstr ((splC c s).getD i []))):=by simp [e]
   rw [e2]
   exact .v _ _ rfl
  ·rw [hlen]
   have:(splC c s).length≤s.length+1:=by
    have h1:=Lib.countB_le (⟨#[c]⟩:ByteArray) (Nat.le_refl 1) _ (bstr s) (Nat.le_refl _)
    rw [bstr_size] at h1
    omega
   have:=mx_eq;omega
open CtL (In Cd codeOK)
def cutBy (c:UInt8) (s:List UInt8):List UInt8 × List UInt8 × Bool:=Lib.cut s [c]
theorem idx1_at (c : UInt8) : ∀ (u x : List UInt8), c ∉ u → Lib.index (u ++ c :: x) [c] = u.length
 | [],x,_=>by rw [List.nil_append,idx1_cons,if_pos rfl];rfl
 | a :: u,x,h=>by
  have h1:a ≠ c:=fun e=>h (by rw [e];simp)
  rw [List.cons_append,idx1_cons,if_neg h1,idx1_at c u x (fun q=>h (List.mem_cons_of_mem _ q))]
  have e1:((u.length:Int) == -1)=false:=by rw [beq_eq_false_iff_ne];omega
  simp [e1]
theorem cutBy_at {c:UInt8} {u:List UInt8} (x:List UInt8) (h:c ∉ u):cutBy c (u++c :: x)=(u,x,true):=by
 unfold cutBy Lib.cut
 rw [idx1_at c u x h,if_pos (by omega)]
 simp
theorem cutI2 (hM:MaxY inferInstance) (s:List UInt8) (c:UInt8) (hl:s.length≤4294967280):DC Tryz.prog 22 [DS (bstr s),DS (bstr [c])] [] (fun r h=>r = .tup [DS (bstr (cutBy c s).1),DS (bstr (cutBy c s).2.1),DB (cutBy c s).2.2]∧h=[]) :=
 DC.ofBelowD (R:=fun r=>r = .tup [DS (bstr (cutBy c s).1),DS (bstr (cutBy c s).2.1),DB (cutBy c s).2.2]) fun I w sg vs H hv=>by
  obtain ⟨v,u,rfl,hr,hr2⟩:=vs_two hv
  obtain ⟨rfl,_⟩:=rd_scalar hr
  obtain ⟨rfl,_⟩:=rd_scalar hr2
  obtain ⟨m,hm⟩:=hM w (SimH.at_y H)
  refine (Tryz.strings_Cut (bstr s) (bstr [c]) m w (by rw [bstr_size];omega) hm).mono ?_
  rintro e w' ⟨rfl,n,rfl⟩
  rw [bstr_list,bstr_list]
  refine ⟨_,_,rfl,rfl,fun sg' => .tup _ _ rfl fun j h1 h2=>?_,below_drewN w n⟩
  have:j=0∨j=1∨j=2:=by simp at h1;omega
  rcases this with rfl | rfl | rfl<;>exact .c _ _ (.v _ _ rfl)
def preL (s:List UInt8):List UInt8:=Lib.trimPrefix s [99,111,100,101,32]
def preB (s:List UInt8):Bool:=Lib.hasPrefix s [99,111,100,101,32]
theorem pre_head (c:Cd):preL (headT c)=(headT c).drop 5∧preB (headT c)=true:=by
 have h:Lib.hasPrefix (headT c) [99,111,100,101,32]=true:=by simp [Lib.hasPrefix,headT,List.isPrefixOf]
 exact ⟨by rw [preL,Lib.trimPrefix,h];rfl,h⟩
theorem preL_len (s:List UInt8):(preL s).length≤s.length:=by
 unfold preL Lib.trimPrefix
 split<;>simp
theorem cutBy_len (c:UInt8) (s:List UInt8):(cutBy c s).1.length≤s.length∧(cutBy c s).2.1.length≤s.length:=by
 unfold cutBy Lib.cut
 split
 ·simp only [List.length_take,List.length_drop];omega
 ·simp
theorem cutPrefixI (s:List UInt8):DC Tryz.prog 21 [DS (bstr s),DS (bstr [99,111,100,101,32])] [] (fun r h=>r = .tup [DS (bstr (preL s)),DB (preB s)]∧h=[]) :=
 DC.ofBelowD (R:=fun r=>r = .tup [DS (bstr (preL s)),DB (preB s)]) fun I w sg vs H hv=>by
  obtain ⟨v,u,rfl,hr,hr2⟩:=vs_two hv
  obtain ⟨rfl,_⟩:=rd_scalar hr
  obtain ⟨rfl,_⟩:=rd_scalar hr2
  refine (Tryz.strings_CutPrefix (bstr s) (bstr [99,111,100,101,32]) w).mono ?_
  rintro e w' ⟨rfl,rfl⟩
  rw [bstr_list,bstr_list]
  refine ⟨_,_,rfl,rfl,fun sg' => .tup _ _ rfl fun j h1 h2=>?_,RowKit.Below.refl _ _⟩
  have:j=0∨j=1:=by simp at h1;omega
  rcases this with rfl | rfl<;>exact .c _ _ (.v _ _ rfl)
theorem indexByteI (c:UInt8):DC Tryz.prog 57 [DS (bstr LB),DI .u8 c.toNat] [] (fun r h=>r=DI .i64 (ltrX c)∧h=[]) :=
 DC.ofBelow rfl fun I w sg vs H hv=>by
  obtain ⟨v,u,rfl,hr,hr2⟩:=vs_two hv
  obtain ⟨rfl,_⟩:=rd_scalar hr
  obtain ⟨rfl,_⟩:=rd_scalar hr2
  refine (Tryz.strings_IndexByte (bstr LB) c.toNat w).mono ?_
  rintro e w' ⟨rfl,rfl⟩
  refine ⟨?_,RowKit.Below.refl _ _⟩
  rw [bstr_list]
  have e1:((c.toNat:Int)).toNat.toUInt8=c:=by simp
  rw [e1]
  congr 2
  simp only [LB,Lib.indexByte,ltrX]
  by_cases h1:c=76
  ·subst h1;rfl
  by_cases h2:c=72
  ·subst h2;rfl
  by_cases h3:c=85
  ·subst h3;rfl
  by_cases h4:c=88
  ·subst h4;rfl
  rw [if_neg h1,if_neg h2,if_neg h3,if_neg h4]
  have b1:((76:UInt8) == c)=false:=by rw [beq_eq_false_iff_ne];exact Ne.symm h1
  have b2:((72:UInt8) == c)=false:=by rw [beq_eq_false_iff_ne];exact Ne.symm h2
  have b3:((85:UInt8) == c)=false:=by rw [beq_eq_false_iff_ne];exact Ne.symm h3
  have b4:((88:UInt8) == c)=false:=by rw [beq_eq_false_iff_ne];exact Ne.symm h4
  simp [b1,b2,b3,b4]
def opIx (u:List UInt8):Int:=if opOf u≤13 then (opOf u:Int) - 1 else -1
theorem bstr_inj2 {a b:List UInt8} (h:bstr a=bstr b):a=b:=by
 rw [← bstr_list a,h,bstr_list]
theorem idxFrom_find (u : List UInt8) : ∀ (L : List (List UInt8)) (i : Nat), Lib.idxFromS (L.map bstr) (bstr u) i = if L.findIdx (fun w => w == u) < L.length then ((i + L.findIdx (fun w => w == u) : Nat) : Int) else -1
 | [],i=>by simp [Lib.idxFromS]
 | a :: r,i=>by
  have ih:=idxFrom_find u r (i+1)
  rw [List.map_cons,Lib.idxFromS,List.findIdx_cons]
  by_cases h:a=u
  ·subst h;simp
  ·have hb:bstr a ≠ bstr u:=fun e=>h (bstr_inj2 e)
   have hq:(a == u)=false:=by rw [beq_eq_false_iff_ne];exact h
   rw [if_neg hb,ih,hq]
   simp only [cond_false,List.length_cons,Nat.add_lt_add_iff_right]
   split
   ·congr 1;omega
   ·rfl
theorem rdS_at {I:Nat→Prop} {w:World} {s:Sg} {v:Value} {L:List (List UInt8)} (hne:L ≠ []) (h:RD I w s v (.c (strD L))):∃ b off cap,v = .slice (some ⟨b,off,none⟩) L.length cap∧L.length≤mx∧∀ j,j<L.length→w.cell? ⟨b,off+j,none⟩=some (.string (bstr (L.getD j []))):=by
 cases h with
 | c _ _ h =>
  unfold strD at h
  have hlen:(L.map fun s=>[C.v (.string (bstr s))]).length=L.length:=by simp
  generalize hL:(L.map fun s=>[C.v (.string (bstr s))])=M at h
  rw [hL] at hlen
  cases h with
  | isl0 _ a cap _=>exact absurd (List.eq_nil_of_length_eq_zero (by rw [← hlen];rfl)) hne
  | isl _ b off cap _ _ yv hI hl hc hr hcap =>
   refine ⟨b,off,cap,by rw [hlen],by omega,fun j hj=>?_⟩
   have h1:=hc j 0 (by rw [hlen];exact hj) (by decide)
   rw [Nat.mul_one,Nat.add_zero] at h1
   rw [h1]
   have e:M[j]'(by rw [hlen];exact hj)=[C.v (.string (bstr (L.getD j [])))]:=by subst hL;simp [hj]
   have h2:=hr j (by rw [hlen];exact hj) 0 (by rw [e];simp)
   have e2:(M[j]'(by rw [hlen];exact hj))[0]'(by rw [e];simp)=C.v (.string (bstr (L.getD j []))):=by simp [e]
   rw [e2] at h2
   rw [(rd_scalar (.c _ _ h2)).1]
theorem indexI (u:List UInt8):DC Tryz.prog 24 [.c (strD nmL),DS (bstr u)] [] (fun r h=>r=DI .i64 (opIx u)∧h=[]) :=
 DC.ofBelow rfl fun I w sg vs H hv=>by
  obtain ⟨v,x,rfl,hr,hr2⟩:=vs_two hv
  obtain ⟨rfl,_⟩:=rd_scalar hr2
  obtain ⟨b,off,cap,rfl,hlen,hc⟩:=rdS_at (by simp [nmL]) hr
  have hn:nmL.length=13:=rfl
  refine (Tryz.slices_Index_string b off nmL.length cap (nmL.map bstr) (bstr u) w (by simp) (by omega) (fun j hj=>?_)).mono ?_
  ·rw [List.length_map] at hj
   rw [hc j hj]
   simp [List.getD_eq_getElem?_getD,List.getElem?_map,hj]
  ·rintro e w' ⟨rfl,rfl⟩
   refine ⟨?_,RowKit.Below.refl _ _⟩
   rw [List.take_of_length_le (by simp),Lib.idxOfS,idxFrom_find,opIx,opOf]
   congr 2
   rw [hn]
   generalize nmL.findIdx (fun w=>w == u)=k
   by_cases hk:k<13
   ·rw [if_pos hk,if_pos (by omega)];omega
   ·rw [if_neg hk,if_neg (by omega)]
theorem parse_small : ∀ (l : List UInt8) (acc : Nat), (∀ d ∈ l, 48 ≤ d.toNat ∧ d.toNat ≤ 57) → (acc + 1) * 10 ^ l.length ≤ 100000000000000000 → Lib.parseUint10 acc l = .ok (l.foldl (fun a d => a * 10 + (d.toNat - 48)) acc)
 | [],acc,_,_=>rfl
 | c :: r,acc,h,hb=>by
  have hc:=h c (by simp)
  have h1:1≤10 ^ r.length:=Nat.pos_of_ne_zero (by simp)
  rw [List.length_cons,Nat.pow_succ,Nat.mul_comm (10 ^ r.length) 10,← Nat.mul_assoc] at hb
  have h2:(acc+1) * 10≤100000000000000000:=Nat.le_trans (Nat.le_mul_of_pos_right _ h1) hb
  rw [Lib.parseUint10,if_pos hc,if_neg (by omega),if_neg (by omega),List.foldl_cons]
  refine parse_small r _ (fun d hd=>h d (by simp [hd])) (Nat.le_trans (Nat.mul_le_mul_right _ ?_) hb)
  omega
theorem atoi_itoa {n:Int} (h:0≤n∧n≤999):Lib.atoiAll (Lib.itoa n) = .ok n:=by
 obtain ⟨m,rfl⟩:∃ m:Nat,n=m:=⟨n.toNat,by omega⟩
 have hd:=dec_dig m
 have hv:=dec_val m
 have hl:=itoa_len h
 have hne:Lib.itoa (m:Int) ≠ []:=fun e=>by
  have:=val_num h
  rw [e] at this
  simp [numS,numU] at this
 rw [Lib.itoa_nonneg] at hl hne ⊢
 generalize Lib.decDigits m=l at *
 cases l with
 | nil=>exact absurd rfl hne
 | cons c r =>
  have hc:=hd c (by simp)
  rw [Lib.atoiAll_plain c r (by omega) (by omega),Lib.parseMag,if_neg (by simp),parse_small _ 0 hd (by
   have:(c :: r).length≤3:=hl
   have:10 ^ (c :: r).length≤10 ^ 3:=Nat.pow_le_pow_right (by omega) this
   omega)]
  rw [show (c :: r).foldl (fun a d=>a * 10+(d.toNat - 48)) 0=val (c :: r) from rfl,hv]
  simp only [Lib.signless]
  rw [if_neg (by omega)]
def AtR (s:List UInt8) (n:Int) (x:Value):Prop:=(∀ k:Int,0≤k∧k≤999→s=Lib.itoa k→n=k∧x = .nilIface)∧(x = .nilIface∨∃ t p,x = .iface t p)
theorem atoiI (hE:ErrY inferInstance) (s:List UInt8) (hl:s.length≤4294967280):DC Tryz.prog 26 [DS (bstr s)] [] (fun r h=>(∃ n x,r = .tup [DI .i64 n,.c (.v x)]∧AtR s n x)∧h=[]) :=
 DC.ofBelowD (R:=fun r=>∃ n x,r = .tup [DI .i64 n,.c (.v x)]∧AtR s n x) fun I w sg vs H hv=>by
  obtain ⟨v,rfl,hr⟩:=vs_one hv
  obtain ⟨rfl,_⟩:=rd_scalar hr
  obtain ⟨⟨t1,p1,h1⟩,t2,p2,h2⟩:=hE w (SimH.at_y H)
  have rd:∀ (w':World) (sg':Sg) (n:Int) (x:Value),one x=true→RD I w' sg' (.tuple #[.int .i64 n,x]) (.tup [DI .i64 n,.c (.v x)]):=fun w' sg' n x hx => .tup _ _ rfl fun j h1 h2=>by
   have:j=0∨j=1:=by simp at h1;omega
   rcases this with rfl | rfl
   ·exact .c _ _ (.v _ _ rfl)
   ·exact .c _ _ (.v _ _ hx)
  have hbl:=bstr_list s
  cases ha:Lib.atoiAll s
  ·rename_i u
   refine (Tryz.strconv_Atoi_ok (bstr s) (by rw [bstr_size];omega) u (by rw [hbl];exact ha) w).mono ?_
   rintro e w' ⟨rfl,hw⟩
   refine ⟨_,_,rfl,⟨u,.nilIface,rfl,⟨fun k hk e=>?_,.inl rfl⟩⟩,fun sg'=>rd _ _ _ _ rfl,?_⟩
   ·rw [e,atoi_itoa hk] at ha
    cases ha
    exact ⟨rfl,rfl⟩
   ·rcases hw with rfl | ⟨t,rfl⟩
    ·exact RowKit.Below.refl _ _
    ·exact ⟨rfl,rfl,rfl,(by rw [Lib.bytesWorld_size];omega),fun j hj=>Lib.bytesWorld_at_old w _ _ j hj⟩
  ·refine (Any.strconv_Atoi_syntax_var Tryz.laysC172 (bstr s) (by rw [bstr_size];omega) (by rw [hbl];exact ha) t1 p1 w h1).mono ?_
   rintro e w' ⟨N,rfl,_,_,hb⟩
   exact ⟨_,_,rfl,⟨_,_,rfl,⟨fun k hk e=>(by rw [e,atoi_itoa hk] at ha;cases ha),.inr ⟨_,_,rfl⟩⟩⟩,fun sg'=>rd _ _ _ _ rfl,hb⟩
  ·refine (Tryz.strconv_Atoi_range_var (bstr s) (by rw [bstr_size];omega) (by rw [hbl];exact ha) t2 p2 w h2).mono ?_
   rintro e w' ⟨N,rfl,_,_,hb⟩
   exact ⟨_,_,rfl,⟨_,_,rfl,⟨fun k hk e=>(by rw [e,atoi_itoa hk] at ha;cases ha),.inr ⟨_,_,rfl⟩⟩⟩,fun sg'=>rd _ _ _ _ rfl,hb⟩
theorem parseLabelsIO (s:List UInt8) (hl:s.length≤4294967280):DC Tryz.prog 23 [DS (bstr s)] [] (fun r h=>r = .tup [.c (.msl 0 1 0 ((labP s).getD []).length),DB (labP s).isSome]∧h=[some (((labP s).getD []).map I64)]):=by
 have hmx:=mx_eq
 have fail:∀ hp:Hp,labP s=none→RetOb 0 (fun r h=>r = .tup [.c (.msl 0 1 0 ((labP s).getD []).length),DB (labP s).isSome]∧h=[some (((labP s).getD []).map I64)]) (.tup [.c (.v (.slice none 0 0)),DB false]) hp:=fun hp e=>by
  rw [e];exact intsNilT
 have ret:∀ (k:Nat) (L:List Int) (hp:Hp),hp k=some (some (L.map I64))→labP s=some L→RetOb 0 (fun r h=>r = .tup [.c (.msl 0 1 0 ((labP s).getD []).length),DB (labP s).isSome]∧h=[some (((labP s).getD []).map I64)]) (.tup [.c (.msl k 1 0 L.length),DB true]) hp:=fun k L hp hk e=>by
  rw [e];exact intsKeepT hk rfl
 generalize hR:(fun (r:D) (h:List (Option (List C)))=>r = .tup [.c (.msl 0 1 0 ((labP s).getD []).length),DB (labP s).isSome]∧h=[some (((labP s).getD []).map I64)])=R at fail ret ⊢
 clear hR
 have hsz:=bstr_size s
 have hls:=bstr_list s
 refine dcZ Tryz.func23 ?_
 simp only [go_sem,hsz]
 iterate 3 ((try (refine drvZ Tryz.func23 ?_;simp only [go_sem,hsz]));((with_reducible and_intros)<;>try exact sd))
 refine Go.loopQ (fun x:Nat × List Int=>[(0,DS (bstr s)),(4,.c (.msl 65 1 0 x.2.length)),(8,DI .i64 s.length),(9,DI .i64 x.1)]) (fun x=>[(65,some (x.2.map I64))]) 1024 (fun x=>x.1≤s.length∧labP (s.take x.1)=some x.2) (fun x=>s.length - x.1) ?_ (0,[]) (fun j=>if j=65 then none else some j) [] _ ⟨Nat.zero_le _,rfl⟩ ?_
 ·rintro ⟨i,L⟩ ⟨hi,hI⟩ again
  simp only at hi hI again ⊢
  have hll:=labP_len hI
  have hlt0:(s.take i).length=i:=by simp;omega
  rcases Nat.lt_or_ge i s.length with hlt | hge
  ·obtain ⟨d,hx⟩:∃ d,s[i]? = some d:=⟨s[i],by simp [hlt]⟩
   have hgd:s.getD i 0=d:=by rw [List.getD_eq_getElem?_getD,hx];rfl
   have hsn:=labP_snoc (c:=d) hI
   have htk:s.take (i+1)=s.take i++[d]:=by rw [List.take_add_one,hx];rfl
   have hla:=indexByteI d
   have hmem:=List.mem_of_getElem? hx
   have hno:ltrX d<0→labP s=none:=fun h=>labP_none h hmem
   rw [← htk] at hsn
   generalize ltrX d=v at *
   by_cases hv:v<0
   ·have g1:(v<0)=True:=eq_true hv
    have hn:=hno hv
    refine drvL Tryz.func23 ?_
    simp only [go_sem,hsz,hlt]
    iterate 5 ((try (refine drvZ Tryz.func23 ?_;simp only [go_sem,hsz,hls,hlt,hgd,g1,b4L]));((with_reducible and_intros)<;>try exact sd);(try first | refine XK.p hla ok57 ?_ | refine XK.gp hla ok57 ?_))
    exact fail _ hn
   ·have g1:(v<0)=False:=eq_false hv
    rw [if_neg hv] at hsn
    have hln:(L++[v]).length=L.length+1:=by simp
    refine drvL Tryz.func23 ?_
    simp only [go_sem,hsz,hlt]
    iterate 6 ((try (refine drvZ Tryz.func23 ?_;simp only [go_sem,hsz,hls,hlt,hgd,g1,b4L]));((with_reducible and_intros)<;>try exact sd);(try first | refine XK.p hla ok57 ?_ | refine XK.gp hla ok57 ?_))
    refine again (i+1,L++[v]) (fun j=>if j=65 then some 1856 else some j) [] _ ⟨hlt,hsn⟩ (by omega) ?_
    simp only [go_sem,TmOK,DM,DMs,CM,CMs,forall_eq,exists_eq_left,Mq,HpOK,LowOK,hln,List.map_append]
    simp
    exact CMs.app (CMs.kf (kf_I L)) (by simp [CMs,CM])
  ·obtain rfl:i=s.length:=by omega
   have hlt:¬ s.length<s.length:=by omega
   rw [List.take_length] at hI
   clear again
   refine drvL Tryz.func23 ?_
   simp only [go_sem,hsz,hlt]
   iterate 4 ((try (refine drvZ Tryz.func23 ?_;simp only [go_sem,hsz,hlt]));((with_reducible and_intros)<;>try exact sd))
   exact ret _ _ _ rfl hI
 ·simp only [go_sem,TmOK,DM,DMs,CM,CMs,forall_eq,exists_eq_left,Mq,HpOK,LowOK]
  try simp
end Go.Proofs.YtfkhahkclgejnaaGreatDoor.CtD
