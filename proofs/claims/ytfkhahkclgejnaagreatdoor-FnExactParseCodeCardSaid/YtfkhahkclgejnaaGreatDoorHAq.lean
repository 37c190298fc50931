/- Contracts of functions of the program, one behind the other, as plain data: what each call returns and which blocks it leaves. -/
import Derived.Test.YtfkhahkclgejnaaGreatDoorHFacts
import Derived.Test.YtfkhahkclgejnaaGreatDoorHAj
import Derived.Test.YtfkhahkclgejnaaGreatDoorHAk
import Derived.Test.YtfkhahkclgejnaaGreatDoorHAl
import Derived.Test.YtfkhahkclgejnaaGreatDoorHAm
import Derived.Test.YtfkhahkclgejnaaGreatDoorHAn
import Derived.Test.YtfkhahkclgejnaaGreatDoorHAp
import Derived.Test.YtfkhahkclgejnaaGreatDoorHAo
set_option linter.unusedVariables false
set_option linter.unusedSimpArgs false
set_option linter.unusedSectionVars false
set_option maxHeartbeats 16000000
set_option maxRecDepth 100000
namespace Go.Proofs.YtfkhahkclgejnaaGreatDoor.CtD
open Go Go.CT CtF CtR
variable [Yn]
open CtL (In Cd codeOK inOK)
open CtG (labT ltrL)
def cdO (c:Cd):D := .agg [.msl 0 1 0 c.vars.length,.msl 1 1 0 c.arrays.length,.msl 2 5 0 c.list.length]
def cdH (c:Cd):List (Option (List C)):=[some (c.vars.map I64),some (c.arrays.map I64),some (inC c.list)]
theorem frzCd (c:Cd):Frz (hpL (cdH c)) [cdO c] [.agg (cdC c)]:=by
 obtain ⟨vs,ar,l⟩:=c
 refine Frz.of [0,1,2] ?_
 have g2:=in_len5 l
 have g3:=in_kf5 l
 simp [-List.mem_map,cdO,cdH,cdC,ints,isI,DMs,DM,CMs,CM,hpL,hOf,enumL,kf,in_flat]
 have h1:∀ (xs:List Int),∀ x ∈ xs.map (fun n=>[I64 n]),x.length=1:=fun xs x hx=>by obtain ⟨e,_,rfl⟩:=List.mem_map.1 hx;rfl
 have h2:∀ (xs:List Int),∀ x ∈ xs.map (fun n=>[I64 n]),∀ c ∈ x,kf c=true:=fun xs x hx c hc=>by
  obtain ⟨e,_,rfl⟩:=List.mem_map.1 hx
  simp only [List.mem_singleton] at hc
  subst hc;rfl
 exact ⟨⟨(flat_I' _).symm,h1 vs,h2 vs⟩,⟨(flat_I' _).symm,h1 ar,h2 ar⟩,g2,g3⟩
theorem codeValidO (c:Cd) (h1:c.vars.length≤2000000) (h2:c.arrays.length≤2000000) (h3:c.list.length≤100000000):DC Tryz.prog 13 [cdO c] (cdH c) (fun r h=>r=DB (codeOK c)∧h=cdH c) :=
 DC.borrowG (frzCd c) (codeValidI c h1 h2 h3)
theorem codeTextO (hT:TabY inferInstance) (c:Cd) (h:CdS c):DC Tryz.prog 28 [cdO c] (cdH c) (fun r h=>r=DS (bstr (fmtT c))∧h=cdH c) :=
 DC.borrowG (frzCd c) (codeTextI hT c h)
theorem rdI_of {p:List UInt8} {W:List (List UInt8)} (hW:splC 32 p=W) {pk:List Int} (hpk:∀ (j:Nat) (v:Int),(0≤v∧v≤999)→W[j+1]? = some (Lib.itoa v)→pk.getD j 0=v) (hz:∀ j:Nat,W.length≤j+1→j<4→pk.getD j 0=0) {op:Int} (hop:opIx (W.getD 0 [])+1=op):rdI p ⟨op,pk.getD 0 0,pk.getD 1 0,pk.getD 2 0,pk.getD 3 0⟩:=by
 intro nv na nl y hS hin e
 subst e
 rw [line_words hS] at hW
 subst hW
 have hlen:(nmT y.op :: wordsT y).length=narg y.op+1:=by simp [wordsT]
 have key:∀ j,j<4→[y.a,y.b,y.c,y.d].getD j 0=pk.getD j 0:=fun j hj=>by
  by_cases h:j<narg y.op
  ·have:=words_at hS j
   rw [if_pos h] at this
   exact (hpk j _ (hS.at j) (by rw [List.getElem?_cons_succ];exact this)).symm
  ·rw [zero_of hj hin h,hz j (by rw [hlen];omega) hj]
 have k0:=key 0 (by omega)
 have k1:=key 1 (by omega)
 have k2:=key 2 (by omega)
 have k3:=key 3 (by omega)
 have h1:=opOf_nm hS.1
 have h2:=hS.1
 rw [List.getD_cons_zero,opIx,if_pos (by omega)] at hop
 obtain ⟨o,a,b,c',d⟩:=y
 simp only [List.getD_cons_zero,List.getD_cons_succ] at k0 k1 k2 k3 h1 hop
 rw [k0,k1,k2,k3,← hop,show (opOf (nmT o):Int) - 1+1=o by omega]
theorem line_facts {p:List UInt8} {x:In} (hS:InS x) (e:lineT x=p):opIx ((splC 32 p).getD 0 [])+1=x.op∧(splC 32 p).length≤5∧∀ j w,(splC 32 p)[j+1]? = some w→∃ v:Int,(0≤v∧v≤999)∧w=Lib.itoa v:=by
 subst e
 rw [line_words hS]
 have h1:=opOf_nm hS.1
 have h2:=hS.1
 have h3:=narg_le x.op
 refine ⟨by rw [List.getD_cons_zero,opIx,if_pos (by omega)];omega,by simp [wordsT];exact h3,fun j w hw=>?_⟩
 rw [List.getElem?_cons_succ,words_at hS j] at hw
 split at hw
 ·cases hw;exact ⟨_,hS.at j,rfl⟩
 ·cases hw
theorem mid_rows {α:Type} (W:List α) (n:Nat) (h:n+1≤W.length):((W.drop 1).take n).length=n∧∀ i,i<n→((W.drop 1).take n)[i]? = W[i+1]? := by
 refine ⟨?_,fun i hi=>?_⟩
 ·simp only [List.length_drop,List.length_take];omega
 ·rw [List.getElem?_take,if_pos hi,List.getElem?_drop,Nat.add_comm]
theorem parseCodeIO (hT:TabY inferInstance) (hM:MaxY inferInstance) (hE:ErrY inferInstance) (t:List UInt8) (hl:t.length≤2000000) (c:Cd) (b:Bool) (hP:PR t c b):DC Tryz.prog 6 [DS (bstr t)] [] (fun r h=>r = .tup [cdO c,DB b]∧h=cdH c):=by
 have hmx:=mx_eq
 have fail:∀ hp:Hp,(∀ c',codeOK c'=true→fmtT c'=t→False)→RetOb 0 (fun r h=>r = .tup [cdO c,DB b]∧h=cdH c) (.tup [.agg [.v (.slice none 0 0),.v (.slice none 0 0),.v (.slice none 0 0)],DB false]) hp:=fun hp h=>by
  obtain ⟨rfl,rfl⟩:=Prod.mk.inj (hP.no h)
  refine RetOb.ofQ (fun _=>none) [] (.tup [cdO ⟨[],[],[]⟩,DB false]) (cdH ⟨[],[],[]⟩) ?_ ⟨rfl,rfl⟩ (by simp)
  simp [cdO,cdH,inC,enumL,hOf,DM,DMs,CM,CMs,HpOK,LowOK,upd]
 have done:∀ (hp:Hp) (k0 k1 k2:Nat) (c':Cd),codeOK c'=true→fmtT c'=t→hp k0=some (some (c'.vars.map I64))→hp k1=some (some (c'.arrays.map I64))→hp k2=some (some (inC c'.list))→k0 ≠ k1→k0 ≠ k2→k1 ≠ k2→RetOb 0 (fun r h=>r = .tup [cdO c,DB b]∧h=cdH c) (.tup [.agg [.msl k0 1 0 c'.vars.length,.msl k1 1 0 c'.arrays.length,.msl k2 5 0 c'.list.length],DB true]) hp:=fun hp k0 k1 k2 c' h1 h2 p0 p1 p2 n1 n2 n3=>by
  obtain ⟨rfl,rfl⟩:=Prod.mk.inj (hP.yes h1 h2)
  refine RetOb.ofQ (fun j=>if j=0 then some k0 else if j=1 then some k1 else if j=2 then some k2 else none) [] (.tup [cdO c',DB true]) (cdH c') ?_ ⟨rfl,rfl⟩ (by simp)
  simp [-List.mem_map,cdO,cdH,enumL,hOf,DM,DMs,CM,CMs,HpOK,LowOK,upd,p0,p1,p2,n1,n2,n3,CMs_I,CMs_in]
 generalize hR:(fun (r:D) (h:List (Option (List C)))=>r = .tup [cdO c,DB b]∧h=cdH c)=R at fail done ⊢
 clear hP hR
 have nl:(⟨#[10]⟩:ByteArray)=bstr [10]:=rfl
 have htf:tifc Tryz.prog 53=true:=by kernel_rfl
 have sp:(⟨#[32]⟩:ByteArray)=bstr [32]:=rfl
 have sl:(⟨#[47]⟩:ByteArray)=bstr [47]:=rfl
 have b5':(⟨#[99,111,100,101,32]⟩:ByteArray)=bstr [99,111,100,101,32]:=rfl
 have hcu:=splitI hM t 10 (by omega)
 have hne:=splC_ne 10 t
 have hwl:∀ p ∈ splC 10 t,p.length≤t.length:=splC_le 10 t
 have hpa:∀ c',codeOK c'=true→fmtT c'=t→Parts (splC 10 t) c':=fun c' h1 h2=>parts_of h1 h2
 generalize splC 10 t=w at *
 simp only [strD] at hcu
 have hn1:1≤w.length:=by cases w with | nil=>exact absurd rfl hne | cons a r=>simp
 obtain ⟨w0,hw0⟩:∃ a,w[0]? = some a:=⟨w[0],by simp [show 0<w.length by omega]⟩
 have hg0:w.getD 0 []=w0:=by rw [List.getD_eq_getElem?_getD,hw0];rfl
 have hw0l:=hwl w0 (List.mem_of_getElem? hw0)
 have hwm:∀ i,(w.map fun s=>[C.v (.string (bstr s))])[i]? = (w[i]?).map fun s=>[C.v (.string (bstr s))]:=fun i=>by rw [List.getElem?_map]
 have hw0m:(w.map fun s=>[C.v (.string (bstr s))])[0]? = some [C.v (.string (bstr w0))]:=by rw [hwm,hw0];rfl
 have hwlen:(w.map fun s=>[C.v (.string (bstr s))]).length=w.length:=by simp
 generalize hWW:(w.map fun s=>[C.v (.string (bstr s))])=WW at *
 by_cases q1:402<w.length
 ·have i1:((402:Int)<(w.length:Int))=True:=eq_true (by omega)
  refine dcZ Tryz.func6 ?_
  simp only [go_sem]
  iterate 6 ((try (refine drvZ Tryz.func6 ?_;simp only [go_sem,nl,hwlen,i1]));((with_reducible and_intros)<;>try exact sd);(try first | refine XK.p hcu ok20 ?_ | refine XK.gp hcu ok20 ?_))
  exact fail _ fun c' h1 h2=>by have:=(hpa c' h1 h2).n2;omega
 have i1:((402:Int)<(w.length:Int))=False:=eq_false (by omega)
 have p1:0<w.length:=by omega
 have hcp:=cutPrefixI w0
 have hhl:=preL_len w0
 have hhd:∀ c',codeOK c'=true→fmtT c'=t→cutBy 47 (preL w0)=(labT c'.vars,labT c'.arrays,true)∧preB w0=true:=fun c' h1 h2=>by
  have e:=(hpa c' h1 h2).h0
  rw [hg0] at e
  rw [e,(pre_head c').1,(pre_head c').2]
  refine ⟨?_,rfl⟩
  have e2:(headT c').drop 5=labT c'.vars++47 :: labT c'.arrays:=by simp [headT]
  rw [e2,cutBy_at _ (fun hq=>by have:=lab_low (cds_of h1).lv _ hq;simp at this)]
 have hct:=cutI2 hM (preL w0) 47 (by omega)
 have hcl:=cutBy_len 47 (preL w0)
 generalize preL w0=hd at *
 generalize preB w0=ok1 at *
 generalize cutBy 47 hd=cut3 at *
 obtain ⟨a0,a1,fd⟩:=cut3
 simp only at hct hcl
 have hr0:=parseLabelsIO a0 (by omega)
 have hr1:=parseLabelsIO a1 (by omega)
 have hpe:∀ c',codeOK c'=true→fmtT c'=t→labP a0=some c'.vars∧labP a1=some c'.arrays:=fun c' h1 h2=>by
  have h:=(hhd c' h1 h2).1
  obtain ⟨rfl,h'⟩:=Prod.mk.inj h
  obtain ⟨rfl,_⟩:=Prod.mk.inj h'
  exact ⟨(hpa c' h1 h2).lv,(hpa c' h1 h2).la⟩
 have hV:=labP_getD_len a0
 have hA:=labP_getD_len a1
 have hpe2:∀ c',codeOK c'=true→fmtT c'=t→c'.vars=(labP a0).getD []∧c'.arrays=(labP a1).getD []:=fun c' h1 h2=>by
  have h:=hpe c' h1 h2
  rw [h.1,h.2];exact ⟨rfl,rfl⟩
 generalize (labP a0).getD []=V at *
 generalize (labP a1).getD []=A at *
 have hpv:∀ c',codeOK c'=true→fmtT c'=t→(ok1=true∧(labP a0).isSome=true∧(labP a1).isSome=true):=fun c' h1 h2=>by
  have h:=hpe c' h1 h2
  rw [h.1,h.2];exact ⟨(hhd c' h1 h2).2,rfl,rfl⟩
 generalize hB0:(labP a0).isSome=B0 at *
 generalize hB1:(labP a1).isSome=B1 at *
 refine dcZ Tryz.func6 ?_
 simp only [go_sem]
 iterate 12 ((try (refine drvZ Tryz.func6 ?_;simp only [go_sem,nl,sl,b5',hwlen,i1,hw0m,p1]));((with_reducible and_intros)<;>try exact sd);(try first | refine XK.p hcu ok20 ?_ | refine XK.gp hcu ok20 ?_ | refine XK.p hcp ok21 ?_ | refine XK.gp hcp ok21 ?_ | refine XK.p hct ok22 ?_ | refine XK.gp hct ok22 ?_))
 refine XK.callG [] hr0 ok23 (fun i' x h=>by simp at h) (hbT ()) (fun d h' ⟨_,e⟩=>by subst e;simp) ?_
 rintro _ _ ⟨rfl,rfl⟩ _
 iterate 3 ((try (refine drvZ Tryz.func6 ?_;simp only [go_sem,I_ren]));((with_reducible and_intros)<;>try exact sd))
 refine XK.callG [] hr1 ok23 (fun i' x h=>by simp at h) (hbT ()) (fun d h' ⟨_,e⟩=>by subst e;simp) ?_
 rintro _ _ ⟨rfl,rfl⟩ _
 clear hcu hcp hct hr0 hr1
 by_cases q2:ok1=true∧B0=true∧B1=true
 rotate_left
 ·have hno:=fun c' h1 h2=>q2 (hpv c' h1 h2)
  have h3:((ok1=false)∨(ok1=true∧B0=false))∨(ok1=true∧B0=true∧B1=false):=by
   cases ok1<;>cases B0<;>cases B1<;>simp at q2 ⊢
  clear q2 hpv hpe hhd
  rcases h3 with (rfl | ⟨rfl,rfl⟩) | ⟨rfl,rfl,rfl⟩
  ·iterate 6 ((try (refine drvZ Tryz.func6 ?_;simp only [go_sem,I_ren]));((with_reducible and_intros)<;>try exact sd))
   exact fail _ hno
  ·iterate 6 ((try (refine drvZ Tryz.func6 ?_;simp only [go_sem,I_ren]));((with_reducible and_intros)<;>try exact sd))
   exact fail _ hno
  ·iterate 6 ((try (refine drvZ Tryz.func6 ?_;simp only [go_sem,I_ren]));((with_reducible and_intros)<;>try exact sd))
   exact fail _ hno
 obtain ⟨rfl,rfl,rfl⟩:=q2
 obtain ⟨n,hn,hn2⟩:∃ n:Nat,n=w.length - 2∧((w.length:Int) - if (w.length:Int) - 1<1 then (w.length:Int) - 1 else 1)=(n:Int)+1:=by
  refine ⟨_,rfl,?_⟩
  split<;>omega
 have hmr:=mid_rows WW n (by rw [hwlen];omega)
 have hn3:((n:Int)+1).toNat - 1=n:=by omega
 have hn4:n+1≤w.length:=by omega
 obtain ⟨hrl,hra⟩:=hmr
 iterate 4 ((try (refine drvZ Tryz.func6 ?_;simp only [go_sem,I_ren,hwlen,hn2,hn3,hrl]));((with_reducible and_intros)<;>try exact sd))
 generalize (WW.drop 1).take n=RR at *
 have hwf:∀ L:List In,∀ c',codeOK c'=true→fmtT c'=t→LsI w L.length L→L.length=n→c'=⟨V,A,L⟩:=fun L c' h1 h2 h3 h4=>by
  have e1:=hpe2 c' h1 h2
  have e0:=(hpa c' h1 h2).n1
  have e2:=h3.list (by omega) h1 (hpa c' h1 h2)
  obtain ⟨a1,a2,a3⟩:=c'
  simp only at e1 e2
  rw [e1.1,e1.2,e2]
 have hpl:∀ c',codeOK c'=true→fmtT c'=t→∀ k p,k<n→w[k+1]? = some p→∃ x,InS x∧lineT x=p:=fun c' h1 h2 k p h3 h4=>by
  obtain ⟨x,e,hx1,_⟩:=plS_ok h1 (hpa c' h1 h2) (by omega) h4
  exact ⟨x,hx1,e⟩
 refine Go.loopQ (fun L : List In => [(0, DS (bstr t)), (2, .c (.ptr 0 0)), (3, DB false), (10, .c (.ptr 1664 0)), (72, .c (.isl 1 RR)), (73, DI .i64 n), (74, DI .i64 L.length)]) (fun L => [(0, some [.v (.slice none 0 0), .v (.slice none 0 0), .v (.slice none 0 0)]), (1664, some [.msl 1920 1 0 V.length, .msl 2432 1 0 A.length, .msl 3000 5 0 L.length]), (1920, some (V.map I64)), (2432, some (A.map I64)), (3000, some (inC L))])
  4096 (fun L=>L.length≤n∧LsI w L.length L) (fun L=>n - L.length) ?_ [] (fun j=>if j=3000 then none else some j) [] _ ⟨Nat.zero_le _,lsI0 w⟩ ?_
 ·rintro L ⟨hLn,hL⟩ again
  rcases Nat.lt_or_ge L.length n with hlt | hge
  ·obtain ⟨p,hp⟩:∃ p,w[L.length+1]? = some p:=⟨w[L.length+1],by simp [show L.length+1<w.length by omega]⟩
   have hpm:RR[L.length]? = some [.v (.string (bstr p))]:=by rw [hra _ hlt,hwm,hp];rfl
   have hpn:=hwl p (List.mem_of_getElem? hp)
   have hpx:=fun c' h1 h2=>hpl c' h1 h2 _ p hlt hp
   have hsp:=splitI hM p 32 (by omega)
   have hru:=fun (pk:List Int) (op:Int)=>rdI_of (p:=p) (W:=splC 32 p) rfl (pk:=pk) (op:=op)
   have hlf:=fun x (h1:InS x) (h2:lineT x=p)=>line_facts h1 h2
   have hul:∀ q ∈ splC 32 p,q.length≤p.length:=splC_le 32 p
   have hune:=splC_ne 32 p
   generalize splC 32 p=u at *
   have hu1:1≤u.length:=by cases u with | nil=>exact absurd rfl hune | cons a r=>simp
   obtain ⟨u0,hu0⟩:∃ a,u[0]? = some a:=⟨u[0],by simp [show 0<u.length by omega]⟩
   have hgu:u.getD 0 []=u0:=by rw [List.getD_eq_getElem?_getD,hu0];rfl
   have how:=opWordsI
   have hix:=indexI u0
   simp only [strD] at hsp how hix
   have hum:∀ i,(u.map fun s=>[C.v (.string (bstr s))])[i]? = (u[i]?).map fun s=>[C.v (.string (bstr s))]:=fun i=>by rw [List.getElem?_map]
   have hu0m:(u.map fun s=>[C.v (.string (bstr s))])[0]? = some [C.v (.string (bstr u0))]:=by rw [hum,hu0];rfl
   have hulen:(u.map fun s=>[C.v (.string (bstr s))]).length=u.length:=by simp
   generalize (u.map fun s=>[C.v (.string (bstr s))])=UU at *
   generalize (nmL.map fun s=>[C.v (.string (bstr s))])=NL at *
   rw [hgu] at hru hlf
   have hoix:opIx u0 = -1∨0≤opIx u0∧opIx u0≤12:=by
    unfold opIx opOf
    split
    ·right;omega
    ·left;rfl
   generalize opIx u0=o at *
   have pu:0<u.length:=by omega
   by_cases q3:o<0
   ·have g1:(1+o<1)=True:=eq_true (by omega)
    clear again
    refine drvL Tryz.func6 ?_
    simp only [go_sem,hlt,hpm]
    iterate 12 ((try (refine drvZ Tryz.func6 ?_;simp only [go_sem,sp,hlt,hpm,hulen,hu0m,pu,g1]));((with_reducible and_intros)<;>try exact sd);(try first | refine XK.p hsp ok20 ?_ | refine XK.gp hsp ok20 ?_ | refine XK.p how ok25 ?_ | refine XK.gp how ok25 ?_ | refine XK.p hix ok24 ?_ | refine XK.gp hix ok24 ?_))
    exact fail _ fun c' h1 h2=>by
     obtain ⟨x,a1,a2⟩:=hpx c' h1 h2
     have:=(hlf x a1 a2).1
     have:=a1.1
     omega
   have g1:(1+o<1)=False:=eq_false (by omega)
   by_cases q4:5<u.length
   ·have g2:((5:Int)<(u.length:Int))=True:=eq_true (by omega)
    clear again
    refine drvL Tryz.func6 ?_
    simp only [go_sem,hlt,hpm]
    iterate 12 ((try (refine drvZ Tryz.func6 ?_;simp only [go_sem,sp,hlt,hpm,hulen,hu0m,pu,g1,g2]));((with_reducible and_intros)<;>try exact sd);(try first | refine XK.p hsp ok20 ?_ | refine XK.gp hsp ok20 ?_ | refine XK.p how ok25 ?_ | refine XK.gp how ok25 ?_ | refine XK.p hix ok24 ?_ | refine XK.gp hix ok24 ?_))
    exact fail _ fun c' h1 h2=>by
     obtain ⟨x,a1,a2⟩:=hpx c' h1 h2
     have:=(hlf x a1 a2).2.1
     omega
   have g2:((5:Int)<(u.length:Int))=False:=eq_false (by omega)
   have hmr:=mid_rows UU (u.length - 1) (by omega)
   obtain ⟨hsl,hsa⟩:=hmr
   have pu1:1≤u.length:=hu1
   refine drvL Tryz.func6 ?_
   simp only [go_sem,hlt,hpm]
   iterate 14 ((try (refine drvZ Tryz.func6 ?_;simp only [go_sem,sp,hlt,hpm,hulen,hu0m,pu,pu1,g1,g2,hsl]));((with_reducible and_intros)<;>try exact sd);(try first | refine XK.p hsp ok20 ?_ | refine XK.gp hsp ok20 ?_ | refine XK.p how ok25 ?_ | refine XK.gp how ok25 ?_ | refine XK.p hix ok24 ?_ | refine XK.gp hix ok24 ?_))
   generalize (UU.drop 1).take (u.length - 1)=SS at *
   generalize hm:u.length - 1=m at *
   refine Go.loopQ (fun y : Nat × List Int => [(0, DS (bstr t)), (2, .c (.ptr 0 0)), (3, DB false), (10, .c (.ptr 1664 0)), (72, .c (.isl 1 RR)), (73, DI .i64 n), (74, DI .i64 L.length), (16, .c (.ptr 4992 0)), (17, .c (.msl 5632 1 0 4)), (98, .c (.isl 1 SS)), (99, DI .i64 m), (100, DI .i64 y.1)]) (fun y => [(0, some [.v (.slice none 0 0), .v (.slice none 0 0), .v (.slice none 0 0)]), (1664, some [.msl 1920 1 0 V.length, .msl 2432 1 0 A.length, .msl 3000 5 0 L.length]), (1920, some (V.map I64)), (2432, some (A.map I64)), (3000, some (inC L)), (4992, some [I64 (1 + o), I64 0, I64 0, I64 0, I64 0]), (5632, some (y.2.map I64))])
    8192 (fun y=>y.1≤m∧y.2.length=4∧(∀ (j:Nat) (v:Int),j<y.1→(0≤v∧v≤999)→u[j+1]? = some (Lib.itoa v)→y.2.getD j 0=v)∧∀ j:Nat,y.1≤j→j<4→y.2.getD j 0=0) (fun y=>m - y.1) ?_ (0,[0,0,0,0]) some [] _ ⟨Nat.zero_le _,rfl,fun j v h=>by simp at h,fun j _ h=>by
     have:j=0∨j=1∨j=2∨j=3:=by omega
     rcases this with rfl | rfl | rfl | rfl<;>rfl⟩ ?_
   ·rintro ⟨k,pk⟩ ⟨hk,hpk4,hpk,hpz⟩ again2
    simp only at hk hpk4 hpk hpz again2 ⊢
    rcases Nat.lt_or_ge k m with hkm | hkm
    ·obtain ⟨q,hq⟩:∃ q,u[k+1]? = some q:=⟨u[k+1],by simp [show k+1<u.length by omega]⟩
     have hqm:SS[k]? = some [.v (.string (bstr q))]:=by rw [hsa _ hkm,hum,hq];rfl
     have hat:=atoiI hE q (by have:=hul q (List.mem_of_getElem? hq);omega)
     have hk4:k<4:=by omega
     have hpl4:(pk.map I64).length=4:=by simp [hpk4]
     refine drvL Tryz.func6 ?_
     simp only [go_sem,hkm,hqm]
     iterate 3 ((try (refine drvZ Tryz.func6 ?_;simp only [go_sem,hkm,hqm]));((with_reducible and_intros)<;>try exact sd))
     refine XK.callG [] hat ok26 (fun i' x h=>by simp at h) (hbT ()) (fun d h' ⟨_,e⟩=>by subst e;simp) ?_
     rintro _ _ ⟨⟨nv,x,rfl,hA1,hA2⟩,rfl⟩ _
     rcases hA2 with rfl | ⟨ty,pv,rfl⟩
     ·iterate 6 ((try (refine drvZ Tryz.func6 ?_;simp only [go_sem,htf,hk4,hpk4,hpl4]));((with_reducible and_intros)<;>try exact sd))
      have hms:(pk.map I64).set k (I64 nv)=(pk.set k nv).map I64:=List.map_set.symm
      refine again2 (k+1,pk.set k nv) some [] _ ⟨hkm,by rw [List.length_set];exact hpk4,fun j v hj hv hjq=>?_,fun j h1 h2=>?_⟩ (by omega) ?_
      ·by_cases hjk:j=k
       ·subst hjk
        rw [hq] at hjq
        have:=(hA1 v hv (by simpa using hjq)).1
        rw [List.getD_eq_getElem?_getD,List.getElem?_set_self (by omega)]
        exact this
       ·rw [List.getD_eq_getElem?_getD,List.getElem?_set_ne (Ne.symm hjk),← List.getD_eq_getElem?_getD]
        exact hpk j v (by omega) hv hjq
      ·simp only at h1
       rw [List.getD_eq_getElem?_getD,List.getElem?_set_ne (by omega),← List.getD_eq_getElem?_getD]
       exact hpz j (by omega) h2
      ·simp only [go_sem,TmOK,DM,DMs,CM,CMs,forall_eq,exists_eq_left,Mq,HpOK,LowOK,hms]
       simp [CMs_I,CMs_in,CMs,CM,upd,kf]
       rw [hms]
       exact CMs.kf (kf_I _)
     ·clear again again2
      iterate 4 ((try (refine drvZ Tryz.func6 ?_;simp only [go_sem,htf]));((with_reducible and_intros)<;>try exact sd))
      exact fail _ fun c' h1 h2=>by
       obtain ⟨x,a1,a2⟩:=hpx c' h1 h2
       obtain ⟨v,hv,rfl⟩:=(hlf x a1 a2).2.2 k q hq
       have:=(hA1 v hv rfl).2
       cases this
    ·have hke:k=m:=by omega
     have hkn:¬ k<m:=by omega
     obtain ⟨a,b',c',d,rfl⟩:∃ a b' c' d,pk=[a,b',c',d]:=by
      match pk,hpk4 with
      | [a,b',c',d],_=>exact ⟨a,b',c',d,rfl⟩
     have hrd:=hru [a,b',c',d] (1+o) (fun j v h1 h2=>by
      by_cases hj:j<k
      ·exact hpk j v hj h1 h2
      ·rw [List.getElem?_eq_none (by omega)] at h2;cases h2) (fun j h1 h2=>hpz j (by omega) h2) (by omega)
     have hwf2:=withFieldsI (1+o) a b' c' d []
     have hsn:=hL.snoc hp hrd
     simp only [List.getD_cons_zero,List.getD_cons_succ] at hsn
     simp only [inX] at hwf2
     clear again2
     refine drvL Tryz.func6 ?_
     simp only [go_sem,hkn]
     iterate 3 ((try (refine drvZ Tryz.func6 ?_;simp only [go_sem,hkn]));((with_reducible and_intros)<;>try exact sd))
     refine XK.callG [5632] hwf2 ok27 (hhpG (by simp [HH,upd,hOf,renCs,renC,rk0])) (hbT ()) (fun d h' ⟨_,e⟩=>by subst e;simp) ?_ (fun _=>⟨by kernel_rfl,_,_,⟨rfl,rfl⟩,by simp⟩)
     rintro _ _ ⟨rfl,rfl⟩ _
     have hic:=inC_len L
     iterate 4 ((try (refine drvZ Tryz.func6 ?_;simp only [go_sem,hic]));((with_reducible and_intros)<;>try exact sd))
     have hia:inC (L++[⟨1+o,a,b',c',d⟩])=inC L++[I64 (1+o),I64 a,I64 b',I64 c',I64 d]:=by rw [inC_app,inC_one];rfl
     have hln1:(L++[(⟨1+o,a,b',c',d⟩:In)]).length=L.length+1:=by simp
     refine again (L++[⟨1+o,a,b',c',d⟩]) (fun j=>if j=3000 then some 8640 else some j) [] _ ⟨by rw [hln1];omega,by rw [hln1];exact hsn⟩ (by rw [hln1];omega) ?_
     simp only [go_sem,TmOK,DM,DMs,CM,CMs,forall_eq,exists_eq_left,Mq,HpOK,LowOK,hia,hln1]
     simp [CMs_I,CMs,CM,upd,kf]
     exact CMs.app (CMs.kf (inC_kf L)) (by simp [CMs,CM])
   ·simp only [go_sem,TmOK,DM,DMs,CM,CMs,forall_eq,exists_eq_left,Mq,HpOK,LowOK]
    simp [CMs_I,CMs_in,CMs,CM,upd,kf]
  ·have hie:L.length=n:=by omega
   have hnl:¬ L.length<n:=by omega
   have hvo:=codeValidO ⟨V,A,L⟩ (by simp only;omega) (by simp only;omega) (by simp only;omega)
   have hto:=codeTextO hT ⟨V,A,L⟩
   simp only [cdO,cdH] at hvo hto
   clear again
   refine drvL Tryz.func6 ?_
   simp only [go_sem,hnl]
   iterate 2 ((try (refine drvZ Tryz.func6 ?_;simp only [go_sem,hnl]));((with_reducible and_intros)<;>try exact sd))
   refine XK.callG [1920,2432,3000] hvo ok13 (hhpG (by simp [HH,upd,hOf,I_ren,renCs_in,rk0])) (hbT ()) (fun d h' ⟨_,e⟩=>by subst e;simp) ?_
   rintro _ _ ⟨rfl,rfl⟩ _
   cases hcv:codeOK ⟨V,A,L⟩ with
   | false =>
    iterate 2 ((try (refine drvZ Tryz.func6 ?_;simp only [go_sem,I_ren,renCs_in]));((with_reducible and_intros)<;>try exact sd))
    refine XK.gskip 3 false (DS (bstr [])) ?_ (hbT ())
    iterate 5 ((try (refine drvZ Tryz.func6 ?_;simp only [go_sem,I_ren,renCs_in]));((with_reducible and_intros)<;>try exact sd))
    exact fail _ fun c' h1 h2=>by
     have e:=hwf L c' h1 h2 hL (by omega)
     subst e
     rw [hcv] at h1;cases h1
   | true =>
    have hto2:=hto (cds_of hcv)
    ((try (refine drvZ Tryz.func6 ?_;simp only [go_sem,I_ren,renCs_in]));((with_reducible and_intros)<;>try exact sd))
    refine XK.callT 3 false [1920,2432,3000] hto2 ok28 (hhpG (by simp [HH,upd,hOf,I_ren,renCs_in,rk0])) (hbT ()) (fun d h' ⟨_,e⟩=>by subst e;simp) ?_
    rintro _ _ ⟨rfl,rfl⟩ _
    by_cases q6:fmtT ⟨V,A,L⟩=t
    ·have i6:(fmtT ⟨V,A,L⟩ == t)=true:=by rw [beq_iff_eq];exact q6
     iterate 6 ((try (refine drvZ Tryz.func6 ?_;simp only [go_sem,I_ren,renCs_in,neqS,bne,i6]));((with_reducible and_intros)<;>try exact sd))
     exact done _ 1920 2432 3000 ⟨V,A,L⟩ hcv q6 rfl rfl rfl (by decide) (by decide) (by decide)
    ·have i6:(fmtT ⟨V,A,L⟩ == t)=false:=by rw [beq_eq_false_iff_ne];exact q6
     iterate 6 ((try (refine drvZ Tryz.func6 ?_;simp only [go_sem,I_ren,renCs_in,neqS,bne,i6]));((with_reducible and_intros)<;>try exact sd))
     exact fail _ fun c' h1 h2=>by
      have e:=hwf L c' h1 h2 hL (by omega)
      subst e
      exact q6 h2
 ·simp only [go_sem,TmOK,DM,DMs,CM,CMs,forall_eq,exists_eq_left,Mq,HpOK,LowOK]
  simp [CMs_I,CMs,CM,inC,upd]
open CtL (In Cd codeOK)
open CtL (In Cd codeOK)
theorem PR.len {t:List UInt8} {c:Cd} {b:Bool} (h:PR t c b):c.vars.length≤12∧c.arrays.length≤2∧c.list.length≤400:=by
 rcases h with ⟨_,h,_⟩ | ⟨_,rfl,_⟩
 ·have:=cds_of h;exact ⟨this.nv,this.na,this.nl⟩
 ·simp
open CtL (In Cd)
def mkIn (k:Int) (n:Nat):List In:=(List.range n).map fun (i:Nat)=>(⟨k+5 * (i:Int),k+5 * (i:Int)+1,k+5 * (i:Int)+1+1,k+5 * (i:Int)+1+1+1,k+5 * (i:Int)+1+1+1+1⟩:In)
theorem mkIn_len (k:Int) (n:Nat):(mkIn k n).length=n:=by simp [mkIn]
theorem mkIn_succ (k:Int) (n:Nat):mkIn k (n+1)=mkIn k n++[(⟨k+5 * (n:Int),k+5 * (n:Int)+1,k+5 * (n:Int)+1+1,k+5 * (n:Int)+1+1+1,k+5 * (n:Int)+1+1+1+1⟩:In)]:=by simp [mkIn,List.range_succ]
theorem inC_set5 {k:Int} {i:Nat} {l:List In} (h:i<l.length):((((((inC (mkIn k i++l.drop i)).set (i * 5) (I64 (k+5 * (i:Int)))).set (i * 5+1) (I64 (k+5 * (i:Int)+1))).set (i * 5+2) (I64 (k+5 * (i:Int)+1+1))).set (i * 5+3) (I64 (k+5 * (i:Int)+1+1+1))).set (i * 5+4) (I64 (k+5 * (i:Int)+1+1+1+1)))=inC (mkIn k (i+1)++l.drop (i+1)):=by
 rw [mkIn_succ,List.drop_eq_getElem_cons h,inC_app,inC_app,inC_app]
 have h2:(inC (mkIn k i)).length=i * 5:=by rw [inC_len,mkIn_len]
 have h3:inC (l[i] :: l.drop (i+1))=I64 l[i].op :: I64 l[i].a :: I64 l[i].b :: I64 l[i].c :: I64 l[i].d :: inC (l.drop (i+1)):=rfl
 rw [h3,inC_one]
 generalize inC (mkIn k i)=A at *
 generalize inC (l.drop (i+1))=B
 rw [← h2,List.set_append_right _ _ (Nat.le_refl _),List.set_append_right _ _ (by omega),List.set_append_right _ _ (by omega),List.set_append_right _ _ (by omega),List.set_append_right _ _ (by omega)]
 simp [inX]
theorem markInstrSO (l:List In) (k:Int) (hk:0≤k) (hb:k+5 * (l.length:Nat)≤1099511627776):DC Tryz.prog 32 [.c (.msl 0 5 0 l.length),DI .i64 k] [some (inC l)] (fun r h=>r=DI .i64 (k+5 * (l.length:Nat))∧h=[some (inC (mkIn k l.length))]):=by
 have hmx:=mx_eq
 have ret:∀ (n:Int) (cs:List C) (hp:Hp),n=k+5 * (l.length:Nat)→hp 0=some (some cs)→cs=inC (mkIn k l.length)→RetOb 1 (fun r h=>r=DI .i64 (k+5 * (l.length:Nat))∧h=[some (inC (mkIn k l.length))]) (DI .i64 n) hp:=fun n cs hp h1 h2 h3=>by
  subst h1 h3
  refine RetOb.ofQ (fun j=>if j=0 then some 0 else none) [] _ [some (inC (mkIn k l.length))] ?_ ⟨rfl,rfl⟩ (by simp)
  have e4:∀ {hT hS:Hp} {r:Nat→Option Nat} {fz:List Nat},CMs hT r hS fz (inC (mkIn k l.length)) (inC (mkIn k l.length))=True:=eq_true (CMs.kf (inC_kf _))
  simp [enumL,DM,DMs,CM,CMs,HpOK,LowOK,hOf,upd,h2,e4]
 generalize hR:(fun (r:D) (h:List (Option (List C)))=>r=DI .i64 (k+5 * (l.length:Nat))∧h=[some (inC (mkIn k l.length))])=R at ret ⊢
 clear hR
 have hcl:=inC_len l
 refine dcZ Tryz.func32 ?_
 simp only [go_sem]
 iterate 3 ((try (refine drvZ Tryz.func32 ?_;simp only [go_sem]));((with_reducible and_intros)<;>try exact sd))
 refine Go.loopQ (fun i:Nat=>[(0,.c (.msl 0 5 0 l.length)),(1,DI .i64 (k+5 * (i:Int))),(5,DI .i64 i)]) (fun i=>[(0,some (inC (mkIn k i++l.drop i)))]) 1024 (fun i=>i≤l.length) (fun i=>l.length - i) ?_ 0 some [] _ (by omega) ?_
 ·intro i hi again
  have hci:(inC (mkIn k i++l.drop i)).length=l.length * 5:=by rw [inC_len,List.length_append,mkIn_len,List.length_drop];omega
  rcases Nat.lt_or_ge i l.length with hlt | hge
  ·have hst:=inC_set5 (k:=k) hlt
   have h3:(0:Int)≤k+5 * (i:Int):=by omega
   have hc0:i * 5<l.length * 5:=by omega
   have hc1:i * 5+1<l.length * 5:=by omega
   have hc2:i * 5+2<l.length * 5:=by omega
   have hc3:i * 5+3<l.length * 5:=by omega
   have hc4:i * 5+4<l.length * 5:=by omega
   generalize inC (mkIn k i++l.drop i)=B at *
   refine drvL Tryz.func32 ?_
   simp only [go_sem,hlt,hci,h3,hc0,hc1,hc2,hc3,hc4]
   iterate 12 ((try (refine drvZ Tryz.func32 ?_;simp only [go_sem,hlt,hci,h3,hc0,hc1,hc2,hc3,hc4,List.length_set]));((with_reducible and_intros)<;>try exact sd))
   simp only [hst]
   refine again (i+1) some [] _ hlt (by omega) ?_
   simp only [go_sem,TmOK,DM,DMs,CM,CMs,forall_eq,exists_eq_left,Mq,HpOK,LowOK]
   exact ⟨by congr 1;omega,⟨by simp,CMs.kf (inC_kf _)⟩,by simp⟩
  ·obtain rfl:i=l.length:=by omega
   have hn:¬ l.length<l.length:=by omega
   refine drvL Tryz.func32 ?_
   simp only [go_sem,hn]
   iterate 3 ((try (refine drvZ Tryz.func32 ?_;simp only [go_sem,hn]));((with_reducible and_intros)<;>try exact sd))
   exact ret _ _ _ rfl rfl (by rw [List.drop_length,List.append_nil])
 ·simp only [go_sem,TmOK,DM,DMs,CM,CMs,forall_eq,exists_eq_left,Mq,HpOK,LowOK]
  exact ⟨⟨by simp,CMs.kf (inC_kf l)⟩,by simp⟩
theorem heldInstrSP (k:Int) (n:Nat) (hk:0≤k) (hb:k+5 * (n:Nat)≤1099511627776) (hn:n≤mx):DC Tryz.prog 34 [.c (.isl 5 ((mkIn k n).map inX)),DI .i64 k] [] (fun r h=>r=DI .i64 (k+5 * (n:Nat))∧h=[]):=by
 have hmx:=mx_eq
 have ret:∀ (v:Int) (hp:Hp),v=k+5 * (n:Nat)→RetOb 0 (fun r h=>r=DI .i64 (k+5 * (n:Nat))∧h=[]) (DI .i64 v) hp:=fun v hp h=>by subst h;exact RetOb.plain ⟨rfl,rfl⟩ rfl
 generalize hR:(fun (r:D) (h:List (Option (List C)))=>r=DI .i64 (k+5 * (n:Nat))∧h=[])=R at ret ⊢
 clear hR
 have hrl:((mkIn k n).map inX).length=n:=by simp [mkIn_len]
 refine dcZ Tryz.func34 ?_
 simp only [go_sem,hrl]
 iterate 3 ((try (refine drvZ Tryz.func34 ?_;simp only [go_sem,hrl]));((with_reducible and_intros)<;>try exact sd))
 refine Go.loopQ (fun i:Nat=>[(0,.c (.isl 5 ((mkIn k n).map inX))),(1,DI .i64 (k+5 * (i:Int))),(5,DI .i64 i)]) (fun _=>[]) 1024 (fun i=>i≤n) (fun i=>n - i) ?_ 0 some [] _ (by omega) ?_
 ·intro i hi again
  rcases Nat.lt_or_ge i n with hlt | hge
  ·have hxl:((mkIn k n).map inX)[i]? = some [I64 (k+5 * (i:Int)),I64 (k+5 * (i:Int)+1),I64 (k+5 * (i:Int)+1+1),I64 (k+5 * (i:Int)+1+1+1),I64 (k+5 * (i:Int)+1+1+1+1)]:=by simp [mkIn,hlt,inX]
   have h3:(0:Int)≤k+5 * (i:Int):=by omega
   generalize ((mkIn k n).map inX)=rows at *
   refine drvL Tryz.func34 ?_
   simp only [go_sem,hrl,hlt,hxl,h3,bne_self_eq_false]
   iterate 14 ((try (refine drvZ Tryz.func34 ?_;simp only [go_sem,hrl,hlt,hxl,h3,bne_self_eq_false]));((with_reducible and_intros)<;>try exact sd))
   refine again (i+1) some [] _ hlt (by omega) ?_
   simp only [go_sem,TmOK,DM,DMs,CM,CMs,forall_eq,exists_eq_left,Mq,HpOK,LowOK]
   simp
   omega
  ·obtain rfl:n=i:=by omega
   have hnn:¬ n<n:=by omega
   generalize ((mkIn k n).map inX)=rows at *
   refine drvL Tryz.func34 ?_
   simp only [go_sem,hrl,hnn]
   iterate 3 ((try (refine drvZ Tryz.func34 ?_;simp only [go_sem,hrl,hnn]));((with_reducible and_intros)<;>try exact sd))
   exact ret _ _ rfl
 ·simp only [go_sem,TmOK,DM,DMs,CM,CMs,forall_eq,exists_eq_left,Mq,HpOK,LowOK]
  all_goals simp
open CtL (In Cd codeOK)
def mkCd (k:Int) (nv na nl:Nat):Cd:=⟨mkI k nv,mkI (k+(nv:Nat)) na,mkIn (k+(nv:Nat)+(na:Nat)) nl⟩
theorem markCodeO (c : Cd) (nv na nl : Nat) (hv : c.vars.length = nv) (ha : c.arrays.length = na) (hl : c.list.length = nl) (h1 : nv ≤ 1000) (h2 : na ≤ 1000) (h3 : nl ≤ 1000) (k : Int) (hk : 0 ≤ k) (hb : k ≤ 1048576) :
 DC Tryz.prog 8 [.agg [.msl 0 1 0 nv,.msl 1 1 0 na,.msl 2 5 0 nl],DI .i64 k] (cdH c) (fun r h=>r=DI .i64 (k+(nv:Nat)+(na:Nat)+5 * (nl:Nat))∧h=cdH (mkCd k nv na nl)):=by
 have ret:∀ (hp:Hp),hp 0=some (some ((mkI k nv).map I64))→hp 1=some (some ((mkI (k+(nv:Nat)) na).map I64))→hp 2=some (some (inC (mkIn (k+(nv:Nat)+(na:Nat)) nl)))→RetOb 3 (fun r h=>r=DI .i64 (k+(nv:Nat)+(na:Nat)+5 * (nl:Nat))∧h=cdH (mkCd k nv na nl)) (DI .i64 (k+(nv:Nat)+(na:Nat)+5 * (nl:Nat))) hp:=fun hp h0 h1 h2=>by
  unfold mkCd cdH
  refine RetOb.ofQ (fun j=>if j≤2 then some j else none) [] _ [some ((mkI k nv).map I64),some ((mkI (k+(nv:Nat)) na).map I64),some (inC (mkIn (k+(nv:Nat)+(na:Nat)) nl))] ?_ ⟨rfl,rfl⟩ (by simp)
  simp [-List.mem_map,enumL,DM,DMs,CM,CMs,HpOK,LowOK,hOf,upd,h0,h1,h2,CMs_I,CMs_in]
 generalize hR:(fun (r:D) (h:List (Option (List C)))=>r=DI .i64 (k+(nv:Nat)+(na:Nat)+5 * (nl:Nat))∧h=cdH (mkCd k nv na nl))=R at ret ⊢
 clear hR
 have c1:=markIntSO c.vars k hk (by omega)
 have c2:=markIntSO c.arrays (k+(nv:Nat)) (by omega) (by omega)
 have c3:=markInstrSO c.list (k+(nv:Nat)+(na:Nat)) (by omega) (by omega)
 simp only [intsC,hv,ha,hl] at c1 c2 c3
 unfold cdH
 refine dcZ Tryz.func8 ?_
 simp only [go_sem]
 iterate 4 ((try (refine drvZ Tryz.func8 ?_;simp only [go_sem]));((with_reducible and_intros)<;>try exact sd))
 refine XK.callG [0] c1 ok31 (hhpG (by simp [HH,hOf,hpL,upd,I_ren])) (hbT ()) (fun d h' ⟨_,e⟩=>by subst e;simp) ?_
 rintro _ _ ⟨rfl,rfl⟩ _
 iterate 4 ((try (refine drvZ Tryz.func8 ?_;simp only [go_sem,I_ren]));((with_reducible and_intros)<;>try exact sd))
 refine XK.callG [1] c2 ok31 (hhpG (by simp [HH,hOf,hpL,upd,I_ren])) (hbT ()) (fun d h' ⟨_,e⟩=>by subst e;simp) ?_
 rintro _ _ ⟨rfl,rfl⟩ _
 iterate 4 ((try (refine drvZ Tryz.func8 ?_;simp only [go_sem,I_ren]));((with_reducible and_intros)<;>try exact sd))
 refine XK.callG [2] c3 ok32 (hhpG (by simp [HH,hOf,hpL,upd,I_ren,renCs_in])) (hbT ()) (fun d h' ⟨_,e⟩=>by subst e;simp) ?_
 rintro _ _ ⟨rfl,rfl⟩ _
 iterate 4 ((try (refine drvZ Tryz.func8 ?_;simp only [go_sem,I_ren,renCs_in]));((with_reducible and_intros)<;>try exact sd))
 exact ret _ rfl rfl rfl
theorem heldCodeP (k:Int) (nv na nl:Nat) (hk:0≤k) (hb:k≤1048576) (h1:nv≤1000) (h2:na≤1000) (h3:nl≤1000):DC Tryz.prog 9 [.agg (cdC (mkCd k nv na nl)),DI .i64 k] [] (fun r h=>r=DI .i64 (k+(nv:Nat)+(na:Nat)+5 * (nl:Nat))∧h=[]):=by
 have hmx:=mx_eq
 have ret:∀ (hp:Hp),RetOb 0 (fun r h=>r=DI .i64 (k+(nv:Nat)+(na:Nat)+5 * (nl:Nat))∧h=[]) (DI .i64 (k+(nv:Nat)+(na:Nat)+5 * (nl:Nat))) hp:=fun hp=>RetOb.plain ⟨rfl,rfl⟩ rfl
 generalize hR:(fun (r:D) (h:List (Option (List C)))=>r=DI .i64 (k+(nv:Nat)+(na:Nat)+5 * (nl:Nat))∧h=[])=R at ret ⊢
 clear hR
 have c1:=heldIntSP k nv hk (by omega) (by omega)
 have c2:=heldIntSP (k+(nv:Nat)) na (by omega) (by omega) (by omega)
 have c3:=heldInstrSP (k+(nv:Nat)+(na:Nat)) nl (by omega) (by omega) (by omega)
 have g3:(k+(nv:Int)<0)=False:=eq_false (by omega)
 have g4:(k+(nv:Int)+(na:Int)<0)=False:=eq_false (by omega)
 have g5:(k+(nv:Int)+(na:Int)+5 * (nl:Int)<0)=False:=eq_false (by omega)
 unfold mkCd cdC
 simp only
 generalize mkIn (k+(nv:Nat)+(na:Nat)) nl=li at *
 generalize mkI (k+(nv:Nat)) na=ar at *
 generalize mkI k nv=va at *
 have e:∀ xs:List Int,isI xs = .isl 1 (xs.map fun b=>[I64 b]):=fun _=>rfl
 rw [← e] at c1 c2
 clear e
 refine dcZ Tryz.func9 ?_
 simp only [go_sem,g3,g4,g5]
 iterate 14 ((try (refine drvZ Tryz.func9 ?_;simp only [go_sem,g3,g4,g5]));((with_reducible and_intros)<;>try exact sd);(try first | refine XK.p c1 ok33 ?_ | refine XK.gp c1 ok33 ?_ | refine XK.p c2 ok33 ?_ | refine XK.gp c2 ok33 ?_ | refine XK.p c3 ok34 ?_ | refine XK.gp c3 ok34 ?_))
 exact ret _
theorem frzOne (c:Cd):∀ (xs:List Int),(∀ x ∈ xs.map (fun n=>[I64 n]),x.length=1)∧∀ x ∈ xs.map (fun n=>[I64 n]),∀ c ∈ x,kf c=true:=fun xs=>⟨fun x hx=>by obtain ⟨e,_,rfl⟩:=List.mem_map.1 hx;rfl,fun x hx c hc=>by
 obtain ⟨e,_,rfl⟩:=List.mem_map.1 hx
 simp only [List.mem_singleton] at hc
 subst hc;rfl⟩
theorem frzCdK (c:Cd) (nv na nl:Nat) (hv:c.vars.length=nv) (ha:c.arrays.length=na) (hl:c.list.length=nl) (k:Int):Frz (hpL (cdH c)) [.agg [.msl 0 1 0 nv,.msl 1 1 0 na,.msl 2 5 0 nl],DI .i64 k] [.agg (cdC c),DI .i64 k]:=by
 have hone:=frzOne c
 obtain ⟨vs,ar,l⟩:=c
 simp only at hv ha hl
 subst hv ha hl
 refine Frz.of [0,1,2] ?_
 have g2:=in_len5 l
 have g3:=in_kf5 l
 simp [-List.mem_map,cdH,cdC,ints,isI,DMs,DM,CMs,CM,hpL,hOf,enumL,kf,in_flat]
 exact ⟨⟨(flat_I' _).symm,hone vs⟩,⟨(flat_I' _).symm,hone ar⟩,g2,g3⟩
theorem frzCdE (c:Cd) (nv na nl:Nat) (hv:c.vars.length=nv) (ha:c.arrays.length=na) (hl:c.list.length=nl):Frz (hpL (cdH c)) [.agg [.msl 0 1 0 nv,.msl 1 1 0 na,.msl 2 5 0 nl],.agg (cdC c)] [.agg (cdC c),.agg (cdC c)]:=by
 have hone:=frzOne c
 obtain ⟨vs,ar,l⟩:=c
 simp only at hv ha hl
 subst hv ha hl
 refine Frz.of [0,1,2] ?_
 have g2:=in_len5 l
 have g3:=in_kf5 l
 simp [-List.mem_map,cdH,cdC,ints,isI,DMs,DM,CMs,CM,hpL,hOf,enumL,kf,in_flat]
 exact ⟨⟨(flat_I' _).symm,hone vs⟩,⟨(flat_I' _).symm,hone ar⟩,g2,g3⟩
theorem mkCd_len (k:Int) (nv na nl:Nat):(mkCd k nv na nl).vars.length=nv∧(mkCd k nv na nl).arrays.length=na∧(mkCd k nv na nl).list.length=nl:=⟨mkI_len _ _,mkI_len _ _,mkIn_len _ _⟩
theorem heldCodeO (k:Int) (nv na nl:Nat) (hk:0≤k) (hb:k≤1048576) (h1:nv≤1000) (h2:na≤1000) (h3:nl≤1000):DC Tryz.prog 9 [.agg [.msl 0 1 0 nv,.msl 1 1 0 na,.msl 2 5 0 nl],DI .i64 k] (cdH (mkCd k nv na nl)) (fun r h=>r=DI .i64 (k+(nv:Nat)+(na:Nat)+5 * (nl:Nat))∧h=cdH (mkCd k nv na nl)) :=
 DC.borrowG (frzCdK (mkCd k nv na nl) nv na nl (mkCd_len k nv na nl).1 (mkCd_len k nv na nl).2.1 (mkCd_len k nv na nl).2.2 k) (heldCodeP k nv na nl hk hb h1 h2 h3)
theorem eqCodeO (c:Cd) (hb:CdB c) (nv na nl:Nat) (hv:c.vars.length=nv) (ha:c.arrays.length=na) (hl:c.list.length=nl):DC Tryz.prog 7 [.agg [.msl 0 1 0 nv,.msl 1 1 0 na,.msl 2 5 0 nl],.agg (cdC c)] (cdH c) (fun r h=>r=DB true∧h=cdH c) :=
 DC.borrowG (frzCdE c nv na nl hv ha hl) (eqCode_c c hb)
open CtL (In Cd codeOK)
theorem lawXParse (hT:TabY inferInstance) (hM:MaxY inferInstance) (hE:ErrY inferInstance) (t:List UInt8):DC Tryz.prog 3 [DS (bstr t)] [] (fun d h=>d=DB true∧h=[]):=by
 have hmx:=mx_eq
 have ret:∀ hp:Hp,RetOb 0 (fun d h=>d=DB true∧h=[]) (DB true) hp:=fun hp=>RetOb.plain (d:=DB true) ⟨rfl,rfl⟩ rfl
 generalize hRR:(fun (d:D) (h:List (Option (List C)))=>d=DB true∧h=[])=R at ret ⊢
 clear hRR
 have hsz:=bstr_size t
 by_cases hbig:1048576<t.length
 ·have hz:((1048576:Int)<(t.length:Int))=True:=eq_true (by omega)
  refine dcZ Tryz.func3 ?_
  simp only [go_sem,hsz,hz]
  iterate 3 ((try (refine drvZ Tryz.func3 ?_;simp only [go_sem,hsz,hz]));((with_reducible and_intros)<;>try exact sd))
  exact ret _
 have hz:((1048576:Int)<(t.length:Int))=False:=eq_false (by omega)
 obtain ⟨c,b,hP⟩:=PR.ex t
 have hs:=parseCodeS t (by omega) c b hP
 have hi:=parseCodeIO hT hM hE t (by omega) c b hP
 obtain ⟨q1,q2,q3⟩:=hP.len
 clear hP
 obtain ⟨nv,hv⟩:∃ n,c.vars.length=n:=⟨_,rfl⟩
 obtain ⟨na,ha⟩:∃ n,c.arrays.length=n:=⟨_,rfl⟩
 obtain ⟨nl,hnl⟩:∃ n,c.list.length=n:=⟨_,rfl⟩
 have heq:=eqCodeO c ⟨by omega,by omega,by omega⟩ nv na nl hv ha hnl
 have hmk:=markCodeO c nv na nl hv ha hnl (by omega) (by omega) (by omega) 1 (by omega) (by omega)
 have hhd:=heldCodeO 1 nv na nl (by omega) (by omega) (by omega) (by omega) (by omega)
 unfold cdO at hi
 rw [hv,ha,hnl] at hi
 have g3:((1:Int)+(nv:Int)+(na:Int)+5 * (nl:Int)<0)=False:=eq_false (by omega)
 clear q1 q2 q3 hv ha hnl
 obtain ⟨vs,ar,l⟩:=c
 unfold mkCd at hmk hhd
 simp only [cdC,cdH] at hs hi heq hmk hhd ⊢
 generalize mkIn (1+(nv:Nat)+(na:Nat)) nl=l2 at *
 generalize mkI (1+(nv:Nat)) na=ar2 at *
 generalize mkI 1 nv=vs2 at *
 generalize (1:Int)+(nv:Int)+(na:Int)+5 * (nl:Int)=m at *
 refine dcZ Tryz.func3 ?_
 simp only [go_sem,hsz,hz]
 iterate 6 ((try (refine drvZ Tryz.func3 ?_;simp only [go_sem,hsz,hz]));((with_reducible and_intros)<;>try exact sd);(try first | refine XK.p hs ok5 ?_ | refine XK.gp hs ok5 ?_))
 refine XK.callG [] hi ok6 (fun i' x h=>by simp at h) (hbT ()) (fun d h' ⟨_,e⟩=>by subst e;simp) ?_
 rintro _ _ ⟨rfl,rfl⟩ _
 iterate 4 ((try (refine drvZ Tryz.func3 ?_;simp only [go_sem,I_ren,renCs_in]));((with_reducible and_intros)<;>try exact sd))
 refine XK.callG [832,833,834] heq ok7 (hhpG (by simp [HH,upd,hOf,I_ren,renCs_in,rk0])) (hbT ()) (fun d h' ⟨_,e⟩=>by subst e;simp) ?_
 rintro _ _ ⟨rfl,rfl⟩ _
 iterate 5 ((try (refine drvZ Tryz.func3 ?_;simp only [go_sem,I_ren,renCs_in,bne_self_eq_false,g3]));((with_reducible and_intros)<;>try exact sd))
 refine XK.callG [832,833,834] hmk ok8 (hhpG (by simp [HH,upd,hOf,I_ren,renCs_in,rk0])) (hbT ()) (fun d h' ⟨_,e⟩=>by subst e;simp) ?_
 rintro _ _ ⟨rfl,rfl⟩ _
 iterate 5 ((try (refine drvZ Tryz.func3 ?_;simp only [go_sem,I_ren,renCs_in,bne_self_eq_false,g3]));((with_reducible and_intros)<;>try exact sd))
 refine XK.callG [832,833,834] hhd ok9 (hhpG (by simp [HH,upd,hOf,I_ren,renCs_in,rk0])) (hbT ()) (fun d h' ⟨_,e⟩=>by subst e;simp) ?_
 rintro _ _ ⟨rfl,rfl⟩ _
 iterate 6 ((try (refine drvZ Tryz.func3 ?_;simp only [go_sem,I_ren,renCs_in,bne_self_eq_false,g3]));((with_reducible and_intros)<;>try exact sd))
 refine XK.callG [] hi ok6 (fun i' x h=>by simp at h) (hbT ()) (fun d h' ⟨_,e⟩=>by subst e;simp) ?_
 rintro _ _ ⟨rfl,rfl⟩ _
 iterate 4 ((try (refine drvZ Tryz.func3 ?_;simp only [go_sem,I_ren,renCs_in,bne_self_eq_false,g3]));((with_reducible and_intros)<;>try exact sd))
 refine XK.callG [2880,2881,2882] heq ok7 (hhpG (by simp [HH,upd,hOf,I_ren,renCs_in,rk0])) (hbT ()) (fun d h' ⟨_,e⟩=>by subst e;simp) ?_
 rintro _ _ ⟨rfl,rfl⟩ _
 iterate 5 ((try (refine drvZ Tryz.func3 ?_;simp only [go_sem,I_ren,renCs_in,bne_self_eq_false,g3]));((with_reducible and_intros)<;>try exact sd))
 refine XK.callG [832,833,834] hhd ok9 (hhpG (by simp [HH,upd,hOf,I_ren,renCs_in,rk0])) (hbT ()) (fun d h' ⟨_,e⟩=>by subst e;simp) ?_
 rintro _ _ ⟨rfl,rfl⟩ _
 iterate 8 ((try (refine drvZ Tryz.func3 ?_;simp only [go_sem,I_ren,renCs_in,bne_self_eq_false,g3]));((with_reducible and_intros)<;>try exact sd))
 exact ret _
end Go.Proofs.YtfkhahkclgejnaaGreatDoor.CtD
