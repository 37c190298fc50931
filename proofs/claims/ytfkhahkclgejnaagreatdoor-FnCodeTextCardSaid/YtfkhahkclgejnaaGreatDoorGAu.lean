/- Contracts of functions of the program, one behind the other, as plain data: what each call returns and which blocks it leaves. -/
import Derived.Test.YtfkhahkclgejnaaGreatDoorGFacts
import Derived.Test.YtfkhahkclgejnaaGreatDoorGAk
import Derived.Test.YtfkhahkclgejnaaGreatDoorGAj
import Derived.Test.YtfkhahkclgejnaaGreatDoorGAl
import Derived.Test.YtfkhahkclgejnaaGreatDoorGAn
import Derived.Test.YtfkhahkclgejnaaGreatDoorGAo
import Derived.Test.YtfkhahkclgejnaaGreatDoorGAq
import Derived.Test.YtfkhahkclgejnaaGreatDoorGAr
import Derived.Test.YtfkhahkclgejnaaGreatDoorGAt
import Derived.Test.YtfkhahkclgejnaaGreatDoorGAm
import Derived.Test.YtfkhahkclgejnaaGreatDoorGAp
import Derived.Test.YtfkhahkclgejnaaGreatDoorGAs
set_option linter.unusedVariables false
set_option linter.unusedSimpArgs false
set_option linter.unusedSectionVars false
set_option maxHeartbeats 16000000
set_option maxRecDepth 100000
namespace Go.Proofs.YtfkhahkclgejnaaGreatDoor.CtD
open Go Go.CT CtF CtR
variable [Yn]
open CtL (In Cd codeOK inOK)
open CtG (labT ltrL)
def cdO (c:Cd):D := .agg [.msl 0 1 0 c.vars.length,.msl 1 1 0 c.arrays.length,.msl 2 5 0 c.list.length]
def cdH (c:Cd):List (Option (List C)):=[some (c.vars.map I64),some (c.arrays.map I64),some (inC c.list)]
theorem frzCd (c:Cd):Frz (hpL (cdH c)) [cdO c] [.agg (cdC c)]:=by
 obtain ⟨vs,ar,l⟩:=c
 refine Frz.of [0,1,2] ?_
 have g2:=in_len5 l
 have g3:=in_kf5 l
 simp [-List.mem_map,cdO,cdH,cdC,ints,isI,DMs,DM,CMs,CM,hpL,hOf,enumL,kf,in_flat]
 have h1:∀ (xs:List Int),∀ x ∈ xs.map (fun n=>[I64 n]),x.length=1:=fun xs x hx=>by obtain ⟨e,_,rfl⟩:=List.mem_map.1 hx;rfl
 have h2:∀ (xs:List Int),∀ x ∈ xs.map (fun n=>[I64 n]),∀ c ∈ x,kf c=true:=fun xs x hx c hc=>by
  obtain ⟨e,_,rfl⟩:=List.mem_map.1 hx
  simp only [List.mem_singleton] at hc
  subst hc;rfl
 exact ⟨⟨(flat_I' _).symm,h1 vs,h2 vs⟩,⟨(flat_I' _).symm,h1 ar,h2 ar⟩,g2,g3⟩
theorem codeValidO (c:Cd) (h1:c.vars.length≤2000000) (h2:c.arrays.length≤2000000) (h3:c.list.length≤100000000):DC Tryz.prog 13 [cdO c] (cdH c) (fun r h=>r=DB (codeOK c)∧h=cdH c) :=
 DC.borrowG (frzCd c) (codeValidI c h1 h2 h3)
theorem codeTextO (hT:TabY inferInstance) (c:Cd) (h:CdS c):DC Tryz.prog 28 [cdO c] (cdH c) (fun r h=>r=DS (bstr (fmtT c))∧h=cdH c) :=
 DC.borrowG (frzCd c) (codeTextI hT c h)
theorem rdI_of {p:List UInt8} {W:List (List UInt8)} (hW:splC 32 p=W) {pk:List Int} (hpk:∀ (j:Nat) (v:Int),(0≤v∧v≤999)→W[j+1]? = some (Lib.itoa v)→pk.getD j 0=v) (hz:∀ j:Nat,W.length≤j+1→j<4→pk.getD j 0=0) {op:Int} (hop:opIx (W.getD 0 [])+1=op):rdI p ⟨op,pk.getD 0 0,pk.getD 1 0,pk.getD 2 0,pk.getD 3 0⟩:=by
 intro nv na nl y hS hin e
 subst e
 rw [line_words hS] at hW
 subst hW
 have hlen:(nmT y.op :: wordsT y).length=narg y.op+1:=by simp [wordsT]
 have key:∀ j,j<4→[y.a,y.b,y.c,y.d].getD j 0=pk.getD j 0:=fun j hj=>by
  by_cases h:j<narg y.op
  ·have:=words_at hS j
   rw [if_pos h] at this
   exact (hpk j _ (hS.at j) (by rw [List.getElem?_cons_succ];exact this)).symm
  ·rw [zero_of hj hin h,hz j (by rw [hlen];omega) hj]
 have k0:=key 0 (by omega)
 have k1:=key 1 (by omega)
 have k2:=key 2 (by omega)
 have k3:=key 3 (by omega)
 have h1:=opOf_nm hS.1
 have h2:=hS.1
 rw [List.getD_cons_zero,opIx,if_pos (by omega)] at hop
 obtain ⟨o,a,b,c',d⟩:=y
 simp only [List.getD_cons_zero,List.getD_cons_succ] at k0 k1 k2 k3 h1 hop
 rw [k0,k1,k2,k3,← hop,show (opOf (nmT o):Int) - 1+1=o by omega]
theorem line_facts {p:List UInt8} {x:In} (hS:InS x) (e:lineT x=p):opIx ((splC 32 p).getD 0 [])+1=x.op∧(splC 32 p).length≤5∧∀ j w,(splC 32 p)[j+1]? = some w→∃ v:Int,(0≤v∧v≤999)∧w=Lib.itoa v:=by
 subst e
 rw [line_words hS]
 have h1:=opOf_nm hS.1
 have h2:=hS.1
 have h3:=narg_le x.op
 refine ⟨by rw [List.getD_cons_zero,opIx,if_pos (by omega)];omega,by simp [wordsT];exact h3,fun j w hw=>?_⟩
 rw [List.getElem?_cons_succ,words_at hS j] at hw
 split at hw
 ·cases hw;exact ⟨_,hS.at j,rfl⟩
 ·cases hw
theorem mid_rows {α:Type} (W:List α) (n:Nat) (h:n+1≤W.length):((W.drop 1).take n).length=n∧∀ i,i<n→((W.drop 1).take n)[i]? = W[i+1]? := by
 refine ⟨?_,fun i hi=>?_⟩
 ·simp only [List.length_drop,List.length_take];omega
 ·rw [List.getElem?_take,if_pos hi,List.getElem?_drop,Nat.add_comm]
theorem parseCodeIO (hT:TabY inferInstance) (hM:MaxY inferInstance) (hE:ErrY inferInstance) (t:List UInt8) (hl:t.length≤2000000) (c:Cd) (b:Bool) (hP:PR t c b):DC Tryz.prog 6 [DS (bstr t)] [] (fun r h=>r = .tup [cdO c,DB b]∧h=cdH c):=by
 have hmx:=mx_eq
 have fail:∀ hp:Hp,(∀ c',codeOK c'=true→fmtT c'=t→False)→RetOb 0 (fun r h=>r = .tup [cdO c,DB b]∧h=cdH c) (.tup [.agg [.v (.slice none 0 0),.v (.slice none 0 0),.v (.slice none 0 0)],DB false]) hp:=fun hp h=>by
  obtain ⟨rfl,rfl⟩:=Prod.mk.inj (hP.no h)
  refine RetOb.ofQ (fun _=>none) [] (.tup [cdO ⟨[],[],[]⟩,DB false]) (cdH ⟨[],[],[]⟩) ?_ ⟨rfl,rfl⟩ (by simp)
  simp [cdO,cdH,inC,enumL,hOf,DM,DMs,CM,CMs,HpOK,LowOK,upd]
 have done:∀ (hp:Hp) (k0 k1 k2:Nat) (c':Cd),codeOK c'=true→fmtT c'=t→hp k0=some (some (c'.vars.map I64))→hp k1=some (some (c'.arrays.map I64))→hp k2=some (some (inC c'.list))→k0 ≠ k1→k0 ≠ k2→k1 ≠ k2→RetOb 0 (fun r h=>r = .tup [cdO c,DB b]∧h=cdH c) (.tup [.agg [.msl k0 1 0 c'.vars.length,.msl k1 1 0 c'.arrays.length,.msl k2 5 0 c'.list.length],DB true]) hp:=fun hp k0 k1 k2 c' h1 h2 p0 p1 p2 n1 n2 n3=>by
  obtain ⟨rfl,rfl⟩:=Prod.mk.inj (hP.yes h1 h2)
  refine RetOb.ofQ (fun j=>if j=0 then some k0 else if j=1 then some k1 else if j=2 then some k2 else none) [] (.tup [cdO c',DB true]) (cdH c') ?_ ⟨rfl,rfl⟩ (by simp)
  simp [-List.mem_map,cdO,cdH,enumL,hOf,DM,DMs,CM,CMs,HpOK,LowOK,upd,p0,p1,p2,n1,n2,n3,CMs_I,CMs_in]
 generalize hR:(fun (r:D) (h:List (Option (List C)))=>r = .tup [cdO c,DB b]∧h=cdH c)=R at fail done ⊢
 clear hP hR
 have nl:(⟨#[10]⟩:ByteArray)=bstr [10]:=rfl
 have htf:tifc Tryz.prog 53=true:=by kernel_rfl
 have sp:(⟨#[32]⟩:ByteArray)=bstr [32]:=rfl
 have sl:(⟨#[47]⟩:ByteArray)=bstr [47]:=rfl
 have b5':(⟨#[99,111,100,101,32]⟩:ByteArray)=bstr [99,111,100,101,32]:=rfl
 have hcu:=splitI hM t 10 (by omega)
 have hne:=splC_ne 10 t
 have hwl:∀ p ∈ splC 10 t,p.length≤t.length:=splC_le 10 t
 have hpa:∀ c',codeOK c'=true→fmtT c'=t→Parts (splC 10 t) c':=fun c' h1 h2=>parts_of h1 h2
 generalize splC 10 t=w at *
 simp only [strD] at hcu
 have hn1:1≤w.length:=by cases w with | nil=>exact absurd rfl hne | cons a r=>simp
 obtain ⟨w0,hw0⟩:∃ a,w[0]? = some a:=⟨w[0],by simp [show 0<w.length by omega]⟩
 have hg0:w.getD 0 []=w0:=by rw [List.getD_eq_getElem?_getD,hw0];rfl
 have hw0l:=hwl w0 (List.mem_of_getElem? hw0)
 have hwm:∀ i,(w.map fun s=>[C.v (.string (bstr s))])[i]? = (w[i]?).map fun s=>[C.v (.string (bstr s))]:=fun i=>by rw [List.getElem?_map]
 have hw0m:(w.map fun s=>[C.v (.string (bstr s))])[0]? = some [C.v (.string (bstr w0))]:=by rw [hwm,hw0];rfl
 have hwlen:(w.map fun s=>[C.v (.string (bstr s))]).length=w.length:=by simp
 generalize hWW:(w.map fun s=>[C.v (.string (bstr s))])=WW at *
 by_cases q1:402<w.length
 ·have i1:((402:Int)<(w.length:Int))=True:=eq_true (by omega)
  refine dcZ Tryz.func6 ?_
  simp only [go_sem]
  iterate 6 ((try (refine drvZ Tryz.func6 ?_;simp only [go_sem,nl,hwlen,i1]));((with_reducible and_intros)<;>try exact sd);(try first | refine XK.p hcu ok20 ?_ | refine XK.gp hcu ok20 ?_))
  exact fail _ fun c' h1 h2=>by have:=(hpa c' h1 h2).n2;omega
 have i1:((402:Int)<(w.length:Int))=False:=eq_false (by omega)
 have p1:0<w.length:=by omega
 have hcp:=cutPrefixI w0
 have hhl:=preL_len w0
 have hhd:∀ c',codeOK c'=true→fmtT c'=t→cutBy 47 (preL w0)=(labT c'.vars,labT c'.arrays,true)∧preB w0=true:=fun c' h1 h2=>by
  have e:=(hpa c' h1 h2).h0
  rw [hg0] at e
  rw [e,(pre_head c').1,(pre_head c').2]
  refine ⟨?_,rfl⟩
  have e2:(headT c').drop 5=labT c'.vars++47 :: labT c'.arrays:=by simp [headT]
  rw [e2,cutBy_at _ (fun hq=>by have:=lab_low (cds_of h1).lv _ hq;simp at this)]
 have hct:=cutI2 hM (preL w0) 47 (by omega)
 have hcl:=cutBy_len 47 (preL w0)
 generalize preL w0=hd at *
 generalize preB w0=ok1 at *
 generalize cutBy 47 hd=cut3 at *
 obtain ⟨a0,a1,fd⟩:=cut3
 simp only at hct hcl
 have hr0:=parseLabelsIO a0 (by omega)
 have hr1:=parseLabelsIO a1 (by omega)
 have hpe:∀ c',codeOK c'=true→fmtT c'=t→labP a0=some c'.vars∧labP a1=some c'.arrays:=fun c' h1 h2=>by
  have h:=(hhd c' h1 h2).1
  obtain ⟨rfl,h'⟩:=Prod.mk.inj h
  obtain ⟨rfl,_⟩:=Prod.mk.inj h'
  exact ⟨(hpa c' h1 h2).lv,(hpa c' h1 h2).la⟩
 have hV:=labP_getD_len a0
 have hA:=labP_getD_len a1
 have hpe2:∀ c',codeOK c'=true→fmtT c'=t→c'.vars=(labP a0).getD []∧c'.arrays=(labP a1).getD []:=fun c' h1 h2=>by
  have h:=hpe c' h1 h2
  rw [h.1,h.2];exact ⟨rfl,rfl⟩
 generalize (labP a0).getD []=V at *
 generalize (labP a1).getD []=A at *
 have hpv:∀ c',codeOK c'=true→fmtT c'=t→(ok1=true∧(labP a0).isSome=true∧(labP a1).isSome=true):=fun c' h1 h2=>by
  have h:=hpe c' h1 h2
  rw [h.1,h.2];exact ⟨(hhd c' h1 h2).2,rfl,rfl⟩
 generalize hB0:(labP a0).isSome=B0 at *
 generalize hB1:(labP a1).isSome=B1 at *
 refine dcZ Tryz.func6 ?_
 simp only [go_sem]
 iterate 12 ((try (refine drvZ Tryz.func6 ?_;simp only [go_sem,nl,sl,b5',hwlen,i1,hw0m,p1]));((with_reducible and_intros)<;>try exact sd);(try first | refine XK.p hcu ok20 ?_ | refine XK.gp hcu ok20 ?_ | refine XK.p hcp ok21 ?_ | refine XK.gp hcp ok21 ?_ | refine XK.p hct ok22 ?_ | refine XK.gp hct ok22 ?_))
 refine XK.callG [] hr0 ok23 (fun i' x h=>by simp at h) (hbT ()) (fun d h' ⟨_,e⟩=>by subst e;simp) ?_
 rintro _ _ ⟨rfl,rfl⟩ _
 iterate 3 ((try (refine drvZ Tryz.func6 ?_;simp only [go_sem,I_ren]));((with_reducible and_intros)<;>try exact sd))
 refine XK.callG [] hr1 ok23 (fun i' x h=>by simp at h) (hbT ()) (fun d h' ⟨_,e⟩=>by subst e;simp) ?_
 rintro _ _ ⟨rfl,rfl⟩ _
 clear hcu hcp hct hr0 hr1
 by_cases q2:ok1=true∧B0=true∧B1=true
 rotate_left
 ·have hno:=fun c' h1 h2=>q2 (hpv c' h1 h2)
  have h3:((ok1=false)∨(ok1=true∧B0=false))∨(ok1=true∧B0=true∧B1=false):=by
   cases ok1<;>cases B0<;>cases B1<;>simp at q2 ⊢
  clear q2 hpv hpe hhd
  rcases h3 with (rfl | ⟨rfl,rfl⟩) | ⟨rfl,rfl,rfl⟩
  ·iterate 6 ((try (refine drvZ Tryz.func6 ?_;simp only [go_sem,I_ren]));((with_reducible and_intros)<;>try exact sd))
   exact fail _ hno
  ·iterate 6 ((try (refine drvZ Tryz.func6 ?_;simp only [go_sem,I_ren]));((with_reducible and_intros)<;>try exact sd))
   exact fail _ hno
  ·iterate 6 ((try (refine drvZ Tryz.func6 ?_;simp only [go_sem,I_ren]));((with_reducible and_intros)<;>try exact sd))
   exact fail _ hno
 obtain ⟨rfl,rfl,rfl⟩:=q2
 obtain ⟨n,hn,hn2⟩:∃ n:Nat,n=w.length - 2∧((w.length:Int) - if (w.length:Int) - 1<1 then (w.length:Int) - 1 else 1)=(n:Int)+1:=by
  refine ⟨_,rfl,?_⟩
  split<;>omega
 have hmr:=mid_rows WW n (by rw [hwlen];omega)
 have hn3:((n:Int)+1).toNat - 1=n:=by omega
 have hn4:n+1≤w.length:=by omega
 obtain ⟨hrl,hra⟩:=hmr
 iterate 4 ((try (refine drvZ Tryz.func6 ?_;simp only [go_sem,I_ren,hwlen,hn2,hn3,hrl]));((with_reducible and_intros)<;>try exact sd))
 generalize (WW.drop 1).take n=RR at *
 have hwf:∀ L:List In,∀ c',codeOK c'=true→fmtT c'=t→LsI w L.length L→L.length=n→c'=⟨V,A,L⟩:=fun L c' h1 h2 h3 h4=>by
  have e1:=hpe2 c' h1 h2
  have e0:=(hpa c' h1 h2).n1
  have e2:=h3.list (by omega) h1 (hpa c' h1 h2)
  obtain ⟨a1,a2,a3⟩:=c'
  simp only at e1 e2
  rw [e1.1,e1.2,e2]
 have hpl:∀ c',codeOK c'=true→fmtT c'=t→∀ k p,k<n→w[k+1]? = some p→∃ x,InS x∧lineT x=p:=fun c' h1 h2 k p h3 h4=>by
  obtain ⟨x,e,hx1,_⟩:=plS_ok h1 (hpa c' h1 h2) (by omega) h4
  exact ⟨x,hx1,e⟩
 refine Go.loopQ (fun L : List In => [(0, DS (bstr t)), (2, .c (.ptr 0 0)), (3, DB false), (10, .c (.ptr 1664 0)), (72, .c (.isl 1 RR)), (73, DI .i64 n), (74, DI .i64 L.length)]) (fun L => [(0, some [.v (.slice none 0 0), .v (.slice none 0 0), .v (.slice none 0 0)]), (1664, some [.msl 1920 1 0 V.length, .msl 2432 1 0 A.length, .msl 3000 5 0 L.length]), (1920, some (V.map I64)), (2432, some (A.map I64)), (3000, some (inC L))])
  4096 (fun L=>L.length≤n∧LsI w L.length L) (fun L=>n - L.length) ?_ [] (fun j=>if j=3000 then none else some j) [] _ ⟨Nat.zero_le _,lsI0 w⟩ ?_
 ·rintro L ⟨hLn,hL⟩ again
  rcases Nat.lt_or_ge L.length n with hlt | hge
  ·obtain ⟨p,hp⟩:∃ p,w[L.length+1]? = some p:=⟨w[L.length+1],by simp [show L.length+1<w.length by omega]⟩
   have hpm:RR[L.length]? = some [.v (.string (bstr p))]:=by rw [hra _ hlt,hwm,hp];rfl
   have hpn:=hwl p (List.mem_of_getElem? hp)
   have hpx:=fun c' h1 h2=>hpl c' h1 h2 _ p hlt hp
   have hsp:=splitI hM p 32 (by omega)
   have hru:=fun (pk:List Int) (op:Int)=>rdI_of (p:=p) (W:=splC 32 p) rfl (pk:=pk) (op:=op)
   have hlf:=fun x (h1:InS x) (h2:lineT x=p)=>line_facts h1 h2
   have hul:∀ q ∈ splC 32 p,q.length≤p.length:=splC_le 32 p
   have hune:=splC_ne 32 p
   generalize splC 32 p=u at *
   have hu1:1≤u.length:=by cases u with | nil=>exact absurd rfl hune | cons a r=>simp
   obtain ⟨u0,hu0⟩:∃ a,u[0]? = some a:=⟨u[0],by simp [show 0<u.length by omega]⟩
   have hgu:u.getD 0 []=u0:=by rw [List.getD_eq_getElem?_getD,hu0];rfl
   have how:=opWordsI
   have hix:=indexI u0
   simp only [strD] at hsp how hix
   have hum:∀ i,(u.map fun s=>[C.v (.string (bstr s))])[i]? = (u[i]?).map fun s=>[C.v (.string (bstr s))]:=fun i=>by rw [List.getElem?_map]
   have hu0m:(u.map fun s=>[C.v (.string (bstr s))])[0]? = some [C.v (.string (bstr u0))]:=by rw [hum,hu0];rfl
   have hulen:(u.map fun s=>[C.v (.string (bstr s))]).length=u.length:=by simp
   generalize (u.map fun s=>[C.v (.string (bstr s))])=UU at *
   generalize (nmL.map fun s=>[C.v (.string (bstr s))])=NL at *
   rw [hgu] at hru hlf
   have hoix:opIx u0 = -1∨0≤opIx u0∧opIx u0≤12:=by
    unfold opIx opOf
    split
    ·right;omega
    ·left;rfl
   generalize opIx u0=o at *
   have pu:0<u.length:=by omega
   by_cases q3:o<0
   ·have g1:(1+o<1)=True:=eq_true (by omega)
    clear again
    refine drvL Tryz.func6 ?_
    simp only [go_sem,hlt,hpm]
    iterate 12 ((try (refine drvZ Tryz.func6 ?_;simp only [go_sem,sp,hlt,hpm,hulen,hu0m,pu,g1]));((with_reducible and_intros)<;>try exact sd);(try first | refine XK.p hsp ok20 ?_ | refine XK.gp hsp ok20 ?_ | refine XK.p how ok25 ?_ | refine XK.gp how ok25 ?_ | refine XK.p hix ok24 ?_ | refine XK.gp hix ok24 ?_))
    exact fail _ fun c' h1 h2=>by
     obtain ⟨x,a1,a2⟩:=hpx c' h1 h2
     have:=(hlf x a1 a2).1
     have:=a1.1
     omega
   have g1:(1+o<1)=False:=eq_false (by omega)
   by_cases q4:5<u.length
   ·have g2:((5:Int)<(u.length:Int))=True:=eq_true (by omega)
    clear again
    refine drvL Tryz.func6 ?_
    simp only [go_sem,hlt,hpm]
    iterate 12 ((try (refine drvZ Tryz.func6 ?_;simp only [go_sem,sp,hlt,hpm,hulen,hu0m,pu,g1,g2]));((with_reducible and_intros)<;>try exact sd);(try first | refine XK.p hsp ok20 ?_ | refine XK.gp hsp ok20 ?_ | refine XK.p how ok25 ?_ | refine XK.gp how ok25 ?_ | refine XK.p hix ok24 ?_ | refine XK.gp hix ok24 ?_))
    exact fail _ fun c' h1 h2=>by
     obtain ⟨x,a1,a2⟩:=hpx c' h1 h2
     have:=(hlf x a1 a2).2.1
     omega
   have g2:((5:Int)<(u.length:Int))=False:=eq_false (by omega)
   have hmr:=mid_rows UU (u.length - 1) (by omega)
   obtain ⟨hsl,hsa⟩:=hmr
   have pu1:1≤u.length:=hu1
   refine drvL Tryz.func6 ?_
   simp only [go_sem,hlt,hpm]
   iterate 14 ((try (refine drvZ Tryz.func6 ?_;simp only [go_sem,sp,hlt,hpm,hulen,hu0m,pu,pu1,g1,g2,hsl]));((with_reducible and_intros)<;>try exact sd);(try first | refine XK.p hsp ok20 ?_ | refine XK.gp hsp ok20 ?_ | refine XK.p how ok25 ?_ | refine XK.gp how ok25 ?_ | refine XK.p hix ok24 ?_ | refine XK.gp hix ok24 ?_))
   generalize (UU.drop 1).take (u.length - 1)=SS at *
   generalize hm:u.length - 1=m at *
   refine Go.loopQ (fun y : Nat × List Int => [(0, DS (bstr t)), (2, .c (.ptr 0 0)), (3, DB false), (10, .c (.ptr 1664 0)), (72, .c (.isl 1 RR)), (73, DI .i64 n), (74, DI .i64 L.length), (16, .c (.ptr 4992 0)), (17, .c (.msl 5632 1 0 4)), (98, .c (.isl 1 SS)), (99, DI .i64 m), (100, DI .i64 y.1)]) (fun y => [(0, some [.v (.slice none 0 0), .v (.slice none 0 0), .v (.slice none 0 0)]), (1664, some [.msl 1920 1 0 V.length, .msl 2432 1 0 A.length, .msl 3000 5 0 L.length]), (1920, some (V.map I64)), (2432, some (A.map I64)), (3000, some (inC L)), (4992, some [I64 (1 + o), I64 0, I64 0, I64 0, I64 0]), (5632, some (y.2.map I64))])
    8192 (fun y=>y.1≤m∧y.2.length=4∧(∀ (j:Nat) (v:Int),j<y.1→(0≤v∧v≤999)→u[j+1]? = some (Lib.itoa v)→y.2.getD j 0=v)∧∀ j:Nat,y.1≤j→j<4→y.2.getD j 0=0) (fun y=>m - y.1) ?_ (0,[0,0,0,0]) some [] _ ⟨Nat.zero_le _,rfl,fun j v h=>by simp at h,fun j _ h=>by
     have:j=0∨j=1∨j=2∨j=3:=by omega
     rcases this with rfl | rfl | rfl | rfl<;>rfl⟩ ?_
   ·rintro ⟨k,pk⟩ ⟨hk,hpk4,hpk,hpz⟩ again2
    simp only at hk hpk4 hpk hpz again2 ⊢
    rcases Nat.lt_or_ge k m with hkm | hkm
    ·obtain ⟨q,hq⟩:∃ q,u[k+1]? = some q:=⟨u[k+1],by simp [show k+1<u.length by omega]⟩
     have hqm:SS[k]? = some [.v (.string (bstr q))]:=by rw [hsa _ hkm,hum,hq];rfl
     have hat:=atoiI hE q (by have:=hul q (List.mem_of_getElem? hq);omega)
     have hk4:k<4:=by omega
     have hpl4:(pk.map I64).length=4:=by simp [hpk4]
     refine drvL Tryz.func6 ?_
     simp only [go_sem,hkm,hqm]
     iterate 3 ((try (refine drvZ Tryz.func6 ?_;simp only [go_sem,hkm,hqm]));((with_reducible and_intros)<;>try exact sd))
     refine XK.callG [] hat ok26 (fun i' x h=>by simp at h) (hbT ()) (fun d h' ⟨_,e⟩=>by subst e;simp) ?_
     rintro _ _ ⟨⟨nv,x,rfl,hA1,hA2⟩,rfl⟩ _
     rcases hA2 with rfl | ⟨ty,pv,rfl⟩
     ·iterate 6 ((try (refine drvZ Tryz.func6 ?_;simp only [go_sem,htf,hk4,hpk4,hpl4]));((with_reducible and_intros)<;>try exact sd))
      have hms:(pk.map I64).set k (I64 nv)=(pk.set k nv).map I64:=List.map_set.symm
      refine again2 (k+1,pk.set k nv) some [] _ ⟨hkm,by rw [List.length_set];exact hpk4,fun j v hj hv hjq=>?_,fun j h1 h2=>?_⟩ (by omega) ?_
      ·by_cases hjk:j=k
       ·subst hjk
        rw [hq] at hjq
        have:=(hA1 v hv (by simpa using hjq)).1
        rw [List.getD_eq_getElem?_getD,List.getElem?_set_self (by omega)]
        exact this
       ·rw [List.getD_eq_getElem?_getD,List.getElem?_set_ne (Ne.symm hjk),← List.getD_eq_getElem?_getD]
        exact hpk j v (by omega) hv hjq
      ·simp only at h1
       rw [List.getD_eq_getElem?_getD,List.getElem?_set_ne (by omega),← List.getD_eq_getElem?_getD]
       exact hpz j (by omega) h2
      ·simp only [go_sem,TmOK,DM,DMs,CM,CMs,forall_eq,exists_eq_left,Mq,HpOK,LowOK,hms]
       simp [CMs_I,CMs_in,CMs,CM,upd,kf]
       rw [hms]
       exact CMs.kf (kf_I _)
     ·clear again again2
      iterate 4 ((try (refine drvZ Tryz.func6 ?_;simp only [go_sem,htf]));((with_reducible and_intros)<;>try exact sd))
      exact fail _ fun c' h1 h2=>by
       obtain ⟨x,a1,a2⟩:=hpx c' h1 h2
       obtain ⟨v,hv,rfl⟩:=(hlf x a1 a2).2.2 k q hq
       have:=(hA1 v hv rfl).2
       cases this
    ·have hke:k=m:=by omega
     have hkn:¬ k<m:=by omega
     obtain ⟨a,b',c',d,rfl⟩:∃ a b' c' d,pk=[a,b',c',d]:=by
      match pk,hpk4 with
      | [a,b',c',d],_=>exact ⟨a,b',c',d,rfl⟩
     have hrd:=hru [a,b',c',d] (1+o) (fun j v h1 h2=>by
      by_cases hj:j<k
      ·exact hpk j v hj h1 h2
      ·rw [List.getElem?_eq_none (by omega)] at h2;cases h2) (fun j h1 h2=>hpz j (by omega) h2) (by omega)
     have hwf2:=withFieldsI (1+o) a b' c' d []
     have hsn:=hL.snoc hp hrd
     simp only [List.getD_cons_zero,List.getD_cons_succ] at hsn
     simp only [inX] at hwf2
     clear again2
     refine drvL Tryz.func6 ?_
     simp only [go_sem,hkn]
     iterate 3 ((try (refine drvZ Tryz.func6 ?_;simp only [go_sem,hkn]));((with_reducible and_intros)<;>try exact sd))
     refine XK.callG [5632] hwf2 ok27 (hhpG (by simp [HH,upd,hOf,renCs,renC,rk0])) (hbT ()) (fun d h' ⟨_,e⟩=>by subst e;simp) ?_ (fun _=>⟨by kernel_rfl,_,_,⟨rfl,rfl⟩,by simp⟩)
     rintro _ _ ⟨rfl,rfl⟩ _
     have hic:=inC_len L
     iterate 4 ((try (refine drvZ Tryz.func6 ?_;simp only [go_sem,hic]));((with_reducible and_intros)<;>try exact sd))
     have hia:inC (L++[⟨1+o,a,b',c',d⟩])=inC L++[I64 (1+o),I64 a,I64 b',I64 c',I64 d]:=by rw [inC_app,inC_one];rfl
     have hln1:(L++[(⟨1+o,a,b',c',d⟩:In)]).length=L.length+1:=by simp
     refine again (L++[⟨1+o,a,b',c',d⟩]) (fun j=>if j=3000 then some 8640 else some j) [] _ ⟨by rw [hln1];omega,by rw [hln1];exact hsn⟩ (by rw [hln1];omega) ?_
     simp only [go_sem,TmOK,DM,DMs,CM,CMs,forall_eq,exists_eq_left,Mq,HpOK,LowOK,hia,hln1]
     simp [CMs_I,CMs,CM,upd,kf]
     exact CMs.app (CMs.kf (inC_kf L)) (by simp [CMs,CM])
   ·simp only [go_sem,TmOK,DM,DMs,CM,CMs,forall_eq,exists_eq_left,Mq,HpOK,LowOK]
    simp [CMs_I,CMs_in,CMs,CM,upd,kf]
  ·have hie:L.length=n:=by omega
   have hnl:¬ L.length<n:=by omega
   have hvo:=codeValidO ⟨V,A,L⟩ (by simp only;omega) (by simp only;omega) (by simp only;omega)
   have hto:=codeTextO hT ⟨V,A,L⟩
   simp only [cdO,cdH] at hvo hto
   clear again
   refine drvL Tryz.func6 ?_
   simp only [go_sem,hnl]
   iterate 2 ((try (refine drvZ Tryz.func6 ?_;simp only [go_sem,hnl]));((with_reducible and_intros)<;>try exact sd))
   refine XK.callG [1920,2432,3000] hvo ok13 (hhpG (by simp [HH,upd,hOf,I_ren,renCs_in,rk0])) (hbT ()) (fun d h' ⟨_,e⟩=>by subst e;simp) ?_
   rintro _ _ ⟨rfl,rfl⟩ _
   cases hcv:codeOK ⟨V,A,L⟩ with
   | false =>
    iterate 2 ((try (refine drvZ Tryz.func6 ?_;simp only [go_sem,I_ren,renCs_in]));((with_reducible and_intros)<;>try exact sd))
    refine XK.gskip 3 false (DS (bstr [])) ?_ (hbT ())
    iterate 5 ((try (refine drvZ Tryz.func6 ?_;simp only [go_sem,I_ren,renCs_in]));((with_reducible and_intros)<;>try exact sd))
    exact fail _ fun c' h1 h2=>by
     have e:=hwf L c' h1 h2 hL (by omega)
     subst e
     rw [hcv] at h1;cases h1
   | true =>
    have hto2:=hto (cds_of hcv)
    ((try (refine drvZ Tryz.func6 ?_;simp only [go_sem,I_ren,renCs_in]));((with_reducible and_intros)<;>try exact sd))
    refine XK.callT 3 false [1920,2432,3000] hto2 ok28 (hhpG (by simp [HH,upd,hOf,I_ren,renCs_in,rk0])) (hbT ()) (fun d h' ⟨_,e⟩=>by subst e;simp) ?_
    rintro _ _ ⟨rfl,rfl⟩ _
    by_cases q6:fmtT ⟨V,A,L⟩=t
    ·have i6:(fmtT ⟨V,A,L⟩ == t)=true:=by rw [beq_iff_eq];exact q6
     iterate 6 ((try (refine drvZ Tryz.func6 ?_;simp only [go_sem,I_ren,renCs_in,neqS,bne,i6]));((with_reducible and_intros)<;>try exact sd))
     exact done _ 1920 2432 3000 ⟨V,A,L⟩ hcv q6 rfl rfl rfl (by decide) (by decide) (by decide)
    ·have i6:(fmtT ⟨V,A,L⟩ == t)=false:=by rw [beq_eq_false_iff_ne];exact q6
     iterate 6 ((try (refine drvZ Tryz.func6 ?_;simp only [go_sem,I_ren,renCs_in,neqS,bne,i6]));((with_reducible and_intros)<;>try exact sd))
     exact fail _ fun c' h1 h2=>by
      have e:=hwf L c' h1 h2 hL (by omega)
      subst e
      exact q6 h2
 ·simp only [go_sem,TmOK,DM,DMs,CM,CMs,forall_eq,exists_eq_left,Mq,HpOK,LowOK]
  simp [CMs_I,CMs,CM,inC,upd]
open CtL (In Cd codeOK)
theorem fmtC_len (c:Cd):(fmtC c).length≤20000:=by
 unfold fmtC
 split
 ·rename_i h
  have hs:=cds_of h
  have h1:=hs.nv
  have h2:=hs.na
  have h3:=hs.nl
  have h4:=listT_len hs.ins
  simp only [fmtT,List.length_append,labT_len,List.length_cons,List.length_nil]
  omega
 ·simp
theorem ofS (bs : List Int) (p : Nat) (LL : List (List UInt8)) (hb : Fits .u8 bs) (hl : bs.length ≤ 2000) (h1 : p ≤ 1099511627776) (hne : 1 ≤ LL.length) (hm : LL.length ≤ 100) : DC Tryz.prog 75 [.c (.ptr 0 0), .c (strD LL)] [some (rdr bs p)]
 (fun d h=>∃ v ∈ LL,d=DS (bstr v)∧h=[some (rdr bs ((p+1:Nat):Int))]):=by
 have hmx:=mx_eq
 have ret:∀ (v:List UInt8) (hp:Hp),v ∈ LL→hp 0=some (some (rdr bs ((p+1:Nat):Int)))→RetOb 1 (fun d h=>∃ v ∈ LL,d=DS (bstr v)∧h=[some (rdr bs ((p+1:Nat):Int))]) (DS (bstr v)) hp:=fun v hp hv hhp=>by
  refine RetOb.of (fun k=>if k=0 then some 0 else none) [] (DS (bstr v)) [_] (subH_one' rfl hhp (rdr_kf _ _) (by simp)) (by simp [DM,CM,DS]) ⟨v,hv,rfl,rfl⟩ (by simp)
 generalize hR:(fun (d:D) (h:List (Option (List C)))=>∃ v ∈ LL,d=DS (bstr v)∧h=[some (rdr bs ((p+1:Nat):Int))])=R at ret ⊢
 clear hR
 have hLm:∀ i,(LL.map fun s=>[C.v (.string (bstr s))])[i]? = (LL[i]?).map fun s=>[C.v (.string (bstr s))]:=fun i=>by rw [List.getElem?_map]
 have hLl:(LL.map fun s=>[C.v (.string (bstr s))]).length=LL.length:=by simp
 unfold strD
 generalize (LL.map fun s=>[C.v (.string (bstr s))])=MM at *
 have hpk:=pick bs p LL.length hb hl h1 (by simp only [InK];omega)
 refine dcZ Tryz.func75 ?_
 simp only [go_sem]
 iterate 3 ((try (refine drvZ Tryz.func75 ?_;simp only [go_sem,renCs_rdr,hLl]));((with_reducible and_intros)<;>try exact sd))
 refine XK.callG [0] hpk ok74 (hhp_one (by simp [upd,hpL,renCs_rdr])) (hbT ()) (fun d h' ⟨v,_,_,e⟩=>by subst e;simp) ?_
 rintro _ _ ⟨v,rfl,hv,rfl⟩ _
 have hv2:0≤v∧v.toNat<LL.length:=by omega
 obtain ⟨u,hu⟩:∃ u,LL[v.toNat]? = some u:=⟨LL[v.toNat],by simp [hv2.2]⟩
 have hum:MM[v.toNat]? = some [.v (.string (bstr u))]:=by rw [hLm,hu];rfl
 have hv0:=hv2.1
 iterate 4 ((try (refine drvZ Tryz.func75 ?_;simp only [go_sem,renCs_rdr,hum,hv0]));((with_reducible and_intros)<;>try exact sd))
 exact ret _ _ (List.mem_of_getElem? hu) rfl
def bndR (bs:List Int) (n m:Nat) (r:D) (h:List (Option (List C))):Prop:=∃ v:List UInt8,r=DS (bstr v)∧v.length≤m∧rdL bs n 4 h
theorem l1BendS (bs:List Int) (p:Nat) (s:List UInt8) (LL:List (List UInt8)) (hb:Fits .u8 bs) (hl:bs.length≤2000) (h1:p≤1000000000000) (hne:1≤LL.length) (hm:LL.length≤100) (hq:∀ v ∈ LL,v.length≤10) (hs:s.length≤1000000):DC Tryz.prog 49 [.c (.ptr 0 0),DS (bstr s),.c (strD LL)] [some (rdr bs p)] (bndR bs p (s.length+10)):=by
 have hmx:=mx_eq
 have ret:∀ (v:List UInt8) (n:Nat) (hp:Hp),v.length≤s.length+10→p≤n→n≤p+4→hp 0=some (some (rdr bs (n:Int)))→RetOb 1 (bndR bs p (s.length+10)) (DS (bstr v)) hp:=fun v n hp hv a1 a2 hhp=>by
  refine RetOb.of (fun k=>if k=0 then some 0 else none) [] (DS (bstr v)) [_] (subH_one' rfl hhp (rdr_kf _ _) (by simp)) (by simp [DM,CM,DS]) ⟨v,rfl,hv,n,a1,a2,rfl⟩ (by simp)
 generalize hR:bndR bs p (s.length+10)=R at ret ⊢
 clear hR
 have hsz:=bstr_size s
 have hLl:(LL.map fun s=>[C.v (.string (bstr s))]).length=LL.length:=by simp
 unfold strD
 by_cases q0:s.length=0
 ·have i0:((s.length:Int) == 0)=true:=by rw [beq_iff_eq];omega
  refine dcZ Tryz.func49 ?_
  simp only [go_sem,hsz,i0]
  iterate 2 ((try (refine drvZ Tryz.func49 ?_;simp only [go_sem,renCs_rdr,hsz,i0]));((with_reducible and_intros)<;>try exact sd))
  refine XK.gskip 3 false (DI .i64 0) ?_ (hbT ())
  iterate 6 ((try (refine drvZ Tryz.func49 ?_;simp only [go_sem,renCs_rdr,hsz,i0]));((with_reducible and_intros)<;>try exact sd))
  exact ret s p _ (by omega) (by omega) (by omega) rfl
 have i0:((s.length:Int) == 0)=false:=by rw [beq_eq_false_iff_ne];omega
 have hp1:=pick bs p 2 hb hl (by omega) (by simp only [InK];omega)
 have hp2:=pick bs (p+1) s.length hb hl (by omega) (by simp only [InK];omega)
 have ho:=ofS bs (p+1+1) LL hb hl (by omega) hne hm
 have hp3:=pick bs (p+1+1+1) 2 hb hl (by omega) (by simp only [InK];omega)
 unfold strD at ho
 generalize hMM:(LL.map fun s=>[C.v (.string (bstr s))])=MM at *
 refine dcZ Tryz.func49 ?_
 simp only [go_sem,hsz,i0]
 iterate 2 ((try (refine drvZ Tryz.func49 ?_;simp only [go_sem,renCs_rdr,hsz,i0]));((with_reducible and_intros)<;>try exact sd))
 refine XK.callT 3 false [0] hp1 ok74 (hhp_one (by simp [upd,hpL,renCs_rdr])) (hbT ()) (fun d h' ⟨v,_,_,e⟩=>by subst e;simp) ?_
 rintro _ _ ⟨v,rfl,hv,rfl⟩ _
 have hvc:v=0∨v=1:=by omega
 rcases hvc with rfl | rfl
 ·iterate 8 ((try (refine drvZ Tryz.func49 ?_;simp only [go_sem,renCs_rdr,hsz,i0,beq_self_eq_true]));((with_reducible and_intros)<;>try exact sd))
  exact ret s (p+1) _ (by omega) (by omega) (by omega) rfl
 iterate 4 ((try (refine drvZ Tryz.func49 ?_;simp only [go_sem,renCs_rdr,hsz,i0]));((with_reducible and_intros)<;>try exact sd))
 refine XK.callG [0] hp2 ok74 (hhp_one (by simp [upd,hpL,renCs_rdr])) (hbT ()) (fun d h' ⟨v,_,_,e⟩=>by subst e;simp) ?_
 rintro _ _ ⟨k,rfl,hk,rfl⟩ _
 obtain ⟨k,rfl⟩:∃ n:Nat,k=n:=⟨k.toNat,by omega⟩
 have hk2:k<s.length:=by omega
 have hk3:k≤s.length:=by omega
 have hx1:=bstr_sub s 0 k
 rw [List.drop_zero] at hx1
 have htk:(s.take k).length=k:=by rw [List.length_take];omega
 iterate 3 ((try (refine drvZ Tryz.func49 ?_;simp only [go_sem,renCs_rdr,hsz,hk2,hk3,hx1,Int.toNat_natCast]));((with_reducible and_intros)<;>try exact sd))
 refine XK.callG [0] ho ok75 (hhp_one (by simp [upd,hpL,renCs_rdr])) (hbT ()) (fun d h' ⟨v,_,_,e⟩=>by subst e;simp) ?_ (fun _=>⟨by kernel_rfl,_,_,⟨LL[0],List.getElem_mem (by omega),rfl,rfl⟩,by simp⟩)
 rintro _ _ ⟨u,hu,rfl,rfl⟩ _
 have hul:=hq u hu
 have hus:=bstr_size u
 iterate 3 ((try (refine drvZ Tryz.func49 ?_;simp only [go_sem,renCs_rdr,hsz,hk2,hk3,hx1,bstr_app,bstr_size,List.length_append,htk,hus]));((with_reducible and_intros)<;>try exact sd))
 refine XK.callG [0] hp3 ok74 (hhp_one (by simp [upd,hpL,renCs_rdr])) (hbT ()) (fun d h' ⟨v,_,_,e⟩=>by subst e;simp) ?_ (fun _=>⟨by kernel_rfl,_,_,⟨0,rfl,.inr ⟨by omega,by omega⟩,rfl⟩,by simp⟩)
 rintro _ _ ⟨j,rfl,hj,rfl⟩ _
 obtain ⟨j,rfl⟩:∃ n:Nat,j=n:=⟨j.toNat,by omega⟩
 have hj2:j≤1:=by omega
 have hx2:=bstr_sub s (k+j) s.length
 rw [List.take_length] at hx2
 have hkj:k+j≤s.length:=by omega
 have hdl:(s.drop (k+j)).length=s.length - (k+j):=List.length_drop
 have hkjn:((k:Int)+(j:Int)).toNat=k+j:=by omega
 iterate 6 ((try (refine drvZ Tryz.func49 ?_;simp only [go_sem,renCs_rdr,hsz,hkj,hkjn,hx2,bstr_app,bstr_size,List.length_append,htk,hus,hdl]));((with_reducible and_intros)<;>try exact sd))
 exact ret _ (p+1+1+1+1) _ (by simp only [List.length_append,htk,hdl];omega) (by omega) (by omega) rfl
def dfcR (r:D) (h:List (Option (List C))):Prop:=∃ c:Cd,r = .agg (cdC c)∧c.vars.length≤13∧c.arrays.length≤2∧c.list.length≤400∧h=[]
theorem drawCodeValid (bs:List Int) (hb:Fits .u8 bs) (hl:bs.length≤mx):DC Tryz.prog 35 [bytesD bs] [] dfcR:=by
 have hmx:=mx_eq
 have hop:=l17Open bs hl
 have hb':=fits_take hb 2000
 have hl':(bs.take 2000).length≤2000:=by rw [List.length_take];omega
 generalize hR:dfcR=R
 generalize hbs:bs.take 2000=b2 at *
 unfold bytesD
 unfold bytesD at hop
 refine dcZ Tryz.func35 ?_
 simp only [go_sem]
 ((try (refine drvZ Tryz.func35 ?_;simp only [go_sem]));((with_reducible and_intros)<;>try exact sd))
 refine XK.callG [] hop ok48 (fun i' x h=>by simp at h) (hbT ()) (fun d h' ⟨_,e⟩=>by subst e;simp) ?_
 rintro _ _ ⟨rfl,rfl⟩ _
 iterate 2 ((try (refine drvZ Tryz.func35 ?_;simp only [go_sem,renCs_rdr]));((with_reducible and_intros)<;>try exact sd))
 have co:=l6CodeF b2 0 hb' hl' (by omega)
 refine XK.callG [128] co ok50 (hhp_one (by simp [upd,renCs_rdr])) (hbT ()) (fun d h' ⟨_,_,_,_,_,_,_,_,e⟩=>by subst e;simp) ?_
 rintro _ _ ⟨c,rfl,p1,p2,p3,n1,hn1,hn2,rfl⟩ _
 have hmu:=l6Mutate b2 n1 c hb' hl' (by omega) p1 p2 p3
 have fin:∀ (c':Cd) (hp:Hp),c'.vars.length≤13→c'.arrays.length≤2→c'.list.length≤400→RetOb 0 R (.agg (cdC c')) hp:=fun c' hp q1 q2 q3=>by
  refine RetOb.ofQ (fun _=>none) [] (.agg (cdC c')) [] ?_ (by rw [← hR];exact ⟨c',rfl,q1,q2,q3,rfl⟩) (by simp)
  simp [cdC,isI,enumL,hOf,DM,DMs,CM,CMs,HpOK,LowOK,upd,kf]
 obtain ⟨vs,ar,l⟩:=c
 simp only [cdC] at hmu fin ⊢
 ((try (refine drvZ Tryz.func35 ?_;simp only [go_sem,renCs_rdr]));((with_reducible and_intros)<;>try exact sd))
 refine XK.callG [128] hmu ok63 (hhp_one (by simp [upd,renCs_rdr])) (hbT ()) (fun d h' ⟨_,_,_,_,_,_,_,_,e⟩=>by subst e;simp) ?_
 rintro _ _ ⟨c2,rfl,q1,q2,q3,n2,hn3,hn4,rfl⟩ _
 obtain ⟨vs2,ar2,l2⟩:=c2
 have fin:=fin ⟨vs2,ar2,l2⟩
 simp only [cdC] at fin ⊢
 iterate 4 ((try (refine drvZ Tryz.func35 ?_;simp only [go_sem,renCs_rdr]));((with_reducible and_intros)<;>try exact sd))
 exact fin _ q1 q2 q3
theorem drawFormatCode (bs:List Int) (hb:Fits .u8 bs) (hl:bs.length≤mx):DC Tryz.prog 10 [bytesD bs] [] dfcR:=by
 have hmx:=mx_eq
 have hop:=drawCodeValid bs hb hl
 have fin:∀ (c':Cd) (hp:Hp),c'.vars.length≤13→c'.arrays.length≤2→c'.list.length≤400→RetOb 0 dfcR (.agg (cdC c')) hp:=fun c' hp q1 q2 q3=>by
  refine RetOb.ofQ (fun _=>none) [] (.agg (cdC c')) [] ?_ ⟨c',rfl,q1,q2,q3,rfl⟩ (by simp)
  simp [cdC,isI,enumL,hOf,DM,DMs,CM,CMs,HpOK,LowOK,upd,kf]
 generalize hR:dfcR=R at fin ⊢
 rw [hR] at hop
 subst hR
 unfold bytesD
 unfold bytesD at hop
 refine dcZ Tryz.func10 ?_
 simp only [go_sem]
 ((try (refine drvZ Tryz.func10 ?_;simp only [go_sem]));((with_reducible and_intros)<;>try exact sd))
 refine XK.callG [] hop ok35 (fun i' x h=>by simp at h) (hbT ()) (fun d h' ⟨_,_,_,_,_,e⟩=>by subst e;simp) ?_
 rintro _ _ ⟨c2,rfl,q1,q2,q3,rfl⟩ _
 obtain ⟨vs2,ar2,l2⟩:=c2
 have fin:=fin ⟨vs2,ar2,l2⟩
 simp only [cdC] at fin ⊢
 iterate 4 ((try (refine drvZ Tryz.func10 ?_;simp only [go_sem]));((with_reducible and_intros)<;>try exact sd))
 exact fin _ q1 q2 q3
def dpcR (r:D) (h:List (Option (List C))):Prop:=∃ v:List UInt8,r=DS (bstr v)∧v.length≤20010∧h=[]
theorem drawParseCode (bs:List Int) (hb:Fits .u8 bs) (hl:bs.length≤mx):DC Tryz.prog 16 [bytesD bs] [] dpcR:=by
 have hmx:=mx_eq
 have hop:=l17Open bs hl
 have hb':=fits_take hb 2000
 have hl':(bs.take 2000).length≤2000:=by rw [List.length_take];omega
 have ret:∀ (v:List UInt8) (hp:Hp),v.length≤20010→RetOb 0 dpcR (DS (bstr v)) hp:=fun v hp hv=>RetOb.plain (d:=DS (bstr v)) ⟨v,rfl,hv,rfl⟩ rfl
 generalize hR:dpcR=R at ret ⊢
 clear hR
 generalize hbs:bs.take 2000=b2 at *
 unfold bytesD
 unfold bytesD at hop
 refine dcZ Tryz.func16 ?_
 simp only [go_sem]
 iterate 2 ((try (refine drvZ Tryz.func16 ?_;simp only [go_sem]));((with_reducible and_intros)<;>try exact sd))
 refine XK.callG [] hop ok48 (fun i' x h=>by simp at h) (hbT ()) (fun d h' ⟨_,e⟩=>by subst e;simp) ?_
 rintro _ _ ⟨rfl,rfl⟩ _
 iterate 2 ((try (refine drvZ Tryz.func16 ?_;simp only [go_sem,renCs_rdr]));((with_reducible and_intros)<;>try exact sd))
 have co:=l6CodeF b2 0 hb' hl' (by omega)
 refine XK.callG [128] co ok50 (hhp_one (by simp [upd,renCs_rdr])) (hbT ()) (fun d h' ⟨_,_,_,_,_,_,_,_,e⟩=>by subst e;simp) ?_
 rintro _ _ ⟨c,rfl,p1,p2,p3,n1,hn1,hn2,rfl⟩ _
 have hfc:=formatCodeS c (by omega) (by omega) (by omega)
 have hfl:=fmtC_len c
 generalize fmtC c=T at *
 obtain ⟨vs,ar,l⟩:=c
 simp only [cdC] at hfc ⊢
 have hbe:=l1BendS b2 n1 T [[],[32],[10],[48],[57],[120],[104,97,108,116]] hb' hl' (by omega) (by simp) (by simp) (by simp) (by omega)
 iterate 1 ((try (refine drvZ Tryz.func16 ?_;simp only [go_sem,renCs_rdr]));((with_reducible and_intros)<;>try exact sd);(try first | refine XK.p hfc ok12 ?_ | refine XK.gp hfc ok12 ?_))
 ((try (refine drvZ Tryz.func16 ?_;simp only [go_sem,renCs_rdr]));((with_reducible and_intros)<;>try exact sd))
 unfold strD at hbe
 refine XK.subQ (r:=some) (fz:=[512]) (tl:=[(2,DS (bstr [])),(6,.c (.ptr 128 0)),(9,DS (bstr T)),(10,.c (.isl 1 ([[],[32],[10],[48],[57],[120],[104,97,108,116]].map fun s=>[.v (.string (bstr s))])))]) (hl:=[(128,some (rdr b2 n1))]) ?_ ?_
 ·simp [bstr,Mq,HpOK,LowOK,TmOK,hOf,upd,DM,DMs,CM,CMs,kf,rdr]
 generalize ([[],[32],[10],[48],[57],[120],[104,97,108,116]].map fun s=>[C.v (.string (bstr s))])=MM at *
 refine XK.callG [128] hbe ok49 (hhp_one (by simp [hOf,upd,renCs_rdr])) (hbT ()) (fun d h' ⟨_,_,_,_,_,_,e⟩=>by subst e;simp) ?_
 rintro _ _ ⟨v,rfl,hv,n2,_,_,rfl⟩ _
 iterate 3 ((try (refine drvZ Tryz.func16 ?_;simp only [go_sem,renCs_rdr]));((with_reducible and_intros)<;>try exact sd))
 exact ret v _ (by omega)
open CtL (In Cd codeOK)
theorem cdFz {F:FuncId} {args:List D} {c:Cd} {b:Bool} (h:DC Tryz.prog F args [] (fun r h=>r = .tup [cdO c,DB b]∧h=cdH c)):DC Tryz.prog F args [] (fun r h=>r = .tup [.agg (cdC c),DB b]∧h=[]) :=
 DC.weaken h fun d h' ⟨e1,e2⟩ _=>by
  subst e1 e2
  obtain ⟨vs,ar,l⟩:=c
  refine RetOb.ofQ (fun j=>none) [0,1,2] (.tup [.agg (cdC ⟨vs,ar,l⟩),DB b]) [] ?_ ⟨rfl,rfl⟩ (by simp)
  have g2:=in_len5 l
  have g3:=in_kf5 l
  have h1:∀ (xs:List Int),∀ x ∈ xs.map (fun n=>[I64 n]),x.length=1:=fun xs x hx=>by obtain ⟨e,_,rfl⟩:=List.mem_map.1 hx;rfl
  have h2:∀ (xs:List Int),∀ x ∈ xs.map (fun n=>[I64 n]),∀ c ∈ x,kf c=true:=fun xs x hx c hc=>by
   obtain ⟨e,_,rfl⟩:=List.mem_map.1 hx
   simp only [List.mem_singleton] at hc
   subst hc;rfl
  simp [-List.mem_map,cdO,cdH,cdC,ints,isI,enumL,hOf,DM,DMs,CM,CMs,HpOK,LowOK,upd,kf,DB,hpL,in_flat]
  exact ⟨⟨(flat_I' _).symm,h1 vs,h2 vs⟩,⟨(flat_I' _).symm,h1 ar,h2 ar⟩,g2,g3⟩
theorem parseCodeI (hT:TabY inferInstance) (hM:MaxY inferInstance) (hE:ErrY inferInstance) (t:List UInt8) (hl:t.length≤2000000) (c:Cd) (b:Bool) (hP:PR t c b):DC Tryz.prog 6 [DS (bstr t)] [] (fun r h=>r = .tup [.agg (cdC c),DB b]∧h=[]) :=
 cdFz (parseCodeIO hT hM hE t hl c b hP)
theorem fmt_nil_not (c:Cd):fmtT c ≠ []:=fun h=>by simp [fmtT] at h
theorem pr_fmt (c:Cd):∃ p:Cd,PR (fmtC c) p (codeOK c)∧(codeOK c=true→p=c):=by
 unfold fmtC
 by_cases h:codeOK c=true
 ·rw [if_pos h];exact ⟨c,.inl ⟨h,h,rfl⟩,fun _=>rfl⟩
 ·rw [if_neg h]
  refine ⟨⟨[],[],[]⟩,.inr ⟨by simpa using h,rfl,fun c' _ e=>fmt_nil_not c' e⟩,fun h'=>absurd h' h⟩
theorem PR.len {t:List UInt8} {c:Cd} {b:Bool} (h:PR t c b):c.vars.length≤12∧c.arrays.length≤2∧c.list.length≤400:=by
 rcases h with ⟨_,h,_⟩ | ⟨_,rfl,_⟩
 ·have:=cds_of h;exact ⟨this.nv,this.na,this.nl⟩
 ·simp
theorem PR.fmt {t:List UInt8} {c:Cd} (h:PR t c true):fmtC c=t:=by
 rcases h with ⟨_,h,e⟩ | ⟨h,_,_⟩
 ·unfold fmtC;rw [if_pos h];exact e
 ·cases h
theorem lawCodeText (hT:TabY inferInstance) (hM:MaxY inferInstance) (hE:ErrY inferInstance) (bs ms:List Int) (hbf:Fits .u8 bs) (hmf:Fits .u8 ms) (hl:bs.length≤mx) (hml:ms.length≤mx):DC Tryz.prog 4 [bytesD bs,bytesD ms] [] (fun d h=>d=DB true∧h=[]):=by
 have hmx:=mx_eq
 have hdr:=drawFormatCode bs hbf hl
 have hdm:=drawParseCode ms hmf hml
 unfold bytesD
 unfold bytesD at hdr hdm
 have ret:∀ (v:Bool) (hp:Hp),v=true→RetOb 0 (fun d h=>d=DB true∧h=[]) (DB v) hp:=fun v hp h=>by subst h;exact RetOb.plain (d:=DB true) ⟨rfl,rfl⟩ rfl
 generalize hRR:(fun (d:D) (h:List (Option (List C)))=>d=DB true∧h=[])=R at ret ⊢
 clear hRR
 by_cases hbig:1048576<bs.length
 ·have hz:((1048576:Int)<(bs.length:Int))=True:=eq_true (by omega)
  refine dcZ Tryz.func4 ?_
  simp only [go_sem,hz]
  iterate 3 ((try (refine drvZ Tryz.func4 ?_;simp only [go_sem,hz]));((with_reducible and_intros)<;>try exact sd))
  exact ret _ _ rfl
 have hz:((1048576:Int)<(bs.length:Int))=False:=eq_false (by omega)
 by_cases hbig2:1048576<ms.length
 ·have hz2:((1048576:Int)<(ms.length:Int))=True:=eq_true (by omega)
  refine dcZ Tryz.func4 ?_
  simp only [go_sem,hz,hz2]
  iterate 3 ((try (refine drvZ Tryz.func4 ?_;simp only [go_sem,hz,hz2]));((with_reducible and_intros)<;>try exact sd))
  exact ret _ _ rfl
 have hz2:((1048576:Int)<(ms.length:Int))=False:=eq_false (by omega)
 refine dcZ Tryz.func4 ?_
 simp only [go_sem,hz,hz2]
 iterate 3 ((try (refine drvZ Tryz.func4 ?_;simp only [go_sem,hz,hz2]));((with_reducible and_intros)<;>try exact sd))
 refine XK.callG [] hdr ok10 (fun i' x h=>by simp at h) (hbT ()) (fun d h' ⟨_,_,_,_,_,e⟩=>by subst e;simp) ?_
 rintro _ _ ⟨c,rfl,p1,p2,p3,rfl⟩ _
 clear hdr
 have hfi:=formatCodeI hT c (by omega) (by omega) (by omega)
 have hfs:=formatCodeS c (by omega) (by omega) (by omega)
 have hvi:=codeValidI c (by omega) (by omega) (by omega)
 have hvs:=codeValidS c (by omega) (by omega) (by omega)
 have hcl:=fmtC_len c
 obtain ⟨p,hp,hpc⟩:=pr_fmt c
 have hpi:=parseCodeI hT hM hE (fmtC c) (by omega) p (codeOK c) hp
 obtain ⟨e,he⟩:∃ e:Bool,e=true ↔ p=c:=by
  by_cases h:p=c
  ·exact ⟨true,by simp [h]⟩
  ·exact ⟨false,by simp [h]⟩
 have hsm:=codeSameIG p c (by have:=hp.len;omega) (by have:=hp.len;omega) (by have:=hp.len;omega) e he
 have heo:(codeOK c=true∧e=true)∨codeOK c=false:=by
  cases h:codeOK c with
  | true=>exact .inl ⟨rfl,he.2 (hpc h)⟩
  | false=>exact .inr rfl
 clear hpc hp he
 generalize fmtC c=S at *
 generalize codeOK c=ok at *
 obtain ⟨vs,ar,l⟩:=c
 obtain ⟨vp,ap,lp⟩:=p
 simp only [cdC] at hfi hfs hvi hvs hpi hsm ⊢
 rcases heo with ⟨rfl,rfl⟩ | rfl
 all_goals
  iterate 40 ((try (refine drvZ Tryz.func4 ?_;simp only [go_sem,neqS,bne,beq_self_eq_true]));((with_reducible and_intros)<;>try exact sd);(try first | refine XK.p hfi ok11 ?_ | refine XK.gp hfi ok11 ?_ | refine XK.p hpi ok6 ?_ | refine XK.gp hpi ok6 ?_ | refine XK.p hfs ok12 ?_ | refine XK.gp hfs ok12 ?_ | refine XK.p hvi ok13 ?_ | refine XK.gp hvi ok13 ?_ | refine XK.p hvs ok14 ?_ | refine XK.gp hvs ok14 ?_ | refine XK.p hsm ok15 ?_ | refine XK.gp hsm ok15 ?_))
  refine XK.subQ (r:=some) (fz:=[]) (tl:=[(4,DB false),(57,.c (.isl 1 (ms.map fun n=>[.v (.int .u8 n)])))]) (hl:=[]) ?_ ?_
  ·simp [Mq,HpOK,LowOK,TmOK,hOf,upd,DM,DMs,CM,CMs,kf]
  clear hfi hfs hvi hvs hpi hsm
  refine XK.callG [] hdm ok16 (fun i' x h=>by simp at h) (hbT ()) (fun d h' ⟨_,_,_,e⟩=>by subst e;simp) ?_
  rintro _ _ ⟨v,rfl,hv,rfl⟩ _
  obtain ⟨q,fine,hq⟩:=PR.ex v
  have hlq:=hq.len
  have h1:=parseCodeI hT hM hE v (by omega) q fine hq
  have h2:=parseCodeS v (by omega) q fine hq
  have h3:=codeSameIG q q (by omega) (by omega) (by omega) true (by simp)
  have h4:=formatCodeI hT q (by omega) (by omega) (by omega)
  have hfm:fine=true→fmtC q=v:=fun h=>by subst h;exact hq.fmt
  generalize fmtC q=T at *
  clear hlq hq
  obtain ⟨vq,aq,lq⟩:=q
  simp only [cdC] at h1 h2 h3 h4
  cases fine with
  | true =>
   obtain rfl:=hfm rfl
   iterate 40 ((try (refine drvZ Tryz.func4 ?_;simp only [go_sem,neqS,bne,beq_self_eq_true]));((with_reducible and_intros)<;>try exact sd);(try first | refine XK.p h1 ok6 ?_ | refine XK.gp h1 ok6 ?_ | refine XK.p h2 ok5 ?_ | refine XK.gp h2 ok5 ?_ | refine XK.p h3 ok15 ?_ | refine XK.gp h3 ok15 ?_ | refine XK.p h4 ok11 ?_ | refine XK.gp h4 ok11 ?_))
   exact ret _ _ rfl
  | false =>
   iterate 40 ((try (refine drvZ Tryz.func4 ?_;simp only [go_sem,neqS,bne,beq_self_eq_true]));((with_reducible and_intros)<;>try exact sd);(try first | refine XK.p h1 ok6 ?_ | refine XK.gp h1 ok6 ?_ | refine XK.p h2 ok5 ?_ | refine XK.gp h2 ok5 ?_ | refine XK.p h3 ok15 ?_ | refine XK.gp h3 ok15 ?_ | refine XK.p h4 ok11 ?_ | refine XK.gp h4 ok11 ?_))
   exact ret _ _ rfl
end Go.Proofs.YtfkhahkclgejnaaGreatDoor.CtD
