/- Contracts of functions of the program, one behind the other, as plain data: what each call returns and which blocks it leaves. -/
import Derived.Test.YtmjkgjkkpaephaaGreatSFacts
import Derived.Test.YtmjkgjkkpaephaaGreatSAi
import Derived.Test.YtmjkgjkkpaephaaGreatSAj
import Derived.Test.YtmjkgjkkpaephaaGreatSAk
import Derived.Test.YtmjkgjkkpaephaaGreatSAl
import Derived.Test.YtmjkgjkkpaephaaGreatSAn
import Derived.Test.YtmjkgjkkpaephaaGreatSAp
import Derived.Test.YtmjkgjkkpaephaaGreatSAq
import Derived.Test.YtmjkgjkkpaephaaGreatSAu
import Derived.Test.YtmjkgjkkpaephaaGreatSAv
import Derived.Test.YtmjkgjkkpaephaaGreatSAw
import Derived.Test.YtmjkgjkkpaephaaGreatSAx
import Derived.Test.YtmjkgjkkpaephaaGreatSAz
import Derived.Test.YtmjkgjkkpaephaaGreatSBb
import Derived.Test.YtmjkgjkkpaephaaGreatSBc
import Derived.Test.YtmjkgjkkpaephaaGreatSBd
import Derived.Test.YtmjkgjkkpaephaaGreatSBe
import Derived.Test.YtmjkgjkkpaephaaGreatSBh
import Derived.Test.YtmjkgjkkpaephaaGreatSAm
import Derived.Test.YtmjkgjkkpaephaaGreatSAs
import Derived.Test.YtmjkgjkkpaephaaGreatSAt
import Derived.Test.YtmjkgjkkpaephaaGreatSBf
set_option linter.unusedVariables false
set_option linter.unusedSimpArgs false
set_option maxHeartbeats 16000000
set_option maxRecDepth 100000
namespace Go.Proofs.YtmjkgjkkpaephaaGreat.CtD
open Go Go.CT CtF CtR
open CtL (In Cd linQ linP extM resM extOK extP resP compP)
def secP (p:Pg):Cd × Bool:=if (linP p).2=true then compP (linP p).1 else (⟨[],[],[]⟩,false)
theorem compSecI (p:Pg) (hok:progOK p=true):DC Tryz.prog 19 [.agg p.cells] [] (fun r h=>r = .tup [.agg (cdC (secP p).1),DB (secP p).2]∧h=[]):=by
 have hmx:=mx_eq
 have hli:=linearizeI p hok
 have hqz:=CtL.linQ_sz hok
 have hcm:=compProgIA (linQ p)
 have hlp:linP p=if fineP flowR p=true∧progOK (linQ p)=true then (linQ p,true) else (⟨[],[],[]⟩,false):=rfl
 generalize hR:(fun (r:D) (h:List (Option (List C)))=>r = .tup [.agg (cdC (secP p).1),DB (secP p).2]∧h=[])=R
 unfold secP at hR
 by_cases hc:fineP flowR p=true∧progOK (linQ p)=true
 ·rw [if_pos hc] at hlp
  rw [hlp] at hli hR
  have hlq:=prog_len hc.2
  have hcm:=hcm (by omega) (by omega)
  simp only [if_true] at hR
  generalize compP (linQ p)=Y at *
  clear hlp hqz
  generalize linQ p=q at *
  obtain ⟨⟨cv,ca,cl⟩,cb⟩:=Y
  obtain ⟨vs,ar,bd⟩:=p
  obtain ⟨qv,qa,qb⟩:=q
  simp only [cdC,ints] at hcm hR
  refine dcZ Tryz.func19 ?_
  simp only [go_sem]
  iterate 8 ((try (refine drvZ Tryz.func19 ?_;simp only [go_sem]));((with_reducible and_intros)<;>try exact sd);(try first | refine XK.p hli ok22 ?_ | refine XK.gp hli ok22 ?_ | refine XK.p hcm ok38 ?_ | refine XK.gp hcm ok38 ?_))
  subst hR
  refine RetOb.ofQ (fun _=>none) [] (.tup [.agg [.isl 1 (cv.map fun n=>[I64 n]),.isl 1 (ca.map fun n=>[I64 n]),.isl 5 (cl.map inX)],DB cb]) [] ?_ ⟨rfl,rfl⟩ (by simp)
  simp [enumL,DM,DMs,CM,CMs,HpOK,LowOK]
 ·rw [if_neg hc] at hlp
  rw [hlp] at hli hR
  obtain ⟨vs,ar,bd⟩:=p
  refine dcZ Tryz.func19 ?_
  simp only [go_sem]
  iterate 6 ((try (refine drvZ Tryz.func19 ?_;simp only [go_sem,List.map_nil]));((with_reducible and_intros)<;>try exact sd);(try first | refine XK.p hli ok22 ?_ | refine XK.gp hli ok22 ?_))
  exact RetOb.cd0 (by rw [← hR];exact ⟨rfl,rfl⟩)
theorem compSecS (p:Pg) (hok:progOK p=true):DC Tryz.prog 20 [.agg p.cells] [] (fun r h=>r = .tup [.agg (cdC (secP p).1),DB (secP p).2]∧h=[]):=by
 have hmx:=mx_eq
 have hli:=linearizeS p hok
 have hcm:=compProgS (linQ p)
 have hlp:linP p=if fineP flowR p=true∧progOK (linQ p)=true then (linQ p,true) else (⟨[],[],[]⟩,false):=rfl
 generalize hR:(fun (r:D) (h:List (Option (List C)))=>r = .tup [.agg (cdC (secP p).1),DB (secP p).2]∧h=[])=R
 unfold secP at hR
 by_cases hc:fineP flowR p=true∧progOK (linQ p)=true
 ·rw [if_pos hc] at hlp
  rw [hlp] at hli hR
  have hlq:=prog_len hc.2
  have hcm:=hcm (by omega) (by omega) (by have:=(body_of hc.2).2;omega)
  simp only [if_true] at hR
  generalize compP (linQ p)=Y at *
  clear hlp
  generalize linQ p=q at *
  obtain ⟨⟨cv,ca,cl⟩,cb⟩:=Y
  obtain ⟨vs,ar,bd⟩:=p
  obtain ⟨qv,qa,qb⟩:=q
  simp only [cdC,ints] at hcm hR
  refine dcZ Tryz.func20 ?_
  simp only [go_sem]
  iterate 8 ((try (refine drvZ Tryz.func20 ?_;simp only [go_sem]));((with_reducible and_intros)<;>try exact sd);(try first | refine XK.p hli ok57 ?_ | refine XK.gp hli ok57 ?_ | refine XK.p hcm ok32 ?_ | refine XK.gp hcm ok32 ?_))
  subst hR
  refine RetOb.ofQ (fun _=>none) [] (.tup [.agg [.isl 1 (cv.map fun n=>[I64 n]),.isl 1 (ca.map fun n=>[I64 n]),.isl 5 (cl.map inX)],DB cb]) [] ?_ ⟨rfl,rfl⟩ (by simp)
  simp [enumL,DM,DMs,CM,CMs,HpOK,LowOK]
 ·rw [if_neg hc] at hlp
  rw [hlp] at hli hR
  obtain ⟨vs,ar,bd⟩:=p
  refine dcZ Tryz.func20 ?_
  simp only [go_sem]
  iterate 6 ((try (refine drvZ Tryz.func20 ?_;simp only [go_sem,List.map_nil]));((with_reducible and_intros)<;>try exact sd);(try first | refine XK.p hli ok57 ?_ | refine XK.gp hli ok57 ?_))
  exact RetOb.cd0 (by rw [← hR];exact ⟨rfl,rfl⟩)
theorem restrictI0 (p q : Pg) (hp : p.vars.length ≤ 1000) (hp2 : p.arrays.length ≤ 1000) (hq : q.vars.length ≤ 1000) (hq2 : q.arrays.length ≤ 1000) (he : extOK p q = true) (h1 : 1 ≤ q.vars.length) :
 DC Tryz.prog 26 [.agg p.cells,.agg q.cells,.agg (Mm.cells ⟨[],[]⟩)] [] (fun r h=>r = .tup [.agg (Mm.cells ⟨[],[]⟩),DB false]∧h=[]):=by
 have hmx:=mx_eq
 have hx:=extendsI p q hp hp2 hq hq2 he
 have him:=isMemory q.vars q.arrays ⟨[],[]⟩ (by omega) (by omega)
 rw [show memOK q.vars q.arrays ⟨[],[]⟩=false by simp [memOK];omega] at him
 generalize hR:(fun (r:D) (h:List (Option (List C)))=>r = .tup [.agg (Mm.cells ⟨[],[]⟩),DB false]∧h=[])=R
 obtain ⟨vs,ar,bd⟩:=p
 obtain ⟨vs',ar',bd'⟩:=q
 simp only [ints,Mm.cells,isI,List.map_nil] at him
 refine dcZ Tryz.func26 ?_
 simp only [go_sem,Mm.cells]
 iterate 6 ((try (refine drvZ Tryz.func26 ?_;simp only [go_sem,List.map_nil,Mm.cells]));((with_reducible and_intros)<;>try exact sd);(try first | refine XK.p hx ok63 ?_ | refine XK.gp hx ok63 ?_ | refine XK.p him ok64 ?_ | refine XK.gp him ok64 ?_))
 refine RetOb.ofQ (fun _=>none) [] (.tup [.agg (Mm.cells ⟨[],[]⟩),DB false]) [] ?_ (by rw [← hR];exact ⟨rfl,rfl⟩) (by simp)
 simp [enumL,DM,DMs,CM,CMs,HpOK,LowOK,Mm.cells,isI]
theorem lawCSec (bs:List Int) (hb:Fits .u8 bs) (hl:bs.length≤mx):DC Tryz.prog 5 [bytesD bs] [] (fun d h=>d=DB true∧h=[]):=by
 have hmx:=mx_eq
 have hdr:=drawTypedRuns bs hb hl 0 1 (by decide)
 unfold bytesD
 unfold bytesD at hdr
 have ret:∀ hp:Hp,RetOb 0 (fun d h=>d=DB true∧h=[]) (DB true) hp:=fun hp=>RetOb.plain (d:=DB true) ⟨rfl,rfl⟩ rfl
 generalize hRR:(fun (d:D) (h:List (Option (List C)))=>d=DB true∧h=[])=R at ret ⊢
 by_cases hbig:1048576<bs.length
 ·have hz:((1048576:Int)<(bs.length:Int))=True:=eq_true (by omega)
  refine dcZ Tryz.func5 ?_
  simp only [go_sem,hz]
  iterate 3 ((try (refine drvZ Tryz.func5 ?_;simp only [go_sem,hz]));((with_reducible and_intros)<;>try exact sd))
  exact ret _
 have hz:((1048576:Int)<(bs.length:Int))=False:=eq_false (by omega)
 refine dcZ Tryz.func5 ?_
 simp only [go_sem,hz]
 iterate 3 ((try (refine drvZ Tryz.func5 ?_;simp only [go_sem,hz]));((with_reducible and_intros)<;>try exact sd))
 refine XK.callG [] hdr ok18 (fun i' x h=>by simp at h) (hbT ()) (fun d h' ⟨_,_,_,_,_,_,_,_,e⟩=>by subst e;simp) ?_
 rintro _ _ ⟨p,m,m',rfl,hp,hm,hm',hlo,rfl⟩ _
 have hok:=hp.ok
 have hln:=prog_len hok
 have hci:=compSecI p hok
 have hcs:=compSecS p hok
 have hfr:=releaseFree p (by omega) (by omega)
 have hmo:=memOK_of hm
 have hmo':=memOK_of hm'
 have hlp:linP p=if fineP flowR p=true∧progOK (linQ p)=true then (linQ p,true) else (⟨[],[],[]⟩,false):=rfl
 have hsp:secP p=(⟨[],[],[]⟩,false)∨((fineP flowR p=true∧progOK (linQ p)=true)∧CtL.lenL 5 (linQ p).body+1≤400∧secP p=(⟨(linQ p).vars,(linQ p).arrays,CtL.compL (linQ p)⟩,true)):=by
  unfold secP
  by_cases hc:fineP flowR p=true∧progOK (linQ p)=true
  ·rw [hlp,if_pos hc]
   rcases compP_cases (linQ p) with h | ⟨_,h2,h3⟩
   ·exact .inl h
   ·exact .inr ⟨hc,h2,h3⟩
  ·rw [hlp,if_neg hc];exact .inl rfl
 rcases hsp with hsp | ⟨⟨hf,hq⟩,hlen,hsp⟩
 ·rw [hsp] at hci hcs
  simp only [cdC,ints,List.map_nil] at hci hcs
  have hsame:=codeSame ⟨[],[],[]⟩ (by simp) (by simp) (by simp)
  simp only [cdC,ints,List.map_nil] at hsame
  clear hlp hsp
  obtain ⟨vs,ar,bd⟩:=p
  obtain ⟨va,arr⟩:=m
  obtain ⟨va',arr'⟩:=m'
  clear hdr
  iterate 14 ((try (refine drvZ Tryz.func5 ?_;simp only [go_sem,Mm.cells,trD,bne_self_eq_false,beq_self_eq_true]));((with_reducible and_intros)<;>try exact sd);(try first | refine XK.p hci ok19 ?_ | refine XK.gp hci ok19 ?_ | refine XK.p hcs ok20 ?_ | refine XK.gp hcs ok20 ?_ | refine XK.p hsame ok21 ?_ | refine XK.gp hsame ok21 ?_ | refine XK.p hfr ok17 ?_ | refine XK.gp hfr ok17 ?_))
  exact ret _
 rw [hsp] at hci hcs
 rw [if_pos ⟨hf,hq⟩] at hlp
 have hli:=linearizeI p hok
 rw [hlp] at hli
 have hqz:=CtL.linQ_sz hok
 have hlq:=prog_len hq
 have hlc:=CtL.compL_len hq
 have hcv:=CtL.comp_valid hq hlen
 have hsame:=codeSame ⟨(linQ p).vars,(linQ p).arrays,CtL.compL (linQ p)⟩ (by simp only;omega) (by simp only;omega) (by simp only;omega)
 have he:=CtL.linQ_ext hok hq
 have hea:=extendI p (linQ p) m (by omega) (by omega) (by omega) (by omega) he hmo
 have heb:=extendI p (linQ p) m' (by omega) (by omega) (by omega) (by omega) he hmo'
 have hxa:=runCodeI ⟨(linQ p).vars,(linQ p).arrays,CtL.compL (linQ p)⟩ (extM (linQ p).vars.length m) hcv
 have hxb:=runCodeI ⟨(linQ p).vars,(linQ p).arrays,CtL.compL (linQ p)⟩ (extM (linQ p).vars.length m') hcv
 have hrp:=runProgI p m (by omega) (by omega)
 have hsm:=runP_sm p m
 have hsx:=runP_sm (linQ p) (extM (linQ p).vars.length m)
 obtain ⟨hma,_,hpa,hre,_⟩:=CtL.lin_run hf hq hmo
 obtain ⟨hmb,_,_,_,_⟩:=CtL.lin_run hf hq hmo'
 obtain ⟨_,hmf,hme⟩:=CtL.lin_sim hf hq hmo
 have hout:=memOK_of (runL_ok hme (body_of hq).1).1
 have hrs:=restrictI p (linQ p) _ (by omega) (by omega) (by omega) (by omega) he hout
 have hrs0:=restrictI0 p (linQ p) (by omega) (by omega) (by omega) (by omega) he (by omega)
 have hrm:resM p.vars.length (runL 5 (extM (linQ p).vars.length m) (linQ p).body).1=(runL 5 m p.body).1:=by
  unfold resP at hre
  split at hre
  ·simpa using congrArg Prod.fst hre
  ·simp at hre
 rw [hrm] at hrs
 have htr:=CtL.lin_trace (a:=m) (b:=m') hf hq hmo hmo'
 have hca:=comp_law hq hlen hma
 have hcb:=comp_law hq hlen hmb
 have hxe:freeP p=true→CtL.xP (linQ p) (extM (linQ p).vars.length m)=CtL.xP (linQ p) (extM (linQ p).vars.length m'):=fun h=>CtL.xP_leak hq (htr h hlo)
 rw [runP_of hok hmo] at hrp hsm
 rw [hpa] at hca
 simp only at hrp hsm hca
 simp only [cdC,ints] at hci hcs hsame hxa hxb
 clear hlp hsp hdr hre hrm htr hpa hlo hout hmf hme hcv hlc hsx
 generalize freeP p=fe at *
 generalize runL 5 (extM (linQ p).vars.length m) (linQ p).body=r1 at *
 generalize CtL.xP (linQ p) (extM (linQ p).vars.length m)=T1 at *
 generalize CtL.xP (linQ p) (extM (linQ p).vars.length m')=T2 at *
 generalize runP (linQ p) (extM (linQ p).vars.length m')=r3 at *
 generalize extM (linQ p).vars.length m=ma at *
 generalize extM (linQ p).vars.length m'=mb at *
 generalize runL 5 m p.body=r2 at *
 generalize CtL.compL (linQ p)=B at *
 generalize linQ p=q at *
 obtain ⟨vs,ar,bd⟩:=p
 obtain ⟨va,arr⟩:=m
 obtain ⟨va',arr'⟩:=m'
 obtain ⟨qv,qa,qb⟩:=q
 obtain ⟨xa,xr⟩:=ma
 obtain ⟨ya,yr⟩:=mb
 obtain ⟨⟨u1,u2⟩,t1⟩:=r1
 obtain ⟨⟨w1,w2⟩,t2⟩:=r2
 obtain ⟨⟨z1,z2⟩,t3⟩:=r3
 simp only at hxa hxb hrp hsm hca hcb hrs hrs0 hea heb hci hcs hsame
 cases fe with
 | false =>
  iterate 14 ((try (refine drvZ Tryz.func5 ?_;simp only [go_sem,Mm.cells,trD,bne_self_eq_false,beq_self_eq_true]));((with_reducible and_intros)<;>try exact sd);(try first | refine XK.p hci ok19 ?_ | refine XK.gp hci ok19 ?_ | refine XK.p hcs ok20 ?_ | refine XK.gp hcs ok20 ?_ | refine XK.p hsame ok21 ?_ | refine XK.gp hsame ok21 ?_ | refine XK.p hfr ok17 ?_ | refine XK.gp hfr ok17 ?_))
  exact ret _
 | true =>
  have hxe:=hxe rfl
  subst hxe
  rcases hca with ⟨hst,hra,hta⟩ | ⟨hst,hra⟩
  ·rcases hcb with ⟨_,hrb,_⟩ | ⟨hsb,_⟩
   ·rw [hra] at hxa
    rw [hrb] at hxb
    have hts:=traceSame T1 T1 (by omega)
    rw [trSame_refl] at hts
    have hms:=memorySame ⟨w1,w2⟩ ⟨w1,w2⟩ (by simp only;omega) (by simp only;omega) (fun a h=>by have:=hsm.2.2.1 a h;omega)
    rw [memSame_refl] at hms
    clear hrs0 hra hrb
    iterate 40 ((try (refine drvZ Tryz.func5 ?_;simp only [go_sem,Mm.cells,trD,bne_self_eq_false,beq_self_eq_true]));((with_reducible and_intros)<;>try exact sd);(try first | refine XK.p hci ok19 ?_ | refine XK.gp hci ok19 ?_ | refine XK.p hcs ok20 ?_ | refine XK.gp hcs ok20 ?_ | refine XK.p hsame ok21 ?_ | refine XK.gp hsame ok21 ?_ | refine XK.p hfr ok17 ?_ | refine XK.gp hfr ok17 ?_ | refine XK.p hli ok22 ?_ | refine XK.gp hli ok22 ?_ | refine XK.p hea ok23 ?_ | refine XK.gp hea ok23 ?_ | refine XK.p heb ok23 ?_ | refine XK.gp heb ok23 ?_ | refine XK.p hxa ok24 ?_ | refine XK.gp hxa ok24 ?_ | refine XK.p hxb ok24 ?_ | refine XK.gp hxb ok24 ?_ | refine XK.p hrp ok25 ?_ | refine XK.gp hrp ok25 ?_ | refine XK.p hrs ok26 ?_ | refine XK.gp hrs ok26 ?_ | refine XK.p hts ok27 ?_ | refine XK.gp hts ok27 ?_ | refine XK.p hms ok28 ?_ | refine XK.gp hms ok28 ?_))
    exact ret _
   ·exact absurd hst hsb
  ·rcases hcb with ⟨hsb,_,_⟩ | ⟨_,hrb⟩
   ·exact absurd hsb hst
   ·rw [hra] at hxa
    rw [hrb] at hxb
    have hts:=traceSame [] [] (by simp)
    rw [trSame_refl] at hts
    have hms:=memorySame ⟨[],[]⟩ ⟨w1,w2⟩ (by simp) (by simp) (by simp)
    generalize memSame ⟨[],[]⟩ ⟨w1,w2⟩=g1 at hms
    clear hrs hra hrb
    iterate 40 ((try (refine drvZ Tryz.func5 ?_;simp only [go_sem,Mm.cells,trD,bne_self_eq_false,beq_self_eq_true]));((with_reducible and_intros)<;>try exact sd);(try first | refine XK.p hci ok19 ?_ | refine XK.gp hci ok19 ?_ | refine XK.p hcs ok20 ?_ | refine XK.gp hcs ok20 ?_ | refine XK.p hsame ok21 ?_ | refine XK.gp hsame ok21 ?_ | refine XK.p hfr ok17 ?_ | refine XK.gp hfr ok17 ?_ | refine XK.p hli ok22 ?_ | refine XK.gp hli ok22 ?_ | refine XK.p hea ok23 ?_ | refine XK.gp hea ok23 ?_ | refine XK.p heb ok23 ?_ | refine XK.gp heb ok23 ?_ | refine XK.p hxa ok24 ?_ | refine XK.gp hxa ok24 ?_ | refine XK.p hxb ok24 ?_ | refine XK.gp hxb ok24 ?_ | refine XK.p hrp ok25 ?_ | refine XK.gp hrp ok25 ?_ | refine XK.p hrs0 ok26 ?_ | refine XK.gp hrs0 ok26 ?_ | refine XK.p hts ok27 ?_ | refine XK.gp hts ok27 ?_ | refine XK.p hms ok28 ?_ | refine XK.gp hms ok28 ?_))
    exact ret _
end Go.Proofs.YtmjkgjkkpaephaaGreat.CtD
