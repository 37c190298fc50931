/- Contracts of functions of the program, one behind the other, as plain data: what each call returns and which blocks it leaves. -/
import Derived.Test.YtfkhahkclgejnaaGreatDoorHFacts
import Derived.Test.YtfkhahkclgejnaaGreatDoorHAj
import Derived.Test.YtfkhahkclgejnaaGreatDoorHAk
import Derived.Test.YtfkhahkclgejnaaGreatDoorHAl
import Derived.Test.YtfkhahkclgejnaaGreatDoorHAm
import Derived.Test.YtfkhahkclgejnaaGreatDoorHAn
set_option linter.unusedVariables false
set_option linter.unusedSimpArgs false
set_option linter.unusedSectionVars false
set_option maxHeartbeats 16000000
set_option maxRecDepth 100000
namespace Go.Proofs.YtfkhahkclgejnaaGreatDoor.CtD
open Go Go.CT CtF CtR
variable [Yn]
theorem bstr_list (l:List UInt8):(bstr l).data.toList=l:=by simp [bstr]
theorem bstr_sub (l:List UInt8) (a b:Nat):(bstr l).extract a b=bstr ((l.take b).drop a):=by
 unfold bstr
 apply ByteArray.ext
 simp [ByteArray.data_extract,List.extract_toArray,List.extract_eq_take_drop,List.drop_take]
def sC (L:List (List UInt8)):List C:=L.map fun s => .v (.string (bstr s))
theorem sC_len (L:List (List UInt8)):(sC L).length=L.length:=by simp [sC]
theorem sC_kf (L:List (List UInt8)):∀ c ∈ sC L,kf c=true:=by
 intro c hc
 obtain ⟨x,_,rfl⟩:=List.mem_map.1 hc
 rfl
theorem sC_flat (L:List (List UInt8)):(L.map fun s=>[C.v (.string (bstr s))]).flatten=sC L:=by
 unfold sC
 induction L with
 | nil=>rfl
 | cons a r ih=>simp [ih]
theorem CMs_s {hT hS:Hp} {r:Nat→Option Nat} {fz:List Nat} (L:List (List UInt8)):CMs hT r hS fz (sC L) (sC L)=True:=eq_true (CMs.kf (sC_kf L))
def CutI (c:UInt8) (s:List UInt8) (i fr:Nat) (L:List (List UInt8)):Prop :=
 (i=s.length+1∧L=splC c s∧L.length≤i)∨(i≤s.length∧fr≤i∧L.length≤i∧L++preC ((s.take i).drop fr) (splC c (s.drop i))=splC c s)
theorem cutI0 (c:UInt8) (s:List UInt8):CutI c s 0 0 [] := .inr ⟨Nat.zero_le _,Nat.le_refl _,Nat.le_refl _,by simp [preC_nil]⟩
theorem cutI_end {c:UInt8} {s:List UInt8} {fr:Nat} {L:List (List UInt8)} (h:CutI c s s.length fr L):CutI c s (s.length+1) (s.length+1) (L++[(s.take s.length).drop fr]):=by
 rcases h with ⟨h,_⟩ | ⟨_,h1,h2,h3⟩
 ·omega
 ·refine .inl ⟨rfl,?_,by simp;omega⟩
  rw [← h3];simp [splC,preC]
theorem cutI_hit {c:UInt8} {s:List UInt8} {i fr:Nat} {L:List (List UInt8)} (h:CutI c s i fr L) (hi:i<s.length) (hc:s.getD i 0=c):CutI c s (i+1) (i+1) (L++[(s.take i).drop fr]):=by
 rcases h with ⟨h,_⟩ | ⟨_,h1,h2,h3⟩
 ·omega
 ·refine .inr ⟨hi,Nat.le_refl _,by simp;omega,?_⟩
  have e:s.drop i=c :: s.drop (i+1):=by
   rw [List.drop_eq_getElem_cons hi]
   congr 1
   rw [List.getD_eq_getElem?_getD,List.getElem?_eq_getElem hi] at hc
   simpa using hc
  rw [e,splC,if_pos rfl] at h3
  rw [← h3]
  have e2:(s.take (i+1)).drop (i+1)=[]:=by simp
  rw [e2,preC_nil]
  simp [preC]
theorem cutI_on {c:UInt8} {s:List UInt8} {i fr:Nat} {L:List (List UInt8)} (h:CutI c s i fr L) (hi:i<s.length) (hc:s.getD i 0 ≠ c):CutI c s (i+1) fr L:=by
 rcases h with ⟨h,_⟩ | ⟨_,h1,h2,h3⟩
 ·omega
 ·refine .inr ⟨hi,by omega,by omega,?_⟩
  have ha:s[i]? = some (s.getD i 0):=by rw [List.getD_eq_getElem?_getD,List.getElem?_eq_getElem hi];simp
  have e:s.drop i=s.getD i 0 :: s.drop (i+1):=by
   rw [List.drop_eq_getElem_cons hi]
   congr 1
   rw [List.getElem?_eq_getElem hi] at ha
   simpa using ha
  rw [e,splC,if_neg hc,preC_preC _ _ (splC_ne c _)] at h3
  rw [← h3]
  congr 2
  rw [List.take_add_one,ha]
  simp only [Option.toList_some]
  rw [List.drop_append_of_le_length (by simp;omega)]
theorem u8_eq (a b:UInt8):((a.toNat:Int) == (b.toNat:Int))=(a == b):=by
 rw [Bool.eq_iff_iff]
 simp only [beq_iff_eq]
 exact ⟨fun h=>UInt8.toNat_inj.1 (by omega),fun h=>by rw [h]⟩
theorem l17CutS (s:List UInt8) (c:UInt8) (hl:s.length≤4294967280):DC Tryz.prog 17 [DS (bstr s),DI .u8 c.toNat] [] (fun r h=>r = .c (strD (splC c s))∧h=[]):=by
 have hmx:=mx_eq
 generalize hR:(fun (r:D) (h:List (Option (List C)))=>r = .c (strD (splC c s))∧h=[])=R
 refine dcZ Tryz.func17 ?_
 simp only [go_sem]
 iterate 3 ((try (refine drvZ Tryz.func17 ?_;simp only [go_sem]));((with_reducible and_intros)<;>try exact sd))
 have hsz:=bstr_size s
 have hls:=bstr_list s
 refine Go.loopQ (fun x:Nat × Nat × List (List UInt8)=>[(0,DS (bstr s)),(1,DI .u8 c.toNat),(5,.c (.msl 65 1 0 x.2.2.length)),(6,DI .i64 x.2.1),(7,DI .i64 x.1)]) (fun x=>[(65,some (sC x.2.2))]) 1024 (fun x=>CutI c s x.1 x.2.1 x.2.2) (fun x=>s.length+2 - x.1) ?_ (0,0,[]) (fun j=>if j=65 then some 64 else some j) [] _ (cutI0 c s) ?_
 ·rintro ⟨i,fr,L⟩ hI again
  simp only at hI again ⊢
  have hsl:=sC_len L
  rcases Nat.lt_trichotomy i s.length with hlt | heq | hgt
  ·have hfr:fr≤i∧L.length≤i:=by
    rcases hI with ⟨h,_⟩ | ⟨_,h1,h2,_⟩
    ·omega
    ·exact ⟨h1,h2⟩
   have g1:((i:Int)≤(s.length:Int))=True:=eq_true (by omega)
   have g2:((i:Int) == (s.length:Int))=false:=by simp;omega
   have g3:(((s.getD i 0).toNat:Int) == (c.toNat:Int))=(s.getD i 0 == c):=u8_eq _ _
   by_cases hc:s.getD i 0=c
   ·have g4:(s.getD i 0 == c)=true:=by rw [beq_iff_eq];exact hc
    have hn:=cutI_hit hI hlt hc
    have hsub:=bstr_sub s fr i
    generalize (s.take i).drop fr=W at *
    have hsn:sC (L++[W])=sC L++[.v (.string (bstr W))]:=by simp [sC]
    have hln:(L++[W]).length=L.length+1:=by simp
    refine drvL Tryz.func17 ?_
    simp only [go_sem,hsz,g1]
    iterate 5 ((try (refine drvZ Tryz.func17 ?_;simp only [go_sem,hsz,hls,hlt,g1,g2,g3,g4,hsl,hsub]));((with_reducible and_intros)<;>try exact sd))
    refine again (i+1,i+1,L++[W]) (fun j=>if j=65 then some 2368 else some j) [] _ hn (by omega) ?_
    simp only [go_sem,TmOK,DM,DMs,CM,CMs,forall_eq,exists_eq_left,Mq,HpOK,LowOK,hsn,hln]
    simp
    exact CMs.app (CMs.kf (sC_kf L)) (by simp [CMs,CM])
   ·have g4:(s.getD i 0 == c)=false:=by simp only [beq_eq_false_iff_ne,ne_eq];exact hc
    have hn:=cutI_on hI hlt hc
    refine drvL Tryz.func17 ?_
    simp only [go_sem,hsz,g1]
    iterate 5 ((try (refine drvZ Tryz.func17 ?_;simp only [go_sem,hsz,hls,hlt,g1,g2,g3,g4,hsl]));((with_reducible and_intros)<;>try exact sd))
    refine again (i+1,fr,L) some [] _ hn (by omega) ?_
    simp only [go_sem,TmOK,DM,DMs,CM,CMs,forall_eq,exists_eq_left,Mq,HpOK,LowOK]
    simp [CMs_s]
  ·subst heq
   have hfr:fr≤s.length∧L.length≤s.length:=by
    rcases hI with ⟨h,_⟩ | ⟨_,h1,h2,_⟩
    ·omega
    ·exact ⟨h1,h2⟩
   have g1:((s.length:Int)≤(s.length:Int))=True:=eq_true (by omega)
   have hn:=cutI_end hI
   have hsub:=bstr_sub s fr s.length
   generalize (s.take s.length).drop fr=W at *
   have hsn:sC (L++[W])=sC L++[.v (.string (bstr W))]:=by simp [sC]
   have hln:(L++[W]).length=L.length+1:=by simp
   refine drvL Tryz.func17 ?_
   simp only [go_sem,hsz,g1,beq_self_eq_true]
   iterate 5 ((try (refine drvZ Tryz.func17 ?_;simp only [go_sem,hsz,hls,g1,hsl,hsub,beq_self_eq_true]));((with_reducible and_intros)<;>try exact sd))
   refine again (s.length+1,s.length+1,L++[W]) (fun j=>if j=65 then some 2368 else some j) [] _ hn (by omega) ?_
   simp only [go_sem,TmOK,DM,DMs,CM,CMs,forall_eq,exists_eq_left,Mq,HpOK,LowOK,hsn,hln]
   simp
   exact CMs.app (CMs.kf (sC_kf L)) (by simp [CMs,CM])
  ·obtain ⟨hi,hL,hle⟩:i=s.length+1∧L=splC c s∧L.length≤i:=by
    rcases hI with h | ⟨h,_⟩
    ·exact h
    ·omega
   have g1:((i:Int)≤(s.length:Int))=False:=eq_false (by omega)
   clear again
   refine drvL Tryz.func17 ?_
   simp only [go_sem,hsz,g1]
   iterate 3 ((try (refine drvZ Tryz.func17 ?_;simp only [go_sem,hsz,g1]));((with_reducible and_intros)<;>try exact sd))
   rw [← hR]
   subst hL
   exact RetOb.ofQ (fun _=>none) [65] (.c (strD (splC c s))) [] (by
    simp [strD,enumL,hOf,DM,DMs,CM,CMs,HpOK,LowOK,upd,kf,sC_flat]) ⟨rfl,rfl⟩ (by simp)
 ·simp only [go_sem,TmOK,DM,DMs,CM,CMs,forall_eq,exists_eq_left,Mq,HpOK,LowOK]
  simp [CMs,sC]
theorem take_all {r:List UInt8} {p:UInt8→Bool} {i:Nat} {d:UInt8} (h:(r.take i).all p=true) (hd:r[i]? = some d):(r.take (i+1)).all p=p d:=by
 rw [List.take_add_one,hd]
 simp [List.all_append,h]
def NumI (r:List UInt8) (i n:Nat):Prop:=i≤r.length∧(r.take i).all isDig=true∧n=val (r.take i)∧n<10 ^ i
theorem l17NumS (s:List UInt8) (hl:s.length≤4294967280):DC Tryz.prog 53 [DS (bstr s)] [] (fun r h=>r = .tup [DI .i64 (numS s).1,DB (numS s).2]∧h=[]):=by
 have hmx:=mx_eq
 have ret:∀ (v:Int) (b:Bool) (hp:Hp),(v,b)=numS s→RetOb 0 (fun r h=>r = .tup [DI .i64 (numS s).1,DB (numS s).2]∧h=[]) (.tup [DI .i64 v,DB b]) hp:=fun v b hp e=>by
  rw [← e]
  exact RetOb.ofQ (fun _=>none) [] (.tup [DI .i64 v,DB b]) [] (by simp [enumL,hOf,DM,DMs,CM,CMs,HpOK,LowOK,upd,kf]) ⟨rfl,rfl⟩ (by simp)
 generalize hR:(fun (r:D) (h:List (Option (List C)))=>r = .tup [DI .i64 (numS s).1,DB (numS s).2]∧h=[])=R at ret ⊢
 have hsz:=bstr_size s
 have hls:=bstr_list s
 by_cases hneg:s.length ≠ 0∧s.getD 0 0=45
 ·have hnum:numS s=numU true (s.drop 1):=by rw [numS,if_pos hneg]
  have a1:0<s.length:=by omega
  have i1:((0:Int)<(s.length:Int))=True:=eq_true (by omega)
  have a2:(((s.getD 0 0).toNat:Int) == 45)=true:=by rw [hneg.2];rfl
  have a3:(bstr s).extract 1 s.length=bstr (s.drop 1):=by rw [bstr_sub,List.take_length]
  have a4:1≤s.length:=a1
  have hrl:(s.drop 1).length≤4294967280:=by simp;omega
  generalize s.drop 1=r at *
  have hszr:=bstr_size r
  have hlsr:=bstr_list r
  by_cases c1:r.length=0
  ·have e1:((r.length:Int) == 0)=true:=by rw [beq_iff_eq];omega
   refine dcZ Tryz.func53 ?_
   simp only [go_sem,hsz,hls,a1,i1,a2,a3,a4,hszr,hlsr,e1]
   iterate 10 ((try (refine drvZ Tryz.func53 ?_;simp only [go_sem,hsz,hls,a1,i1,a2,a3,a4,hszr,hlsr,e1]));((with_reducible and_intros)<;>try exact sd))
   exact ret _ _ _ (by rw [hnum,numU,if_pos (.inl c1)])
  have e1:((r.length:Int) == 0)=false:=by rw [beq_eq_false_iff_ne];omega
  by_cases c2:17<r.length
  ·have e2:((17:Int)<(r.length:Int))=True:=eq_true (by omega)
   refine dcZ Tryz.func53 ?_
   simp only [go_sem,hsz,hls,a1,i1,a2,a3,a4,hszr,hlsr,e1,e2]
   iterate 10 ((try (refine drvZ Tryz.func53 ?_;simp only [go_sem,hsz,hls,a1,i1,a2,a3,a4,hszr,hlsr,e1,e2]));((with_reducible and_intros)<;>try exact sd))
   exact ret _ _ _ (by rw [hnum,numU,if_pos (.inr (.inl c2))])
  have e2:((17:Int)<(r.length:Int))=False:=eq_false (by omega)
  have p1:0<r.length:=by omega
  by_cases c3:r.getD 0 0=48
  ·have e3:(((r.getD 0 0).toNat:Int) == 48)=true:=by rw [c3];rfl
   by_cases c4:1<r.length
   ·have e4:((1:Int)<(r.length:Int))=True:=eq_true (by omega)
    refine dcZ Tryz.func53 ?_
    simp only [go_sem,hsz,hls,a1,i1,a2,a3,a4,hszr,hlsr,e1,e2,e3,e4,p1]
    iterate 10 ((try (refine drvZ Tryz.func53 ?_;simp only [go_sem,hsz,hls,a1,i1,a2,a3,a4,hszr,hlsr,e1,e2,e3,e4,p1]));((with_reducible and_intros)<;>try exact sd))
    exact ret _ _ _ (by rw [hnum,numU,if_pos (.inr (.inr ⟨c3,.inl c4⟩))])
   have e4:((1:Int)<(r.length:Int))=False:=eq_false (by omega)
   refine dcZ Tryz.func53 ?_
   simp only [go_sem,hsz,hls,a1,i1,a2,a3,a4,hszr,hlsr,e1,e2,e3,e4,p1]
   iterate 10 ((try (refine drvZ Tryz.func53 ?_;simp only [go_sem,hsz,hls,a1,i1,a2,a3,a4,hszr,hlsr,e1,e2,e3,e4,p1]));((with_reducible and_intros)<;>try exact sd))
   exact ret _ _ _ (by rw [hnum,numU,if_pos (.inr (.inr ⟨c3,.inr rfl⟩))])
  have e3:(((r.getD 0 0).toNat:Int) == 48)=false:=by
   have:=u8_eq (r.getD 0 0) 48
   rw [show ((48:UInt8).toNat:Int)=48 from rfl] at this
   rw [this,beq_eq_false_iff_ne];exact c3
  have hck:¬ (r.length=0∨17<r.length∨(r.getD 0 0=48∧(1<r.length∨true=true))):=by
   rintro (q | q | ⟨q,_⟩)
   ·omega
   ·omega
   ·exact c3 q
  refine dcZ Tryz.func53 ?_
  simp only [go_sem,hsz,hls,a1,i1,a2,a3,a4,hszr,hlsr,e1,e2,e3,p1]
  iterate 10 ((try (refine drvZ Tryz.func53 ?_;simp only [go_sem,hsz,hls,a1,i1,a2,a3,a4,hszr,hlsr,e1,e2,e3,p1]));((with_reducible and_intros)<;>try exact sd))
  refine Go.loopQ (fun x:Nat × Nat=>[(0,DS (bstr r)),(4,DB true),(5,DI .i64 x.2),(6,DI .i64 x.1)]) (fun _=>[]) 1024 (fun x=>NumI r x.1 x.2) (fun x=>r.length - x.1) ?_ (0,0) some [] _ ⟨Nat.zero_le _,by simp,by simp [val],by simp⟩ ?_
  ·rintro ⟨i,n⟩ ⟨hi,hd,hn,hb⟩ again
   simp only at hi hd hn hb again ⊢
   rcases Nat.lt_or_ge i r.length with hlt | hge
   ·obtain ⟨d,hx⟩:∃ d,r[i]? = some d:=⟨r[i],by simp [hlt]⟩
    have hgd:r.getD i 0=d:=by rw [List.getD_eq_getElem?_getD,hx];rfl
    have hta:=take_all hd hx
    have hmem:=List.mem_of_getElem? hx
    have hpw:10 ^ i≤10 ^ 16:=Nat.pow_le_pow_right (by omega) (by omega)
    have hvs:val (r.take (i+1))=n * 10+(d.toNat - 48):=by rw [List.take_add_one,hx,hn];exact val_snoc _ _
    have g1:(i:Int)<(r.length:Int):=by omega
    cases hq:isDig d with
    | true =>
     rw [hq] at hta
     simp only [isDig,Bool.and_eq_true,decide_eq_true_eq] at hq
     have h48:48≤d.toNat:=UInt8.le_iff_toNat_le.1 hq.1
     have h57:d.toNat≤57:=UInt8.le_iff_toNat_le.1 hq.2
     have g2:((d.toNat:Int)<48)=False:=eq_false (by omega)
     have g3:(57<(d.toNat:Int))=False:=eq_false (by omega)
     have hnx:((n * 10+(d.toNat - 48):Nat):Int)=(n:Int) * 10+((d.toNat:Int) - 48):=by omega
     have hinv:NumI r (i+1) (n * 10+(d.toNat - 48)):=⟨hlt,hta,hvs.symm,by rw [Nat.pow_succ];omega⟩
     refine drvL Tryz.func53 ?_
     simp only [go_sem,hszr,hlt]
     iterate 8 ((try (refine drvZ Tryz.func53 ?_;simp only [go_sem,hszr,hlsr,hlt,hgd,g2,g3]));((with_reducible and_intros)<;>try exact sd))
     refine again (i+1,n * 10+(d.toNat - 48)) some [] _ hinv (by omega) ?_
     simp only [go_sem,TmOK,DM,DMs,CM,CMs,forall_eq,exists_eq_left,Mq,HpOK,LowOK,hnx]
     try simp
    | false =>
     have hnd:r.all isDig=false:=by
      cases h:r.all isDig with
      | false=>rfl
      | true=>rw [List.all_eq_true.1 h d hmem] at hq;cases hq
     have hno:numU true r=(0,false):=by rw [numU,if_neg hck,if_neg (by rw [hnd];simp)]
     by_cases q1:(d.toNat:Int)<48
     ·have g2:((d.toNat:Int)<48)=True:=eq_true q1
      refine drvL Tryz.func53 ?_
      simp only [go_sem,hszr,hlt]
      iterate 8 ((try (refine drvZ Tryz.func53 ?_;simp only [go_sem,hszr,hlsr,hlt,hgd,g2]));((with_reducible and_intros)<;>try exact sd))
      exact ret _ _ _ (by rw [hnum,hno])
     ·have g2:((d.toNat:Int)<48)=False:=eq_false q1
      have g3:(57<(d.toNat:Int))=True:=eq_true (by
       rcases Nat.lt_or_ge 57 d.toNat with h | h
       ·omega
       ·exfalso
        have:isDig d=true:=by
         simp only [isDig,Bool.and_eq_true,decide_eq_true_eq]
         exact ⟨UInt8.le_iff_toNat_le.2 (show 48≤d.toNat by omega),UInt8.le_iff_toNat_le.2 (show d.toNat≤57 from h)⟩
        rw [this] at hq;cases hq)
      refine drvL Tryz.func53 ?_
      simp only [go_sem,hszr,hlt]
      iterate 8 ((try (refine drvZ Tryz.func53 ?_;simp only [go_sem,hszr,hlsr,hlt,hgd,g2,g3]));((with_reducible and_intros)<;>try exact sd))
      exact ret _ _ _ (by rw [hnum,hno])
   ·obtain rfl:i=r.length:=by omega
    rw [List.take_length] at hd hn
    have hlt:¬ r.length<r.length:=by omega
    have hpw:10 ^ r.length≤10 ^ 17:=Nat.pow_le_pow_right (by omega) (by omega)
    have hyes:numU true r=((if true=true then -(val r:Int) else (val r:Int)),true):=by rw [numU,if_neg hck,if_pos hd]
    have hng:(0:Int) - (n:Int) = -(n:Int):=by omega
    clear again
    refine drvL Tryz.func53 ?_
    simp only [go_sem,hszr,hlt]
    iterate 8 ((try (refine drvZ Tryz.func53 ?_;simp only [go_sem,hszr,hlt,hng]));((with_reducible and_intros)<;>try exact sd))
    exact ret _ _ _ (by rw [hnum,hyes,hn];simp)
  ·simp only [go_sem,TmOK,DM,DMs,CM,CMs,forall_eq,exists_eq_left,Mq,HpOK,LowOK]
   try simp
 ·have hnum:numS s=numU false s:=by rw [numS,if_neg hneg]
  generalize hs:s=r at *
  by_cases a0:r.length=0
  ·obtain rfl:r=[]:=List.eq_nil_of_length_eq_zero a0
   have hz0:(bstr ([]:List UInt8)).size=0:=rfl
   refine dcZ Tryz.func53 ?_
   simp only [go_sem,hz0]
   iterate 10 ((try (refine drvZ Tryz.func53 ?_;simp only [go_sem,hz0]));((with_reducible and_intros)<;>try exact sd))
   exact ret _ _ _ (by rw [hnum,numU,if_pos (.inl a0)])
  have a1:0<r.length:=by omega
  have i1:((0:Int)<(r.length:Int))=True:=eq_true (by omega)
  have a2:(((r.getD 0 0).toNat:Int) == 45)=false:=by
   have:=u8_eq (r.getD 0 0) 45
   rw [show ((45:UInt8).toNat:Int)=45 from rfl] at this
   rw [this,beq_eq_false_iff_ne];exact fun q=>hneg ⟨a0,q⟩
  have hszr:=bstr_size r
  have hlsr:=bstr_list r
  have c1:¬ r.length=0:=a0
  have e1:((r.length:Int) == 0)=false:=by rw [beq_eq_false_iff_ne];omega
  by_cases c2:17<r.length
  ·have e2:((17:Int)<(r.length:Int))=True:=eq_true (by omega)
   refine dcZ Tryz.func53 ?_
   simp only [go_sem,a1,i1,a2,hszr,hlsr,e1,e2]
   iterate 10 ((try (refine drvZ Tryz.func53 ?_;simp only [go_sem,a1,i1,a2,hszr,hlsr,e1,e2]));((with_reducible and_intros)<;>try exact sd))
   exact ret _ _ _ (by rw [hnum,numU,if_pos (.inr (.inl c2))])
  have e2:((17:Int)<(r.length:Int))=False:=eq_false (by omega)
  have p1:0<r.length:=by omega
  by_cases c3:r.getD 0 0=48
  ·have e3:(((r.getD 0 0).toNat:Int) == 48)=true:=by rw [c3];rfl
   by_cases c4:1<r.length
   ·have e4:((1:Int)<(r.length:Int))=True:=eq_true (by omega)
    refine dcZ Tryz.func53 ?_
    simp only [go_sem,a1,i1,a2,hszr,hlsr,e1,e2,e3,e4,p1]
    iterate 10 ((try (refine drvZ Tryz.func53 ?_;simp only [go_sem,a1,i1,a2,hszr,hlsr,e1,e2,e3,e4,p1]));((with_reducible and_intros)<;>try exact sd))
    exact ret _ _ _ (by rw [hnum,numU,if_pos (.inr (.inr ⟨c3,.inl c4⟩))])
   have e4:((1:Int)<(r.length:Int))=False:=eq_false (by omega)
   have hck:¬ (r.length=0∨17<r.length∨(r.getD 0 0=48∧(1<r.length∨false=true))):=by
    rintro (q | q | ⟨_,q | q⟩)
    ·omega
    ·omega
    ·omega
    ·cases q
   refine dcZ Tryz.func53 ?_
   simp only [go_sem,a1,i1,a2,hszr,hlsr,e1,e2,e3,e4,p1]
   iterate 10 ((try (refine drvZ Tryz.func53 ?_;simp only [go_sem,a1,i1,a2,hszr,hlsr,e1,e2,e3,e4,p1]));((with_reducible and_intros)<;>try exact sd))
   refine Go.loopQ (fun x:Nat × Nat=>[(0,DS (bstr r)),(4,DB false),(5,DI .i64 x.2),(6,DI .i64 x.1)]) (fun _=>[]) 1024 (fun x=>NumI r x.1 x.2) (fun x=>r.length - x.1) ?_ (0,0) some [] _ ⟨Nat.zero_le _,by simp,by simp [val],by simp⟩ ?_
   ·rintro ⟨i,n⟩ ⟨hi,hd,hn,hb⟩ again
    simp only at hi hd hn hb again ⊢
    rcases Nat.lt_or_ge i r.length with hlt | hge
    ·obtain ⟨d,hx⟩:∃ d,r[i]? = some d:=⟨r[i],by simp [hlt]⟩
     have hgd:r.getD i 0=d:=by rw [List.getD_eq_getElem?_getD,hx];rfl
     have hta:=take_all hd hx
     have hmem:=List.mem_of_getElem? hx
     have hpw:10 ^ i≤10 ^ 16:=Nat.pow_le_pow_right (by omega) (by omega)
     have hvs:val (r.take (i+1))=n * 10+(d.toNat - 48):=by rw [List.take_add_one,hx,hn];exact val_snoc _ _
     have g1:(i:Int)<(r.length:Int):=by omega
     cases hq:isDig d with
     | true =>
      rw [hq] at hta
      simp only [isDig,Bool.and_eq_true,decide_eq_true_eq] at hq
      have h48:48≤d.toNat:=UInt8.le_iff_toNat_le.1 hq.1
      have h57:d.toNat≤57:=UInt8.le_iff_toNat_le.1 hq.2
      have g2:((d.toNat:Int)<48)=False:=eq_false (by omega)
      have g3:(57<(d.toNat:Int))=False:=eq_false (by omega)
      have hnx:((n * 10+(d.toNat - 48):Nat):Int)=(n:Int) * 10+((d.toNat:Int) - 48):=by omega
      have hinv:NumI r (i+1) (n * 10+(d.toNat - 48)):=⟨hlt,hta,hvs.symm,by rw [Nat.pow_succ];omega⟩
      refine drvL Tryz.func53 ?_
      simp only [go_sem,hszr,hlt]
      iterate 8 ((try (refine drvZ Tryz.func53 ?_;simp only [go_sem,hszr,hlsr,hlt,hgd,g2,g3]));((with_reducible and_intros)<;>try exact sd))
      refine again (i+1,n * 10+(d.toNat - 48)) some [] _ hinv (by omega) ?_
      simp only [go_sem,TmOK,DM,DMs,CM,CMs,forall_eq,exists_eq_left,Mq,HpOK,LowOK,hnx]
      try simp
     | false =>
      have hnd:r.all isDig=false:=by
       cases h:r.all isDig with
       | false=>rfl
       | true=>rw [List.all_eq_true.1 h d hmem] at hq;cases hq
      have hno:numU false r=(0,false):=by rw [numU,if_neg hck,if_neg (by rw [hnd];simp)]
      by_cases q1:(d.toNat:Int)<48
      ·have g2:((d.toNat:Int)<48)=True:=eq_true q1
       refine drvL Tryz.func53 ?_
       simp only [go_sem,hszr,hlt]
       iterate 8 ((try (refine drvZ Tryz.func53 ?_;simp only [go_sem,hszr,hlsr,hlt,hgd,g2]));((with_reducible and_intros)<;>try exact sd))
       exact ret _ _ _ (by rw [hnum,hno])
      ·have g2:((d.toNat:Int)<48)=False:=eq_false q1
       have g3:(57<(d.toNat:Int))=True:=eq_true (by
        rcases Nat.lt_or_ge 57 d.toNat with h | h
        ·omega
        ·exfalso
         have:isDig d=true:=by
          simp only [isDig,Bool.and_eq_true,decide_eq_true_eq]
          exact ⟨UInt8.le_iff_toNat_le.2 (show 48≤d.toNat by omega),UInt8.le_iff_toNat_le.2 (show d.toNat≤57 from h)⟩
         rw [this] at hq;cases hq)
       refine drvL Tryz.func53 ?_
       simp only [go_sem,hszr,hlt]
       iterate 8 ((try (refine drvZ Tryz.func53 ?_;simp only [go_sem,hszr,hlsr,hlt,hgd,g2,g3]));((with_reducible and_intros)<;>try exact sd))
       exact ret _ _ _ (by rw [hnum,hno])
    ·obtain rfl:i=r.length:=by omega
     rw [List.take_length] at hd hn
     have hlt:¬ r.length<r.length:=by omega
     have hpw:10 ^ r.length≤10 ^ 17:=Nat.pow_le_pow_right (by omega) (by omega)
     have hyes:numU false r=((if false=true then -(val r:Int) else (val r:Int)),true):=by rw [numU,if_neg hck,if_pos hd]
     have hng:(0:Int) - (n:Int) = -(n:Int):=by omega
     clear again
     refine drvL Tryz.func53 ?_
     simp only [go_sem,hszr,hlt]
     iterate 8 ((try (refine drvZ Tryz.func53 ?_;simp only [go_sem,hszr,hlt,hng]));((with_reducible and_intros)<;>try exact sd))
     exact ret _ _ _ (by rw [hnum,hyes,hn];simp)
   ·simp only [go_sem,TmOK,DM,DMs,CM,CMs,forall_eq,exists_eq_left,Mq,HpOK,LowOK]
    try simp
  have e3:(((r.getD 0 0).toNat:Int) == 48)=false:=by
   have:=u8_eq (r.getD 0 0) 48
   rw [show ((48:UInt8).toNat:Int)=48 from rfl] at this
   rw [this,beq_eq_false_iff_ne];exact c3
  have hck:¬ (r.length=0∨17<r.length∨(r.getD 0 0=48∧(1<r.length∨false=true))):=by
   rintro (q | q | ⟨q,_⟩)
   ·omega
   ·omega
   ·exact c3 q
  refine dcZ Tryz.func53 ?_
  simp only [go_sem,a1,i1,a2,hszr,hlsr,e1,e2,e3,p1]
  iterate 10 ((try (refine drvZ Tryz.func53 ?_;simp only [go_sem,a1,i1,a2,hszr,hlsr,e1,e2,e3,p1]));((with_reducible and_intros)<;>try exact sd))
  refine Go.loopQ (fun x:Nat × Nat=>[(0,DS (bstr r)),(4,DB false),(5,DI .i64 x.2),(6,DI .i64 x.1)]) (fun _=>[]) 1024 (fun x=>NumI r x.1 x.2) (fun x=>r.length - x.1) ?_ (0,0) some [] _ ⟨Nat.zero_le _,by simp,by simp [val],by simp⟩ ?_
  ·rintro ⟨i,n⟩ ⟨hi,hd,hn,hb⟩ again
   simp only at hi hd hn hb again ⊢
   rcases Nat.lt_or_ge i r.length with hlt | hge
   ·obtain ⟨d,hx⟩:∃ d,r[i]? = some d:=⟨r[i],by simp [hlt]⟩
    have hgd:r.getD i 0=d:=by rw [List.getD_eq_getElem?_getD,hx];rfl
    have hta:=take_all hd hx
    have hmem:=List.mem_of_getElem? hx
    have hpw:10 ^ i≤10 ^ 16:=Nat.pow_le_pow_right (by omega) (by omega)
    have hvs:val (r.take (i+1))=n * 10+(d.toNat - 48):=by rw [List.take_add_one,hx,hn];exact val_snoc _ _
    have g1:(i:Int)<(r.length:Int):=by omega
    cases hq:isDig d with
    | true =>
     rw [hq] at hta
     simp only [isDig,Bool.and_eq_true,decide_eq_true_eq] at hq
     have h48:48≤d.toNat:=UInt8.le_iff_toNat_le.1 hq.1
     have h57:d.toNat≤57:=UInt8.le_iff_toNat_le.1 hq.2
     have g2:((d.toNat:Int)<48)=False:=eq_false (by omega)
     have g3:(57<(d.toNat:Int))=False:=eq_false (by omega)
     have hnx:((n * 10+(d.toNat - 48):Nat):Int)=(n:Int) * 10+((d.toNat:Int) - 48):=by omega
     have hinv:NumI r (i+1) (n * 10+(d.toNat - 48)):=⟨hlt,hta,hvs.symm,by rw [Nat.pow_succ];omega⟩
     refine drvL Tryz.func53 ?_
     simp only [go_sem,hszr,hlt]
     iterate 8 ((try (refine drvZ Tryz.func53 ?_;simp only [go_sem,hszr,hlsr,hlt,hgd,g2,g3]));((with_reducible and_intros)<;>try exact sd))
     refine again (i+1,n * 10+(d.toNat - 48)) some [] _ hinv (by omega) ?_
     simp only [go_sem,TmOK,DM,DMs,CM,CMs,forall_eq,exists_eq_left,Mq,HpOK,LowOK,hnx]
     try simp
    | false =>
     have hnd:r.all isDig=false:=by
      cases h:r.all isDig with
      | false=>rfl
      | true=>rw [List.all_eq_true.1 h d hmem] at hq;cases hq
     have hno:numU false r=(0,false):=by rw [numU,if_neg hck,if_neg (by rw [hnd];simp)]
     by_cases q1:(d.toNat:Int)<48
     ·have g2:((d.toNat:Int)<48)=True:=eq_true q1
      refine drvL Tryz.func53 ?_
      simp only [go_sem,hszr,hlt]
      iterate 8 ((try (refine drvZ Tryz.func53 ?_;simp only [go_sem,hszr,hlsr,hlt,hgd,g2]));((with_reducible and_intros)<;>try exact sd))
      exact ret _ _ _ (by rw [hnum,hno])
     ·have g2:((d.toNat:Int)<48)=False:=eq_false q1
      have g3:(57<(d.toNat:Int))=True:=eq_true (by
       rcases Nat.lt_or_ge 57 d.toNat with h | h
       ·omega
       ·exfalso
        have:isDig d=true:=by
         simp only [isDig,Bool.and_eq_true,decide_eq_true_eq]
         exact ⟨UInt8.le_iff_toNat_le.2 (show 48≤d.toNat by omega),UInt8.le_iff_toNat_le.2 (show d.toNat≤57 from h)⟩
        rw [this] at hq;cases hq)
      refine drvL Tryz.func53 ?_
      simp only [go_sem,hszr,hlt]
      iterate 8 ((try (refine drvZ Tryz.func53 ?_;simp only [go_sem,hszr,hlsr,hlt,hgd,g2,g3]));((with_reducible and_intros)<;>try exact sd))
      exact ret _ _ _ (by rw [hnum,hno])
   ·obtain rfl:i=r.length:=by omega
    rw [List.take_length] at hd hn
    have hlt:¬ r.length<r.length:=by omega
    have hpw:10 ^ r.length≤10 ^ 17:=Nat.pow_le_pow_right (by omega) (by omega)
    have hyes:numU false r=((if false=true then -(val r:Int) else (val r:Int)),true):=by rw [numU,if_neg hck,if_pos hd]
    have hng:(0:Int) - (n:Int) = -(n:Int):=by omega
    clear again
    refine drvL Tryz.func53 ?_
    simp only [go_sem,hszr,hlt]
    iterate 8 ((try (refine drvZ Tryz.func53 ?_;simp only [go_sem,hszr,hlt,hng]));((with_reducible and_intros)<;>try exact sd))
    exact ret _ _ _ (by rw [hnum,hyes,hn];simp)
  ·simp only [go_sem,TmOK,DM,DMs,CM,CMs,forall_eq,exists_eq_left,Mq,HpOK,LowOK]
   try simp
def LB:List UInt8:=[76,72,85,88]
theorem b4L:(⟨#[76,72,85,88]⟩:ByteArray)=bstr LB:=rfl
theorem l1LabelS (c:UInt8):DC Tryz.prog 51 [DI .u8 c.toNat] [] (fun r h=>r=DI .i64 (ltrX c)∧h=[]):=by
 have hmx:=mx_eq
 have ret:∀ (v:Int) (hp:Hp),v=ltrX c→RetOb 0 (fun r h=>r=DI .i64 (ltrX c)∧h=[]) (DI .i64 v) hp:=fun v hp e=>by subst e;exact RetOb.plain (d:=DI .i64 _) ⟨rfl,rfl⟩ rfl
 generalize hR:(fun (r:D) (h:List (Option (List C)))=>r=DI .i64 (ltrX c)∧h=[])=R at ret ⊢
 have hls:=bstr_list LB
 have hsz:(bstr LB).size=4:=rfl
 refine dcZ Tryz.func51 ?_
 simp only [go_sem]
 iterate 3 ((try (refine drvZ Tryz.func51 ?_;simp only [go_sem]));((with_reducible and_intros)<;>try exact sd))
 refine Go.loopQ (fun i:Nat=>[(0,DI .u8 c.toNat),(3,DI .i64 i)]) (fun _=>[]) 1024 (fun i=>i≤4∧∀ j,j<i→LB.getD j 0 ≠ c) (fun i=>5 - i) ?_ 0 some [] _ ⟨by omega,fun j h=>by omega⟩ ?_
 ·rintro i ⟨hi,hI⟩ again
  rcases Nat.lt_or_ge i 4 with hlt | hge
  ·have g1:((i:Int)≤3)=True:=eq_true (by omega)
   have hu:=u8_eq (LB.getD i 0) c
   have hfin:LB.getD i 0=c→(i:Int)=ltrX c:=fun e=>by
    have:i=0∨i=1∨i=2∨i=3:=by omega
    rcases this with rfl | rfl | rfl | rfl<;>(subst e;decide)
   have hst:LB.getD i 0 ≠ c→i+1≤4∧∀ j,j<i+1→LB.getD j 0 ≠ c:=fun q=>⟨hlt,fun j hj=>by
    by_cases e:j=i
    ·subst e;exact q
    ·exact hI j (by omega)⟩
   by_cases hx:LB.getD i 0=c
   ·have g2:(LB.getD i 0 == c)=true:=by rw [beq_iff_eq];exact hx
    have g3:(((LB.getD i 0).toNat:Int)=(c.toNat:Int))=True:=eq_true (by rw [hx])
    refine drvL Tryz.func51 ?_
    simp only [go_sem,g1]
    iterate 4 ((try (refine drvZ Tryz.func51 ?_;simp only [go_sem,g1,b4L,hls,hsz,hlt,hu,g2,g3]));((with_reducible and_intros)<;>try exact sd))
    exact ret _ _ (hfin hx)
   ·have g2:(LB.getD i 0 == c)=false:=by rw [beq_eq_false_iff_ne];exact hx
    have g3:(((LB.getD i 0).toNat:Int)=(c.toNat:Int))=False:=eq_false (fun q=>hx (UInt8.toNat_inj.1 (by omega)))
    refine drvL Tryz.func51 ?_
    simp only [go_sem,g1]
    iterate 4 ((try (refine drvZ Tryz.func51 ?_;simp only [go_sem,g1,b4L,hls,hsz,hlt,hu,g2,g3]));((with_reducible and_intros)<;>try exact sd))
    refine again (i+1) some [] _ (hst hx) (by omega) ?_
    simp only [go_sem,TmOK,DM,DMs,CM,CMs,forall_eq,exists_eq_left,Mq,HpOK,LowOK]
    try simp
  ·have hi4:i=4:=by omega
   subst hi4
   have g1:(((4:Nat):Int)≤3)=False:=eq_false (by decide)
   have hz:(-1:Int)=ltrX c:=by
    have h0:=hI 0 (by omega)
    have h1:=hI 1 (by omega)
    have h2:=hI 2 (by omega)
    have h3:=hI 3 (by omega)
    simp only [LB,List.getD_cons_zero,List.getD_cons_succ] at h0 h1 h2 h3
    rw [ltrX,if_neg (Ne.symm h0),if_neg (Ne.symm h1),if_neg (Ne.symm h2),if_neg (Ne.symm h3)]
   clear again
   refine drvL Tryz.func51 ?_
   simp only [go_sem,g1]
   iterate 4 ((try (refine drvZ Tryz.func51 ?_;simp only [go_sem,g1]));((with_reducible and_intros)<;>try exact sd))
   exact ret _ _ hz
 ·simp only [go_sem,TmOK,DM,DMs,CM,CMs,forall_eq,exists_eq_left,Mq,HpOK,LowOK]
  try simp
theorem labP_snoc {L:List Int}:∀ {s:List UInt8} {c:UInt8},labP s=some L→labP (s++[c])=if ltrX c<0 then none else some (L++[ltrX c]):=fun {s}=>by
 induction s generalizing L with
 | nil =>
  intro c h
  simp only [labP,Option.some.injEq] at h
  subst h
  simp [labP]
 | cons a r ih =>
  intro c h
  simp only [labP] at h
  split at h
  ·cases h
  ·rename_i hq
   obtain ⟨L',h1,rfl⟩:=Option.map_eq_some_iff.1 h
   have:=ih (c:=c) h1
   simp only [List.cons_append,labP,if_neg hq,this]
   split<;>simp
theorem labP_none {c : UInt8} (h : ltrX c < 0) : ∀ {s : List UInt8}, c ∈ s → labP s = none
 | a :: r,hm=>by
  simp only [labP]
  split
  ·rfl
  ·rename_i hq
   rcases List.mem_cons.1 hm with rfl | hm
   ·exact absurd h hq
   ·rw [labP_none h hm];rfl
theorem labP_len : ∀ {s : List UInt8} {L : List Int}, labP s = some L → L.length = s.length
 | [],L,h=>by simp only [labP,Option.some.injEq] at h;subst h;rfl
 | a :: r,L,h=>by
  simp only [labP] at h
  split at h
  ·cases h
  ·obtain ⟨L',h1,rfl⟩:=Option.map_eq_some_iff.1 h
   simp [labP_len h1]
theorem parseLabelsS (s:List UInt8) (hl:s.length≤4294967280):DC Tryz.prog 18 [DS (bstr s)] [] (fun r h=>r = .tup [ints ((labP s).getD []),DB (labP s).isSome]∧h=[]):=by
 have hmx:=mx_eq
 generalize hR:(fun (r:D) (h:List (Option (List C)))=>r = .tup [ints ((labP s).getD []),DB (labP s).isSome]∧h=[])=R
 have ret:∀ (k:Nat) (L:List Int) (b:Bool) (hp:Hp),hp k=some (some (L.map I64))→L=(labP s).getD []→b=(labP s).isSome→RetOb 0 R (.tup [.c (.msl k 1 0 L.length),DB b]) hp:=fun k L b hp hk e1 e2=>by
  rw [← hR,← e1,← e2]
  refine RetOb.ofQ (fun _=>none) [k] (.tup [ints L,DB b]) [] ?_ ⟨rfl,rfl⟩ (by simp)
  simp [hk,enumL,hOf,DM,DMs,CM,CMs,HpOK,LowOK,upd,ints,kf,DB,hpL]
  exact (flat_I' _).symm
 have hsz:=bstr_size s
 have hls:=bstr_list s
 refine dcZ Tryz.func18 ?_
 simp only [go_sem]
 iterate 3 ((try (refine drvZ Tryz.func18 ?_;simp only [go_sem]));((with_reducible and_intros)<;>try exact sd))
 refine Go.loopQ (fun x:Nat × List Int=>[(0,DS (bstr s)),(4,.c (.msl 65 1 0 x.2.length)),(5,DI .i64 x.1)]) (fun x=>[(65,some (x.2.map I64))]) 1024 (fun x=>x.1≤s.length∧labP (s.take x.1)=some x.2) (fun x=>s.length - x.1) ?_ (0,[]) (fun j=>if j=65 then some 128 else some j) [] _ ⟨Nat.zero_le _,rfl⟩ ?_
 ·rintro ⟨i,L⟩ ⟨hi,hI⟩ again
  simp only at hi hI again ⊢
  have hll:=labP_len hI
  have hlt0:(s.take i).length=i:=by simp;omega
  rcases Nat.lt_or_ge i s.length with hlt | hge
  ·obtain ⟨d,hx⟩:∃ d,s[i]? = some d:=⟨s[i],by simp [hlt]⟩
   have hgd:s.getD i 0=d:=by rw [List.getD_eq_getElem?_getD,hx];rfl
   have hsn:=labP_snoc (c:=d) hI
   have htk:s.take (i+1)=s.take i++[d]:=by rw [List.take_add_one,hx];rfl
   have hla:=l1LabelS d
   have hmem:=List.mem_of_getElem? hx
   have hno:ltrX d<0→labP s=none:=fun h=>labP_none h hmem
   rw [← htk] at hsn
   generalize ltrX d=v at *
   by_cases hv:v<0
   ·have g1:(v<0)=True:=eq_true hv
    have hn:=hno hv
    refine drvL Tryz.func18 ?_
    simp only [go_sem,hsz,hlt]
    iterate 5 ((try (refine drvZ Tryz.func18 ?_;simp only [go_sem,hsz,hls,hlt,hgd,g1]));((with_reducible and_intros)<;>try exact sd);(try first | refine XK.p hla ok51 ?_ | refine XK.gp hla ok51 ?_))
    exact ret 1728 [] false _ rfl (by rw [hn];rfl) (by rw [hn];rfl)
   ·have g1:(v<0)=False:=eq_false hv
    rw [if_neg hv] at hsn
    have hln:(L++[v]).length=L.length+1:=by simp
    refine drvL Tryz.func18 ?_
    simp only [go_sem,hsz,hlt]
    iterate 6 ((try (refine drvZ Tryz.func18 ?_;simp only [go_sem,hsz,hls,hlt,hgd,g1]));((with_reducible and_intros)<;>try exact sd);(try first | refine XK.p hla ok51 ?_ | refine XK.gp hla ok51 ?_))
    refine again (i+1,L++[v]) (fun j=>if j=65 then some 1920 else some j) [] _ ⟨hlt,hsn⟩ (by omega) ?_
    simp only [go_sem,TmOK,DM,DMs,CM,CMs,forall_eq,exists_eq_left,Mq,HpOK,LowOK,hln,List.map_append]
    simp
    exact CMs.app (CMs.kf (kf_I L)) (by simp [CMs,CM])
  ·obtain rfl:i=s.length:=by omega
   have hlt:¬ s.length<s.length:=by omega
   rw [List.take_length] at hI
   clear again
   refine drvL Tryz.func18 ?_
   simp only [go_sem,hsz,hlt]
   iterate 4 ((try (refine drvZ Tryz.func18 ?_;simp only [go_sem,hsz,hlt]));((with_reducible and_intros)<;>try exact sd))
   exact ret _ _ _ _ rfl (by rw [hI];rfl) (by rw [hI];rfl)
 ·simp only [go_sem,TmOK,DM,DMs,CM,CMs,forall_eq,exists_eq_left,Mq,HpOK,LowOK]
  simp [CMs]
open CtL (In Cd codeOK)
theorem opOf_le {u:List UInt8} (h:opOf u≤13):nmT (opOf u:Int)=u:=by
 have hl:nmL.findIdx (fun w=>w == u)<nmL.length:=by show _<13;unfold opOf at h;omega
 have:=List.findIdx_getElem (p:=fun w=>w == u) (w:=hl)
 have e:nmL[nmL.findIdx (fun w=>w == u)]=u:=by simpa using this
 have e2:((opOf u:Int) - 1).toNat=nmL.findIdx (fun w=>w == u):=by unfold opOf;omega
 rw [nmT,e2,List.getD_eq_getElem?_getD,List.getElem?_eq_getElem hl,e];rfl
theorem opOf_of {u:List UInt8} {op:Nat} (h:1≤op∧op≤13) (e:nmT (op:Int)=u):opOf u=op:=by
 have:=opOf_nm (op:=(op:Int)) (by omega)
 rw [e] at this;omega
def prK (v : Nat → Int) : Nat → List C
 | 0 | 1=>[I64 0,I64 0,I64 0,I64 0]
 | 2=>[I64 (v 0),I64 0,I64 0,I64 0]
 | 3=>[I64 (v 0),I64 (v 1),I64 0,I64 0]
 | 4=>[I64 (v 0),I64 (v 1),I64 (v 2),I64 0]
 | _=>[I64 (v 0),I64 (v 1),I64 (v 2),I64 (v 3)]
theorem prK_len (v:Nat→Int) (k:Nat):(prK v k).length=4:=by
 unfold prK
 split<;>rfl
theorem prK_set (v:Nat→Int) {k:Nat} (h:1≤k∧k≤4):(prK v k).set (k - 1) (I64 (v (k - 1)))=prK v (k+1):=by
 have:k=1∨k=2∨k=3∨k=4:=by omega
 rcases this with rfl | rfl | rfl | rfl<;>rfl
theorem prK_full {v:Nat→Int} {n:Nat} (h:1≤n∧n≤5) (hz:∀ i,n≤i+1→v i=0):prK v n=[I64 (v 0),I64 (v 1),I64 (v 2),I64 (v 3)]:=by
 have:n=1∨n=2∨n=3∨n=4∨n=5:=by omega
 rcases this with rfl | rfl | rfl | rfl | rfl
 ·rw [hz 0 (by omega),hz 1 (by omega),hz 2 (by omega),hz 3 (by omega)];rfl
 ·rw [hz 1 (by omega),hz 2 (by omega),hz 3 (by omega)];rfl
 ·rw [hz 2 (by omega),hz 3 (by omega)];rfl
 ·rw [hz 3 (by omega)];rfl
 ·rfl
theorem prK_kf (v:Nat→Int) (k:Nat):∀ c ∈ prK v k,kf c=true:=by
 unfold prK
 split<;>simp [kf]
theorem l6ParseLineS (line:List UInt8) (hl:line.length≤4294967280):DC Tryz.prog 19 [DS (bstr line)] [] (fun r h=>r = .tup [.agg (inX (plS line).1),DB (plS line).2]∧h=[]):=by
 have hmx:=mx_eq
 have ret:∀ (x:In) (b:Bool) (hp:Hp),(x,b)=plS line→RetOb 0 (fun r h=>r = .tup [.agg (inX (plS line).1),DB (plS line).2]∧h=[]) (.tup [.agg (inX x),DB b]) hp:=fun x b hp e=>by
  rw [← e]
  exact RetOb.ofQ (fun _=>none) [] (.tup [.agg (inX x),DB b]) [] (by simp [enumL,hOf,DM,DMs,CM,CMs,HpOK,LowOK,upd,kf,inX]) ⟨rfl,rfl⟩ (by simp)
 generalize hR:(fun (r:D) (h:List (Option (List C)))=>r = .tup [.agg (inX (plS line).1),DB (plS line).2]∧h=[])=R at ret ⊢
 have hcu:DC Tryz.prog 17 [DS (bstr line),DI .u8 32] [] (fun r h=>r = .c (strD (splC 32 line))∧h=[]):=l17CutS line 32 hl
 have how:=l6NamesS
 have hne:=splC_ne 32 line
 have hwl:∀ p ∈ splC 32 line,p.length≤line.length:=splC_le 32 line
 simp only [plS] at ret
 generalize splC 32 line=w at *
 simp only [strD] at hcu how
 have hn1:1≤w.length:=by cases w with | nil=>exact absurd rfl hne | cons a r=>simp
 obtain ⟨w0,hw0⟩:∃ a,w[0]? = some a:=⟨w[0],by simp [show 0<w.length by omega]⟩
 have hg0:w.getD 0 []=w0:=by rw [List.getD_eq_getElem?_getD,hw0];rfl
 rw [hg0] at ret
 have hwm:∀ i,(w.map fun s=>[C.v (.string (bstr s))])[i]? = (w[i]?).map fun s=>[C.v (.string (bstr s))]:=fun i=>by rw [List.getElem?_map]
 have hw0m:(w.map fun s=>[C.v (.string (bstr s))])[0]? = some [C.v (.string (bstr w0))]:=by rw [hwm,hw0];rfl
 have hwlen:(w.map fun s=>[C.v (.string (bstr s))]).length=w.length:=by simp
 have hnmm:∀ op:Nat,1≤op∧op≤13→(([] :: nmL).map fun s=>[C.v (.string (bstr s))])[op]? = some [.v (.string (bstr (nmT (op:Int))))]:=fun op h=>by
  have:=nm_at' (op:=(op:Int)) (by omega)
  rw [Int.toNat_natCast] at this
  rw [List.getElem?_map,this];rfl
 have hnll:(([] :: nmL).map fun s=>[C.v (.string (bstr s))]).length=14:=rfl
 have htl:∀ l:List UInt8,(bstr l).toList=l:=fun l=>by rw [ByteArray.toList_eq];simp [bstr]
 generalize (([] :: nmL).map fun s=>[C.v (.string (bstr s))])=NL at *
 generalize hWW:(w.map fun s=>[C.v (.string (bstr s))])=WW at *
 refine dcZ Tryz.func19 ?_
 simp only [go_sem]
 iterate 6 ((try (refine drvZ Tryz.func19 ?_;simp only [go_sem]));((with_reducible and_intros)<;>try exact sd);(try first | refine XK.p hcu ok17 ?_ | refine XK.gp hcu ok17 ?_ | refine XK.p how ok52 ?_ | refine XK.gp how ok52 ?_))
 refine Go.loopQ (fun op : Nat => [(2, .c (.ptr 0 0)), (3, DB false), (4, .c (.isl 1 WW)), (5, .c (.isl 1 NL)), (6, DI .i64 op)]) (fun _ => [(0, some [I64 0, I64 0, I64 0, I64 0, I64 0])])
  1024 (fun op=>(1≤op∧op≤14)∧∀ k:Nat,1≤k→k<op→¬ (nmT (k:Int)=w0∧w.length≤5)) (fun op=>14 - op) ?_ 1 some [] _ ⟨by omega,fun k h1 h2=>by omega⟩ ?_
 ·rintro op ⟨⟨ho1,ho2⟩,hI⟩ again
  rcases Nat.lt_or_ge op 14 with hlt | hge
  ·have g1:((op:Int)≤13)=True:=eq_true (by omega)
   have hnx:=hnmm op ⟨ho1,by omega⟩
   have hlt14:op<NL.length:=by omega
   have p1:0<w.length:=by omega
   have hst:¬ (nmT (op:Int)=w0∧w.length≤5)→(1≤op+1∧op+1≤14)∧∀ k:Nat,1≤k→k<op+1→¬ (nmT (k:Int)=w0∧w.length≤5):=fun q=>⟨by omega,fun k h1 h2=>by
    by_cases e:k=op
    ·subst e;exact q
    ·exact hI k h1 (by omega)⟩
   by_cases e1:nmT (op:Int)=w0
   ·have q1:(nmT (op:Int) == w0)=true:=by rw [beq_iff_eq];exact e1
    by_cases e2:w.length≤5
    ·have g2:((5:Int)<(w.length:Int))=False:=eq_false (by omega)
     have hopo:=opOf_of ⟨ho1,by omega⟩ e1
     refine drvL Tryz.func19 ?_
     simp only [go_sem,g1]
     iterate 6 ((try (refine drvZ Tryz.func19 ?_;simp only [go_sem,g1,hnx,hlt14,hnll,hlt,p1,hwlen,hw0m,htl,q1,g2]));((with_reducible and_intros)<;>try exact sd))
     generalize hv:(fun i=>(numS (w.getD (i+1) [])).1)=v
     have hvv:∀ i,v i=(numS (w.getD (i+1) [])).1:=fun i=>by rw [← hv]
     have hfull:=prK_full (v:=v) ⟨hn1,e2⟩ fun i hi=>by
      rw [hvv,List.getD_eq_getElem?_getD,List.getElem?_eq_none hi];rfl
     refine Go.loopQ (fun k : Nat => [(2, .c (.ptr 0 0)), (4, .c (.isl 1 WW)), (6, DI .i64 op), (7, .c (.msl 65 1 0 4)), (8, DI .i64 k)]) (fun k => [(0, some [I64 0, I64 0, I64 0, I64 0, I64 0]), (65, some (prK v k))])
      4096 (fun k=>1≤k∧k≤w.length) (fun k=>w.length - k) ?_ 1 (fun j=>if j=65 then some 1984 else some j) [] _ ⟨Nat.le_refl _,hn1⟩ ?_
     ·rintro k ⟨hk1,hk2⟩ again
      have hpl:=prK_len v k
      rcases Nat.lt_or_ge k w.length with hklt | hkge
      ·obtain ⟨p,hp⟩:∃ p,w[k]? = some p:=⟨w[k],by simp [hklt]⟩
       have hpm:WW[k]? = some [.v (.string (bstr p))]:=by rw [hwm,hp];rfl
       have hnum:=l17NumS p (by have:=hwl p (List.mem_of_getElem? hp);omega)
       have hvk:(numS p).1=v (k - 1):=by
        rw [hvv,Nat.sub_add_cancel hk1,List.getD_eq_getElem?_getD,hp];rfl
       have hset:=prK_set v (k:=k) ⟨hk1,by omega⟩
       have hki:(k:Int) - 1=((k - 1:Nat):Int):=by omega
       have hk4:k - 1<4:=by omega
       rw [hvk] at hnum
       generalize prK v k=pk at *
       refine drvL Tryz.func19 ?_
       simp only [go_sem,hwlen,hklt]
       iterate 6 ((try (refine drvZ Tryz.func19 ?_;simp only [go_sem,hwlen,hklt,hpm,hki,hk4,hpl]));((with_reducible and_intros)<;>try exact sd);(try first | refine XK.p hnum ok53 ?_ | refine XK.gp hnum ok53 ?_))
       refine again (k+1) some [] _ ⟨by omega,hklt⟩ (by omega) ?_
       simp only [go_sem,TmOK,DM,DMs,CM,CMs,forall_eq,exists_eq_left,Mq,HpOK,LowOK,hset]
       have hkf:∀ {hT hS:Hp} {r:Nat→Option Nat} {fz:List Nat},CMs hT r hS fz (prK v (k+1)) (prK v (k+1)):=CMs.kf (prK_kf v (k+1))
       simp [CMs,CM,kf,hkf]
      ·obtain rfl:k=w.length:=by omega
       have hn:¬ w.length<w.length:=by omega
       clear again
       refine drvL Tryz.func19 ?_
       simp only [go_sem,hwlen,hn,hfull]
       iterate 6 ((try (refine drvZ Tryz.func19 ?_;simp only [go_sem,hwlen,hn,hfull]));((with_reducible and_intros)<;>try exact sd))
       refine ret ⟨op,v 0,v 1,v 2,v 3⟩ true _ ?_
       rw [if_pos ⟨e2,by omega⟩,hopo,hvv,hvv,hvv,hvv]
     ·simp only [go_sem,TmOK,DM,DMs,CM,CMs,forall_eq,exists_eq_left,Mq,HpOK,LowOK]
      simp [CMs,CM,prK,kf]
    ·have g2:((5:Int)<(w.length:Int))=True:=eq_true (by omega)
     refine drvL Tryz.func19 ?_
     simp only [go_sem,g1]
     iterate 6 ((try (refine drvZ Tryz.func19 ?_;simp only [go_sem,g1,hnx,hlt14,hnll,hlt,p1,hwlen,hw0m,htl,q1,g2]));((with_reducible and_intros)<;>try exact sd))
     refine again (op+1) some [] _ (hst fun q=>e2 q.2) (by omega) ?_
     simp only [go_sem,TmOK,DM,DMs,CM,CMs,forall_eq,exists_eq_left,Mq,HpOK,LowOK]
     try simp
   ·have q1:(nmT (op:Int) == w0)=false:=by rw [beq_eq_false_iff_ne];exact e1
    refine drvL Tryz.func19 ?_
    simp only [go_sem,g1]
    iterate 6 ((try (refine drvZ Tryz.func19 ?_;simp only [go_sem,g1,hnx,hlt14,hnll,hlt,p1,hwlen,hw0m,htl,q1]));((with_reducible and_intros)<;>try exact sd))
    refine again (op+1) some [] _ (hst fun q=>e1 q.1) (by omega) ?_
    simp only [go_sem,TmOK,DM,DMs,CM,CMs,forall_eq,exists_eq_left,Mq,HpOK,LowOK]
    try simp
  ·obtain rfl:op=14:=by omega
   have g1:(((14:Nat):Int)≤13)=False:=eq_false (by decide)
   clear again
   refine drvL Tryz.func19 ?_
   simp only [go_sem,g1]
   iterate 4 ((try (refine drvZ Tryz.func19 ?_;simp only [go_sem,g1]));((with_reducible and_intros)<;>try exact sd))
   refine ret ⟨0,0,0,0,0⟩ false _ ?_
   rw [if_neg]
   rintro ⟨q1,q2⟩
   have:=opOf_le q2
   exact hI (opOf w0) (by unfold opOf;omega) (by omega) ⟨this,q1⟩
 ·simp only [go_sem,TmOK,DM,DMs,CM,CMs,forall_eq,exists_eq_left,Mq,HpOK,LowOK]
  try simp
end Go.Proofs.YtfkhahkclgejnaaGreatDoor.CtD
