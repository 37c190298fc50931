/- Contracts of functions of the program, one behind the other, as plain data: what each call returns and which blocks it leaves. -/
import Derived.Test.YtoakidkcppinpaaDoorHFacts
import Derived.Test.YtoakidkcppinpaaDoorHAj
import Derived.Test.YtoakidkcppinpaaDoorHAk
import Derived.Test.YtoakidkcppinpaaDoorHAm
import Derived.Test.YtoakidkcppinpaaDoorHAn
import Derived.Test.YtoakidkcppinpaaDoorHAo
import Derived.Test.YtoakidkcppinpaaDoorHAp
set_option linter.unusedVariables false
set_option linter.unusedSimpArgs false
set_option linter.unusedSectionVars false
set_option maxHeartbeats 16000000
set_option maxRecDepth 100000
namespace Go.Proofs.YtoakidkcppinpaaDoor.CtD
open Go Go.CT CtF CtR
variable [Yn]
open CtL (In Cd codeOK)
theorem bstr_inj {a b:List UInt8} (h:bstr a=bstr b):a=b:=by
 unfold bstr at h
 have:=congrArg (fun s:ByteArray=>s.data.toList) h
 simpa using this
theorem fmt_cases (a b:Cd):fmtC a=[]∨fmtC b=[]∨((fmtC a ≠ []∧fmtC b ≠ [])∧(fmtC a=fmtC b ↔ a=b)):=by
 have hne:∀ c:Cd,fmtT c ≠ []:=fun c h=>by simp [fmtT] at h
 unfold fmtC
 by_cases ha:codeOK a=true
 ·by_cases hb:codeOK b=true
  ·rw [if_pos ha,if_pos hb]
   exact .inr (.inr ⟨⟨hne a,hne b⟩,fun h=>fmt_inj ha hb h,fun h=>by rw [h]⟩)
  ·rw [if_neg hb];exact .inr (.inl rfl)
 ·rw [if_neg ha];exact .inl rfl
theorem lawCodeSame (hT:TabY inferInstance) (bs:List Int) (hbf:Fits .u8 bs) (hl:bs.length≤mx):DC Tryd.prog 4 [bytesD bs] [] (fun d h=>d=DB true∧h=[]):=by
 have hmx:=mx_eq
 have hdr:=drawCodeSame bs hbf hl
 unfold bytesD
 unfold bytesD at hdr
 have ret:∀ (v:Bool) (hp:Hp),v=true→RetOb 0 (fun d h=>d=DB true∧h=[]) (DB v) hp:=fun v hp h=>by subst h;exact RetOb.plain (d:=DB true) ⟨rfl,rfl⟩ rfl
 generalize hRR:(fun (d:D) (h:List (Option (List C)))=>d=DB true∧h=[])=R at ret ⊢
 by_cases hbig:1048576<bs.length
 ·have hz:((1048576:Int)<(bs.length:Int))=True:=eq_true (by omega)
  refine dcZ Tryd.func4 ?_
  simp only [go_sem,hz]
  iterate 3 ((try (refine drvZ Tryd.func4 ?_;simp only [go_sem,hz]));((with_reducible and_intros)<;>try exact sd))
  exact ret _ _ rfl
 have hz:((1048576:Int)<(bs.length:Int))=False:=eq_false (by omega)
 refine dcZ Tryd.func4 ?_
 simp only [go_sem,hz]
 iterate 3 ((try (refine drvZ Tryd.func4 ?_;simp only [go_sem,hz]));((with_reducible and_intros)<;>try exact sd))
 refine XK.callG [] hdr ok10 (fun i' x h=>by simp at h) (hbT ()) (fun d h' ⟨_,_,_,_,_,e⟩=>by subst e;simp) ?_
 rintro _ _ ⟨a,b,rfl,⟨p1,p2,p3⟩,⟨q1,q2,q3⟩,rfl⟩ _
 clear hdr
 obtain ⟨e,he⟩:∃ e:Bool,e=true ↔ a=b:=by
  by_cases h:a=b
  ·exact ⟨true,by simp [h]⟩
  ·exact ⟨false,by simp [h]⟩
 have hs1:=codeSameIG a b (by omega) (by omega) (by omega) e he
 have hs2:=codeSameSG a b (by omega) (by omega) (by omega) e he
 have hs3:=codeSameIG b a (by omega) (by omega) (by omega) e (he.trans ⟨Eq.symm,Eq.symm⟩)
 have hs4:=codeSameIG a a (by omega) (by omega) (by omega) true (by simp)
 have hf1:=formatCodeI hT a (by omega) (by omega) (by omega)
 have hf2:=formatCodeI hT b (by omega) (by omega) (by omega)
 have hfc:=fmt_cases a b
 rw [← he] at hfc
 have b0:(⟨#[]⟩:ByteArray)=bstr []:=rfl
 have hnil:∀ l:List UInt8,l ≠ []→bstr l ≠ bstr []:=fun l h q=>h (bstr_inj q)
 have htl:∀ l:List UInt8,(bstr l).toList=l:=fun l=>by rw [ByteArray.toList_eq];simp [bstr]
 clear he p1 p2 p3 q1 q2 q3
 generalize fmtC a=S at *
 generalize fmtC b=T at *
 obtain ⟨vs,ar,l⟩:=a
 obtain ⟨vs',ar',l'⟩:=b
 simp only [cdC] at hs1 hs2 hs3 hs4 hf1 hf2 ⊢
 rcases hfc with rfl | rfl | ⟨⟨n1,n2⟩,hq⟩
 ·iterate 30 ((try (refine drvZ Tryd.func4 ?_;simp only [go_sem,bne_self_eq_false,beq_self_eq_true,b0]));((with_reducible and_intros)<;>try exact sd);(try first | refine XK.p hs1 ok11 ?_ | refine XK.gp hs1 ok11 ?_ | refine XK.p hs2 ok12 ?_ | refine XK.gp hs2 ok12 ?_ | refine XK.p hs3 ok11 ?_ | refine XK.gp hs3 ok11 ?_ | refine XK.p hs4 ok11 ?_ | refine XK.gp hs4 ok11 ?_ | refine XK.p hf1 ok8 ?_ | refine XK.gp hf1 ok8 ?_ | refine XK.p hf2 ok8 ?_ | refine XK.gp hf2 ok8 ?_))
  exact ret _ _ rfl
 ·iterate 30 ((try (refine drvZ Tryd.func4 ?_;simp only [go_sem,bne_self_eq_false,beq_self_eq_true,b0]));((with_reducible and_intros)<;>try exact sd);(try first | refine XK.p hs1 ok11 ?_ | refine XK.gp hs1 ok11 ?_ | refine XK.p hs2 ok12 ?_ | refine XK.gp hs2 ok12 ?_ | refine XK.p hs3 ok11 ?_ | refine XK.gp hs3 ok11 ?_ | refine XK.p hs4 ok11 ?_ | refine XK.gp hs4 ok11 ?_ | refine XK.p hf1 ok8 ?_ | refine XK.gp hf1 ok8 ?_ | refine XK.p hf2 ok8 ?_ | refine XK.gp hf2 ok8 ?_))
  exact ret _ _ (by simp only [htl];cases S == []<;>simp)
 ·iterate 30 ((try (refine drvZ Tryd.func4 ?_;simp only [go_sem,bne_self_eq_false,beq_self_eq_true,b0]));((with_reducible and_intros)<;>try exact sd);(try first | refine XK.p hs1 ok11 ?_ | refine XK.gp hs1 ok11 ?_ | refine XK.p hs2 ok12 ?_ | refine XK.gp hs2 ok12 ?_ | refine XK.p hs3 ok11 ?_ | refine XK.gp hs3 ok11 ?_ | refine XK.p hs4 ok11 ?_ | refine XK.gp hs4 ok11 ?_ | refine XK.p hf1 ok8 ?_ | refine XK.gp hf1 ok8 ?_ | refine XK.p hf2 ok8 ?_ | refine XK.gp hf2 ok8 ?_))
  exact ret _ _ (by
   simp only [htl]
   cases e with
   | true=>rw [hq.2 rfl];simp
   | false =>
    have:S ≠ T:=fun h=>by cases hq.1 h
    simp [this])
end Go.Proofs.YtoakidkcppinpaaDoor.CtD
