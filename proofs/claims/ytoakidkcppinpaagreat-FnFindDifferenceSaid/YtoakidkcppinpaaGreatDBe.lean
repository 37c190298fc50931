/- Contracts of functions of the program, one behind the other, as plain data: what each call returns and which blocks it leaves. -/
import Derived.Test.YtoakidkcppinpaaGreatDFacts
import Derived.Test.YtoakidkcppinpaaGreatDAj
import Derived.Test.YtoakidkcppinpaaGreatDAl
import Derived.Test.YtoakidkcppinpaaGreatDAn
import Derived.Test.YtoakidkcppinpaaGreatDAo
import Derived.Test.YtoakidkcppinpaaGreatDAq
import Derived.Test.YtoakidkcppinpaaGreatDAr
import Derived.Test.YtoakidkcppinpaaGreatDAt
import Derived.Test.YtoakidkcppinpaaGreatDAu
import Derived.Test.YtoakidkcppinpaaGreatDAw
import Derived.Test.YtoakidkcppinpaaGreatDAy
import Derived.Test.YtoakidkcppinpaaGreatDAz
import Derived.Test.YtoakidkcppinpaaGreatDAi
import Derived.Test.YtoakidkcppinpaaGreatDAp
import Derived.Test.YtoakidkcppinpaaGreatDBb
import Derived.Test.YtoakidkcppinpaaGreatDAs
import Derived.Test.YtoakidkcppinpaaGreatDBa
import Derived.Test.YtoakidkcppinpaaGreatDAx
import Derived.Test.YtoakidkcppinpaaGreatDBd
import Derived.Test.YtoakidkcppinpaaGreatDBc
set_option linter.unusedVariables false
set_option linter.unusedSimpArgs false
set_option linter.unusedSectionVars false
set_option maxHeartbeats 16000000
set_option maxRecDepth 100000
namespace Go.Proofs.YtoakidkcppinpaaGreat.CtD
open Go Go.CT CtF CtR
variable [Yn]
open CtL (In Cd codeOK runC)
def fdM (l:List Mm) (i:Nat):Mm:=l.getD i ⟨[],[]⟩
def fdP (c:Cd) (l:List Mm) (i k:Nat):Bool:=(runC c (fdM l i)).2.2 && ((runC c (fdM l k)).2.2 && (!trSame (runC c (fdM l i)).2.1 (runC c (fdM l k)).2.1 && memSame (clrM secQ c.vars c.arrays (fdM l i)) (clrM secQ c.vars c.arrays (fdM l k))))
structure FD (c : Cd) (l : List Mm) (i0 k0 : Nat) : Prop where
  le:i0≤l.length
  no:∀ i k,i<k→k<l.length→(i<i0∨i=i0∧k<k0)→fdP c l i k=false
  yes:i0=l.length∨i0<k0∧k0<l.length∧fdP c l i0 k0=true
theorem firstQ (Q : Nat → Prop) : ∀ n, (∃ i, i < n ∧ Q i ∧ ∀ j, j < i → ¬ Q j) ∨ ∀ i, i < n → ¬ Q i
  | 0 => .inr fun i h=>by omega
  | n+1=>by
    rcases firstQ Q n with ⟨i,h1,h2,h3⟩ | h
    · exact .inl ⟨i,by omega,h2,h3⟩
    · by_cases hq:Q n
      · exact .inl ⟨n,by omega,hq,fun j hj=>h j hj⟩
      · refine .inr fun i hi=>?_
        by_cases e:i=n
        · subst e;exact hq
        · exact h i (by omega)
theorem fd_ex (c:Cd) (l:List Mm):∃ i0 k0,FD c l i0 k0:=by
  rcases firstQ (fun i=>∃ k,i<k∧k<l.length∧fdP c l i k=true) l.length with ⟨i,h1,⟨k',hk1,hk2,hk3⟩,h3⟩ | h
  · rcases firstQ (fun k=>i<k∧fdP c l i k=true) l.length with ⟨k,g1,⟨g2,g4⟩,g3⟩ | g
    · refine ⟨i,k,by omega,fun j q hjq hq hor=>?_,.inr ⟨g2,g1,g4⟩⟩
      cases hf:fdP c l j q with
      | false=>rfl
      | true =>
        rcases hor with hor | ⟨rfl,hor⟩
        · exact absurd ⟨q,hjq,hq,hf⟩ (h3 j hor)
        · exact absurd ⟨hjq,hf⟩ (g3 q hor)
    · exact absurd ⟨hk1,hk3⟩ (g k' hk2)
  · refine ⟨l.length,0,Nat.le_refl _,fun j q hjq hq hor=>?_,.inl rfl⟩
    cases hf:fdP c l j q with
    | false=>rfl
    | true=>exact absurd ⟨q,hjq,hq,hf⟩ (h j (by omega))
theorem fd_at {l:List Mm} {i:Nat} {x:Mm} (h:l[i]? = some x):fdM l i=x:=by unfold fdM;rw [List.getD_eq_getElem?_getD,h];rfl
theorem runC_ok {c:Cd} {m:Mm} (h:(runC c m).2.2=true):codeOK c=true∧memOK c.vars c.arrays m=true:=by
  unfold runC at h
  split at h
  · next e=>simpa only [Bool.and_eq_true] using e
  · simp at h
theorem codeOK_labs {c:Cd} (h:codeOK c=true):lab3 c.vars∧lab3 c.arrays:=by
  simp only [codeOK,headsOK,labs,Bool.and_eq_true,decide_eq_true_eq,List.all_eq_true] at h
  exact ⟨fun x hx=>h.1.1.1.1.1.2 x hx,fun x hx=>h.1.1.1.1.2 x hx⟩
theorem fits_of {c:Cd} {m:Mm} (h:codeOK c=true) (hm:memOK c.vars c.arrays m=true):MemFits (hdC c) m:=by
  simp only [codeOK,memOK,headsOK,vals01,arrOK,Bool.and_eq_true,decide_eq_true_eq,List.all_eq_true] at h hm
  obtain ⟨⟨⟨⟨⟨⟨⟨⟨h1,h2⟩,h3⟩,_⟩,_⟩,_⟩,_⟩,_⟩,_⟩:=h
  obtain ⟨⟨⟨g1,g2⟩,g3⟩,g4⟩:=hm
  exact ⟨by simp only [hdC];omega,by simp only [hdC];omega,by simp only [hdC];omega,by simp only [hdC];omega,g3,fun a ha=>⟨by have:=(g4 a ha).1;omega,(g4 a ha).2⟩⟩
def fdR (l:List Mm) (i0 k0:Nat):D:=if i0=l.length then .tup [DI .i64 0,DI .i64 0,DB false] else .tup [DI .i64 i0,DI .i64 k0,DB true]
theorem clrM_len {vs ar:List Int} {m:Mm} (hv:m.vals.length=vs.length) (ha:m.arrays.length=ar.length) (h4:∀ a ∈ m.arrays,a.length=4):(clrM secQ vs ar m).vals.length=vs.length∧(clrM secQ vs ar m).arrays.length=ar.length∧∀ a ∈ (clrM secQ vs ar m).arrays,a.length=4:=by
  obtain ⟨va,arr⟩:=m
  simp only at hv ha h4
  simp only [clrM]
  refine ⟨by rw [clS_len];exact hv,?_⟩
  clear hv
  induction arr generalizing ar with
  | nil=>cases ar with
    | nil=>simp [clA]
    | cons=>simp at ha
  | cons a r ih=>cases ar with
    | nil=>simp at ha
    | cons l s =>
      simp only [List.length_cons] at ha
      obtain ⟨g1,g2⟩:=ih (ar:=s) (by omega) (fun a h=>h4 a (by simp [h]))
      simp only [clA,List.length_cons,List.mem_cons]
      refine ⟨by omega,fun b hb=>?_⟩
      rcases hb with rfl | hb
      · split
        · rfl
        · exact h4 a (by simp)
      · exact g2 b hb
open CtL (In Cd codeOK runC)
theorem cmT {hT hS:Hp} {r:Nat→Option Nat} {fz:List Nat} (t:List Ev):CM hT r hS fz (trD t) (trD t)=True:=eq_true (CM.kf rfl)
theorem findS (c : Cd) (l : List Mm) (i0 k0 : Nat) (h1 : c.vars.length ≤ 2000000) (h2 : c.arrays.length ≤ 2000000) (h3 : c.list.length ≤ 100000000) (hl : l.length ≤ 1048576) (hf : FD c l i0 k0) :
    DC Tryz.prog 6 [.agg (cdC c),.c (.isl 2 (l.map Mm.cells))] [] (fun r h=>r=fdR l i0 k0∧h=[]):=by
  have hmx:=mx_eq
  have ret1:∀ hp,i0=l.length→RetOb 0 (fun r h=>r=fdR l i0 k0∧h=[]) (.tup [DI .i64 0,DI .i64 0,DB false]) hp:=fun hp h=>by
    unfold fdR;rw [if_pos h]
    refine RetOb.ofQ (fun _=>none) [] _ [] ?_ ⟨rfl,rfl⟩ (by simp)
    simp [enumL,DM,DMs,CM,CMs,HpOK,LowOK]
  have ret2:∀ hp,i0 ≠ l.length→RetOb 0 (fun r h=>r=fdR l i0 k0∧h=[]) (.tup [DI .i64 i0,DI .i64 k0,DB true]) hp:=fun hp h=>by
    unfold fdR;rw [if_neg h]
    refine RetOb.ofQ (fun _=>none) [] _ [] ?_ ⟨rfl,rfl⟩ (by simp)
    simp [enumL,DM,DMs,CM,CMs,HpOK,LowOK]
  generalize hR:(fun (r:D) (h:List (Option (List C)))=>r=fdR l i0 k0∧h=[])=R at ret1 ret2 ⊢
  clear hR
  have hrc:=fun m=>runCodeS c m h1 h2 h3
  have hhd:=heads6 c
  have hft:=fun m=>l3Fits (hdC c) m (by simp only [hdC];omega) (by simp only [hdC];omega)
  have hpt:∀ m,codeOK c=true→memOK c.vars c.arrays m=true→DC Tryz.prog 28 [.agg (Pg.cells (hdC c)),.agg m.cells,DI .i64 1] [] (fun r h=>r = .agg (clrM secQ c.vars c.arrays m).cells∧h=[]):=fun m hc hm=>by
    have g:=fits_of hc hm
    exact l3Part (hdC c) m g.nv g.na (by have:=g.nv12;omega) g.na2 (fun a h=>(g.arr a h).1) (codeOK_labs hc).1 (codeOK_labs hc).2
  have hms:∀ a b,codeOK c=true→memOK c.vars c.arrays a=true→DC Tryz.prog 27 [.agg (clrM secQ c.vars c.arrays a).cells,.agg (clrM secQ c.vars c.arrays b).cells] [] (fun r h=>r=DB (memSame (clrM secQ c.vars c.arrays a) (clrM secQ c.vars c.arrays b))∧h=[]):=fun a b hc hm=>by
    have g:=fits_of hc hm
    have hq:=clrM_len (vs:=c.vars) (ar:=c.arrays) (m:=a) g.nv g.na (fun a h=>(g.arr a h).1)
    exact memorySameS _ _ (by omega) (by omega) (fun x hx=>by have:=hq.2.2 x hx;omega)
  have hts:=fun a b=>traceSameS (runC c a).2.1 (runC c b).2.1 (by have:=runC_len c a;omega)
  have hno:=hf.no
  have hyes:=hf.yes
  have hle:=hf.le
  have hok:=fun m=>runC_ok (c:=c) (m:=m)
  have hxs:∀ {i:Nat} {x:Mm},l[i]? = some x→(l.map Mm.cells)[i]? = some x.cells:=fun h=>by rw [List.getElem?_map,h];rfl
  have hrl:(l.map Mm.cells).length=l.length:=by simp
  generalize l.map Mm.cells=rows at *
  have hP:=fun {i k:Nat} {x y:Mm} (hx:l[i]? = some x) (hy:l[k]? = some y)=>show fdP c l i k=((runC c x).2.2 && ((runC c y).2.2 && (!trSame (runC c x).2.1 (runC c y).2.1 && memSame (clrM secQ c.vars c.arrays x) (clrM secQ c.vars c.arrays y)))) by unfold fdP;rw [fd_at hx,fd_at hy]
  simp only [show (hdC c).vars=c.vars from rfl,show (hdC c).arrays=c.arrays from rfl] at hft
  clear hf
  generalize runC c=rc at *
  generalize clrM secQ c.vars c.arrays=cl at *
  generalize memOK c.vars c.arrays=mo at *
  generalize codeOK c=co at *
  generalize hdC c=hd at *
  obtain ⟨p1,p2,p3⟩:=hd
  generalize fdP c l=P at *
  obtain ⟨vs,ar,li⟩:=c
  simp only [cdC] at *
  refine dcZ Tryz.func6 ?_
  simp only [go_sem]
  iterate 4 ((try (refine drvZ Tryz.func6 ?_;simp only [go_sem]));((with_reducible and_intros)<;>try exact sd);(try first | refine XK.p hhd ok18 ?_ | refine XK.gp hhd ok18 ?_))
  refine Go.loopQ (fun i:Nat=>[(1,.c (.isl 2 rows)),(2,.c (.ptr 0 0)),(7,.c (.ptr 384 0)),(8,DI .i64 i)]) (fun i=>[(0,some [isI vs,isI ar,.isl 5 (li.map inX)]),(384,some (Pg.cells ⟨p1,p2,p3⟩))]) 4096 (fun i=>i≤i0) (fun i=>l.length - i) ?_ 0 some [] _ (Nat.zero_le _) ?_
  · intro i hi again
    rcases Nat.lt_or_ge i l.length with hlt | hge
    · obtain ⟨x,hx⟩:∃ x,l[i]? = some x:=⟨l[i],by simp [hlt]⟩
      have hxl:=hxs hx
      have hrx:=hrc x
      have hPx:=fun {k:Nat} {y:Mm} (h:l[k]? = some y)=>hP hx h
      have hokx:=hok x
      have hptx:=hpt x
      have hmsx:=hms x
      have htsx:=hts x
      generalize cl x=cx at *
      generalize rc x=rx at *
      obtain ⟨⟨ma,mr⟩,t1,e1⟩:=rx
      obtain ⟨ca,cr⟩:=cx
      simp only at hrx hPx hokx hptx hmsx htsx
      have hkb:∃ kb:Nat,(i<i0→kb=l.length)∧(i=i0→kb=k0):=by
        by_cases h:i<i0
        · exact ⟨l.length,fun _=>rfl,fun e=>by omega⟩
        · exact ⟨k0,fun e=>by omega,fun _=>rfl⟩
      obtain ⟨kb,hkb1,hkb2⟩:=hkb
      have hkb3:kb≤l.length:=by
        rcases Nat.lt_or_ge i i0 with h | h
        · rw [hkb1 h];exact Nat.le_refl _
        · have e:i=i0:=by omega
          rw [hkb2 e];omega
      have step:∀ k,i<k→k≤kb→k<l.length→P i k=false→k+1≤kb:=fun k g1 g2 g3 g4=>by
        rcases Nat.lt_or_ge i i0 with h | h
        · rw [hkb1 h];omega
        · have e:i=i0:=by omega
          rw [hkb2 e] at g2 ⊢
          rcases Nat.lt_or_ge k k0 with h' | h'
          · omega
          · have e':k=k0:=by omega
            subst e e'
            rcases hyes with h'' | ⟨_,_,h''⟩
            · omega
            · rw [h''] at g4;cases g4
      have fin:∀ k,i<k→k≤kb→k<l.length→P i k=true→i=i0∧k=k0:=fun k g1 g2 g3 g4=>by
        have hn:=fun h=>hno i k g1 g3 h
        rw [g4] at hn
        rcases Nat.lt_or_ge i i0 with h | h
        · exact absurd (hn (.inl h)) (by simp)
        · have e:i=i0:=by omega
          refine ⟨e,?_⟩
          rw [hkb2 e] at g2
          rcases Nat.lt_or_ge k k0 with h' | h'
          · exact absurd (hn (.inr ⟨e,h'⟩)) (by simp)
          · omega
      cases e1 with
      | false =>
        have hii:i<i0:=by
          rcases Nat.lt_or_ge i i0 with h | h
          · exact h
          · have e:i=i0:=by omega
            subst e
            rcases hyes with h'' | ⟨_,h3,h''⟩
            · omega
            · obtain ⟨y,hy⟩:∃ y,l[k0]? = some y:=⟨l[k0],by simp⟩
              rw [hPx hy] at h''
              simp at h''
        obtain ⟨xa,xr⟩:=x
        refine drvL Tryz.func6 ?_
        simp only [go_sem,Mm.cells,hxl,hrl,hlt]
        iterate 6 ((try (refine drvZ Tryz.func6 ?_;simp only [go_sem,Mm.cells,hxl,hrl,hlt]));((with_reducible and_intros)<;>try exact sd);(try first | refine XK.p hrx ok25 ?_ | refine XK.gp hrx ok25 ?_))
        refine again (i+1) some [] _ (by omega) (by omega) ?_
        simp only [go_sem,TmOK,DM,DMs,CM,CMs,forall_eq,exists_eq_left,Mq,HpOK,LowOK]
        simp [cmT]
      | true =>
        obtain ⟨hco,hmx1⟩:=hokx rfl
        have hptx:=hptx hco hmx1
        obtain ⟨xa,xr⟩:=x
        refine drvL Tryz.func6 ?_
        simp only [go_sem,Mm.cells,hxl,hrl,hlt]
        iterate 6 ((try (refine drvZ Tryz.func6 ?_;simp only [go_sem,Mm.cells,hxl,hrl,hlt]));((with_reducible and_intros)<;>try exact sd);(try first | refine XK.p hrx ok25 ?_ | refine XK.gp hrx ok25 ?_))
        refine Go.loopQ (fun k:Nat=>[(1,.c (.isl 2 rows)),(2,.c (.ptr 0 0)),(7,.c (.ptr 384 0)),(8,DI .i64 i),(10,.c (trD t1)),(12,DI .i64 k)]) (fun k=>[(0,some [isI vs,isI ar,.isl 5 (li.map inX)]),(384,some (Pg.cells ⟨p1,p2,p3⟩))]) 8192 (fun k=>i<k∧k≤kb) (fun k=>l.length - k) ?_ (i+1) some [] _ ⟨by omega,by
          rcases Nat.lt_or_ge i i0 with h | h
          · rw [hkb1 h];omega
          · have e:i=i0:=by omega
            rw [hkb2 e];omega⟩ ?_
        · intro k ⟨hik,hkk⟩ again2
          rcases Nat.lt_or_ge k l.length with hkl | hkg
          · obtain ⟨y,hy⟩:∃ y,l[k]? = some y:=⟨l[k],by simp [hkl]⟩
            have hyl:=hxs hy
            have hPy:=hPx hy
            have hry:=hrc y
            have hfy:=hft y
            have hoky:=hok y
            have hpty:=hpt y hco
            have hmsy:=hmsx y hco hmx1
            have htsy:=htsx y
            have step:=step k hik hkk hkl
            have fin:=fin k hik hkk hkl
            rw [hPy] at step fin
            generalize cl y=cy at *
            generalize rc y=ry at *
            generalize mo y=fy at *
            obtain ⟨⟨mb,ms⟩,t2,e2⟩:=ry
            obtain ⟨cb,cs⟩:=cy
            generalize hqs:memSame ⟨ca,cr⟩ ⟨cb,cs⟩=qs at *
            simp only at hry hoky htsy step fin hmsy
            generalize hqt:trSame t1 t2=qt at *
            obtain ⟨ya,yr⟩:=y
            cases fy with
            | false =>
              have he2:e2=false:=by cases e2 with
                | false=>rfl
                | true=>exact absurd (hoky rfl).2 (by simp)
              subst he2
              refine drvL Tryz.func6 ?_
              simp only [go_sem,Mm.cells,hyl,hrl,hkl,hxl,hlt]
              iterate 6 ((try (refine drvZ Tryz.func6 ?_;simp only [go_sem,Mm.cells,hyl,hrl,hkl,hxl,hlt]));((with_reducible and_intros)<;>try exact sd);(try first | refine XK.p hfy ok26 ?_ | refine XK.gp hfy ok26 ?_ | refine XK.gs (DB false) ?_))
              refine again2 (k+1) some [] _ ⟨by omega,step (by simp)⟩ (by omega) ?_
              simp only [go_sem,TmOK,DM,DMs,CM,CMs,forall_eq,exists_eq_left,Mq,HpOK,LowOK]
              simp [cmT]
            | true =>
              have hpty:=hpty rfl
              cases qs with
              | false =>
                refine drvL Tryz.func6 ?_
                simp only [go_sem,Mm.cells,hyl,hrl,hkl,hxl,hlt]
                iterate 6 ((try (refine drvZ Tryz.func6 ?_;simp only [go_sem,Mm.cells,hyl,hrl,hkl,hxl,hlt]));((with_reducible and_intros)<;>try exact sd);(try first | refine XK.p hfy ok26 ?_ | refine XK.gp hfy ok26 ?_ | refine XK.p hptx ok28 ?_ | refine XK.gp hptx ok28 ?_ | refine XK.p hpty ok28 ?_ | refine XK.gp hpty ok28 ?_ | refine XK.p hmsy ok27 ?_ | refine XK.gp hmsy ok27 ?_))
                refine again2 (k+1) some [] _ ⟨by omega,step (by simp)⟩ (by omega) ?_
                simp only [go_sem,TmOK,DM,DMs,CM,CMs,forall_eq,exists_eq_left,Mq,HpOK,LowOK]
                simp [cmT]
              | true =>
                cases e2 with
                | false =>
                  refine drvL Tryz.func6 ?_
                  simp only [go_sem,Mm.cells,hyl,hrl,hkl,hxl,hlt]
                  iterate 8 ((try (refine drvZ Tryz.func6 ?_;simp only [go_sem,Mm.cells,hyl,hrl,hkl,hxl,hlt]));((with_reducible and_intros)<;>try exact sd);(try first | refine XK.p hfy ok26 ?_ | refine XK.gp hfy ok26 ?_ | refine XK.p hptx ok28 ?_ | refine XK.gp hptx ok28 ?_ | refine XK.p hpty ok28 ?_ | refine XK.gp hpty ok28 ?_ | refine XK.p hmsy ok27 ?_ | refine XK.gp hmsy ok27 ?_ | refine XK.p hry ok25 ?_ | refine XK.gp hry ok25 ?_ | refine XK.gs (DB false) ?_))
                  refine again2 (k+1) some [] _ ⟨by omega,step (by simp)⟩ (by omega) ?_
                  simp only [go_sem,TmOK,DM,DMs,CM,CMs,forall_eq,exists_eq_left,Mq,HpOK,LowOK]
                  simp [cmT]
                | true =>
                  cases qt with
                  | true =>
                    refine drvL Tryz.func6 ?_
                    simp only [go_sem,Mm.cells,hyl,hrl,hkl,hxl,hlt]
                    iterate 8 ((try (refine drvZ Tryz.func6 ?_;simp only [go_sem,Mm.cells,hyl,hrl,hkl,hxl,hlt]));((with_reducible and_intros)<;>try exact sd);(try first | refine XK.p hfy ok26 ?_ | refine XK.gp hfy ok26 ?_ | refine XK.p hptx ok28 ?_ | refine XK.gp hptx ok28 ?_ | refine XK.p hpty ok28 ?_ | refine XK.gp hpty ok28 ?_ | refine XK.p hmsy ok27 ?_ | refine XK.gp hmsy ok27 ?_ | refine XK.p hry ok25 ?_ | refine XK.gp hry ok25 ?_ | refine XK.p htsy ok29 ?_ | refine XK.gp htsy ok29 ?_))
                    refine again2 (k+1) some [] _ ⟨by omega,step (by simp)⟩ (by omega) ?_
                    simp only [go_sem,TmOK,DM,DMs,CM,CMs,forall_eq,exists_eq_left,Mq,HpOK,LowOK]
                    simp [cmT]
                  | false =>
                    obtain ⟨rfl,rfl⟩:=fin (by simp)
                    refine drvL Tryz.func6 ?_
                    simp only [go_sem,Mm.cells,hyl,hrl,hkl,hxl,hlt]
                    iterate 14 ((try (refine drvZ Tryz.func6 ?_;simp only [go_sem,Mm.cells,hyl,hrl,hkl,hxl,hlt]));((with_reducible and_intros)<;>try exact sd);(try first | refine XK.p hfy ok26 ?_ | refine XK.gp hfy ok26 ?_ | refine XK.p hptx ok28 ?_ | refine XK.gp hptx ok28 ?_ | refine XK.p hpty ok28 ?_ | refine XK.gp hpty ok28 ?_ | refine XK.p hmsy ok27 ?_ | refine XK.gp hmsy ok27 ?_ | refine XK.p hry ok25 ?_ | refine XK.gp hry ok25 ?_ | refine XK.p htsy ok29 ?_ | refine XK.gp htsy ok29 ?_))
                    exact ret2 _ (by omega)
          · have hii:i<i0:=by
              rcases Nat.lt_or_ge i i0 with h | h
              · exact h
              · have e:i=i0:=by omega
                have:=hkb2 e
                omega
            have hn:¬ k<l.length:=by omega
            refine drvL Tryz.func6 ?_
            simp only [go_sem,hn,hrl]
            iterate 4 ((try (refine drvZ Tryz.func6 ?_;simp only [go_sem,hn,hrl]));((with_reducible and_intros)<;>try exact sd))
            refine again (i+1) some [] _ (by omega) (by omega) ?_
            simp only [go_sem,TmOK,DM,DMs,CM,CMs,forall_eq,exists_eq_left,Mq,HpOK,LowOK]
            simp [cmT]
        · simp only [go_sem,TmOK,DM,DMs,CM,CMs,forall_eq,exists_eq_left,Mq,HpOK,LowOK]
          simp [cmT]
    · have hn:¬ i<l.length:=by omega
      refine drvL Tryz.func6 ?_
      simp only [go_sem,hn,hrl]
      iterate 3 ((try (refine drvZ Tryz.func6 ?_;simp only [go_sem,hn,hrl]));((with_reducible and_intros)<;>try exact sd))
      exact ret1 _ (by omega)
  · simp only [go_sem,TmOK,DM,DMs,CM,CMs,forall_eq,exists_eq_left,Mq,HpOK,LowOK]
    simp [cmT]
open CtL (In Cd codeOK runC)
def fdT (rc:Mm→Mm × List Ev × Bool) (l:List Mm) (n:Nat):List (List Ev):=(List.range n).map fun j=>(rc (fdM l j)).2.1
def fdE (rc:Mm→Mm × List Ev × Bool) (l:List Mm) (n:Nat):List Bool:=(List.range n).map fun j=>(rc (fdM l j)).2.2
theorem fdT_len (rc:Mm→Mm × List Ev × Bool) (l:List Mm) (n:Nat):(fdT rc l n).length=n:=by simp [fdT]
theorem fdE_len (rc:Mm→Mm × List Ev × Bool) (l:List Mm) (n:Nat):(fdE rc l n).length=n:=by simp [fdE]
theorem fdT_succ {rc:Mm→Mm × List Ev × Bool} {l:List Mm} {n:Nat} {x:Mm} (h:l[n]? = some x):fdT rc l (n+1)=fdT rc l n++[(rc x).2.1]:=by simp [fdT,List.range_succ,fd_at h]
theorem fdE_succ {rc:Mm→Mm × List Ev × Bool} {l:List Mm} {n:Nat} {x:Mm} (h:l[n]? = some x):fdE rc l (n+1)=fdE rc l n++[(rc x).2.2]:=by simp [fdE,List.range_succ,fd_at h]
theorem fdT_at {rc:Mm→Mm × List Ev × Bool} {l:List Mm} {n i:Nat} {x:Mm} (hi:i<n) (h:l[i]? = some x):(trsC (fdT rc l n))[i]? = some (trD (rc x).2.1):=by simp [trsC,fdT,hi,fd_at h]
theorem fdE_at {rc:Mm→Mm × List Ev × Bool} {l:List Mm} {n i:Nat} {x:Mm} (hi:i<n) (h:l[i]? = some x):(boolsC (fdE rc l n))[i]? = some (.v (.bool (rc x).2.2)):=by simp [boolsC,fdE,hi,fd_at h]
theorem findI (c : Cd) (l : List Mm) (i0 k0 : Nat) (h1 : c.vars.length ≤ 2000000) (h2 : c.arrays.length ≤ 2000000) (h3 : c.list.length ≤ 100000000) (hl : l.length ≤ 1048576) (hf : FD c l i0 k0) :
    DC Tryz.prog 5 [.agg (cdC c),.c (.isl 2 (l.map Mm.cells))] [] (fun r h=>r=fdR l i0 k0∧h=[]):=by
  have hmx:=mx_eq
  have ret1:∀ hp,i0=l.length→RetOb 0 (fun r h=>r=fdR l i0 k0∧h=[]) (.tup [DI .i64 0,DI .i64 0,DB false]) hp:=fun hp h=>by
    unfold fdR;rw [if_pos h]
    refine RetOb.ofQ (fun _=>none) [] _ [] ?_ ⟨rfl,rfl⟩ (by simp)
    simp [enumL,DM,DMs,CM,CMs,HpOK,LowOK]
  have ret2:∀ hp,i0 ≠ l.length→RetOb 0 (fun r h=>r=fdR l i0 k0∧h=[]) (.tup [DI .i64 i0,DI .i64 k0,DB true]) hp:=fun hp h=>by
    unfold fdR;rw [if_neg h]
    refine RetOb.ofQ (fun _=>none) [] _ [] ?_ ⟨rfl,rfl⟩ (by simp)
    simp [enumL,DM,DMs,CM,CMs,HpOK,LowOK]
  generalize hR:(fun (r:D) (h:List (Option (List C)))=>r=fdR l i0 k0∧h=[])=R at ret1 ret2 ⊢
  clear hR
  have hrc:=fun m=>runCodeG c m h1 h2 h3
  have hpt:∀ m,codeOK c=true→memOK c.vars c.arrays m=true→DC Tryz.prog 23 [ints c.vars,ints c.arrays,.agg m.cells,.c (.clo 24 [])] [] (fun r h=>r = .agg (clrM secQ c.vars c.arrays m).cells∧h=[]):=fun m hc hm=>by
    have g:=fits_of hc hm
    exact cleared c.vars c.arrays m g.nv g.na (by have h:=g.nv12.2;simp only [hdC] at h;omega) g.na2 (fun a h=>(g.arr a h).1) 24 ok24 secQ (fun x hx=>by
      obtain ⟨a,ha,rfl⟩:∃ a:Nat,a≤3∧x=(a:Int):=hx.elim (labX (codeOK_labs hc).1) (labX (codeOK_labs hc).2)
      exact labelSecretI a ha)
  have hms:∀ a b,codeOK c=true→memOK c.vars c.arrays a=true→DC Tryz.prog 10 [.agg (clrM secQ c.vars c.arrays a).cells,.agg (clrM secQ c.vars c.arrays b).cells] [] (fun r h=>r=DB (memSame (clrM secQ c.vars c.arrays a) (clrM secQ c.vars c.arrays b))∧h=[]):=fun a b hc hm=>by
    have g:=fits_of hc hm
    have hq:=clrM_len (vs:=c.vars) (ar:=c.arrays) (m:=a) g.nv g.na (fun a h=>(g.arr a h).1)
    exact memorySame _ _ (by omega) (by omega) (fun x hx=>by have:=hq.2.2 x hx;omega)
  have hts:=fun a b=>traceSame (runC c a).2.1 (runC c b).2.1 (by have:=runC_len c a;omega)
  have hno:=hf.no
  have hyes:=hf.yes
  have hle:=hf.le
  have hok:=fun m=>runC_ok (c:=c) (m:=m)
  have hxs:∀ {i:Nat} {x:Mm},l[i]? = some x→(l.map Mm.cells)[i]? = some x.cells:=fun h=>by rw [List.getElem?_map,h];rfl
  have hrl:(l.map Mm.cells).length=l.length:=by simp
  generalize l.map Mm.cells=rows at *
  have hP:=fun {i k:Nat} {x y:Mm} (hx:l[i]? = some x) (hy:l[k]? = some y)=>show fdP c l i k=((runC c x).2.2 && ((runC c y).2.2 && (!trSame (runC c x).2.1 (runC c y).2.1 && memSame (clrM secQ c.vars c.arrays x) (clrM secQ c.vars c.arrays y)))) by unfold fdP;rw [fd_at hx,fd_at hy]
  clear hf
  generalize runC c=rc at *
  have htl:=fdT_len rc l
  have hel:=fdE_len rc l
  have hts1:=fun {n:Nat} {x:Mm} h=>@fdT_succ _ rc l n x h
  have hes1:=fun {n:Nat} {x:Mm} h=>@fdE_succ _ rc l n x h
  have hta:=fun {i:Nat} {x:Mm} (hi:i<l.length) h=>@fdT_at _ rc l l.length i x hi h
  have hea:=fun {i:Nat} {x:Mm} (hi:i<l.length) h=>@fdE_at _ rc l l.length i x hi h
  have hT0:fdT rc l 0=[]:=rfl
  have hE0:fdE rc l 0=[]:=rfl
  generalize fdT rc l=TT at *
  generalize fdE rc l=EE at *
  generalize clrM secQ c.vars c.arrays=cl at *
  generalize memOK c.vars c.arrays=mo at *
  generalize codeOK c=co at *
  generalize fdP c l=P at *
  obtain ⟨vs,ar,li⟩:=c
  simp only [cdC,ints] at *
  refine dcZ Tryz.func5 ?_
  simp only [go_sem]
  iterate 4 ((try (refine drvZ Tryz.func5 ?_;simp only [go_sem,hrl]));((with_reducible and_intros)<;>try exact sd))
  refine Go.loopQ (fun i:Nat=>[(1,.c (.isl 2 rows)),(2,.c (.ptr 0 0)),(7,.c (.msl 64 1 0 i)),(8,.c (.msl 128 1 0 i)),(18,.c (.isl 2 rows)),(19,DI .i64 l.length),(20,DI .i64 i)]) (fun i=>[(0,some [isI vs,isI ar,.isl 5 (li.map inX)]),(64,some (trsC (TT i))),(128,some (boolsC (EE i)))]) 4096 (fun i=>i≤l.length) (fun i=>l.length - i) ?_ 0 (fun j=>if j=64 then none else if j=128 then none else some j) [] _ (Nat.zero_le _) ?_
  · intro i hi again
    rcases Nat.lt_or_ge i l.length with hlt | hge
    · obtain ⟨x,hx⟩:∃ x,l[i]? = some x:=⟨l[i],by simp [hlt]⟩
      have hxl:=hxs hx
      have hrx:=hrc x
      have ht1:=hts1 hx
      have he1:=hes1 hx
      have htn:=htl i
      have hen:=hel i
      have htn2:=trsC_len (TT i)
      have hen2:(boolsC (EE i)).length=(EE i).length:=by simp [boolsC]
      generalize rc x=rx at *
      obtain ⟨⟨ma,mr⟩,t1,e1⟩:=rx
      simp only at hrx ht1 he1
      obtain ⟨xa,xr⟩:=x
      have hm1:(i+1≤mx)=True:=eq_true (by rw [mx_eq];omega)
      have hm2:(1≤mx)=True:=eq_true (by rw [mx_eq];omega)
      refine drvL Tryz.func5 ?_
      simp only [go_sem,Mm.cells,hxl,hrl,hlt]
      iterate 10 ((try (refine drvZ Tryz.func5 ?_;simp only [go_sem,Mm.cells,hxl,hrl,hlt,htn,hen,htn2,hen2,hm1,hm2]));((with_reducible and_intros)<;>try exact sd);(try first | refine XK.p hrx ok8 ?_ | refine XK.gp hrx ok8 ?_))
      refine again (i+1) (fun j=>if j=64 then some 5312 else if j=128 then some 5568 else some j) [] _ (by omega) (by omega) ?_
      simp only [go_sem,TmOK,DM,DMs,CM,CMs,forall_eq,exists_eq_left,Mq,HpOK,LowOK,ht1,he1,trsC_snoc,boolsC_snoc]
      simp
      exact ⟨CMs.kf (kf_app (trsC_kf _) (by simp [kf,trD])),CMs.kf (kf_app (boolsC_kf _) (by simp [kf]))⟩
    · have hn:¬ i<l.length:=by omega
      obtain rfl:i=l.length:=by omega
      refine drvL Tryz.func5 ?_
      simp only [go_sem,hn,hrl]
      iterate 4 ((try (refine drvZ Tryz.func5 ?_;simp only [go_sem,hn,hrl]));((with_reducible and_intros)<;>try exact sd))
      have htn:=htl l.length
      have hen:=hel l.length
      have htn2:=trsC_len (TT l.length)
      have hen2:(boolsC (EE l.length)).length=(EE l.length).length:=by simp [boolsC]
      clear hts1 hes1 hT0 hE0 again htl hel
      refine Go.loopQ (fun i:Nat=>[(1,.c (.isl 2 rows)),(2,.c (.ptr 0 0)),(7,.c (.msl 64 1 0 l.length)),(8,.c (.msl 128 1 0 l.length)),(41,DI .i64 l.length),(42,DI .i64 i)]) (fun i=>[(0,some [isI vs,isI ar,.isl 5 (li.map inX)]),(64,some (trsC (TT l.length))),(128,some (boolsC (EE l.length)))]) 8192 (fun i=>i≤i0) (fun i=>l.length - i) ?_ 0 some [] _ (Nat.zero_le _) ?_
      · intro i hi again
        rcases Nat.lt_or_ge i l.length with hlt | hge
        · obtain ⟨x,hx⟩:∃ x,l[i]? = some x:=⟨l[i],by simp [hlt]⟩
          have hxl:=hxs hx
          have hPx:=fun {k:Nat} {y:Mm} (h:l[k]? = some y)=>hP hx h
          have hokx:=hok x
          have hptx:=hpt x
          have hmsx:=hms x
          have htsx:=hts x
          have htx:=hta hlt hx
          have hex:=hea hlt hx
          generalize cl x=cx at *
          generalize rc x=rx at *
          obtain ⟨⟨ma,mr⟩,t1,e1⟩:=rx
          obtain ⟨ca,cr⟩:=cx
          simp only at hPx hokx hptx hmsx htsx htx hex
          have hkb:∃ kb:Nat,(i<i0→kb=l.length)∧(i=i0→kb=k0):=by
            by_cases h:i<i0
            · exact ⟨l.length,fun _=>rfl,fun e=>by omega⟩
            · exact ⟨k0,fun e=>by omega,fun _=>rfl⟩
          obtain ⟨kb,hkb1,hkb2⟩:=hkb
          have hkb3:kb≤l.length:=by
            rcases Nat.lt_or_ge i i0 with h | h
            · rw [hkb1 h];exact Nat.le_refl _
            · have e:i=i0:=by omega
              rw [hkb2 e];omega
          have step:∀ k,i<k→k≤kb→k<l.length→P i k=false→k+1≤kb:=fun k g1 g2 g3 g4=>by
            rcases Nat.lt_or_ge i i0 with h | h
            · rw [hkb1 h];omega
            · have e:i=i0:=by omega
              rw [hkb2 e] at g2 ⊢
              rcases Nat.lt_or_ge k k0 with h' | h'
              · omega
              · have e':k=k0:=by omega
                subst e e'
                rcases hyes with h'' | ⟨_,_,h''⟩
                · omega
                · rw [h''] at g4;cases g4
          have fin:∀ k,i<k→k≤kb→k<l.length→P i k=true→i=i0∧k=k0:=fun k g1 g2 g3 g4=>by
            have hn:=fun h=>hno i k g1 g3 h
            rw [g4] at hn
            rcases Nat.lt_or_ge i i0 with h | h
            · exact absurd (hn (.inl h)) (by simp)
            · have e:i=i0:=by omega
              refine ⟨e,?_⟩
              rw [hkb2 e] at g2
              rcases Nat.lt_or_ge k k0 with h' | h'
              · exact absurd (hn (.inr ⟨e,h'⟩)) (by simp)
              · omega
          have hmxx:e1=true→mo x=true:=fun h=>(hokx h).2
          have hcoo:e1=true→co=true:=fun h=>(hokx h).1
          obtain ⟨xa,xr⟩:=x
          refine drvL Tryz.func5 ?_
          simp only [go_sem,Mm.cells,hxl,hrl,hlt]
          iterate 6 ((try (refine drvZ Tryz.func5 ?_;simp only [go_sem,Mm.cells,hxl,hrl,hlt]));((with_reducible and_intros)<;>try exact sd))
          refine Go.loopQ (fun k:Nat=>[(1,.c (.isl 2 rows)),(2,.c (.ptr 0 0)),(7,.c (.msl 64 1 0 l.length)),(8,.c (.msl 128 1 0 l.length)),(41,DI .i64 l.length),(42,DI .i64 i),(14,DI .i64 i),(15,DI .i64 k)]) (fun k=>[(0,some [isI vs,isI ar,.isl 5 (li.map inX)]),(64,some (trsC (TT l.length))),(128,some (boolsC (EE l.length)))]) 16384 (fun k=>i<k∧k≤kb) (fun k=>l.length - k) ?_ (i+1) some [] _ ⟨by omega,by
            rcases Nat.lt_or_ge i i0 with h | h
            · rw [hkb1 h];omega
            · have e:i=i0:=by omega
              rw [hkb2 e];omega⟩ ?_
          · intro k ⟨hik,hkk⟩ again2
            rcases Nat.lt_or_ge k l.length with hkl | hkg
            · obtain ⟨y,hy⟩:∃ y,l[k]? = some y:=⟨l[k],by simp [hkl]⟩
              have hyl:=hxs hy
              have hPy:=hPx hy
              have hoky:=hok y
              have hpty:=hpt y
              have hmsy:=hmsx y
              have htsy:=htsx y
              have hty:=hta hkl hy
              have hey:=hea hkl hy
              have step:=step k hik hkk hkl
              have fin:=fin k hik hkk hkl
              rw [hPy] at step fin
              generalize cl y=cy at *
              generalize rc y=ry at *
              generalize mo y=fy at *
              obtain ⟨⟨mb,ms⟩,t2,e2⟩:=ry
              obtain ⟨cb,cs⟩:=cy
              generalize hqs:memSame ⟨ca,cr⟩ ⟨cb,cs⟩=qs at *
              simp only at hoky htsy step fin hmsy hty hey
              generalize hqt:trSame t1 t2=qt at *
              obtain ⟨ya,yr⟩:=y
              cases e1 with
              | false =>
                refine drvL Tryz.func5 ?_
                simp only [go_sem,Mm.cells,hyl,hrl,hkl,hxl,hlt,htx,hex,hty,hey,htn,hen,htn2,hen2]
                iterate 8 ((try (refine drvZ Tryz.func5 ?_;simp only [go_sem,Mm.cells,hyl,hrl,hkl,hxl,hlt,htx,hex,hty,hey,htn,hen,htn2,hen2]));((with_reducible and_intros)<;>try exact sd);(try first | refine XK.gs (DB false) ?_))
                refine again2 (k+1) some [] _ ⟨by omega,step (by simp)⟩ (by omega) ?_
                simp only [go_sem,TmOK,DM,DMs,CM,CMs,forall_eq,exists_eq_left,Mq,HpOK,LowOK]
                simp
                exact ⟨CMs.kf (trsC_kf _),CMs.kf (boolsC_kf _)⟩
              | true =>
                have hco:=hcoo rfl
                have hmx1:=hmxx rfl
                have hptx:=hptx hco hmx1
                cases e2 with
                | false =>
                  refine drvL Tryz.func5 ?_
                  simp only [go_sem,Mm.cells,hyl,hrl,hkl,hxl,hlt,htx,hex,hty,hey,htn,hen,htn2,hen2]
                  iterate 8 ((try (refine drvZ Tryz.func5 ?_;simp only [go_sem,Mm.cells,hyl,hrl,hkl,hxl,hlt,htx,hex,hty,hey,htn,hen,htn2,hen2]));((with_reducible and_intros)<;>try exact sd);(try first | refine XK.gs (DB false) ?_))
                  refine again2 (k+1) some [] _ ⟨by omega,step (by simp)⟩ (by omega) ?_
                  simp only [go_sem,TmOK,DM,DMs,CM,CMs,forall_eq,exists_eq_left,Mq,HpOK,LowOK]
                  simp
                  exact ⟨CMs.kf (trsC_kf _),CMs.kf (boolsC_kf _)⟩
                | true =>
                  have hpty:=hpty hco (hoky rfl).2
                  have hmsy:=hmsy hco hmx1
                  cases qt with
                  | true =>
                    refine drvL Tryz.func5 ?_
                    simp only [go_sem,Mm.cells,hyl,hrl,hkl,hxl,hlt,htx,hex,hty,hey,htn,hen,htn2,hen2]
                    iterate 8 ((try (refine drvZ Tryz.func5 ?_;simp only [go_sem,Mm.cells,hyl,hrl,hkl,hxl,hlt,htx,hex,hty,hey,htn,hen,htn2,hen2]));((with_reducible and_intros)<;>try exact sd);(try first | refine XK.p htsy ok11 ?_ | refine XK.gp htsy ok11 ?_))
                    refine again2 (k+1) some [] _ ⟨by omega,step (by simp)⟩ (by omega) ?_
                    simp only [go_sem,TmOK,DM,DMs,CM,CMs,forall_eq,exists_eq_left,Mq,HpOK,LowOK]
                    simp
                    exact ⟨CMs.kf (trsC_kf _),CMs.kf (boolsC_kf _)⟩
                  | false =>
                    cases qs with
                    | false =>
                      refine drvL Tryz.func5 ?_
                      simp only [go_sem,Mm.cells,hyl,hrl,hkl,hxl,hlt,htx,hex,hty,hey,htn,hen,htn2,hen2]
                      iterate 10 ((try (refine drvZ Tryz.func5 ?_;simp only [go_sem,Mm.cells,hyl,hrl,hkl,hxl,hlt,htx,hex,hty,hey,htn,hen,htn2,hen2]));((with_reducible and_intros)<;>try exact sd);(try first | refine XK.p htsy ok11 ?_ | refine XK.gp htsy ok11 ?_ | refine XK.p hptx ok23 ?_ | refine XK.gp hptx ok23 ?_ | refine XK.p hpty ok23 ?_ | refine XK.gp hpty ok23 ?_ | refine XK.p hmsy ok10 ?_ | refine XK.gp hmsy ok10 ?_))
                      refine again2 (k+1) some [] _ ⟨by omega,step (by simp)⟩ (by omega) ?_
                      simp only [go_sem,TmOK,DM,DMs,CM,CMs,forall_eq,exists_eq_left,Mq,HpOK,LowOK]
                      simp
                      exact ⟨CMs.kf (trsC_kf _),CMs.kf (boolsC_kf _)⟩
                    | true =>
                      obtain ⟨rfl,rfl⟩:=fin (by simp)
                      refine drvL Tryz.func5 ?_
                      simp only [go_sem,Mm.cells,hyl,hrl,hkl,hxl,hlt,htx,hex,hty,hey,htn,hen,htn2,hen2]
                      iterate 16 ((try (refine drvZ Tryz.func5 ?_;simp only [go_sem,Mm.cells,hyl,hrl,hkl,hxl,hlt,htx,hex,hty,hey,htn,hen,htn2,hen2]));((with_reducible and_intros)<;>try exact sd);(try first | refine XK.p htsy ok11 ?_ | refine XK.gp htsy ok11 ?_ | refine XK.p hptx ok23 ?_ | refine XK.gp hptx ok23 ?_ | refine XK.p hpty ok23 ?_ | refine XK.gp hpty ok23 ?_ | refine XK.p hmsy ok10 ?_ | refine XK.gp hmsy ok10 ?_))
                      exact ret2 _ (by omega)
            · have hii:i<i0:=by
                rcases Nat.lt_or_ge i i0 with h | h
                · exact h
                · have e:i=i0:=by omega
                  have:=hkb2 e
                  omega
              have hn:¬ k<l.length:=by omega
              refine drvL Tryz.func5 ?_
              simp only [go_sem,hn,hrl]
              iterate 4 ((try (refine drvZ Tryz.func5 ?_;simp only [go_sem,hn,hrl]));((with_reducible and_intros)<;>try exact sd))
              refine again (i+1) some [] _ (by omega) (by omega) ?_
              simp only [go_sem,TmOK,DM,DMs,CM,CMs,forall_eq,exists_eq_left,Mq,HpOK,LowOK]
              simp
              exact ⟨CMs.kf (trsC_kf _),CMs.kf (boolsC_kf _)⟩
          · simp only [go_sem,TmOK,DM,DMs,CM,CMs,forall_eq,exists_eq_left,Mq,HpOK,LowOK]
            simp
            exact ⟨CMs.kf (trsC_kf _),CMs.kf (boolsC_kf _)⟩
        · have hn:¬ l.length<l.length:=by omega
          obtain rfl:i=l.length:=by omega
          refine drvL Tryz.func5 ?_
          simp only [go_sem,hn,hrl]
          iterate 4 ((try (refine drvZ Tryz.func5 ?_;simp only [go_sem,hn,hrl]));((with_reducible and_intros)<;>try exact sd))
          exact ret1 _ (by omega)
      · simp only [go_sem,TmOK,DM,DMs,CM,CMs,forall_eq,exists_eq_left,Mq,HpOK,LowOK]
        simp
        exact ⟨CMs.kf (trsC_kf _),CMs.kf (boolsC_kf _)⟩
  · simp only [go_sem,TmOK,DM,DMs,CM,CMs,forall_eq,exists_eq_left,Mq,HpOK,LowOK,hT0,hE0,trsC,boolsC]
    simp
end Go.Proofs.YtoakidkcppinpaaGreat.CtD
namespace Go.Proofs.YtoakidkcppinpaaGreat.CtL
variable [Go.CT.Yn]
open Go Go.CT CtF CtR
def tgt (x:In):Int:=if x.op=8 then x.a else if x.op=9∨x.op=10 then x.b else -1
theorem tgt_no {x:In} (h8:x.op ≠ 8) (h9:x.op ≠ 9) (h10:x.op ≠ 10):tgt x = -1:=by simp [tgt,h8,h9,h10]
def tlE (x:In) (regs:List Int):List Ev :=
  if x.op=4 then [⟨2,x.b * 4+nth regs x.c % 4⟩] else if x.op=5 then [⟨3,x.a * 4+nth regs x.b % 4⟩] else if x.op=11 then [⟨4,nth regs x.a⟩] else []
theorem stpEv (x:In) (s:Mc):(stepM x s).2=⟨5,s.pc⟩ :: tlE x s.regs:=by
  by_cases h1:x.op=1
  · simp [stepM,tlE,h1]
  by_cases h2:x.op=2
  · simp [stepM,tlE,h2]
  by_cases h3:x.op=3
  · simp [stepM,tlE,h3]
  by_cases h4:x.op=4
  · simp [stepM,tlE,h4]
  by_cases h5:x.op=5
  · simp [stepM,tlE,h5]
  by_cases h6:x.op=6
  · simp [stepM,tlE,h6]
  by_cases h7:x.op=7
  · simp [stepM,tlE,h7]
  by_cases h8:x.op=8
  · simp [stepM,tlE,h8]
  by_cases h9:x.op=9
  · simp [stepM,tlE,h9]
  by_cases h10:x.op=10
  · simp [stepM,tlE,h10]
  by_cases h11:x.op=11
  · simp [stepM,tlE,h11]
  by_cases h13:x.op=13
  · simp [stepM,tlE,h13]
  simp [stepM,tlE,h1,h2,h3,h4,h5,h6,h7,h8,h9,h10,h11,h13]
def taken (x:In) (regs:List Int):Bool:=decide (x.op=8) || (decide (x.op=9) && decide (nth regs x.a=0)) || (decide (x.op=10) && decide ((nth regs x.a+255) % 256 ≠ 0))
theorem stpPc (x:In) (s:Mc) (h13:x.op ≠ 13):(stepM x s).1.pc=if taken x s.regs then (tgt x).toNat else s.pc+1:=by
  by_cases h1:x.op=1
  · simp [stepM,taken,h1]
  by_cases h2:x.op=2
  · simp [stepM,taken,h2]
  by_cases h3:x.op=3
  · simp [stepM,taken,h3]
  by_cases h4:x.op=4
  · simp [stepM,taken,h4]
  by_cases h5:x.op=5
  · simp [stepM,taken,h5]
  by_cases h6:x.op=6
  · simp [stepM,taken,h6]
  by_cases h7:x.op=7
  · simp [stepM,taken,h7]
  by_cases h8:x.op=8
  · simp [stepM,taken,tgt,h8]
  by_cases h9:x.op=9
  · simp [stepM,taken,tgt,h9]
  by_cases h10:x.op=10
  · by_cases q:(nth s.regs x.a+255) % 256=0<;>simp [stepM,taken,tgt,h10,q]
  by_cases h11:x.op=11
  · simp [stepM,taken,h11]
  simp [stepM,taken,h1,h2,h3,h4,h5,h6,h7,h8,h9,h10,h11,h13]
theorem atC_get {C:List In} {i:Nat} {x:In} (h:C[i]? = some x):atC C i=x:=by simp [atC,List.getD,h]
theorem atC_lt {C:List In} {i:Nat} (h:i<C.length):C[i]? = some (atC C i):=by simp [atC,List.getD,h]
def WfC (C:List In):Prop:=∀ i,i<C.length→((atC C i).op=8∨(atC C i).op=9∨(atC C i).op=10→0≤tgt (atC C i)∧(tgt (atC C i)).toNat<C.length)∧((atC C i).op ≠ 8→(atC C i).op ≠ 13→i+1<C.length)
theorem wf_of {c:Cd} (h:codeOK c=true):WfC c.list:=by
  simp only [codeOK,Bool.and_eq_true,decide_eq_true_eq,List.all_eq_true] at h
  obtain ⟨⟨⟨⟨_,h1⟩,h2⟩,h3⟩,h4⟩:=h
  intro i hi
  have hx:=h3 _ (List.mem_of_getElem? (atC_lt hi))
  refine ⟨fun ho=>?_,fun h8 h13=>?_⟩
  · simp only [inOK,Bool.and_eq_true,decide_eq_true_eq,fOK] at hx
    rcases ho with ho | ho | ho
    · have hk:kindsOf (atC c.list i).op=[6,0,0,0]:=by simp [kindsOf,ho]
      simp [hk,topOf] at hx
      simp only [tgt,ho,if_true]
      omega
    · have hk:kindsOf (atC c.list i).op=[1,6,0,0]:=by simp [kindsOf,ho]
      simp [hk,topOf] at hx
      simp [tgt,ho]
      omega
    · have hk:kindsOf (atC c.list i).op=[1,6,0,0]:=by simp [kindsOf,ho]
      simp [hk,topOf] at hx
      simp [tgt,ho]
      omega
  · rcases Nat.lt_or_ge (i+1) c.list.length with q | q
    · exact q
    · have:i=c.list.length - 1:=by omega
      simp only [endOK,Bool.or_eq_true,beq_iff_eq] at h4
      rw [← this] at h4
      omega
theorem step_lt {C:List In} (hw:WfC C) {s:Mc} (hs:s.pc<C.length):(stepM (atC C s.pc) s).1.pc<C.length:=by
  by_cases h13:(atC C s.pc).op=13
  · simpa [stepM,h13] using hs
  · rw [stpPc _ _ h13]
    obtain ⟨h1,h2⟩:=hw s.pc hs
    split
    · rename_i ht
      simp only [taken,Bool.or_eq_true,Bool.and_eq_true,decide_eq_true_eq] at ht
      exact (h1 (by omega)).2
    · rename_i ht
      refine h2 (fun h=>?_) h13
      simp [taken,h] at ht
open Go Go.CT CtF CtR
open Go Go.CT CtF CtR
open Go Go.CT CtF CtR
def folM (C:List In) (i:Nat):List Nat:=(if 0≤tgt (atC C i) then [(tgt (atC C i)).toNat] else [])++(if (atC C i).op ≠ 8∧(atC C i).op ≠ 13 then [i+1] else [])
theorem follow_lt {C:List In} (hw:WfC C) {i k:Nat} (hi:i<C.length) (hk:k ∈ folM C i):k<C.length:=by
  obtain ⟨h1,h2⟩:=hw i hi
  unfold folM at hk
  rcases List.mem_append.1 hk with hk | hk
  · by_cases h0:0≤tgt (atC C i)
    · rw [if_pos h0,List.mem_singleton] at hk
      subst hk
      have ho:(atC C i).op=8∨(atC C i).op=9∨(atC C i).op=10:=Classical.byContradiction fun hn=>by
        rw [tgt_no (by omega) (by omega) (by omega)] at h0
        omega
      exact (h1 ho).2
    · rw [if_neg h0] at hk;simp at hk
  · by_cases h0:(atC C i).op ≠ 8∧(atC C i).op ≠ 13
    · rw [if_pos h0,List.mem_singleton] at hk
      subst hk
      exact h2 h0.1 h0.2
    · rw [if_neg h0] at hk;simp at hk
open Classical in
theorem follow_tgt {C:List In} {i:Nat} (h:0≤tgt (atC C i)):(tgt (atC C i)).toNat ∈ folM C i:=by
  unfold folM;rw [if_pos h];simp
theorem follow_next {C:List In} {i:Nat} (h8:(atC C i).op ≠ 8) (h13:(atC C i).op ≠ 13):i+1 ∈ folM C i:=List.mem_append_right _ (by rw [if_pos ⟨h8,h13⟩];simp)
end Go.Proofs.YtoakidkcppinpaaGreat.CtL
