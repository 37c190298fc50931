/- Contracts of functions of the program, one behind the other, as plain data: what each call returns and which blocks it leaves. -/
import Derived.Test.YtoakidkcppinpaaGreatDFacts
import Derived.Test.YtoakidkcppinpaaGreatDAi
import Derived.Test.YtoakidkcppinpaaGreatDAl
import Derived.Test.YtoakidkcppinpaaGreatDAm
import Derived.Test.YtoakidkcppinpaaGreatDAn
import Derived.Test.YtoakidkcppinpaaGreatDAp
import Derived.Test.YtoakidkcppinpaaGreatDAq
set_option linter.unusedVariables false
set_option linter.unusedSimpArgs false
set_option linter.unusedSectionVars false
set_option maxHeartbeats 16000000
set_option maxRecDepth 100000
namespace Go.Proofs.YtoakidkcppinpaaGreat.CtR
open Go Go.CT CtF
variable [Yn]
theorem lab_at {l:List Int} (h:lab3 l) {t:Int} (h0:0≤t) (h1:t<l.length):∃ T:Nat,T≤3∧(nth l t).toNat=T∧l[t.toNat]? = some (T:Int):=by
 have h2:=nth_lab h t
 have h3:=(nth_mem h0 h1).1
 exact ⟨(nth l t).toNat,by omega,rfl,by rw [h3];congr 1;omega⟩
theorem own1 (vs ar : List Int) (strict : Bool) (t : Int) (ix v : Ex) (cc : Int) (b e : List St1) (c : Nat) :
 ownR strict vs ar (.mk 1 t ix v cc b e) c=if subL (labN vs ar 5 v ||| c) (nth vs t).toNat=true then (if strict=true then (if secE vs ar 5 v=true then 4 else 0) else 0) else 1:=by
 have hf:flowR vs ar (.mk 1 t ix v cc b e) c=if subL (labN vs ar 5 v ||| c) (nth vs t).toNat=true then 0 else 1:=rfl
 have hk:leakR vs ar (.mk 1 t ix v cc b e) c=if secE vs ar 5 v=true then 4 else 0:=by
  cases hse:secE vs ar 5 v<;>simp [leakR,St1.kind,St1.value,St1.index,hse]
 unfold ownR
 rw [hf,hk]
 cases subL (labN vs ar 5 v ||| c) (nth vs t).toNat<;>simp
theorem own2 (vs ar : List Int) (strict : Bool) (t : Int) (ix v : Ex) (cc : Int) (b e : List St1) (c : Nat) :
 ownR strict vs ar (.mk 2 t ix v cc b e) c=if subL (labN vs ar 5 v ||| labN vs ar 5 ix ||| c) (nth ar t).toNat=true then (if strict=true then (if secE vs ar 5 v || secL (labN vs ar 5 ix) then 4 else 0) else 0) else 1:=by
 have hst:storedN vs ar (.mk 2 t ix v cc b e) c=labN vs ar 5 v ||| labN vs ar 5 ix ||| c:=by
  have:storedN vs ar (.mk 2 t ix v cc b e) c=labN vs ar 5 v ||| c ||| labN vs ar 5 ix:=rfl
  rw [this,Nat.or_assoc,Nat.or_comm c,← Nat.or_assoc]
 have hf:flowR vs ar (.mk 2 t ix v cc b e) c=if subL (labN vs ar 5 v ||| labN vs ar 5 ix ||| c) (nth ar t).toNat=true then 0 else 1:=by
  rw [← hst];rfl
 unfold ownR
 rw [hf]
 have hk:leakR vs ar (.mk 2 t ix v cc b e) c=if secE vs ar 5 v || secL (labN vs ar 5 ix) then 4 else 0:=by
  cases hse:secE vs ar 5 v<;>cases hsl:secL (labN vs ar 5 ix)<;>simp [leakR,St1.kind,St1.value,St1.index,hse,hsl]
 rw [hk]
 cases subL (labN vs ar 5 v ||| labN vs ar 5 ix ||| c) (nth ar t).toNat<;>simp
theorem own3 (vs ar : List Int) (strict : Bool) (t : Int) (ix v : Ex) (cc : Int) (b e : List St1) (c : Nat) :
 ownR strict vs ar (.mk 3 t ix v cc b e) c=if strict=true then (if secL (labN vs ar 5 v)=true then 3 else if secE vs ar 5 v=true then 4 else 0) else 0:=by
 simp only [ownR,flowR,leakR,St1.kind,St1.value]
 cases strict<;>simp
theorem own4 (vs ar : List Int) (strict : Bool) (t : Int) (ix : Ex) (cc : Int) (b e : List St1) (c : Nat) :
 ownR strict vs ar (.mk 4 t ix (.mk 0 0 []) cc b e) c=0:=by
 simp only [ownR,flowR,leakR,St1.kind,St1.value,secE]
 cases strict<;>simp
theorem own5 (vs ar : List Int) (strict : Bool) (t : Int) (ix v : Ex) (cc : Int) (b e : List St1) (c : Nat) :
 ownR strict vs ar (.mk 5 t ix v cc b e) c=if trustL (labN vs ar 5 v) && c == 0 then (if strict=true then (if secE vs ar 5 v=true then 4 else 0) else 0) else 2:=by
 have hf:flowR vs ar (.mk 5 t ix v cc b e) c=if trustL (labN vs ar 5 v) && c == 0 then 0 else 2:=rfl
 have hk:leakR vs ar (.mk 5 t ix v cc b e) c=if secE vs ar 5 v=true then 4 else 0:=by
  cases hse:secE vs ar 5 v<;>simp [leakR,St1.kind,St1.value,St1.index,hse]
 unfold ownR
 rw [hf,hk]
 cases (trustL (labN vs ar 5 v) && c == 0)<;>simp
theorem ownS (p : Pg) (hl : p.vars.length ≤ mx) (hl2 : p.arrays.length ≤ mx) (h1 : lab3 p.vars) (h2 : lab3 p.arrays) (d : Nat) (s : St1) (hs : stmtOK p (d + 1) s = true) (c : Nat) (hc : c ≤ 3) (strict : Bool) :
 DC Tryz.prog 149 [.agg p.cells,.agg s.cells,DI .i64 c,DB strict] [] (fun r h=>r=DI .i64 (ownR strict p.vars p.arrays s c)∧h=[]):=by
 have hmx:=mx_eq
 have hlab:=labelS p hl hl2 h1 h2 5
 have hsec:=secretS p hl hl2 h1 h2 5
 have hle:=labN_le h1 h2 5
 obtain ⟨vs,ar,bd⟩:=p
 have h1:lab3 vs:=h1
 have h2:lab3 ar:=h2
 have ret:∀ (n:Int) (hp:Hp),n=ownR strict vs ar s c→RetOb 0 (fun r h=>r=DI .i64 (ownR strict vs ar s c)∧h=[]) (DI .i64 n) hp:=fun n hp h=>RetOb.plain (d:=DI .i64 _) ⟨by rw [h],rfl⟩ rfl
 simp only at ret hle ⊢
 generalize hR:(fun (r:D) (h:List (Option (List C)))=>r=DI .i64 (ownR strict vs ar s c)∧h=[])=R at ret ⊢
 clear hR
 obtain ⟨k,t,⟨ik,iv,iks⟩,⟨vk,vv,vks⟩,cc,b,e⟩:=s
 have hh:=head_kind (stmtOK_succ hs).1
 rcases hh with ⟨hk,ht0,ht1,hr⟩ | ⟨rfl,ht0,ht1,hri,hat,hr⟩ | ⟨rfl,hr⟩ | ⟨rfl,_,_⟩
 ·have hlv:=hlab _ (right_shape hr).1
  have hsv:=hsec _ (right_shape hr).1
  have hlvl:=hle (.mk vk vv vks)
  obtain ⟨T,hT,hTe,htt⟩:=lab_at h1 ht0 ht1
  rcases hk with rfl | rfl
  ·rw [own1,hTe] at ret
   generalize labN vs ar 5 (.mk vk vv vks)=lv at *
   have hor:=or3 hlvl hc
   have hfl:=labelFlowsS (lv ||| c) T hor hT
   generalize subL (lv ||| c) T=sub at *
   simp only at hsv
   generalize secE vs ar 5 (.mk vk vv vks)=sv at *
   cases sub<;>cases strict<;>cases sv
   all_goals
    refine dcZ Tryz.func149 ?_
    simp only [go_sem]
    iterate 9 ((try (refine drvZ Tryz.func149 ?_;simp only [go_sem,htt]));((with_reducible and_intros)<;>try exact sd);(try first | refine XK.p hlv ok126 ?_ | refine XK.gp hlv ok126 ?_ | refine XK.p hfl ok156 ?_ | refine XK.gp hfl ok156 ?_ | refine XK.p hsv ok158 ?_ | refine XK.gp hsv ok158 ?_ | refine XK.gs (DB false) ?_ | refine XK.gs (DI .i64 0) ?_))
   all_goals exact ret _ _ (by rfl)
  ·rw [own5] at ret
   have hc0:(c == 0)=decide (c=0):=rfl
   generalize labN vs ar 5 (.mk vk vv vks)=lv at *
   have htr:=labelTrustedS lv hlvl
   generalize trustL lv=tr at *
   simp only at hsv
   generalize secE vs ar 5 (.mk vk vv vks)=sv at *
   have hcz:c=0∨(c ≠ 0∧((c:Int)=0)=False∧((c:Int) != 0)=true):=by
    rcases Nat.eq_zero_or_pos c with h | h
    ·exact .inl h
    ·exact .inr ⟨by omega,eq_false (by omega),by simp;omega⟩
   rcases hcz with rfl | ⟨hc1,hc2,hc3⟩
   ·cases tr<;>cases strict<;>cases sv
    all_goals
     refine dcZ Tryz.func149 ?_
     simp only [go_sem]
     iterate 9 ((try (refine drvZ Tryz.func149 ?_;simp only [go_sem,Int.natCast_zero]));((with_reducible and_intros)<;>try exact sd);(try first | refine XK.p hlv ok126 ?_ | refine XK.gp hlv ok126 ?_ | refine XK.p htr ok157 ?_ | refine XK.gp htr ok157 ?_ | refine XK.p hsv ok158 ?_ | refine XK.gp hsv ok158 ?_ | refine XK.gs (DB false) ?_ | refine XK.gs (DI .i64 0) ?_))
    all_goals exact ret _ _ (by rfl)
   ·have hce:(c == 0)=false:=by simp [hc1]
    rw [hce] at ret
    cases tr<;>cases strict<;>cases sv
    all_goals
     refine dcZ Tryz.func149 ?_
     simp only [go_sem]
     iterate 9 ((try (refine drvZ Tryz.func149 ?_;simp only [go_sem,hc2,hc3]));((with_reducible and_intros)<;>try exact sd);(try first | refine XK.p hlv ok126 ?_ | refine XK.gp hlv ok126 ?_ | refine XK.p htr ok157 ?_ | refine XK.gp htr ok157 ?_ | refine XK.p hsv ok158 ?_ | refine XK.gp hsv ok158 ?_ | refine XK.gs (DB false) ?_ | refine XK.gs (DI .i64 0) ?_))
    all_goals exact ret _ _ (by rfl)
 ·have hlv:=hlab _ (right_shape hr).1
  have hli:=hlab _ (right_shape hri).1
  have hsv:=hsec _ (right_shape hr).1
  have hlvl:=hle (.mk vk vv vks)
  have hlil:=hle (.mk ik iv iks)
  obtain ⟨T,hT,hTe,htt⟩:=lab_at h2 ht0 ht1
  rw [own2,hTe] at ret
  generalize labN vs ar 5 (.mk vk vv vks)=lv at *
  generalize labN vs ar 5 (.mk ik iv iks)=li at *
  have hvi:=or3 hlvl hlil
  have hor:=or3 hvi hc
  have hfl:=labelFlowsS (lv ||| li ||| c) T hor hT
  have hsl:=labelSecretS li hlil
  generalize subL (lv ||| li ||| c) T=sub at *
  generalize secL li=sl at *
  simp only at hsv
  generalize secE vs ar 5 (.mk vk vv vks)=sv at *
  cases sub<;>cases strict<;>cases sv<;>cases sl
  all_goals
   refine dcZ Tryz.func149 ?_
   simp only [go_sem]
   iterate 9 ((try (refine drvZ Tryz.func149 ?_;simp only [go_sem,htt]));((with_reducible and_intros)<;>try exact sd);(try first | refine XK.p hlv ok126 ?_ | refine XK.gp hlv ok126 ?_ | refine XK.p hli ok126 ?_ | refine XK.gp hli ok126 ?_ | refine XK.p hfl ok156 ?_ | refine XK.gp hfl ok156 ?_ | refine XK.p hsv ok158 ?_ | refine XK.gp hsv ok158 ?_ | refine XK.p hsl ok125 ?_ | refine XK.gp hsl ok125 ?_ | refine XK.gs (DB false) ?_ | refine XK.gs (DI .i64 0) ?_))
  all_goals exact ret _ _ (by rfl)
 ·have hlv:=hlab _ (right_shape hr).1
  have hsv:=hsec _ (right_shape hr).1
  have hlvl:=hle (.mk vk vv vks)
  rw [own3] at ret
  generalize labN vs ar 5 (.mk vk vv vks)=lv at *
  have hsl:=labelSecretS lv hlvl
  generalize secL lv=sl at *
  simp only at hsv
  generalize secE vs ar 5 (.mk vk vv vks)=sv at *
  cases strict<;>cases sv<;>cases sl
  all_goals
   refine dcZ Tryz.func149 ?_
   simp only [go_sem]
   iterate 9 ((try (refine drvZ Tryz.func149 ?_;simp only [go_sem]));((with_reducible and_intros)<;>try exact sd);(try first | refine XK.p hlv ok126 ?_ | refine XK.gp hlv ok126 ?_ | refine XK.p hsv ok158 ?_ | refine XK.gp hsv ok158 ?_ | refine XK.p hsl ok125 ?_ | refine XK.gp hsl ok125 ?_ | refine XK.gs (DB false) ?_ | refine XK.gs (DI .i64 0) ?_))
  all_goals exact ret _ _ (by rfl)
 ·obtain ⟨hv1,hv2⟩:=CtD.val_none hs
  cases hv2
  rw [own4] at ret
  cases strict
  all_goals
   refine dcZ Tryz.func149 ?_
   simp only [go_sem]
   iterate 9 ((try (refine drvZ Tryz.func149 ?_;simp only [go_sem]));((with_reducible and_intros)<;>try exact sd);(try first | refine XK.gs (DB false) ?_ | refine XK.gs (DI .i64 0) ?_))
  all_goals exact ret _ _ (by rfl)
def wkF (res:St1→Nat→Int) (vs ar:List Int) (d c:Nat) (x:Int × Int) (s:St1):Int × Int :=
 if x.1 ≠ 0 then x else if res s c ≠ 0 then (res s c,x.2) else
  if (walkR res vs ar d (ctxI vs ar s c) s.body (x.2+1)).1 ≠ 0 then walkR res vs ar d (ctxI vs ar s c) s.body (x.2+1)
  else walkR res vs ar d (ctxI vs ar s c) s.els (walkR res vs ar d (ctxI vs ar s c) s.body (x.2+1)).2
theorem wk_succ (res:St1→Nat→Int) (vs ar:List Int) (d c:Nat) (l:List St1) (n:Int):walkR res vs ar (d+1) c l n=l.foldl (wkF res vs ar d c) (0,n):=rfl
theorem wkF_stop (res : St1 → Nat → Int) (vs ar : List Int) (d c : Nat) : ∀ (l : List St1) (x : Int × Int), x.1 ≠ 0 → l.foldl (wkF res vs ar d c) x = x
 | [],_,_=>rfl
 | a :: r,x,h=>by
  have:wkF res vs ar d c x a=x:=by unfold wkF;rw [if_pos h]
  rw [List.foldl_cons,this,wkF_stop res vs ar d c r x h]
theorem wkF_len (res : St1 → Nat → Int) (vs ar : List Int) : ∀ (d c : Nat) (l : List St1) (n : Int), n ≤ (walkR res vs ar d c l n).2 ∧ (walkR res vs ar d c l n).2 ≤ n + lsize d l
 | 0,c,l,n=>by simp [walkR,lsize_zero]
 | d+1,c,l,n=>by
  have hone:∀ (x:Int × Int) (s:St1),x.2≤(wkF res vs ar d c x s).2∧(wkF res vs ar d c x s).2≤x.2+tsize (d+1) s:=fun x s=>by
   have hs:=tsize_subs d s
   simp only [subs] at hs
   have h1:=wkF_len res vs ar d (ctxI vs ar s c) s.body (x.2+1)
   have h2:=wkF_len res vs ar d (ctxI vs ar s c) s.els (walkR res vs ar d (ctxI vs ar s c) s.body (x.2+1)).2
   unfold wkF
   split
   ·omega
   ·split
    ·simp only;omega
    ·split<;>omega
  have key:∀ (l:List St1) (x:Int × Int),x.2≤(l.foldl (wkF res vs ar d c) x).2∧(l.foldl (wkF res vs ar d c) x).2≤x.2+lsize (d+1) l:=by
   intro l
   induction l with
   | nil=>intro x;simp [lsize]
   | cons a r ih =>
    intro x
    have h1:=hone x a
    have h2:=ih (wkF res vs ar d c x a)
    have hsz:lsize (d+1) (a :: r)=tsize (d+1) a+lsize (d+1) r:=by simp [lsize]
    rw [List.foldl_cons,hsz]
    push_cast
    omega
  exact key l (0,n)
theorem blockS (p:Pg) (hl:p.vars.length≤mx) (hl2:p.arrays.length≤mx) (h1:lab3 p.vars) (h2:lab3 p.arrays) (strict:Bool):∀ (d:Nat) (l:List St1) (c:Nat) (n:Int),c≤3→(∀ s ∈ l,stmtOK p d s=true)→0≤n→n+lsize d l≤1000 →
 DC Tryz.prog 132 [.agg p.cells,.c (.isl 11 (St1.cellsL l)),DI .i64 c,DI .i64 n,DB strict] [] (fun r h=>r = .tup [DI .i64 (walkR (ownR strict p.vars p.arrays) p.vars p.arrays d c l n).1,DI .i64 (walkR (ownR strict p.vars p.arrays) p.vars p.arrays d c l n).2]∧h=[]):=by
 have hmx:=mx_eq
 intro d
 induction d with
 | zero =>
  intro l c n hc hok hn hsz
  have hnil:l=[]:=by
   cases l with
   | nil=>rfl
   | cons a r=>have:=hok a (by simp);simp [stmtOK] at this
  subst hnil
  obtain ⟨vs,ar,bd⟩:=p
  simp only [walkR]
  have ret:∀ hp:Hp,RetOb 0 (fun r h=>r = .tup [DI .i64 0,DI .i64 n]∧h=[]) (.tup [DI .i64 0,DI .i64 n]) hp:=fun hp=>RetOb.ofQ (fun _=>none) [] (.tup [DI .i64 0,DI .i64 n]) [] (by simp [enumL,DM,DMs,CM,HpOK,LowOK]) ⟨rfl,rfl⟩ (by simp)
  generalize hR:(fun (r:D) (h:List (Option (List C)))=>r = .tup [DI .i64 0,DI .i64 n]∧h=[])=R at ret ⊢
  have hz:((0:Int)<0)=False:=eq_false (by omega)
  refine dcZ Tryz.func132 ?_
  simp only [go_sem,St1.cellsL,Int.natCast_zero]
  refine Go.loop ?_
  refine drvL Tryz.func132 ?_
  simp only [go_sem,St1.cellsL,Int.natCast_zero,hz]
  iterate 2 ((try (refine drvZ Tryz.func132 ?_;simp only [go_sem,St1.cellsL,Int.natCast_zero,hz]));((with_reducible and_intros)<;>try exact sd))
  exact ret _
 | succ d ih =>
  intro l c n hc hok hn hsz
  have hlab:=labelS p hl hl2 h1 h2 5
  have hown:=fun s h=>ownS p hl hl2 h1 h2 d s h c hc strict
  have hle:=labN_le h1 h2 5
  have hll:l.length≤1000:=by have:=lsize_subs d l;omega
  have hwl:=wkF_len (ownR strict p.vars p.arrays) p.vars p.arrays d
  rw [wk_succ]
  have hstop:=wkF_stop (ownR strict p.vars p.arrays) p.vars p.arrays d c
  have hFd:∀ (a:Int) (k t:Int) (ix v:Ex) (cc:Int) (b e:List St1),(ownR strict p.vars p.arrays (.mk k t ix v cc b e) c ≠ 0→wkF (ownR strict p.vars p.arrays) p.vars p.arrays d c (0,a) (.mk k t ix v cc b e)=(ownR strict p.vars p.arrays (.mk k t ix v cc b e) c,a)) ∧
   (ownR strict p.vars p.arrays (.mk k t ix v cc b e) c=0→(walkR (ownR strict p.vars p.arrays) p.vars p.arrays d (ctxI p.vars p.arrays (.mk k t ix v cc b e) c) b (a+1)).1 ≠ 0→wkF (ownR strict p.vars p.arrays) p.vars p.arrays d c (0,a) (.mk k t ix v cc b e)=walkR (ownR strict p.vars p.arrays) p.vars p.arrays d (ctxI p.vars p.arrays (.mk k t ix v cc b e) c) b (a+1)) ∧
   (ownR strict p.vars p.arrays (.mk k t ix v cc b e) c = 0 → (walkR (ownR strict p.vars p.arrays) p.vars p.arrays d (ctxI p.vars p.arrays (.mk k t ix v cc b e) c) b (a + 1)).1 = 0 → wkF (ownR strict p.vars p.arrays) p.vars p.arrays d c (0, a) (.mk k t ix v cc b e) =
    walkR (ownR strict p.vars p.arrays) p.vars p.arrays d (ctxI p.vars p.arrays (.mk k t ix v cc b e) c) e (walkR (ownR strict p.vars p.arrays) p.vars p.arrays d (ctxI p.vars p.arrays (.mk k t ix v cc b e) c) b (a+1)).2):=fun a k t ix v cc b e=>by
   refine ⟨fun h=>?_,fun h h'=>?_,fun h h'=>?_⟩
   ·unfold wkF;rw [if_neg (by simp),if_pos h]
   ·unfold wkF;rw [if_neg (by simp),if_neg (by simpa using h)];exact if_pos h'
   ·unfold wkF;rw [if_neg (by simp),if_neg (by simpa using h)];exact if_neg fun hn=>hn h'
  generalize wkF (ownR strict p.vars p.arrays) p.vars p.arrays d c=F at *
  have hfold:∀ i s,l[i]? = some s→(l.take (i+1)).foldl F (0,n)=F ((l.take i).foldl F (0,n)) s:=fun i s h=>by rw [List.take_add_one,h];simp
  have hend:∀ i s a,l[i]? = some s→(l.take i).foldl F (0,n)=(0,a)→(F (0,a) s).1 ≠ 0→l.foldl F (0,n)=F (0,a) s:=fun i s a hs h0 h1=>by
   have e:l=l.take (i+1)++l.drop (i+1):=(List.take_append_drop _ _).symm
   rw [e,List.foldl_append,hfold i s hs,h0]
   exact hstop _ _ h1
  have hctx:∀ s,ctxI p.vars p.arrays s c≤3:=fun s=>by
   unfold ctxI
   split
   ·exact or3 hc (hle _)
   ·exact hc
  have hK:∀ (i:Nat) (s:St1),l[i]? = some s→tsum (tsize (d+1)) l (i+1)=tsum (tsize (d+1)) l i+1+lsize d s.body+lsize d s.els∧tsum (tsize (d+1)) l (i+1)≤lsize (d+1) l:=fun i s hi=>by
   have a1:=tsum_succ (tsize (d+1)) l i s hi
   have a2:=tsum_le (tsize (d+1)) l (i+1)
   have a3:=tsize_subs d s
   have a4:lsize (d+1) l=(l.map (tsize (d+1))).sum:=rfl
   simp only [subs] at a3
   omega
  have ret:∀ (x:Int × Int) (hp:Hp),x=l.foldl F (0,n)→RetOb 0 (fun r h=>r = .tup [DI .i64 (l.foldl F (0,n)).1,DI .i64 (l.foldl F (0,n)).2]∧h=[]) (.tup [DI .i64 x.1,DI .i64 x.2]) hp:=fun x hp h=>by
   subst h
   exact RetOb.ofQ (fun _=>none) [] (.tup [DI .i64 (l.foldl F (0,n)).1,DI .i64 (l.foldl F (0,n)).2]) [] (by simp [enumL,DM,DMs,CM,HpOK,LowOK]) ⟨rfl,rfl⟩ (by simp)
  generalize hR:(fun (r:D) (h:List (Option (List C)))=>r = .tup [DI .i64 (l.foldl F (0,n)).1,DI .i64 (l.foldl F (0,n)).2]∧h=[])=R at ret ⊢
  clear hR hstop
  obtain ⟨vs,ar,bd⟩:=p
  refine dcZ Tryz.func132 ?_
  simp only [go_sem]
  refine Go.loopQ (fun σ : Nat × Int => [(1, .c (.isl 11 (St1.cellsL l))), (2, DI .i64 c), (3, DI .i64 σ.2), (4, DB strict), (5, .c (.ptr 0 0)), (12, DI .i64 σ.1)])
   (fun σ=>[(0,some (Pg.cells ⟨vs,ar,bd⟩))]) 4096 (fun σ=>σ.1≤l.length∧(l.take σ.1).foldl F (0,n)=(0,σ.2)∧n≤σ.2∧σ.2≤n+tsum (tsize (d+1)) l σ.1) (fun σ=>l.length - σ.1) ?_ (0,n) some [] _ ⟨Nat.zero_le _,rfl,Int.le_refl _,by simp [tsum]⟩ ?_
  ·rintro ⟨i,a⟩ ⟨hi,hia,hna,han⟩ again
   simp only at hi hia hna han
   rcases Nat.lt_or_ge i l.length with hlt | hge
   ·obtain ⟨⟨k,t,⟨ik,iv,iks⟩,⟨vk,vv,vks⟩,cc,b,e⟩,hs⟩:∃ s,l[i]? = some s:=⟨l[i],by simp [hlt]⟩
    have hso:=hok _ (List.mem_of_getElem? hs)
    have hbo:=stmtOK_succ hso
    have hkk:=hK i _ hs
    have hw:=hown _ hso
    have hfi:=hfold i _ hs
    rw [hia] at hfi
    have hen:=hend i _ a hs hia
    obtain ⟨hF1,hF2,hF3⟩:=hFd a k t (.mk ik iv iks) (.mk vk vv vks) cc b e
    have hcx:=hctx (.mk k t (.mk ik iv iks) (.mk vk vv vks) cc b e)
    have hsh:k=3→shape ⟨vs,ar,bd⟩ 5 (.mk vk vv vks)=true:=fun h=>(shapeV hso).1 (by omega)
    simp only [St1.body,St1.els] at hkk
    have hb:=ih b (ctxI vs ar (.mk k t (.mk ik iv iks) (.mk vk vv vks) cc b e) c) (a+1) hcx hbo.2.1 (by omega) (by omega)
    have hbw:=hwl (ctxI vs ar (.mk k t (.mk ik iv iks) (.mk vk vv vks) cc b e) c) b (a+1)
    have he:=fun n h1 h2=>ih e (ctxI vs ar (.mk k t (.mk ik iv iks) (.mk vk vv vks) cc b e) c) n hcx hbo.2.2 h1 h2
    have hew:=fun n=>hwl (ctxI vs ar (.mk k t (.mk ik iv iks) (.mk vk vv vks) cc b e) c) e n
    have hcd:k=3→ctxI vs ar (.mk k t (.mk ik iv iks) (.mk vk vv vks) cc b e) c=c ||| labN vs ar 5 (.mk vk vv vks):=fun h=>by subst h;rfl
    have hcn:k ≠ 3→ctxI vs ar (.mk k t (.mk ik iv iks) (.mk vk vv vks) cc b e) c=c:=fun h=>by unfold ctxI;exact if_neg h
    have hlk:=fun h=>hlab (.mk vk vv vks) (hsh h)
    have hlvl:=hle (.mk vk vv vks)
    simp only at hw hb hbw he hew hF1 hF2 hF3 hlk hlvl hcx
    generalize hF:F (0,a) (.mk k t (.mk ik iv iks) (.mk vk vv vks) cc b e)=Fs at *
    generalize labN vs ar 5 (.mk vk vv vks)=lv at *
    generalize ownR strict vs ar (.mk k t (.mk ik iv iks) (.mk vk vv vks) cc b e) c=ro at *
    generalize ctxI vs ar (.mk k t (.mk ik iv iks) (.mk vk vv vks) cc b e) c=cx at *
    generalize walkR (ownR strict vs ar) vs ar d cx b (a+1)=wb at *
    obtain ⟨r1,a1⟩:=wb
    simp only at hbw hF2 hF3 hb
    have he:=he a1 (by omega) (by omega)
    have hew:=hew a1
    generalize walkR (ownR strict vs ar) vs ar d cx e a1=we at *
    obtain ⟨r2,a2⟩:=we
    simp only at hew he
    clear hwl hFd hlab hown hK hend hfold hF
    by_cases hro:ro=0
    ·subst hro
     clear hF1
     have hF2:=hF2 rfl
     have hF3:=hF3 rfl
     by_cases hk:k=3
     case' pos =>
      have hcx2:=hcd hk
      subst hcx2
      have hlk:=hlk hk
      have hk:=eq_true hk
      have ek:(k == 3)=true:=by simp [hk]
     case' neg =>
      have hcx2:=hcn hk
      subst hcx2
      have hlk:=()
      have ek:(k == 3)=false:=by simp [hk]
     all_goals
      by_cases hr1:r1=0
      ·subst hr1
       have hF3:=hF3 rfl
       subst hF3
       by_cases hr2:r2=0
       ·subst hr2
        refine drvL Tryz.func132 ?_
        simp only [go_sem,hs,hlt]
        iterate 14 ((try (refine drvZ Tryz.func132 ?_;simp only [go_sem,hs,hlt,hk,ek,bne_self_eq_false]));((with_reducible and_intros)<;>try exact sd);(try first | refine XK.p hw ok149 ?_ | refine XK.gp hw ok149 ?_ | refine XK.p hlk ok126 ?_ | refine XK.gp hlk ok126 ?_ | refine XK.p hb ok132 ?_ | refine XK.gp hb ok132 ?_ | refine XK.p he ok132 ?_ | refine XK.gp he ok132 ?_))
        refine again (i+1,a2) some [] _ ⟨hlt,hfi,(show n≤a2 by omega),(show a2≤n+tsum (tsize (d+1)) l (i+1) by omega)⟩ (show l.length - (i+1)<l.length - i by omega) ?_
        simp only [go_sem,TmOK,DM,DMs,CM,CMs,forall_eq,exists_eq_left,Mq,HpOK,LowOK]
        try simp
       ·have g1:(r2=0)=False:=eq_false hr2
        have g2:(r2 != 0)=true:=by simp [hr2]
        refine drvL Tryz.func132 ?_
        simp only [go_sem,hs,hlt]
        iterate 14 ((try (refine drvZ Tryz.func132 ?_;simp only [go_sem,hs,hlt,hk,ek,g1,g2,bne_self_eq_false]));((with_reducible and_intros)<;>try exact sd);(try first | refine XK.p hw ok149 ?_ | refine XK.gp hw ok149 ?_ | refine XK.p hlk ok126 ?_ | refine XK.gp hlk ok126 ?_ | refine XK.p hb ok132 ?_ | refine XK.gp hb ok132 ?_ | refine XK.p he ok132 ?_ | refine XK.gp he ok132 ?_))
        exact ret (r2,a2) _ (hen hr2).symm
      ·have g1:(r1=0)=False:=eq_false hr1
       have g2:(r1 != 0)=true:=by simp [hr1]
       have g3:(r1 == 0)=false:=by simp [hr1]
       have hF2:=hF2 hr1
       subst hF2
       refine drvL Tryz.func132 ?_
       simp only [go_sem,hs,hlt]
       iterate 14 ((try (refine drvZ Tryz.func132 ?_;simp only [go_sem,hs,hlt,hk,ek,g1,g2,g3,bne_self_eq_false]));((with_reducible and_intros)<;>try exact sd);(try first | refine XK.p hw ok149 ?_ | refine XK.gp hw ok149 ?_ | refine XK.p hlk ok126 ?_ | refine XK.gp hlk ok126 ?_ | refine XK.p hb ok132 ?_ | refine XK.gp hb ok132 ?_ | refine XK.p he ok132 ?_ | refine XK.gp he ok132 ?_))
       exact ret (r1,a1) _ (hen hr1).symm
    ·have hFs:=hF1 hro
     have g1:(ro=0)=False:=eq_false hro
     have g2:(ro != 0)=true:=by simp [hro]
     refine drvL Tryz.func132 ?_
     simp only [go_sem,hs,hlt]
     iterate 6 ((try (refine drvZ Tryz.func132 ?_;simp only [go_sem,hs,hlt,g1,g2]));((with_reducible and_intros)<;>try exact sd);(try first | refine XK.p hw ok149 ?_ | refine XK.gp hw ok149 ?_))
     subst hFs
     exact ret (ro,a) _ (hen hro).symm
   ·have hn:¬ i<l.length:=by omega
    obtain rfl:i=l.length:=by omega
    rw [List.take_length] at hia
    refine drvL Tryz.func132 ?_
    simp only [go_sem,hn]
    iterate 3 ((try (refine drvZ Tryz.func132 ?_;simp only [go_sem,hn]));((with_reducible and_intros)<;>try exact sd))
    exact ret (0,a) _ hia.symm
  ·simp only [go_sem,TmOK,DM,DMs,CM,CMs,forall_eq,exists_eq_left,Mq,HpOK,LowOK]
   try simp
theorem checkS (p:Pg) (hl:p.vars.length≤mx) (hl2:p.arrays.length≤mx) (hb:lsize 5 p.body≤1099511627776) (strict:Bool):DC Tryz.prog 100 [.agg p.cells,DB strict] [] (fun r h=>r = .tup [DI .i64 (chkR (ownR strict) p).1,DI .i64 (chkR (ownR strict) p).2]∧h=[]):=by
 have hmx:=mx_eq
 have hv:=programValidS p hl hl2 hb
 have ret:∀ (x:Int × Int) (hp:Hp),x=chkR (ownR strict) p→RetOb 0 (fun r h=>r = .tup [DI .i64 (chkR (ownR strict) p).1,DI .i64 (chkR (ownR strict) p).2]∧h=[]) (.tup [DI .i64 x.1,DI .i64 x.2]) hp:=fun x hp h=>by
  subst h
  exact RetOb.two ⟨rfl,rfl⟩
 generalize hR:(fun (r:D) (h:List (Option (List C)))=>r = .tup [DI .i64 (chkR (ownR strict) p).1,DI .i64 (chkR (ownR strict) p).2]∧h=[])=R at ret ⊢
 clear hR
 cases hq:progOK p with
 | false =>
  rw [hq] at hv
  have he:chkR (ownR strict) p=(5,-1):=by unfold chkR;rw [hq];rfl
  obtain ⟨vs,ar,bd⟩:=p
  refine dcZ Tryz.func100 ?_
  simp only [go_sem]
  iterate 4 ((try (refine drvZ Tryz.func100 ?_;simp only [go_sem]));((with_reducible and_intros)<;>try exact sd);(try first | refine XK.p hv ok70 ?_ | refine XK.gp hv ok70 ?_))
  exact ret (5,-1) _ he.symm
 | true =>
  rw [hq] at hv
  have hlab:=labs_of hq
  have hbo:=body_of hq
  have hbl:=blockS p hl hl2 hlab.1 hlab.2 strict 5 p.body 0 0 (by decide) hbo.1 (by omega) (by have:=hbo.2;omega)
  have he:chkR (ownR strict) p=((walkR (ownR strict p.vars p.arrays) p.vars p.arrays 5 0 p.body 0).1,if (walkR (ownR strict p.vars p.arrays) p.vars p.arrays 5 0 p.body 0).1=0 then -1 else (walkR (ownR strict p.vars p.arrays) p.vars p.arrays 5 0 p.body 0).2):=by
   unfold chkR;rw [if_pos hq]
  generalize walkR (ownR strict p.vars p.arrays) p.vars p.arrays 5 0 p.body 0=w at *
  obtain ⟨r1,a1⟩:=w
  simp only at he hbl
  obtain ⟨vs,ar,bd⟩:=p
  by_cases hr:r1=0
  ·subst hr
   rw [if_pos rfl] at he
   refine dcZ Tryz.func100 ?_
   simp only [go_sem]
   iterate 6 ((try (refine drvZ Tryz.func100 ?_;simp only [go_sem]));((with_reducible and_intros)<;>try exact sd);(try first | refine XK.p hv ok70 ?_ | refine XK.gp hv ok70 ?_ | refine XK.p hbl ok132 ?_ | refine XK.gp hbl ok132 ?_))
   exact ret (0,-1) _ he.symm
  ·have g1:(r1=0)=False:=eq_false hr
   have g2:(r1 == 0)=false:=by simp [hr]
   rw [if_neg hr] at he
   refine dcZ Tryz.func100 ?_
   simp only [go_sem]
   iterate 6 ((try (refine drvZ Tryz.func100 ?_;simp only [go_sem,g1,g2]));((with_reducible and_intros)<;>try exact sd);(try first | refine XK.p hv ok70 ?_ | refine XK.gp hv ok70 ?_ | refine XK.p hbl ok132 ?_ | refine XK.gp hbl ok132 ?_))
   exact ret (r1,a1) _ he.symm
theorem checkFlowS (p:Pg) (hl:p.vars.length≤mx) (hl2:p.arrays.length≤mx) (hb:lsize 5 p.body≤1099511627776):DC Tryz.prog 73 [.agg p.cells] [] (fun r h=>r = .tup [DI .i64 (chkR flowR p).1,DI .i64 (chkR flowR p).2]∧h=[]):=by
 have hc:=checkS p hl hl2 hb false
 rw [own_flow] at hc
 generalize chkR flowR p=x at *
 generalize hR:(fun (r:D) (h:List (Option (List C)))=>r = .tup [DI .i64 x.1,DI .i64 x.2]∧h=[])=R
 obtain ⟨vs,ar,bd⟩:=p
 refine dcZ Tryz.func73 ?_
 simp only [go_sem]
 rw [hR] at hc
 subst hR
 iterate 4 ((try (refine drvZ Tryz.func73 ?_;simp only [go_sem]));((with_reducible and_intros)<;>try exact sd);(try first | refine XK.p hc ok100 ?_ | refine XK.gp hc ok100 ?_))
 exact RetOb.two ⟨rfl,rfl⟩
def clS (q : Int → Bool) (vs vals : List Int) : Nat → List Int
 | 0=>vals
 | i+1=>if q (vs.getD i 0) then (clS q vs vals i).set i 0 else clS q vs vals i
def clA (q : Int → Bool) : List Int → List (List Int) → List (List Int)
 | l :: r,a :: s=>(if q l then [0,0,0,0] else a) :: clA q r s
 | _,s=>s
def clrM (q:Int→Bool) (vs ar:List Int) (m:Mm):Mm:=⟨clS q vs m.vals vs.length,clA q ar m.arrays⟩
theorem clS_len (q : Int → Bool) (vs vals : List Int) : ∀ i, (clS q vs vals i).length = vals.length
 | 0=>rfl
 | i+1=>by unfold clS;split<;>simp [clS_len q vs vals i]
theorem len4 {a:List Int} (h:a.length=4):∃ x y z w,a=[x,y,z,w]:=by
 match a,h with
 | [x,y,z,w],_=>exact ⟨x,y,z,w,rfl⟩
theorem clS_succ {q:Int→Bool} {vs vals:List Int} {i:Nat} {x:Int} (h:vs[i]? = some x):clS q vs vals (i+1)=if q x then (clS q vs vals i).set i 0 else clS q vs vals i:=by
 have:vs.getD i 0=x:=by rw [List.getD_eq_getElem?_getD,h];rfl
 rw [clS,this]
theorem RetOb.mem0 {R : D → List (Option (List C)) → Prop} {m : Mm} {hp : Hp} {k0 k1 k2 k3 nv na : Nat} (hna : m.arrays.length ≤ 2) (h4 : ∀ a ∈ m.arrays, a.length = 4) (hR : R (.agg m.cells) [])
 (h0:hp k0=some (some (m.vals.map I64))) (h1:hp k1=some (some (hdr k2 k3 m.arrays.length))) (h2:hp k2=some (some (blk0 m.arrays))) (h3:hp k3=some (some (blk1 m.arrays))) (hv:nv=m.vals.length) (hn:na=m.arrays.length)
 (hne:k0 ≠ k1∧k0 ≠ k2∧k0 ≠ k3∧k1 ≠ k2∧k1 ≠ k3∧k2 ≠ k3):RetOb 0 R (.agg [.msl k0 1 0 nv,.msl k1 1 0 na]) hp:=by
 subst hv hn
 obtain ⟨va,arr⟩:=m
 obtain ⟨n01,n02,n03,n12,n13,n23⟩:=hne
 refine RetOb.step (fun j=>if j=0 then some k0 else if j=1 then some k1 else none) [k2,k3] (.agg [.msl 0 1 0 va.length,.msl 1 1 0 arr.length]) [(0,some (va.map I64)),(1,some (arr.map isI))] ?_ ?_
 ·have e3:∀ a:List Int,(a.map fun n=>[C.v (.int .i64 n)]).flatten=a.map I64:=fun a=>flat1 _ a
  match arr,hna,h4,h1,h2,h3 with
  | [],_,h4,h1,h2,h3=>simp [DM,DMs,CM,CMs,HpOK,LowOK,hOf,upd,h0,CMs_I,h1,hdr,n01,n02,n03,n12,n13,n23,Ne.symm n01,Ne.symm n23]
  | [a],_,h4,h1,h2,h3 =>
   have ha:=h4 a (by simp)
   simp [DM,DMs,CM,CMs,HpOK,LowOK,hOf,upd,h0,CMs_I,h1,h2,hdr,n01,n02,n03,n12,n13,n23,Ne.symm n01,Ne.symm n23,e3,isI,ha,blk0,kf]
  | [a,b],_,h4,h1,h2,h3 =>
   have ha:=h4 a (by simp)
   have hb:=h4 b (by simp)
   simp [DM,DMs,CM,CMs,HpOK,LowOK,hOf,upd,h0,CMs_I,h1,h2,h3,hdr,n01,n02,n03,n12,n13,n23,Ne.symm n01,Ne.symm n23,e3,isI,ha,hb,blk0,blk1,kf]
 ·refine RetOb.ofQ (fun _=>none) [0,1] _ [] ⟨?_,trivial,trivial,by simp [enumL]⟩ hR (Nat.zero_le _)
  simp [DM,DMs,CM,CMs,hOf,upd,Mm.cells,isI,flat_I,kf]
  exact (flat1 isI arr).symm
theorem cleared (vs ar : List Int) (m : Mm) (hv : m.vals.length = vs.length) (ha : m.arrays.length = ar.length) (hv1 : vs.length ≤ 1000) (ha1 : ar.length ≤ 2) (h4 : ∀ a ∈ m.arrays, a.length = 4) (F : FuncId) (hF : fnOK Tryz.prog F = true) (q : Int → Bool)
 (hq:∀ x,x ∈ vs∨x ∈ ar→DC Tryz.prog F [DI .i64 x] [] (fun r h=>r=DB (q x)∧h=[])) :
 DC Tryz.prog 23 [ints vs,ints ar,.agg m.cells,.c (.clo F [])] [] (fun r h=>r = .agg (clrM q vs ar m).cells∧h=[]):=by
 have hmx:=mx_eq
 have hown:=own m (by omega) (by omega) h4
 have hlen:=clS_len q vs m.vals
 have hsucc:=fun i x h=>@clS_succ _ q vs m.vals i x h
 unfold memB at hown
 obtain ⟨va,arr⟩:=m
 simp only at hv ha h4 hlen hsucc
 unfold ints
 generalize hR:(fun (r:D) (h:List (Option (List C)))=>r = .agg (clrM q vs ar ⟨va,arr⟩).cells∧h=[])=R
 refine dcZ Tryz.func23 ?_
 simp only [go_sem,Mm.cells]
 ((try (refine drvZ Tryz.func23 ?_;simp only [go_sem,Mm.cells]));((with_reducible and_intros)<;>try exact sd))
 refine XK.callG [] hown ok47 (fun i' x h=>by simp at h) (hbT ()) (fun d h' ⟨_,e⟩=>by subst e;simp) ?_
 rintro _ _ ⟨rfl,rfl⟩ _
 iterate 3 ((try (refine drvZ Tryz.func23 ?_;simp only [go_sem,renCs_I,renCs_hdr,renCs_b0,renCs_b1]));((with_reducible and_intros)<;>try exact sd))
 refine Go.loopQ (fun i : Nat => [(1, .c (isI ar)), (3, .c (.clo F [])), (8, .c (.ptr 64 0)), (9, .c (.ptr 256 0)), (16, .c (isI vs)), (17, DI .i64 vs.length), (18, DI .i64 i)])
  (fun i=>[(64,some [.v (.slice none 0 0),.v (.slice none 0 0)]),(192,some ((clS q vs va i).map I64)),(193,some (hdr 194 195 arr.length)),(194,some (blk0 arr)),(195,some (blk1 arr)),(256,some [.msl 192 1 0 va.length,.msl 193 1 0 arr.length])])
  4096 (fun i=>i≤vs.length) (fun i=>vs.length - i) ?_ 0 some [] _ (Nat.zero_le _) ?_
 ·intro i hi again
  have hli:=hlen i
  rcases Nat.lt_or_ge i vs.length with hlt | hge
  ·obtain ⟨x,hx⟩:∃ x,vs[i]? = some x:=⟨vs[i],by simp [hlt]⟩
   have hfx:=hq x (.inl (List.mem_of_getElem? hx))
   have hs:=hsucc i x hx
   generalize clS q vs va i=S at *
   generalize q x=b at *
   cases b with
   | true =>
    rw [if_pos rfl] at hs
    have hset:(S.map I64).set i (.v (.int .i64 0))=(S.set i 0).map I64:=by rw [List.map_set]
    refine drvL Tryz.func23 ?_
    simp only [go_sem,hx,hlt]
    iterate 6 ((try (refine drvZ Tryz.func23 ?_;simp only [go_sem,hx,hlt,hset]));((with_reducible and_intros)<;>try exact sd);(try first | refine XK.p hfx hF ?_ | refine XK.gp hfx hF ?_))
    refine again (i+1) some [] _ hlt (by omega) ?_
    simp only [go_sem,TmOK,DM,DMs,CM,CMs,forall_eq,exists_eq_left,Mq,HpOK,LowOK,hs]
    simp [CMs_hdr,CMs_b0,CMs_b1,upd]
    exact CMs.kf (by rw [hset];exact kf_I _)
   | false =>
    rw [if_neg (by simp)] at hs
    refine drvL Tryz.func23 ?_
    simp only [go_sem,hx,hlt]
    iterate 6 ((try (refine drvZ Tryz.func23 ?_;simp only [go_sem,hx,hlt]));((with_reducible and_intros)<;>try exact sd);(try first | refine XK.p hfx hF ?_ | refine XK.gp hfx hF ?_))
    refine again (i+1) some [] _ hlt (by omega) ?_
    simp only [go_sem,TmOK,DM,DMs,CM,CMs,forall_eq,exists_eq_left,Mq,HpOK,LowOK,hs]
    simp [CMs_I,CMs_hdr,CMs_b0,CMs_b1,upd]
  ·have hn:¬ i<vs.length:=by omega
   obtain rfl:i=vs.length:=by omega
   generalize hS:clS q vs va vs.length=S at *
   refine drvL Tryz.func23 ?_
   simp only [go_sem,hn]
   iterate 3 ((try (refine drvZ Tryz.func23 ?_;simp only [go_sem,hn]));((with_reducible and_intros)<;>try exact sd))
   have hz:∀ n:Nat,((n:Int)<(n:Int))=False:=fun n=>eq_false (by omega)
   have hz0:((0:Int)<0)=False:=eq_false (by omega)
   have fin:∀ (A:List (List Int)) (hp:Hp),A=clA q ar arr→A.length=arr.length→(∀ a ∈ A,a.length=4)→hp 192=some (some (S.map I64))→hp 193=some (some (hdr 194 195 arr.length))→hp 194=some (some (blk0 A))→hp 195=some (some (blk1 A))→RetOb 0 R (.agg [.msl 192 1 0 va.length,.msl 193 1 0 arr.length]) hp:=fun A hp e1 e2 e3 g1 g2 g3 g4 =>
    RetOb.mem0 (m:=⟨S,A⟩) (k2:=194) (k3:=195) (by simp only;omega) e3 (by subst hR;exact ⟨by rw [e1,← hS];rfl,rfl⟩) g1 (by rw [e2];exact g2) g3 g4 (by simp only;omega) (by simp only;omega) (by decide)
   have hrp:(List.replicate 4 [C.v (.int .i64 0)]).flatten=[I64 0,I64 0,I64 0,I64 0]:=rfl
   have e11:((1:Int)<1)=False:=eq_false (by omega)
   have e22:((2:Int)<2)=False:=eq_false (by omega)
   clear hown hlen hsucc again hi hge
   rcases arr with _ | ⟨a,_ | ⟨a',_ | ⟨c,r⟩⟩⟩<;>rcases ar with _ | ⟨l,_ | ⟨l',_ | ⟨l3,r2⟩⟩⟩<;>simp only [List.length_cons,List.length_nil] at ha ha1<;>(try (exfalso;omega))
   ·refine Go.loop ?_
    refine drvL Tryz.func23 ?_
    simp only [go_sem,hz0,Int.natCast_zero]
    iterate 3 ((try (refine drvZ Tryz.func23 ?_;simp only [go_sem,hz0,Int.natCast_zero]));((with_reducible and_intros)<;>try exact sd))
    exact fin [] _ rfl rfl (by simp) rfl rfl rfl rfl
   ·have hfl:=hq l (.inr (by simp))
    obtain ⟨x0,x1,x2,x3,rfl⟩:=len4 (h4 a (by simp))
    have hb0:blk0 [[x0,x1,x2,x3]]=[I64 x0,I64 x1,I64 x2,I64 x3]:=rfl
    have hb1:blk1 [[x0,x1,x2,x3]]=[]:=rfl
    have hcl:clA q [l] [[x0,x1,x2,x3]]=[if q l then [0,0,0,0] else [x0,x1,x2,x3]]:=rfl
    rw [hcl] at fin
    rw [hb0,hb1]
    generalize q l=b at *
    cases b
    all_goals
     refine Go.loop ?_
     refine drvL Tryz.func23 ?_
     simp only [go_sem,hdr,List.take]
     iterate 6 ((try (refine drvZ Tryz.func23 ?_;simp only [go_sem,hz0,hrp,putCells,hdr,List.take,Int.natCast_zero]));((with_reducible and_intros)<;>try exact sd);(try first | refine XK.p hfl hF ?_ | refine XK.gp hfl hF ?_))
     refine Go.inLoop ?_
     refine drvL Tryz.func23 ?_
     simp only [go_sem,e11]
     iterate 3 ((try (refine drvZ Tryz.func23 ?_;simp only [go_sem,e11]));((with_reducible and_intros)<;>try exact sd))
     exact fin _ _ rfl rfl (by simp) rfl rfl rfl rfl
   ·have hfl:=hq l (.inr (by simp))
    have hfl2:=hq l' (.inr (by simp))
    obtain ⟨x0,x1,x2,x3,rfl⟩:=len4 (h4 a (by simp))
    obtain ⟨y0,y1,y2,y3,rfl⟩:=len4 (h4 a' (by simp))
    have hb0:blk0 [[x0,x1,x2,x3],[y0,y1,y2,y3]]=[I64 x0,I64 x1,I64 x2,I64 x3]:=rfl
    have hb1:blk1 [[x0,x1,x2,x3],[y0,y1,y2,y3]]=[I64 y0,I64 y1,I64 y2,I64 y3]:=rfl
    have hcl:clA q [l,l'] [[x0,x1,x2,x3],[y0,y1,y2,y3]]=[if q l then [0,0,0,0] else [x0,x1,x2,x3],if q l' then [0,0,0,0] else [y0,y1,y2,y3]]:=rfl
    rw [hcl] at fin
    rw [hb0,hb1]
    generalize q l=b at *
    generalize q l'=b' at *
    cases b<;>cases b'
    all_goals
     refine Go.loop ?_
     refine drvL Tryz.func23 ?_
     simp only [go_sem,hdr,List.take]
     iterate 6 ((try (refine drvZ Tryz.func23 ?_;simp only [go_sem,hz0,hrp,putCells,hdr,List.take,Int.natCast_zero]));((with_reducible and_intros)<;>try exact sd);(try first | refine XK.p hfl hF ?_ | refine XK.gp hfl hF ?_))
     refine Go.inLoop ?_
     refine drvL Tryz.func23 ?_
     simp only [go_sem,hrp,putCells,hdr,List.take,Int.natCast_zero]
     iterate 6 ((try (refine drvZ Tryz.func23 ?_;simp only [go_sem,hrp,putCells,hdr,List.take,Int.natCast_zero]));((with_reducible and_intros)<;>try exact sd);(try first | refine XK.p hfl2 hF ?_ | refine XK.gp hfl2 hF ?_))
     refine Go.inLoop ?_
     refine drvL Tryz.func23 ?_
     simp only [go_sem,e22]
     iterate 3 ((try (refine drvZ Tryz.func23 ?_;simp only [go_sem,e22]));((with_reducible and_intros)<;>try exact sd))
     exact fin _ _ rfl rfl (by simp) rfl rfl rfl rfl
 ·simp only [go_sem,TmOK,DM,DMs,CM,CMs,forall_eq,exists_eq_left,Mq,HpOK,LowOK]
  simp [CMs_I,clS,CMs_hdr,CMs_b0,CMs_b1,upd]
def secQ (x:Int):Bool:=secL x.toNat
def partP (q:Int→Bool) (p:Pg) (m:Mm):Mm × Bool:=if progOK p && memOK p.vars p.arrays m then (clrM q p.vars p.arrays m,true) else (⟨[],[]⟩,false)
theorem labX {l:List Int} (h:lab3 l) {x:Int} (hx:x ∈ l):∃ a:Nat,a≤3∧x=(a:Int):=by
 have:=h x hx
 exact ⟨x.toNat,by omega,by omega⟩
theorem publicPart (p:Pg) (m:Mm) (hl:p.vars.length≤mx) (hl2:p.arrays.length≤mx):DC Tryz.prog 7 [.agg p.cells,.agg m.cells] [] (fun r h=>r = .tup [.agg (partP secQ p m).1.cells,DB (partP secQ p m).2]∧h=[]):=by
 have hmx:=mx_eq
 have hv:=memoryValidI p m hl hl2
 cases hq:(progOK p && memOK p.vars p.arrays m) with
 | false =>
  have he:partP secQ p m=(⟨[],[]⟩,false):=by unfold partP;rw [hq];rfl
  rw [hq] at hv
  rw [he]
  generalize hR:(fun (r:D) (h:List (Option (List C)))=>r = .tup [.agg (Mm.cells ⟨[],[]⟩),DB false]∧h=[])=R
  obtain ⟨vs,ar,bd⟩:=p
  obtain ⟨va,arr⟩:=m
  refine dcZ Tryz.func7 ?_
  simp only [go_sem,Mm.cells]
  iterate 4 ((try (refine drvZ Tryz.func7 ?_;simp only [go_sem,Mm.cells]));((with_reducible and_intros)<;>try exact sd);(try first | refine XK.p hv ok30 ?_ | refine XK.gp hv ok30 ?_))
  subst hR
  refine RetOb.ofQ (fun _=>none) [] (.tup [.agg (Mm.cells ⟨[],[]⟩),DB false]) [] ?_ ⟨rfl,rfl⟩ (by simp)
  simp [enumL,DM,DMs,CM,CMs,HpOK,LowOK,Mm.cells,isI]
 | true =>
  have he:partP secQ p m=(clrM secQ p.vars p.arrays m,true):=by unfold partP;rw [hq];rfl
  have hmf:=memFits_of hq
  have hlab:=labs_of (p:=p) (by rw [Bool.and_eq_true] at hq;exact hq.1)
  rw [hq] at hv
  rw [he]
  have hcl:=cleared p.vars p.arrays m hmf.nv hmf.na (by have:=hmf.nv12;omega) hmf.na2 (fun a h=>(hmf.arr a h).1) 24 ok24 secQ (fun x hx=>by
   obtain ⟨a,ha,rfl⟩:∃ a:Nat,a≤3∧x=(a:Int):=hx.elim (labX hlab.1) (labX hlab.2)
   exact labelSecretI a ha)
  unfold ints at hcl
  generalize clrM secQ p.vars p.arrays m=y at *
  obtain ⟨ya,yr⟩:=y
  generalize hR:(fun (r:D) (h:List (Option (List C)))=>r = .tup [.agg (Mm.cells ⟨ya,yr⟩),DB true]∧h=[])=R
  obtain ⟨vs,ar,bd⟩:=p
  obtain ⟨va,arr⟩:=m
  refine dcZ Tryz.func7 ?_
  simp only [go_sem,Mm.cells]
  iterate 5 ((try (refine drvZ Tryz.func7 ?_;simp only [go_sem,Mm.cells]));((with_reducible and_intros)<;>try exact sd);(try first | refine XK.p hv ok30 ?_ | refine XK.gp hv ok30 ?_ | refine XK.p hcl ok23 ?_ | refine XK.gp hcl ok23 ?_))
  subst hR
  refine RetOb.ofQ (fun _=>none) [] (.tup [.agg (Mm.cells ⟨ya,yr⟩),DB true]) [] ?_ ⟨rfl,rfl⟩ (by simp)
  simp [enumL,DM,DMs,CM,CMs,HpOK,LowOK,Mm.cells,isI]
end Go.Proofs.YtoakidkcppinpaaGreat.CtR
