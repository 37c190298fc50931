/- Contracts of functions of the program, one behind the other, as plain data: what each call returns and which blocks it leaves. -/
import Derived.Test.YtmjkgjkkpaephaaGreatQFacts
import Derived.Test.YtmjkgjkkpaephaaGreatQAi
import Derived.Test.YtmjkgjkkpaephaaGreatQAj
import Derived.Test.YtmjkgjkkpaephaaGreatQAk
import Derived.Test.YtmjkgjkkpaephaaGreatQAl
import Derived.Test.YtmjkgjkkpaephaaGreatQAo
import Derived.Test.YtmjkgjkkpaephaaGreatQAp
import Derived.Test.YtmjkgjkkpaephaaGreatQAh
set_option linter.unusedVariables false
set_option linter.unusedSimpArgs false
set_option maxHeartbeats 16000000
set_option maxRecDepth 100000
namespace Go.Proofs.YtmjkgjkkpaephaaGreat.CtR
open Go Go.CT CtF
theorem lab_at {l:List Int} (h:lab3 l) {t:Int} (h0:0≤t) (h1:t<l.length):∃ T:Nat,T≤3∧(nth l t).toNat=T∧l[t.toNat]? = some (T:Int):=by
 have h2:=nth_lab h t
 have h3:=(nth_mem h0 h1).1
 exact ⟨(nth l t).toNat,by omega,rfl,by rw [h3];congr 1;omega⟩
theorem own1 (vs ar : List Int) (strict : Bool) (t : Int) (ix v : Ex) (cc : Int) (b e : List St1) (c : Nat) :
 ownR strict vs ar (.mk 1 t ix v cc b e) c=if subL (labN vs ar 5 v ||| c) (nth vs t).toNat=true then (if strict=true then (if secE vs ar 5 v=true then 4 else 0) else 0) else 1:=by
 have hf:flowR vs ar (.mk 1 t ix v cc b e) c=if subL (labN vs ar 5 v ||| c) (nth vs t).toNat=true then 0 else 1:=rfl
 have hk:leakR vs ar (.mk 1 t ix v cc b e) c=if secE vs ar 5 v=true then 4 else 0:=by
  cases hse:secE vs ar 5 v<;>simp [leakR,St1.kind,St1.value,St1.index,hse]
 unfold ownR
 rw [hf,hk]
 cases subL (labN vs ar 5 v ||| c) (nth vs t).toNat<;>simp
theorem own2 (vs ar : List Int) (strict : Bool) (t : Int) (ix v : Ex) (cc : Int) (b e : List St1) (c : Nat) :
 ownR strict vs ar (.mk 2 t ix v cc b e) c=if subL (labN vs ar 5 v ||| labN vs ar 5 ix ||| c) (nth ar t).toNat=true then (if strict=true then (if secE vs ar 5 v || secL (labN vs ar 5 ix) then 4 else 0) else 0) else 1:=by
 have hst:storedN vs ar (.mk 2 t ix v cc b e) c=labN vs ar 5 v ||| labN vs ar 5 ix ||| c:=by
  have:storedN vs ar (.mk 2 t ix v cc b e) c=labN vs ar 5 v ||| c ||| labN vs ar 5 ix:=rfl
  rw [this,Nat.or_assoc,Nat.or_comm c,← Nat.or_assoc]
 have hf:flowR vs ar (.mk 2 t ix v cc b e) c=if subL (labN vs ar 5 v ||| labN vs ar 5 ix ||| c) (nth ar t).toNat=true then 0 else 1:=by
  rw [← hst];rfl
 unfold ownR
 rw [hf]
 have hk:leakR vs ar (.mk 2 t ix v cc b e) c=if secE vs ar 5 v || secL (labN vs ar 5 ix) then 4 else 0:=by
  cases hse:secE vs ar 5 v<;>cases hsl:secL (labN vs ar 5 ix)<;>simp [leakR,St1.kind,St1.value,St1.index,hse,hsl]
 rw [hk]
 cases subL (labN vs ar 5 v ||| labN vs ar 5 ix ||| c) (nth ar t).toNat<;>simp
theorem own3 (vs ar : List Int) (strict : Bool) (t : Int) (ix v : Ex) (cc : Int) (b e : List St1) (c : Nat) :
 ownR strict vs ar (.mk 3 t ix v cc b e) c=if strict=true then (if secL (labN vs ar 5 v)=true then 3 else if secE vs ar 5 v=true then 4 else 0) else 0:=by
 simp only [ownR,flowR,leakR,St1.kind,St1.value]
 cases strict<;>simp
theorem own4 (vs ar : List Int) (strict : Bool) (t : Int) (ix : Ex) (cc : Int) (b e : List St1) (c : Nat) :
 ownR strict vs ar (.mk 4 t ix (.mk 0 0 []) cc b e) c=0:=by
 simp only [ownR,flowR,leakR,St1.kind,St1.value,secE]
 cases strict<;>simp
theorem own5 (vs ar : List Int) (strict : Bool) (t : Int) (ix v : Ex) (cc : Int) (b e : List St1) (c : Nat) :
 ownR strict vs ar (.mk 5 t ix v cc b e) c=if trustL (labN vs ar 5 v) && c == 0 then (if strict=true then (if secE vs ar 5 v=true then 4 else 0) else 0) else 2:=by
 have hf:flowR vs ar (.mk 5 t ix v cc b e) c=if trustL (labN vs ar 5 v) && c == 0 then 0 else 2:=rfl
 have hk:leakR vs ar (.mk 5 t ix v cc b e) c=if secE vs ar 5 v=true then 4 else 0:=by
  cases hse:secE vs ar 5 v<;>simp [leakR,St1.kind,St1.value,St1.index,hse]
 unfold ownR
 rw [hf,hk]
 cases (trustL (labN vs ar 5 v) && c == 0)<;>simp
theorem ownS (p : Pg) (hl : p.vars.length ≤ mx) (hl2 : p.arrays.length ≤ mx) (h1 : lab3 p.vars) (h2 : lab3 p.arrays) (d : Nat) (s : St1) (hs : stmtOK p (d + 1) s = true) (c : Nat) (hc : c ≤ 3) (strict : Bool) :
 DC Tryz.prog 206 [.agg p.cells,.agg s.cells,DI .i64 c,DB strict] [] (fun r h=>r=DI .i64 (ownR strict p.vars p.arrays s c)∧h=[]):=by
 have hmx:=mx_eq
 have hlab:=labelS p hl hl2 h1 h2 5
 have hsec:=secretS p hl hl2 h1 h2 5
 have hle:=labN_le h1 h2 5
 obtain ⟨vs,ar,bd⟩:=p
 have h1:lab3 vs:=h1
 have h2:lab3 ar:=h2
 have ret:∀ (n:Int) (hp:Hp),n=ownR strict vs ar s c→RetOb 0 (fun r h=>r=DI .i64 (ownR strict vs ar s c)∧h=[]) (DI .i64 n) hp:=fun n hp h=>RetOb.plain (d:=DI .i64 _) ⟨by rw [h],rfl⟩ rfl
 simp only at ret hle ⊢
 generalize hR:(fun (r:D) (h:List (Option (List C)))=>r=DI .i64 (ownR strict vs ar s c)∧h=[])=R at ret ⊢
 clear hR
 obtain ⟨k,t,⟨ik,iv,iks⟩,⟨vk,vv,vks⟩,cc,b,e⟩:=s
 have hh:=head_kind (stmtOK_succ hs).1
 rcases hh with ⟨hk,ht0,ht1,hr⟩ | ⟨rfl,ht0,ht1,hri,hat,hr⟩ | ⟨rfl,hr⟩ | ⟨rfl,_,_⟩
 ·have hlv:=hlab _ (right_shape hr).1
  have hsv:=hsec _ (right_shape hr).1
  have hlvl:=hle (.mk vk vv vks)
  obtain ⟨T,hT,hTe,htt⟩:=lab_at h1 ht0 ht1
  rcases hk with rfl | rfl
  ·rw [own1,hTe] at ret
   generalize labN vs ar 5 (.mk vk vv vks)=lv at *
   have hor:=or3 hlvl hc
   have hfl:=labelFlowsS (lv ||| c) T hor hT
   generalize subL (lv ||| c) T=sub at *
   simp only at hsv
   generalize secE vs ar 5 (.mk vk vv vks)=sv at *
   cases sub<;>cases strict<;>cases sv
   all_goals
    refine dcZ Tryz.func206 ?_
    simp only [go_sem]
    iterate 9 ((try (refine drvZ Tryz.func206 ?_;simp only [go_sem,htt]));((with_reducible and_intros)<;>try exact sd);(try first | refine XK.p hlv ok142 ?_ | refine XK.gp hlv ok142 ?_ | refine XK.p hfl ok218 ?_ | refine XK.gp hfl ok218 ?_ | refine XK.p hsv ok220 ?_ | refine XK.gp hsv ok220 ?_ | refine XK.gs (DB false) ?_ | refine XK.gs (DI .i64 0) ?_))
   all_goals exact ret _ _ (by rfl)
  ·rw [own5] at ret
   have hc0:(c == 0)=decide (c=0):=rfl
   generalize labN vs ar 5 (.mk vk vv vks)=lv at *
   have htr:=labelTrustedS lv hlvl
   generalize trustL lv=tr at *
   simp only at hsv
   generalize secE vs ar 5 (.mk vk vv vks)=sv at *
   have hcz:c=0∨(c ≠ 0∧((c:Int)=0)=False∧((c:Int) != 0)=true):=by
    rcases Nat.eq_zero_or_pos c with h | h
    ·exact .inl h
    ·exact .inr ⟨by omega,eq_false (by omega),by simp;omega⟩
   rcases hcz with rfl | ⟨hc1,hc2,hc3⟩
   ·cases tr<;>cases strict<;>cases sv
    all_goals
     refine dcZ Tryz.func206 ?_
     simp only [go_sem]
     iterate 9 ((try (refine drvZ Tryz.func206 ?_;simp only [go_sem,Int.natCast_zero]));((with_reducible and_intros)<;>try exact sd);(try first | refine XK.p hlv ok142 ?_ | refine XK.gp hlv ok142 ?_ | refine XK.p htr ok219 ?_ | refine XK.gp htr ok219 ?_ | refine XK.p hsv ok220 ?_ | refine XK.gp hsv ok220 ?_ | refine XK.gs (DB false) ?_ | refine XK.gs (DI .i64 0) ?_))
    all_goals exact ret _ _ (by rfl)
   ·have hce:(c == 0)=false:=by simp [hc1]
    rw [hce] at ret
    cases tr<;>cases strict<;>cases sv
    all_goals
     refine dcZ Tryz.func206 ?_
     simp only [go_sem]
     iterate 9 ((try (refine drvZ Tryz.func206 ?_;simp only [go_sem,hc2,hc3]));((with_reducible and_intros)<;>try exact sd);(try first | refine XK.p hlv ok142 ?_ | refine XK.gp hlv ok142 ?_ | refine XK.p htr ok219 ?_ | refine XK.gp htr ok219 ?_ | refine XK.p hsv ok220 ?_ | refine XK.gp hsv ok220 ?_ | refine XK.gs (DB false) ?_ | refine XK.gs (DI .i64 0) ?_))
    all_goals exact ret _ _ (by rfl)
 ·have hlv:=hlab _ (right_shape hr).1
  have hli:=hlab _ (right_shape hri).1
  have hsv:=hsec _ (right_shape hr).1
  have hlvl:=hle (.mk vk vv vks)
  have hlil:=hle (.mk ik iv iks)
  obtain ⟨T,hT,hTe,htt⟩:=lab_at h2 ht0 ht1
  rw [own2,hTe] at ret
  generalize labN vs ar 5 (.mk vk vv vks)=lv at *
  generalize labN vs ar 5 (.mk ik iv iks)=li at *
  have hvi:=or3 hlvl hlil
  have hor:=or3 hvi hc
  have hfl:=labelFlowsS (lv ||| li ||| c) T hor hT
  have hsl:=labelSecretS li hlil
  generalize subL (lv ||| li ||| c) T=sub at *
  generalize secL li=sl at *
  simp only at hsv
  generalize secE vs ar 5 (.mk vk vv vks)=sv at *
  cases sub<;>cases strict<;>cases sv<;>cases sl
  all_goals
   refine dcZ Tryz.func206 ?_
   simp only [go_sem]
   iterate 9 ((try (refine drvZ Tryz.func206 ?_;simp only [go_sem,htt]));((with_reducible and_intros)<;>try exact sd);(try first | refine XK.p hlv ok142 ?_ | refine XK.gp hlv ok142 ?_ | refine XK.p hli ok142 ?_ | refine XK.gp hli ok142 ?_ | refine XK.p hfl ok218 ?_ | refine XK.gp hfl ok218 ?_ | refine XK.p hsv ok220 ?_ | refine XK.gp hsv ok220 ?_ | refine XK.p hsl ok141 ?_ | refine XK.gp hsl ok141 ?_ | refine XK.gs (DB false) ?_ | refine XK.gs (DI .i64 0) ?_))
  all_goals exact ret _ _ (by rfl)
 ·have hlv:=hlab _ (right_shape hr).1
  have hsv:=hsec _ (right_shape hr).1
  have hlvl:=hle (.mk vk vv vks)
  rw [own3] at ret
  generalize labN vs ar 5 (.mk vk vv vks)=lv at *
  have hsl:=labelSecretS lv hlvl
  generalize secL lv=sl at *
  simp only at hsv
  generalize secE vs ar 5 (.mk vk vv vks)=sv at *
  cases strict<;>cases sv<;>cases sl
  all_goals
   refine dcZ Tryz.func206 ?_
   simp only [go_sem]
   iterate 9 ((try (refine drvZ Tryz.func206 ?_;simp only [go_sem]));((with_reducible and_intros)<;>try exact sd);(try first | refine XK.p hlv ok142 ?_ | refine XK.gp hlv ok142 ?_ | refine XK.p hsv ok220 ?_ | refine XK.gp hsv ok220 ?_ | refine XK.p hsl ok141 ?_ | refine XK.gp hsl ok141 ?_ | refine XK.gs (DB false) ?_ | refine XK.gs (DI .i64 0) ?_))
  all_goals exact ret _ _ (by rfl)
 ·obtain ⟨hv1,hv2⟩:=CtD.val_none hs
  cases hv2
  rw [own4] at ret
  cases strict
  all_goals
   refine dcZ Tryz.func206 ?_
   simp only [go_sem]
   iterate 9 ((try (refine drvZ Tryz.func206 ?_;simp only [go_sem]));((with_reducible and_intros)<;>try exact sd);(try first | refine XK.gs (DB false) ?_ | refine XK.gs (DI .i64 0) ?_))
  all_goals exact ret _ _ (by rfl)
def wkF (res:St1→Nat→Int) (vs ar:List Int) (d c:Nat) (x:Int × Int) (s:St1):Int × Int :=
 if x.1 ≠ 0 then x else if res s c ≠ 0 then (res s c,x.2) else
  if (walkR res vs ar d (ctxI vs ar s c) s.body (x.2+1)).1 ≠ 0 then walkR res vs ar d (ctxI vs ar s c) s.body (x.2+1)
  else walkR res vs ar d (ctxI vs ar s c) s.els (walkR res vs ar d (ctxI vs ar s c) s.body (x.2+1)).2
theorem wk_succ (res:St1→Nat→Int) (vs ar:List Int) (d c:Nat) (l:List St1) (n:Int):walkR res vs ar (d+1) c l n=l.foldl (wkF res vs ar d c) (0,n):=rfl
theorem wkF_stop (res : St1 → Nat → Int) (vs ar : List Int) (d c : Nat) : ∀ (l : List St1) (x : Int × Int), x.1 ≠ 0 → l.foldl (wkF res vs ar d c) x = x
 | [],_,_=>rfl
 | a :: r,x,h=>by
  have:wkF res vs ar d c x a=x:=by unfold wkF;rw [if_pos h]
  rw [List.foldl_cons,this,wkF_stop res vs ar d c r x h]
theorem wkF_len (res : St1 → Nat → Int) (vs ar : List Int) : ∀ (d c : Nat) (l : List St1) (n : Int), n ≤ (walkR res vs ar d c l n).2 ∧ (walkR res vs ar d c l n).2 ≤ n + lsize d l
 | 0,c,l,n=>by simp [walkR,lsize_zero]
 | d+1,c,l,n=>by
  have hone:∀ (x:Int × Int) (s:St1),x.2≤(wkF res vs ar d c x s).2∧(wkF res vs ar d c x s).2≤x.2+tsize (d+1) s:=fun x s=>by
   have hs:=tsize_subs d s
   simp only [subs] at hs
   have h1:=wkF_len res vs ar d (ctxI vs ar s c) s.body (x.2+1)
   have h2:=wkF_len res vs ar d (ctxI vs ar s c) s.els (walkR res vs ar d (ctxI vs ar s c) s.body (x.2+1)).2
   unfold wkF
   split
   ·omega
   ·split
    ·simp only;omega
    ·split<;>omega
  have key:∀ (l:List St1) (x:Int × Int),x.2≤(l.foldl (wkF res vs ar d c) x).2∧(l.foldl (wkF res vs ar d c) x).2≤x.2+lsize (d+1) l:=by
   intro l
   induction l with
   | nil=>intro x;simp [lsize]
   | cons a r ih =>
    intro x
    have h1:=hone x a
    have h2:=ih (wkF res vs ar d c x a)
    have hsz:lsize (d+1) (a :: r)=tsize (d+1) a+lsize (d+1) r:=by simp [lsize]
    rw [List.foldl_cons,hsz]
    push_cast
    omega
  exact key l (0,n)
theorem blockS (p:Pg) (hl:p.vars.length≤mx) (hl2:p.arrays.length≤mx) (h1:lab3 p.vars) (h2:lab3 p.arrays) (strict:Bool):∀ (d:Nat) (l:List St1) (c:Nat) (n:Int),c≤3→(∀ s ∈ l,stmtOK p d s=true)→0≤n→n+lsize d l≤1000 →
 DC Tryz.prog 184 [.agg p.cells,.c (.isl 11 (St1.cellsL l)),DI .i64 c,DI .i64 n,DB strict] [] (fun r h=>r = .tup [DI .i64 (walkR (ownR strict p.vars p.arrays) p.vars p.arrays d c l n).1,DI .i64 (walkR (ownR strict p.vars p.arrays) p.vars p.arrays d c l n).2]∧h=[]):=by
 have hmx:=mx_eq
 intro d
 induction d with
 | zero =>
  intro l c n hc hok hn hsz
  have hnil:l=[]:=by
   cases l with
   | nil=>rfl
   | cons a r=>have:=hok a (by simp);simp [stmtOK] at this
  subst hnil
  obtain ⟨vs,ar,bd⟩:=p
  simp only [walkR]
  have ret:∀ hp:Hp,RetOb 0 (fun r h=>r = .tup [DI .i64 0,DI .i64 n]∧h=[]) (.tup [DI .i64 0,DI .i64 n]) hp:=fun hp=>RetOb.ofQ (fun _=>none) [] (.tup [DI .i64 0,DI .i64 n]) [] (by simp [enumL,DM,DMs,CM,HpOK,LowOK]) ⟨rfl,rfl⟩ (by simp)
  generalize hR:(fun (r:D) (h:List (Option (List C)))=>r = .tup [DI .i64 0,DI .i64 n]∧h=[])=R at ret ⊢
  have hz:((0:Int)<0)=False:=eq_false (by omega)
  refine dcZ Tryz.func184 ?_
  simp only [go_sem,St1.cellsL,Int.natCast_zero]
  refine Go.loop ?_
  refine drvL Tryz.func184 ?_
  simp only [go_sem,St1.cellsL,Int.natCast_zero,hz]
  iterate 2 ((try (refine drvZ Tryz.func184 ?_;simp only [go_sem,St1.cellsL,Int.natCast_zero,hz]));((with_reducible and_intros)<;>try exact sd))
  exact ret _
 | succ d ih =>
  intro l c n hc hok hn hsz
  have hlab:=labelS p hl hl2 h1 h2 5
  have hown:=fun s h=>ownS p hl hl2 h1 h2 d s h c hc strict
  have hle:=labN_le h1 h2 5
  have hll:l.length≤1000:=by have:=lsize_subs d l;omega
  have hwl:=wkF_len (ownR strict p.vars p.arrays) p.vars p.arrays d
  rw [wk_succ]
  have hstop:=wkF_stop (ownR strict p.vars p.arrays) p.vars p.arrays d c
  have hFd:∀ (a:Int) (k t:Int) (ix v:Ex) (cc:Int) (b e:List St1),(ownR strict p.vars p.arrays (.mk k t ix v cc b e) c ≠ 0→wkF (ownR strict p.vars p.arrays) p.vars p.arrays d c (0,a) (.mk k t ix v cc b e)=(ownR strict p.vars p.arrays (.mk k t ix v cc b e) c,a)) ∧
   (ownR strict p.vars p.arrays (.mk k t ix v cc b e) c=0→(walkR (ownR strict p.vars p.arrays) p.vars p.arrays d (ctxI p.vars p.arrays (.mk k t ix v cc b e) c) b (a+1)).1 ≠ 0→wkF (ownR strict p.vars p.arrays) p.vars p.arrays d c (0,a) (.mk k t ix v cc b e)=walkR (ownR strict p.vars p.arrays) p.vars p.arrays d (ctxI p.vars p.arrays (.mk k t ix v cc b e) c) b (a+1)) ∧
   (ownR strict p.vars p.arrays (.mk k t ix v cc b e) c = 0 → (walkR (ownR strict p.vars p.arrays) p.vars p.arrays d (ctxI p.vars p.arrays (.mk k t ix v cc b e) c) b (a + 1)).1 = 0 → wkF (ownR strict p.vars p.arrays) p.vars p.arrays d c (0, a) (.mk k t ix v cc b e) =
    walkR (ownR strict p.vars p.arrays) p.vars p.arrays d (ctxI p.vars p.arrays (.mk k t ix v cc b e) c) e (walkR (ownR strict p.vars p.arrays) p.vars p.arrays d (ctxI p.vars p.arrays (.mk k t ix v cc b e) c) b (a+1)).2):=fun a k t ix v cc b e=>by
   refine ⟨fun h=>?_,fun h h'=>?_,fun h h'=>?_⟩
   ·unfold wkF;rw [if_neg (by simp),if_pos h]
   ·unfold wkF;rw [if_neg (by simp),if_neg (by simpa using h)];exact if_pos h'
   ·unfold wkF;rw [if_neg (by simp),if_neg (by simpa using h)];exact if_neg fun hn=>hn h'
  generalize wkF (ownR strict p.vars p.arrays) p.vars p.arrays d c=F at *
  have hfold:∀ i s,l[i]? = some s→(l.take (i+1)).foldl F (0,n)=F ((l.take i).foldl F (0,n)) s:=fun i s h=>by rw [List.take_add_one,h];simp
  have hend:∀ i s a,l[i]? = some s→(l.take i).foldl F (0,n)=(0,a)→(F (0,a) s).1 ≠ 0→l.foldl F (0,n)=F (0,a) s:=fun i s a hs h0 h1=>by
   have e:l=l.take (i+1)++l.drop (i+1):=(List.take_append_drop _ _).symm
   rw [e,List.foldl_append,hfold i s hs,h0]
   exact hstop _ _ h1
  have hctx:∀ s,ctxI p.vars p.arrays s c≤3:=fun s=>by
   unfold ctxI
   split
   ·exact or3 hc (hle _)
   ·exact hc
  have hK:∀ (i:Nat) (s:St1),l[i]? = some s→tsum (tsize (d+1)) l (i+1)=tsum (tsize (d+1)) l i+1+lsize d s.body+lsize d s.els∧tsum (tsize (d+1)) l (i+1)≤lsize (d+1) l:=fun i s hi=>by
   have a1:=tsum_succ (tsize (d+1)) l i s hi
   have a2:=tsum_le (tsize (d+1)) l (i+1)
   have a3:=tsize_subs d s
   have a4:lsize (d+1) l=(l.map (tsize (d+1))).sum:=rfl
   simp only [subs] at a3
   omega
  have ret:∀ (x:Int × Int) (hp:Hp),x=l.foldl F (0,n)→RetOb 0 (fun r h=>r = .tup [DI .i64 (l.foldl F (0,n)).1,DI .i64 (l.foldl F (0,n)).2]∧h=[]) (.tup [DI .i64 x.1,DI .i64 x.2]) hp:=fun x hp h=>by
   subst h
   exact RetOb.ofQ (fun _=>none) [] (.tup [DI .i64 (l.foldl F (0,n)).1,DI .i64 (l.foldl F (0,n)).2]) [] (by simp [enumL,DM,DMs,CM,HpOK,LowOK]) ⟨rfl,rfl⟩ (by simp)
  generalize hR:(fun (r:D) (h:List (Option (List C)))=>r = .tup [DI .i64 (l.foldl F (0,n)).1,DI .i64 (l.foldl F (0,n)).2]∧h=[])=R at ret ⊢
  clear hR hstop
  obtain ⟨vs,ar,bd⟩:=p
  refine dcZ Tryz.func184 ?_
  simp only [go_sem]
  refine Go.loopQ (fun σ : Nat × Int => [(1, .c (.isl 11 (St1.cellsL l))), (2, DI .i64 c), (3, DI .i64 σ.2), (4, DB strict), (5, .c (.ptr 0 0)), (12, DI .i64 σ.1)])
   (fun σ=>[(0,some (Pg.cells ⟨vs,ar,bd⟩))]) 4096 (fun σ=>σ.1≤l.length∧(l.take σ.1).foldl F (0,n)=(0,σ.2)∧n≤σ.2∧σ.2≤n+tsum (tsize (d+1)) l σ.1) (fun σ=>l.length - σ.1) ?_ (0,n) some [] _ ⟨Nat.zero_le _,rfl,Int.le_refl _,by simp [tsum]⟩ ?_
  ·rintro ⟨i,a⟩ ⟨hi,hia,hna,han⟩ again
   simp only at hi hia hna han
   rcases Nat.lt_or_ge i l.length with hlt | hge
   ·obtain ⟨⟨k,t,⟨ik,iv,iks⟩,⟨vk,vv,vks⟩,cc,b,e⟩,hs⟩:∃ s,l[i]? = some s:=⟨l[i],by simp [hlt]⟩
    have hso:=hok _ (List.mem_of_getElem? hs)
    have hbo:=stmtOK_succ hso
    have hkk:=hK i _ hs
    have hw:=hown _ hso
    have hfi:=hfold i _ hs
    rw [hia] at hfi
    have hen:=hend i _ a hs hia
    obtain ⟨hF1,hF2,hF3⟩:=hFd a k t (.mk ik iv iks) (.mk vk vv vks) cc b e
    have hcx:=hctx (.mk k t (.mk ik iv iks) (.mk vk vv vks) cc b e)
    have hsh:k=3→shape ⟨vs,ar,bd⟩ 5 (.mk vk vv vks)=true:=fun h=>(shapeV hso).1 (by omega)
    simp only [St1.body,St1.els] at hkk
    have hb:=ih b (ctxI vs ar (.mk k t (.mk ik iv iks) (.mk vk vv vks) cc b e) c) (a+1) hcx hbo.2.1 (by omega) (by omega)
    have hbw:=hwl (ctxI vs ar (.mk k t (.mk ik iv iks) (.mk vk vv vks) cc b e) c) b (a+1)
    have he:=fun n h1 h2=>ih e (ctxI vs ar (.mk k t (.mk ik iv iks) (.mk vk vv vks) cc b e) c) n hcx hbo.2.2 h1 h2
    have hew:=fun n=>hwl (ctxI vs ar (.mk k t (.mk ik iv iks) (.mk vk vv vks) cc b e) c) e n
    have hcd:k=3→ctxI vs ar (.mk k t (.mk ik iv iks) (.mk vk vv vks) cc b e) c=c ||| labN vs ar 5 (.mk vk vv vks):=fun h=>by subst h;rfl
    have hcn:k ≠ 3→ctxI vs ar (.mk k t (.mk ik iv iks) (.mk vk vv vks) cc b e) c=c:=fun h=>by unfold ctxI;exact if_neg h
    have hlk:=fun h=>hlab (.mk vk vv vks) (hsh h)
    have hlvl:=hle (.mk vk vv vks)
    simp only at hw hb hbw he hew hF1 hF2 hF3 hlk hlvl hcx
    generalize hF:F (0,a) (.mk k t (.mk ik iv iks) (.mk vk vv vks) cc b e)=Fs at *
    generalize labN vs ar 5 (.mk vk vv vks)=lv at *
    generalize ownR strict vs ar (.mk k t (.mk ik iv iks) (.mk vk vv vks) cc b e) c=ro at *
    generalize ctxI vs ar (.mk k t (.mk ik iv iks) (.mk vk vv vks) cc b e) c=cx at *
    generalize walkR (ownR strict vs ar) vs ar d cx b (a+1)=wb at *
    obtain ⟨r1,a1⟩:=wb
    simp only at hbw hF2 hF3 hb
    have he:=he a1 (by omega) (by omega)
    have hew:=hew a1
    generalize walkR (ownR strict vs ar) vs ar d cx e a1=we at *
    obtain ⟨r2,a2⟩:=we
    simp only at hew he
    clear hwl hFd hlab hown hK hend hfold hF
    by_cases hro:ro=0
    ·subst hro
     clear hF1
     have hF2:=hF2 rfl
     have hF3:=hF3 rfl
     by_cases hk:k=3
     case' pos =>
      have hcx2:=hcd hk
      subst hcx2
      have hlk:=hlk hk
      have hk:=eq_true hk
      have ek:(k == 3)=true:=by simp [hk]
     case' neg =>
      have hcx2:=hcn hk
      subst hcx2
      have hlk:=()
      have ek:(k == 3)=false:=by simp [hk]
     all_goals
      by_cases hr1:r1=0
      ·subst hr1
       have hF3:=hF3 rfl
       subst hF3
       by_cases hr2:r2=0
       ·subst hr2
        refine drvL Tryz.func184 ?_
        simp only [go_sem,hs,hlt]
        iterate 14 ((try (refine drvZ Tryz.func184 ?_;simp only [go_sem,hs,hlt,hk,ek,bne_self_eq_false]));((with_reducible and_intros)<;>try exact sd);(try first | refine XK.p hw ok206 ?_ | refine XK.gp hw ok206 ?_ | refine XK.p hlk ok142 ?_ | refine XK.gp hlk ok142 ?_ | refine XK.p hb ok184 ?_ | refine XK.gp hb ok184 ?_ | refine XK.p he ok184 ?_ | refine XK.gp he ok184 ?_))
        refine again (i+1,a2) some [] _ ⟨hlt,hfi,(show n≤a2 by omega),(show a2≤n+tsum (tsize (d+1)) l (i+1) by omega)⟩ (show l.length - (i+1)<l.length - i by omega) ?_
        simp only [go_sem,TmOK,DM,DMs,CM,CMs,forall_eq,exists_eq_left,Mq,HpOK,LowOK]
        try simp
       ·have g1:(r2=0)=False:=eq_false hr2
        have g2:(r2 != 0)=true:=by simp [hr2]
        refine drvL Tryz.func184 ?_
        simp only [go_sem,hs,hlt]
        iterate 14 ((try (refine drvZ Tryz.func184 ?_;simp only [go_sem,hs,hlt,hk,ek,g1,g2,bne_self_eq_false]));((with_reducible and_intros)<;>try exact sd);(try first | refine XK.p hw ok206 ?_ | refine XK.gp hw ok206 ?_ | refine XK.p hlk ok142 ?_ | refine XK.gp hlk ok142 ?_ | refine XK.p hb ok184 ?_ | refine XK.gp hb ok184 ?_ | refine XK.p he ok184 ?_ | refine XK.gp he ok184 ?_))
        exact ret (r2,a2) _ (hen hr2).symm
      ·have g1:(r1=0)=False:=eq_false hr1
       have g2:(r1 != 0)=true:=by simp [hr1]
       have g3:(r1 == 0)=false:=by simp [hr1]
       have hF2:=hF2 hr1
       subst hF2
       refine drvL Tryz.func184 ?_
       simp only [go_sem,hs,hlt]
       iterate 14 ((try (refine drvZ Tryz.func184 ?_;simp only [go_sem,hs,hlt,hk,ek,g1,g2,g3,bne_self_eq_false]));((with_reducible and_intros)<;>try exact sd);(try first | refine XK.p hw ok206 ?_ | refine XK.gp hw ok206 ?_ | refine XK.p hlk ok142 ?_ | refine XK.gp hlk ok142 ?_ | refine XK.p hb ok184 ?_ | refine XK.gp hb ok184 ?_ | refine XK.p he ok184 ?_ | refine XK.gp he ok184 ?_))
       exact ret (r1,a1) _ (hen hr1).symm
    ·have hFs:=hF1 hro
     have g1:(ro=0)=False:=eq_false hro
     have g2:(ro != 0)=true:=by simp [hro]
     refine drvL Tryz.func184 ?_
     simp only [go_sem,hs,hlt]
     iterate 6 ((try (refine drvZ Tryz.func184 ?_;simp only [go_sem,hs,hlt,g1,g2]));((with_reducible and_intros)<;>try exact sd);(try first | refine XK.p hw ok206 ?_ | refine XK.gp hw ok206 ?_))
     subst hFs
     exact ret (ro,a) _ (hen hro).symm
   ·have hn:¬ i<l.length:=by omega
    obtain rfl:i=l.length:=by omega
    rw [List.take_length] at hia
    refine drvL Tryz.func184 ?_
    simp only [go_sem,hn]
    iterate 3 ((try (refine drvZ Tryz.func184 ?_;simp only [go_sem,hn]));((with_reducible and_intros)<;>try exact sd))
    exact ret (0,a) _ hia.symm
  ·simp only [go_sem,TmOK,DM,DMs,CM,CMs,forall_eq,exists_eq_left,Mq,HpOK,LowOK]
   try simp
theorem checkS (p:Pg) (hl:p.vars.length≤mx) (hl2:p.arrays.length≤mx) (hb:lsize 5 p.body≤1099511627776) (strict:Bool):DC Tryz.prog 134 [.agg p.cells,DB strict] [] (fun r h=>r = .tup [DI .i64 (chkR (ownR strict) p).1,DI .i64 (chkR (ownR strict) p).2]∧h=[]):=by
 have hmx:=mx_eq
 have hv:=programValidS p hl hl2 hb
 have ret:∀ (x:Int × Int) (hp:Hp),x=chkR (ownR strict) p→RetOb 0 (fun r h=>r = .tup [DI .i64 (chkR (ownR strict) p).1,DI .i64 (chkR (ownR strict) p).2]∧h=[]) (.tup [DI .i64 x.1,DI .i64 x.2]) hp:=fun x hp h=>by
  subst h
  exact RetOb.two ⟨rfl,rfl⟩
 generalize hR:(fun (r:D) (h:List (Option (List C)))=>r = .tup [DI .i64 (chkR (ownR strict) p).1,DI .i64 (chkR (ownR strict) p).2]∧h=[])=R at ret ⊢
 clear hR
 cases hq:progOK p with
 | false =>
  rw [hq] at hv
  have he:chkR (ownR strict) p=(5,-1):=by unfold chkR;rw [hq];rfl
  obtain ⟨vs,ar,bd⟩:=p
  refine dcZ Tryz.func134 ?_
  simp only [go_sem]
  iterate 4 ((try (refine drvZ Tryz.func134 ?_;simp only [go_sem]));((with_reducible and_intros)<;>try exact sd);(try first | refine XK.p hv ok97 ?_ | refine XK.gp hv ok97 ?_))
  exact ret (5,-1) _ he.symm
 | true =>
  rw [hq] at hv
  have hlab:=labs_of hq
  have hbo:=body_of hq
  have hbl:=blockS p hl hl2 hlab.1 hlab.2 strict 5 p.body 0 0 (by decide) hbo.1 (by omega) (by have:=hbo.2;omega)
  have he:chkR (ownR strict) p=((walkR (ownR strict p.vars p.arrays) p.vars p.arrays 5 0 p.body 0).1,if (walkR (ownR strict p.vars p.arrays) p.vars p.arrays 5 0 p.body 0).1=0 then -1 else (walkR (ownR strict p.vars p.arrays) p.vars p.arrays 5 0 p.body 0).2):=by
   unfold chkR;rw [if_pos hq]
  generalize walkR (ownR strict p.vars p.arrays) p.vars p.arrays 5 0 p.body 0=w at *
  obtain ⟨r1,a1⟩:=w
  simp only at he hbl
  obtain ⟨vs,ar,bd⟩:=p
  by_cases hr:r1=0
  ·subst hr
   rw [if_pos rfl] at he
   refine dcZ Tryz.func134 ?_
   simp only [go_sem]
   iterate 6 ((try (refine drvZ Tryz.func134 ?_;simp only [go_sem]));((with_reducible and_intros)<;>try exact sd);(try first | refine XK.p hv ok97 ?_ | refine XK.gp hv ok97 ?_ | refine XK.p hbl ok184 ?_ | refine XK.gp hbl ok184 ?_))
   exact ret (0,-1) _ he.symm
  ·have g1:(r1=0)=False:=eq_false hr
   have g2:(r1 == 0)=false:=by simp [hr]
   rw [if_neg hr] at he
   refine dcZ Tryz.func134 ?_
   simp only [go_sem]
   iterate 6 ((try (refine drvZ Tryz.func134 ?_;simp only [go_sem,g1,g2]));((with_reducible and_intros)<;>try exact sd);(try first | refine XK.p hv ok97 ?_ | refine XK.gp hv ok97 ?_ | refine XK.p hbl ok184 ?_ | refine XK.gp hbl ok184 ?_))
   exact ret (r1,a1) _ he.symm
theorem checkFlowS (p:Pg) (hl:p.vars.length≤mx) (hl2:p.arrays.length≤mx) (hb:lsize 5 p.body≤1099511627776):DC Tryz.prog 95 [.agg p.cells] [] (fun r h=>r = .tup [DI .i64 (chkR flowR p).1,DI .i64 (chkR flowR p).2]∧h=[]):=by
 have hc:=checkS p hl hl2 hb false
 rw [own_flow] at hc
 generalize chkR flowR p=x at *
 generalize hR:(fun (r:D) (h:List (Option (List C)))=>r = .tup [DI .i64 x.1,DI .i64 x.2]∧h=[])=R
 obtain ⟨vs,ar,bd⟩:=p
 refine dcZ Tryz.func95 ?_
 simp only [go_sem]
 rw [hR] at hc
 subst hR
 iterate 4 ((try (refine drvZ Tryz.func95 ?_;simp only [go_sem]));((with_reducible and_intros)<;>try exact sd);(try first | refine XK.p hc ok134 ?_ | refine XK.gp hc ok134 ?_))
 exact RetOb.two ⟨rfl,rfl⟩
theorem storedI (p : Pg) (hl : p.vars.length ≤ mx) (hl2 : p.arrays.length ≤ mx) (h1 : lab3 p.vars) (h2 : lab3 p.arrays) (s : St1) (hv : shape p 5 s.value = true) (hi : s.kind = 2 → shape p 5 s.index = true) (c : Nat) (hc : c ≤ 3) :
 DC Tryz.prog 127 [.agg p.cells,.agg s.cells,DI .i64 c] [] (fun r h=>r=DI .i64 (storedN p.vars p.arrays s c)∧h=[]):=by
 have hmx:=mx_eq
 have hlv:=labelI p hl hl2 h1 h2 5 s.value hv
 have hli:=fun h=>labelI p hl hl2 h1 h2 5 s.index (hi h)
 have hle:=labN_le h1 h2 5
 obtain ⟨vs,ar,bd⟩:=p
 have hlvl:=hle s.value
 have hlil:=hle s.index
 by_cases hk:s.kind=2
 ·have he:storedN vs ar s c=labN vs ar 5 s.value ||| c ||| labN vs ar 5 s.index:=by unfold storedN;rw [if_pos hk]
  have hli:=hli hk
  simp only at he hli hlv hlvl hlil ⊢
  rw [he]
  generalize labN vs ar 5 s.value=lv at *
  generalize labN vs ar 5 s.index=li at *
  have ho:=or3 hlvl hc
  obtain ⟨k,t,⟨ik,iv,iks⟩,⟨vk,vv,vks⟩,cc,b,e⟩:=s
  have hk:k=2:=hk
  subst hk
  generalize hR:(fun (r:D) (h:List (Option (List C)))=>r=DI .i64 ((lv ||| c ||| li:Nat):Int)∧h=[])=R
  refine dcZ Tryz.func127 ?_
  simp only [go_sem]
  iterate 6 ((try (refine drvZ Tryz.func127 ?_;simp only [go_sem]));((with_reducible and_intros)<;>try exact sd);(try first | refine XK.p hlv ok91 ?_ | refine XK.gp hlv ok91 ?_ | refine XK.p hli ok91 ?_ | refine XK.gp hli ok91 ?_))
  subst hR
  exact RetOb.plain (d:=DI .i64 _) ⟨rfl,rfl⟩ rfl
 ·have he:storedN vs ar s c=labN vs ar 5 s.value ||| c:=by unfold storedN;rw [if_neg hk]
  simp only at he hlv hlvl ⊢
  rw [he]
  generalize labN vs ar 5 s.value=lv at *
  obtain ⟨k,t,⟨ik,iv,iks⟩,⟨vk,vv,vks⟩,cc,b,e⟩:=s
  have hk:k ≠ 2:=hk
  have g1:(k=2)=False:=eq_false hk
  have g2:(k == 2)=false:=by simp [hk]
  generalize hR:(fun (r:D) (h:List (Option (List C)))=>r=DI .i64 ((lv ||| c:Nat):Int)∧h=[])=R
  refine dcZ Tryz.func127 ?_
  simp only [go_sem]
  iterate 6 ((try (refine drvZ Tryz.func127 ?_;simp only [go_sem,g1,g2]));((with_reducible and_intros)<;>try exact sd);(try first | refine XK.p hlv ok91 ?_ | refine XK.gp hlv ok91 ?_))
  subst hR
  exact RetOb.plain (d:=DI .i64 _) ⟨rfl,rfl⟩ rfl
theorem flowI (p : Pg) (hl : p.vars.length ≤ mx) (hl2 : p.arrays.length ≤ mx) (h1 : lab3 p.vars) (h2 : lab3 p.arrays) (d : Nat) (s : St1) (hs : stmtOK p (d + 1) s = true) (c : Nat) (hc : c ≤ 3) :
 DC Tryz.prog 88 [.agg p.cells,.agg s.cells,DI .i64 c] [] (fun r h=>r=DI .i64 (flowR p.vars p.arrays s c)∧h=[]):=by
 have hmx:=mx_eq
 have hlab:=labelI p hl hl2 h1 h2 5
 have hsto:=storedI p hl hl2 h1 h2
 have hle:=labN_le h1 h2 5
 obtain ⟨vs,ar,bd⟩:=p
 have h1:lab3 vs:=h1
 have h2:lab3 ar:=h2
 have ret:∀ (n:Int) (hp:Hp),n=flowR vs ar s c→RetOb 0 (fun r h=>r=DI .i64 (flowR vs ar s c)∧h=[]) (DI .i64 n) hp:=fun n hp h=>RetOb.plain (d:=DI .i64 _) ⟨by rw [h],rfl⟩ rfl
 simp only at ret hle ⊢
 generalize hR:(fun (r:D) (h:List (Option (List C)))=>r=DI .i64 (flowR vs ar s c)∧h=[])=R at ret ⊢
 clear hR
 obtain ⟨k,t,⟨ik,iv,iks⟩,⟨vk,vv,vks⟩,cc,b,e⟩:=s
 have hh:=head_kind (stmtOK_succ hs).1
 obtain ⟨sv,si⟩:=shapeV hs
 have hst:k=1∨k=2→storedN vs ar (.mk k t (.mk ik iv iks) (.mk vk vv vks) cc b e) c≤3:=fun _=>by
  unfold storedN;split
  ·exact or3 (or3 (hle _) hc) (hle _)
  ·exact or3 (hle _) hc
 rcases hh with ⟨hk,ht0,ht1,hr⟩ | ⟨rfl,ht0,ht1,hri,hat,hr⟩ | ⟨rfl,hr⟩ | ⟨rfl,_,_⟩
 ·obtain ⟨T,hT,hTe,htt⟩:=lab_at h1 ht0 ht1
  rcases hk with rfl | rfl
  ·have hsv:=hsto (.mk 1 t (.mk ik iv iks) (.mk vk vv vks) cc b e) (sv (by decide)) (fun h=>by simp [St1.kind] at h) c hc
   have hfl:=flowsI _ T (hst (.inl rfl)) hT
   have he:flowR vs ar (.mk 1 t (.mk ik iv iks) (.mk vk vv vks) cc b e) c=if subL (storedN vs ar (.mk 1 t (.mk ik iv iks) (.mk vk vv vks) cc b e) c) (nth vs t).toNat=true then 0 else 1:=rfl
   rw [he,hTe] at ret
   simp only at hsv
   generalize storedN vs ar (.mk 1 t (.mk ik iv iks) (.mk vk vv vks) cc b e) c=st at *
   generalize subL st T=sub at *
   rcases hx:ar[t.toNat]? with _ | y<;>cases sub
   all_goals
    refine dcZ Tryz.func88 ?_
    simp only [go_sem]
    iterate 12 ((try (refine drvZ Tryz.func88 ?_;simp only [go_sem,htt,hx]));((with_reducible and_intros)<;>try exact sd);(try first | refine XK.p hsv ok127 ?_ | refine XK.gp hsv ok127 ?_ | refine XK.p hfl ok126 ?_ | refine XK.gp hfl ok126 ?_ | refine XK.gs (DB false) ?_ | refine XK.gs (DI .i64 0) ?_))
   all_goals exact ret _ _ (by rfl)
  ·have hlv:=hlab _ (right_shape hr).1
   have hlvl:=hle (.mk vk vv vks)
   have he:flowR vs ar (.mk 5 t (.mk ik iv iks) (.mk vk vv vks) cc b e) c=if trustL (labN vs ar 5 (.mk vk vv vks)) && c == 0 then 0 else 2:=rfl
   rw [he] at ret
   simp only at hlv
   generalize labN vs ar 5 (.mk vk vv vks)=lv at *
   have htr:=labelTrustedI lv hlvl
   generalize trustL lv=tr at *
   have hcz:c=0∨(c ≠ 0∧((c:Int)=0)=False∧((c:Int) != 0)=true):=by
    rcases Nat.eq_zero_or_pos c with h | h
    ·exact .inl h
    ·exact .inr ⟨by omega,eq_false (by omega),by simp;omega⟩
   rcases hcz with rfl | ⟨hc1,hc2,hc3⟩
   ·rcases hx:ar[t.toNat]? with _ | y<;>cases tr
    all_goals
     refine dcZ Tryz.func88 ?_
     simp only [go_sem]
     iterate 12 ((try (refine drvZ Tryz.func88 ?_;simp only [go_sem,htt,hx,Int.natCast_zero]));((with_reducible and_intros)<;>try exact sd);(try first | refine XK.p hlv ok91 ?_ | refine XK.gp hlv ok91 ?_ | refine XK.p htr ok128 ?_ | refine XK.gp htr ok128 ?_ | refine XK.gs (DB false) ?_ | refine XK.gs (DI .i64 0) ?_))
    all_goals exact ret _ _ (by rfl)
   ·have hce:(c == 0)=false:=by simp [hc1]
    rw [hce] at ret
    rcases hx:ar[t.toNat]? with _ | y<;>cases tr
    all_goals
     refine dcZ Tryz.func88 ?_
     simp only [go_sem]
     iterate 12 ((try (refine drvZ Tryz.func88 ?_;simp only [go_sem,htt,hx,hc2,hc3]));((with_reducible and_intros)<;>try exact sd);(try first | refine XK.p hlv ok91 ?_ | refine XK.gp hlv ok91 ?_ | refine XK.p htr ok128 ?_ | refine XK.gp htr ok128 ?_ | refine XK.gs (DB false) ?_ | refine XK.gs (DI .i64 0) ?_))
    all_goals exact ret _ _ (by rfl)
 ·obtain ⟨T,hT,hTe,htt⟩:=lab_at h2 ht0 ht1
  have hsv:=hsto (.mk 2 t (.mk ik iv iks) (.mk vk vv vks) cc b e) (sv (by decide)) (fun h=>si rfl) c hc
  have hfl:=flowsI _ T (hst (.inr rfl)) hT
  have he:flowR vs ar (.mk 2 t (.mk ik iv iks) (.mk vk vv vks) cc b e) c=if subL (storedN vs ar (.mk 2 t (.mk ik iv iks) (.mk vk vv vks) cc b e) c) (nth ar t).toNat=true then 0 else 1:=rfl
  rw [he,hTe] at ret
  simp only at hsv
  generalize storedN vs ar (.mk 2 t (.mk ik iv iks) (.mk vk vv vks) cc b e) c=st at *
  generalize subL st T=sub at *
  rcases hx:vs[t.toNat]? with _ | y<;>cases sub
  all_goals
   refine dcZ Tryz.func88 ?_
   simp only [go_sem]
   iterate 12 ((try (refine drvZ Tryz.func88 ?_;simp only [go_sem,htt,hx]));((with_reducible and_intros)<;>try exact sd);(try first | refine XK.p hsv ok127 ?_ | refine XK.gp hsv ok127 ?_ | refine XK.p hfl ok126 ?_ | refine XK.gp hfl ok126 ?_ | refine XK.gs (DB false) ?_ | refine XK.gs (DI .i64 0) ?_))
  all_goals exact ret _ _ (by rfl)
 ·rcases hx:vs[t.toNat]? with _ | y<;>rcases hy:ar[t.toNat]? with _ | y2
  all_goals
   refine dcZ Tryz.func88 ?_
   simp only [go_sem]
   iterate 12 ((try (refine drvZ Tryz.func88 ?_;simp only [go_sem,hx,hy]));((with_reducible and_intros)<;>try exact sd);(try first | refine XK.gs (DB false) ?_ | refine XK.gs (DI .i64 0) ?_))
  all_goals exact ret _ _ (by rfl)
 ·rcases hx:vs[t.toNat]? with _ | y<;>rcases hy:ar[t.toNat]? with _ | y2
  all_goals
   refine dcZ Tryz.func88 ?_
   simp only [go_sem]
   iterate 12 ((try (refine drvZ Tryz.func88 ?_;simp only [go_sem,hx,hy]));((with_reducible and_intros)<;>try exact sd);(try first | refine XK.gs (DB false) ?_ | refine XK.gs (DI .i64 0) ?_))
  all_goals exact ret _ _ (by rfl)
theorem hhp_each44 {hp : Hp} {r : Nat → Nat} {h0 h1 h2 h3 : Option (List C)} (e0 : hp 0 = some (h0.map (renCs r))) (e1 : hp 1 = some (h1.map (renCs r))) (e2 : hp 2 = some (h2.map (renCs r))) (e3 : hp 3 = some (h3.map (renCs r))) :
 ∀ i' x,[h0,h1,h2,h3][i']? = some x→hp ([0,1,2,3].getD i' 0)=some (x.map (renCs r)):=by
 intro i' x hx
 match i',hx with
 | 0,hx=>simp only [List.getElem?_cons_zero,List.getElem?_cons_succ,Option.some.injEq] at hx;subst hx;exact e0
 | 1,hx=>simp only [List.getElem?_cons_zero,List.getElem?_cons_succ,Option.some.injEq] at hx;subst hx;exact e1
 | 2,hx=>simp only [List.getElem?_cons_zero,List.getElem?_cons_succ,Option.some.injEq] at hx;subst hx;exact e2
 | 3,hx=>simp only [List.getElem?_cons_zero,List.getElem?_cons_succ,Option.some.injEq] at hx;subst hx;exact e3
 | i' + 4,hx=>simp at hx
theorem rkid_each44 (b:Nat):∀ k,k<4→rk0 [0,1,2,3] b k=k:=fun k hk=>by
 match k,hk with
 | 0,_=>rfl
 | 1,_=>rfl
 | 2,_=>rfl
 | 3,_=>rfl
theorem rkey_each44 (b:Nat):∀ k,k<4→rkey [0,1,2,3] b k=k:=fun k hk=>by
 match k,hk with
 | 0,_=>rfl
 | 1,_=>rfl
 | 2,_=>rfl
 | 3,_=>rfl
theorem each44 {X : Type} (p : Pg) (hl : p.vars.length ≤ mx) (hl2 : p.arrays.length ≤ mx) (h1 : lab3 p.vars) (h2 : lab3 p.arrays) (F : FuncId) (hF : fnOK Tryz.prog F = true)
 (b0 b1 b2 b3:X→List C) (hr0:∀ x r,(∀ k,k<4→r k=k)→renCs r (b0 x)=b0 x) (hr1:∀ x r,(∀ k,k<4→r k=k)→renCs r (b1 x)=b1 x) (hr2:∀ x r,(∀ k,k<4→r k=k)→renCs r (b2 x)=b2 x) (hr3:∀ x r,(∀ k,k<4→r k=k)→renCs r (b3 x)=b3 x) (hc0:∀ x hT hS fz,(∀ k,k<4→hT k ≠ none)→CMs hT some hS fz (b0 x) (b0 x)) (hc1:∀ x hT hS fz,(∀ k,k<4→hT k ≠ none)→CMs hT some hS fz (b1 x) (b1 x)) (hc2:∀ x hT hS fz,(∀ k,k<4→hT k ≠ none)→CMs hT some hS fz (b2 x) (b2 x)) (hc3:∀ x hT hS fz,(∀ k,k<4→hT k ≠ none)→CMs hT some hS fz (b3 x) (b3 x)) (step:X→St1→Nat→X) (Inv:Nat→X→Prop)
 (hcl:∀ d x s (c q:Nat),q<1000→Inv q x→c≤3→stmtOK p d s=true→Inv (q+1) (step x s c)∧DC Tryz.prog F [.agg s.cells,DI .i64 c,.c (.ptr 0 0),.c (.ptr 1 0),.c (.ptr 2 0),.c (.ptr 3 0)] [some (b0 x),some (b1 x),some (b2 x),some (b3 x)] (fun r h=>r = .tup []∧h=[some (b0 (step x s c)),some (b1 (step x s c)),some (b2 (step x s c)),some (b3 (step x s c))])) :
 ∀ (d:Nat) (l:List St1) (x:X) (c q:Nat),Inv q x→c≤3→(∀ s ∈ l,stmtOK p d s=true)→q+lsize d l≤1000 →
  Inv (q+lsize d l) (eachF p.vars p.arrays step d c x l)∧DC Tryz.prog 54 [.agg p.cells,.c (.isl 11 (St1.cellsL l)),DI .i64 c,.c (.clo F [.ptr 0 0,.ptr 1 0,.ptr 2 0,.ptr 3 0])] [some (b0 x),some (b1 x),some (b2 x),some (b3 x)] (fun r h=>r = .tup []∧h=[some (b0 (eachF p.vars p.arrays step d c x l)),some (b1 (eachF p.vars p.arrays step d c x l)),some (b2 (eachF p.vars p.arrays step d c x l)),some (b3 (eachF p.vars p.arrays step d c x l))]):=by
 have hmx:=mx_eq
 intro d
 induction d with
 | zero =>
  intro l x c q hx hc hok hsz
  have hnil:l=[]:=by
   cases l with
   | nil=>rfl
   | cons a r=>have:=hok a (by simp);simp [stmtOK] at this
  subst hnil
  refine ⟨by rw [lsize_zero];exact hx,?_⟩
  obtain ⟨vs,ar,bd⟩:=p
  simp only [eachF]
  generalize hR:(fun (r:D) (h:List (Option (List C)))=>r = .tup []∧h=[some (b0 x),some (b1 x),some (b2 x),some (b3 x)])=R
  refine dcZ Tryz.func54 ?_
  simp only [go_sem,St1.cellsL,Int.natCast_zero]
  refine Go.loop ?_
  have hz:((0:Int)<0)=False:=eq_false (by omega)
  refine drvL Tryz.func54 ?_
  simp only [go_sem,St1.cellsL,Int.natCast_zero,hz]
  refine RetOb.ofQ some [] (.tup []) [some (b0 x),some (b1 x),some (b2 x),some (b3 x)] ?_ (by rw [← hR];exact ⟨rfl,rfl⟩) (by simp)
  simp [enumL,DMs,DM,HpOK,LowOK,hOf,upd,hpL]
  refine ⟨hc0 _ _ _ _ ?_,hc1 _ _ _ _ ?_,hc2 _ _ _ _ ?_,hc3 _ _ _ _ ?_⟩
  all_goals (intro k hk;rcases (show k=0∨k=1∨k=2∨k=3 by omega) with rfl | rfl | rfl | rfl<;>simp [upd])
 | succ d ih =>
  intro l x c q hx hc hok hsz
  have hsub:=lsize_subs d l
  have hll:l.length≤1000:=by omega
  let f:X→St1→X:=fun x s=>eachF p.vars p.arrays step d (ctxI p.vars p.arrays s c) (eachF p.vars p.arrays step d (ctxI p.vars p.arrays s c) (step x s c) s.body) s.els
  have hfold:∀ i s,l[i]? = some s→(l.take (i+1)).foldl f x=f ((l.take i).foldl f x) s:=fun i s h=>by
   rw [List.take_add_one,h];simp
  have hres:eachF p.vars p.arrays step (d+1) c x l=l.foldl f x:=rfl
  have hf:∀ (x:X) (s:St1),f x s=eachF p.vars p.arrays step d (ctxI p.vars p.arrays s c) (eachF p.vars p.arrays step d (ctxI p.vars p.arrays s c) (step x s c) s.body) s.els:=fun _ _=>rfl
  clear_value f
  have hlabI:=fun e=>labelI p hl hl2 h1 h2 5 e
  have hlabL:=fun e=>labN_le h1 h2 5 e
  have e0:∀ y b,renCs (rkey [0,1,2,3] b) (b0 y)=b0 y:=fun y b=>hr0 y _ (rkey_each44 b)
  have e1:∀ y b,renCs (rkey [0,1,2,3] b) (b1 y)=b1 y:=fun y b=>hr1 y _ (rkey_each44 b)
  have e2:∀ y b,renCs (rkey [0,1,2,3] b) (b2 y)=b2 y:=fun y b=>hr2 y _ (rkey_each44 b)
  have e3:∀ y b,renCs (rkey [0,1,2,3] b) (b3 y)=b3 y:=fun y b=>hr3 y _ (rkey_each44 b)
  generalize hR:(fun (r:D) (h:List (Option (List C)))=>r = .tup []∧h=[some (b0 (eachF p.vars p.arrays step (d+1) c x l)),some (b1 (eachF p.vars p.arrays step (d+1) c x l)),some (b2 (eachF p.vars p.arrays step (d+1) c x l)),some (b3 (eachF p.vars p.arrays step (d+1) c x l))])=R
  rw [hres] at hR
  rw [hres]
  have hK:∀ (i:Nat) (s:St1),l[i]? = some s→q+tsum (tsize (d+1)) l i+1+lsize d s.body+lsize d s.els≤1000∧tsum (tsize (d+1)) l (i+1)=tsum (tsize (d+1)) l i+1+lsize d s.body+lsize d s.els:=fun i s hi=>by
   have a1:=tsum_succ (tsize (d+1)) l i s hi
   have a2:=tsum_le (tsize (d+1)) l (i+1)
   have a3:=tsize_subs d s
   have a4:lsize (d+1) l=(l.map (tsize (d+1))).sum:=rfl
   simp only [subs] at a3
   omega
  have hround:∀ (i:Nat) (s:St1),l[i]? = some s→∀ y,Inv (q+tsum (tsize (d+1)) l i) y→ctxI p.vars p.arrays s c≤3 ∧
   (Inv (q+tsum (tsize (d+1)) l i+1) (step y s c)∧DC Tryz.prog F [.agg s.cells,DI .i64 c,.c (.ptr 0 0),.c (.ptr 1 0),.c (.ptr 2 0),.c (.ptr 3 0)] [some (b0 y),some (b1 y),some (b2 y),some (b3 y)] (fun r h=>r = .tup []∧h=[some (b0 (step y s c)),some (b1 (step y s c)),some (b2 (step y s c)),some (b3 (step y s c))])):=fun i s hi y hy=>by
   have hmem:=List.mem_of_getElem? hi
   have:=(hK i s hi).1
   refine ⟨?_,hcl (d+1) y s c _ (by omega) hy hc (hok s hmem)⟩
   unfold ctxI
   split
   ·exact or3 hc (hlabL _)
   ·exact hc
  have hsok:∀ (i:Nat) (s:St1),l[i]? = some s→(∀ t ∈ s.body,stmtOK p d t=true)∧(∀ t ∈ s.els,stmtOK p d t=true)∧(s.kind=3→shape p 5 s.value=true):=fun i s hi=>by
   have hs:=hok s (List.mem_of_getElem? hi)
   obtain ⟨k,t,ix,v,cc,b,e⟩:=s
   obtain ⟨g1,g2,g3⟩:=stmtOK_succ hs
   refine ⟨g2,g3,fun hk=>?_⟩
   have hk:k=3:=hk
   subst hk
   rcases head_kind g1 with h | h | h | h
   ·omega
   ·omega
   ·exact (right_shape h.2).1
   ·omega
  have hinv:∀ i,i≤l.length→Inv (q+tsum (tsize (d+1)) l i) ((l.take i).foldl f x):=fun i=>by
   induction i with
   | zero=>intro _;simpa [tsum] using hx
   | succ i ihi =>
    intro hi
    have hs:l[i]? = some l[i]:=by simp [show i<l.length from hi]
    rw [hfold i _ hs,hf,(hK i _ hs).2]
    have hk:=(hK i _ hs).1
    have g:=hround i _ hs _ (ihi (by omega))
    have g2:=hsok i _ hs
    have b1:=(ih _ _ _ _ g.2.1 g.1 g2.1 (by omega)).1
    have b2:=(ih _ _ _ _ b1 g.1 g2.2.1 (by omega)).1
    have e:q+(tsum (tsize (d+1)) l i+1+lsize d l[i].body+lsize d l[i].els)=q+tsum (tsize (d+1)) l i+1+lsize d l[i].body+lsize d l[i].els:=by omega
    rw [e]
    exact b2
  refine ⟨by have:=hinv l.length (Nat.le_refl _);rw [List.take_length] at this;rw [tsum_all _ _ (Nat.le_refl _)] at this;exact this,?_⟩
  obtain ⟨vs,ar,bd⟩:=p
  have h1:lab3 vs:=h1
  have h2:lab3 ar:=h2
  refine dcZ Tryz.func54 ?_
  simp only [go_sem]
  refine Go.loopQ (fun i : Nat => [(2, DI .i64 c), (3, .c (.clo F [.ptr 0 0, .ptr 1 0, .ptr 2 0, .ptr 3 0])), (4, .c (.ptr 4 0)), (11, .c (.isl 11 (St1.cellsL l))), (12, DI .i64 l.length), (13, DI .i64 i)])
   (fun i=>[(0,some (b0 ((l.take i).foldl f x))),(1,some (b1 ((l.take i).foldl f x))),(2,some (b2 ((l.take i).foldl f x))),(3,some (b3 ((l.take i).foldl f x))),(4,some (Pg.cells ⟨vs,ar,bd⟩))]) 4096 (fun i=>i≤l.length) (fun i=>l.length - i) ?_ 0 some [] _ (Nat.zero_le _) ?_
  ·intro i hi again
   have hIi:=hinv i hi
   rcases Nat.lt_or_ge i l.length with hlt | hge
   ·obtain ⟨⟨k,t,⟨ik,iv,iks⟩,⟨vk,vv,vks⟩,cc,b,e⟩,hs⟩:∃ s,l[i]? = some s:=⟨l[i],by simp [hlt]⟩
    have hfi:=hfold i _ hs
    obtain ⟨q1,q4,q5⟩:=hround i _ hs _ hIi
    obtain ⟨q6,q7,q8⟩:=hsok i _ hs
    have hk:=(hK i _ hs).1
    simp only [St1.body,St1.els] at hk
    have ihb:=ih b _ _ _ q4 q1 q6 (by omega)
    have ihe:=ih e _ _ _ ihb.1 q1 q7 (by omega)
    have ihb2:=ihb.2
    have ihe2:=ihe.2
    have hll2:=hlabL (.mk vk vv vks)
    rw [hf] at hfi
    generalize (l.take i).foldl f x=y at *
    refine drvL Tryz.func54 ?_
    simp only [go_sem,hs,hlt]
    iterate 2 ((try (refine drvZ Tryz.func54 ?_;simp only [go_sem,hs,hlt]));((with_reducible and_intros)<;>try exact sd))
    refine XK.callG [0,1,2,3] q5 hF (hhp_each44 (by rw [Option.map_some,hr0 _ _ (rkid_each44 _)];rfl) (by rw [Option.map_some,hr1 _ _ (rkid_each44 _)];rfl) (by rw [Option.map_some,hr2 _ _ (rkid_each44 _)];rfl) (by rw [Option.map_some,hr3 _ _ (rkid_each44 _)];rfl)) (hbT ()) (fun d h' ⟨_,e⟩=>by subst e;simp) ?_
    rintro _ _ ⟨rfl,rfl⟩ _
    by_cases hk:k=3
    ·subst hk
     have hlb:=hlabI (.mk vk vv vks) (q8 rfl)
     have hcx:ctxI vs ar (.mk 3 t (.mk ik iv iks) (.mk vk vv vks) cc b e) c=c ||| labN vs ar 5 (.mk vk vv vks):=by simp [ctxI,St1.kind,St1.value]
     iterate 4 ((try (refine drvZ Tryz.func54 ?_;simp only [go_sem,hs,hlt,e0,e1,e2,e3]));((with_reducible and_intros)<;>try exact sd))
     refine XK.plain hlb ok91 ?_ (hbT ())
     rw [hcx] at ihb2 ihe2 hfi q1
     generalize labN vs ar 5 (.mk vk vv vks)=lb at *
     iterate 4 ((try (refine drvZ Tryz.func54 ?_;simp only [go_sem,hs,hlt,e0,e1,e2,e3]));((with_reducible and_intros)<;>try exact sd))
     refine XK.callG [0,1,2,3] ihb2 ok54 (hhp_each44 (by rw [Option.map_some,hr0 _ _ (rkid_each44 _)];rfl) (by rw [Option.map_some,hr1 _ _ (rkid_each44 _)];rfl) (by rw [Option.map_some,hr2 _ _ (rkid_each44 _)];rfl) (by rw [Option.map_some,hr3 _ _ (rkid_each44 _)];rfl)) (hbT ()) (fun d h' ⟨_,e⟩=>by subst e;simp) ?_
     rintro _ _ ⟨rfl,rfl⟩ _
     iterate 4 ((try (refine drvZ Tryz.func54 ?_;simp only [go_sem,hs,hlt,e0,e1,e2,e3]));((with_reducible and_intros)<;>try exact sd))
     refine XK.callG [0,1,2,3] ihe2 ok54 (hhp_each44 (by rw [Option.map_some,hr0 _ _ (rkid_each44 _)];rfl) (by rw [Option.map_some,hr1 _ _ (rkid_each44 _)];rfl) (by rw [Option.map_some,hr2 _ _ (rkid_each44 _)];rfl) (by rw [Option.map_some,hr3 _ _ (rkid_each44 _)];rfl)) (hbT ()) (fun d h' ⟨_,e⟩=>by subst e;simp) ?_
     rintro _ _ ⟨rfl,rfl⟩ _
     iterate 4 ((try (refine drvZ Tryz.func54 ?_;simp only [go_sem,hs,hlt,e0,e1,e2,e3]));((with_reducible and_intros)<;>try exact sd))
     refine again (i+1) some [] _ hlt (by omega) ?_
     simp only [go_sem,TmOK,DM,DMs,CM,CMs,forall_eq,exists_eq_left,Mq,HpOK,LowOK,hfi]
     simp
     refine ⟨hc0 _ _ _ _ ?_,hc1 _ _ _ _ ?_,hc2 _ _ _ _ ?_,hc3 _ _ _ _ ?_⟩
     all_goals (intro k hk;rcases (show k=0∨k=1∨k=2∨k=3 by omega) with rfl | rfl | rfl | rfl<;>simp [upd])
    ·have hkb:(k == 3)=false:=by simp [hk]
     have hcx:ctxI vs ar (.mk k t (.mk ik iv iks) (.mk vk vv vks) cc b e) c=c:=by simp [ctxI,St1.kind,hk]
     rw [hcx] at ihb2 ihe2 hfi
     iterate 4 ((try (refine drvZ Tryz.func54 ?_;simp only [go_sem,hs,hlt,e0,e1,e2,e3,hk,hkb]));((with_reducible and_intros)<;>try exact sd))
     refine XK.callG [0,1,2,3] ihb2 ok54 (hhp_each44 (by rw [Option.map_some,hr0 _ _ (rkid_each44 _)];rfl) (by rw [Option.map_some,hr1 _ _ (rkid_each44 _)];rfl) (by rw [Option.map_some,hr2 _ _ (rkid_each44 _)];rfl) (by rw [Option.map_some,hr3 _ _ (rkid_each44 _)];rfl)) (hbT ()) (fun d h' ⟨_,e⟩=>by subst e;simp) ?_
     rintro _ _ ⟨rfl,rfl⟩ _
     iterate 4 ((try (refine drvZ Tryz.func54 ?_;simp only [go_sem,hs,hlt,e0,e1,e2,e3]));((with_reducible and_intros)<;>try exact sd))
     refine XK.callG [0,1,2,3] ihe2 ok54 (hhp_each44 (by rw [Option.map_some,hr0 _ _ (rkid_each44 _)];rfl) (by rw [Option.map_some,hr1 _ _ (rkid_each44 _)];rfl) (by rw [Option.map_some,hr2 _ _ (rkid_each44 _)];rfl) (by rw [Option.map_some,hr3 _ _ (rkid_each44 _)];rfl)) (hbT ()) (fun d h' ⟨_,e⟩=>by subst e;simp) ?_
     rintro _ _ ⟨rfl,rfl⟩ _
     iterate 4 ((try (refine drvZ Tryz.func54 ?_;simp only [go_sem,hs,hlt,e0,e1,e2,e3]));((with_reducible and_intros)<;>try exact sd))
     refine again (i+1) some [] _ hlt (by omega) ?_
     simp only [go_sem,TmOK,DM,DMs,CM,CMs,forall_eq,exists_eq_left,Mq,HpOK,LowOK,hfi]
     simp
     refine ⟨hc0 _ _ _ _ ?_,hc1 _ _ _ _ ?_,hc2 _ _ _ _ ?_,hc3 _ _ _ _ ?_⟩
     all_goals (intro k hk;rcases (show k=0∨k=1∨k=2∨k=3 by omega) with rfl | rfl | rfl | rfl<;>simp [upd])
   ·have hn:¬ i<l.length:=by omega
    obtain rfl:i=l.length:=by omega
    refine drvL Tryz.func54 ?_
    simp only [go_sem,hn,List.take_length]
    iterate 2 ((try (refine drvZ Tryz.func54 ?_;simp only [go_sem,hn,List.take_length]));((with_reducible and_intros)<;>try exact sd))
    refine RetOb.ofQ some [] (.tup []) [some (b0 (l.foldl f x)),some (b1 (l.foldl f x)),some (b2 (l.foldl f x)),some (b3 (l.foldl f x))] ?_ (by rw [← hR];exact ⟨rfl,rfl⟩) (by simp)
    simp [enumL,DMs,DM,HpOK,LowOK,hOf,upd,hpL]
    refine ⟨hc0 _ _ _ _ ?_,hc1 _ _ _ _ ?_,hc2 _ _ _ _ ?_,hc3 _ _ _ _ ?_⟩
    all_goals (intro k hk;rcases (show k=0∨k=1∨k=2∨k=3 by omega) with rfl | rfl | rfl | rfl<;>simp [upd])
  ·simp only [go_sem,TmOK,DM,DMs,CM,CMs,forall_eq,exists_eq_left,Mq,HpOK,LowOK,List.take_zero,List.foldl_nil]
   simp
   refine ⟨hc0 _ _ _ _ ?_,hc1 _ _ _ _ ?_,hc2 _ _ _ _ ?_,hc3 _ _ _ _ ?_⟩
   all_goals (intro k hk;rcases (show k=0∨k=1∨k=2∨k=3 by omega) with rfl | rfl | rfl | rfl<;>simp [upd])
end Go.Proofs.YtmjkgjkkpaephaaGreat.CtR
