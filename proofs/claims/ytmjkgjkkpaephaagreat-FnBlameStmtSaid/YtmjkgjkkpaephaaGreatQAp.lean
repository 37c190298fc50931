/- Contracts of functions of the program, one behind the other, as plain data: what each call returns and which blocks it leaves. -/
import Derived.Test.YtmjkgjkkpaephaaGreatQFacts
import Derived.Test.YtmjkgjkkpaephaaGreatQAh
import Derived.Test.YtmjkgjkkpaephaaGreatQAj
import Derived.Test.YtmjkgjkkpaephaaGreatQAk
import Derived.Test.YtmjkgjkkpaephaaGreatQAl
import Derived.Test.YtmjkgjkkpaephaaGreatQAo
import Derived.Test.YtmjkgjkkpaephaaGreatQAi
set_option linter.unusedVariables false
set_option linter.unusedSimpArgs false
set_option maxHeartbeats 16000000
set_option maxRecDepth 100000
namespace Go.Proofs.YtmjkgjkkpaephaaGreat.CtR
open Go Go.CT CtF
def cntB (x:Nat):List C:=[I64 x]
theorem count1 (x:Nat) (hx:x<1000) (s:St1) (c:Nat):DC Tryz.prog 55 [.agg s.cells,DI .i64 c,.c (.ptr 0 0)] [some (cntB x)] (fun r h=>r = .tup []∧h=[some (cntB (x+1))]):=by
  generalize hR:(fun (r:D) (h:List (Option (List C)))=>r = .tup []∧h=[some (cntB (x+1))])=R
  obtain ⟨k,t,⟨ik,iv,iks⟩,⟨vk,vv,vks⟩,cc,b,e⟩:=s
  simp only [cntB] at hR ⊢
  refine dcZ Tryz.func55 ?_
  simp only [go_sem]
  iterate 2 ((try (refine drvZ Tryz.func55 ?_;simp only [go_sem]));((with_reducible and_intros)<;>try exact sd))
  refine RetOb.ofQ some [] (.tup []) [some [I64 ((x:Int)+1)]] ?_ (by rw [← hR];exact ⟨rfl,rfl⟩) (by simp)
  simp [enumL,DMs,DM,HpOK,LowOK,hOf,upd,CM,CMs,hpL]
theorem eachF_cnt (vs ar : List Int) : ∀ (d c x : Nat) (l : List St1), eachF vs ar (fun x _ _ => x + 1) d c x l = x + lsize d l
  | 0,c,x,l=>by rw [lsize_zero];rfl
  | d+1,c,x,l=>by
    have key:∀ (l:List St1) (x:Nat),l.foldl (fun x s=>eachF vs ar (fun x _ _=>x+1) d (ctxI vs ar s c) (eachF vs ar (fun x _ _=>x+1) d (ctxI vs ar s c) (x+1) s.body) s.els) x=x+lsize (d+1) l:=by
      intro l
      induction l with
      | nil=>intro x;rfl
      | cons a r ih =>
        intro x
        rw [List.foldl_cons,ih,eachF_cnt vs ar d,eachF_cnt vs ar d]
        have:=tsize_subs d a
        simp only [subs] at this
        simp only [lsize,List.map_cons,List.sum_cons] at this ⊢
        omega
    exact key l x
def cntP (p:Pg):Nat:=if progOK p then lsize 5 p.body else 0
theorem countStmts (p:Pg) (hl:p.vars.length≤mx) (hl2:p.arrays.length≤mx):DC Tryz.prog 16 [.agg p.cells] [] (fun r h=>r=DI .i64 (cntP p)∧h=[]):=by
  have hmx:=mx_eq
  have hv:=programValidI p hl hl2
  generalize hR:(fun (r:D) (h:List (Option (List C)))=>r=DI .i64 (cntP p)∧h=[])=R
  cases hq:progOK p with
  | false =>
    rw [hq] at hv
    have hw:cntP p=0:=by unfold cntP;rw [hq];rfl
    obtain ⟨vs,ar,bd⟩:=p
    refine dcZ Tryz.func16 ?_
    simp only [go_sem]
    ((try (refine drvZ Tryz.func16 ?_;simp only [go_sem]));((with_reducible and_intros)<;>try exact sd))
    refine XK.plain hv ok53 ?_ (hbT ())
    iterate 3 ((try (refine drvZ Tryz.func16 ?_;simp only [go_sem]));((with_reducible and_intros)<;>try exact sd))
    refine RetOb.ofQ (fun _=>none) [] (DI .i64 0) [] ?_ (by rw [← hR,hw];exact ⟨rfl,rfl⟩) (by simp)
    simp [enumL,DM,DMs,CM,HpOK,LowOK]
  | true =>
    rw [hq] at hv
    have hlab:=labs_of hq
    have hbo:=body_of hq
    have hea := (each1 p hl hl2 hlab.1 hlab.2 55 ok55 cntB (fun x r h => by simp [cntB, renCs, renC]) (fun x hT hS fz h => by simp [cntB, CMs, CM]) (fun x _ _ => x + 1)
      (fun q x=>x=q) (fun d x s c q hq hx _ _=>⟨by omega,count1 x (by omega) s c⟩) 5 p.body 0 0 0 rfl (by decide) hbo.1 (by have:=hbo.2;omega)).2
    rw [eachF_cnt,Nat.zero_add] at hea
    have hw:cntP p=lsize 5 p.body:=by unfold cntP;rw [hq];rfl
    rw [← hw] at hea
    generalize cntP p=w at *
    obtain ⟨vs,ar,bd⟩:=p
    simp only [cntB] at hea
    refine dcZ Tryz.func16 ?_
    simp only [go_sem]
    ((try (refine drvZ Tryz.func16 ?_;simp only [go_sem]));((with_reducible and_intros)<;>try exact sd))
    refine XK.plain hv ok53 ?_ (hbT ())
    iterate 4 ((try (refine drvZ Tryz.func16 ?_;simp only [go_sem]));((with_reducible and_intros)<;>try exact sd))
    refine XK.callG [320] hea ok54 (hhp_one (by simp [upd,renCs,renC])) (hbT ()) (fun d h' ⟨_,e⟩=>by subst e;simp) ?_
    rintro _ _ ⟨rfl,rfl⟩ _
    iterate 4 ((try (refine drvZ Tryz.func16 ?_;simp only [go_sem]));((with_reducible and_intros)<;>try exact sd))
    exact RetOb.plain (d:=DI .i64 _) (by rw [← hR];exact ⟨rfl,rfl⟩) rfl
def secL (l:Nat):Bool:=l.testBit 0
def trustL (l:Nat):Bool := !l.testBit 1
def subL (a b:Nat):Bool:=a ||| b == b
def kid0 : List Ex → Ex
  | [] => .mk 0 0 []
  | e :: _=>e
def secE (vs ar : List Int) : Nat → Ex → Bool
  | 0,_=>false
  | d+1,.mk k v ks=>(k == 3 && secL (labN vs ar d (kid0 ks))) || ks.any (secE vs ar d)
def storedN (vs ar:List Int) (s:St1) (c:Nat):Nat:=if s.kind=2 then labN vs ar 5 s.value ||| c ||| labN vs ar 5 s.index else labN vs ar 5 s.value ||| c
def flowR (vs ar:List Int) (s:St1) (c:Nat):Int :=
  if s.kind=1 then (if subL (storedN vs ar s c) (nth vs s.target).toNat then 0 else 1)
  else if s.kind=2 then (if subL (storedN vs ar s c) (nth ar s.target).toNat then 0 else 1)
  else if s.kind=5 then (if trustL (labN vs ar 5 s.value) && c == 0 then 0 else 2) else 0
def leakR (vs ar:List Int) (s:St1) (_:Nat):Int :=
  if s.kind=3∧secL (labN vs ar 5 s.value)=true then 3
  else if (s.kind=2∧secL (labN vs ar 5 s.index)=true)∨secE vs ar 5 s.value=true then 4 else 0
def ownR (strict:Bool) (vs ar:List Int) (s:St1) (c:Nat):Int :=
  if flowR vs ar s c ≠ 0 then flowR vs ar s c else if strict then leakR vs ar s c else 0
def walkR (res : St1 → Nat → Int) (vs ar : List Int) : Nat → Nat → List St1 → Int → Int × Int
  | 0,_,_,n=>(0,n)
  | d+1,c,l,n=>l.foldl (fun (x:Int × Int) s=>if x.1 ≠ 0 then x else if res s c ≠ 0 then (res s c,x.2) else
      if (walkR res vs ar d (ctxI vs ar s c) s.body (x.2+1)).1 ≠ 0 then walkR res vs ar d (ctxI vs ar s c) s.body (x.2+1)
      else walkR res vs ar d (ctxI vs ar s c) s.els (walkR res vs ar d (ctxI vs ar s c) s.body (x.2+1)).2) (0,n)
def fineL (res : St1 → Nat → Int) (vs ar : List Int) : Nat → Nat → List St1 → Bool
  | 0,_,_=>true
  | d+1,c,l=>l.all fun s=>res s c == 0 && fineL res vs ar d (ctxI vs ar s c) s.body && fineL res vs ar d (ctxI vs ar s c) s.els
theorem walk_fine (res : St1 → Nat → Int) (vs ar : List Int) : ∀ (d c : Nat) (l : List St1) (n : Int), (walkR res vs ar d c l n).1 = 0 ↔ fineL res vs ar d c l = true
  | 0,_,_,_=>by simp [walkR,fineL]
  | d+1,c,l,n=>by
    have key:∀ (l:List St1) (x:Int × Int),(l.foldl (fun (x:Int × Int) s=>if x.1 ≠ 0 then x else if res s c ≠ 0 then (res s c,x.2) else
      if (walkR res vs ar d (ctxI vs ar s c) s.body (x.2+1)).1 ≠ 0 then walkR res vs ar d (ctxI vs ar s c) s.body (x.2+1)
      else walkR res vs ar d (ctxI vs ar s c) s.els (walkR res vs ar d (ctxI vs ar s c) s.body (x.2+1)).2) x).1=0 ↔ x.1=0∧fineL res vs ar (d+1) c l=true:=by
      intro l
      induction l with
      | nil=>intro x;simp [fineL]
      | cons a r ih =>
        intro x
        rw [List.foldl_cons,ih]
        have h1:=walk_fine res vs ar d (ctxI vs ar a c) a.body (x.2+1)
        have h2:=walk_fine res vs ar d (ctxI vs ar a c) a.els (walkR res vs ar d (ctxI vs ar a c) a.body (x.2+1)).2
        simp only [fineL,List.all_cons,Bool.and_eq_true,beq_iff_eq] at h1 h2 ⊢
        by_cases hx:x.1=0
        · by_cases hr:res a c=0
          · by_cases hb:(walkR res vs ar d (ctxI vs ar a c) a.body (x.2+1)).1=0
            · have hb2:=h1.1 hb
              simp only [hx,hr,hb,hb2,ne_eq,not_true_eq_false,if_false,true_and]
              rw [h2]
            · have hb2:¬ fineL res vs ar d (ctxI vs ar a c) a.body=true:=fun h=>hb (h1.2 h)
              simp only [hx,hr,ne_eq,not_true_eq_false,if_false,true_and]
              rw [if_pos hb]
              simp [hb,hb2]
          · simp [hx,hr]
        · simp [hx]
    have:=key l (0,n)
    simpa [walkR] using this
structure Fst where
  code:Int
  at_:Int
  n:Int
def fstStep (res:St1→Nat→Int) (x:Fst) (s:St1) (c:Nat):Fst :=
  if x.code=0 then ⟨res s c,if res s c ≠ 0 then x.n else x.at_,x.n+1⟩ else ⟨x.code,x.at_,x.n+1⟩
theorem each_walk (res:St1→Nat→Int) (vs ar:List Int):∀ (d c:Nat) (l:List St1) (x:Fst),
    (eachF vs ar (fstStep res) d c x l).n=x.n+lsize d l ∧
    (x.code ≠ 0→(eachF vs ar (fstStep res) d c x l).code=x.code∧(eachF vs ar (fstStep res) d c x l).at_=x.at_) ∧
    (x.code=0→(eachF vs ar (fstStep res) d c x l).code=(walkR res vs ar d c l x.n).1 ∧
      (eachF vs ar (fstStep res) d c x l).at_=(if (walkR res vs ar d c l x.n).1=0 then x.at_ else (walkR res vs ar d c l x.n).2) ∧
      ((walkR res vs ar d c l x.n).1=0→(walkR res vs ar d c l x.n).2=x.n+lsize d l))
  | 0,c,l,x=>by simp [eachF,walkR,lsize_zero]
  | d+1,c,l,x=>by
    let F:=fun (x:Int × Int) s=>if x.1 ≠ 0 then x else if res s c ≠ 0 then (res s c,x.2) else
      if (walkR res vs ar d (ctxI vs ar s c) s.body (x.2+1)).1 ≠ 0 then walkR res vs ar d (ctxI vs ar s c) s.body (x.2+1)
      else walkR res vs ar d (ctxI vs ar s c) s.els (walkR res vs ar d (ctxI vs ar s c) s.body (x.2+1)).2
    let G:=fun x s=>eachF vs ar (fstStep res) d (ctxI vs ar s c) (eachF vs ar (fstStep res) d (ctxI vs ar s c) (fstStep res x s c) s.body) s.els
    have hone:∀ (s:St1) (x:Fst),(G x s).n=x.n+tsize (d+1) s∧(x.code ≠ 0→(G x s).code=x.code∧(G x s).at_=x.at_) ∧
        (x.code=0→(G x s).code=(F (0,x.n) s).1∧(G x s).at_=(if (F (0,x.n) s).1=0 then x.at_ else (F (0,x.n) s).2)∧((F (0,x.n) s).1=0→(F (0,x.n) s).2=x.n+tsize (d+1) s)):=by
      intro s x
      have hs:=tsize_subs d s
      simp only [subs] at hs
      obtain ⟨a1,a2,a3⟩:=each_walk res vs ar d (ctxI vs ar s c) s.body (fstStep res x s c)
      obtain ⟨b1,b2,b3⟩:=each_walk res vs ar d (ctxI vs ar s c) s.els (eachF vs ar (fstStep res) d (ctxI vs ar s c) (fstStep res x s c) s.body)
      have hn:(fstStep res x s c).n=x.n+1:=by unfold fstStep;split<;>rfl
      refine ⟨by simp only [G];rw [b1,a1,hn,hs];push_cast;omega,fun hx=>?_,fun hx=>?_⟩
      · have e1:(fstStep res x s c).code=x.code:=by unfold fstStep;rw [if_neg hx]
        have e2:(fstStep res x s c).at_=x.at_:=by unfold fstStep;rw [if_neg hx]
        obtain ⟨c1,c2⟩:=a2 (by rw [e1];exact hx)
        obtain ⟨d1,d2⟩:=b2 (by rw [c1,e1];exact hx)
        exact ⟨d1.trans (c1.trans e1),d2.trans (c2.trans e2)⟩
      · have e1:(fstStep res x s c).code=res s c:=by unfold fstStep;rw [if_pos hx]
        have e2:(fstStep res x s c).at_=if res s c ≠ 0 then x.n else x.at_:=by unfold fstStep;rw [if_pos hx]
        by_cases hr:res s c=0
        · rw [e1,hn] at a3
          obtain ⟨c1,c2,c3⟩:=a3 hr
          by_cases hb:(walkR res vs ar d (ctxI vs ar s c) s.body (x.n+1)).1=0
          · have hm:(eachF vs ar (fstStep res) d (ctxI vs ar s c) (fstStep res x s c) s.body).n=(walkR res vs ar d (ctxI vs ar s c) s.body (x.n+1)).2:=by rw [a1,hn,c3 hb]
            rw [hm] at b3
            obtain ⟨d1,d2,d3⟩:=b3 (by rw [c1];exact hb)
            have hF:F (0,x.n) s=walkR res vs ar d (ctxI vs ar s c) s.els (walkR res vs ar d (ctxI vs ar s c) s.body (x.n+1)).2:=by
              simp only [F,hr,hb,ne_eq,not_true_eq_false,if_false]
            rw [hF]
            refine ⟨d1,?_,fun h=>?_⟩
            · simp only [G]
              rw [d2,c2,e2,if_pos hb]
              simp [hr]
            · rw [d3 h,c3 hb,hs];push_cast;omega
          · have hF:F (0,x.n) s=walkR res vs ar d (ctxI vs ar s c) s.body (x.n+1):=by
              simp only [F,hr,ne_eq,not_true_eq_false,if_false]
              rw [if_pos hb]
            rw [hF]
            obtain ⟨d1,d2⟩:=b2 (by rw [c1];exact hb)
            refine ⟨d1.trans c1,?_,fun h=>absurd h hb⟩
            simp only [G]
            rw [d2,c2,if_neg hb,if_neg hb]
        · have hF:F (0,x.n) s=(res s c,x.n):=by simp only [F,ne_eq,not_true_eq_false,if_false];rw [if_pos hr]
          rw [hF]
          obtain ⟨c1,c2⟩:=a2 (by rw [e1];exact hr)
          obtain ⟨d1,d2⟩:=b2 (by rw [c1,e1];exact hr)
          refine ⟨d1.trans (c1.trans e1),?_,fun h=>absurd h hr⟩
          simp only [G]
          rw [d2,c2,e2,if_neg hr,if_pos hr]
    have hF1:∀ (y:Int × Int) (s:St1),y.1 ≠ 0→F y s=y:=fun y s h=>by simp only [F];rw [if_pos h]
    have hFn:∀ (l:List St1) (y:Int × Int),y.1 ≠ 0→l.foldl F y=y:=by
      intro l
      induction l with
      | nil=>intro y _;rfl
      | cons a r ih=>intro y h;rw [List.foldl_cons,hF1 y a h,ih y h]
    have eG:eachF vs ar (fstStep res) (d+1) c x l=l.foldl G x:=rfl
    have eF:walkR res vs ar (d+1) c l x.n=l.foldl F (0,x.n):=rfl
    rw [eG,eF]
    clear_value F G
    clear eG eF
    have key:∀ (l:List St1) (x:Fst),(l.foldl G x).n=x.n+lsize (d+1) l∧(x.code ≠ 0→(l.foldl G x).code=x.code∧(l.foldl G x).at_=x.at_) ∧
        (x.code=0→(l.foldl G x).code=(l.foldl F (0,x.n)).1∧(l.foldl G x).at_=(if (l.foldl F (0,x.n)).1=0 then x.at_ else (l.foldl F (0,x.n)).2)∧((l.foldl F (0,x.n)).1=0→(l.foldl F (0,x.n)).2=x.n+lsize (d+1) l)):=by
      intro l
      induction l with
      | nil=>intro x;simp [lsize]
      | cons a r ih =>
        intro x
        obtain ⟨h1,h2,h3⟩:=hone a x
        obtain ⟨g1,g2,g3⟩:=ih (G x a)
        have hsz:lsize (d+1) (a :: r)=tsize (d+1) a+lsize (d+1) r:=by simp [lsize]
        rw [show (a :: r).foldl G x=r.foldl G (G x a) from rfl,show (a :: r).foldl F (0,x.n)=r.foldl F (F (0,x.n) a) from rfl]
        refine ⟨by rw [g1,h1,hsz];push_cast;omega,fun hx=>?_,fun hx=>?_⟩
        · obtain ⟨c1,c2⟩:=h2 hx
          obtain ⟨d1,d2⟩:=g2 (by rw [c1];exact hx)
          exact ⟨d1.trans c1,d2.trans c2⟩
        · obtain ⟨c1,c2,c3⟩:=h3 hx
          by_cases hb:(F (0,x.n) a).1=0
          · have e:F (0,x.n) a=(0,(G x a).n):=Prod.ext hb (by rw [c3 hb,h1])
            obtain ⟨d1,d2,d3⟩:=g3 (by rw [c1];exact hb)
            rw [e]
            refine ⟨d1,by rw [d2,c2,if_pos hb],fun h=>by rw [d3 h,h1,hsz];push_cast;omega⟩
          · rw [hFn r _ hb]
            obtain ⟨d1,d2⟩:=g2 (by rw [c1];exact hb)
            refine ⟨d1.trans c1,by rw [d2,c2],fun h=>absurd h hb⟩
    exact key l x
def chkR (res:List Int→List Int→St1→Nat→Int) (p:Pg):Int × Int :=
  if progOK p=true then ((walkR (res p.vars p.arrays) p.vars p.arrays 5 0 p.body 0).1,if (walkR (res p.vars p.arrays) p.vars p.arrays 5 0 p.body 0).1=0 then -1 else (walkR (res p.vars p.arrays) p.vars p.arrays 5 0 p.body 0).2) else (5,-1)
def fineP (res:List Int→List Int→St1→Nat→Int) (p:Pg):Bool:=progOK p && fineL (res p.vars p.arrays) p.vars p.arrays 5 0 p.body
theorem chk_fine (res:List Int→List Int→St1→Nat→Int) (p:Pg):(chkR res p).1=0 ↔ fineP res p=true:=by
  unfold chkR fineP
  cases h:progOK p with
  | false=>simp
  | true=>simp only [if_true,Bool.true_and];exact walk_fine _ _ _ _ _ _ _
def strictR (p:Pg):Int × Int:=if (chkR flowR p).1 ≠ 0 then chkR flowR p else chkR leakR p
theorem own_flow (p:Pg):chkR (ownR false) p=chkR flowR p:=by
  have:(ownR false)=flowR:=by
    funext vs ar s c
    simp only [ownR]
    split
    · rfl
    · rename_i h;simp only [ne_eq,Classical.not_not] at h;simp [h]
  rw [this]
structure LowM (β : Nat) (p : Pg) (m m' : Mm) : Prop where
  lv:m.vals.length=m'.vals.length
  la:m.arrays.length=m'.arrays.length
  val:∀ (i:Nat) (x:Int),p.vars[i]? = some x→x.toNat.testBit β=false→m.vals[i]? = m'.vals[i]?
  arr:∀ (i:Nat) (x:Int),p.arrays[i]? = some x→x.toNat.testBit β=false→m.arrays[i]? = m'.arrays[i]?
theorem LowM.refl (β:Nat) (p:Pg) (m:Mm):LowM β p m m:=⟨rfl,rfl,fun _ _ _ _=>rfl,fun _ _ _ _=>rfl⟩
theorem LowM.symm {β:Nat} {p:Pg} {m m':Mm} (h:LowM β p m m'):LowM β p m' m:=⟨h.lv.symm,h.la.symm,fun i x a b=>(h.val i x a b).symm,fun i x a b=>(h.arr i x a b).symm⟩
theorem LowM.trans {β:Nat} {p:Pg} {a b c:Mm} (h:LowM β p a b) (h':LowM β p b c):LowM β p a c :=
  ⟨h.lv.trans h'.lv,h.la.trans h'.la,fun i x u v=>(h.val i x u v).trans (h'.val i x u v),fun i x u v=>(h.arr i x u v).trans (h'.arr i x u v)⟩
theorem or_bit {β : Nat} : ∀ (l : List Nat) (a : Nat), (l.foldl (fun a b => a ||| b) a).testBit β = false ↔ a.testBit β = false ∧ ∀ x ∈ l, x.testBit β = false
  | [],a=>by simp
  | b :: r,a=>by rw [List.foldl_cons,or_bit r,Nat.testBit_or];simp [and_assoc]
theorem nth_get {l:List Int} {v:Int} (h:0≤v) (h2:v<l.length):l[v.toNat]? = some (nth l v):=(nth_mem h h2).1
theorem nth_eq {l l':List Int} {v:Int} (h:l[v.toNat]? = l'[v.toNat]?):nth l v=nth l' v:=by
  unfold nth;rw [List.getD_eq_getElem?_getD,List.getD_eq_getElem?_getD,h]
theorem arrAt_eq {m m':Mm} {v:Int} (h:m.arrays[v.toNat]? = m'.arrays[v.toNat]?):arrAt m v=arrAt m' v:=by
  unfold arrAt;rw [List.getD_eq_getElem?_getD,List.getD_eq_getElem?_getD,h]
theorem evalE_low {β : Nat} {p : Pg} {m m' : Mm} (h : LowM β p m m') : ∀ (d : Nat) (e : Ex), shape p d e = true → (labN p.vars p.arrays d e).testBit β = false → evalE m d e = evalE m' d e
  | 0,_,_,_=>rfl
  | d+1,.mk k v ks,hs,hb=>by
    obtain ⟨g1,g2,g3⟩:=shape_succ hs
    obtain ⟨_,_,hv0,hv1⟩:=fits_len g1
    simp only [labN,or_bit,List.mem_map] at hb
    have hk:∀ e ∈ ks,evalE m d e=evalE m' d e:=fun e he=>evalE_low h d e (g2 e he) (hb.2 _ ⟨e,he,rfl⟩)
    have hxs:(ks.map fun e=>(evalE m d e).1)=ks.map fun e=>(evalE m' d e).1:=List.map_congr_left fun e he=>by rw [hk e he]
    have hev:(ks.map fun e=>(evalE m d e).2)=ks.map fun e=>(evalE m' d e).2:=List.map_congr_left fun e he=>by rw [hk e he]
    simp only [evalE,hxs,hev]
    by_cases k2:k=2
    · subst k2
      have hx:=nth_get (l:=p.vars) hv0 (by simpa [limit] using hv1)
      have:=nth_eq (h.val _ _ hx (by have:=hb.1;simpa [labB] using this))
      simp [this]
    · by_cases k3:k=3
      · subst k3
        have hx:=nth_get (l:=p.arrays) hv0 (by simpa [limit] using hv1)
        have:=arrAt_eq (h.arr _ _ hx (by have:=hb.1;simpa [labB] using this))
        simp [this]
      · simp [k2,k3]
theorem LowM.setV {β : Nat} {p : Pg} {m m' : Mm} (h : LowM β p m m') {t x y : Int} (hx : x = y ∨ (nth p.vars t).toNat.testBit β = true) : LowM β p (setV m t x) (setV m' t y) where
  lv:=by simp [CtR.setV,h.lv]
  la:=h.la
  val:=fun i z hz hb=>by
    simp only [CtR.setV,List.getElem?_set,h.lv]
    by_cases e:t.toNat=i
    · subst e
      rcases hx with rfl | hx
      · simp [h.val _ z hz hb]
      · have:nth p.vars t=z:=by unfold nth;rw [List.getD_eq_getElem?_getD,hz];rfl
        rw [this,hb] at hx
        cases hx
    · simp only [e,if_false];exact h.val i z hz hb
  arr:=h.arr
theorem LowM.setA {β : Nat} {p : Pg} {m m' : Mm} (h : LowM β p m m') {t i j x y : Int} (hx : (i = j ∧ x = y) ∨ (nth p.arrays t).toNat.testBit β = true) : LowM β p (setA m t i x) (setA m' t j y) where
  lv:=h.lv
  la:=by simp [CtR.setA,h.la]
  val:=h.val
  arr:=fun k z hz hb=>by
    simp only [CtR.setA,List.getElem?_set,h.la]
    by_cases e:t.toNat=k
    · subst e
      rcases hx with ⟨rfl,rfl⟩ | hx
      · rw [arrAt_eq (h.arr _ z hz hb),h.arr _ z hz hb]
      · have:nth p.arrays t=z:=by unfold nth;rw [List.getD_eq_getElem?_getD,hz];rfl
        rw [this,hb] at hx
        cases hx
    · simp only [e,if_false];exact h.arr k z hz hb
def freeL : Nat → List St1 → Bool
  | 0,_=>true
  | d+1,l=>l.all fun s=>s.kind != 5 && freeL d s.body && freeL d s.els
theorem subL_bit {a b β:Nat} (h:subL a b=true) (ha:a.testBit β=true):b.testBit β=true:=by
  have h:a ||| b=b:=by simpa [subL] using h
  rw [← h,Nat.testBit_or,ha];rfl
theorem runS_4 (d:Nat) (m:Mm) (t:Int) (ix v:Ex) (c:Int) (b e:List St1):runS (d+1) m (.mk 4 t ix v c b e)=iterR (fun m=>foldR (runS d) m b) c.toNat m:=by simp [runS]
theorem runS_1 (d:Nat) (m:Mm) (t:Int) (ix v:Ex) (c:Int) (b e:List St1):runS (d+1) m (.mk 1 t ix v c b e)=(setV m t (evalE m 5 v).1,(evalE m 5 v).2):=by simp [runS]
theorem runS_5 (d:Nat) (m:Mm) (t:Int) (ix v:Ex) (c:Int) (b e:List St1):runS (d+1) m (.mk 5 t ix v c b e)=(setV m t (evalE m 5 v).1,(evalE m 5 v).2++[⟨4,(evalE m 5 v).1⟩]):=by simp [runS]
theorem runS_2 (d:Nat) (m:Mm) (t:Int) (ix v:Ex) (c:Int) (b e:List St1):runS (d+1) m (.mk 2 t ix v c b e)=(setA m t ((evalE m 5 ix).1 % 4) (evalE m 5 v).1,(evalE m 5 v).2++[⟨3,t * 4+(evalE m 5 ix).1 % 4⟩]):=by simp [runS]
theorem runS_if {d : Nat} {m : Mm} {k t : Int} {ix v : Ex} {c : Int} {b e : List St1} (h4 : k ≠ 4) (h1 : k ≠ 1) (h5 : k ≠ 5) (h2 : k ≠ 2) :
    ((evalE m 5 v).1 ≠ 0→runS (d+1) m (.mk k t ix v c b e)=((foldR (runS d) m b).1,(evalE m 5 v).2++[⟨1,1⟩]++(foldR (runS d) m b).2)) ∧
    ((evalE m 5 v).1=0→runS (d+1) m (.mk k t ix v c b e)=((foldR (runS d) m e).1,(evalE m 5 v).2++[⟨1,0⟩]++(foldR (runS d) m e).2)):=by
  constructor<;>intro h<;>simp [runS,h4,h1,h5,h2,h]
theorem flow_assign {vs ar:List Int} {s:St1} {c:Nat} (h:flowR vs ar s c=0) (hk:s.kind=1):subL (storedN vs ar s c) (nth vs s.target).toNat=true:=by
  unfold flowR at h
  rw [if_pos hk] at h
  cases hs:subL (storedN vs ar s c) (nth vs s.target).toNat with
  | true=>rfl
  | false=>rw [hs] at h;simp at h
theorem flow_store {vs ar:List Int} {s:St1} {c:Nat} (h:flowR vs ar s c=0) (hk:s.kind=2):subL (storedN vs ar s c) (nth ar s.target).toNat=true:=by
  unfold flowR at h
  rw [if_neg (by omega),if_pos hk] at h
  cases hs:subL (storedN vs ar s c) (nth ar s.target).toNat with
  | true=>rfl
  | false=>rw [hs] at h;simp at h
theorem stored_v {β:Nat} {vs ar:List Int} {s:St1} {c:Nat} (h:(labN vs ar 5 s.value).testBit β=true):(storedN vs ar s c).testBit β=true:=by
  unfold storedN;split<;>simp [Nat.testBit_or,h]
theorem shapeV {p:Pg} {d:Nat} {k t:Int} {ix v:Ex} {c:Int} {b e:List St1} (h:stmtOK p (d+1) (.mk k t ix v c b e)=true):(k ≠ 4→shape p 5 v=true)∧(k=2→shape p 5 ix=true):=by
  have hk:=head_kind (stmtOK_succ h).1
  constructor
  · intro h4
    rcases hk with h | h | h | h
    · exact (right_shape h.2.2.2).1
    · exact (right_shape h.2.2.2.2.2).1
    · exact (right_shape h.2).1
    · exact absurd h.1 h4
  · intro h2
    rcases hk with h | h | h | h
    · exact absurd h.1 (by omega)
    · exact (right_shape h.2.2.2.1).1
    · exact absurd h.1 (by omega)
    · exact absurd h.1 (by omega)
theorem secE_ev {p : Pg} {m m' : Mm} (h : LowM 0 p m m') : ∀ (d : Nat) (e : Ex), shape p d e = true → secE p.vars p.arrays d e = false → (evalE m d e).2 = (evalE m' d e).2
  | 0,_,_,_=>rfl
  | d+1,.mk k v ks,hs,hb=>by
    obtain ⟨g1,g2,g3⟩:=shape_succ hs
    obtain ⟨_,hla,hv0,hv1⟩:=fits_len g1
    simp only [secE,Bool.or_eq_false_iff,List.any_eq_false,Bool.not_eq_true] at hb
    have hev:(ks.map fun e=>(evalE m d e).2)=ks.map fun e=>(evalE m' d e).2:=List.map_congr_left fun e he=>secE_ev h d e (g2 e he) (hb.2 e he)
    simp only [evalE,hev]
    by_cases k3:k=3
    · subst k3
      have h0:(ks.map fun e=>(evalE m d e).1).getD 0 0=(ks.map fun e=>(evalE m' d e).1).getD 0 0:=by
        cases ks with
        | nil=>rfl
        | cons a r =>
          have:=hb.1
          simp only [beq_self_eq_true,Bool.true_and,kid0,secL] at this
          simp [evalE_low h d a (g2 a (by simp)) this]
      simp only [h0]
      simp
    · by_cases k1:k=1
      · simp [k1]
      · by_cases k2:k=2
        · simp [k2]
        · by_cases k11:k=11
          · simp [k11]
          · simp [k1,k2,k3,k11]
def DivT (t t':List Ev):Prop:=∃ (pre:List Ev) (v v':Int) (r r':List Ev),v ≠ v'∧t=pre++⟨4,v⟩ :: r∧t'=pre++⟨4,v'⟩ :: r'
theorem DivT.app {t t':List Ev} (h:DivT t t') (a b:List Ev):DivT (t++a) (t'++b):=by
  obtain ⟨pre,v,v',r,r',h1,rfl,rfl⟩:=h
  exact ⟨pre,v,v',r++a,r'++b,h1,by simp,by simp⟩
theorem DivT.pre {t t':List Ev} (h:DivT t t') (a:List Ev):DivT (a++t) (a++t'):=by
  obtain ⟨pre,v,v',r,r',h1,rfl,rfl⟩:=h
  exact ⟨a++pre,v,v',r,r',h1,by simp,by simp⟩
def ResT (p:Pg) (x x':Mm × List Ev):Prop:=(LowM 0 p x.1 x'.1∧x.2=x'.2)∨DivT x.2 x'.2
theorem ResT.seq {p:Pg} {x x' y y':Mm × List Ev} (h:ResT p x x') (h2:LowM 0 p x.1 x'.1→ResT p y y'):ResT p (y.1,x.2++y.2) (y'.1,x'.2++y'.2):=by
  rcases h with ⟨h,e⟩ | h
  · rcases h2 h with ⟨g,e2⟩ | g
    · exact .inl ⟨g,by simp only [e,e2]⟩
    · exact .inr (by simp only [e];exact g.pre _)
  · exact .inr (h.app _ _)
theorem foldR_res {p : Pg} {f : Mm → St1 → Mm × List Ev} : ∀ (l : List St1) (m m' : Mm), LowM 0 p m m' → (∀ s ∈ l, ∀ m m', LowM 0 p m m' → ResT p (f m s) (f m' s)) → ResT p (foldR f m l) (foldR f m' l)
  | [],_,_,h,_ => .inl ⟨h,rfl⟩
  | s :: r,m,m',h,hf=>by
    simp only [foldR]
    exact (hf s (by simp) m m' h).seq fun h=>foldR_res r _ _ h fun t ht=>hf t (by simp [ht])
theorem iterR_res {p : Pg} {f : Mm → Mm × List Ev} (hf : ∀ m m', LowM 0 p m m' → ResT p (f m) (f m')) : ∀ (n : Nat) (m m' : Mm), LowM 0 p m m' → ResT p (iterR f n m) (iterR f n m')
  | 0,_,_,h => .inl ⟨h,rfl⟩
  | n+1,m,m',h=>by
    simp only [iterR]
    exact (iterR_res hf n m m' h).seq fun h=>hf _ _ h
theorem leak_spec {vs ar:List Int} {s:St1} {c:Nat} (h:leakR vs ar s c=0):(s.kind=3→secL (labN vs ar 5 s.value)=false)∧(s.kind=2→secL (labN vs ar 5 s.index)=false)∧secE vs ar 5 s.value=false:=by
  unfold leakR at h
  by_cases h1:s.kind=3∧secL (labN vs ar 5 s.value)=true
  · rw [if_pos h1] at h;omega
  · rw [if_neg h1] at h
    by_cases h2:(s.kind=2∧secL (labN vs ar 5 s.index)=true)∨secE vs ar 5 s.value=true
    · rw [if_pos h2] at h;omega
    · simp only [not_or,not_and,Bool.not_eq_true] at h1 h2
      exact ⟨h1,h2.1,h2.2⟩
theorem run_ct {p:Pg}:∀ (d c:Nat) (l:List St1),(∀ s ∈ l,stmtOK p d s=true)→fineL (flowR p.vars p.arrays) p.vars p.arrays d c l=true→fineL (leakR p.vars p.arrays) p.vars p.arrays d c l=true →
    ∀ m m',LowM 0 p m m'→ResT p (foldR (runS d) m l) (foldR (runS d) m' l)
  | 0,c,l,_,_,_,m,m',h=>foldR_res l m m' h fun s _ m m' h => .inl ⟨h,rfl⟩
  | d+1,c,l,hok,hf,hk,m,m',h=>by
    refine foldR_res l m m' h fun s hs m m' h=>?_
    simp only [fineL,List.all_eq_true,Bool.and_eq_true,beq_iff_eq,bne_iff_ne] at hf hk
    obtain ⟨⟨f1,f2⟩,f3⟩:=hf s hs
    obtain ⟨⟨g1,g2⟩,g3⟩:=hk s hs
    have hso:=hok s hs
    have h1:=fun hk=>flow_assign f1 hk
    have h2:=fun hk=>flow_store f1 hk
    obtain ⟨g3',g4⟩:=leak_spec g1
    have hsv:=fun h=>stored_v (β:=0) (vs:=p.vars) (ar:=p.arrays) (s:=s) (c:=c) h
    generalize storedN p.vars p.arrays s c=sto at *
    obtain ⟨k,t,ix,v,cc,b,e⟩:=s
    have hbo:=stmtOK_succ hso
    obtain ⟨s1,s2⟩:=shapeV hso
    have hb:=fun m m' h=>run_ct d _ b hbo.2.1 f2 g2 m m' h
    have he:=fun m m' h=>run_ct d _ e hbo.2.2 f3 g3 m m' h
    simp only [St1.kind,St1.target,St1.body,St1.els,St1.value,St1.index] at h1 h2 f2 f3 g2 g3 hsv g3' g4
    by_cases k4:k=4
    · subst k4;rw [runS_4,runS_4];exact iterR_res (fun m m' h=>hb m m' h) _ m m' h
    have hv:=fun hb=>evalE_low (β:=0) h 5 v (s1 k4) hb
    have hev:=secE_ev h 5 v (s1 k4) g4.2
    by_cases k1:k=1
    · subst k1;rw [runS_1,runS_1]
      refine .inl ⟨h.setV ?_,hev⟩
      cases hl:(labN p.vars p.arrays 5 v).testBit 0 with
      | false=>exact .inl (by rw [hv hl])
      | true=>exact .inr (subL_bit (h1 rfl) (hsv hl))
    by_cases k5:k=5
    · subst k5;rw [runS_5,runS_5]
      by_cases hvv:(evalE m 5 v).1=(evalE m' 5 v).1
      · exact .inl ⟨h.setV (.inl hvv),by simp only [hev,hvv]⟩
      · exact .inr ⟨(evalE m' 5 v).2,(evalE m 5 v).1,(evalE m' 5 v).1,[],[],hvv,by simp only [hev],rfl⟩
    by_cases k2:k=2
    · subst k2;rw [runS_2,runS_2]
      have hi:=evalE_low (β:=0) h 5 ix (s2 rfl) (g4.1 rfl)
      refine .inl ⟨h.setA ?_,by simp only [hev,hi]⟩
      cases hl:(labN p.vars p.arrays 5 v).testBit 0 with
      | true=>exact .inr (subL_bit (h2 rfl) (hsv hl))
      | false=>exact .inl ⟨by rw [hi],by rw [hv hl]⟩
    have k3:k=3:=by
      have:=head_kind hbo.1
      omega
    have hi:=fun m=>runS_if (d:=d) (m:=m) (t:=t) (ix:=ix) (v:=v) (c:=cc) (b:=b) (e:=e) k4 k1 k5 k2
    subst k3
    have hvv:=hv (g3' rfl)
    have hpre:ResT p (m,(evalE m 5 v).2) (m',(evalE m' 5 v).2) := .inl ⟨h,hev⟩
    by_cases hz:(evalE m 5 v).1=0
    · rw [(hi m).2 hz,(hi m').2 (by rw [← hvv];exact hz)]
      have:=hpre.seq (y:=(m,[⟨1,0⟩])) (y':=(m',[⟨1,0⟩])) fun h => .inl ⟨h,rfl⟩
      exact this.seq fun h=>he m m' h
    · rw [(hi m).1 hz,(hi m').1 (by rw [← hvv];exact hz)]
      have:=hpre.seq (y:=(m,[⟨1,1⟩])) (y':=(m',[⟨1,1⟩])) fun h => .inl ⟨h,rfl⟩
      exact this.seq fun h=>hb m m' h
theorem eval_ev4 (m : Mm) : ∀ (d : Nat) (e : Ex), ∀ x ∈ (evalE m d e).2, x.kind ≠ 4
  | 0,_,x,hx=>by simp [evalE] at hx
  | d+1,.mk k v ks,x,hx=>by
    have hf:∀ x ∈ (ks.map fun e=>(evalE m d e).2).flatten,x.kind ≠ 4:=fun x hx=>by
      obtain ⟨l,hl,hx⟩:=List.mem_flatten.1 hx
      obtain ⟨e,_,rfl⟩:=List.mem_map.1 hl
      exact eval_ev4 m d e x hx
    simp only [evalE] at hx
    split at hx
    · simp at hx
    · split at hx
      · simp at hx
      · split at hx
        · rcases List.mem_append.1 hx with h | h
          · exact hf x h
          · rw [List.mem_singleton.1 h];simp
        · split at hx
          · exact hf x hx
          · exact hf x hx
theorem foldR_evs {f : Mm → St1 → Mm × List Ev} {Q : Ev → Prop} : ∀ (l : List St1) (m : Mm), (∀ s ∈ l, ∀ m, ∀ x ∈ (f m s).2, Q x) → ∀ x ∈ (foldR f m l).2, Q x
  | [],_,_,x,hx=>by simp [foldR] at hx
  | s :: r,m,hf,x,hx=>by
    simp only [foldR] at hx
    rcases List.mem_append.1 hx with h | h
    · exact hf s (by simp) m x h
    · exact foldR_evs r _ (fun t ht=>hf t (by simp [ht])) x h
theorem iterR_evs {f : Mm → Mm × List Ev} {Q : Ev → Prop} (hf : ∀ m, ∀ x ∈ (f m).2, Q x) : ∀ (n : Nat) (m : Mm), ∀ x ∈ (iterR f n m).2, Q x
  | 0,_,x,hx=>by simp [iterR] at hx
  | n+1,m,x,hx=>by
    simp only [iterR] at hx
    rcases List.mem_append.1 hx with h | h
    · exact iterR_evs hf n m x h
    · exact hf _ x h
theorem free_ev : ∀ (d : Nat) (l : List St1), freeL d l = true → ∀ m, ∀ x ∈ (foldR (runS d) m l).2, x.kind ≠ 4
  | 0,l,_,m=>foldR_evs l m fun s _ m x hx=>by simp [runS] at hx
  | d+1,l,hr,m=>by
    refine foldR_evs l m fun s hs m=>?_
    simp only [freeL,List.all_eq_true,Bool.and_eq_true,bne_iff_ne] at hr
    obtain ⟨⟨r1,r2⟩,r3⟩:=hr s hs
    obtain ⟨k,t,ix,v,cc,b,e⟩:=s
    simp only [St1.kind] at r1
    have hb:=fun m=>free_ev d b r2 m
    have he:=fun m=>free_ev d e r3 m
    have hv:=eval_ev4 m 5 v
    by_cases k4:k=4
    · subst k4;rw [runS_4];exact iterR_evs (fun m=>hb m) _ m
    by_cases k1:k=1
    · subst k1;rw [runS_1];exact hv
    by_cases k2:k=2
    · subst k2;rw [runS_2]
      intro x hx
      rcases List.mem_append.1 hx with h | h
      · exact hv x h
      · rw [List.mem_singleton.1 h];simp
    have hi:=runS_if (d:=d) (m:=m) (t:=t) (ix:=ix) (v:=v) (c:=cc) (b:=b) (e:=e) k4 k1 r1 k2
    by_cases hz:(evalE m 5 v).1=0
    · rw [hi.2 hz]
      intro x hx
      rcases List.mem_append.1 hx with h | h
      · rcases List.mem_append.1 h with h | h
        · exact hv x h
        · rw [List.mem_singleton.1 h];simp
      · exact he m x h
    · rw [hi.1 hz]
      intro x hx
      rcases List.mem_append.1 hx with h | h
      · rcases List.mem_append.1 h with h | h
        · exact hv x h
        · rw [List.mem_singleton.1 h];simp
      · exact hb m x h
def fdif : List Ev → List Ev → Int → Int
  | [],[],_ => -1
  | a :: r,b :: s,n=>if a.kind=b.kind∧a.value=b.value then fdif r s (n+1) else n
  | _,_,n=>n
theorem fdif_same : ∀ (t : List Ev) (n : Int), fdif t t n = -1
  | [],_=>rfl
  | a :: r,n=>by simp [fdif,fdif_same r]
theorem le3 {a:Nat} (h:a≤3):a=0∨a=1∨a=2∨a=3:=by omega
theorem subI (a b:Nat) (ha:a≤3) (hb:b≤3):decide (((a ||| b:Nat):Int)=(b:Int))=subL a b:=by
  rcases le3 ha with rfl | rfl | rfl | rfl<;>rcases le3 hb with rfl | rfl | rfl | rfl<;>decide
theorem subA (a b:Nat) (ha:a≤3) (hb:b≤3):decide (((a ^^^ (a &&& b):Nat):Int)=0)=subL a b:=by
  rcases le3 ha with rfl | rfl | rfl | rfl<;>rcases le3 hb with rfl | rfl | rfl | rfl<;>decide
theorem secI (a:Nat) (ha:a≤3):decide (((a &&& 1:Nat):Int)=1)=secL a:=by
  rcases le3 ha with rfl | rfl | rfl | rfl<;>decide
theorem secI' (a:Nat) (ha:a≤3):decide (((a &&& 1:Nat):Int) ≠ 0)=secL a:=by
  rcases le3 ha with rfl | rfl | rfl | rfl<;>decide
theorem truI (a:Nat) (ha:a≤3):decide (((a &&& 2:Nat):Int)=0)=trustL a:=by
  rcases le3 ha with rfl | rfl | rfl | rfl<;>decide
theorem labelFlowsS (a b:Nat) (ha:a≤3) (hb:b≤3):DC Tryz.prog 218 [DI .i64 a,DI .i64 b] [] (fun r h=>r=DB (subL a b)∧h=[]):=by
  have h1:=labelValidS a
  have h2:=labelValidS b
  have ha':(decide (0≤(a:Int)) && decide ((a:Int)≤3))=true:=by simp;omega
  have hb':(decide (0≤(b:Int)) && decide ((b:Int)≤3))=true:=by simp;omega
  rw [ha'] at h1
  rw [hb'] at h2
  have hs:=subI a b ha hb
  generalize hR:(fun (r:D) (h:List (Option (List C)))=>r=DB (subL a b)∧h=[])=R
  refine dcZ Tryz.func218 ?_
  simp only [go_sem]
  iterate 6 ((try (refine drvZ Tryz.func218 ?_;simp only [go_sem]));((with_reducible and_intros)<;>try exact sd);(try first | refine XK.p h1 ok189 ?_ | refine XK.gp h1 ok189 ?_ | refine XK.p h2 ok189 ?_ | refine XK.gp h2 ok189 ?_))
  refine RetOb.plain (d:=DB _) ?_ rfl
  rw [← hR,← hs]
  exact ⟨rfl,rfl⟩
theorem labelSecretS (a:Nat) (ha:a≤3):DC Tryz.prog 141 [DI .i64 a] [] (fun r h=>r=DB (secL a)∧h=[]):=by
  have h1:=labelValidS a
  have ha':(decide (0≤(a:Int)) && decide ((a:Int)≤3))=true:=by simp;omega
  rw [ha'] at h1
  have hs:=secI a ha
  generalize hR:(fun (r:D) (h:List (Option (List C)))=>r=DB (secL a)∧h=[])=R
  refine dcZ Tryz.func141 ?_
  simp only [go_sem]
  iterate 4 ((try (refine drvZ Tryz.func141 ?_;simp only [go_sem]));((with_reducible and_intros)<;>try exact sd);(try first | refine XK.p h1 ok189 ?_ | refine XK.gp h1 ok189 ?_))
  refine RetOb.plain (d:=DB _) ?_ rfl
  rw [← hR,← hs]
  exact ⟨rfl,rfl⟩
theorem labelTrustedS (a:Nat) (ha:a≤3):DC Tryz.prog 219 [DI .i64 a] [] (fun r h=>r=DB (trustL a)∧h=[]):=by
  have h1:=labelValidS a
  have ha':(decide (0≤(a:Int)) && decide ((a:Int)≤3))=true:=by simp;omega
  rw [ha'] at h1
  have hs:=truI a ha
  generalize hR:(fun (r:D) (h:List (Option (List C)))=>r=DB (trustL a)∧h=[])=R
  refine dcZ Tryz.func219 ?_
  simp only [go_sem]
  iterate 4 ((try (refine drvZ Tryz.func219 ?_;simp only [go_sem]));((with_reducible and_intros)<;>try exact sd);(try first | refine XK.p h1 ok189 ?_ | refine XK.gp h1 ok189 ?_))
  refine RetOb.plain (d:=DB _) ?_ rfl
  rw [← hR,← hs]
  exact ⟨rfl,rfl⟩
theorem flowsI (a b:Nat) (ha:a≤3) (hb:b≤3):DC Tryz.prog 126 [DI .i64 a,DI .i64 b] [] (fun r h=>r=DB (subL a b)∧h=[]):=by
  have hs:=subA a b ha hb
  generalize hR:(fun (r:D) (h:List (Option (List C)))=>r=DB (subL a b)∧h=[])=R
  refine dcZ Tryz.func126 ?_
  simp only [go_sem]
  iterate 2 ((try (refine drvZ Tryz.func126 ?_;simp only [go_sem]));((with_reducible and_intros)<;>try exact sd))
  refine RetOb.plain (d:=DB _) ?_ rfl
  rw [← hR,← hs]
  exact ⟨rfl,rfl⟩
theorem labelTrustedI (a:Nat) (ha:a≤3):DC Tryz.prog 128 [DI .i64 a] [] (fun r h=>r=DB (trustL a)∧h=[]):=by
  have h1:=labelValidI a
  have ha':(decide (0≤(a:Int)) && decide ((a:Int)≤3))=true:=by simp;omega
  rw [ha'] at h1
  have hs:=truI a ha
  generalize hR:(fun (r:D) (h:List (Option (List C)))=>r=DB (trustL a)∧h=[])=R
  refine dcZ Tryz.func128 ?_
  simp only [go_sem]
  iterate 4 ((try (refine drvZ Tryz.func128 ?_;simp only [go_sem]));((with_reducible and_intros)<;>try exact sd);(try first | refine XK.p h1 ok129 ?_ | refine XK.gp h1 ok129 ?_))
  refine RetOb.plain (d:=DB _) ?_ rfl
  rw [← hR,← hs]
  exact ⟨rfl,rfl⟩
theorem labelSecretI (a:Nat) (ha:a≤3):DC Tryz.prog 90 [DI .i64 a] [] (fun r h=>r=DB (secL a)∧h=[]):=by
  have h1:=labelValidI a
  have ha':(decide (0≤(a:Int)) && decide ((a:Int)≤3))=true:=by simp;omega
  rw [ha'] at h1
  have hs:=secI' a ha
  generalize hR:(fun (r:D) (h:List (Option (List C)))=>r=DB (secL a)∧h=[])=R
  refine dcZ Tryz.func90 ?_
  simp only [go_sem]
  iterate 4 ((try (refine drvZ Tryz.func90 ?_;simp only [go_sem]));((with_reducible and_intros)<;>try exact sd);(try first | refine XK.p h1 ok129 ?_ | refine XK.gp h1 ok129 ?_))
  refine RetOb.plain (d:=DB _) ?_ rfl
  rw [← hR,← hs]
  refine ⟨?_,rfl⟩
  rcases le3 ha with rfl | rfl | rfl | rfl<;>rfl
theorem labelS (p:Pg) (hl:p.vars.length≤mx) (hl2:p.arrays.length≤mx) (h1:lab3 p.vars) (h2:lab3 p.arrays):∀ (d:Nat) (e:Ex),shape p d e=true→DC Tryz.prog 142 [.agg p.cells,.agg e.cells] [] (fun r h=>r=DI .i64 (labN p.vars p.arrays d e)∧h=[]):=by
  have hmx:=mx_eq
  intro d
  induction d with
  | zero=>intro e h;simp [shape] at h
  | succ d ih =>
    intro e hsh
    obtain ⟨k,v,ks⟩:=e
    obtain ⟨g1,g2,g3⟩:=shape_succ hsh
    obtain ⟨hl3,hla,hv0,hv1⟩:=fits_len g1
    obtain ⟨vs,ar,bd⟩:=p
    have h1:lab3 vs:=h1
    have h2:lab3 ar:=h2
    generalize hR:(fun (r:D) (h:List (Option (List C)))=>r=DI .i64 (labN vs ar (d+1) (.mk k v ks))∧h=[])=R
    have hle:=fun e=>labN_le h1 h2 d e
    have hacc:∀ i,((ks.take i).map (labN vs ar d)).foldl (fun a b=>a ||| b) (labB vs ar k v)≤3:=fun i=>by
      have:=labN_le h1 h2 (d+1) (.mk k v (ks.take i))
      exact this
    have hlb:labB vs ar k v≤3:=hacc 0
    have key:k=2∨k=3∨(k ≠ 2∧k ≠ 3):=by omega
    rcases key with hk | hk | hk
    case' inl =>
      have hv1':v<vs.length:=by subst hk;simpa [limit] using hv1
      have hx:=(nth_mem (l:=vs) hv0 hv1').1
      have hB:((labB vs ar k v:Nat):Int)=nth vs v:=by have:=nth_lab h1 v;simp [labB,hk];omega
      have e2:(k == 2)=true:=by simp [hk]
      refine dcZ Tryz.func142 ?_
      simp only [go_sem]
      iterate 4 ((try (refine drvZ Tryz.func142 ?_;simp only [go_sem,hx,e2,eq_true hk]));((with_reducible and_intros)<;>try exact sd))
    case' inr.inl =>
      have hv1':v<ar.length:=by subst hk;simpa [limit] using hv1
      have hx:=(nth_mem (l:=ar) hv0 hv1').1
      have hB:((labB vs ar k v:Nat):Int)=nth ar v:=by have:=nth_lab h2 v;simp [labB,hk];omega
      have e2:(k == 2)=false:=by simp [hk]
      have e3:(k == 3)=true:=by simp [hk]
      have f2:(k=2)=False:=by simp [hk]
      refine dcZ Tryz.func142 ?_
      simp only [go_sem]
      iterate 4 ((try (refine drvZ Tryz.func142 ?_;simp only [go_sem,hx,e2,e3,f2,eq_true hk]));((with_reducible and_intros)<;>try exact sd))
    case' inr.inr =>
      have hB:((labB vs ar k v:Nat):Int)=0:=by simp [labB,hk.1,hk.2]
      have e2:(k == 2)=false:=by simp [hk.1]
      have e3:(k == 3)=false:=by simp [hk.2]
      have hk2:=hk.1
      have hk3:=hk.2
      refine dcZ Tryz.func142 ?_
      simp only [go_sem]
      iterate 4 ((try (refine drvZ Tryz.func142 ?_;simp only [go_sem,e2,e3,hk2,hk3]));((with_reducible and_intros)<;>try exact sd))
    all_goals
      clear hk
      refine Go.loopQ (fun i : Nat => [(2, .c (.ptr 0 0)), (3, .c (.ptr 64 0)), (5, DI .i64 (((ks.take i).map (labN vs ar d)).foldl (fun a b => a ||| b) (labB vs ar k v) : Nat)), (6, DI .i64 i)]) (fun i => [(0, some (Pg.cells ⟨vs, ar, bd⟩)), (64, some (Ex.cells (.mk k v ks)))])
        4096 (fun i=>i≤ks.length) (fun i=>ks.length - i) ?_ 0 some [] _ (Nat.zero_le _) ?_
      · intro i hi again
        rcases Nat.lt_or_ge i ks.length with hlt | hge
        · obtain ⟨⟨k',v',ks'⟩,hx⟩:∃ x,ks[i]? = some x:=⟨ks[i],by simp [hlt]⟩
          have hsc:=lab_succ (labN vs ar d) (labB vs ar k v) ks i _ hx
          have ha:=hacc i
          have hb:=hle (.mk k' v' ks')
          have hc:=hacc (i+1)
          rw [hsc] at hc
          have hi:=ih (.mk k' v' ks') (g2 _ (List.mem_of_getElem? hx))
          generalize ((ks.take i).map (labN vs ar d)).foldl (fun a b=>a ||| b) (labB vs ar k v)=acc at *
          refine drvL Tryz.func142 ?_
          simp only [go_sem,hx,hlt]
          iterate 5 ((try (refine drvZ Tryz.func142 ?_;simp only [go_sem,hx,hlt]));((with_reducible and_intros)<;>try exact sd);(try first | refine XK.p hi ok142 ?_ | refine XK.gp hi ok142 ?_))
          refine again (i+1) some [] _ hlt (by omega) ?_
          simp only [go_sem,TmOK,DM,DMs,CM,CMs,forall_eq,exists_eq_left,Mq,HpOK,LowOK,hsc]
          simp
          rw [← List.map_take,hsc]
        · have hn:¬ i<ks.length:=by omega
          obtain rfl:i=ks.length:=by omega
          refine drvL Tryz.func142 ?_
          simp only [go_sem,hn,List.take_length]
          iterate 2 ((try (refine drvZ Tryz.func142 ?_;simp only [go_sem,hn,List.take_length]));((with_reducible and_intros)<;>try exact sd))
          exact RetOb.plain (d:=DI .i64 _) (by rw [← hR];exact ⟨rfl,rfl⟩) rfl
      · simp only [go_sem,TmOK,DM,DMs,CM,CMs,forall_eq,exists_eq_left,Mq,HpOK,LowOK,List.take_zero,List.map_nil,List.foldl_nil]
        simp [hB]
theorem any_succ (f:Ex→Bool) (ks:List Ex) (i:Nat) (x:Ex) (h:ks[i]? = some x):(ks.take (i+1)).any f=((ks.take i).any f || f x):=by
  rw [List.take_add_one,h];simp
theorem secretS (p:Pg) (hl:p.vars.length≤mx) (hl2:p.arrays.length≤mx) (h1:lab3 p.vars) (h2:lab3 p.arrays):∀ (d:Nat) (e:Ex),shape p d e=true→DC Tryz.prog 220 [.agg p.cells,.agg e.cells] [] (fun r h=>r=DB (secE p.vars p.arrays d e)∧h=[]):=by
  have hmx:=mx_eq
  intro d
  induction d with
  | zero=>intro e h;simp [shape] at h
  | succ d ih =>
    intro e hsh
    have hlab:=labelS p hl hl2 h1 h2 d
    obtain ⟨k,v,ks⟩:=e
    obtain ⟨g1,g2,g3⟩:=shape_succ hsh
    obtain ⟨hl3,hla,hv0,hv1⟩:=fits_len g1
    obtain ⟨vs,ar,bd⟩:=p
    have h1:lab3 vs:=h1
    have h2:lab3 ar:=h2
    have hE:secE vs ar (d+1) (.mk k v ks)=((k == 3 && secL (labN vs ar d (kid0 ks))) || ks.any (secE vs ar d)):=rfl
    have ret:∀ (b:Bool) (hp:Hp),b=secE vs ar (d+1) (.mk k v ks)→RetOb 0 (fun r h=>r=DB (secE vs ar (d+1) (.mk k v ks))∧h=[]) (DB b) hp:=fun b hp h=>RetOb.plain (d:=DB _) ⟨by rw [h],rfl⟩ rfl
    simp only at ret ⊢
    generalize hR:(fun (r:D) (h:List (Option (List C)))=>r=DB (secE vs ar (d+1) (.mk k v ks))∧h=[])=R at ret ⊢
    rw [hE] at ret
    clear hE hR
    have hany:∀ i,i≤ks.length→(ks.take i).any (secE vs ar d)=true→ks.any (secE vs ar d)=true:=fun i _ h=>by
      obtain ⟨x,hx,hb⟩:=List.any_eq_true.1 h
      exact List.any_eq_true.2 ⟨x,List.mem_of_mem_take hx,hb⟩
    by_cases hk:k=3
    case' pos =>
      have e3:(k == 3)=true:=by simp [hk]
      have hk:=eq_true hk
      obtain ⟨⟨k0,v0,s0⟩,rfl⟩:∃ a,ks=[a]:=by
        have:ks.length=1:=by rw [of_eq_true hk] at hla;simp [arity] at hla;omega
        match ks,this with
        | [a],_=>exact ⟨a,rfl⟩
      have hla0:=hlab (.mk k0 v0 s0) (g2 _ (by simp))
      have hle:=labN_le h1 h2 d (.mk k0 v0 s0)
      rw [e3] at ret
      simp only [Bool.true_and,kid0] at ret
      generalize hl0:labN vs ar d (.mk k0 v0 s0)=l0 at *
      have hse:=labelSecretS l0 hle
      generalize hb0:secL l0=b0 at *
      generalize hks:[Ex.mk k0 v0 s0]=ks at *
      have hx0:ks[0]? = some (.mk k0 v0 s0):=by rw [← hks];rfl
      refine dcZ Tryz.func220 ?_
      simp only [go_sem]
      iterate 5 ((try (refine drvZ Tryz.func220 ?_;simp only [go_sem,hx0,hk,e3]));((with_reducible and_intros)<;>try exact sd);(try first | refine XK.p hla0 ok142 ?_ | refine XK.gp hla0 ok142 ?_ | refine XK.p hse ok141 ?_ | refine XK.gp hse ok141 ?_))
      · intro hbt;exact ret true _ (by rw [hbt];rfl)
      intro hbf
      rw [hbf]
    case' neg =>
      obtain ⟨b0,hb0⟩:∃ b:Bool,b=(k == 3 && secL (labN vs ar d (kid0 ks))):=⟨_,rfl⟩
      rw [← hb0] at ret
      have hbf:b0=false:=by rw [hb0];simp [hk]
      clear hb0
      have e3:(k == 3)=false:=by simp [hk]
      rcases hx0:ks[0]? with _ | ⟨k0,v0,s0⟩
      all_goals
        refine dcZ Tryz.func220 ?_
        simp only [go_sem]
        iterate 5 ((try (refine drvZ Tryz.func220 ?_;simp only [go_sem,hx0,hk,e3]));((with_reducible and_intros)<;>try exact sd);(try first | refine XK.gs (DB false) ?_ | refine XK.gs (DI .i64 0) ?_))
    all_goals
      rw [hbf] at ret
      simp only [Bool.false_or] at ret
      clear hk e3
      refine Go.loopQ (fun i : Nat => [(2, .c (.ptr 0 0)), (3, .c (.ptr 64 0)), (5, DI .i64 i)]) (fun i => [(0, some (Pg.cells ⟨vs, ar, bd⟩)), (64, some (Ex.cells (.mk k v ks)))])
        4096 (fun i=>i≤ks.length∧(ks.take i).any (secE vs ar d)=false) (fun i=>ks.length - i) ?_ 0 some [] _ ⟨Nat.zero_le _,rfl⟩ ?_
      · rintro i ⟨hi,hai⟩ again
        rcases Nat.lt_or_ge i ks.length with hlt | hge
        · obtain ⟨⟨k',v',ks'⟩,hx⟩:∃ x,ks[i]? = some x:=⟨ks[i],by simp [hlt]⟩
          have hsc:=any_succ (secE vs ar d) ks i _ hx
          have hi2:=ih (.mk k' v' ks') (g2 _ (List.mem_of_getElem? hx))
          have hay:=hany (i+1) hlt
          rw [hsc,hai,Bool.false_or] at hay
          rw [hai,Bool.false_or] at hsc
          simp only at hi2
          generalize hbi:secE vs ar d (.mk k' v' ks')=bi at *
          refine drvL Tryz.func220 ?_
          simp only [go_sem,hx,hlt]
          iterate 5 ((try (refine drvZ Tryz.func220 ?_;simp only [go_sem,hx,hlt]));((with_reducible and_intros)<;>try exact sd);(try first | refine XK.p hi2 ok220 ?_ | refine XK.gp hi2 ok220 ?_))
          · intro hbt;exact ret true _ (hay hbt).symm
          · intro hbt
            iterate 3 ((try (refine drvZ Tryz.func220 ?_;simp only [go_sem,hx,hlt]));((with_reducible and_intros)<;>try exact sd))
            refine again (i+1) some [] _ ⟨hlt,by rw [hsc,hbt]⟩ (by omega) ?_
            simp only [go_sem,TmOK,DM,DMs,CM,CMs,forall_eq,exists_eq_left,Mq,HpOK,LowOK]
            simp
        · have hn:¬ i<ks.length:=by omega
          obtain rfl:i=ks.length:=by omega
          rw [List.take_length] at hai
          refine drvL Tryz.func220 ?_
          simp only [go_sem,hn]
          iterate 3 ((try (refine drvZ Tryz.func220 ?_;simp only [go_sem,hn]));((with_reducible and_intros)<;>try exact sd))
          exact ret false _ hai.symm
      · simp only [go_sem,TmOK,DM,DMs,CM,CMs,forall_eq,exists_eq_left,Mq,HpOK,LowOK]
        simp
end Go.Proofs.YtmjkgjkkpaephaaGreat.CtR
