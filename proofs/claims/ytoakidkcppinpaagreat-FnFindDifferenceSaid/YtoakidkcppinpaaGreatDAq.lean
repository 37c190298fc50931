/- Contracts of functions of the program, one behind the other, as plain data: what each call returns and which blocks it leaves. -/
import Derived.Test.YtoakidkcppinpaaGreatDFacts
import Derived.Test.YtoakidkcppinpaaGreatDAi
import Derived.Test.YtoakidkcppinpaaGreatDAl
import Derived.Test.YtoakidkcppinpaaGreatDAm
import Derived.Test.YtoakidkcppinpaaGreatDAn
import Derived.Test.YtoakidkcppinpaaGreatDAo
import Derived.Test.YtoakidkcppinpaaGreatDAp
set_option linter.unusedVariables false
set_option linter.unusedSimpArgs false
set_option linter.unusedSectionVars false
set_option maxHeartbeats 16000000
set_option maxRecDepth 100000
namespace Go.Proofs.YtoakidkcppinpaaGreat.CtD
open Go Go.CT CtF CtR
variable [Yn]
theorem drawBlockO (bs vs ar : List Int) (hb : Fits .u8 bs) (hl : bs.length ≤ 2000) (h1 : vs.length ≤ 5) (h2 : ar.length ≤ 2) (n nn : Nat) (hnn : nn ≤ 4) (hn : n + 4 * KS 2 ≤ 549755813888) :
    DC Tryz.prog 69 [.c (.ptr 0 0), .agg [.msl 1 1 0 vs.length, .msl 2 1 0 ar.length, .v (.slice none 0 0)], DI .i64 3, DI .i64 nn] [some (rdr bs n), some (vs.map I64), some (ar.map I64)]
      (fun r h=>∃ l:List St1,r = .c (.isl 11 (St1.cellsL l))∧l.length≤4∧(∀ s ∈ l,SmS 2 s)∧∃ n':Nat,n≤n'∧n'≤n+4 * KS 2∧h=[some (rdr bs n'),some (vs.map I64),some (ar.map I64)]):=by
  have hmx:=mx_eq
  refine DC_imp (DC.lit (h := [some (rdr bs n)]) (hB := [some (vs.map I64), some (ar.map I64)]) (R := fun (r : D) (h : List (Option (List C))) => ∃ l : List St1, r = .c (.isl 11 (St1.cellsL l)) ∧ l.length ≤ 4 ∧ (∀ s ∈ l, SmS 2 s) ∧ rdL bs n (4 * KS 2) h) (lit2 (n := 1) (d0 := .c (.ptr 0 0)) (kx := 1) (ky := 2) (lx := vs.length) (ly := ar.length) (cr := [.v (.slice none 0 0)]) (dr := [DI .i64 3, DI .i64 nn]) rfl rfl rfl)
    (fun args ⟨x,y,hx,hy,e⟩=>by subst e;exact (drawsV bs ⟨x,y,⟨none,0,0⟩⟩ hb hl (by simp only;omega) (by simp only;omega) 2 (by omega)).2 n nn hnn hn) (fun cs hcs c hc=>by simp only [List.mem_singleton,Option.some.injEq] at hcs;subst hcs;exact rdr_kf _ _ c hc) (fun d h' ⟨_,_,_,_,_,_,_,e⟩=>by subst e;rfl)) ?_
  rintro d h' ⟨_,⟨l,rfl,q1,q2,n',q3,q4,rfl⟩,rfl⟩
  exact ⟨l,rfl,q1,q2,n',q3,q4,rfl⟩
theorem progValidO (vs ar : List Int) (bd : List St1) (h1 : vs.length ≤ mx) (h2 : ar.length ≤ mx) (h3 : lsize 5 bd ≤ 1099511627776) :
    DC Tryz.prog 70 [.agg [.msl 0 1 0 vs.length,.msl 1 1 0 ar.length,.isl 11 (St1.cellsL bd)]] [some (vs.map I64),some (ar.map I64)] (fun r h=>r=DB (progOK ⟨vs,ar,bd⟩)∧h=[some (vs.map I64),some (ar.map I64)]) :=
  DC.borrow [0,1] (by simp [DMs,DM,CM,CMs,isI,hpL,Pg.cells,flat_I',kf]) (programValidS ⟨vs,ar,bd⟩ h1 h2 h3)
def prRO (bs:List Int) (n:Nat) (r:D) (h:List (Option (List C))):Prop:=∃ (vs ar:List Int) (bd:List St1),r = .agg [.msl 1 1 0 vs.length,.msl 2 1 0 ar.length,.isl 11 (St1.cellsL bd)]∧DrP ⟨vs,ar,bd⟩∧∃ n':Nat,n≤n'∧n'≤n+1000000∧h=[some (rdr bs n'),some (vs.map I64),some (ar.map I64)]
theorem l2ProgramO (bs:List Int) (n:Nat) (hb:Fits .u8 bs) (hl:bs.length≤2000) (hn:n≤274877906944):DC Tryz.prog 42 [.c (.ptr 0 0)] [some (rdr bs n)] (prRO bs n):=by
  have hmx:=mx_eq
  have hnum:=fun n xs h1 h2 h3=>numO bs n xs hb hl h1 h2 h3
  generalize hR:prRO bs n=R
  refine dcZ Tryz.func42 ?_
  simp only [go_sem,rdr]
  iterate 3 ((try (refine drvZ Tryz.func42 ?_;simp only [go_sem,rdr]));((with_reducible and_intros)<;>try exact sd))
  refine XK.callG [0,321] (hnum n [3,4,2,5] (by omega) (by decide) (by decide)) ok20 (hhp2 rfl rfl) (hbT ()) (fun d h' ⟨_,_,_,e⟩=>by subst e;simp) ?_
  rintro _ _ ⟨nv,rfl,hnv,rfl⟩ _
  obtain ⟨a,rfl,ha5⟩:∃ a:Nat,nv=(a:Int)∧a≤5:=⟨nv.toNat,by simp at hnv;omega,by simp at hnv;omega⟩
  clear hnv
  iterate 1 (try (refine drvZ Tryz.func42 ?_;simp only [go_sem,rdr]))
  refine Go.loopQ (fun x : Nat × List Int => [(0, .c (.ptr 0 0)), (2, .c (.ptr 1 0)), (3, .c (.ptr 66 0)), (4, DI .i64 x.1)])
    (fun x=>[(0,some (rdr bs ((n+1+x.2.length:Nat):Int))),(1,some [.v (.slice none 0 0),.v (.slice none 0 0),.v (.slice none 0 0)]),(66,some [.msl 67 1 0 x.2.length,.v (.slice none 0 0),.v (.slice none 0 0)]),(67,some (x.2.map I64))])
    4096 (fun x=>x.1+x.2.length≤5) (fun x=>x.1) ?_ (a,[]) (fun j=>if j=66 then some 129 else if j=67 then none else some j) [] _ (by simp;omega) ?_
  · rintro ⟨i,vs⟩ hi again
    simp only at hi
    rcases i with _ | i
    · have hip:((0:Int)<0)=False:=eq_false (by omega)
      refine drvL Tryz.func42 ?_
      simp only [go_sem,rdr,hip,Int.natCast_zero]
      iterate 3 ((try (refine drvZ Tryz.func42 ?_;simp only [go_sem,rdr]));((with_reducible and_intros)<;>try exact sd))
      refine XK.callG [0,4288] (hnum (n+1+vs.length) [1,2,0,1] (by omega) (by decide) (by decide)) ok20 (hhp2 rfl rfl) (hbT ()) (fun d h' ⟨_,_,_,e⟩=>by subst e;simp) ?_
      rintro _ _ ⟨nv,rfl,hnv,rfl⟩ _
      obtain ⟨a2,rfl,ha2⟩:∃ a:Nat,nv=(a:Int)∧a≤2:=⟨nv.toNat,by simp at hnv;omega,by simp at hnv;omega⟩
      clear hnv again
      ((try (refine drvZ Tryz.func42 ?_;simp only [go_sem,rdr]));((with_reducible and_intros)<;>try exact sd))
      refine Go.loopQ (fun x : Nat × List Int => [(0, .c (.ptr 0 0)), (2, .c (.ptr 1 0)), (3, .c (.ptr 66 0)), (5, DI .i64 x.1)])
        (fun x=>[(0,some (rdr bs ((n+1+vs.length+1+x.2.length:Nat):Int))),(1,some [.v (.slice none 0 0),.v (.slice none 0 0),.v (.slice none 0 0)]),(66,some [.msl 67 1 0 vs.length,.msl 68 1 0 x.2.length,.v (.slice none 0 0)]),(67,some (vs.map I64)),(68,some (x.2.map I64))])
        8192 (fun x=>x.1+x.2.length≤2) (fun x=>x.1) ?_ (a2,[]) (fun j=>if j=68 then none else some j) [] _ (by simp;omega) ?_
      · rintro ⟨i,ar⟩ hi again
        simp only at hi
        rcases i with _ | i
        · have hip:((0:Int)<0)=False:=eq_false (by omega)
          refine drv_sound (n:=3) (rs:=_) Tryz.func42 mo rfl none _ _ ?_
          simp only [go_sem,rdr]
          refine XK.subQ (r := some) (fz := []) (tl := [(0, .c (.ptr 0 0)), (2, .c (.ptr 1 0)), (3, .c (.ptr 66 0)), (5, DI .i64 0)])
            (hl:=[(0,some (rdr bs ((n+1+vs.length+1+ar.length:Nat):Int))),(1,some [.v (.slice none 0 0),.v (.slice none 0 0),.v (.slice none 0 0)]),(66,some [.msl 67 1 0 vs.length,.msl 68 1 0 ar.length,.v (.slice none 0 0)]),(67,some (vs.map I64)),(68,some (ar.map I64))]) ?_ ?_
          · simp only [go_sem,TmOK,DM,DMs,CM,CMs,forall_eq,exists_eq_left,Mq,HpOK,LowOK,rdr]
            simp [CMs,kf,flat_I',CMs_I]
          iterate 3 ((try (refine drvZ Tryz.func42 ?_;simp only [go_sem,rdr,hip]));((with_reducible and_intros)<;>try exact sd))
          refine XK.callG [0,8512] (hnum (n+1+vs.length+1+ar.length) [2,3,1,4] (by omega) (by decide) (by decide)) ok20 (hhp2 rfl rfl) (hbT ()) (fun d h' ⟨_,_,_,e⟩=>by subst e;simp) ?_ (fun _=>⟨by kernel_rfl,_,_,⟨1,rfl,by simp,rfl⟩,by simp⟩)
          rintro _ _ ⟨nv,rfl,hnv,rfl⟩ _
          obtain ⟨nn,rfl,hnn⟩:∃ a:Nat,nv=(a:Int)∧a≤4:=⟨nv.toNat,by simp at hnv;omega,by simp at hnv;omega⟩
          clear hnv again
          have hvs:vs.length≤5:=by omega
          have har:ar.length≤2:=by omega
          have hdb:=drawBlockO bs vs ar hb hl hvs har (n+1+vs.length+1+ar.length+1) nn hnn (by have:=KS_le 2 (by omega);omega)
          iterate 2 ((try (refine drvZ Tryz.func42 ?_;simp only [go_sem,rdr,hip]));((with_reducible and_intros)<;>try exact sd))
          refine XK.callG [0,67,68] hdb ok69 (hhpG (by simp [HH,upd,hOf,hpL,renCs_I,renCs_rdr,renCs,renC,rk0,rdr])) (hbT ()) (fun d h' ⟨_,_,_,_,_,_,_,e⟩=>by subst e;simp) ?_ (fun _=>⟨by kernel_rfl,_,_,⟨[],rfl,by simp,by simp,n+1+vs.length+1+ar.length+1,by omega,by omega,rfl⟩,by simp⟩)
          rintro _ _ ⟨bd,rfl,hbl,hbs,m,hm1,hm2,rfl⟩ _
          have hKS:KS 2=87600:=rfl
          have hls:=lsize_sm 2 5 bd hbs
          have hpv:=progValidO vs ar bd (by omega) (by omega) (by omega)
          iterate 3 ((try (refine drvZ Tryz.func42 ?_;simp only [go_sem,rdr,hip]));((with_reducible and_intros)<;>try exact sd))
          refine XK.callG [67,68] hpv ok70 (hhpG (by simp [HH,upd,hOf,hpL,renCs_I,renCs,renC,rk0])) (hbT ()) (fun d h' ⟨_,e⟩=>by subst e;simp) ?_
          rintro _ _ ⟨rfl,rfl⟩ _
          cases hq:progOK ⟨vs,ar,bd⟩ with
          | true =>
            iterate 3 ((try (refine drvZ Tryz.func42 ?_;simp only [go_sem,rdr,hq]));((with_reducible and_intros)<;>try exact sd))
            refine RetOb.ofQ (fun j=>if j=0 then some 0 else if j=1 then some 67 else if j=2 then some 68 else none) [] (.agg [.msl 1 1 0 vs.length,.msl 2 1 0 ar.length,.isl 11 (St1.cellsL bd)]) [some (rdr bs m),some (vs.map I64),some (ar.map I64)] ?_ (by rw [← hR];exact ⟨vs,ar,bd,rfl,⟨hq,hvs,har,hbl,hbs⟩,m,by omega,by omega,rfl⟩) (by simp)
            simp [enumL,hOf,DM,DMs,CM,CMs,HpOK,LowOK,upd,rdr,kf,CMs_I,renCs_I]
          | false =>
            iterate 3 ((try (refine drvZ Tryz.func42 ?_;simp only [go_sem,rdr,hq]));((with_reducible and_intros)<;>try exact sd))
            refine RetOb.step some [] (.agg [.msl 8960 1 0 2,.v (.slice none 0 0),.msl 9152 11 0 1]) [(0,some (rdr bs m)),(8960,some [I64 0,I64 1]),(9152,some (stC fixP.body))] ?_ ?_
            · simp [hOf,DM,DMs,CM,CMs,HpOK,LowOK,upd,rdr,stC,fixP,St1.cells,St1.cellsL,Ex.cells,Ex.cellsL,Ex0]
            refine RetOb.ofQ (fun j=>if j=0 then some 0 else if j=1 then some 8960 else none) [9152] (.agg [.msl 1 1 0 2,.msl 2 1 0 0,.isl 11 (St1.cellsL fixP.body)]) [some (rdr bs m),some ([0,1].map I64),some []] ?_ ?_ (by simp)
            · simp [enumL,hOf,DM,DMs,CM,CMs,HpOK,LowOK,upd,rdr,stC,fixP,isI,St1.cells,St1.cellsL,Ex.cells,Ex.cellsL,Ex0,kf]
            · rw [← hR];exact ⟨[0,1],[],fixP.body,rfl,DrP.fix,m,by omega,by omega,rfl⟩
        · have hip:((0:Int)<(i:Int)+1)=True:=eq_true (by omega)
          refine drvL Tryz.func42 ?_
          simp only [go_sem,rdr,hip]
          iterate 3 ((try (refine drvZ Tryz.func42 ?_;simp only [go_sem,rdr]));((with_reducible and_intros)<;>try exact sd))
          refine XK.callG [0,8512] (hnum (n+1+vs.length+1+ar.length) [0,1,0,1,3] (by omega) (by decide) (by decide)) ok20 (hhp2 rfl rfl) (hbT ()) (fun d h' ⟨_,_,_,e⟩=>by subst e;simp) ?_ (fun _=>⟨by kernel_rfl,_,_,⟨0,rfl,by simp,rfl⟩,by simp⟩)
          rintro _ _ ⟨v,rfl,hv,rfl⟩ _
          clear hv
          iterate 4 ((try (refine drvZ Tryz.func42 ?_;simp only [go_sem,rdr]));((with_reducible and_intros)<;>try exact sd))
          refine again (i,ar++[v]) (fun j=>if j=68 then some 8704 else some j) [] _ (by simp;omega) (by simp) ?_
          simp only [go_sem,TmOK,DM,DMs,CM,CMs,forall_eq,exists_eq_left,Mq,HpOK,LowOK,rdr,i_snoc]
          simp [-List.map_append,CMs_I]
          try exact ⟨by omega,CMs.kf (kf_app (kf_I _) (by simp [kf]))⟩
      · simp only [go_sem,TmOK,DM,DMs,CM,CMs,forall_eq,exists_eq_left,Mq,HpOK,LowOK,rdr]
        simp [CMs,kf,flat_I',CMs_I]
    · have hip:((0:Int)<(i:Int)+1)=True:=eq_true (by omega)
      refine drvL Tryz.func42 ?_
      simp only [go_sem,rdr,hip]
      iterate 3 ((try (refine drvZ Tryz.func42 ?_;simp only [go_sem,rdr]));((with_reducible and_intros)<;>try exact sd))
      refine XK.callG [0,4416] (hnum (n+1+vs.length) [0,1,0,1,2,3] (by omega) (by decide) (by decide)) ok20 (hhp2 rfl rfl) (hbT ()) (fun d h' ⟨_,_,_,e⟩=>by subst e;simp) ?_ (fun _=>⟨by kernel_rfl,_,_,⟨0,rfl,by simp,rfl⟩,by simp⟩)
      rintro _ _ ⟨v,rfl,hv,rfl⟩ _
      clear hv
      iterate 4 ((try (refine drvZ Tryz.func42 ?_;simp only [go_sem,rdr]));((with_reducible and_intros)<;>try exact sd))
      refine again (i,vs++[v]) (fun j=>if j=67 then some 4608 else some j) [] _ (by simp;omega) (by simp) ?_
      simp only [go_sem,TmOK,DM,DMs,CM,CMs,forall_eq,exists_eq_left,Mq,HpOK,LowOK,rdr,i_snoc]
      simp
      exact ⟨by omega,CMs.kf (kf_app (kf_I _) (by simp [kf]))⟩
  · simp only [go_sem,TmOK,DM,DMs,CM,CMs,forall_eq,exists_eq_left,Mq,HpOK,LowOK,rdr]
    simp [CMs]
theorem l2Program (bs:List Int) (n:Nat) (hb:Fits .u8 bs) (hl:bs.length≤2000) (hn:n≤274877906944):DC Tryz.prog 42 [.c (.ptr 0 0)] [some (rdr bs n)] (prR bs n) :=
  DC.weaken (l2ProgramO bs n hb hl hn) (fun d h' ⟨vs,ar,bd,e,hp,n',q1,q2,e2⟩ _=>by
    subst e e2
    refine RetOb.ofQ (fun j=>if j=0 then some 0 else none) [1,2] (.agg (Pg.cells ⟨vs,ar,bd⟩)) [some (rdr bs n')] ?_ ⟨⟨vs,ar,bd⟩,rfl,hp,n',q1,q2,rfl⟩ (by simp)
    simp [Pg.cells,isI,enumL,hOf,DM,DMs,CM,CMs,HpOK,LowOK,upd,rdr,kf,flat_I',hpL])
theorem fits_take {k:IntKind} {bs:List Int} (h:Fits k bs) (n:Nat):Fits k (bs.take n):=fun x hx=>h x (List.mem_of_mem_take hx)
theorem prog_len {p:Pg} (h:progOK p=true):1≤p.vars.length∧p.vars.length≤12∧p.arrays.length≤2:=by
  simp only [progOK,headsOK,Bool.and_eq_true,decide_eq_true_eq] at h
  obtain ⟨⟨⟨⟨⟨_,h1⟩,h2⟩,h3⟩,_⟩,_⟩:=h
  omega
end Go.Proofs.YtoakidkcppinpaaGreat.CtD
namespace Go.Proofs.YtoakidkcppinpaaGreat.CtR
open Go Go.CT CtF
variable [Yn]
theorem foldR_app (f : Mm → St1 → Mm × List Ev) : ∀ (a b : List St1) (m : Mm), foldR f m (a ++ b) = ((foldR f (foldR f m a).1 b).1, (foldR f m a).2 ++ (foldR f (foldR f m a).1 b).2)
  | [],b,m=>by simp [foldR]
  | x :: r,b,m=>by simp only [List.cons_append,foldR,foldR_app f r b,List.append_assoc]
theorem lsize_app (d:Nat) (a b:List St1):lsize d (a++b)=lsize d a+lsize d b:=by simp [lsize]
def labB (vs ar:List Int) (k v:Int):Nat:=if k=2 then (nth vs v).toNat else if k=3 then (nth ar v).toNat else 0
def labN (vs ar : List Int) : Nat → Ex → Nat
  | 0,_=>0
  | d+1,.mk k v ks=>(ks.map (labN vs ar d)).foldl (fun a b=>a ||| b) (labB vs ar k v)
def lab3 (l:List Int):Prop:=∀ x ∈ l,0≤x∧x≤3
theorem or3 {a b:Nat} (ha:a≤3) (hb:b≤3):a ||| b≤3:=by
  have:=Nat.or_lt_two_pow (x:=a) (y:=b) (n:=2) (by omega) (by omega)
  omega
theorem nth_lab {l:List Int} (h:lab3 l) (v:Int):0≤nth l v∧nth l v≤3:=by
  unfold nth
  rw [List.getD_eq_getElem?_getD]
  cases hx:l[v.toNat]? with
  | none=>simp
  | some x=>simpa using h x (List.mem_of_getElem? hx)
theorem foldl_or3 : ∀ (l : List Nat) (a : Nat), a ≤ 3 → (∀ x ∈ l, x ≤ 3) → l.foldl (fun a b => a ||| b) a ≤ 3
  | [],a,h,_=>h
  | x :: r,a,h,h2=>foldl_or3 r _ (or3 h (h2 x (by simp))) fun y hy=>h2 y (by simp [hy])
theorem labN_le {vs ar : List Int} (h1 : lab3 vs) (h2 : lab3 ar) : ∀ (d : Nat) (e : Ex), labN vs ar d e ≤ 3
  | 0,_=>Nat.zero_le _
  | d+1,.mk k v ks=>by
    refine foldl_or3 _ _ ?_ fun x hx=>?_
    · unfold labB
      have:=nth_lab h1 v
      have:=nth_lab h2 v
      split
      · omega
      · split<;>omega
    · obtain ⟨y,_,rfl⟩:=List.mem_map.1 hx
      exact labN_le h1 h2 d y
theorem lab_succ (f:Ex→Nat) (a:Nat) (ks:List Ex) (i:Nat) (x:Ex) (h:ks[i]? = some x):((ks.take (i+1)).map f).foldl (fun a b=>a ||| b) a=((ks.take i).map f).foldl (fun a b=>a ||| b) a ||| f x:=by
  rw [List.take_add_one,h]
  simp
theorem labs_of {p:Pg} (h:progOK p=true):lab3 p.vars∧lab3 p.arrays:=by
  simp only [progOK,headsOK,labs,Bool.and_eq_true,decide_eq_true_eq,List.all_eq_true] at h
  exact ⟨fun x hx=>h.1.1.1.2 x hx,fun x hx=>h.1.1.2 x hx⟩
def ctxI (vs ar:List Int) (s:St1) (c:Nat):Nat:=if s.kind=3 then c ||| labN vs ar 5 s.value else c
theorem RetOb.two {R:D→List (Option (List C))→Prop} {a b:Int} {hp:Hp} (h:R (.tup [DI .i64 a,DI .i64 b]) []):RetOb 0 R (.tup [DI .i64 a,DI .i64 b]) hp :=
  RetOb.ofQ (fun _=>none) [] (.tup [DI .i64 a,DI .i64 b]) [] (by simp [enumL,DM,DMs,CM,HpOK,LowOK]) h (by simp)
theorem prog_len2 {p:Pg} (h:progOK p=true):1≤p.vars.length∧p.vars.length≤12∧p.arrays.length≤2:=by
  simp only [progOK,headsOK,Bool.and_eq_true,decide_eq_true_eq] at h
  obtain ⟨⟨⟨⟨⟨_,h1⟩,h2⟩,h3⟩,_⟩,_⟩:=h
  omega
abbrev BC (b:Bool):C := .v (.bool b)
def boolsC (bs:List Bool):List C:=bs.map BC
theorem boolsC_kf (bs:List Bool):∀ c ∈ boolsC bs,kf c=true:=by
  intro c hc;obtain ⟨x,_,rfl⟩:=List.mem_map.1 hc;rfl
theorem boolsC_set (bs:List Bool) (i:Nat) (b:Bool):(boolsC bs).set i (.v (.bool b))=boolsC (bs.set i b):=by
  unfold boolsC;rw [List.map_set]
theorem boolsC_len (bs:List Bool):(boolsC bs).length=bs.length:=by simp [boolsC]
theorem boolsC_rep (n:Nat) (b:Bool):(List.replicate n [C.v (.bool b)]).flatten=boolsC (List.replicate n b):=by
  induction n with
  | zero=>rfl
  | succ n ih=>rw [List.replicate_succ,List.flatten_cons,ih,List.replicate_succ];rfl
theorem boolsC_ren (r:Nat→Nat) (bs:List Bool):renCs r (boolsC bs)=boolsC bs:=by
  induction bs with
  | nil=>rfl
  | cons a r' ih=>simp only [boolsC,List.map_cons,renCs,renC] at ih ⊢;rw [ih]
end Go.Proofs.YtoakidkcppinpaaGreat.CtR
namespace Go.Proofs.YtoakidkcppinpaaGreat.CtD
open Go Go.CT CtF CtR
variable [Yn]
theorem none0_eq {e:Ex} (h:none0 e=true):e = .mk 0 0 []:=by
  obtain ⟨k,v,ks⟩:=e
  simp only [none0,Ex.kind,Ex.value,Ex.kids,Bool.and_eq_true,beq_iff_eq,decide_eq_true_eq] at h
  obtain ⟨⟨rfl,rfl⟩,h3⟩:=h
  have:ks=[]:=List.isEmpty_iff.1 h3
  rw [this]
theorem exprs_of {p : Pg} {d : Nat} {k t : Int} {ix v : Ex} {c : Int} {b e : List St1} (h : stmtOK p (d + 1) (.mk k t ix v c b e) = true) :
    (CtR.shape p 5 ix=true∨ix = .mk 0 0 [])∧(CtR.shape p 5 v=true∨v = .mk 0 0 []):=by
  have h1:=(stmtOK_succ h).1
  have hk:=head_kind h1
  unfold headOK parts at h1
  rcases hk with ⟨hk,_,_,hr⟩ | ⟨rfl,_,_,hr,_,hr2⟩ | ⟨rfl,hr⟩ | ⟨rfl,_⟩
  · refine ⟨.inr (none0_eq ?_),.inl (right_shape hr).1⟩
    have hk4:k ≠ 4:=by omega
    have hk2:(k == 2)=false:=by simp;omega
    simp [hk4,hk2] at h1
    exact h1.1.2.2
  · exact ⟨.inl (right_shape hr).1,.inl (right_shape hr2).1⟩
  · refine ⟨.inr (none0_eq ?_),.inl (right_shape hr).1⟩
    simp at h1
    exact h1.1.2.2
  · simp at h1
    refine ⟨.inr (none0_eq ?_),.inr (none0_eq ?_)⟩<;>grind
theorem val_none {p:Pg} {d:Nat} {t:Int} {ix v:Ex} {c:Int} {b e:List St1} (h:stmtOK p (d+1) (.mk 4 t ix v c b e)=true):ix = .mk 0 0 []∧v = .mk 0 0 []:=by
  have h1:=(stmtOK_succ h).1
  unfold headOK parts at h1
  simp at h1
  exact ⟨none0_eq (by grind),none0_eq (by grind)⟩
def cutS (q : Nat → Bool) (nv : Nat) (f : List St1 → List St1) : St1 → Option St1
  | .mk k t ix v c b e =>
    if k=5 then some (.mk k t ix v c b e) else if k=1 then (if q t.toNat then some (.mk k t ix v c b e) else none) else if k=2 then (if q (nv+t.toNat) then some (.mk k t ix v c b e) else none)
    else if 0<(f b).length+(f e).length then some (.mk k t ix v c (f b) (f e)) else none
end Go.Proofs.YtoakidkcppinpaaGreat.CtD
namespace Go.Proofs.YtoakidkcppinpaaGreat.CtR
end Go.Proofs.YtoakidkcppinpaaGreat.CtR
namespace Go.Proofs.YtoakidkcppinpaaGreat.CtD
open Go Go.CT CtF CtR
variable [Yn]
end Go.Proofs.YtoakidkcppinpaaGreat.CtD
namespace Go.Proofs.YtoakidkcppinpaaGreat.CtF
end Go.Proofs.YtoakidkcppinpaaGreat.CtF
namespace Go.Proofs.YtoakidkcppinpaaGreat.CtR
end Go.Proofs.YtoakidkcppinpaaGreat.CtR
namespace Go.Proofs.YtoakidkcppinpaaGreat.CtD
open Go Go.CT CtF CtR
variable [Yn]
end Go.Proofs.YtoakidkcppinpaaGreat.CtD
namespace Go.Proofs.YtoakidkcppinpaaGreat.CtF
end Go.Proofs.YtoakidkcppinpaaGreat.CtF
namespace Go.Proofs.YtoakidkcppinpaaGreat.CtR
end Go.Proofs.YtoakidkcppinpaaGreat.CtR
namespace Go.Proofs.YtoakidkcppinpaaGreat.CtD
open Go Go.CT CtF CtR
variable [Yn]
end Go.Proofs.YtoakidkcppinpaaGreat.CtD
namespace Go.Proofs.YtoakidkcppinpaaGreat.CtF
end Go.Proofs.YtoakidkcppinpaaGreat.CtF
namespace Go.Proofs.YtoakidkcppinpaaGreat.CtR
end Go.Proofs.YtoakidkcppinpaaGreat.CtR
namespace Go.Proofs.YtoakidkcppinpaaGreat.CtD
open Go Go.CT CtF CtR
variable [Yn]
theorem boolsC_snoc (ws:List Bool) (b:Bool):boolsC (ws++[b])=boolsC ws++[.v (.bool b)]:=by simp [boolsC,BC]
end Go.Proofs.YtoakidkcppinpaaGreat.CtD
namespace Go.Proofs.YtoakidkcppinpaaGreat.CtF
end Go.Proofs.YtoakidkcppinpaaGreat.CtF
namespace Go.Proofs.YtoakidkcppinpaaGreat.CtR
end Go.Proofs.YtoakidkcppinpaaGreat.CtR
namespace Go.Proofs.YtoakidkcppinpaaGreat.CtD
open Go Go.CT CtF CtR
variable [Yn]
theorem len0 {l:List St1} (h:¬ 0<l.length):l=[]:=List.eq_nil_of_length_eq_zero (by omega)
end Go.Proofs.YtoakidkcppinpaaGreat.CtD
namespace Go.Proofs.YtoakidkcppinpaaGreat.CtF
variable [Go.CT.Yn]
end Go.Proofs.YtoakidkcppinpaaGreat.CtF
namespace Go.Proofs.YtoakidkcppinpaaGreat.CtR
variable [Go.CT.Yn]
open Go Go.CT CtF
def secL (l:Nat):Bool:=l.testBit 0
def trustL (l:Nat):Bool := !l.testBit 1
def subL (a b:Nat):Bool:=a ||| b == b
def kid0 : List Ex → Ex
  | [] => .mk 0 0 []
  | e :: _=>e
def secE (vs ar : List Int) : Nat → Ex → Bool
  | 0,_=>false
  | d+1,.mk k v ks=>(k == 3 && secL (labN vs ar d (kid0 ks))) || ks.any (secE vs ar d)
def storedN (vs ar:List Int) (s:St1) (c:Nat):Nat:=if s.kind=2 then labN vs ar 5 s.value ||| c ||| labN vs ar 5 s.index else labN vs ar 5 s.value ||| c
def flowR (vs ar:List Int) (s:St1) (c:Nat):Int :=
  if s.kind=1 then (if subL (storedN vs ar s c) (nth vs s.target).toNat then 0 else 1)
  else if s.kind=2 then (if subL (storedN vs ar s c) (nth ar s.target).toNat then 0 else 1)
  else if s.kind=5 then (if trustL (labN vs ar 5 s.value) && c == 0 then 0 else 2) else 0
def leakR (vs ar:List Int) (s:St1) (_:Nat):Int :=
  if s.kind=3∧secL (labN vs ar 5 s.value)=true then 3
  else if (s.kind=2∧secL (labN vs ar 5 s.index)=true)∨secE vs ar 5 s.value=true then 4 else 0
def ownR (strict:Bool) (vs ar:List Int) (s:St1) (c:Nat):Int :=
  if flowR vs ar s c ≠ 0 then flowR vs ar s c else if strict then leakR vs ar s c else 0
def walkR (res : St1 → Nat → Int) (vs ar : List Int) : Nat → Nat → List St1 → Int → Int × Int
  | 0,_,_,n=>(0,n)
  | d+1,c,l,n=>l.foldl (fun (x:Int × Int) s=>if x.1 ≠ 0 then x else if res s c ≠ 0 then (res s c,x.2) else
      if (walkR res vs ar d (ctxI vs ar s c) s.body (x.2+1)).1 ≠ 0 then walkR res vs ar d (ctxI vs ar s c) s.body (x.2+1)
      else walkR res vs ar d (ctxI vs ar s c) s.els (walkR res vs ar d (ctxI vs ar s c) s.body (x.2+1)).2) (0,n)
def fineL (res : St1 → Nat → Int) (vs ar : List Int) : Nat → Nat → List St1 → Bool
  | 0,_,_=>true
  | d+1,c,l=>l.all fun s=>res s c == 0 && fineL res vs ar d (ctxI vs ar s c) s.body && fineL res vs ar d (ctxI vs ar s c) s.els
theorem walk_fine (res : St1 → Nat → Int) (vs ar : List Int) : ∀ (d c : Nat) (l : List St1) (n : Int), (walkR res vs ar d c l n).1 = 0 ↔ fineL res vs ar d c l = true
  | 0,_,_,_=>by simp [walkR,fineL]
  | d+1,c,l,n=>by
    have key:∀ (l:List St1) (x:Int × Int),(l.foldl (fun (x:Int × Int) s=>if x.1 ≠ 0 then x else if res s c ≠ 0 then (res s c,x.2) else
      if (walkR res vs ar d (ctxI vs ar s c) s.body (x.2+1)).1 ≠ 0 then walkR res vs ar d (ctxI vs ar s c) s.body (x.2+1)
      else walkR res vs ar d (ctxI vs ar s c) s.els (walkR res vs ar d (ctxI vs ar s c) s.body (x.2+1)).2) x).1=0 ↔ x.1=0∧fineL res vs ar (d+1) c l=true:=by
      intro l
      induction l with
      | nil=>intro x;simp [fineL]
      | cons a r ih =>
        intro x
        rw [List.foldl_cons,ih]
        have h1:=walk_fine res vs ar d (ctxI vs ar a c) a.body (x.2+1)
        have h2:=walk_fine res vs ar d (ctxI vs ar a c) a.els (walkR res vs ar d (ctxI vs ar a c) a.body (x.2+1)).2
        simp only [fineL,List.all_cons,Bool.and_eq_true,beq_iff_eq] at h1 h2 ⊢
        by_cases hx:x.1=0
        · by_cases hr:res a c=0
          · by_cases hb:(walkR res vs ar d (ctxI vs ar a c) a.body (x.2+1)).1=0
            · have hb2:=h1.1 hb
              simp only [hx,hr,hb,hb2,ne_eq,not_true_eq_false,if_false,true_and]
              rw [h2]
            · have hb2:¬ fineL res vs ar d (ctxI vs ar a c) a.body=true:=fun h=>hb (h1.2 h)
              simp only [hx,hr,ne_eq,not_true_eq_false,if_false,true_and]
              rw [if_pos hb]
              simp [hb,hb2]
          · simp [hx,hr]
        · simp [hx]
    have:=key l (0,n)
    simpa [walkR] using this
def chkR (res:List Int→List Int→St1→Nat→Int) (p:Pg):Int × Int :=
  if progOK p=true then ((walkR (res p.vars p.arrays) p.vars p.arrays 5 0 p.body 0).1,if (walkR (res p.vars p.arrays) p.vars p.arrays 5 0 p.body 0).1=0 then -1 else (walkR (res p.vars p.arrays) p.vars p.arrays 5 0 p.body 0).2) else (5,-1)
def fineP (res:List Int→List Int→St1→Nat→Int) (p:Pg):Bool:=progOK p && fineL (res p.vars p.arrays) p.vars p.arrays 5 0 p.body
theorem chk_fine (res:List Int→List Int→St1→Nat→Int) (p:Pg):(chkR res p).1=0 ↔ fineP res p=true:=by
  unfold chkR fineP
  cases h:progOK p with
  | false=>simp
  | true=>simp only [if_true,Bool.true_and];exact walk_fine _ _ _ _ _ _ _
theorem own_flow (p:Pg):chkR (ownR false) p=chkR flowR p:=by
  have:(ownR false)=flowR:=by
    funext vs ar s c
    simp only [ownR]
    split
    · rfl
    · rename_i h;simp only [ne_eq,Classical.not_not] at h;simp [h]
  rw [this]
open Go Go.CT CtF
structure LowM (β : Nat) (p : Pg) (m m' : Mm) : Prop where
  lv:m.vals.length=m'.vals.length
  la:m.arrays.length=m'.arrays.length
  val:∀ (i:Nat) (x:Int),p.vars[i]? = some x→x.toNat.testBit β=false→m.vals[i]? = m'.vals[i]?
  arr:∀ (i:Nat) (x:Int),p.arrays[i]? = some x→x.toNat.testBit β=false→m.arrays[i]? = m'.arrays[i]?
theorem LowM.refl (β:Nat) (p:Pg) (m:Mm):LowM β p m m:=⟨rfl,rfl,fun _ _ _ _=>rfl,fun _ _ _ _=>rfl⟩
theorem LowM.symm {β:Nat} {p:Pg} {m m':Mm} (h:LowM β p m m'):LowM β p m' m:=⟨h.lv.symm,h.la.symm,fun i x a b=>(h.val i x a b).symm,fun i x a b=>(h.arr i x a b).symm⟩
theorem LowM.trans {β:Nat} {p:Pg} {a b c:Mm} (h:LowM β p a b) (h':LowM β p b c):LowM β p a c :=
  ⟨h.lv.trans h'.lv,h.la.trans h'.la,fun i x u v=>(h.val i x u v).trans (h'.val i x u v),fun i x u v=>(h.arr i x u v).trans (h'.arr i x u v)⟩
theorem arrAt_eq {m m':Mm} {v:Int} (h:m.arrays[v.toNat]? = m'.arrays[v.toNat]?):arrAt m v=arrAt m' v:=by
  unfold arrAt;rw [List.getD_eq_getElem?_getD,List.getD_eq_getElem?_getD,h]
theorem LowM.setV {β : Nat} {p : Pg} {m m' : Mm} (h : LowM β p m m') {t x y : Int} (hx : x = y ∨ (nth p.vars t).toNat.testBit β = true) : LowM β p (setV m t x) (setV m' t y) where
  lv:=by simp [CtR.setV,h.lv]
  la:=h.la
  val:=fun i z hz hb=>by
    simp only [CtR.setV,List.getElem?_set,h.lv]
    by_cases e:t.toNat=i
    · subst e
      rcases hx with rfl | hx
      · simp [h.val _ z hz hb]
      · have:nth p.vars t=z:=by unfold nth;rw [List.getD_eq_getElem?_getD,hz];rfl
        rw [this,hb] at hx
        cases hx
    · simp only [e,if_false];exact h.val i z hz hb
  arr:=h.arr
theorem LowM.setA {β : Nat} {p : Pg} {m m' : Mm} (h : LowM β p m m') {t i j x y : Int} (hx : (i = j ∧ x = y) ∨ (nth p.arrays t).toNat.testBit β = true) : LowM β p (setA m t i x) (setA m' t j y) where
  lv:=h.lv
  la:=by simp [CtR.setA,h.la]
  val:=h.val
  arr:=fun k z hz hb=>by
    simp only [CtR.setA,List.getElem?_set,h.la]
    by_cases e:t.toNat=k
    · subst e
      rcases hx with ⟨rfl,rfl⟩ | hx
      · rw [arrAt_eq (h.arr _ z hz hb),h.arr _ z hz hb]
      · have:nth p.arrays t=z:=by unfold nth;rw [List.getD_eq_getElem?_getD,hz];rfl
        rw [this,hb] at hx
        cases hx
    · simp only [e,if_false];exact h.arr k z hz hb
theorem subL_bit {a b β:Nat} (h:subL a b=true) (ha:a.testBit β=true):b.testBit β=true:=by
  have h:a ||| b=b:=by simpa [subL] using h
  rw [← h,Nat.testBit_or,ha];rfl
theorem runS_1 (d:Nat) (m:Mm) (t:Int) (ix v:Ex) (c:Int) (b e:List St1):runS (d+1) m (.mk 1 t ix v c b e)=(setV m t (evalE m 5 v).1,(evalE m 5 v).2):=by simp [runS]
theorem shapeV {p:Pg} {d:Nat} {k t:Int} {ix v:Ex} {c:Int} {b e:List St1} (h:stmtOK p (d+1) (.mk k t ix v c b e)=true):(k ≠ 4→shape p 5 v=true)∧(k=2→shape p 5 ix=true):=by
  have hk:=head_kind (stmtOK_succ h).1
  constructor
  · intro h4
    rcases hk with h | h | h | h
    · exact (right_shape h.2.2.2).1
    · exact (right_shape h.2.2.2.2.2).1
    · exact (right_shape h.2).1
    · exact absurd h.1 h4
  · intro h2
    rcases hk with h | h | h | h
    · exact absurd h.1 (by omega)
    · exact (right_shape h.2.2.2.1).1
    · exact absurd h.1 (by omega)
    · exact absurd h.1 (by omega)
open Go Go.CT CtF
def fdif : List Ev → List Ev → Int → Int
  | [],[],_ => -1
  | a :: r,b :: s,n=>if a.kind=b.kind∧a.value=b.value then fdif r s (n+1) else n
  | _,_,n=>n
end Go.Proofs.YtoakidkcppinpaaGreat.CtR
namespace Go.Proofs.YtoakidkcppinpaaGreat.CtF
end Go.Proofs.YtoakidkcppinpaaGreat.CtF
namespace Go.Proofs.YtoakidkcppinpaaGreat.CtR
end Go.Proofs.YtoakidkcppinpaaGreat.CtR
namespace Go.Proofs.YtoakidkcppinpaaGreat.CtR
open Go Go.CT CtF
variable [Yn]
theorem le3 {a:Nat} (h:a≤3):a=0∨a=1∨a=2∨a=3:=by omega
theorem subI (a b:Nat) (ha:a≤3) (hb:b≤3):decide (((a ||| b:Nat):Int)=(b:Int))=subL a b:=by
  rcases le3 ha with rfl | rfl | rfl | rfl<;>rcases le3 hb with rfl | rfl | rfl | rfl<;>decide
theorem secI (a:Nat) (ha:a≤3):decide (((a &&& 1:Nat):Int)=1)=secL a:=by
  rcases le3 ha with rfl | rfl | rfl | rfl<;>decide
theorem secI' (a:Nat) (ha:a≤3):decide (((a &&& 1:Nat):Int) ≠ 0)=secL a:=by
  rcases le3 ha with rfl | rfl | rfl | rfl<;>decide
theorem truI (a:Nat) (ha:a≤3):decide (((a &&& 2:Nat):Int)=0)=trustL a:=by
  rcases le3 ha with rfl | rfl | rfl | rfl<;>decide
theorem labelFlowsS (a b:Nat) (ha:a≤3) (hb:b≤3):DC Tryz.prog 156 [DI .i64 a,DI .i64 b] [] (fun r h=>r=DB (subL a b)∧h=[]):=by
  have h1:=labelValidS a
  have h2:=labelValidS b
  have ha':(decide (0≤(a:Int)) && decide ((a:Int)≤3))=true:=by simp;omega
  have hb':(decide (0≤(b:Int)) && decide ((b:Int)≤3))=true:=by simp;omega
  rw [ha'] at h1
  rw [hb'] at h2
  have hs:=subI a b ha hb
  generalize hR:(fun (r:D) (h:List (Option (List C)))=>r=DB (subL a b)∧h=[])=R
  refine dcZ Tryz.func156 ?_
  simp only [go_sem]
  iterate 6 ((try (refine drvZ Tryz.func156 ?_;simp only [go_sem]));((with_reducible and_intros)<;>try exact sd);(try first | refine XK.p h1 ok101 ?_ | refine XK.gp h1 ok101 ?_ | refine XK.p h2 ok101 ?_ | refine XK.gp h2 ok101 ?_))
  refine RetOb.plain (d:=DB _) ?_ rfl
  rw [← hR,← hs]
  exact ⟨rfl,rfl⟩
theorem labelSecretS (a:Nat) (ha:a≤3):DC Tryz.prog 125 [DI .i64 a] [] (fun r h=>r=DB (secL a)∧h=[]):=by
  have h1:=labelValidS a
  have ha':(decide (0≤(a:Int)) && decide ((a:Int)≤3))=true:=by simp;omega
  rw [ha'] at h1
  have hs:=secI a ha
  generalize hR:(fun (r:D) (h:List (Option (List C)))=>r=DB (secL a)∧h=[])=R
  refine dcZ Tryz.func125 ?_
  simp only [go_sem]
  iterate 4 ((try (refine drvZ Tryz.func125 ?_;simp only [go_sem]));((with_reducible and_intros)<;>try exact sd);(try first | refine XK.p h1 ok101 ?_ | refine XK.gp h1 ok101 ?_))
  refine RetOb.plain (d:=DB _) ?_ rfl
  rw [← hR,← hs]
  exact ⟨rfl,rfl⟩
theorem labelTrustedS (a:Nat) (ha:a≤3):DC Tryz.prog 157 [DI .i64 a] [] (fun r h=>r=DB (trustL a)∧h=[]):=by
  have h1:=labelValidS a
  have ha':(decide (0≤(a:Int)) && decide ((a:Int)≤3))=true:=by simp;omega
  rw [ha'] at h1
  have hs:=truI a ha
  generalize hR:(fun (r:D) (h:List (Option (List C)))=>r=DB (trustL a)∧h=[])=R
  refine dcZ Tryz.func157 ?_
  simp only [go_sem]
  iterate 4 ((try (refine drvZ Tryz.func157 ?_;simp only [go_sem]));((with_reducible and_intros)<;>try exact sd);(try first | refine XK.p h1 ok101 ?_ | refine XK.gp h1 ok101 ?_))
  refine RetOb.plain (d:=DB _) ?_ rfl
  rw [← hR,← hs]
  exact ⟨rfl,rfl⟩
theorem labelSecretI (a:Nat) (ha:a≤3):DC Tryz.prog 24 [DI .i64 a] [] (fun r h=>r=DB (secL a)∧h=[]):=by
  have h1:=labelValidI a
  have ha':(decide (0≤(a:Int)) && decide ((a:Int)≤3))=true:=by simp;omega
  rw [ha'] at h1
  have hs:=secI' a ha
  generalize hR:(fun (r:D) (h:List (Option (List C)))=>r=DB (secL a)∧h=[])=R
  refine dcZ Tryz.func24 ?_
  simp only [go_sem]
  iterate 4 ((try (refine drvZ Tryz.func24 ?_;simp only [go_sem]));((with_reducible and_intros)<;>try exact sd);(try first | refine XK.p h1 ok48 ?_ | refine XK.gp h1 ok48 ?_))
  refine RetOb.plain (d:=DB _) ?_ rfl
  rw [← hR,← hs]
  refine ⟨?_,rfl⟩
  rcases le3 ha with rfl | rfl | rfl | rfl<;>rfl
theorem labelS (p:Pg) (hl:p.vars.length≤mx) (hl2:p.arrays.length≤mx) (h1:lab3 p.vars) (h2:lab3 p.arrays):∀ (d:Nat) (e:Ex),shape p d e=true→DC Tryz.prog 126 [.agg p.cells,.agg e.cells] [] (fun r h=>r=DI .i64 (labN p.vars p.arrays d e)∧h=[]):=by
  have hmx:=mx_eq
  intro d
  induction d with
  | zero=>intro e h;simp [shape] at h
  | succ d ih =>
    intro e hsh
    obtain ⟨k,v,ks⟩:=e
    obtain ⟨g1,g2,g3⟩:=shape_succ hsh
    obtain ⟨hl3,hla,hv0,hv1⟩:=fits_len g1
    obtain ⟨vs,ar,bd⟩:=p
    have h1:lab3 vs:=h1
    have h2:lab3 ar:=h2
    generalize hR:(fun (r:D) (h:List (Option (List C)))=>r=DI .i64 (labN vs ar (d+1) (.mk k v ks))∧h=[])=R
    have hle:=fun e=>labN_le h1 h2 d e
    have hacc:∀ i,((ks.take i).map (labN vs ar d)).foldl (fun a b=>a ||| b) (labB vs ar k v)≤3:=fun i=>by
      have:=labN_le h1 h2 (d+1) (.mk k v (ks.take i))
      exact this
    have hlb:labB vs ar k v≤3:=hacc 0
    have key:k=2∨k=3∨(k ≠ 2∧k ≠ 3):=by omega
    rcases key with hk | hk | hk
    case' inl =>
      have hv1':v<vs.length:=by subst hk;simpa [limit] using hv1
      have hx:=(nth_mem (l:=vs) hv0 hv1').1
      have hB:((labB vs ar k v:Nat):Int)=nth vs v:=by have:=nth_lab h1 v;simp [labB,hk];omega
      have e2:(k == 2)=true:=by simp [hk]
      refine dcZ Tryz.func126 ?_
      simp only [go_sem]
      iterate 4 ((try (refine drvZ Tryz.func126 ?_;simp only [go_sem,hx,e2,eq_true hk]));((with_reducible and_intros)<;>try exact sd))
    case' inr.inl =>
      have hv1':v<ar.length:=by subst hk;simpa [limit] using hv1
      have hx:=(nth_mem (l:=ar) hv0 hv1').1
      have hB:((labB vs ar k v:Nat):Int)=nth ar v:=by have:=nth_lab h2 v;simp [labB,hk];omega
      have e2:(k == 2)=false:=by simp [hk]
      have e3:(k == 3)=true:=by simp [hk]
      have f2:(k=2)=False:=by simp [hk]
      refine dcZ Tryz.func126 ?_
      simp only [go_sem]
      iterate 4 ((try (refine drvZ Tryz.func126 ?_;simp only [go_sem,hx,e2,e3,f2,eq_true hk]));((with_reducible and_intros)<;>try exact sd))
    case' inr.inr =>
      have hB:((labB vs ar k v:Nat):Int)=0:=by simp [labB,hk.1,hk.2]
      have e2:(k == 2)=false:=by simp [hk.1]
      have e3:(k == 3)=false:=by simp [hk.2]
      have hk2:=hk.1
      have hk3:=hk.2
      refine dcZ Tryz.func126 ?_
      simp only [go_sem]
      iterate 4 ((try (refine drvZ Tryz.func126 ?_;simp only [go_sem,e2,e3,hk2,hk3]));((with_reducible and_intros)<;>try exact sd))
    all_goals
      clear hk
      refine Go.loopQ (fun i : Nat => [(2, .c (.ptr 0 0)), (3, .c (.ptr 64 0)), (5, DI .i64 (((ks.take i).map (labN vs ar d)).foldl (fun a b => a ||| b) (labB vs ar k v) : Nat)), (6, DI .i64 i)]) (fun i => [(0, some (Pg.cells ⟨vs, ar, bd⟩)), (64, some (Ex.cells (.mk k v ks)))])
        4096 (fun i=>i≤ks.length) (fun i=>ks.length - i) ?_ 0 some [] _ (Nat.zero_le _) ?_
      · intro i hi again
        rcases Nat.lt_or_ge i ks.length with hlt | hge
        · obtain ⟨⟨k',v',ks'⟩,hx⟩:∃ x,ks[i]? = some x:=⟨ks[i],by simp [hlt]⟩
          have hsc:=lab_succ (labN vs ar d) (labB vs ar k v) ks i _ hx
          have ha:=hacc i
          have hb:=hle (.mk k' v' ks')
          have hc:=hacc (i+1)
          rw [hsc] at hc
          have hi:=ih (.mk k' v' ks') (g2 _ (List.mem_of_getElem? hx))
          generalize ((ks.take i).map (labN vs ar d)).foldl (fun a b=>a ||| b) (labB vs ar k v)=acc at *
          refine drvL Tryz.func126 ?_
          simp only [go_sem,hx,hlt]
          iterate 5 ((try (refine drvZ Tryz.func126 ?_;simp only [go_sem,hx,hlt]));((with_reducible and_intros)<;>try exact sd);(try first | refine XK.p hi ok126 ?_ | refine XK.gp hi ok126 ?_))
          refine again (i+1) some [] _ hlt (by omega) ?_
          simp only [go_sem,TmOK,DM,DMs,CM,CMs,forall_eq,exists_eq_left,Mq,HpOK,LowOK,hsc]
          simp
          rw [← List.map_take,hsc]
        · have hn:¬ i<ks.length:=by omega
          obtain rfl:i=ks.length:=by omega
          refine drvL Tryz.func126 ?_
          simp only [go_sem,hn,List.take_length]
          iterate 2 ((try (refine drvZ Tryz.func126 ?_;simp only [go_sem,hn,List.take_length]));((with_reducible and_intros)<;>try exact sd))
          exact RetOb.plain (d:=DI .i64 _) (by rw [← hR];exact ⟨rfl,rfl⟩) rfl
      · simp only [go_sem,TmOK,DM,DMs,CM,CMs,forall_eq,exists_eq_left,Mq,HpOK,LowOK,List.take_zero,List.map_nil,List.foldl_nil]
        simp [hB]
theorem any_succ (f:Ex→Bool) (ks:List Ex) (i:Nat) (x:Ex) (h:ks[i]? = some x):(ks.take (i+1)).any f=((ks.take i).any f || f x):=by
  rw [List.take_add_one,h];simp
theorem secretS (p:Pg) (hl:p.vars.length≤mx) (hl2:p.arrays.length≤mx) (h1:lab3 p.vars) (h2:lab3 p.arrays):∀ (d:Nat) (e:Ex),shape p d e=true→DC Tryz.prog 158 [.agg p.cells,.agg e.cells] [] (fun r h=>r=DB (secE p.vars p.arrays d e)∧h=[]):=by
  have hmx:=mx_eq
  intro d
  induction d with
  | zero=>intro e h;simp [shape] at h
  | succ d ih =>
    intro e hsh
    have hlab:=labelS p hl hl2 h1 h2 d
    obtain ⟨k,v,ks⟩:=e
    obtain ⟨g1,g2,g3⟩:=shape_succ hsh
    obtain ⟨hl3,hla,hv0,hv1⟩:=fits_len g1
    obtain ⟨vs,ar,bd⟩:=p
    have h1:lab3 vs:=h1
    have h2:lab3 ar:=h2
    have hE:secE vs ar (d+1) (.mk k v ks)=((k == 3 && secL (labN vs ar d (kid0 ks))) || ks.any (secE vs ar d)):=rfl
    have ret:∀ (b:Bool) (hp:Hp),b=secE vs ar (d+1) (.mk k v ks)→RetOb 0 (fun r h=>r=DB (secE vs ar (d+1) (.mk k v ks))∧h=[]) (DB b) hp:=fun b hp h=>RetOb.plain (d:=DB _) ⟨by rw [h],rfl⟩ rfl
    simp only at ret ⊢
    generalize hR:(fun (r:D) (h:List (Option (List C)))=>r=DB (secE vs ar (d+1) (.mk k v ks))∧h=[])=R at ret ⊢
    rw [hE] at ret
    clear hE hR
    have hany:∀ i,i≤ks.length→(ks.take i).any (secE vs ar d)=true→ks.any (secE vs ar d)=true:=fun i _ h=>by
      obtain ⟨x,hx,hb⟩:=List.any_eq_true.1 h
      exact List.any_eq_true.2 ⟨x,List.mem_of_mem_take hx,hb⟩
    by_cases hk:k=3
    case' pos =>
      have e3:(k == 3)=true:=by simp [hk]
      have hk:=eq_true hk
      obtain ⟨⟨k0,v0,s0⟩,rfl⟩:∃ a,ks=[a]:=by
        have:ks.length=1:=by rw [of_eq_true hk] at hla;simp [arity] at hla;omega
        match ks,this with
        | [a],_=>exact ⟨a,rfl⟩
      have hla0:=hlab (.mk k0 v0 s0) (g2 _ (by simp))
      have hle:=labN_le h1 h2 d (.mk k0 v0 s0)
      rw [e3] at ret
      simp only [Bool.true_and,kid0] at ret
      generalize hl0:labN vs ar d (.mk k0 v0 s0)=l0 at *
      have hse:=labelSecretS l0 hle
      generalize hb0:secL l0=b0 at *
      generalize hks:[Ex.mk k0 v0 s0]=ks at *
      have hx0:ks[0]? = some (.mk k0 v0 s0):=by rw [← hks];rfl
      refine dcZ Tryz.func158 ?_
      simp only [go_sem]
      iterate 5 ((try (refine drvZ Tryz.func158 ?_;simp only [go_sem,hx0,hk,e3]));((with_reducible and_intros)<;>try exact sd);(try first | refine XK.p hla0 ok126 ?_ | refine XK.gp hla0 ok126 ?_ | refine XK.p hse ok125 ?_ | refine XK.gp hse ok125 ?_))
      · intro hbt;exact ret true _ (by rw [hbt];rfl)
      intro hbf
      rw [hbf]
    case' neg =>
      obtain ⟨b0,hb0⟩:∃ b:Bool,b=(k == 3 && secL (labN vs ar d (kid0 ks))):=⟨_,rfl⟩
      rw [← hb0] at ret
      have hbf:b0=false:=by rw [hb0];simp [hk]
      clear hb0
      have e3:(k == 3)=false:=by simp [hk]
      rcases hx0:ks[0]? with _ | ⟨k0,v0,s0⟩
      all_goals
        refine dcZ Tryz.func158 ?_
        simp only [go_sem]
        iterate 5 ((try (refine drvZ Tryz.func158 ?_;simp only [go_sem,hx0,hk,e3]));((with_reducible and_intros)<;>try exact sd);(try first | refine XK.gs (DB false) ?_ | refine XK.gs (DI .i64 0) ?_))
    all_goals
      rw [hbf] at ret
      simp only [Bool.false_or] at ret
      clear hk e3
      refine Go.loopQ (fun i : Nat => [(2, .c (.ptr 0 0)), (3, .c (.ptr 64 0)), (5, DI .i64 i)]) (fun i => [(0, some (Pg.cells ⟨vs, ar, bd⟩)), (64, some (Ex.cells (.mk k v ks)))])
        4096 (fun i=>i≤ks.length∧(ks.take i).any (secE vs ar d)=false) (fun i=>ks.length - i) ?_ 0 some [] _ ⟨Nat.zero_le _,rfl⟩ ?_
      · rintro i ⟨hi,hai⟩ again
        rcases Nat.lt_or_ge i ks.length with hlt | hge
        · obtain ⟨⟨k',v',ks'⟩,hx⟩:∃ x,ks[i]? = some x:=⟨ks[i],by simp [hlt]⟩
          have hsc:=any_succ (secE vs ar d) ks i _ hx
          have hi2:=ih (.mk k' v' ks') (g2 _ (List.mem_of_getElem? hx))
          have hay:=hany (i+1) hlt
          rw [hsc,hai,Bool.false_or] at hay
          rw [hai,Bool.false_or] at hsc
          simp only at hi2
          generalize hbi:secE vs ar d (.mk k' v' ks')=bi at *
          refine drvL Tryz.func158 ?_
          simp only [go_sem,hx,hlt]
          iterate 5 ((try (refine drvZ Tryz.func158 ?_;simp only [go_sem,hx,hlt]));((with_reducible and_intros)<;>try exact sd);(try first | refine XK.p hi2 ok158 ?_ | refine XK.gp hi2 ok158 ?_))
          · intro hbt;exact ret true _ (hay hbt).symm
          · intro hbt
            iterate 3 ((try (refine drvZ Tryz.func158 ?_;simp only [go_sem,hx,hlt]));((with_reducible and_intros)<;>try exact sd))
            refine again (i+1) some [] _ ⟨hlt,by rw [hsc,hbt]⟩ (by omega) ?_
            simp only [go_sem,TmOK,DM,DMs,CM,CMs,forall_eq,exists_eq_left,Mq,HpOK,LowOK]
            simp
        · have hn:¬ i<ks.length:=by omega
          obtain rfl:i=ks.length:=by omega
          rw [List.take_length] at hai
          refine drvL Tryz.func158 ?_
          simp only [go_sem,hn]
          iterate 3 ((try (refine drvZ Tryz.func158 ?_;simp only [go_sem,hn]));((with_reducible and_intros)<;>try exact sd))
          exact ret false _ hai.symm
      · simp only [go_sem,TmOK,DM,DMs,CM,CMs,forall_eq,exists_eq_left,Mq,HpOK,LowOK]
        simp
end Go.Proofs.YtoakidkcppinpaaGreat.CtR
