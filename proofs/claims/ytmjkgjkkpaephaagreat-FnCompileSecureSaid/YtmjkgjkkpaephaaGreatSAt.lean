/- Contracts of functions of the program, one behind the other, as plain data: what each call returns and which blocks it leaves. -/
import Derived.Test.YtmjkgjkkpaephaaGreatSFacts
import Derived.Test.YtmjkgjkkpaephaaGreatSAi
import Derived.Test.YtmjkgjkkpaephaaGreatSAj
import Derived.Test.YtmjkgjkkpaephaaGreatSAk
import Derived.Test.YtmjkgjkkpaephaaGreatSAl
import Derived.Test.YtmjkgjkkpaephaaGreatSAn
import Derived.Test.YtmjkgjkkpaephaaGreatSAo
import Derived.Test.YtmjkgjkkpaephaaGreatSAp
import Derived.Test.YtmjkgjkkpaephaaGreatSAq
import Derived.Test.YtmjkgjkkpaephaaGreatSAr
import Derived.Test.YtmjkgjkkpaephaaGreatSAs
import Derived.Test.YtmjkgjkkpaephaaGreatSAh
import Derived.Test.YtmjkgjkkpaephaaGreatSAm
set_option linter.unusedVariables false
set_option linter.unusedSimpArgs false
set_option maxHeartbeats 16000000
set_option maxRecDepth 100000
namespace Go.Proofs.YtmjkgjkkpaephaaGreat.CtD
open Go Go.CT CtF CtR
def inR (p:Pg) (r:D) (h:List (Option (List C))):Prop:=∃ (q:Pg) (ok:Bool),r = .tup [.agg q.cells,DB ok]∧h=[]∧(ok=true→Up p.vars q.vars∧Up p.arrays q.arrays∧q.body=p.body∧progOK p=true)
def roomL (l:List Int):Nat:=(l.map fun x=>(3 - x).toNat).sum
theorem room_le:∀ {l l':List Int},lab3 l→CtR.Up l l'→roomL l'≤roomL l∧(l ≠ l'→roomL l' < roomL l):=by
  intro l
  induction l with
  | nil=>intro l' _ h;have:=h.len;cases l' with
    | nil=>simp
    | cons a r=>simp at this
  | cons x r ih =>
    intro l' hl h
    have hlen:=h.len
    cases l' with
    | nil=>simp at hlen
    | cons y s =>
      have hx:=hl x (by simp)
      have hy:=h.lab y (by simp)
      have hxy:=h.le 0 x y rfl rfl
      have h2:CtR.Up r s:=⟨by simpa using hlen,fun z hz=>h.lab z (by simp [hz]),fun i a b ha hb=>h.le (i+1) a b (by simpa using ha) (by simpa using hb)⟩
      obtain ⟨g1,g2⟩:=ih (fun z hz=>hl z (by simp [hz])) h2
      have e:∀ (z:Int) (t:List Int),roomL (z :: t)=(3 - z).toNat+roomL t:=fun z t=>by simp [roomL]
      rw [e,e]
      refine ⟨by omega,fun hne=>?_⟩
      by_cases hxe:x=y
      · subst hxe
        have:=g2 (fun e=>hne (by rw [e]))
        omega
      · omega
theorem inferS (p:Pg) (hl:p.vars.length≤1000) (hl2:p.arrays.length≤1000) (hb:lsize 5 p.body≤1099511627776) (k:Nat) (hsm:∀ s ∈ p.body,SmS k s):DC Tryz.prog 85 [.agg p.cells] [] (inR p):=by
  have hmx:=mx_eq
  have hv:=programValidS p (by omega) (by omega) hb
  generalize hR:inR p=R
  cases hq:progOK p with
  | false =>
    rw [hq] at hv
    obtain ⟨vs,ar,bd⟩:=p
    refine dcZ Tryz.func85 ?_
    simp only [go_sem]
    iterate 4 ((try (refine drvZ Tryz.func85 ?_;simp only [go_sem]));((with_reducible and_intros)<;>try exact sd);(try first | refine XK.p hv ok97 ?_ | refine XK.gp hv ok97 ?_))
    refine RetOb.ofQ (fun _=>none) [] (.tup [.agg (Pg.cells ⟨[],[],[]⟩),DB false]) [] ?_ (by rw [← hR];exact ⟨_,false,rfl,rfl,fun h=>by cases h⟩) (by simp)
    simp [enumL,DM,DMs,CM,CMs,HpOK,LowOK,Pg.cells,isI,St1.cellsL]
  | true =>
    rw [hq] at hv
    have hlab:=labs_of hq
    have hbo:=body_of hq
    have hbl:p.body.length≤60:=by have h2:lsize 5 p.body=_:=lsize_subs 4 p.body;have:=hbo.2;omega
    have hcp:=fun vs ar h1 h2=>l2Copy ⟨vs,ar,p.body⟩ k h1 h2 (show p.body.length≤1000 by omega) hsm
    have hra:=fun vs ar=>raise p p.body hl hl2 5 p.body vs ar 0
    have hsa:=fun vs vs' ar ar' h1 h2=>programSameS p vs vs' ar ar' p.body h1 h2 hbo.1 (by have:=hbo.2;omega)
    have hcf:=fun vs ar h1 h2=>checkFlowS ⟨vs,ar,p.body⟩ h1 h2 (show lsize 5 p.body≤1099511627776 by omega)
    have hbk:=hbo.1
    have hbs:=hbo.2
    obtain ⟨vs,ar,bd⟩:=p
    simp only at hcp hra hsa hcf hl hl2 hlab hbl hbk hbs
    have hc0:=hcp vs ar hl hl2
    try simp only at hc0
    refine dcZ Tryz.func85 ?_
    simp only [go_sem]
    iterate 4 ((try (refine drvZ Tryz.func85 ?_;simp only [go_sem]));((with_reducible and_intros)<;>try exact sd);(try first | refine XK.p hv ok97 ?_ | refine XK.gp hv ok97 ?_))
    refine XK.callG [] hc0 ok80 (fun i' x h=>by simp at h) (hbT ()) (fun d h' ⟨_,e⟩=>by subst e;simp) ?_
    rintro _ _ ⟨rfl,rfl⟩ _
    iterate 4 ((try (refine drvZ Tryz.func85 ?_;simp only [go_sem,renCs_I,renCs_stC]));((with_reducible and_intros)<;>try exact sd))
    have hstl:bd.map St1.cells=St1.cellsL bd:=(St1.cellsL_eq bd).symm
    have hfl:(St1.cellsL bd).flatten=stC bd:=by rw [St1.cellsL_eq];rfl
    have hbz:∀ x ∈ St1.cellsL bd,x.length=11:=fun x hx=>by
      rw [St1.cellsL_eq] at hx
      obtain ⟨s,_,rfl⟩:=List.mem_map.1 hx
      obtain ⟨k,t,⟨ik,iv,iks⟩,⟨vk,vv,vks⟩,cc,b,e⟩:=s
      rfl
    have hbkf:∀ x ∈ St1.cellsL bd,∀ c ∈ x,kf c=true:=fun x hx=>by
      rw [St1.cellsL_eq] at hx
      obtain ⟨s,_,rfl⟩:=List.mem_map.1 hx
      exact st_kf s
    have hcl:bd.length=(St1.cellsL bd).length:=(St1.cellsL_length bd).symm
    refine Go.loopQ (fun σ : List Int × List Int => [(2, .c (.ptr 64 0)), (3, DB false), (4, .c (.ptr 512 0))])
      (fun σ=>[(64,some [.v (.slice none 0 0),.v (.slice none 0 0),.v (.slice none 0 0)]),(512,some (Pg.cells ⟨σ.1,σ.2,bd⟩))]) 4096 (fun σ=>CtR.Up vs σ.1∧CtR.Up ar σ.2) (fun σ=>roomL σ.1+roomL σ.2) ?_ (vs,ar) some [448,449,450] _ ⟨.refl hlab.1,.refl hlab.2⟩ ?_
    · rintro ⟨xs,ys⟩ ⟨hux,huy⟩ again
      simp only at hux huy
      have hxl:=hux.len
      have hyl:=huy.len
      have hc1:=hcp xs ys (by omega) (by omega)
      try simp only at hc1
      have hr1:=hra xs ys hxl hyl hux.lab huy.lab (by decide) hbk (by omega) (fun _ _=>by omega)
      refine drvL Tryz.func85 ?_
      simp only [go_sem]
      iterate 2 ((try (refine drvZ Tryz.func85 ?_;simp only [go_sem]));((with_reducible and_intros)<;>try exact sd))
      refine XK.callG [] hc1 ok80 (fun i' x h=>by simp at h) (hbT ()) (fun d h' ⟨_,e⟩=>by subst e;simp) ?_
      rintro _ _ ⟨rfl,rfl⟩ _
      iterate 1 ((try (refine drvZ Tryz.func85 ?_;simp only [go_sem,renCs_I,renCs_stC]));((with_reducible and_intros)<;>try exact sd))
      refine XK.subQ (r := some) (fz := [4162]) (tl := [(2, .c (.ptr 64 0)), (3, DB false), (4, .c (.ptr 512 0)), (5, .c (.ptr 4224 0)), (16, .agg [.msl 4160 1 0 xs.length, .msl 4161 1 0 ys.length, .isl 11 (St1.cellsL bd)]), (18, .c (.isl 11 (St1.cellsL bd)))])
        (hl:=[(64,some [.v (.slice none 0 0),.v (.slice none 0 0),.v (.slice none 0 0)]),(512,some (Pg.cells ⟨xs,ys,bd⟩)),(4224,some [.msl 4160 1 0 xs.length,.msl 4161 1 0 ys.length,.isl 11 (St1.cellsL bd)]),(4160,some (xs.map I64)),(4161,some (ys.map I64))]) ?_ ?_
      · simp only [go_sem,TmOK,DM,DMs,CM,CMs,forall_eq,exists_eq_left,Mq,HpOK,LowOK]
        simp [CMs_I,flat_I',flat_I,hfl,hcl,kf]
        exact ⟨hbz,hbkf⟩
      refine XK.callG [4160,4161] hr1 ok124 (hhpG (by simp [HH,upd,hOf,renCs_I])) (hbT ()) (fun d h' ⟨_,_,_,_,_,e⟩=>by subst e;simp) ?_
      rintro _ _ ⟨xs2,ys2,rfl,u1,u2,rfl⟩ _
      have hxl2:=u1.len
      have hyl2:=u2.len
      refine XK.subQ (r:=some) (fz:=[4160,4161]) (tl:=[(2,.c (.ptr 64 0)),(3,DB false),(4,.c (.ptr 512 0)),(5,.c (.ptr 4224 0))]) (hl:=[(64,some [.v (.slice none 0 0),.v (.slice none 0 0),.v (.slice none 0 0)]),(512,some (Pg.cells ⟨xs,ys,bd⟩)),(4224,some (Pg.cells ⟨xs2,ys2,bd⟩))]) ?_ ?_
      · simp only [go_sem,TmOK,DM,DMs,CM,CMs,forall_eq,exists_eq_left,Mq,HpOK,LowOK]
        simp [CMs_I,flat_I',flat_I,kf,hxl2,hyl2,upd,renCs_I]
      have hs2:=hsa xs2 xs ys2 ys (by omega) (by omega)
      have hr1:=room_le hux.lab u1
      have hr2:=room_le huy.lab u2
      have hcfx:=hcf xs ys (by omega) (by omega)
      generalize hB:(decide (xs2=xs) && decide (ys2=ys))=B at *
      cases B with
      | false =>
        iterate 5 ((try (refine drvZ Tryz.func85 ?_;simp only [go_sem]));((with_reducible and_intros)<;>try exact sd);(try first | refine XK.p hs2 ok125 ?_ | refine XK.gp hs2 ok125 ?_))
        refine again (xs2,ys2) some [] _ ⟨hux.trans u1,huy.trans u2⟩ ?_ ?_
        · show roomL xs2+roomL ys2<roomL xs+roomL ys
          by_cases e1:xs=xs2
          · by_cases e2:ys=ys2
            · subst e1 e2;simp at hB
            · have:=hr2.2 e2;omega
          · have:=hr1.2 e1;omega
        · simp only [go_sem,TmOK,DM,DMs,CM,CMs,forall_eq,exists_eq_left,Mq,HpOK,LowOK]
          simp
      | true =>
        generalize hc:chkR flowR ⟨xs,ys,bd⟩=x at *
        obtain ⟨code,at_⟩:=x
        by_cases hz:code=0
        · subst hz
          iterate 9 ((try (refine drvZ Tryz.func85 ?_;simp only [go_sem,bne_self_eq_false]));((with_reducible and_intros)<;>try exact sd);(try first | refine XK.p hs2 ok125 ?_ | refine XK.gp hs2 ok125 ?_ | refine XK.p hcfx ok95 ?_ | refine XK.gp hcfx ok95 ?_))
          refine RetOb.ofQ (fun _=>none) [] (.tup [.agg (Pg.cells ⟨xs,ys,bd⟩),DB true]) [] ?_ (by rw [← hR];exact ⟨⟨xs,ys,bd⟩,true,rfl,rfl,fun _=>⟨hux,huy,rfl,hq⟩⟩) (by simp)
          simp [enumL,DM,DMs,CM,CMs,HpOK,LowOK,Pg.cells,isI]
        · have g1:(code=0)=False:=eq_false hz
          have g2:(code != 0)=true:=by simp [hz]
          iterate 9 ((try (refine drvZ Tryz.func85 ?_;simp only [go_sem,g1,g2]));((with_reducible and_intros)<;>try exact sd);(try first | refine XK.p hs2 ok125 ?_ | refine XK.gp hs2 ok125 ?_ | refine XK.p hcfx ok95 ?_ | refine XK.gp hcfx ok95 ?_))
          refine RetOb.ofQ (fun _=>none) [] (.tup [.agg (Pg.cells ⟨[],[],[]⟩),DB false]) [] ?_ (by rw [← hR];exact ⟨_,false,rfl,rfl,fun h=>by cases h⟩) (by simp)
          simp [enumL,DM,DMs,CM,CMs,HpOK,LowOK,Pg.cells,isI,St1.cellsL]
    · simp only [go_sem,TmOK,DM,DMs,CM,CMs,forall_eq,exists_eq_left,Mq,HpOK,LowOK]
      simp [CMs_I,flat_I',flat_I,hfl,hcl,kf]
      try exact ⟨hbz,hbkf⟩
theorem stmtOK_len {p q:Pg} (h1:q.vars.length=p.vars.length) (h2:q.arrays.length=p.arrays.length):∀ (d:Nat) (s:St1),stmtOK q d s=stmtOK p d s:=by
  have hsh:∀ (d:Nat) (e:Ex),CtR.shape q d e=CtR.shape p d e:=by
    have hlim:∀ k,limit q k=limit p k:=fun k=>by simp only [limit,h1,h2]
    intro d
    induction d with
    | zero=>intro e;rfl
    | succ d ih =>
      intro e
      obtain ⟨k,v,ks⟩:=e
      have he:CtR.shape q d=CtR.shape p d:=funext ih
      simp only [CtR.shape,fitsE,hlim,he]
  have hr:∀ e,right q e=right p e:=fun e=>by simp only [right,hsh]
  intro d
  induction d with
  | zero=>intro s;rfl
  | succ d ih =>
    intro s
    obtain ⟨k,t,ix,v,c,b,e⟩:=s
    have h3:∀ l:List St1,l.all (stmtOK q d)=l.all (stmtOK p d):=fun l=>by congr 1;funext s;exact ih s
    simp only [stmtOK,headOK,hr,h1,h2,h3]
theorem DrP.up {p q:Pg} (h:DrP p) (h1:CtR.Up p.vars q.vars) (h2:CtR.Up p.arrays q.arrays) (h3:q.body=p.body):DrP q:=by
  refine ⟨?_,by rw [h1.len];exact h.nv,by rw [h2.len];exact h.na,by rw [h3];exact h.nb,by rw [h3];exact h.sm⟩
  have hok:=h.ok
  simp only [progOK,headsOK,Bool.and_eq_true,decide_eq_true_eq] at hok ⊢
  have hst:(stmtOK q 5)=stmtOK p 5:=funext fun s=>stmtOK_len h1.len h2.len 5 s
  refine ⟨⟨?_,by rw [h3,hst];exact hok.1.2⟩,by rw [h3];exact hok.2⟩
  have hl:∀ l:List Int,lab3 l→labs l=true:=fun l hl=>by
    simp only [labs,List.all_eq_true,Bool.and_eq_true,decide_eq_true_eq]
    exact hl
  obtain ⟨⟨⟨⟨g1,g2⟩,g3⟩,g4⟩,g5⟩:=hok.1.1
  rw [h1.len,h2.len]
  exact ⟨⟨⟨⟨g1,g2⟩,g3⟩,hl _ h1.lab⟩,hl _ h2.lab⟩
def tyR (bs:List Int) (n:Nat) (r:D) (h:List (Option (List C))):Prop:=∃ p:Pg,r = .agg p.cells∧DrP p∧rdL bs n 1000001 h
theorem typed (bs:List Int) (n:Nat) (hb:Fits .u8 bs) (hl:bs.length≤2000) (hn:n≤274000000000):DC Tryz.prog 46 [.c (.ptr 0 0)] [some (rdr bs n)] (tyR bs n):=by
  have hmx:=mx_eq
  have hpr:=l2Program bs n hb hl (by omega)
  generalize hR:tyR bs n=R
  have fin:∀ (p:Pg) (n':Nat) (hp:Hp),DrP p→n≤n'→n'≤n+1000001→hp 0=some (some (rdr bs n'))→RetOb 1 R (.agg p.cells) hp:=fun p n' hp h1 h2 h3 h4=>by
    refine RetOb.keep1 (d := .agg p.cells) (cs:=rdr bs n') (by rw [← hR];exact ⟨p,rfl,h1,n',h2,h3,rfl⟩) h4 (rdr_kf _ _) ?_
    intro c hc
    simp only [Pg.cells,isI,List.mem_cons,List.not_mem_nil,or_false] at hc
    rcases hc with rfl | rfl | rfl<;>rfl
  refine dcZ Tryz.func46 ?_
  simp only [go_sem,rdr]
  refine XK.callG [0] hpr ok84 (hhp_one rfl) (hbT ()) (fun d h' ⟨_,_,_,_,_,_,e⟩=>by subst e;simp) ?_
  rintro _ _ ⟨p,rfl,hp,n1,hn1,hn2,rfl⟩ _
  have hln:=prog_len hp.ok
  have hin:=inferS p (by omega) (by omega) (by have:=(body_of hp.ok).2;omega) 2 hp.sm
  obtain ⟨vs,ar,bd⟩:=p
  iterate 2 ((try (refine drvZ Tryz.func46 ?_;simp only [go_sem,renCs_rdr]));((with_reducible and_intros)<;>try exact sd))
  refine XK.callG [0] (pick bs n1 4 hb hl (by omega) (by simp only [InK];omega)) ok81 (hhp_one (by simp [upd,renCs_rdr])) (hbT ()) (fun d h' ⟨v,_,_,e⟩=>by subst e;simp) ?_
  rintro _ _ ⟨v,rfl,hpv,rfl⟩ _
  by_cases hv:v=0
  · subst hv
    iterate 4 ((try (refine drvZ Tryz.func46 ?_;simp only [go_sem,renCs_rdr]));((with_reducible and_intros)<;>try exact sd))
    exact fin ⟨vs,ar,bd⟩ (n1+1) _ hp (by omega) (by omega) rfl
  · have g1:(v=0)=False:=eq_false hv
    have g2:(v == 0)=false:=by simp [hv]
    iterate 4 ((try (refine drvZ Tryz.func46 ?_;simp only [go_sem,renCs_rdr,g1,g2]));((with_reducible and_intros)<;>try exact sd))
    refine XK.callG [] hin ok85 (fun i' x h=>by simp at h) (hbT ()) (fun d h' ⟨_,_,_,e,_⟩=>by subst e;simp) ?_
    rintro _ _ ⟨q,ok,rfl,rfl,hq⟩ _
    cases ok with
    | false =>
      obtain ⟨vs2,ar2,bd2⟩:=q
      iterate 5 ((try (refine drvZ Tryz.func46 ?_;simp only [go_sem,renCs_rdr]));((with_reducible and_intros)<;>try exact sd))
      exact fin ⟨vs,ar,bd⟩ (n1+1) _ hp (by omega) (by omega) rfl
    | true =>
      obtain ⟨g3,g4,g5,_⟩:=hq rfl
      have hp2:=hp.up g3 g4 g5
      obtain ⟨vs2,ar2,bd2⟩:=q
      iterate 5 ((try (refine drvZ Tryz.func46 ?_;simp only [go_sem,renCs_rdr]));((with_reducible and_intros)<;>try exact sd))
      exact fin ⟨vs2,ar2,bd2⟩ (n1+1) _ hp2 (by omega) (by omega) rfl
structure LowV {α : Type} (β : Nat) (ls : List Int) (a a' : List α) : Prop where
  len:a'.length=a.length
  eq:∀ (j:Nat) (x:Int),ls[j]? = some x→x.toNat.testBit β=false→a[j]? = a'[j]?
theorem LowV.refl {α:Type} (β:Nat) (ls:List Int) (a:List α):LowV β ls a a:=⟨rfl,fun _ _ _ _=>rfl⟩
theorem LowV.set {α:Type} {β:Nat} {ls:List Int} {a a':List α} (h:LowV β ls a a') {i:Nat} {x:Int} (hx:ls[i]? = some x) (hb:x.toNat.testBit β=true) (v:α):LowV β ls a (a'.set i v) :=
  ⟨by rw [List.length_set,h.len],fun j y hy hf=>by
    rw [List.getElem?_set]
    by_cases e:i=j
    · subst e;rw [hx] at hy;cases hy;rw [hb] at hf;cases hf
    · rw [if_neg e];exact h.eq j y hy hf⟩
theorem rng_set {l:List Int} (h:∀ y ∈ l,0≤y∧y≤255) {i:Nat} {v:Int} (hv:0≤v∧v≤255):∀ y ∈ l.set i v,0≤y∧y≤255:=fun y hy=>by
  rcases List.mem_or_eq_of_mem_set hy with h1 | rfl
  · exact h y h1
  · exact hv
def seR (β:Nat) (p:Pg) (m:Mm) (bs:List Int) (n:Nat) (r:D) (h:List (Option (List C))):Prop:=∃ m':Mm,r = .agg m'.cells∧MemFits p m'∧LowM β p m m'∧rdL bs n 30 h
theorem bitB {β:Nat} {bit:Int} (hβ:(β=0∧bit=1)∨(β=1∧bit=2)) {T:Nat} (hT:T≤3):∃ b:Bool,T.testBit β=b∧((andZ .i64 (T:Int) bit=0)=(b=false))∧((andZ .i64 (T:Int) bit != 0)=b):=by
  rcases hβ with ⟨rfl,rfl⟩ | ⟨rfl,rfl⟩
  · rw [andZ_1]
    rcases le3 hT with rfl | rfl | rfl | rfl<;>refine ⟨_,rfl,?_,?_⟩<;>decide
  · rw [andZ_2]
    rcases le3 hT with rfl | rfl | rfl | rfl<;>refine ⟨_,rfl,?_,?_⟩<;>decide
theorem secrets (bs : List Int) (n : Nat) (p : Pg) (m : Mm) (hb : Fits .u8 bs) (hl : bs.length ≤ 2000) (hn : n ≤ 274877906944) (hm : MemFits p m) (h1 : lab3 p.vars) (h2 : lab3 p.arrays) (β : Nat) (bit : Int) (hβ : (β = 0 ∧ bit = 1) ∨ (β = 1 ∧ bit = 2)) :
    DC Tryz.prog 48 [.c (.ptr 0 0),.agg p.cells,.agg m.cells,DI .i64 bit] [some (rdr bs n)] (seR β p m bs n):=by
  have hmx:=mx_eq
  have hval:=fun n h=>l3Value bs n hb hl h
  have hcp:=l3Copy m (by have:=hm.nv;have:=hm.nv12;omega) (by have:=hm.na;have:=hm.na2;omega) (fun a h=>(hm.arr a h).1)
  have hbv:∀ x:Int,0≤x∧x≤3→∃ T:Nat,T≤3∧x=(T:Int):=fun x hx=>⟨x.toNat,by omega,by omega⟩
  have hbit0:0≤bit∧bit≤2:=by omega
  generalize hR:seR β p m bs n=R
  unfold memB at hcp
  have hnv:=hm.nv
  have hna:=hm.na
  have hnv12:=hm.nv12
  have hna2:=hm.na2
  have hva:=hm.val
  have har:=hm.arr
  obtain ⟨vs,ar,bd⟩:=p
  obtain ⟨va,arr⟩:=m
  simp only at hnv hna hnv12 hna2 hva har h1 h2
  refine dcZ Tryz.func48 ?_
  simp only [go_sem,Mm.cells,rdr]
  ((try (refine drvZ Tryz.func48 ?_;simp only [go_sem,Mm.cells,rdr]));((with_reducible and_intros)<;>try exact sd))
  refine XK.callG [] hcp ok87 (fun i' x h=>by simp at h) (hbT ()) (fun d h' ⟨_,e⟩=>by subst e;simp) ?_
  rintro _ _ ⟨rfl,rfl⟩ _
  iterate 3 ((try (refine drvZ Tryz.func48 ?_;simp only [go_sem,renCs_I,renCs_hdr,renCs_b0,renCs_b1,rdr]));((with_reducible and_intros)<;>try exact sd))
  refine Go.loopQ (fun x : Nat × Nat × List Int => [(0, .c (.ptr 0 0)), (3, DI .i64 bit), (5, .c (.ptr 1 0)), (8, .c (.ptr 129 0)), (9, .c (.ptr 321 0)), (10, DI .i64 x.1)])
    (fun x=>[(0,some (rdr bs x.2.1)),(1,some (Pg.cells ⟨vs,ar,bd⟩)),(129,some [.v (.slice none 0 0),.v (.slice none 0 0)]),(257,some (x.2.2.map I64)),(258,some (hdr 259 260 arr.length)),(259,some (blk0 arr)),(260,some (blk1 arr)),(321,some [.msl 257 1 0 va.length,.msl 258 1 0 arr.length])])
    4096 (fun x=>x.1≤vs.length∧n≤x.2.1∧x.2.1≤n+x.1∧(∀ y ∈ x.2.2,0≤y∧y≤255)∧LowV β vs va x.2.2) (fun x=>vs.length - x.1) ?_ (0,n,va) some [] _ ⟨Nat.zero_le _,Nat.le_refl _,Nat.le_refl _,hva,.refl _ _ _⟩ ?_
  · rintro ⟨i,pos,S⟩ ⟨hi1,hi2,hi3,hi4,hi5⟩ again
    simp only at hi1 hi2 hi3 hi4 hi5
    have hSl:=hi5.len
    rcases Nat.lt_or_ge i vs.length with hlt | hge
    · obtain ⟨x,hx⟩:∃ x,vs[i]? = some x:=⟨vs[i],by simp [hlt]⟩
      obtain ⟨T,hT,rfl⟩:=hbv x (h1 x (List.mem_of_getElem? hx))
      have hlt2:i<va.length:=by omega
      obtain ⟨bb,hb1,hb2,hb3⟩:=bitB hβ hT
      cases bb with
      | false =>
        refine drvL Tryz.func48 ?_
        simp only [go_sem,rdr,hlt,hlt2]
        iterate 5 ((try (refine drvZ Tryz.func48 ?_;simp only [go_sem,rdr,hlt,hlt2,hx,hb2,hb3]));((with_reducible and_intros)<;>try exact sd))
        refine again (i+1,pos,S) some [] _ ⟨hlt,hi2,(show pos≤n+(i+1) by omega),hi4,hi5⟩ (show vs.length - (i+1)<vs.length - i by omega) ?_
        simp only [go_sem,TmOK,DM,DMs,CM,CMs,forall_eq,exists_eq_left,Mq,HpOK,LowOK,rdr]
        simp [CMs_I,CMs_hdr,CMs_b0,CMs_b1,upd]
      | true =>
        refine drvL Tryz.func48 ?_
        simp only [go_sem,rdr,hlt,hlt2]
        iterate 5 ((try (refine drvZ Tryz.func48 ?_;simp only [go_sem,rdr,hlt,hlt2,hx,hb2,hb3]));((with_reducible and_intros)<;>try exact sd))
        refine XK.callG [0] (hval pos (by omega)) ok86 (hhp_one rfl) (hbT ()) (fun d h' ⟨_,_,_,_,_,_,e⟩=>by subst e;simp) ?_ (fun _=>⟨by kernel_rfl,_,_,⟨0,rfl,by omega,pos,by omega,by omega,rfl⟩,by simp⟩)
        rintro _ _ ⟨v,rfl,hv,pos',hp1,hp3,rfl⟩ _
        iterate 5 ((try (refine drvZ Tryz.func48 ?_;simp only [go_sem,rdr,hlt,hlt2]));((with_reducible and_intros)<;>try exact sd))
        refine again (i+1,pos',S.set i v) some [] _ ⟨hlt,(show n≤pos' by omega),(show pos'≤n+(i+1) by omega),rng_set hi4 hv,hi5.set hx (by simpa using hb1) v⟩ (show vs.length - (i+1)<vs.length - i by omega) ?_
        simp only [go_sem,TmOK,DM,DMs,CM,CMs,forall_eq,exists_eq_left,Mq,HpOK,LowOK,rdr]
        simp [CMs_I,CMs_hdr,CMs_b0,CMs_b1,upd]
        try exact CMs.kf (by rw [← List.map_set];exact kf_I _)
    · have hn1:¬ i<va.length:=by omega
      have hn2:¬ i<vs.length:=by omega
      have z00:((0:Int)<0)=False:=eq_false (by omega)
      have z01:((0:Int)<1)=True:=eq_true (by omega)
      have z02:((0:Int)<2)=True:=eq_true (by omega)
      have z12:((1:Int)<2)=True:=eq_true (by omega)
      have z11:((1:Int)<1)=False:=eq_false (by omega)
      have z22:((2:Int)<2)=False:=eq_false (by omega)
      clear again
      have fin:∀ (A:List (List Int)) (ps:Nat) (hp:Hp),A.length=arr.length→pos≤ps→ps≤pos+8→LowV β ar arr A→(∀ a ∈ A,a.length=4∧∀ y ∈ a,0≤y∧y≤255)→hp 0=some (some (rdr bs ps))→hp 257=some (some (S.map I64))→hp 258=some (some (hdr 259 260 arr.length))→hp 259=some (some (blk0 A))→hp 260=some (some (blk1 A)) →
          RetOb 1 R (.agg [.msl 257 1 0 va.length,.msl 258 1 0 arr.length]) hp:=fun A ps hp e1 e2 e3 e4 e5 g0 g1 g2 g3 g4 =>
        RetOb.memK (m:=⟨S,A⟩) (k2:=259) (k3:=260) (by simp only;omega) (by
          rw [← hR]
          exact ⟨⟨S,A⟩,rfl,⟨by simp only;omega,by simp only;omega,hnv12,hna2,hi4,e5⟩,⟨by simp only;omega,by simp only;omega,hi5.eq,e4.eq⟩,ps,by omega,by omega,rfl⟩) (rdr_kf bs ps) g0 g1 (by rw [g2,← e1,hdr_hdA _ _ _ (by omega) (fun a h=>(e5 a h).1)]) g3 g4 (by simp only;omega) (by simp only;omega) (by decide)
      refine drvL Tryz.func48 ?_
      simp only [go_sem,rdr,hn1,hn2]
      iterate 3 ((try (refine drvZ Tryz.func48 ?_;simp only [go_sem,rdr,hn1,hn2]));((with_reducible and_intros)<;>try exact sd))
      rcases arr with _ | ⟨a,_ | ⟨b,_ | ⟨c,r⟩⟩⟩<;>rcases ar with _ | ⟨l,_ | ⟨l',_ | ⟨l3,r2⟩⟩⟩<;>simp only [List.length_cons,List.length_nil] at hna hna2<;>(try (exfalso;omega))
      · refine Go.loop ?_
        refine drvL Tryz.func48 ?_
        simp only [go_sem,rdr,List.getElem?_cons_zero,List.getElem?_cons_succ,Int.natCast_zero,z01,z02,z12,z11,z22,z00]
        iterate 3 ((try (refine drvZ Tryz.func48 ?_;simp only [go_sem,rdr,List.getElem?_cons_zero,List.getElem?_cons_succ,Int.natCast_zero,z01,z02,z12,z11,z22,z00]));((with_reducible and_intros)<;>try exact sd))
        exact fin [] pos _ rfl (by omega) (by omega) (.refl _ _ _) (by simp) rfl rfl rfl rfl rfl
      · obtain ⟨T0,hT0,rfl⟩:=hbv l (h2 l (by simp))
        have hT0x:([((T0:Nat):Int)]:List Int)[0]? = some (T0:Int):=rfl
        have h4a:=har a (by simp)
        have hb0:blk0 [a]=a.map I64:=rfl
        have hb1:blk1 [a]=[]:=rfl
        have hh1:hdr 259 260 1=[.msl 259 1 0 4]:=rfl
        obtain ⟨pos0,hpos0⟩:∃ p,p=pos:=⟨pos,rfl⟩
        subst hpos0
        refine Go.loop ?_
        refine drvL Tryz.func48 ?_
        simp only [go_sem,rdr,hb0,hb1,hh1,List.getElem?_cons_zero,List.getElem?_cons_succ,Int.natCast_zero,z01,z02,z12,z11,z22,z00]
        iterate 3 ((try (refine drvZ Tryz.func48 ?_;simp only [go_sem,rdr,hb0,hb1,hh1,List.getElem?_cons_zero,List.getElem?_cons_succ,Int.natCast_zero,z01,z02,z12,z11,z22,z00]));((with_reducible and_intros)<;>try exact sd))
        refine Go.loopQ (fun x : Nat × Nat × List Int => [(0, .c (.ptr 0 0)), (3, DI .i64 bit), (5, .c (.ptr 1 0)), (8, .c (.ptr 129 0)), (9, .c (.ptr 321 0)), (11, DI .i64 0), (12, DI .i64 x.1)])
          (fun x=>[(0,some (rdr bs x.2.1)),(1,some (Pg.cells ⟨vs,[(T0:Int)],bd⟩)),(129,some [.v (.slice none 0 0),.v (.slice none 0 0)]),(257,some (S.map I64)),(258,some ([.msl 259 1 0 4])),(259,some (x.2.2.map I64)),(260,some ([])),(321,some [.msl 257 1 0 va.length,.msl 258 1 0 1])])
          8192 (fun x=>x.1≤4∧pos0≤x.2.1∧x.2.1≤pos0+x.1∧x.2.2.length=4∧(∀ y ∈ x.2.2,0≤y∧y≤255)∧(T0.testBit β=false→x.2.2=a)) (fun x=>4 - x.1) ?_ (0,pos0,a) some [] _ ⟨Nat.zero_le _,Nat.le_refl _,Nat.le_refl _,h4a.1,h4a.2,fun _=>rfl⟩ ?_
        · rintro ⟨k,ps,c⟩ ⟨hk1,hk2,hk3,hk4,hk5,hk6⟩ again
          simp only at hk1 hk2 hk3 hk4 hk5 hk6
          rcases Nat.lt_or_ge k 4 with hlt | hge
          · have hz:((k:Int)<4)=True:=eq_true (by omega)
            obtain ⟨bb,hb1,hb2,hb3⟩:=bitB hβ hT0
            cases bb with
            | false =>
              refine drvL Tryz.func48 ?_
              simp only [go_sem,rdr,hz,List.getElem?_cons_zero,List.getElem?_cons_succ,Int.natCast_zero,z01,z02,z12,z11,z22,z00]
              iterate 5 ((try (refine drvZ Tryz.func48 ?_;simp only [go_sem,rdr,hz,hT0x,hb2,hb3,List.getElem?_cons_zero,List.getElem?_cons_succ,Int.natCast_zero,z01,z02,z12,z11,z22,z00]));((with_reducible and_intros)<;>try exact sd))
              refine again (k+1,ps,c) some [] _ ⟨hlt,hk2,(show ps≤pos0+(k+1) by omega),hk4,hk5,hk6⟩ (show 4 - (k+1)<4 - k by omega) ?_
              simp only [go_sem,TmOK,DM,DMs,CM,CMs,forall_eq,exists_eq_left,Mq,HpOK,LowOK,rdr]
              simp [CMs_I,CMs_hdr,CMs_b0,CMs_b1,upd]
            | true =>
              refine drvL Tryz.func48 ?_
              simp only [go_sem,rdr,hz,List.getElem?_cons_zero,List.getElem?_cons_succ,Int.natCast_zero,z01,z02,z12,z11,z22,z00]
              iterate 5 ((try (refine drvZ Tryz.func48 ?_;simp only [go_sem,rdr,hz,hT0x,hb2,hb3,List.getElem?_cons_zero,List.getElem?_cons_succ,Int.natCast_zero,z01,z02,z12,z11,z22,z00]));((with_reducible and_intros)<;>try exact sd))
              refine XK.callG [0] (hval ps (by omega)) ok86 (hhp_one rfl) (hbT ()) (fun d h' ⟨_,_,_,_,_,_,e⟩=>by subst e;simp) ?_ (fun _=>⟨by kernel_rfl,_,_,⟨0,rfl,by omega,ps,by omega,by omega,rfl⟩,by simp⟩)
              rintro _ _ ⟨v,rfl,hv,ps',hp1,hp3,rfl⟩ _
              iterate 5 ((try (refine drvZ Tryz.func48 ?_;simp only [go_sem,rdr,hz,List.getElem?_cons_zero,List.getElem?_cons_succ,Int.natCast_zero,z01,z02,z12,z11,z22,z00,hk4]));((with_reducible and_intros)<;>try exact sd))
              refine again (k+1,ps',c.set k v) some [] _ ⟨hlt,(show pos0≤ps' by omega),(show ps'≤pos0+(k+1) by omega),by rw [List.length_set];exact hk4,rng_set hk5 hv,fun h=>by rw [hb1] at h;cases h⟩ (show 4 - (k+1)<4 - k by omega) ?_
              simp only [go_sem,TmOK,DM,DMs,CM,CMs,forall_eq,exists_eq_left,Mq,HpOK,LowOK,rdr]
              simp [CMs_I,CMs_hdr,CMs_b0,CMs_b1,upd]
              try exact CMs.kf (by rw [← List.map_set];exact kf_I _)
          · have hz:((k:Int)<4)=False:=eq_false (by omega)
            clear again
            refine drvL Tryz.func48 ?_
            simp only [go_sem,rdr,hz,List.getElem?_cons_zero,List.getElem?_cons_succ,Int.natCast_zero,z01,z02,z12,z11,z22,z00]
            iterate 3 ((try (refine drvZ Tryz.func48 ?_;simp only [go_sem,rdr,hz,List.getElem?_cons_zero,List.getElem?_cons_succ,Int.natCast_zero,z01,z02,z12,z11,z22,z00]));((with_reducible and_intros)<;>try exact sd))
            refine Go.inLoop ?_
            refine drvL Tryz.func48 ?_
            simp only [go_sem,rdr,List.getElem?_cons_zero,List.getElem?_cons_succ,Int.natCast_zero,z01,z02,z12,z11,z22,z00]
            iterate 3 ((try (refine drvZ Tryz.func48 ?_;simp only [go_sem,rdr,List.getElem?_cons_zero,List.getElem?_cons_succ,Int.natCast_zero,z01,z02,z12,z11,z22,z00]));((with_reducible and_intros)<;>try exact sd))
            exact fin [c] ps _ (by simp) (by omega) (by omega) ⟨rfl,fun j x hj hf=>by
              match j,hj with
              | 0,hj=>simp only [List.getElem?_cons_zero,Option.some.injEq] at hj;subst hj;simp [hk6 (by simpa using hf)]
              | j+1,hj=>simp at hj⟩ (by simpa using ⟨hk4,hk5⟩) rfl rfl rfl rfl rfl
        · simp only [go_sem,TmOK,DM,DMs,CM,CMs,forall_eq,exists_eq_left,Mq,HpOK,LowOK,rdr]
          simp [CMs_I,CMs_hdr,CMs_b0,CMs_b1,upd]
      · obtain ⟨T0,hT0,rfl⟩:=hbv l (h2 l (by simp))
        obtain ⟨T1,hT1,rfl⟩:=hbv l' (h2 l' (by simp))
        have hT0x:([((T0:Nat):Int),((T1:Nat):Int)]:List Int)[0]? = some (T0:Int):=rfl
        have hT1x:([((T0:Nat):Int),((T1:Nat):Int)]:List Int)[1]? = some (T1:Int):=rfl
        have h4a:=har a (by simp)
        have h4b:=har b (by simp)
        have hb0:blk0 [a,b]=a.map I64:=rfl
        have hb1:blk1 [a,b]=b.map I64:=rfl
        have hh1:hdr 259 260 2=[.msl 259 1 0 4,.msl 260 1 0 4]:=rfl
        obtain ⟨pos0,hpos0⟩:∃ p,p=pos:=⟨pos,rfl⟩
        subst hpos0
        refine Go.loop ?_
        refine drvL Tryz.func48 ?_
        simp only [go_sem,rdr,hb0,hb1,hh1,List.getElem?_cons_zero,List.getElem?_cons_succ,Int.natCast_zero,z01,z02,z12,z11,z22,z00]
        iterate 3 ((try (refine drvZ Tryz.func48 ?_;simp only [go_sem,rdr,hb0,hb1,hh1,List.getElem?_cons_zero,List.getElem?_cons_succ,Int.natCast_zero,z01,z02,z12,z11,z22,z00]));((with_reducible and_intros)<;>try exact sd))
        refine Go.loopQ (fun x : Nat × Nat × List Int => [(0, .c (.ptr 0 0)), (3, DI .i64 bit), (5, .c (.ptr 1 0)), (8, .c (.ptr 129 0)), (9, .c (.ptr 321 0)), (11, DI .i64 0), (12, DI .i64 x.1)])
          (fun x=>[(0,some (rdr bs x.2.1)),(1,some (Pg.cells ⟨vs,[(T0:Int),(T1:Int)],bd⟩)),(129,some [.v (.slice none 0 0),.v (.slice none 0 0)]),(257,some (S.map I64)),(258,some ([.msl 259 1 0 4,.msl 260 1 0 4])),(259,some (x.2.2.map I64)),(260,some (b.map I64)),(321,some [.msl 257 1 0 va.length,.msl 258 1 0 2])])
          8192 (fun x=>x.1≤4∧pos0≤x.2.1∧x.2.1≤pos0+x.1∧x.2.2.length=4∧(∀ y ∈ x.2.2,0≤y∧y≤255)∧(T0.testBit β=false→x.2.2=a)) (fun x=>4 - x.1) ?_ (0,pos0,a) some [] _ ⟨Nat.zero_le _,Nat.le_refl _,Nat.le_refl _,h4a.1,h4a.2,fun _=>rfl⟩ ?_
        · rintro ⟨k,ps,c⟩ ⟨hk1,hk2,hk3,hk4,hk5,hk6⟩ again
          simp only at hk1 hk2 hk3 hk4 hk5 hk6
          rcases Nat.lt_or_ge k 4 with hlt | hge
          · have hz:((k:Int)<4)=True:=eq_true (by omega)
            obtain ⟨bb,hb1,hb2,hb3⟩:=bitB hβ hT0
            cases bb with
            | false =>
              refine drvL Tryz.func48 ?_
              simp only [go_sem,rdr,hz,List.getElem?_cons_zero,List.getElem?_cons_succ,Int.natCast_zero,z01,z02,z12,z11,z22,z00]
              iterate 5 ((try (refine drvZ Tryz.func48 ?_;simp only [go_sem,rdr,hz,hT0x,hb2,hb3,List.getElem?_cons_zero,List.getElem?_cons_succ,Int.natCast_zero,z01,z02,z12,z11,z22,z00]));((with_reducible and_intros)<;>try exact sd))
              refine again (k+1,ps,c) some [] _ ⟨hlt,hk2,(show ps≤pos0+(k+1) by omega),hk4,hk5,hk6⟩ (show 4 - (k+1)<4 - k by omega) ?_
              simp only [go_sem,TmOK,DM,DMs,CM,CMs,forall_eq,exists_eq_left,Mq,HpOK,LowOK,rdr]
              simp [CMs_I,CMs_hdr,CMs_b0,CMs_b1,upd]
            | true =>
              refine drvL Tryz.func48 ?_
              simp only [go_sem,rdr,hz,List.getElem?_cons_zero,List.getElem?_cons_succ,Int.natCast_zero,z01,z02,z12,z11,z22,z00]
              iterate 5 ((try (refine drvZ Tryz.func48 ?_;simp only [go_sem,rdr,hz,hT0x,hb2,hb3,List.getElem?_cons_zero,List.getElem?_cons_succ,Int.natCast_zero,z01,z02,z12,z11,z22,z00]));((with_reducible and_intros)<;>try exact sd))
              refine XK.callG [0] (hval ps (by omega)) ok86 (hhp_one rfl) (hbT ()) (fun d h' ⟨_,_,_,_,_,_,e⟩=>by subst e;simp) ?_ (fun _=>⟨by kernel_rfl,_,_,⟨0,rfl,by omega,ps,by omega,by omega,rfl⟩,by simp⟩)
              rintro _ _ ⟨v,rfl,hv,ps',hp1,hp3,rfl⟩ _
              iterate 5 ((try (refine drvZ Tryz.func48 ?_;simp only [go_sem,rdr,hz,List.getElem?_cons_zero,List.getElem?_cons_succ,Int.natCast_zero,z01,z02,z12,z11,z22,z00,hk4]));((with_reducible and_intros)<;>try exact sd))
              refine again (k+1,ps',c.set k v) some [] _ ⟨hlt,(show pos0≤ps' by omega),(show ps'≤pos0+(k+1) by omega),by rw [List.length_set];exact hk4,rng_set hk5 hv,fun h=>by rw [hb1] at h;cases h⟩ (show 4 - (k+1)<4 - k by omega) ?_
              simp only [go_sem,TmOK,DM,DMs,CM,CMs,forall_eq,exists_eq_left,Mq,HpOK,LowOK,rdr]
              simp [CMs_I,CMs_hdr,CMs_b0,CMs_b1,upd]
              try exact CMs.kf (by rw [← List.map_set];exact kf_I _)
          · have hz:((k:Int)<4)=False:=eq_false (by omega)
            clear again
            refine drvL Tryz.func48 ?_
            simp only [go_sem,rdr,hz,List.getElem?_cons_zero,List.getElem?_cons_succ,Int.natCast_zero,z01,z02,z12,z11,z22,z00]
            iterate 3 ((try (refine drvZ Tryz.func48 ?_;simp only [go_sem,rdr,hz,List.getElem?_cons_zero,List.getElem?_cons_succ,Int.natCast_zero,z01,z02,z12,z11,z22,z00]));((with_reducible and_intros)<;>try exact sd))
            obtain ⟨A0,hA⟩:∃ A0,A0=c:=⟨c,rfl⟩
            rw [← hA] at hk4 hk5 hk6 ⊢
            obtain ⟨pos1,hps⟩:∃ p,p=ps:=⟨ps,rfl⟩
            rw [← hps] at hk2 hk3 ⊢
            have h4A:A0.length=4∧∀ y ∈ A0,0≤y∧y≤255:=⟨hk4,hk5⟩
            have hA0:=hk6
            have hq1:pos0≤pos1:=hk2
            have hq2:pos1≤pos0+4:=by omega
            clear hk1 hk2 hk3 hk4 hk5 hk6 hz hge hA hps
            refine Go.inLoop ?_
            refine drvL Tryz.func48 ?_
            simp only [go_sem,rdr,List.getElem?_cons_zero,List.getElem?_cons_succ,Int.natCast_zero,z01,z02,z12,z11,z22,z00]
            iterate 3 ((try (refine drvZ Tryz.func48 ?_;simp only [go_sem,rdr,List.getElem?_cons_zero,List.getElem?_cons_succ,Int.natCast_zero,z01,z02,z12,z11,z22,z00]));((with_reducible and_intros)<;>try exact sd))
            refine Go.loopQ (fun x : Nat × Nat × List Int => [(0, .c (.ptr 0 0)), (3, DI .i64 bit), (5, .c (.ptr 1 0)), (8, .c (.ptr 129 0)), (9, .c (.ptr 321 0)), (11, DI .i64 1), (12, DI .i64 x.1)])
              (fun x=>[(0,some (rdr bs x.2.1)),(1,some (Pg.cells ⟨vs,[(T0:Int),(T1:Int)],bd⟩)),(129,some [.v (.slice none 0 0),.v (.slice none 0 0)]),(257,some (S.map I64)),(258,some ([.msl 259 1 0 4,.msl 260 1 0 4])),(259,some (A0.map I64)),(260,some (x.2.2.map I64)),(321,some [.msl 257 1 0 va.length,.msl 258 1 0 2])])
              12288 (fun x=>x.1≤4∧pos1≤x.2.1∧x.2.1≤pos1+x.1∧x.2.2.length=4∧(∀ y ∈ x.2.2,0≤y∧y≤255)∧(T1.testBit β=false→x.2.2=b)) (fun x=>4 - x.1) ?_ (0,pos1,b) some [] _ ⟨Nat.zero_le _,Nat.le_refl _,Nat.le_refl _,h4b.1,h4b.2,fun _=>rfl⟩ ?_
            · rintro ⟨k,ps,c⟩ ⟨hk1,hk2,hk3,hk4,hk5,hk6⟩ again
              simp only at hk1 hk2 hk3 hk4 hk5 hk6
              rcases Nat.lt_or_ge k 4 with hlt | hge
              · have hz:((k:Int)<4)=True:=eq_true (by omega)
                obtain ⟨bb,hb1,hb2,hb3⟩:=bitB hβ hT1
                cases bb with
                | false =>
                  refine drvL Tryz.func48 ?_
                  simp only [go_sem,rdr,hz,List.getElem?_cons_zero,List.getElem?_cons_succ,Int.natCast_zero,z01,z02,z12,z11,z22,z00]
                  iterate 5 ((try (refine drvZ Tryz.func48 ?_;simp only [go_sem,rdr,hz,hT1x,hb2,hb3,List.getElem?_cons_zero,List.getElem?_cons_succ,Int.natCast_zero,z01,z02,z12,z11,z22,z00]));((with_reducible and_intros)<;>try exact sd))
                  refine again (k+1,ps,c) some [] _ ⟨hlt,hk2,(show ps≤pos1+(k+1) by omega),hk4,hk5,hk6⟩ (show 4 - (k+1)<4 - k by omega) ?_
                  simp only [go_sem,TmOK,DM,DMs,CM,CMs,forall_eq,exists_eq_left,Mq,HpOK,LowOK,rdr]
                  simp [CMs_I,CMs_hdr,CMs_b0,CMs_b1,upd]
                | true =>
                  refine drvL Tryz.func48 ?_
                  simp only [go_sem,rdr,hz,List.getElem?_cons_zero,List.getElem?_cons_succ,Int.natCast_zero,z01,z02,z12,z11,z22,z00]
                  iterate 5 ((try (refine drvZ Tryz.func48 ?_;simp only [go_sem,rdr,hz,hT1x,hb2,hb3,List.getElem?_cons_zero,List.getElem?_cons_succ,Int.natCast_zero,z01,z02,z12,z11,z22,z00]));((with_reducible and_intros)<;>try exact sd))
                  refine XK.callG [0] (hval ps (by omega)) ok86 (hhp_one rfl) (hbT ()) (fun d h' ⟨_,_,_,_,_,_,e⟩=>by subst e;simp) ?_ (fun _=>⟨by kernel_rfl,_,_,⟨0,rfl,by omega,ps,by omega,by omega,rfl⟩,by simp⟩)
                  rintro _ _ ⟨v,rfl,hv,ps',hp1,hp3,rfl⟩ _
                  iterate 5 ((try (refine drvZ Tryz.func48 ?_;simp only [go_sem,rdr,hz,List.getElem?_cons_zero,List.getElem?_cons_succ,Int.natCast_zero,z01,z02,z12,z11,z22,z00,hk4]));((with_reducible and_intros)<;>try exact sd))
                  refine again (k+1,ps',c.set k v) some [] _ ⟨hlt,(show pos1≤ps' by omega),(show ps'≤pos1+(k+1) by omega),by rw [List.length_set];exact hk4,rng_set hk5 hv,fun h=>by rw [hb1] at h;cases h⟩ (show 4 - (k+1)<4 - k by omega) ?_
                  simp only [go_sem,TmOK,DM,DMs,CM,CMs,forall_eq,exists_eq_left,Mq,HpOK,LowOK,rdr]
                  simp [CMs_I,CMs_hdr,CMs_b0,CMs_b1,upd]
                  try exact CMs.kf (by rw [← List.map_set];exact kf_I _)
              · have hz:((k:Int)<4)=False:=eq_false (by omega)
                clear again
                refine drvL Tryz.func48 ?_
                simp only [go_sem,rdr,hz,List.getElem?_cons_zero,List.getElem?_cons_succ,Int.natCast_zero,z01,z02,z12,z11,z22,z00]
                iterate 3 ((try (refine drvZ Tryz.func48 ?_;simp only [go_sem,rdr,hz,List.getElem?_cons_zero,List.getElem?_cons_succ,Int.natCast_zero,z01,z02,z12,z11,z22,z00]));((with_reducible and_intros)<;>try exact sd))
                refine Go.inLoop ?_
                refine drvL Tryz.func48 ?_
                simp only [go_sem,rdr,List.getElem?_cons_zero,List.getElem?_cons_succ,Int.natCast_zero,z01,z02,z12,z11,z22,z00]
                iterate 3 ((try (refine drvZ Tryz.func48 ?_;simp only [go_sem,rdr,List.getElem?_cons_zero,List.getElem?_cons_succ,Int.natCast_zero,z01,z02,z12,z11,z22,z00]));((with_reducible and_intros)<;>try exact sd))
                exact fin [A0,c] ps _ rfl (by omega) (by omega) ⟨rfl,fun j x hj hf=>by
                  match j,hj with
                  | 0,hj=>simp only [List.getElem?_cons_zero,Option.some.injEq] at hj;subst hj;simp [hA0 (by simpa using hf)]
                  | 1,hj=>simp only [List.getElem?_cons_zero,List.getElem?_cons_succ,Option.some.injEq] at hj;subst hj;simp [hk6 (by simpa using hf)]
                  | j+2,hj=>simp at hj⟩ (by simp only [List.mem_cons,List.not_mem_nil,or_false,forall_eq_or_imp,forall_eq];exact ⟨h4A,hk4,hk5⟩) rfl rfl rfl rfl rfl
            · simp only [go_sem,TmOK,DM,DMs,CM,CMs,forall_eq,exists_eq_left,Mq,HpOK,LowOK,rdr]
              simp [CMs_I,CMs_hdr,CMs_b0,CMs_b1,upd]
        · simp only [go_sem,TmOK,DM,DMs,CM,CMs,forall_eq,exists_eq_left,Mq,HpOK,LowOK,rdr]
          simp [CMs_I,CMs_hdr,CMs_b0,CMs_b1,upd]
  · simp only [go_sem,TmOK,DM,DMs,CM,CMs,forall_eq,exists_eq_left,Mq,HpOK,LowOK,rdr]
    simp [CMs_I,CMs_hdr,CMs_b0,CMs_b1,upd]
def trR (β:Nat) (r:D) (h:List (Option (List C))):Prop:=∃ (p:Pg) (m m':Mm),r = .tup [.agg p.cells,.agg m.cells,.agg m'.cells]∧DrP p∧MemFits p m∧MemFits p m'∧LowM β p m m'∧h=[]
theorem drawTypedRuns (bs:List Int) (hb:Fits .u8 bs) (hl:bs.length≤mx) (β:Nat) (bit:Int) (hβ:(β=0∧bit=1)∨(β=1∧bit=2)):DC Tryz.prog 18 [bytesD bs,DI .i64 bit] [] (trR β):=by
  have hmx:=mx_eq
  have hop:=l17Open bs hl
  have hb':=fits_take hb 2000
  have hl':(bs.take 2000).length≤2000:=by rw [List.length_take];omega
  generalize hR:trR β=R
  generalize hbs:bs.take 2000=b2 at *
  unfold bytesD
  unfold bytesD at hop
  refine dcZ Tryz.func18 ?_
  simp only [go_sem]
  ((try (refine drvZ Tryz.func18 ?_;simp only [go_sem]));((with_reducible and_intros)<;>try exact sd))
  refine XK.callG [] hop ok44 (fun i' x h=>by simp at h) (hbT ()) (fun d h' ⟨_,e⟩=>by subst e;simp) ?_
  rintro _ _ ⟨rfl,rfl⟩ _
  iterate 2 ((try (refine drvZ Tryz.func18 ?_;simp only [go_sem,renCs_rdr]));((with_reducible and_intros)<;>try exact sd))
  have hty:=typed b2 0 hb' hl' (by omega)
  refine XK.callG [256] hty ok46 (hhp_one (by simp [upd,renCs_rdr])) (hbT ()) (fun d h' ⟨_,_,_,_,_,_,e⟩=>by subst e;simp) ?_
  rintro _ _ ⟨p,rfl,hp,n1,hn1,hn2,rfl⟩ _
  have hln:=prog_len hp.ok
  have hlab:=labs_of hp.ok
  have hme:=l3Memory b2 n1 p hb' hl' (by omega) ⟨hln.1,hln.2.1⟩ hln.2.2
  have hse:=fun n m h1 h2=>secrets b2 n p m hb' hl' h1 h2 hlab.1 hlab.2 β bit hβ
  obtain ⟨vs,ar,bd⟩:=p
  iterate 2 ((try (refine drvZ Tryz.func18 ?_;simp only [go_sem,renCs_rdr]));((with_reducible and_intros)<;>try exact sd))
  refine XK.callG [256] hme ok47 (hhp_one (by simp [upd,renCs_rdr])) (hbT ()) (fun d h' ⟨_,_,_,_,_,_,e⟩=>by subst e;simp) ?_
  rintro _ _ ⟨m,rfl,hm,n2,hn3,hn4,rfl⟩ _
  have hse:=hse n2 m (by omega) hm
  obtain ⟨va,arr⟩:=m
  iterate 3 ((try (refine drvZ Tryz.func18 ?_;simp only [go_sem,renCs_rdr,Mm.cells]));((with_reducible and_intros)<;>try exact sd))
  refine XK.callG [256] hse ok48 (hhp_one (by simp [upd,renCs_rdr])) (hbT ()) (fun d h' ⟨_,_,_,_,_,_,_,e⟩=>by subst e;simp) ?_ (fun _=>⟨by kernel_rfl,_,_,⟨⟨va,arr⟩,rfl,hm,.refl _ _ _,n2,by omega,by omega,rfl⟩,by simp⟩)
  rintro _ _ ⟨m2,rfl,hm2,hlo,n3,hn5,hn6,rfl⟩ _
  obtain ⟨va2,arr2⟩:=m2
  iterate 3 ((try (refine drvZ Tryz.func18 ?_;simp only [go_sem,renCs_rdr,Mm.cells]));((with_reducible and_intros)<;>try exact sd))
  refine RetOb.ofQ (fun _=>none) [] (.tup [.agg (Pg.cells ⟨vs,ar,bd⟩),.agg (Mm.cells ⟨va,arr⟩),.agg (Mm.cells ⟨va2,arr2⟩)]) [] ?_ (by rw [← hR];exact ⟨_,_,_,rfl,hp,hm,hm2,hlo,rfl⟩) (by simp)
  simp [enumL,DM,DMs,CM,CMs,HpOK,LowOK,hOf,Pg.cells,Mm.cells,isI]
end Go.Proofs.YtmjkgjkkpaephaaGreat.CtD
namespace Go.Proofs.YtmjkgjkkpaephaaGreat.CtR
open Go Go.CT CtF
end Go.Proofs.YtmjkgjkkpaephaaGreat.CtR
namespace Go.Proofs.YtmjkgjkkpaephaaGreat.CtD
open Go Go.CT CtF CtR
def bl (n N:Nat):List Bool:=(List.range n).map fun i=>N.testBit i
def rowsB (w:Nat) (S:List Nat):List (List C):=S.map fun N=>boolsC (bl w N)
theorem rowsB_len (w:Nat) (S:List Nat):(rowsB w S).length=S.length:=by simp [rowsB]
theorem rowsB_kf (w:Nat) (S:List Nat):∀ x ∈ rowsB w S,∀ c ∈ x,kf c=true:=fun x hx c hc=>by
  obtain ⟨N,_,rfl⟩:=List.mem_map.1 hx;exact boolsC_kf _ c hc
theorem fam_row {hp:Hp} {b w i:Nat} {S:List Nat} {row:List C} (hS:S.length≤32) (h:(rowsB w S)[i]? = some row):fam hp b (rowsB w S) (b+i)=some (some row):=by
  have:=(List.getElem?_eq_some_iff.1 h).1
  rw [rowsB_len] at this
  rw [fam_at (by omega),h];rfl
theorem SubH.rows {m : Nat} {r : Nat → Option Nat} {hl : List (Nat × Option (List C))} {hp : Hp} {b b' w : Nat} {S : List Nat} (hS : S.length ≤ 32) (hr : ∀ i, i < S.length → r (b + i) = some (b' + i))
    (hok:HpOK (fam (hOf hl) b (rowsB w S)) r (fam hp b' (rowsB w S)) [] hl) (hlow:LowOK r (fam (hOf hl) b (rowsB w S)) m) (hnd:((hl.filterMap fun p=>p.2.map fun _=>p.1).filterMap r).Nodup)
    (hdis:∀ p ∈ hl,∀ j,r p.1=some j→j<b'∨b' + 32≤j):SubH m r [] (fam (hOf hl) b (rowsB w S)) (fam hp b' (rowsB w S)):=by
  have hl0:=rowsB_len w S
  refine SubH.fam (fun n=>b' + n) (fun i hi=>hr i (by omega)) (fun i j hi hj h=>by omega) (fun i hi=>by simp) (fun i row hi=>fam_row hS hi) (rowsB_kf w S) hok hlow hnd ?_
  intro k j cs hm hj i hi e
  have:=hdis _ hm j hj
  omega
end Go.Proofs.YtmjkgjkkpaephaaGreat.CtD
namespace Go.Proofs.YtmjkgjkkpaephaaGreat.CtR
open Go Go.CT CtF
end Go.Proofs.YtmjkgjkkpaephaaGreat.CtR
