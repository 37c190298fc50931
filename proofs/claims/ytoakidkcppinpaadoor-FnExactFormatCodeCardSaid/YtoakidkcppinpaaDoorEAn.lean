/- Contracts of functions of the program, one behind the other, as plain data: what each call returns and which blocks it leaves. -/
import Derived.Lib.AppendIntMem
import Derived.Lib.LaidTab
import Derived.Test.YtoakidkcppinpaaDoorEFacts
import Derived.Test.YtoakidkcppinpaaDoorEAj
import Derived.Test.YtoakidkcppinpaaDoorEAk
import Derived.Test.YtoakidkcppinpaaDoorEAl
import Derived.Test.YtoakidkcppinpaaDoorEAm
import Derived.Test.YtoakidkcppinpaaDoorEXb
set_option linter.unusedVariables false
set_option linter.unusedSimpArgs false
set_option linter.unusedSectionVars false
set_option maxHeartbeats 16000000
set_option maxRecDepth 100000
namespace Go.Proofs.YtoakidkcppinpaaDoor.CtD
open Go Go.CT CtF CtR
variable [Yn]
def rowsM (b w n:Nat):List C:=(List.range n).map fun (i:Nat)=>C.msl (b+i) 1 0 w
theorem rowsM_cm {hT hS:Hp} {r:Nat→Option Nat} {fz:List Nat} {b b' w n:Nat} (h:∀ i,i<n→r (b+i)=some (b' + i)∧hT (b+i) ≠ none):CMs hT r hS fz (rowsM b w n) (rowsM b' w n):=by
 unfold rowsM
 have:∀ l:List Nat,(∀ i ∈ l,i<n)→CMs hT r hS fz (l.map fun i=>C.msl (b+i) 1 0 w) (l.map fun i=>C.msl (b' + i) 1 0 w):=fun l=>by
  induction l with
  | nil=>intro _;simp [CMs]
  | cons a s ih =>
   intro hl
   obtain ⟨h1,h2⟩:=h a (hl a (by simp))
   simp only [List.map_cons,CMs,CM]
   refine ⟨?_,ih fun i hi=>hl i (by simp [hi])⟩
   simp [h1,h2]
 exact this _ fun i hi=>by simpa using hi
theorem enumL_blks : ∀ (L : List (List C)) (b : Nat), enumL b (L.map some) = blks b L
 | [],b=>rfl
 | x :: r,b=>by rw [List.map_cons,enumL,blks,enumL_blks r (b+1)]
def hB (w:Nat) (rows:List (List Bool)):List (Option (List C)):=some (rowsM 1 w rows.length) :: (rows.map boolsC).map some
theorem hB_enum (w:Nat) (rows:List (List Bool)):enumL 0 (hB w rows)=(0,some (rowsM 1 w rows.length)) :: blks 1 (rows.map boolsC):=by rw [hB,enumL,enumL_blks]
theorem low_of {r : Nat → Option Nat} {hT : Hp} : ∀ {m : Nat}, (∀ i, i < m → r i = some i ∧ hT i ≠ none) → LowOK r hT m
 | 0,_=>trivial
 | m+1,h=>⟨h m (by omega),low_of fun i hi=>h i (by omega)⟩
theorem rows_get (X:List C) (rows:List (List Bool)) (i:Nat):hOf ((0,some X) :: blks 1 (rows.map boolsC)) (1+i)=(rows[i]?).map fun a=>some (boolsC a):=by
 rw [hOf,upd,if_neg (by omega),hOf_blks,if_pos (by omega),show 1+i - 1=i by omega,List.getElem?_map,Option.map_map]
 rfl
theorem mq_rows {m n w : Nat} {tl : List (Nat × D)} {S : Ms} {rows : List (List Bool)} (hl : rows.length = n) (hm : m ≤ n + 1) (ht : TmOK (hOf ((0, some (rowsM 1 w n)) :: blks 1 (rows.map boolsC))) some S.hp [] S.tm tl)
 (h0:S.hp 0=some (some (rowsM 1 w n))) (hr:∀ i a,rows[i]? = some a→S.hp (1+i)=some (some (boolsC a))):Mq m some [] tl ((0,some (rowsM 1 w n)) :: blks 1 (rows.map boolsC)) S:=by
 have hk:∀ i,i<n→hOf ((0,some (rowsM 1 w n)) :: blks 1 (rows.map boolsC)) (1+i) ≠ none:=fun i hi=>by
  rw [rows_get,List.getElem?_eq_getElem (by omega)];simp
 refine ⟨ht,⟨?_,HpOK_blks fun i cs hi=>?_⟩,low_of fun i hi=>⟨rfl,?_⟩,?_⟩
 ·simp only [h0]
  exact ⟨by simp,rowsM_cm fun i hi=>⟨rfl,hk i hi⟩⟩
 ·rw [List.getElem?_map,Option.map_eq_some_iff] at hi
  obtain ⟨a,ha,rfl⟩:=hi
  exact ⟨1+i,rfl,by simp,_,hr i a ha,CMs.kf (boolsC_kf _)⟩
 ·rcases Nat.eq_zero_or_pos i with rfl | hp
  ·simp [hOf,upd]
  ·obtain ⟨j,rfl⟩:∃ j,i=1+j:=⟨i - 1,by omega⟩
   exact hk j (by omega)
 ·exact nodup_blks (A:=[(0,some (rowsM 1 w n))]) (g:=fun i=>1+i) (fun i _=>rfl) (fun i j _ _ h=>by omega) (by simp) (by simp;omega)
theorem RetOb.rows {m n w : Nat} {R : D → List (Option (List C)) → Prop} {hp : Hp} {rows : List (List Bool)} {v : Value} (hl : rows.length = n) (hm : m ≤ n + 1) (h0 : hp 0 = some (some (rowsM 1 w n))) (hr : ∀ i a, rows[i]? = some a → hp (1 + i) = some (some (boolsC a)))
 (hR:R (.c (.v v)) (hB w rows)):RetOb m R (.c (.v v)) hp:=by
 have hq:Mq m some [] [] ((0,some (rowsM 1 w n)) :: blks 1 (rows.map boolsC)) ⟨fun _=>none,hp,0⟩:=mq_rows hl hm trivial h0 hr
 refine RetOb.ofQ some [] (.c (.v v)) (hB w rows) ?_ hR (by simp [hB];omega)
 rw [hB_enum,hl]
 exact ⟨by simp [DM,CM],hq.2⟩
open CtG (labT ltrL lstT)
def bstr (l:List UInt8):ByteArray:=⟨l.toArray⟩
theorem bstr_app (a b:List UInt8):bstr a++bstr b=bstr (a++b):=by
 unfold bstr;rw [← List.append_toArray];exact ByteArray.ext (by simp)
def TabW (w : World) : Prop := Lib.TabIs Tryd.prog w "internal/strconv.uint64pow10" .u64 Lib.pow10Tab
def TabY (y:Yn):Prop:=∀ w:World,(∀ b,b<y.n→w.heap[b]? = y.o b)→TabW w
theorem var_lt {P:Program} {w:World} {n:String} {cs:Array Value} (h:w.var? P n=some cs):∃ g T fr,P.globalNamed n=some g∧w.heap[g]? = some (.cells cs T fr):=by
 unfold World.var? at h
 cases hg:P.globalNamed n with
 | none=>rw [hg] at h;simp at h
 | some g =>
  rw [hg] at h
  simp only [Option.bind_some] at h
  split at h
  ·rename_i c T fr e
   simp only [Option.some.injEq] at h
   subst h
   exact ⟨g,T,fr,rfl,e⟩
  ·cases h
theorem tabY_at {w:World} (h:TabW w):TabY (ynAt w):=fun w' hw=>by
 obtain ⟨g,T,fr,h1,h2⟩:=var_lt h
 have hlt:=lt_of_heap h2
 have h3:w'.heap[g]? = w.heap[g]? := hw g hlt
 show w'.var? _ _=_
 simp only [World.var?,h1,Option.bind_some,h3,h2]
theorem tabW_below {w w':World} (h:TabW w) (hb:RowKit.Below w.heap.size w w'):TabW w':=tabY_at h w' fun b hb'=>hb.block b hb'
theorem SimH.tab {I:Nat→Prop} {w:World} {s:Sg} {hp:Hp} (H:SimH I w s hp) (hT:TabY inferInstance):TabW w:=hT w H.yng.2.2
theorem vs_one {I:Nat→Prop} {w:World} {s:Sg} {vs:Array Value} {d:D} (h:RDs I w s vs [d]):∃ v,vs=#[v]∧RD I w s v d:=by
 obtain ⟨hsz,hrd⟩:=h
 rcases vs with ⟨l⟩
 match l,hsz with
 | [v],_=>exact ⟨v,rfl,hrd 0 (by simp) (by simp)⟩
theorem itoaD (hT:TabY inferInstance) (n:Int) (h0 : -9223372036854775808≤n) (h1:n≤9223372036854775807):DC Tryd.prog 69 [DI .i64 n] [] (fun r h=>r=DS (bstr (Lib.itoa n))∧h=[]) :=
 DC.ofBelow rfl fun I w s vs H hv=>by
  obtain ⟨v,rfl,hr⟩:=vs_one hv
  obtain ⟨rfl,_⟩:=rd_scalar hr
  refine (Tryd.strconv_Itoa n h0 h1 w (SimH.tab H hT)).mono ?_
  rintro e w' ⟨rfl,k,os,rfl⟩
  exact ⟨rfl,Lib.below_grow _ w (Nat.le_refl _) k os⟩
theorem decD (n:Nat) (hn:n<4611686018427387904):DC Tryd.prog 38 [DI .i64 n] [] (fun r h=>r=DS (bstr (Lib.itoa n))∧h=[]) :=
 DC.ofBelow rfl fun I w s vs H hv=>by
  obtain ⟨v,rfl,hr⟩:=vs_one hv
  obtain ⟨rfl,_⟩:=rd_scalar hr
  refine (CtG.dec_any n hn w).mono ?_
  rintro e w' ⟨rfl,hb⟩
  exact ⟨by rw [Lib.itoa_nonneg];rfl,hb⟩
theorem row_of {I:Nat→Prop} {w:World} {s:Sg} {v:Value} {xs:List Int} (h:RD I w s v (.c (isI xs))):∃ a cap,v = .slice a xs.length cap∧xs.length≤mx∧(xs=[]∨∃ b off,a=some ⟨b,off,none⟩∧I b∧∀ j,j<xs.length→w.cell? ⟨b,off+j,none⟩=some (.int .i64 (xs.getD j 0))) ∧
 ∀ (y':Yn) (I':Nat→Prop) (s':Sg),(∀ b,I b→I' b)→@RD y' I' w s' v (.c (isI xs)):=by
 cases h with
 | c _ _ h =>
  unfold isI at h ⊢
  generalize hL:(xs.map fun x=>[C.v (.int .i64 x)])=L at h
  have hlen:L.length=xs.length:=by rw [← hL];simp
  cases h with
  | isl0 _ a cap _ =>
   have:xs=[]:=List.eq_nil_of_length_eq_zero (by rw [← hlen];rfl)
   subst this
   exact ⟨a,cap,rfl,Nat.zero_le _,.inl rfl,fun y' I' s' _=>@RD.c y' I' w s' _ _ (@RC.isl0 y' I' w s' a cap 1)⟩
  | isl _ b off cap _ _ yv hI hl hc hr hcap =>
   have hval:∀ j (hj:j<xs.length),yv j 0 = .int .i64 (xs.getD j 0):=fun j hj=>by
    have h2:=hr j (by rw [hlen];exact hj) 0 (by subst hL;simp)
    have e:L[j]'(by rw [hlen];exact hj)=[C.v (.int .i64 xs[j])]:=by subst hL;simp
    have e2:(L[j]'(by rw [hlen];exact hj))[0]'(by rw [e];simp)=C.v (.int .i64 xs[j]):=by simp [e]
    rw [e2] at h2
    rw [(rd_scalar (.c _ _ h2)).1]
    simp [List.getD,List.getElem?_eq_getElem hj]
   have hcell:∀ j,j<xs.length→w.cell? ⟨b,off+j,none⟩=some (.int .i64 (xs.getD j 0)):=fun j hj=>by
    have h1:=hc j 0 (by rw [hlen];exact hj) (by omega)
    rw [Nat.mul_one,Nat.add_zero] at h1
    rw [h1,hval j hj]
   refine ⟨some ⟨b,off,none⟩,cap,by rw [hlen],by rw [← hlen];exact hcap.2,.inr ⟨b,off,rfl,hI,hcell⟩,fun y' I' s' hII=>?_⟩
   refine @RD.c y' I' w s' _ _ (@RC.isl y' I' w s' b off cap 1 L yv (hII b hI) hl hc (fun i hi j hj=>?_) hcap)
   have e:L[i]=[C.v (.int .i64 (xs[i]'(by omega)))]:=by subst hL;simp
   have hj0:j=0:=by rw [e] at hj;simpa using hj
   subst hj0
   have e2:(L[i])[0]'hj=C.v (.int .i64 (xs[i]'(by omega))):=by simp [e]
   rw [e2,hval i (by omega)]
   have e3:xs.getD i 0=xs[i]'(by omega):=by simp [List.getD,List.getElem?_eq_getElem (show i<xs.length by omega)]
   rw [e3]
   exact @RC.v y' I' w Sg0 _ rfl
theorem formatLabelsI (xs:List Int) (hl:xs.length≤1000000) (h:labs xs=true):DC Tryd.prog 45 [.c (isI xs)] [] (fun r h=>r=DS (bstr (labT xs))∧h=[]) :=
 DC.ofBelow rfl fun I w s vs H hv=>by
  obtain ⟨v,rfl,hr⟩:=vs_one hv
  obtain ⟨a,cap,rfl,hx,hcase,hre⟩:=row_of hr
  have hal:Calls Tryd.prog 52 #[.slice a xs.length cap] w fun e w'=>e = .returned (.bool true)∧RowKit.Below w.heap.size w w':=by
   have hd:=@CtR.areLabels (ynAt w) xs (by have:=mx_eq;omega)
   rw [h] at hd
   exact DC.calls hd fun s'=>@RDs.one (ynAt w) _ _ _ _ _ (hre (ynAt w) _ s' H.imm)
  rcases hcase with rfl | ⟨b,off,rfl,hI,hc⟩
  ·exact (CtG.fmtLab_none a cap w hal).mono fun e w' ⟨h1,h2⟩=>⟨h1,h2⟩
  ·have hlab:∀ z ∈ xs,0≤z∧z≤3:=fun z hz=>by
    simp only [labs,List.all_eq_true,Bool.and_eq_true,decide_eq_true_eq] at h
    exact h z hz
   refine (CtG.fmtLab_any b off xs.length cap xs w (by omega) (Nat.le_refl _) (H.imm b hI) hlab hc hal).mono fun e w' ⟨h1,h2⟩=>⟨?_,h2⟩
   rw [h1,List.take_length];rfl
open CtL (In Cd kindsOf topOf fOK inOK codeOK)
open CtG (labT ltrL lstT)
def nmL:List (List UInt8):=[[99,111,110,115,116],[103,101,116],[112,117,116],[108,111,97,100],[115,116,111,114,101],[98,105,110],[115,101,108,101,99,116],[106,117,109,112],[122,101,114,111],[108,111,111,112],[114,101,108,101,97,115,101],[102,101,110,99,101],[104,97,108,116]]
def strD (l:List (List UInt8)):C := .isl 1 (l.map fun s=>[.v (.string (bstr s))])
theorem opWordsI:DC Tryd.prog 68 [] [] (fun r h=>r = .c (strD nmL)∧h=[]):=by
 have hmx:=mx_eq
 refine dcZ Tryd.func68 ?_
 simp only [go_sem]
 iterate 3 ((try (refine drvZ Tryd.func68 ?_;simp only [go_sem]));((with_reducible and_intros)<;>try exact sd))
 refine RetOb.ofQ (fun _=>none) [64] (.c (strD nmL)) [] ?_ ⟨rfl,rfl⟩ (by simp)
 simp [strD,nmL,bstr,enumL,DM,DMs,CM,CMs,HpOK,LowOK,hOf,upd,kf]
theorem l6NamesS:DC Tryd.prog 35 [] [] (fun r h=>r = .c (strD ([] :: nmL))∧h=[]):=by
 have hmx:=mx_eq
 refine dcZ Tryd.func35 ?_
 simp only [go_sem]
 iterate 3 ((try (refine drvZ Tryd.func35 ?_;simp only [go_sem]));((with_reducible and_intros)<;>try exact sd))
 refine RetOb.ofQ (fun _=>none) [64] (.c (strD ([] :: nmL))) [] ?_ ⟨rfl,rfl⟩ (by simp)
 simp [strD,nmL,bstr,enumL,DM,DMs,CM,CMs,HpOK,LowOK,hOf,upd,kf]
def nmT (op:Int):List UInt8:=nmL.getD (op - 1).toNat []
def narg (op:Int):Nat:=(sls op).size
def prT (x:In) (k:Nat):List UInt8:=(List.range k).flatMap fun i=>32 :: Lib.itoa ([x.a,x.b,x.c,x.d].getD i 0)
def lineT (x:In):List UInt8:=nmT x.op++prT x (narg x.op)
theorem prT_succ (x:In) (k:Nat):prT x (k+1)=prT x k++(32 :: Lib.itoa ([x.a,x.b,x.c,x.d].getD k 0)):=by
 unfold prT
 rw [List.range_succ,List.flatMap_append]
 simp
theorem bstr_size (l:List UInt8):(bstr l).size=l.length:=by simp [bstr,ByteArray.size]
theorem b1 (x:UInt8):(⟨#[x]⟩:ByteArray)=bstr [x]:=rfl
theorem itoa_len {n:Int} (h:0≤n∧n≤999):(Lib.itoa n).length≤3:=by
 obtain ⟨m,rfl⟩:∃ m:Nat,n=m:=⟨n.toNat,by omega⟩
 rw [Lib.itoa_nonneg]
 have one:∀ k,k<10→(Lib.decDigits k).length=1:=fun k hk=>by rw [Lib.decDigits_one hk];rfl
 have two:∀ k,k<100→(Lib.decDigits k).length≤2:=fun k hk=>by
  rcases Nat.lt_or_ge k 10 with q | q
  ·have:=one k q;omega
  ·rw [CtG.decStep q,List.length_append,one (k / 10) (by omega)];simp
 rcases Nat.lt_or_ge m 10 with q | q
 ·have:=one m q;omega
 ·have:=two (m / 10) (by omega)
  rw [CtG.decStep q,List.length_append];simp;omega
def InS (x:In):Prop:=(1≤x.op∧x.op≤13)∧∀ n ∈ [x.a,x.b,x.c,x.d],0≤n∧n≤999
theorem InS.at {x:In} (h:InS x) (i:Nat):0≤[x.a,x.b,x.c,x.d].getD i 0∧[x.a,x.b,x.c,x.d].getD i 0≤999:=by
 rw [List.getD_eq_getElem?_getD]
 cases hx:[x.a,x.b,x.c,x.d][i]? with
 | none=>simp
 | some v=>exact h.2 v (List.mem_of_getElem? hx)
theorem prT_len {x : In} (h : InS x) : ∀ k, (prT x k).length ≤ k * 4
 | 0=>by simp [prT]
 | k+1=>by
  have:=prT_len h k
  have:=itoa_len (h.at k)
  rw [prT_succ,List.length_append,List.length_cons];omega
theorem nm_at {op:Int} (h:1≤op∧op≤13):nmL[(op - 1).toNat]? = some (nmT op)∧(nmT op).length≤10:=by
 have key:op=1∨op=2∨op=3∨op=4∨op=5∨op=6∨op=7∨op=8∨op=9∨op=10∨op=11∨op=12∨op=13:=by omega
 rcases key with rfl | rfl | rfl | rfl | rfl | rfl | rfl | rfl | rfl | rfl | rfl | rfl | rfl<;>exact ⟨rfl,by decide⟩
theorem narg_lt (op:Int) (i:Nat) (h:i<4):(i<narg op ↔ ltr ((kindsOf op).getD i 0) ≠ 45):=by
 rw [narg,sls_len op i h]
 have h6:=kinds_le op i
 generalize (kindsOf op).getD i 0=k at *
 have:k=0∨k=1∨k=2∨k=3∨k=4∨k=5∨k=6:=by omega
 rcases this with rfl | rfl | rfl | rfl | rfl | rfl | rfl<;>decide
theorem narg_le (op:Int):narg op≤4:=by
 unfold narg sls kindsOf
 repeat' split
 all_goals decide
theorem textI (hT:TabY inferInstance) (x:In) (hx:InS x):DC Tryd.prog 60 [.agg (inX x)] [] (fun r h=>r=DS (bstr (lineT x))∧h=[]):=by
 have hmx:=mx_eq
 have how:=opWordsI
 have hsh:=shapeI x.op hx.1
 have hfi:=fieldsI x
 have hit:=fun (n:Int) (h:0≤n∧n≤999)=>itoaD hT n (by omega) (by omega)
 have hat:=hx.at
 have hpl:=prT_len hx
 obtain ⟨hnm,hnl⟩:=nm_at hx.1
 have hna:=narg_le x.op
 have ho:=hx.1
 have ret:∀ (l:List UInt8) (hp:Hp),l=lineT x→RetOb 0 (fun r h=>r=DS (bstr (lineT x))∧h=[]) (DS (bstr l)) hp:=fun l hp e=>by subst e;exact RetOb.plain (d:=DS _) ⟨rfl,rfl⟩ rfl
 generalize hR:(fun (r:D) (h:List (Option (List C)))=>r=DS (bstr (lineT x))∧h=[])=R at ret ⊢
 obtain ⟨op,a,b,c',d⟩:=x
 simp only [inX,strD] at hsh hfi how hnm hnl hna ho hat hpl ⊢
 have hnm2:(nmL.map fun s=>[C.v (.string (bstr s))])[(op - 1).toNat]? = some [.v (.string (bstr (nmT op)))]:=by rw [List.getElem?_map,hnm];rfl
 have hlt:(op - 1).toNat<nmL.length:=(List.getElem?_eq_some_iff.1 hnm).1
 refine dcZ Tryd.func60 ?_
 simp only [go_sem]
 iterate 6 ((try (refine drvZ Tryd.func60 ?_;simp only [go_sem,hnm2]));((with_reducible and_intros)<;>try exact sd);(try first | refine XK.p how ok68 ?_ | refine XK.gp how ok68 ?_ | refine XK.p hfi ok55 ?_ | refine XK.gp hfi ok55 ?_))
 refine Go.loopQ (fun i : Nat => [(1, .c (.ptr 0 0)), (3, DS (bstr (nmT op ++ prT ⟨op, a, b, c', d⟩ (min i (narg op))))), (13, .c (.isl 1 [[I64 a], [I64 b], [I64 c'], [I64 d]])), (14, DI .i64 4), (15, DI .i64 i)]) (fun _ => [(0, some [I64 op, I64 a, I64 b, I64 c', I64 d])])
  2048 (fun i=>i≤4) (fun i=>4 - i) ?_ 0 some [] _ (Nat.zero_le _) ?_
 ·intro i hi again
  rcases Nat.lt_or_ge i 4 with hlt4 | hge
  ·have hx:[[I64 a],[I64 b],[I64 c'],[I64 d]][i]? = some [I64 ([a,b,c',d].getD i 0)]:=by
    have:i=0∨i=1∨i=2∨i=3:=by omega
    rcases this with rfl | rfl | rfl | rfl<;>rfl
   have hlt':(i:Int)<4:=by omega
   have hlt2:i < [[I64 a],[I64 b],[I64 c'],[I64 d]].length:=hlt4
   have hsz:(shp op).size=4:=rfl
   have hsa:=shp_at op i hlt4
   have hnl4:=narg_lt op i hlt4
   have hps:=prT_succ ⟨op,a,b,c',d⟩ i
   have hbd:=hat i
   have hit:=hit _ hbd
   have hil:=itoa_len hbd
   have hpi:=hpl i
   simp only at hps hbd hit hil
   generalize ltr ((kindsOf op).getD i 0)=u at *
   generalize [a,b,c',d].getD i 0=n at *
   generalize [[I64 a],[I64 b],[I64 c'],[I64 d]]=fl at *
   by_cases hin:i<narg op
   ·have hu:((u.toNat:Int) != 45)=true:=by
     have:=hnl4.1 hin
     rw [bne_iff_ne];intro e;apply this
     have:u.toNat=45:=by omega
     exact UInt8.toNat_inj.1 this
    have em:min i (narg op)=i:=by omega
    have em2:min (i+1) (narg op)=i+1:=by omega
    have hfin:bstr (nmT op++prT ⟨op,a,b,c',d⟩ i)++(bstr [32]++bstr (Lib.itoa n))=bstr (nmT op++prT ⟨op,a,b,c',d⟩ (i+1)):=by rw [bstr_app,bstr_app,hps];simp
    have hz1:(((nmT op++prT ⟨op,a,b,c',d⟩ i).length:Int)+(1+((Lib.itoa n).length:Int))≤9223372036854775807)=True:=eq_true (by rw [List.length_append];omega)
    refine drvL Tryd.func60 ?_
    simp only [go_sem,em,hlt']
    iterate 8 ((try (refine drvZ Tryd.func60 ?_;simp only [go_sem,hx,hlt',hlt2,hlt4,hsz,hsa,hu,em,b1,bstr_size,hz1]));((with_reducible and_intros)<;>try exact sd);(try first | refine XK.p hsh ok54 ?_ | refine XK.gp hsh ok54 ?_ | refine XK.p hit ok69 ?_ | refine XK.gp hit ok69 ?_))
    refine again (i+1) some [] _ hlt4 (show 4 - (i+1)<4 - i by omega) ?_
    simp only [go_sem,TmOK,DM,DMs,CM,CMs,forall_eq,exists_eq_left,Mq,HpOK,LowOK,em2,hfin]
    try simp
   ·have hu:((u.toNat:Int) != 45)=false:=by
     have:¬ u ≠ 45:=fun h=>hin (hnl4.2 h)
     have:u=45:=by simpa using this
     subst this;rfl
    have em:min i (narg op)=narg op:=by omega
    have em2:min (i+1) (narg op)=narg op:=by omega
    refine drvL Tryd.func60 ?_
    simp only [go_sem,em,hlt']
    iterate 8 ((try (refine drvZ Tryd.func60 ?_;simp only [go_sem,hx,hlt',hlt2,hlt4,hsz,hsa,hu,em,b1,bstr_size]));((with_reducible and_intros)<;>try exact sd);(try first | refine XK.p hsh ok54 ?_ | refine XK.gp hsh ok54 ?_))
    refine again (i+1) some [] _ hlt4 (show 4 - (i+1)<4 - i by omega) ?_
    simp only [go_sem,TmOK,DM,DMs,CM,CMs,forall_eq,exists_eq_left,Mq,HpOK,LowOK,em2]
    try simp
  ·have hi4:i=4:=by omega
   subst hi4
   have em:min 4 (narg op)=narg op:=by omega
   clear again
   refine drvL Tryd.func60 ?_
   simp only [go_sem,em,Int.reduceLT]
   iterate 5 ((try (refine drvZ Tryd.func60 ?_;simp only [go_sem,em,Int.reduceLT]));((with_reducible and_intros)<;>try exact sd))
   exact ret _ _ rfl
 ·simp only [go_sem,TmOK,DM,DMs,CM,CMs,forall_eq,exists_eq_left,Mq,HpOK,LowOK]
  simp [prT]
open CtL (In Cd kindsOf topOf fOK inOK codeOK)
open CtG (labT ltrL lstT)
theorem lineT_len {x:In} (h:InS x):(lineT x).length≤26:=by
 have h1:=prT_len h (narg x.op)
 have h2:=narg_le x.op
 have h3:=(nm_at h.1).2
 rw [lineT,List.length_append];omega
def hltI:In:=⟨13,0,0,0,0⟩
theorem hltI_s:InS hltI:=⟨by decide,by decide⟩
def listT (l:List In):List UInt8:=l.flatMap fun x=>lineT x++[10]
theorem lst_eq (l:List In):lstT (fun k=>lineT (l.getD k hltI)) l.length=listT l:=by
 unfold lstT listT
 have h:(List.range l.length).map (fun k=>l.getD k hltI)=l:=by
  apply List.ext_getElem
  ·simp
  ·intro i h1 h2
   simp [List.getD,List.getElem?_eq_getElem h2]
 conv=>rhs;rw [← h]
 rw [List.flatMap_map]
theorem agg3 {I:Nat→Prop} {w:World} {s:Sg} {v:Value} {a b c:C} (h:RD I w s v (.agg [a,b,c])):∃ x y z,v = .agg #[x,y,z]∧RC I w s x a∧RC I w s y b∧RC I w s z c:=by
 cases h with
 | agg vs _ hl hr =>
  rcases vs with ⟨l⟩
  match l,hl with
  | [x,y,z],hl=>exact ⟨x,y,z,rfl,hr 0 (by simp) (by simp),hr 1 (by simp) (by simp),hr 2 (by simp) (by simp)⟩
theorem listTextI (hT:TabY inferInstance) (c:Cd) (hl:c.list.length≤1000000) (hne:1≤c.list.length) (hs:∀ x ∈ c.list,InS x):DC Tryd.prog 46 [.agg (cdC c)] [] (fun r h=>r=DS (bstr (listT c.list))∧h=[]) :=
 DC.ofBelow rfl fun I w s vs H hv=>by
  obtain ⟨v,rfl,hr⟩:=vs_one hv
  obtain ⟨x,y,z,rfl,_,_,hz⟩:=agg3 hr
  have hw:=SimH.tab H hT
  have hall:∀ k,InS (c.list.getD k hltI):=fun k=>by
   rw [List.getD_eq_getElem?_getD]
   cases hx:c.list[k]? with
   | none=>exact hltI_s
   | some u=>exact hs u (List.mem_of_getElem? hx)
  generalize hL:c.list.map inX=L at hz
  have hlen:L.length=c.list.length:=by rw [← hL];simp
  cases hz with
  | isl0 _ a cap _=>simp at hlen;omega
  | isl _ b off cap _ _ yv hI hl5 hc hrc hcap =>
   rw [hlen]
   let f:Nat→Nat→Int:=fun k j=>let u:=c.list.getD k hltI;[u.op,u.a,u.b,u.c,u.d].getD j 0
   have hcell:∀ k j,k<c.list.length→j<5→w.cell? ⟨b,off+(k * 5+j),none⟩=some (.int .i64 (f k j)):=fun k j hk hj=>by
    have h1:=hc k j (by omega) hj
    have hLk:L[k]'(by omega)=inX (c.list.getD k hltI):=by
     subst hL
     simp [List.getD,List.getElem?_eq_getElem hk]
    have h2:=hrc k (by omega) j (by rw [hLk];simpa [inX] using hj)
    have e2:(L[k]'(by omega))[j]'(by rw [hLk];simpa [inX] using hj)=C.v (.int .i64 (f k j)):=by
     simp only [hLk]
     have:j=0∨j=1∨j=2∨j=3∨j=4:=by omega
     rcases this with rfl | rfl | rfl | rfl | rfl<;>rfl
    rw [e2] at h2
    rw [show off+(k * 5+j)=off+k * 5+j by omega,h1,(rd_scalar (.c _ _ h2)).1]
   have key:=CtG.listText_any x y b off c.list.length cap f (fun k=>lineT (c.list.getD k hltI)) w hl (H.imm b hI) (fun k=>by have:=lineT_len (hall k);omega) hcell fun k hk w' hb'=>by
    have hd:=@textI (ynAt w') (tabY_at (tabW_below hw hb')) (c.list.getD k hltI) (hall k)
    exact DC.calls hd fun s'=>rds_ints [(c.list.getD k hltI).op,(c.list.getD k hltI).a,(c.list.getD k hltI).b,(c.list.getD k hltI).c,(c.list.getD k hltI).d]
   rw [lst_eq] at key
   exact key
open CtL (In Cd kindsOf topOf fOK inOK codeOK)
open CtG (labT ltrL lstT)
def fmtT (c:Cd):List UInt8:=[99,111,100,101,32]++labT c.vars++[47]++labT c.arrays++[10]++listT c.list
theorem ins_of {nv na nl:Nat} (h1:nv≤900) (h2:na≤900) (h3:nl≤900) {x:In} (h:inOK nv na nl x=true):InS x:=by
 simp only [inOK,Bool.and_eq_true,decide_eq_true_eq] at h
 obtain ⟨⟨⟨⟨⟨o1,o2⟩,q0⟩,q1⟩,q2⟩,q3⟩:=h
 have key:∀ (k:Nat) (n:Int),fOK nv na nl k n=true→0≤n∧n≤999:=fun k n hq=>by
  have ht:topOf nv na nl k≤999:=by
   unfold topOf
   repeat' split
   all_goals omega
  simp only [fOK,Bool.and_eq_true,decide_eq_true_eq] at hq
  refine ⟨?_,Int.le_trans hq.2 ht⟩
  have:=hq.1
  split at this<;>omega
 refine ⟨⟨o1,o2⟩,fun n hn=>?_⟩
 simp only [List.mem_cons,List.not_mem_nil,or_false] at hn
 rcases hn with rfl | rfl | rfl | rfl
 ·exact key _ _ q0
 ·exact key _ _ q1
 ·exact key _ _ q2
 ·exact key _ _ q3
structure CdS (c : Cd) : Prop where
 nv:c.vars.length≤12
 na:c.arrays.length≤2
 l1:1≤c.list.length
 nl:c.list.length≤400
 lv:labs c.vars=true
 la:labs c.arrays=true
 ins:∀ x ∈ c.list,InS x
theorem cds_of {c:Cd} (h:codeOK c=true):CdS c:=by
 simp only [codeOK,headsOK,Bool.and_eq_true,decide_eq_true_eq,List.all_eq_true] at h
 obtain ⟨⟨⟨⟨⟨⟨⟨⟨h1,h2⟩,h3⟩,h4⟩,h5⟩,h6⟩,h7⟩,h8⟩,_⟩:=h
 exact ⟨by omega,by omega,by omega,by omega,h4,h5,fun x hx=>ins_of (by omega) (by omega) (by omega) (h8 x hx)⟩
theorem labT_len (xs:List Int):(labT xs).length=xs.length:=by simp [labT]
theorem listT_len {l:List In} (h:∀ x ∈ l,InS x):(listT l).length≤l.length * 27:=by
 unfold listT
 induction l with
 | nil=>simp
 | cons a r ih =>
  have h1:=lineT_len (h a (by simp))
  have h2:=ih fun x hx=>h x (by simp [hx])
  simp only [List.flatMap_cons,List.length_append,List.length_cons,List.length_nil] at h2 ⊢
  omega
theorem b5:(⟨#[99,111,100,101,32]⟩:ByteArray)=bstr [99,111,100,101,32]:=rfl
theorem codeTextI (hT:TabY inferInstance) (c:Cd) (h:CdS c):DC Tryd.prog 21 [.agg (cdC c)] [] (fun r h=>r=DS (bstr (fmtT c))∧h=[]):=by
 have hmx:=mx_eq
 have f1:=formatLabelsI c.vars (by have:=h.nv;omega) h.lv
 have f2:=formatLabelsI c.arrays (by have:=h.na;omega) h.la
 have f3:=listTextI hT c (by have:=h.nl;omega) h.l1 h.ins
 have n1:=labT_len c.vars
 have n2:=labT_len c.arrays
 have n3:=listT_len h.ins
 have q1:=h.nv
 have q2:=h.na
 have q3:=h.nl
 have ret:∀ (l:List UInt8) (hp:Hp),l=fmtT c→RetOb 0 (fun r h=>r=DS (bstr (fmtT c))∧h=[]) (DS (bstr l)) hp:=fun l hp e=>by subst e;exact RetOb.plain (d:=DS _) ⟨rfl,rfl⟩ rfl
 generalize hR:(fun (r:D) (h:List (Option (List C)))=>r=DS (bstr (fmtT c))∧h=[])=R at ret ⊢
 unfold fmtT at ret
 clear hR h
 obtain ⟨vs,ar,l⟩:=c
 simp only [cdC] at f1 f2 f3 n1 n2 n3 q1 q2 q3 ret ⊢
 generalize labT vs=T1 at *
 generalize labT ar=T2 at *
 generalize listT l=T3 at *
 generalize l.map inX=L at *
 refine dcZ Tryd.func21 ?_
 simp only [go_sem]
 iterate 8 ((try (refine drvZ Tryd.func21 ?_;simp only [go_sem,b1,b5,bstr_size,bstr_app,List.length_append]));((with_reducible and_intros)<;>try exact sd);(try first | refine XK.p f1 ok45 ?_ | refine XK.gp f1 ok45 ?_ | refine XK.p f2 ok45 ?_ | refine XK.gp f2 ok45 ?_ | refine XK.p f3 ok46 ?_ | refine XK.gp f3 ok46 ?_))
 exact ret _ _ (by simp)
theorem codeValidI (c:Cd) (h1:c.vars.length≤2000000) (h2:c.arrays.length≤2000000) (h3:c.list.length≤100000000):DC Tryd.prog 20 [.agg (cdC c)] [] (fun r h=>r=DB (codeOK c)∧h=[]):=by
 have hmx:=mx_eq
 cases h:codeOK c with
 | true=>exact codeValidT c (by omega) (by omega) (by omega) h
 | false=>exact codeValidG0 c h1 h2 h3 h
def fmtC (c:Cd):List UInt8:=if codeOK c=true then fmtT c else []
theorem bstr_nil:(⟨#[]⟩:ByteArray)=bstr []:=rfl
theorem formatCodeI (hT:TabY inferInstance) (c:Cd) (h1:c.vars.length≤2000000) (h2:c.arrays.length≤2000000) (h3:c.list.length≤100000000):DC Tryd.prog 8 [.agg (cdC c)] [] (fun r h=>r=DS (bstr (fmtC c))∧h=[]):=by
 have hmx:=mx_eq
 have hv:=codeValidI c h1 h2 h3
 unfold fmtC
 cases hok:codeOK c with
 | true =>
  have hct:=codeTextI hT c (cds_of hok)
  rw [hok] at hv
  simp only [if_true]
  have ret:∀ (hp:Hp),RetOb 0 (fun r h=>r=DS (bstr (fmtT c))∧h=[]) (DS (bstr (fmtT c))) hp:=fun hp=>RetOb.plain (d:=DS _) ⟨rfl,rfl⟩ rfl
  generalize hR:(fun (r:D) (h:List (Option (List C)))=>r=DS (bstr (fmtT c))∧h=[])=R at ret ⊢
  clear hR hok
  generalize fmtT c=T at *
  obtain ⟨vs,ar,l⟩:=c
  simp only [cdC] at hv hct ⊢
  refine dcZ Tryd.func8 ?_
  simp only [go_sem]
  iterate 8 ((try (refine drvZ Tryd.func8 ?_;simp only [go_sem]));((with_reducible and_intros)<;>try exact sd);(try first | refine XK.p hv ok20 ?_ | refine XK.gp hv ok20 ?_ | refine XK.p hct ok21 ?_ | refine XK.gp hct ok21 ?_))
  exact ret _
 | false =>
  rw [hok] at hv
  simp only [Bool.false_eq_true,if_false]
  have ret:∀ (hp:Hp),RetOb 0 (fun r h=>r=DS (bstr [])∧h=[]) (DS (bstr [])) hp:=fun hp=>RetOb.plain (d:=DS _) ⟨rfl,rfl⟩ rfl
  generalize hR:(fun (r:D) (h:List (Option (List C)))=>r=DS (bstr [])∧h=[])=R at ret ⊢
  clear hR hok
  obtain ⟨vs,ar,l⟩:=c
  simp only [cdC] at hv ⊢
  refine dcZ Tryd.func8 ?_
  simp only [go_sem]
  iterate 8 ((try (refine drvZ Tryd.func8 ?_;simp only [go_sem]));((with_reducible and_intros)<;>try exact sd);(try first | refine XK.p hv ok20 ?_ | refine XK.gp hv ok20 ?_))
  exact ret _
open CtL (In Cd kindsOf topOf fOK inOK codeOK)
open CtG (labT ltrL lstT labT_snoc)
theorem b4:(⟨#[76,72,85,88]⟩:ByteArray)=bstr [76,72,85,88]:=rfl
theorem lhux {x:Int} (h:0≤x∧x≤3):(bstr [76,72,85,88]).extract x.toNat (x+1).toNat=bstr [ltrL x]:=by
 have:x=0∨x=1∨x=2∨x=3:=by omega
 rcases this with rfl | rfl | rfl | rfl<;>rfl
theorem fmtLabS (xs:List Int) (hl:xs.length≤1000000) (h:labs xs=true):DC Tryd.prog 16 [.c (isI xs)] [] (fun r h=>r=DS (bstr (labT xs))∧h=[]):=by
 have hmx:=mx_eq
 have hnn:=bstr_nil
 have h4:(bstr [76,72,85,88]).size=4:=rfl
 have ret:∀ (l:List UInt8) (hp:Hp),l=labT xs→RetOb 0 (fun r h=>r=DS (bstr (labT xs))∧h=[]) (DS (bstr l)) hp:=fun l hp e=>by subst e;exact RetOb.plain (d:=DS _) ⟨rfl,rfl⟩ rfl
 generalize hR:(fun (r:D) (h:List (Option (List C)))=>r=DS (bstr (labT xs))∧h=[])=R at ret ⊢
 clear hR
 simp only [labs,List.all_eq_true,Bool.and_eq_true,decide_eq_true_eq] at h
 have hu:isI xs = .isl 1 (xs.map fun x=>[I64 x]):=rfl
 refine dcZ Tryd.func16 ?_
 simp only [go_sem,hnn]
 iterate 3 ((try (refine drvZ Tryd.func16 ?_;simp only [go_sem,hnn]));((with_reducible and_intros)<;>try exact sd))
 refine Go.loopQ (fun i:Nat=>[(0,.c (.isl 1 (xs.map fun x=>[I64 x]))),(3,DS (bstr (labT (xs.take i)))),(4,DI .i64 i)]) (fun _=>[]) 1024 (fun i=>i≤xs.length) (fun i=>xs.length - i) ?_ 0 some [] _ (Nat.zero_le _) ?_
 ·intro i hi again
  rcases Nat.lt_or_ge i xs.length with hlt | hge
  ·obtain ⟨x,hx⟩:∃ x,xs[i]? = some x:=⟨xs[i],by simp [hlt]⟩
   have hxl:(xs.map fun x=>[I64 x])[i]? = some [I64 x]:=by rw [List.getElem?_map,hx];rfl
   have hb:=h x (List.mem_of_getElem? hx)
   have hlv:=labelValidS x
   have hdb:(decide (0≤x) && decide (x≤3))=true:=by simp [hb]
   rw [hdb] at hlv
   have hlh:=lhux hb
   have hsn:=labT_snoc xs i hlt
   rw [show xs.getD i 0=x by simp [List.getD,hx]] at hsn
   have hll:(labT (xs.take i)).length=i:=by simp [labT];omega
   have hnx:bstr (labT (xs.take i))++bstr [ltrL x]=bstr (labT (xs.take (i+1))):=by rw [bstr_app,hsn]
   generalize ltrL x=u at *
   generalize hT1:labT (xs.take i)=T1 at *
   generalize hT2:labT (xs.take (i+1))=T2 at *
   have hln:(xs.map fun x=>[I64 x]).length=xs.length:=by simp
   generalize (xs.map fun x=>[I64 x])=L at *
   refine drvL Tryd.func16 ?_
   simp only [go_sem,hT1,hln,hlt]
   iterate 8 ((try (refine drvZ Tryd.func16 ?_;simp only [go_sem,hln,hlt,hxl,b4,hlh,h4,bstr_size,hll]));((with_reducible and_intros)<;>try exact sd);(try first | refine XK.p hlv ok34 ?_ | refine XK.gp hlv ok34 ?_))
   refine again (i+1) some [] _ hlt (by omega) ?_
   simp only [go_sem,TmOK,DM,DMs,CM,CMs,forall_eq,exists_eq_left,Mq,HpOK,LowOK,hnx,hT2]
   try simp
  ·obtain rfl:i=xs.length:=by omega
   have hn:¬ xs.length<xs.length:=by omega
   simp only [List.take_length]
   have hln:(xs.map fun x=>[I64 x]).length=xs.length:=by simp
   generalize (xs.map fun x=>[I64 x])=L at *
   generalize hT1:labT xs=T1 at *
   refine drvL Tryd.func16 ?_
   simp only [go_sem,hln,hn]
   iterate 3 ((try (refine drvZ Tryd.func16 ?_;simp only [go_sem,hln,hn]));((with_reducible and_intros)<;>try exact sd))
   exact ret _ _ rfl
 ·simp only [go_sem,TmOK,DM,DMs,CM,CMs,forall_eq,exists_eq_left,Mq,HpOK,LowOK]
  simp [labT]
theorem nm_at' {op:Int} (h:1≤op∧op≤13):([] :: nmL)[op.toNat]? = some (nmT op):=by
 have key:op=1∨op=2∨op=3∨op=4∨op=5∨op=6∨op=7∨op=8∨op=9∨op=10∨op=11∨op=12∨op=13:=by omega
 rcases key with rfl | rfl | rfl | rfl | rfl | rfl | rfl | rfl | rfl | rfl | rfl | rfl | rfl<;>rfl
theorem lineS (x:In) (hx:InS x):DC Tryd.prog 17 [.agg (inX x)] [] (fun r h=>r=DS (bstr (lineT x++[10]))∧h=[]):=by
 have hmx:=mx_eq
 have how:=l6NamesS
 have hfd:=l6FieldsS x.op hx.1
 have hpa:=l6PartsS x
 have hat:=hx.at
 have hpl:=prT_len hx
 have hnl:=(nm_at hx.1).2
 have hnm:=nm_at' hx.1
 have hna:=narg_le x.op
 have ho:=hx.1
 have hnn:=bstr_nil
 have hdc:∀ n:Int,0≤n∧n≤999→DC Tryd.prog 38 [DI .i64 n] [] (fun r h=>r=DS (bstr (Lib.itoa n))∧h=[]):=fun n h=>by
  have:=decD n.toNat (by omega)
  rwa [Int.toNat_of_nonneg h.1] at this
 have ret:∀ (l:List UInt8) (hp:Hp),l=lineT x++[10]→RetOb 0 (fun r h=>r=DS (bstr (lineT x++[10]))∧h=[]) (DS (bstr l)) hp:=fun l hp e=>by subst e;exact RetOb.plain (d:=DS _) ⟨rfl,rfl⟩ rfl
 generalize hR:(fun (r:D) (h:List (Option (List C)))=>r=DS (bstr (lineT x++[10]))∧h=[])=R at ret ⊢
 clear hR
 unfold lineT at ret
 have hnar:(sls x.op).size=narg x.op:=rfl
 obtain ⟨op,a,b,c',d⟩:=x
 have hlL:(([] :: nmL).map fun s=>[C.v (.string (bstr s))]).length=14:=rfl
 have hnm2:(([] :: nmL).map fun s=>[C.v (.string (bstr s))])[op.toNat]? = some [.v (.string (bstr (nmT op)))]:=by rw [List.getElem?_map,hnm];rfl
 simp only [inX,strD,isI,List.map_cons (a:=a),List.map_cons (a:=b),List.map_cons (a:=c'),List.map_cons (a:=d),List.map_nil] at hfd hpa how hnl hna ho hat hpl hnar ret ⊢
 generalize (([] :: nmL).map fun s=>[C.v (.string (bstr s))])=NL at *
 have hlt:op.toNat<14:=by omega
 have prs:=prT_succ ⟨op,a,b,c',d⟩
 simp only at prs
 have pr0:prT ⟨op,a,b,c',d⟩ 0=[]:=rfl
 generalize sls op=S at *
 generalize nmT op=T at *
 generalize narg op=N at *
 generalize prT ⟨op,a,b,c',d⟩=P at *
 refine dcZ Tryd.func17 ?_
 simp only [go_sem,hnn]
 iterate 6 ((try (refine drvZ Tryd.func17 ?_;simp only [go_sem,hnn,hlL,hnm2]));((with_reducible and_intros)<;>try exact sd);(try first | refine XK.p how ok35 ?_ | refine XK.gp how ok35 ?_ | refine XK.p hfd ok36 ?_ | refine XK.gp hfd ok36 ?_ | refine XK.p hpa ok37 ?_ | refine XK.gp hpa ok37 ?_))
 refine Go.loopQ (fun i : Nat => [(1, .c (.ptr 0 0)), (3, DS (bstr (T ++ P i))), (4, DS S), (5, .c (.isl 1 [[I64 a], [I64 b], [I64 c'], [I64 d]])), (6, DI .i64 i)]) (fun _ => [(0, some [I64 op, I64 a, I64 b, I64 c', I64 d])])
  2048 (fun i=>i≤N) (fun i=>N - i) ?_ 0 some [] _ (Nat.zero_le _) ?_
 ·intro i hi again
  rcases Nat.lt_or_ge i N with hlt4 | hge
  ·have hx:[[I64 a],[I64 b],[I64 c'],[I64 d]][i]? = some [I64 ([a,b,c',d].getD i 0)]:=by
    have:i=0∨i=1∨i=2∨i=3:=by omega
    rcases this with rfl | rfl | rfl | rfl<;>rfl
   have hlS:i<S.size:=by omega
   have hlt2:i < [[I64 a],[I64 b],[I64 c'],[I64 d]].length:=show i<4 by omega
   have hbd:=hat i
   have hdc:=hdc _ hbd
   have hil:=itoa_len hbd
   have hpi:=hpl i
   have hps:=prs i
   generalize [a,b,c',d].getD i 0=n at *
   generalize [[I64 a],[I64 b],[I64 c'],[I64 d]]=fl at *
   have hfin:bstr (T++P i++[32]++Lib.itoa n)=bstr (T++P (i+1)):=by rw [hps];simp
   refine drvL Tryd.func17 ?_
   simp only [go_sem,hlS]
   iterate 8 ((try (refine drvZ Tryd.func17 ?_;simp only [go_sem,hx,hlS,hlt2,b1,bstr_size,bstr_app,List.length_append]));((with_reducible and_intros)<;>try exact sd);(try first | refine XK.p hdc ok38 ?_ | refine XK.gp hdc ok38 ?_))
   refine again (i+1) some [] _ hlt4 (show N - (i+1)<N - i by omega) ?_
   simp only [go_sem,TmOK,DM,DMs,CM,CMs,forall_eq,exists_eq_left,Mq,HpOK,LowOK,hfin]
   try simp
  ·obtain rfl:i=N:=by omega
   have hnS:¬ i<S.size:=by omega
   have hpi:=hpl i
   clear again
   refine drvL Tryd.func17 ?_
   simp only [go_sem,hnS]
   iterate 5 ((try (refine drvZ Tryd.func17 ?_;simp only [go_sem,hnS,b1,bstr_size,bstr_app,List.length_append]));((with_reducible and_intros)<;>try exact sd))
   exact ret _ _ rfl
 ·simp only [go_sem,TmOK,DM,DMs,CM,CMs,forall_eq,exists_eq_left,Mq,HpOK,LowOK]
  try simp [pr0]
theorem listT_take {l:List In} {i:Nat} {x:In} (h:l[i]? = some x):listT (l.take (i+1))=listT (l.take i)++(lineT x++[10]):=by
 unfold listT
 rw [List.take_add_one,h]
 simp
theorem formatCodeS (c:Cd) (h1:c.vars.length≤2000000) (h2:c.arrays.length≤2000000) (h3:c.list.length≤100000000):DC Tryd.prog 6 [.agg (cdC c)] [] (fun r h=>r=DS (bstr (fmtC c))∧h=[]):=by
 have hmx:=mx_eq
 have hnn:=bstr_nil
 have hv:=codeValidS c h1 h2 h3
 unfold fmtC
 cases hok:codeOK c with
 | false =>
  rw [hok] at hv
  simp only [Bool.false_eq_true,if_false]
  have ret:∀ (hp:Hp),RetOb 0 (fun r h=>r=DS (bstr [])∧h=[]) (DS (bstr [])) hp:=fun hp=>RetOb.plain (d:=DS _) ⟨rfl,rfl⟩ rfl
  generalize hR:(fun (r:D) (h:List (Option (List C)))=>r=DS (bstr [])∧h=[])=R at ret ⊢
  clear hR hok
  obtain ⟨vs,ar,l⟩:=c
  simp only [cdC] at hv ⊢
  refine dcZ Tryd.func6 ?_
  simp only [go_sem,hnn]
  iterate 8 ((try (refine drvZ Tryd.func6 ?_;simp only [go_sem,hnn]));((with_reducible and_intros)<;>try exact sd);(try first | refine XK.p hv ok15 ?_ | refine XK.gp hv ok15 ?_))
  exact ret _
 | true =>
  rw [hok] at hv
  simp only [if_true]
  have hS:=cds_of hok
  have f1:=fmtLabS c.vars (by have:=hS.nv;omega) hS.lv
  have f2:=fmtLabS c.arrays (by have:=hS.na;omega) hS.la
  have n1:=labT_len c.vars
  have n2:=labT_len c.arrays
  have q1:=hS.nv
  have q2:=hS.na
  have q3:=hS.nl
  have hin:=hS.ins
  have ret:∀ (l:List UInt8) (hp:Hp),l=fmtT c→RetOb 0 (fun r h=>r=DS (bstr (fmtT c))∧h=[]) (DS (bstr l)) hp:=fun l hp e=>by subst e;exact RetOb.plain (d:=DS _) ⟨rfl,rfl⟩ rfl
  generalize hR:(fun (r:D) (h:List (Option (List C)))=>r=DS (bstr (fmtT c))∧h=[])=R at ret ⊢
  unfold fmtT at ret
  clear hR hok hS
  obtain ⟨vs,ar,l⟩:=c
  simp only [cdC] at hv f1 f2 n1 n2 q1 q2 q3 hin ret ⊢
  have hlL:(l.map inX).length=l.length:=by simp
  have hxs:∀ i,(l.map inX)[i]? = (l[i]?).map inX:=fun i=>by rw [List.getElem?_map]
  generalize l.map inX=L at *
  generalize labT vs=T1 at *
  generalize labT ar=T2 at *
  refine dcZ Tryd.func6 ?_
  simp only [go_sem,hnn]
  iterate 8 ((try (refine drvZ Tryd.func6 ?_;simp only [go_sem,hnn,b1,b5,bstr_size,bstr_app,List.length_append]));((with_reducible and_intros)<;>try exact sd);(try first | refine XK.p hv ok15 ?_ | refine XK.gp hv ok15 ?_ | refine XK.p f1 ok16 ?_ | refine XK.gp f1 ok16 ?_ | refine XK.p f2 ok16 ?_ | refine XK.gp f2 ok16 ?_))
  generalize hH:[99,111,100,101,32]++T1++[47]++T2++[10]=H at *
  have hHl:H.length≤100:=by rw [← hH];simp only [List.length_append,List.length_cons,List.length_nil];omega
  refine Go.loopQ (fun i : Nat => [(1, .c (.ptr 0 0)), (3, DS (bstr (H ++ listT (l.take i)))), (4, DI .i64 i)]) (fun _ => [(0, some [isI vs, isI ar, .isl 5 L])])
   1024 (fun i=>i≤l.length) (fun i=>l.length - i) ?_ 0 some [] _ (Nat.zero_le _) ?_
  ·intro i hi again
   rcases Nat.lt_or_ge i l.length with hlt | hge
   ·obtain ⟨x,hx⟩:∃ x,l[i]? = some x:=⟨l[i],by simp [hlt]⟩
    have hxl:L[i]? = some (inX x):=by rw [hxs,hx];rfl
    have hmx':=hin x (List.mem_of_getElem? hx)
    have hli:=lineS x hmx'
    have hle:=lineT_len hmx'
    have htl:=listT_len (l:=l.take i) fun y hy=>hin y (List.mem_of_mem_take hy)
    have htn:(l.take i).length=i:=by simp;omega
    have hsn:=listT_take hx
    have hnx:bstr (H++listT (l.take i)++(lineT x++[10]))=bstr (H++listT (l.take (i+1))):=by rw [hsn];simp
    generalize hA:listT (l.take i)=A at *
    generalize hB:listT (l.take (i+1))=B at *
    generalize hC:lineT x++[10]=Ln at *
    have hCl:Ln.length≤27:=by rw [← hC];simp;omega
    rw [htn] at htl
    obtain ⟨op,xa,xb,xc,xd⟩:=x
    simp only [inX] at hxl hli
    refine drvL Tryd.func6 ?_
    simp only [go_sem,hA,hlL,hlt]
    iterate 8 ((try (refine drvZ Tryd.func6 ?_;simp only [go_sem,hlL,hlt,hxl,bstr_size,bstr_app,List.length_append]));((with_reducible and_intros)<;>try exact sd);(try first | refine XK.p hli ok17 ?_ | refine XK.gp hli ok17 ?_))
    refine again (i+1) some [] _ hlt (by omega) ?_
    simp only [go_sem,TmOK,DM,DMs,CM,CMs,forall_eq,exists_eq_left,Mq,HpOK,LowOK,hnx,hB]
    try simp
   ·obtain rfl:i=l.length:=by omega
    have hn:¬ l.length<l.length:=by omega
    simp only [List.take_length]
    clear again
    generalize listT l=A at *
    refine drvL Tryd.func6 ?_
    simp only [go_sem,hlL,hn]
    iterate 5 ((try (refine drvZ Tryd.func6 ?_;simp only [go_sem,hlL,hn]));((with_reducible and_intros)<;>try exact sd))
    exact ret _ _ rfl
  ·simp only [go_sem,TmOK,DM,DMs,CM,CMs,forall_eq,exists_eq_left,Mq,HpOK,LowOK]
   have l0:listT []=[]:=rfl
   try simp [l0,← hH]
open CtL (In Cd)
def TK (t:TypeId):Prop:=t ∈ ([3,22,67,23,25]:List TypeId)
theorem clK:Cl Tryd.prog TK:=⟨fun t ht=>by
 simp only [TK,List.mem_cons,List.not_mem_nil,or_false] at ht
 rcases ht with rfl | rfl | rfl | rfl | rfl
 ·exact .inl ⟨_,Tryd.underlying3⟩
 ·exact .inr (.inr (.inl ⟨_,Tryd.underlying22,by simp [TK],of_decide_eq_true (by kernel_rfl),of_decide_eq_true (by kernel_rfl)⟩))
 ·exact .inr (.inr (.inr ⟨_,Tryd.underlying67,by kernel_rfl,by simp [TK]⟩))
 ·exact .inr (.inr (.inl ⟨_,Tryd.underlying23,by simp [TK],of_decide_eq_true (by kernel_rfl),of_decide_eq_true (by kernel_rfl)⟩))
 ·exact .inr (.inr (.inr ⟨_,Tryd.underlying25,by kernel_rfl,by simp [TK]⟩))⟩
theorem lawXFC (hT:TabY inferInstance) (p:Cd) (hp:CdB p):DC Tryd.prog 3 [.agg (cdC p)] [] (fun d h=>d=DB true∧h=[]):=by
 have hmx:=mx_eq
 have ret:∀ hp:Hp,RetOb 0 (fun d h=>d=DB true∧h=[]) (DB true) hp:=fun hp=>RetOb.plain (d:=DB true) ⟨rfl,rfl⟩ rfl
 generalize hRR:(fun (d:D) (h:List (Option (List C)))=>d=DB true∧h=[])=R at ret ⊢
 have z1:=szCode_c p hp 1048576 (by omega) (by omega)
 by_cases q1:((szC p:Nat):Int)≤1048576
 ·rw [subZ,if_pos q1] at z1
  have g1:((1048576:Int) - (szC p:Int)<0)=False:=eq_false (by omega)
  have np:=cdN_of (c:=p) (by omega)
  have c1:=toCode_c p np
  have e1:=eqCode_c p hp
  have hbs:=formatCodeS p (by have:=np.nv;omega) (by have:=np.na;omega) (by have:=np.nl;omega)
  have hbi:=formatCodeI hT p (by have:=np.nv;omega) (by have:=np.na;omega) (by have:=np.nl;omega)
  generalize bstr (fmtC p)=k at *
  generalize szC p=s1 at *
  clear np hp
  obtain ⟨vs,ar,l⟩:=p
  simp only [cdC] at *
  refine dcZ Tryd.func3 ?_
  simp only [go_sem,g1,bne_self_eq_false]
  iterate 30 ((try (refine drvZ Tryd.func3 ?_;simp only [go_sem,g1,bne_self_eq_false]));((with_reducible and_intros)<;>try exact sd);(try first | refine XK.p z1 ok5 ?_ | refine XK.gp z1 ok5 ?_ | refine XK.p c1 ok7 ?_ | refine XK.gp c1 ok7 ?_ | refine XK.p hbs ok6 ?_ | refine XK.gp hbs ok6 ?_ | refine XK.p hbi ok8 ?_ | refine XK.gp hbi ok8 ?_ | refine XK.p e1 ok9 ?_ | refine XK.gp e1 ok9 ?_))
  exact ret _
 ·rw [subZ,if_neg q1] at z1
  clear hp q1
  obtain ⟨vs,ar,l⟩:=p
  simp only [cdC] at *
  refine dcZ Tryd.func3 ?_
  simp only [go_sem]
  iterate 8 ((try (refine drvZ Tryd.func3 ?_;simp only [go_sem]));((with_reducible and_intros)<;>try exact sd);(try first | refine XK.p z1 ok5 ?_ | refine XK.gp z1 ok5 ?_))
  exact ret _
end Go.Proofs.YtoakidkcppinpaaDoor.CtD
