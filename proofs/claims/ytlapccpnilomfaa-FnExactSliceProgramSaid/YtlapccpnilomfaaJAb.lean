/- An operation that only reads, as a function on plain data ('pop'), and that the model's operation does just that ('pop_sound'). -/
import Derived.Laws.StructEq
import Derived.Test.YtlapccpnilomfaaJAa
set_option linter.unusedVariables false
set_option linter.unusedSimpArgs false
set_option linter.unusedSectionVars false
set_option maxHeartbeats 16000000
set_option maxRecDepth 100000
namespace Go.CT
variable [Yn]
def tbool (P:Program) (t:TypeId):Bool:=match P.underlying t with | some .bool=>true | _=>false
def tifc (P:Program) (t:TypeId):Bool:=match P.underlying t with | some (.interface _)=>true | _=>false
def tstring (P:Program) (t:TypeId):Bool:=match P.underlying t with | some .string=>true | _=>false
def grab (cs:List C) (off n:Nat) (g:Bool):Option (Prop × D) :=
  match g with
  | true=>some (off+n≤cs.length,.agg ((cs.drop off).take n))
  | false=>match n with
    | 1=>(match cs[off]? with | some c=>some (True,.c c) | none=>none)
    | _=>none
def islen (P : Program) (t : TypeId) : D → Option Nat
  | .c (.isl _ xs)=>if (tslice P t).isSome then some xs.length else none
  | .c (.msl _ _ _ len)=>if (tslice P t).isSome then some len else none
  | .c (.v (.string s))=>if tstring P t then some s.size else none
  | .c (.v (.slice _ n _))=>if (tslice P t).isSome then some n else none
  | .c .z=>if (tslice P t).isSome then some 0 else none
  | _=>none
def putCells (cs : List C) (off : Nat) : List C → List C
  | []=>cs
  | c :: r=>putCells (cs.set off c) (off+1) r
def bld (P : Program) (s : TypeId) (e : Operand → Option D) : List (Nat × Operand) → List C → Option (List C)
  | [],cs=>some cs
  | (f,x) :: r,cs =>
    match tfield P s f with
    | some (o,ft)=>(match e x with
      | some d=>(match d.cells with
        | some ds=>if tsz P ft=some ds.length∧o+ds.length≤cs.length then bld P s e r (putCells cs o ds) else none
        | none=>none)
      | none=>none)
    | none=>none
def tstruct (P:Program) (t:TypeId):Option (List Value) :=
  match P.underlying t with
  | some (.struct fs)=>if fs.toList.all (fun x=>(tsz P x.type).isSome) then (match tzero P t with | some zs=>if zs.all one then some zs else none | none=>none) else none
  | _=>none
def bnd (e:Operand→Option D) (x:Option Operand) (dflt:Int):Option Int :=
  match x with
  | none=>some dflt
  | some x=>(match e x with | some (.c (.v (.int _ n)))=>some n | _=>none)
def cellsOf (e : Operand → Option D) : List Operand → Option (List C)
  | []=>some []
  | x :: r=>(match e x,cellsOf e r with | some (.c c),some cs=>some (c :: cs) | _,_=>none)
def sameInts : List C → List C → Option Bool
  | [],[]=>some true
  | .v (.int k a) :: r,.v (.int k' b) :: r'=>if k=k' then (sameInts r r').map fun q=>decide (a=b) && q else none
  | _,_=>none
def dnil : D → Option (Prop × Bool)
  | .c (.isl _ xs)=>some (xs ≠ [],false)
  | .c (.msl _ _ _ len)=>some (0<len,false)
  | .c (.v (.slice a _ _))=>some (True,a.isNone)
  | _=>none
def fieldsInts (P : Program) : Nat → List Field → Option (List IntKind)
  | _,[]=>some []
  | i, f :: r => if f.name ≠ "_" ∧ f.offset = i then (match tint P f.type, fieldsInts P (i + 1) r with | some k, some ks => some (k :: ks) | _, _ => none) else none
def tints (P:Program) (t:TypeId):Option Nat :=
  match P.underlying t with
  | some (.struct fs)=>if P.stoodInHeld t=false∧P.eqGuardType P.depth t=false then (fieldsInts P 0 fs.toList).map (·.length) else none
  | _=>none
def pop (P : Program) (e : Operand → Option D) (hp : Hp) : Op → Option (Prop × D)
  | .move x | .assign x=>(match e x with | some d=>some (True,d) | none=>none)
  | .load t x=>(match e x,tagg P t,tsz P t with
    | some (.c (.ptr k off)),some g,some n=>(match hp k with | some (some cs)=>grab cs off n g | _=>none)
    | some (.c (.eptr cs)),some g,some n=>grab cs 0 n g
    | _,_,_=>none)
  | .nilCheck x=>(match e x with
    | some (.c (.ptr k off))=>some (True,.c (.ptr k off))
    | some (.c (.eptr cs))=>some (True,.c (.eptr cs))
    | some (.c (.clo f cs))=>some (True,.c (.clo f cs))
    | some (.c (.met f cs))=>some (True,.c (.met f cs))
    | _=>none)
  | .binOp op t x y _=>(match e x,e y with
    | some (.c (.v (.bool a))),some (.c (.v (.bool b)))=>if tbool P t=true then dbin op (DB a) (DB b) else none
    | some (.c (.v .nilIface)),some (.c (.v .nilIface))=>(match y,op with
      | .const _,.eql=>if tifc P t=true then some (True,DB true) else none
      | .const _,.neq=>if tifc P t=true then some (True,DB false) else none
      | _,_=>none)
    | some (.c (.v (.iface _ _))),some (.c (.v .nilIface))=>(match op with
      | .eql=>if tifc P t=true then some (True,DB false) else none
      | .neq=>if tifc P t=true then some (True,DB true) else none
      | _=>none)
    | some (.agg as),some (.agg bs)=>(match tints P t,sameInts as bs with
      | some n,some q=>if as.length=n then (match op with | .eql=>some (True,DB q) | .neq=>some (True,DB (!q)) | _=>none) else none
      | _,_=>none)
    | some dx,some (.c (.v (.slice none _ _)))=>if (tslice P t).isSome then (match dnil dx,op with
      | some (vc,q),.eql=>some (vc,DB q)
      | some (vc,q),.neq=>some (vc,DB (!q))
      | _,_=>none) else none
    | some dx,some dy=>(match dx,dy with
      | .c (.v (.bool _)),_=>none
      | dx,dy=>dbin op dx dy)
    | _,_=>none)
  | .unOp op _ x=>(match e x with | some dx=>dun op dx | none=>none)
  | .convert src dst x=>(match e x,P.underlying src,P.underlying dst with
    | some (.c (.v (.int k n))),some (.int _),some (.int k')=>some (InK k' n,DI k' n)
    | _,_,_=>none)
  | .fieldAddr s x f=>(match e x,tfield P s f with
    | some (.c (.ptr k off)),some (o,_)=>some (True,.c (.ptr k (off+o)))
    | some (.c (.eptr cs)),some (o,_)=>some (o≤cs.length,.c (.eptr (cs.drop o)))
    | _,_=>none)
  | .field s x f=>(match e x,tfield P s f with
    | some (.agg cs),some (o,ft)=>(match tagg P ft,tsz P ft with
      | some g,some n=>grab cs o n g
      | _,_=>none)
    | _,_=>none)
  | .indexAddr t x ix=>(match e x,e ix,(tslice P t).bind (tsz P) with
    | some (.c (.isl sz xs)),some (.c (.v (.int _ i))),some n=>(match xs[i.toNat]? with
      | some cs=>some (0≤i∧sz=n,.c (.eptr cs))
      | none=>none)
    | some (.c (.msl k sz off len)),some (.c (.v (.int _ i))),some n=>some ((0≤i∧i<len)∧sz=n,.c (.ptr k (off+i.toNat * sz)))
    | _,_,_=>none)
  | .index t x ix=>(match e x,e ix with
    | some (.c (.v (.string s))),some (.c (.v (.int _ i)))=>if tstring P t=true then some (0≤i∧i<s.size,DI .u8 (s.data.toList.getD i.toNat 0).toNat) else none
    | _,_=>none)
  | .extract x i=>(match e x with
    | some (.tup ds)=>(match ds[i]? with | some d=>some (True,d) | none=>none)
    | _=>none)
  | .call c=>(match c.callee with
    | .builtin .len=>(match c.args.toList,c.argTypes.toList with
      | [x],[t]=>(match e x with
        | some d=>(match islen P t d with
          | some n=>some (True,DI .i64 n)
          | none=>none)
        | none=>none)
      | _,_=>none)
    | .builtin .max=>(match c.args.toList with
      | [x,y]=>(match e x,e y with
        | some (.c (.v (.int k a))),some (.c (.v (.int _ b)))=>some (True,DI k (if b > a then b else a))
        | _,_=>none)
      | _=>none)
    | .builtin .min=>(match c.args.toList with
      | [x,y]=>(match e x,e y with
        | some (.c (.v (.int k a))),some (.c (.v (.int _ b)))=>some (True,DI k (if b<a then b else a))
        | _,_=>none)
      | _=>none)
    | _=>none)
  | .slice t x lo hi none=>(match e x with
    | some (.c (.v (.string s)))=>(match bnd e lo 0,bnd e hi s.size with
      | some l,some h=>if tstring P t=true then some ((0≤l∧l≤h)∧h≤s.size,DS (s.extract l.toNat h.toNat)) else none
      | _,_=>none)
    | some (.c (.isl sz xs))=>(match bnd e lo 0,bnd e hi xs.length,(tslice P t).bind (tsz P) with
      | some l,some h,some n=>some (((0≤l∧l≤h)∧h≤xs.length)∧sz=n,.c (.isl sz ((xs.drop l.toNat).take (h.toNat - l.toNat))))
      | _,_,_=>none)
    | some (.c (.msl k sz off len))=>(match bnd e lo 0,bnd e hi len,(tslice P t).bind (tsz P) with
      | some l,some h,some n=>some (((0≤l∧l≤h)∧h≤len)∧(l=0∨l<h)∧sz=n,.c (.msl k sz (off+l.toNat * sz) (h.toNat - l.toNat)))
      | _,_,_=>none)
    | _=>none)
  | .slice t x none (some hi) (some mx)=>(match e x,e hi,e mx with
    | some (.c c),some (.c (.v (.int _ 0))),some (.c (.v (.int _ 0)))=>(match c with
      | .isl _ _ | .msl _ _ _ _ | .z | .v (.slice none 0 0)=>if ((tslice P t).bind (tsz P)).isSome then some (True,.c .z) else none
      | _=>none)
    | _,_,_=>none)
  | .makeFunc (.func f) first caps=>(match first.toList with
    | []=>(match cellsOf e caps.toList with
      | some cs=>some (True,.c (.clo f cs))
      | none=>none)
    | [x]=>(match e x,caps.toList with
      | some (.agg cs),[]=>if kfs cs=true then some (True,.c (.met f cs)) else none
      | _,_=>none)
    | _=>none)
  | .build t ps=>(match tstruct P t with
    | some zs=>(match bld P t e ps.toList (zs.map .v) with | some cs=>some (True,.agg cs) | none=>none)
    | none=>none)
  | _=>none
section
variable {P:Program}
theorem rd_ptr {I:Nat→Prop} {w:World} {s:Sg} {x:Value} {k off:Nat} (h:RD I w s x (.c (.ptr k off))):∃ b,s k=some (some b)∧x = .pointer (some ⟨b,off,none⟩):=by
  cases h with | c _ _ h=>cases h with | ptr _ _ b _ h=>exact ⟨b,h,rfl⟩
theorem rd_eptr {I:Nat→Prop} {w:World} {s:Sg} {x:Value} {cs:List C} (h:RD I w s x (.c (.eptr cs))):∃ (b off:Nat) (y:Nat→Value),x = .pointer (some ⟨b,off,none⟩)∧I b ∧
    (∀ j,j<cs.length→w.cell? ⟨b,off+j,none⟩=some (y j))∧∀ j (hj:j<cs.length),RC I w Sg0 (y j) cs[j]:=by
  cases h with | c _ _ h=>cases h with | eptr _ b off _ y hI hc hr=>exact ⟨b,off,y,rfl,hI,hc,hr⟩
theorem RC.any {I:Nat→Prop} {w:World} {x:Value} {c:C} (h:RC I w Sg0 x c) (s:Sg):RC I w s x c :=
  h.mono (fun _ h=>h) (fun _ _=>rfl) (Shp.refl w) (Sg0.le s)
theorem grab_sound {t : TypeId} {g : Bool} {n : Nat} (ht : tagg P t = some g) (hn : tsz P t = some n) {I : Nat → Prop} {w : World} {s : Sg} {cs : List C} {off b o : Nat} {vc : Prop} {d : D}
    (h:grab cs off n g=some (vc,d)) (hvc:vc) (hc:∀ j (h:j<cs.length),∃ y,w.cell? ⟨b,o+j,none⟩=some y∧RC I w s y cs[j]) :
    ∃ v,(Instr.loadAt t (.pointer (some ⟨b,o+off,none⟩))).run P w = .ok v w∧RD I w s v d:=by
  cases g with
  | true =>
    simp only [grab,Option.some.injEq,Prod.mk.injEq] at h
    obtain ⟨rfl,rfl⟩:=h
    have hy:∀ j,∃ y,(h:j<n)→w.cell? ⟨b,o+off+j,none⟩=some y∧RC I w s y (cs[off+j]'(by omega)):=by
      intro j
      by_cases h:j<n
      · obtain ⟨y,h1,h2⟩:=hc (off+j) (by omega)
        exact ⟨y,fun _=>⟨by rw [Nat.add_assoc];exact h1,h2⟩⟩
      · exact ⟨undef,fun h'=>absurd h' h⟩
    let y:=fun j=>(hy j).choose
    have hys:=fun j=>(hy j).choose_spec
    refine ⟨_,run_loadVar ht hn b (o+off) y w (fun j h=>(hys j h).1) (fun h=>by cases h),?_⟩
    simp only [if_true]
    refine .agg _ _ (by simp;omega) fun j h1 h2=>?_
    have hj:j<n:=by simpa using h1
    have:=(hys j hj).2
    simpa [y] using this
  | false =>
    unfold grab at h
    simp only at h
    split at h
    · rename_i _ _
      split at h
      · rename_i c hcc
        simp only [Option.some.injEq,Prod.mk.injEq] at h
        obtain ⟨rfl,rfl⟩:=h
        obtain ⟨hlt,hcc'⟩:=List.getElem?_eq_some_iff.1 hcc
        obtain ⟨y,h1,h2⟩:=hc off hlt
        refine ⟨_,run_loadVar ht hn b (o+off) (fun _=>y) w (fun j h=>?_) (fun _=>rfl),?_⟩
        · have:j=0:=by omega
          subst this
          exact h1
        · simp only [Bool.false_eq_true,if_false]
          exact .c _ _ (hcc' ▸ h2)
      · cases h
    · cases h
theorem live_cells {I : Nat → Prop} {w : World} {s : Sg} {hp : Hp} (H : SimH I w s hp) {k b : Nat} {cs : List C} (hk : hp k = some (some cs)) (hs : s k = some (some b)) :
    ∃ arr T,w.heap[b]? = some (.cells arr T (0,0))∧cs.length≤arr.size∧∀ j (h:j<cs.length),∃ y,arr[j]? = some y∧RC I w s y cs[j]:=by
  rcases H.blk k cs hk with ⟨h1,_⟩ | ⟨b',arr,T,h1,h2,h3,h4,h5⟩
  · rw [hs] at h1;cases h1
  · rw [hs] at h1
    simp only [Option.some.injEq] at h1
    subst h1
    exact ⟨arr,T,h2,h3,h5⟩
theorem part_sound {t : TypeId} {g : Bool} {n : Nat} (ht : tagg P t = some g) (hn : tsz P t = some n) {I : Nat → Prop} {w : World} {s : Sg} {cs : List C} {off : Nat} {vs : Array Value} {vc : Prop} {d : D}
    (h:grab cs off n g=some (vc,d)) (hvc:vc) (hl:vs.size=cs.length) (hr:∀ j (h:j<vs.size) (h':j<cs.length),RC I w s vs[j] cs[j]) :
    ∃ v,(part t vs off).run P w = .ok v w∧RD I w s v d:=by
  simp only [part]
  rw [run_bind _ _ _ _ _ (run_isAgg ht w)]
  cases g with
  | true =>
    simp only [grab,Option.some.injEq,Prod.mk.injEq] at h
    obtain ⟨rfl,rfl⟩:=h
    simp only [if_true]
    rw [run_bind _ _ _ _ _ (run_sizeOf hn w)]
    refine ⟨_,rfl,.agg _ _ (by simp;omega) fun j h1 h2=>?_⟩
    simp at h1 h2
    simpa using hr (off+j) (by omega) (by omega)
  | false =>
    unfold grab at h
    simp only at h
    split at h
    · split at h
      · rename_i c hcc
        simp only [Option.some.injEq,Prod.mk.injEq] at h
        obtain ⟨rfl,rfl⟩:=h
        obtain ⟨hlt,hcc'⟩:=List.getElem?_eq_some_iff.1 hcc
        simp only [Bool.false_eq_true,if_false]
        have:vs[off]? = some (vs[off]'(by omega)):=by simp
        rw [this]
        exact ⟨_,rfl,.c _ _ (hcc' ▸ hr off (by omega) hlt)⟩
      · cases h
    · cases h
theorem run_v {s:Sem Value} {x:Value} {w w':World} (h:s.run P w = .ok x w'):(do pure (Next.value (← s)):Sem Next).run P w = .ok (.value x) w':=by
  rw [run_bind _ _ _ _ _ h];rfl
theorem fieldPlace_run {st : TypeId} {f o : Nat} {ft : TypeId} (h : tfield P st f = some (o, ft)) (b off : Nat) (w : World) :
    (Instr.fieldAt st (.pointer (some ⟨b,off,none⟩)) f).run P w = .ok (.pointer (some ⟨b,off+o,none⟩)) w:=by
  unfold tfield at h
  split at h
  · rename_i fs hu
    simp only [Option.bind_eq_some_iff] at h
    obtain ⟨x,hx,h⟩:=h
    split at h
    · rename_i n hn
      simp only [Option.some.injEq,Prod.mk.injEq] at h
      obtain ⟨rfl,rfl⟩:=h
      simp only [Instr.fieldAt]
      rw [run_bind _ _ _ _ _ (run_underlying hu w)]
      simp only [hx]
      rw [run_bind (x:=(⟨b,off,none⟩:Addr)) (w':=w) _ _ _ (by rfl)]
      simp only [fieldPlace]
      rw [run_bind (x:=(⟨b,off+x.offset,none⟩:Addr)) (w':=w)]
      · rfl
      · rw [run_bind _ _ _ _ _ (run_sizeOf hn w)]
        simp [add_plain,run_pure]
    · cases h
  · cases h
theorem tfield_parts {st:TypeId} {f o:Nat} {ft:TypeId} (h:tfield P st f=some (o,ft)):∃ fs x,P.underlying st=some (.struct fs)∧fs[f]? = some x∧x.offset=o∧x.type=ft:=by
  unfold tfield at h
  split at h
  · rename_i fs hu
    simp only [Option.bind_eq_some_iff] at h
    obtain ⟨x,hx,h⟩:=h
    split at h
    · simp only [Option.some.injEq,Prod.mk.injEq] at h
      exact ⟨fs,x,hu,hx,h.1,h.2⟩
    · cases h
  · cases h
end
section
variable {P:Program}
theorem rd_isl {I : Nat → Prop} {w : World} {s : Sg} {x : Value} {sz : Nat} {xs : List (List C)} (h : RD I w s x (.c (.isl sz xs))) :
    ∃ a cap,x = .slice a xs.length cap∧(xs.length≤cap∧xs.length≤mx)∧(xs=[]∨∃ (b off:Nat) (y:Nat→Nat→Value),a=some ⟨b,off,none⟩∧I b∧(∀ i (h:i<xs.length),(xs[i]).length=sz) ∧
      (∀ i j,i<xs.length→j<sz→w.cell? ⟨b,off+i * sz+j,none⟩=some (y i j))∧∀ i (h:i<xs.length) j (h':j<(xs[i]).length),RC I w Sg0 (y i j) (xs[i])[j]):=by
  cases h with
  | c _ _ h =>
    cases h with
    | isl0 _ a cap _=>exact ⟨a,cap,rfl,⟨Nat.zero_le _,Nat.zero_le _⟩,.inl rfl⟩
    | isl _ b off cap _ _ y hI hl hc hr hcap=>exact ⟨_,cap,rfl,hcap,.inr ⟨b,off,y,rfl,hI,hl,hc,hr⟩⟩
theorem rd_msl {I : Nat → Prop} {w : World} {s : Sg} {x : Value} {k sz off len : Nat} (h : RD I w s x (.c (.msl k sz off len))) :
    (∃ a,x = .slice a 0 0∧s k=some none∧off=0∧len=0) ∨
    ∃ (b cap:Nat) (arr:Array Value) (T:TypeId) (fr:Nat × Nat),x = .slice (some ⟨b,off,none⟩) len cap∧s k=some (some b)∧(len≤cap∧len≤mx)∧w.heap[b]? = some (.cells arr T fr)∧off+cap * sz≤arr.size:=by
  cases h with
  | c _ _ h =>
    cases h with
    | msl0 _ a _ _ h=>exact .inl ⟨a,rfl,h,rfl,rfl⟩
    | msl _ _ b _ _ _ cap arr T fr h hlen hb hcap=>exact .inr ⟨b,cap,arr,T,fr,rfl,h,hlen,hb,hcap⟩
theorem und_string {t:TypeId} (h:tstring P t=true):P.underlying t=some .string:=by
  unfold tstring at h
  split at h
  · rename_i hh;exact hh
  · cases h
theorem rd_z {I:Nat→Prop} {w:World} {s:Sg} {x:Value} (h:RD I w s x (.c .z)):∃ a,x = .slice a 0 0:=by
  cases h with | c _ _ h=>cases h with | z _ a=>exact ⟨a,rfl⟩
theorem islen_sound {I : Nat → Prop} {w : World} {s : Sg} {x : Value} {d : D} {n : Nat} {t : TypeId} (h : RD I w s x d) (hn : islen P t d = some n) :
    (∃ a cap el,x = .slice a n cap∧P.underlying t=some (.slice el))∨∃ b,x = .string b∧b.size=n∧P.underlying t=some .string:=by
  unfold islen at hn
  split at hn
  · split at hn
    · rename_i ht
      obtain ⟨el,hel⟩:=Option.isSome_iff_exists.1 ht
      obtain ⟨a,cap,h1,_⟩:=rd_isl h
      simp only [Option.some.injEq] at hn
      exact .inl ⟨a,cap,el,hn ▸ h1,und_slice hel⟩
    · cases hn
  · split at hn
    · rename_i ht
      obtain ⟨el,hel⟩:=Option.isSome_iff_exists.1 ht
      simp only [Option.some.injEq] at hn
      rcases rd_msl h with ⟨a,h1,_,_,h2⟩ | ⟨b,cap,_,_,_,h1,_⟩
      · exact .inl ⟨a,0,el,by rw [h1,← hn,h2],und_slice hel⟩
      · exact .inl ⟨_,cap,el,hn ▸ h1,und_slice hel⟩
    · cases hn
  · split at hn
    · rename_i ht
      obtain ⟨h1,_⟩:=rd_scalar h
      simp only [Option.some.injEq] at hn
      exact .inr ⟨_,h1,hn,und_string ht⟩
    · cases hn
  · split at hn
    · rename_i ht
      obtain ⟨el,hel⟩:=Option.isSome_iff_exists.1 ht
      obtain ⟨h1,_⟩:=rd_scalar h
      simp only [Option.some.injEq] at hn
      exact .inl ⟨_,_,el,by rw [h1,← hn],und_slice hel⟩
    · cases hn
  · split at hn
    · rename_i ht
      obtain ⟨el,hel⟩:=Option.isSome_iff_exists.1 ht
      obtain ⟨a,h1⟩:=rd_z h
      simp only [Option.some.injEq] at hn
      exact .inl ⟨a,0,el,by rw [h1,← hn],und_slice hel⟩
    · cases hn
  · cases hn
def RCs (I:Nat→Prop) (w:World) (s:Sg) (arr:Array Value) (cs:List C):Prop:=arr.size=cs.length∧∀ j (h:j<arr.size) (h':j<cs.length),RC I w s arr[j] cs[j]
theorem rd_clo {I : Nat → Prop} {w : World} {s : Sg} {x : Value} {f : FuncId} {cs : List C} (h : RD I w s x (.c (.clo f cs))) :
    ∃ vs,x = .func (.func f) #[] vs∧RCs I w s vs cs:=by
  cases h with | c _ _ h=>cases h with | clo _ _ _ vs hl hr=>exact ⟨vs,rfl,hl,hr⟩
theorem rd_met {I : Nat → Prop} {w : World} {s : Sg} {x : Value} {f : FuncId} {cs : List C} (h : RD I w s x (.c (.met f cs))) :
    ∃ vs,x = .func (.func f) #[.agg vs] #[]∧RCs I w Sg0 vs cs:=by
  cases h with | c _ _ h=>cases h with | met _ _ _ vs hl hr=>exact ⟨vs,rfl,hl,hr⟩
theorem RC.kf0 {I:Nat→Prop} {w:World} {s:Sg} {x:Value} {c:C} (h:RC I w s x c) (hk:kf c=true):RC I w Sg0 x c:=by
  cases h with
  | v _ _ h1=>exact .v _ _ h1
  | unk _ _ h1=>exact .unk _ _ h1
  | z _ a=>exact .z _ a
  | isl0 _ a cap sz=>exact .isl0 _ a cap sz
  | isl _ b off cap sz xs y hI hl hc hr hcap=>exact .isl _ b off cap sz xs y hI hl hc hr hcap
  | num _ k n=>exact .num _ k n
  | csl0 _ a cap sz y=>exact .csl0 _ a cap sz y
  | csl _ b off len cap sz xs y h hN=>exact .csl _ b off len cap sz xs y (h.isl_any Sg0) hN
  | eptr _ b off cs y hI hc hr=>exact .eptr _ b off cs y hI hc hr
  | met _ f cs vs hl hr=>exact .met _ f cs vs hl hr
  | _=>simp [kf] at hk
theorem kfs_get : ∀ {cs : List C}, kfs cs = true → ∀ j (h : j < cs.length), kf cs[j] = true
  | c :: r,h,0,_=>by simp only [kfs,Bool.and_eq_true] at h;exact h.1
  | c :: r,h,j+1,h2=>by simp only [kfs,Bool.and_eq_true] at h;exact kfs_get h.2 j (by simpa using h2)
theorem putCells_length : ∀ (ds cs : List C) (off : Nat), (putCells cs off ds).length = cs.length
  | [],_,_=>rfl
  | d :: r,cs,off=>by simp only [putCells];rw [putCells_length r];simp
theorem putCells_get:∀ (ds cs:List C) (off j:Nat),off+ds.length≤cs.length →
    (putCells cs off ds)[j]? = if off≤j∧j<off+ds.length then ds[j - off]? else cs[j]?
  | [],cs,off,j,_=>by simp only [putCells,List.length_nil];rw [if_neg (by omega)]
  | d :: r,cs,off,j,h=>by
    simp only [List.length_cons] at h
    simp only [putCells]
    rw [putCells_get r _ _ _ (by simp;omega)]
    simp only [List.length_cons,List.getElem?_set]
    by_cases e:j=off
    · subst e
      rw [if_neg (by omega),if_pos rfl,if_pos (by omega),if_pos (by omega)]
      simp
    · by_cases h2:off+1≤j∧j<off+1+r.length
      · rw [if_pos h2,if_pos (by omega)]
        rw [show j - off=(j - (off+1))+1 from by omega,List.getElem?_cons_succ]
      · rw [if_neg h2,if_neg (fun e'=>e e'.symm),if_neg (by omega)]
theorem RCs.get {I:Nat→Prop} {w:World} {s:Sg} {arr:Array Value} {cs:List C} (h:RCs I w s arr cs) {j:Nat} {v:Value} {c:C} (hv:arr[j]? = some v) (hc:cs[j]? = some c):RC I w s v c:=by
  obtain ⟨h1,e1⟩:=Array.getElem?_eq_some_iff.1 hv
  obtain ⟨h2,e2⟩:=List.getElem?_eq_some_iff.1 hc
  rw [← e1,← e2]
  exact h.2 j h1 h2
theorem RCs.put {I : Nat → Prop} {w : World} {s : Sg} {arr : Array Value} {cs : List C} (h : RCs I w s arr cs) {x : Array Value} {ds : List C} (hx : RCs I w s x ds) {off : Nat} (ho : off + ds.length ≤ cs.length) :
    RCs I w s (setCells arr off x.toList) (putCells cs off ds):=by
  have hxl:x.toList.length=ds.length:=by simpa using hx.1
  refine ⟨by rw [size_setCells,putCells_length,h.1],fun j h1 h2=>?_⟩
  have g1:=get_setCells x.toList arr off j (by rw [hxl,h.1];exact ho)
  have g2:=putCells_get ds cs off j ho
  rw [hxl] at g1
  have e1:(setCells arr off x.toList)[j]? = some (setCells arr off x.toList)[j]:=by simp [h1]
  have e2:(putCells cs off ds)[j]? = some (putCells cs off ds)[j]:=by simp [h2]
  rw [e1] at g1
  rw [e2] at g2
  by_cases hj:off≤j∧j<off+ds.length
  · rw [if_pos hj] at g1 g2
    exact hx.get (by rw [Array.getElem?_toList] at g1;exact g1.symm) g2.symm
  · rw [if_neg hj] at g1 g2
    exact h.get g1.symm g2.symm
theorem fill_foldl (x:Array Value) (off:Nat):∀ (l:List Value) (i:Nat) (arr:Array Value),
    (l.zipIdx i).foldl (fun cs (p:Value × Nat)=>cs.setIfInBounds (off+p.2) p.1) arr=setCells arr (off+i) l
  | [],_,_=>rfl
  | v :: r,i,arr=>by
    simp only [List.zipIdx_cons,List.foldl_cons,setCells]
    rw [fill_foldl x off r (i+1)]
    rfl
theorem fill_cons (place : Nat → Option (Nat × Nat)) (cells : Array Value) (i : Nat) (v : Value) (rest : List (Nat × Value)) (off size : Nat) (hp : place i = some (off, size)) (hs : v.cells.size = size)
    (hl:off+v.cells.size≤cells.size):Instr.fill place cells ((i,v) :: rest)=Instr.fill place (setCells cells off v.cells.toList) rest:=by
  simp only [Instr.fill,hp]
  have hneg:¬ ((decide (v.cells.size ≠ size) || decide (off+v.cells.size > cells.size))=true):=by
    simp only [Bool.or_eq_true,decide_eq_true_eq]
    rintro (h | h)
    · exact h hs
    · omega
  rw [if_neg hneg]
  congr 1
  have:=fill_foldl v.cells off v.cells.toList 0 cells
  rw [Nat.add_zero] at this
  rw [← this,← Array.foldl_toList]
  simp
theorem bld_sound {I : Nat → Prop} {w : World} {s : Sg} {e : Operand → Option D} {ρ : Operand → Value} (he : ∀ x d, e x = some d → RD I w s (ρ x) d) {st : TypeId} (fs : Array Field) (hu : P.underlying st = some (.struct fs))
    (place:Nat→Option (Nat × Nat)) (hpl:∀ f x n,fs[f]? = some x→tsz P x.type=some n→place f=some (x.offset,n)) :
    ∀ (ps:List (Nat × Operand)) (cs cs':List C) (arr:Array Value),bld P st e ps cs=some cs'→RCs I w s arr cs →
      ∃ arr',Instr.fill place arr (ps.map fun p=>(p.1,ρ p.2))=some arr'∧RCs I w s arr' cs'
  | [],cs,cs',arr,h,hr=>by
    simp only [bld,Option.some.injEq] at h
    subst h
    exact ⟨arr,rfl,hr⟩
  | (f,x) :: r,cs,cs',arr,h,hr=>by
    unfold bld at h
    split at h
    · rename_i o ft hf
      split at h
      · rename_i d hd
        split at h
        · rename_i ds hds
          split at h
          · rename_i hc
            obtain ⟨fs',fx,hu',hx,ho,hft⟩:=tfield_parts hf
            rw [hu] at hu'
            simp only [Option.some.injEq,TypeDesc.struct.injEq] at hu'
            subst hu'
            have hrd:=(he x d hd).cells hds
            have hv:RCs I w s (ρ x).cells ds:=hrd
            have hpf:=hpl f fx ds.length hx (by rw [hft];exact hc.1)
            simp only [List.map_cons]
            rw [fill_cons place arr f (ρ x) _ o ds.length (by rw [hpf,ho]) hrd.1 (by rw [hrd.1,hr.1];exact hc.2)]
            exact bld_sound he fs hu place hpl r _ cs' _ h (hr.put hv hc.2)
          · cases h
        · cases h
      · cases h
    · cases h
theorem run_mapM_places (fs : List Field) (w : World) (h : ∀ x ∈ fs, (tsz P x.type).isSome) :
    ∃ l:List (Nat × Nat),(fs.mapM (fun f=>do pure (f.offset,← sizeOf f.type):Field→Sem (Nat × Nat))).run P w = .ok l w∧l.length=fs.length ∧
      ∀ (i:Nat) (x:Field) (n:Nat),fs[i]? = some x→tsz P x.type=some n→l[i]? = some (x.offset,n):=by
  induction fs with
  | nil=>exact ⟨[],by simp [List.mapM_nil,run_pure],rfl,fun i x n h=>by simp at h⟩
  | cons f r ih =>
    obtain ⟨l,hl,hll,hli⟩:=ih fun x hx=>h x (by simp [hx])
    obtain ⟨n,hn⟩:=Option.isSome_iff_exists.1 (h f (by simp))
    refine ⟨(f.offset,n) :: l,?_,by simp [hll],?_⟩
    · rw [List.mapM_cons]
      rw [run_bind (x:=(f.offset,n)) (w':=w)]
      · rw [run_bind _ _ _ _ _ hl];rfl
      · rw [run_bind _ _ _ _ _ (run_sizeOf hn w)];rfl
    · intro i x m hx hm
      cases i with
      | zero =>
        simp only [List.getElem?_cons_zero,Option.some.injEq] at hx ⊢
        subst hx
        rw [hn] at hm
        simp only [Option.some.injEq] at hm
        rw [hm]
      | succ i=>simpa using hli i x m (by simpa using hx) hm
theorem bnd_sound {I : Nat → Prop} {w : World} {s : Sg} {e : Operand → Option D} {ρ : Operand → Value} (he : ∀ x d, e x = some d → RD I w s (ρ x) d) {x : Option Operand} {dflt n : Int} (h : bnd e x dflt = some n) :
    (x=none∧n=dflt)∨∃ y k,x=some y∧ρ y = .int k n:=by
  unfold bnd at h
  split at h
  · simp only [Option.some.injEq] at h
    exact .inl ⟨rfl,h.symm⟩
  · rename_i y
    split at h
    · rename_i k m hy
      simp only [Option.some.injEq] at h
      subst h
      exact .inr ⟨y,k,rfl,(rd_scalar (he _ _ hy)).1⟩
    · cases h
theorem sliceBound_run {k:IntKind} {i:Int} {y:Nat} {code:BoundsCode} (h0:0≤i) (h1:i≤y) (w:World):(Instr.sliceBound (.int k i) y code).run P w = .ok i.toNat w:=by
  simp only [Instr.sliceBound]
  rw [run_bind (x:=(k,i)) (w':=w) _ _ _ (by rfl)]
  simp only [h0,h1,and_self,if_true]
  rfl
theorem sliceBounds_run {isSlice : Bool} {len cap : Nat} {lo hi : Option Value} {l h : Int} (hlo : (lo = none ∧ l = 0) ∨ ∃ k, lo = some (.int k l)) (hhi : (hi = none ∧ h = len) ∨ ∃ k, hi = some (.int k h))
    (h0:0≤l) (hlh:l≤h) (hc:h≤cap) (hlc:len≤cap) (w:World):(Instr.sliceBounds isSlice len cap lo hi none).run P w = .ok (l.toNat,h.toNat,cap) w:=by
  simp only [Instr.sliceBounds]
  rw [run_bind (x:=cap) (w':=w) _ _ _ (by rfl)]
  rcases hhi with ⟨rfl,rfl⟩ | ⟨k,rfl⟩<;>rcases hlo with ⟨rfl,rfl⟩ | ⟨k',rfl⟩<;>simp only
  · rw [run_bind (x:=len) (w':=w) _ _ _ (by rfl),run_bind (x:=0) (w':=w) _ _ _ (by rfl)]
    simp only [Int.toNat_natCast,Int.toNat_zero]
    rfl
  · rw [run_bind (x:=len) (w':=w) _ _ _ (by rfl),run_bind _ _ _ _ _ (sliceBound_run h0 (by omega) w)]
    simp only [Int.toNat_natCast]
    rfl
  · rw [run_bind _ _ _ _ _ (sliceBound_run (by omega) hc w),run_bind (x:=0) (w':=w) _ _ _ (by rfl)]
    simp only [Int.toNat_zero]
    rfl
  · rw [run_bind _ _ _ _ _ (sliceBound_run (by omega) hc w),run_bind _ _ _ _ _ (sliceBound_run h0 (by omega) w)]
    rfl
theorem rd_cell {I:Nat→Prop} {w:World} {s:Sg} {x:Value} {c:C} (h:RD I w s x (.c c)):RC I w s x c:=by
  cases h with | c _ _ h=>exact h
theorem cellsOf_sound {I:Nat→Prop} {w:World} {s:Sg} {e:Operand→Option D} {ρ:Operand→Value} (he:∀ x d,e x=some d→RD I w s (ρ x) d):∀ (l:List Operand) (cs:List C),cellsOf e l=some cs →
    RCs I w s (l.map ρ).toArray cs
  | [],cs,h=>by
    simp only [cellsOf,Option.some.injEq] at h
    subst h
    exact ⟨rfl,fun j h=>by simp at h⟩
  | x :: r,cs,h=>by
    simp only [cellsOf] at h
    split at h
    · rename_i c cs' hx hr
      simp only [Option.some.injEq] at h
      subst h
      have ih:=cellsOf_sound he r cs' hr
      have h0:RC I w s (ρ x) c:=by
        exact rd_cell (he _ _ hx)
      refine ⟨by have:=ih.1;simp at this ⊢;exact this,fun j h1 h2=>?_⟩
      cases j with
      | zero=>simpa using h0
      | succ j =>
        have h3:=ih.2 j (by simpa using h1) (by simpa using h2)
        rw [List.getElem_toArray] at h3
        rw [List.getElem_toArray]
        exact h3
    · cases h
theorem eqFields_run (d:Nat) (xs ys:Array Value) (w:World):∀ (fs:List Field) (i:Nat) (ks:List IntKind) (cs ds:List C) (q:Bool),fieldsInts P i fs=some ks→sameInts cs ds=some q→cs.length=ks.length →
    (∀ j (h:j<cs.length),∃ x,xs[i+j]? = some x∧∀ y,cs[j] = .v y→x=y)→(∀ j (h:j<ds.length),∃ x,ys[i+j]? = some x∧∀ y,ds[j] = .v y→x=y) →
    (Op.eqFields (d+1) xs ys fs).run P w = .ok q w
  | [],i,ks,cs,ds,q,h,h2,hl,_,_=>by
    simp only [fieldsInts,Option.some.injEq] at h
    subst h
    have:cs=[]:=List.eq_nil_of_length_eq_zero hl
    subst this
    cases ds with
    | nil=>simp only [sameInts,Option.some.injEq] at h2;subst h2;rfl
    | cons a r=>simp [sameInts] at h2
  | f :: fs,i,ks,cs,ds,q,h,h2,hl,hx,hy=>by
    simp only [fieldsInts] at h
    split at h
    · rename_i hf
      split at h
      · rename_i k ks' hk hks
        simp only [Option.some.injEq] at h
        subst h
        match cs,ds,h2 with
        | .v (.int k1 a) :: cs,.v (.int k2 b) :: ds,h2 =>
          simp only [sameInts] at h2
          split at h2
          · rename_i hkk
            subst hkk
            cases hq:sameInts cs ds with
            | none=>rw [hq] at h2;cases h2
            | some q' =>
              rw [hq] at h2
              simp only [Option.map_some,Option.some.injEq] at h2
              obtain ⟨x,hx1,hx2⟩:=hx 0 (by simp)
              obtain ⟨y,hy1,hy2⟩:=hy 0 (by simp)
              have hx3:=hx2 _ rfl
              have hy3:=hy2 _ rfl
              subst hx3 hy3
              have hu:=und_int hk
              have px:(part f.type xs f.offset).run P w = .ok (.int k1 a) w:=by
                simp only [part]
                rw [run_bind _ _ _ _ _ (run_isAgg (b:=false) (by simp [tagg,hu]) w)]
                simp only [Bool.false_eq_true,if_false]
                rw [hf.2,show xs[i]? = some (.int k1 a) from by simpa using hx1]
                rfl
              have py:(part f.type ys f.offset).run P w = .ok (.int k1 b) w:=by
                simp only [part]
                rw [run_bind _ _ _ _ _ (run_isAgg (b:=false) (by simp [tagg,hu]) w)]
                simp only [Bool.false_eq_true,if_false]
                rw [hf.2,show ys[i]? = some (.int k1 b) from by simpa using hy1]
                rfl
              simp only [Op.eqFields]
              rw [if_pos hf.1]
              rw [run_bind _ _ _ _ _ px,run_bind _ _ _ _ _ py,run_bind _ _ _ _ _ (run_equalIn_int w d f.type k1 k a b hu)]
              have ih := eqFields_run d xs ys w fs (i + 1) ks' cs ds q' hks hq (by simpa using hl)
                (fun j hj=>by have:=hx (j+1) (by simpa using hj);simpa [Nat.add_assoc,Nat.add_comm 1 j] using this)
                (fun j hj=>by have:=hy (j+1) (by simpa using hj);simpa [Nat.add_assoc,Nat.add_comm 1 j] using this)
              by_cases hab:a=b
              · subst hab
                simp only [beq_self_eq_true,Bool.not_true,Bool.false_eq_true,if_false]
                rw [ih,← h2]
                simp
              · have:(a == b)=false:=by simp [hab]
                simp only [this,Bool.not_false,if_true]
                rw [← h2]
                simp [hab]
          · cases h2
      · cases h
    · cases h
theorem tints_run {I : Nat → Prop} {w : World} {s : Sg} {t : TypeId} {n : Nat} (ht : tints P t = some n) {vx vy : Value} {cs ds : List C} (hx : RD I w s vx (.agg cs)) (hy : RD I w s vy (.agg ds)) {q : Bool} (h : sameInts cs ds = some q) (hl : cs.length = n) (x y : Operand) (op : BinOp) :
    (Op.equal t vx vy).run P w = .ok q w∧(eqGuard op t x y vx vy).run P w = .ok () w:=by
  unfold tints at ht
  split at ht
  · rename_i fs hu
    split at ht
    · rename_i hc
      simp only [Option.map_eq_some_iff] at ht
      obtain ⟨ks,hks,rfl⟩:=ht
      have key:∀ {v:Value} {cs:List C},RD I w s v (.agg cs)→∃ xs,v = .agg xs∧∀ j (h:j<cs.length),∃ x,xs[0+j]? = some x∧∀ y,cs[j] = .v y→x=y:=fun {v cs} h=>by
        cases h with
        | agg vs cs hl hr =>
          refine ⟨vs,rfl,fun j hj=>⟨vs[j],by simp,fun y hy=>?_⟩⟩
          have h3:=hr j (by omega) hj
          rw [hy] at h3
          generalize vs[j]=z at h3 ⊢
          cases h3
          rfl
      obtain ⟨xs,rfl,h1⟩:=key hx
      obtain ⟨ys,rfl,h2⟩:=key hy
      have hfo:P.fieldsOf t=fs:=by simp [Program.fieldsOf,hu]
      constructor
      · show (Op.equalIn (9999+1) t (.agg xs) (.agg ys)).run P w=_
        rw [run_equalIn_struct w 9999 t xs ys (by rw [hfo];exact hu) hc.1,hfo]
        exact eqFields_run 9998 xs ys w fs.toList 0 ks cs ds q hks h hl h1 h2
      · have hg:=hc.2
        cases op <;> first
          | rfl
          | (simp only [eqGuard]
             rw [if_neg (by decide)]
             simp only [program]
             show (Sem.run P ((Sem.program Sem.pure) >>= _) w)=_
             rw [run_bind (w':=w) (x:=P) _ _ _ (by rfl)]
             show (Sem.run P ((Sem.program Sem.pure) >>= _) w)=_
             rw [run_bind (w':=w) (x:=P) _ _ _ (by rfl)]
             simp only [hg,Bool.not_false,if_true]
             rfl)
    · cases ht
  · cases ht
theorem slicenil_run {t e:TypeId} (ht:P.underlying t=some (.slice e)) (a:Option Addr) (n c n' c':Nat) (w:World):(Op.equal t (.slice a n c) (.slice none n' c')).run P w = .ok a.isNone w:=by
  show (Op.equalIn (9999+1) t _ _).run P w=_
  rw [Op.equalIn.eq_def]
  simp only
  rw [run_bind _ _ _ _ _ (run_underlying ht w)]
  cases a<;>rfl
end
end Go.CT
