/- 'pop_sound': an operation that only reads does what 'pop' says. -/
import Derived.Test.YtlapccpnilomfaaJAb
set_option linter.unusedVariables false
set_option linter.unusedSimpArgs false
set_option linter.unusedSectionVars false
set_option maxHeartbeats 16000000
set_option maxRecDepth 100000
namespace Go.CT
variable [Yn]
section
variable {P:Program}
theorem run_mapM_arr {α β:Type} (f:α→Sem β) (as:Array α) (w w':World) (l:List β) (h:(as.toList.mapM f).run P w = .ok l w'):(as.mapM f).run P w = .ok l.toArray w':=by
  rw [Array.mapM_eq_mapM_toList]
  show (Sem.run P (List.toArray <$> as.toList.mapM f) w)=_
  have:(List.toArray <$> as.toList.mapM f)=(as.toList.mapM f >>= fun l=>pure l.toArray):=rfl
  rw [this,run_bind _ _ _ _ _ h]
  rfl
theorem build_sound {I : Nat → Prop} {w : World} {s : Sg} {e : Operand → Option D} {ρ : Operand → Value} (he : ∀ x d, e x = some d → RD I w s (ρ x) d) {t : TypeId} {zs : List Value} (hz : tzero P t = some zs)
    {fs:Array Field} (hu:P.underlying t=some (.struct fs)) (hsz:∀ x ∈ fs.toList,(tsz P x.type).isSome) {ps:Array (Nat × Operand)} {cs:List C} (hb:bld P t e ps.toList (zs.map .v)=some cs) (h1:∀ z ∈ zs,one z=true) :
    ∃ v,(Instr.build t (ps.map fun (i,x)=>(i,ρ x))).run P w = .ok v w∧RD I w s v (.agg cs):=by
  obtain ⟨z,hzc,hzr⟩:=run_zeroValue hz w
  obtain ⟨l,hl,hll,hli⟩:=run_mapM_places (P:=P) fs.toList w hsz
  have hl':=run_mapM_arr (P:=P) (fun f=>do pure (f.offset,← sizeOf f.type):Field→Sem (Nat × Nat)) fs w w l hl
  have hr0:RCs I w s z.cells (zs.map .v):=by
    refine ⟨by rw [← hzc];simp,fun j h h'=>?_⟩
    have:(zs.map C.v)[j] = .v z.cells[j]:=by
      simp only [List.getElem_map]
      congr 1
      simp [← hzc]
    rw [this]
    exact .v _ _ (h1 _ (by rw [← hzc];simp))
  obtain ⟨arr',hf,hr'⟩:=bld_sound (P:=P) he fs hu (fun i=>l.toArray[i]?) (fun f x n hx hn=>by
    have:=hli f x n (by simpa using hx) hn
    simpa using this) ps.toList _ cs z.cells hb hr0
  simp only [Instr.build]
  refine ⟨.agg arr',?_,.agg _ _ hr'.1 hr'.2⟩
  rw [run_bind (x:=z) (w':=w) _ _ _ hzr,run_bind _ _ _ _ _ (run_underlying hu w)]
  simp only
  rw [run_bind _ _ _ _ _ hl']
  have:(ps.map fun (i,x)=>(i,ρ x)).toList=ps.toList.map fun p=>(p.1,ρ p.2):=by simp
  rw [this]
  simp only [hf]
  rfl
theorem dbin_sound {I : Nat → Prop} {w : World} {s : Sg} {x y : Value} {dx dy : D} (hx : RD I w s x dx) (hy : RD I w s y dy) {op : BinOp} {vc : Prop} {d : D} (h : dbin op dx dy = some (vc, d)) (hvc : vc) (t : TypeId)
    (hb:(∃ b,dx=DB b)→tbool P t=true):∃ v,(binOp op t x y).run P w = .ok v w∧RD I w s v d:=by
  unfold dbin at h
  split at h
  · rename_i k a k' b
    obtain ⟨rfl,_⟩:=rd_scalar hx
    obtain ⟨rfl,_⟩:=rd_scalar hy
    split at h
    · obtain ⟨y,h1,h2,h3⟩:=dshift_sound (P:=P) (k':=k') h hvc t w
      exact ⟨y,h1,h2 ▸ .c _ _ (.v _ _ h3)⟩
    · rename_i hsh
      split at h
      · rename_i hk
        subst hk
        obtain ⟨y,h1,h2,h3⟩:=dint_sound (P:=P) h hvc ⟨fun e=>hsh (.inl e),fun e=>hsh (.inr e)⟩ t w
        exact ⟨y,h1,h2 ▸ .c _ _ (.v _ _ h3)⟩
      · cases h
  · rename_i a b
    obtain ⟨rfl,_⟩:=rd_scalar hx
    obtain ⟨rfl,_⟩:=rd_scalar hy
    have ht:=hb ⟨a,rfl⟩
    unfold tbool at ht
    split at ht
    · rename_i hu
      cases op<;>simp only [Option.some.injEq,Prod.mk.injEq,reduceCtorEq] at h
      · obtain ⟨rfl,rfl⟩:=h
        refine ⟨_,?_,rd_bool _⟩
        simp only [binOp,Op.equal,Op.maxDepth]
        rw [run_bind (x:=(a == b)) (w':=w)]
        · rfl
        · rw [Op.equalIn.eq_def]
          simp only
          rw [run_bind _ _ _ _ _ (run_underlying hu w)]
          rfl
      · obtain ⟨rfl,rfl⟩:=h
        refine ⟨_,?_,rd_bool _⟩
        simp only [binOp,Op.equal,Op.maxDepth]
        rw [run_bind (x:=(a == b)) (w':=w)]
        · rfl
        · rw [Op.equalIn.eq_def]
          simp only
          rw [run_bind _ _ _ _ _ (run_underlying hu w)]
          rfl
    · cases ht
  · rename_i a b
    obtain ⟨rfl,_⟩:=rd_scalar hx
    obtain ⟨rfl,_⟩:=rd_scalar hy
    obtain ⟨y,h1,h2,h3⟩:=dstr_sound (P:=P) h hvc t w
    exact ⟨y,h1,h2 ▸ .c _ _ (.v _ _ h3)⟩
  · cases h
theorem tifc_und {t:TypeId} (h:tifc P t=true):∃ ms,P.underlying t=some (.interface ms):=by
  unfold tifc at h
  split at h
  · rename_i ms hu;exact ⟨ms,hu⟩
  · cases h
theorem ifcnil_run {t:TypeId} (h:tifc P t=true) (w:World):(Op.equal t .nilIface .nilIface).run P w = .ok true w:=by
  obtain ⟨ms,hu⟩:=tifc_und h
  simp only [Op.equal,Op.maxDepth]
  rw [Op.equalIn.eq_def]
  simp only
  rw [run_bind _ _ _ _ _ (run_underlying hu w)]
  rfl
theorem ifcsome_run {t:TypeId} (h:tifc P t=true) (d:TypeId) (z:Value) (w:World):(Op.equal t (.iface d z) .nilIface).run P w = .ok false w:=by
  obtain ⟨ms,hu⟩:=tifc_und h
  simp only [Op.equal,Op.maxDepth]
  rw [Op.equalIn.eq_def]
  simp only
  rw [run_bind _ _ _ _ _ (run_underlying hu w)]
  rfl
theorem dbin_scalar {op:BinOp} {dx dy:D} {vc:Prop} {d:D} (h:dbin op dx dy=some (vc,d)):(∃ u,dx = .c (.v u))∧∃ u,dy = .c (.v u):=by
  unfold dbin at h
  split at h<;>first | exact ⟨⟨_,rfl⟩,⟨_,rfl⟩⟩ | cases h
theorem eqGuard_run {op:BinOp} {t:TypeId} {x y:Operand} {a b:Value} (ha:one a=true) (hn:a ≠ .nilIface) (w:World):(eqGuard op t x y a b).run P w = .ok () w:=by
  cases op <;> first
    | rfl
    | (cases a<;>first | rfl | exact absurd rfl hn | (simp [one] at ha))
theorem tstruct_parts {t:TypeId} {zs:List Value} (h:tstruct P t=some zs):∃ fs,P.underlying t=some (.struct fs)∧(∀ x ∈ fs.toList,(tsz P x.type).isSome)∧tzero P t=some zs∧∀ z ∈ zs,one z=true:=by
  unfold tstruct at h
  split at h
  · rename_i fs hu
    split at h
    · rename_i hall
      split at h
      · rename_i zs' hz
        split at h
        · rename_i h1
          simp only [Option.some.injEq] at h
          subst h
          exact ⟨fs,hu,fun x hx=>by simpa using List.all_eq_true.1 hall x hx,hz,fun z hz'=>List.all_eq_true.1 h1 z hz'⟩
        · cases h
      · cases h
    · cases h
  · cases h
theorem rd_agg {I:Nat→Prop} {w:World} {s:Sg} {v:Value} {cs:List C} (h:RD I w s v (.agg cs)):∃ xs,v = .agg xs:=by cases h;exact ⟨_,rfl⟩
theorem rd_mslnil {I:Nat→Prop} {w:World} {s:Sg} {v:Value} {k sz off len:Nat} (h:RD I w s v (.c (.msl k sz off len))) (hl:0<len):∃ a n c,v = .slice a n c∧a.isNone=false:=by
  cases h with
  | c _ _ h=>cases h with
    | msl0=>exact absurd hl (Nat.lt_irrefl 0)
    | msl=>exact ⟨_,_,_,rfl,rfl⟩
theorem pop_sound {I : Nat → Prop} {w : World} {s : Sg} {hp : Hp} (H : SimH I w s hp) {e : Operand → Option D} {ρ : Operand → Value} (he : ∀ x d, e x = some d → RD I w s (ρ x) d)
    {o:Oper} {vc:Prop} {d:D} (h:pop P e hp o.op=some (vc,d)) (hvc:vc):∃ v,(execOp ρ o).run P w = .ok (.value v) w∧RD I w s v d:=by
  obtain ⟨dst,op,type,pos,after,guard⟩:=o
  simp only at h
  cases op with
  | move x =>
    simp only [pop] at h
    split at h
    · rename_i d' hd
      simp only [Option.some.injEq,Prod.mk.injEq] at h
      obtain ⟨rfl,rfl⟩:=h
      exact ⟨_,rfl,he _ _ hd⟩
    · cases h
  | assign x =>
    simp only [pop] at h
    split at h
    · rename_i d' hd
      simp only [Option.some.injEq,Prod.mk.injEq] at h
      obtain ⟨rfl,rfl⟩:=h
      exact ⟨_,rfl,he _ _ hd⟩
    · cases h
  | load t x =>
    simp only [pop] at h
    split at h
    · rename_i k off g n hd hg hn
      split at h
      · rename_i cs hcs
        obtain ⟨b,hs,hx⟩:=rd_ptr (he _ _ hd)
        obtain ⟨arr,T,hb,hl,hr⟩:=live_cells H hcs hs
        obtain ⟨v,h1,h2⟩:=grab_sound (P:=P) hg hn (b:=b) (o:=0) h hvc (fun j hj=>by
          obtain ⟨y,hy,hry⟩:=hr j hj
          exact ⟨y,by simpa [World.cell?,hb] using hy,hry⟩)
        simp only [Nat.zero_add] at h1
        refine ⟨v,?_,h2⟩
        simp only [execOp,hx]
        exact run_v h1
      · cases h
    · rename_i cs g n hd hg hn
      obtain ⟨b,off,y,hx,hI,hc,hr⟩:=rd_eptr (he _ _ hd)
      obtain ⟨v,h1,h2⟩:=grab_sound (P:=P) hg hn (b:=b) (o:=off) h hvc (fun j hj=>⟨y j,hc j hj,(hr j hj).any s⟩)
      refine ⟨v,?_,h2⟩
      simp only [execOp,hx]
      exact run_v h1
    · cases h
  | nilCheck x =>
    simp only [pop] at h
    split at h
    · rename_i k off hd
      simp only [Option.some.injEq,Prod.mk.injEq] at h
      obtain ⟨rfl,rfl⟩:=h
      have hx:=he _ _ hd
      obtain ⟨b,hs,hx'⟩:=rd_ptr hx
      refine ⟨_,?_,hx⟩
      simp only [execOp,hx']
      rfl
    · rename_i cs hd
      simp only [Option.some.injEq,Prod.mk.injEq] at h
      obtain ⟨rfl,rfl⟩:=h
      have hx:=he _ _ hd
      obtain ⟨b,off,y,hx',_⟩:=rd_eptr hx
      refine ⟨_,?_,hx⟩
      simp only [execOp,hx']
      rfl
    · rename_i f cs hd
      simp only [Option.some.injEq,Prod.mk.injEq] at h
      obtain ⟨rfl,rfl⟩:=h
      have hx:=he _ _ hd
      refine ⟨ρ x,?_,hx⟩
      obtain ⟨vs,hv,_⟩:=rd_clo hx
      simp only [execOp,hv]
      rfl
    · rename_i f cs hd
      simp only [Option.some.injEq,Prod.mk.injEq] at h
      obtain ⟨rfl,rfl⟩:=h
      have hx:=he _ _ hd
      refine ⟨ρ x,?_,hx⟩
      obtain ⟨vs,hv,_⟩:=rd_met hx
      simp only [execOp,hv]
      rfl
    · cases h
  | binOp op t x y yt =>
    simp only [pop] at h
    split at h
    · rename_i a b hx hy
      split at h
      · rename_i ht
        obtain ⟨v,h1,h2⟩:=dbin_sound (P:=P) (he _ _ hx) (he _ _ hy) h hvc t (fun _=>ht)
        refine ⟨v,?_,h2⟩
        have hxx:=(rd_scalar (he _ _ hx)).1
        simp only [execOp]
        refine run_v ?_
        rw [run_bind _ _ _ _ _ (eqGuard_run (by rw [hxx];rfl) (by rw [hxx];simp) w)]
        exact h1
      · cases h
    · rename_i hx hy
      have hxx:=(rd_scalar (he _ _ hx)).1
      have hyy:=(rd_scalar (he _ _ hy)).1
      split at h
      · rename_i c _
        split at h
        · rename_i ht
          simp only [Option.some.injEq,Prod.mk.injEq] at h
          obtain ⟨rfl,rfl⟩:=h
          refine ⟨_,?_,rd_bool _⟩
          simp only [execOp]
          refine run_v ?_
          rw [hxx,hyy,eqGuard_nil_constR,run_bind (x:=()) (w':=w) _ _ _ rfl]
          simp only [binOp]
          rw [run_bind _ _ _ _ _ (ifcnil_run ht w)]
          rfl
        · cases h
      · rename_i c _
        split at h
        · rename_i ht
          simp only [Option.some.injEq,Prod.mk.injEq] at h
          obtain ⟨rfl,rfl⟩:=h
          refine ⟨_,?_,rd_bool _⟩
          simp only [execOp]
          refine run_v ?_
          rw [hxx,hyy,eqGuard_nil_constR,run_bind (x:=()) (w':=w) _ _ _ rfl]
          simp only [binOp]
          rw [run_bind _ _ _ _ _ (ifcnil_run ht w)]
          rfl
        · cases h
      · cases h
    · rename_i d' z' hx hy
      have hxx:=(rd_scalar (he _ _ hx)).1
      have hyy:=(rd_scalar (he _ _ hy)).1
      split at h
      · split at h
        · rename_i ht
          simp only [Option.some.injEq,Prod.mk.injEq] at h
          obtain ⟨rfl,rfl⟩:=h
          refine ⟨_,?_,rd_bool _⟩
          simp only [execOp]
          refine run_v ?_
          rw [hxx,hyy,eqGuard_at_iface,run_bind (x:=()) (w':=w) _ _ _ rfl]
          simp only [binOp]
          rw [run_bind _ _ _ _ _ (ifcsome_run ht d' z' w)]
          rfl
        · cases h
      · split at h
        · rename_i ht
          simp only [Option.some.injEq,Prod.mk.injEq] at h
          obtain ⟨rfl,rfl⟩:=h
          refine ⟨_,?_,rd_bool _⟩
          simp only [execOp]
          refine run_v ?_
          rw [hxx,hyy,eqGuard_at_iface,run_bind (x:=()) (w':=w) _ _ _ rfl]
          simp only [binOp]
          rw [run_bind _ _ _ _ _ (ifcsome_run ht d' z' w)]
          rfl
        · cases h
      · cases h
    · rename_i as bs hx hy
      split at h
      · rename_i n q ht hs
        split at h
        · rename_i hl
          obtain ⟨r1,r2⟩:=tints_run (P:=P) ht (he _ _ hx) (he _ _ hy) hs hl x y op
          have hax:=rd_agg (he _ _ hx)
          have hay:=rd_agg (he _ _ hy)
          obtain ⟨xs,hxs⟩:=hax
          obtain ⟨ys,hys⟩:=hay
          rw [hxs,hys] at r1 r2
          cases op<;>simp only [Option.some.injEq,Prod.mk.injEq,reduceCtorEq] at h
          · obtain ⟨rfl,rfl⟩:=h
            refine ⟨_,?_,rd_bool _⟩
            simp only [execOp]
            refine run_v ?_
            rw [hxs,hys,run_bind _ _ _ _ _ r2]
            simp only [binOp]
            rw [run_bind _ _ _ _ _ r1]
            rfl
          · obtain ⟨rfl,rfl⟩:=h
            refine ⟨_,?_,rd_bool _⟩
            simp only [execOp]
            refine run_v ?_
            rw [hxs,hys,run_bind _ _ _ _ _ r2]
            simp only [binOp]
            rw [run_bind _ _ _ _ _ r1]
            rfl
        · cases h
      · cases h
    · rename_i dx n' c' hx hy
      split at h
      · rename_i ht
        obtain ⟨e',he'⟩:=Option.isSome_iff_exists.1 ht
        have hu:=und_slice he'
        have hyy:=(rd_scalar (he _ _ hy)).1
        have key:∀ vc' q,dnil dx=some (vc',q)→vc'→∃ a n c,ρ x = .slice a n c∧a.isNone=q:=fun vc' q hd hv=>by
          have hxx:=he _ _ hx
          unfold dnil at hd
          split at hd
          · rename_i sz xs
            simp only [Option.some.injEq,Prod.mk.injEq] at hd
            obtain ⟨rfl,rfl⟩:=hd
            obtain ⟨a,cap,h1,_,h2⟩:=rd_isl hxx
            rcases h2 with h2 | ⟨b,off,y',rfl,_⟩
            · exact absurd h2 hv
            · exact ⟨_,_,_,h1,rfl⟩
          · rename_i k sz off len
            simp only [Option.some.injEq,Prod.mk.injEq] at hd
            obtain ⟨rfl,rfl⟩:=hd
            exact rd_mslnil hxx hv
          · rename_i a n c
            simp only [Option.some.injEq,Prod.mk.injEq] at hd
            obtain ⟨rfl,rfl⟩:=hd
            exact ⟨a,n,c,(rd_scalar hxx).1,rfl⟩
          · cases hd
        have fin:∀ vc' q,dnil dx=some (vc',q)→vc'→(Op.equal t (ρ x) (ρ y)).run P w = .ok q w∧(eqGuard op t x y (ρ x) (ρ y)).run P w = .ok () w∧∃ a n c,ρ x = .slice a n c:=fun vc' q hd hv=>by
          obtain ⟨a,n,c,h1,h2⟩:=key vc' q hd hv
          rw [h1,hyy,← h2]
          exact ⟨slicenil_run hu a n c _ _ w,eqGuard_run rfl (by simp) w,a,n,c,rfl⟩
        split at h
        · rename_i vc' q hd
          simp only [Option.some.injEq,Prod.mk.injEq] at h
          obtain ⟨rfl,rfl⟩:=h
          obtain ⟨r1,r2,a,n,c,hxs⟩:=fin _ _ hd hvc
          refine ⟨_,?_,rd_bool _⟩
          simp only [execOp]
          refine run_v ?_
          rw [run_bind _ _ _ _ _ r2]
          rw [hxs,hyy] at r1 ⊢
          simp only [binOp]
          rw [run_bind _ _ _ _ _ r1]
          rfl
        · rename_i vc' q hd
          simp only [Option.some.injEq,Prod.mk.injEq] at h
          obtain ⟨rfl,rfl⟩:=h
          obtain ⟨r1,r2,a,n,c,hxs⟩:=fin _ _ hd hvc
          refine ⟨_,?_,rd_bool _⟩
          simp only [execOp]
          refine run_v ?_
          rw [run_bind _ _ _ _ _ r2]
          rw [hxs,hyy] at r1 ⊢
          simp only [binOp]
          rw [run_bind _ _ _ _ _ r1]
          rfl
        · cases h
      · cases h
    · rename_i dx dy _ _ _ _ _ hx hy
      split at h
      · cases h
      · rename_i dx' dy' hnb
        obtain ⟨⟨u,hu⟩,⟨u',hu'⟩⟩:=dbin_scalar h
        obtain ⟨v,h1,h2⟩:=dbin_sound (P:=P) (he _ _ hx) (he _ _ hy) h hvc t (fun ⟨b,hb⟩=>(hnb b hb).elim)
        refine ⟨v,?_,h2⟩
        have hxx:=rd_scalar (hu ▸ he _ _ hx)
        simp only [execOp]
        refine run_v ?_
        have hne:u ≠ .nilIface:=by
          intro hc
          subst hc
          subst hu
          simp [dbin] at h
        rw [run_bind _ _ _ _ _ (eqGuard_run (by rw [hxx.1];exact hxx.2) (by rw [hxx.1];exact hne) w)]
        exact h1
    · cases h
  | unOp op t x =>
    simp only [pop] at h
    split at h
    · rename_i dx hx
      have hxx:=he _ _ hx
      unfold dun at h
      split at h
      · rename_i b
        simp only [Option.some.injEq,Prod.mk.injEq] at h
        obtain ⟨rfl,rfl⟩:=h
        refine ⟨_,?_,rd_bool _⟩
        simp only [execOp,(rd_scalar hxx).1]
        rfl
      · rename_i k n
        simp only [Option.some.injEq,Prod.mk.injEq] at h
        obtain ⟨rfl,rfl⟩:=h
        refine ⟨_,?_,rd_int _ _⟩
        simp only [execOp,(rd_scalar hxx).1,Op.unary,Op.intArith,wrap_of_InK hvc]
        rfl
      · cases h
    · cases h
  | convert src dst x =>
    simp only [pop] at h
    split at h
    · rename_i k n ks kd hx hs hd
      simp only [Option.some.injEq,Prod.mk.injEq] at h
      obtain ⟨rfl,rfl⟩:=h
      refine ⟨_,?_,rd_int _ _⟩
      simp only [execOp,(rd_scalar (he _ _ hx)).1,convert]
      refine run_v ?_
      rw [run_bind _ _ _ _ _ (run_underlying hs w),run_bind _ _ _ _ _ (run_underlying hd w)]
      simp only [Conv.intToInt,wrap_of_InK hvc]
      rfl
    · cases h
  | fieldAddr st x f =>
    simp only [pop] at h
    split at h
    · rename_i k off o ft hx hf
      simp only [Option.some.injEq,Prod.mk.injEq] at h
      obtain ⟨rfl,rfl⟩:=h
      obtain ⟨b,hs,hxx⟩:=rd_ptr (he _ _ hx)
      refine ⟨_,?_,.c _ _ (.ptr _ k b (off+o) hs)⟩
      simp only [execOp,hxx]
      exact run_v (fieldPlace_run hf b off w)
    · rename_i cs o ft hx hf
      simp only [Option.some.injEq,Prod.mk.injEq] at h
      obtain ⟨rfl,rfl⟩:=h
      obtain ⟨b,off,y,hxx,hI,hc,hr⟩:=rd_eptr (he _ _ hx)
      refine ⟨.pointer (some ⟨b,off+o,none⟩),?_,.c _ _ (.eptr _ b (off+o) (cs.drop o) (fun j=>y (o+j)) hI (fun j hj=>?_) (fun j hj=>?_))⟩
      · simp only [execOp,hxx]
        exact run_v (fieldPlace_run hf b off w)
      · rw [Nat.add_assoc]
        simp only [List.length_drop] at hj
        exact hc (o+j) (by omega)
      · simp only [List.length_drop] at hj
        simpa using hr (o+j) (by omega)
    · cases h
  | field st x f =>
    simp only [pop] at h
    split at h
    · rename_i cs o ft hx hf
      split at h
      · rename_i g n hg hn
        obtain ⟨fs,fx,hu,hfx,rfl,rfl⟩:=tfield_parts hf
        have hxx:=he _ _ hx
        cases hxx':ρ x with
        | agg vs =>
          rw [hxx'] at hxx
          cases hxx with
          | agg _ _ hl hr =>
            obtain ⟨v,h1,h2⟩:=part_sound (P:=P) hg hn h hvc hl hr
            refine ⟨v,?_,h2⟩
            simp only [execOp,hxx',Instr.field]
            refine run_v ?_
            rw [run_bind _ _ _ _ _ (run_underlying hu w)]
            simp only [hfx]
            rw [run_bind (x:=vs) (w':=w) _ _ _ (by rfl)]
            exact h1
        | _=>rw [hxx'] at hxx;cases hxx
      · cases h
    · cases h
  | indexAddr t x ix =>
    simp only [pop] at h
    split at h
    · rename_i sz xs k i n hx hi ht
      obtain ⟨el,htl,hn⟩:=Option.bind_eq_some_iff.1 ht
      split at h
      · rename_i cs hcs
        simp only [Option.some.injEq,Prod.mk.injEq] at h
        obtain ⟨rfl,rfl⟩:=h
        obtain ⟨h0,rfl⟩:=hvc
        obtain ⟨hlt,hcs'⟩:=List.getElem?_eq_some_iff.1 hcs
        obtain ⟨a,cap,hxx,hcap,hcase⟩:=rd_isl (he _ _ hx)
        rcases hcase with hnil | ⟨b,off,y,rfl,hI,hl,hc,hr⟩
        · subst hnil;simp at hlt
        · have hlen:=hl _ hlt
          refine ⟨.pointer (some ⟨b,off+i.toNat * sz,none⟩),?_,.c _ _ (.eptr _ b _ cs (fun j=>y i.toNat j) hI (fun j hj=>?_) (fun j hj=>?_))⟩
          · simp only [execOp,hxx,(rd_scalar (he _ _ hi)).1,Instr.indexAt]
            refine run_v ?_
            rw [run_bind (x:=(k,i)) (w':=w) _ _ _ (by rfl),run_bind _ _ _ _ _ (run_underlying (und_slice htl) w)]
            simp only
            rw [run_bind (x:=(some (⟨b,off,none⟩:Addr),xs.length,el)) (w':=w) _ _ _ (by rfl)]
            simp only
            rw [run_bind _ _ _ _ _ (run_underlying (und_slice htl) w)]
            have hb:0≤i∧i<(xs.length:Int):=⟨h0,by omega⟩
            simp only [hb,and_self,if_true]
            rw [run_bind _ _ _ _ _ (run_sizeOf hn w)]
            simp only [add_plain]
            rfl
          · rw [← hcs'] at hj
            exact hc _ _ hlt (by omega)
          · have:=hr _ hlt j (by rw [hcs'];exact hj)
            simpa [hcs'] using this
      · cases h
    · rename_i k sz off len kk i n hx hi ht
      obtain ⟨el,htl,hn⟩:=Option.bind_eq_some_iff.1 ht
      simp only [Option.some.injEq,Prod.mk.injEq] at h
      obtain ⟨rfl,rfl⟩:=h
      obtain ⟨⟨h0,hlt⟩,rfl⟩:=hvc
      rcases rd_msl (he _ _ hx) with ⟨a,_,_,_,h3⟩ | ⟨b,cap,arr,T,fr,hxx,hs,hlc,hb,hcp⟩
      · subst h3;exfalso;simp at hlt;omega
      · refine ⟨.pointer (some ⟨b,off+i.toNat * sz,none⟩),?_,.c _ _ (.ptr _ k b _ hs)⟩
        simp only [execOp,hxx,(rd_scalar (he _ _ hi)).1,Instr.indexAt]
        refine run_v ?_
        rw [run_bind (x:=(kk,i)) (w':=w) _ _ _ (by rfl),run_bind _ _ _ _ _ (run_underlying (und_slice htl) w)]
        simp only
        rw [run_bind (x:=(some (⟨b,off,none⟩:Addr),len,el)) (w':=w) _ _ _ (by rfl)]
        simp only
        rw [run_bind _ _ _ _ _ (run_underlying (und_slice htl) w)]
        have hb:0≤i∧i<(len:Int):=⟨h0,hlt⟩
        simp only [hb,and_self,if_true]
        rw [run_bind _ _ _ _ _ (run_sizeOf hn w)]
        simp only [add_plain]
        rfl
    · cases h
  | index t x ix =>
    simp only [pop] at h
    split at h
    · rename_i b k i hx hi
      split at h
      · rename_i ht
        simp only [Option.some.injEq,Prod.mk.injEq] at h
        obtain ⟨rfl,rfl⟩:=h
        obtain ⟨h0,hlt⟩:=hvc
        unfold tstring at ht
        split at ht
        · rename_i hu
          have hlt':i.toNat<b.size:=by omega
          refine ⟨_,?_,rd_int _ _⟩
          simp only [execOp,(rd_scalar (he _ _ hx)).1,(rd_scalar (he _ _ hi)).1,Instr.index]
          refine run_v ?_
          rw [run_bind (x:=(k,i)) (w':=w) _ _ _ (by rfl),run_bind _ _ _ _ _ (run_underlying hu w)]
          simp only [h0,if_true]
          have hget:b[i.toNat]? = some (b.data.toList.getD i.toNat 0):=by
            rw [getElem?_pos b i.toNat hlt']
            congr 1
            have hls:i.toNat<b.data.toList.length:=by simpa using hlt'
            rw [List.getD_eq_getElem?_getD,List.getElem?_eq_getElem hls]
            rfl
          simp only [hget]
          rfl
        · cases ht
      · cases h
    · cases h
  | extract x i =>
    simp only [pop] at h
    split at h
    · rename_i ds hx
      split at h
      · rename_i d' hd'
        simp only [Option.some.injEq,Prod.mk.injEq] at h
        obtain ⟨rfl,rfl⟩:=h
        have hxx:=he _ _ hx
        cases hxx':ρ x with
        | tuple vs =>
          rw [hxx'] at hxx
          cases hxx with
          | tup _ _ hl hr =>
            obtain ⟨hlt,hd2⟩:=List.getElem?_eq_some_iff.1 hd'
            have hv:vs[i]? = some (vs[i]'(by omega)):=by simp
            refine ⟨_,?_,hd2 ▸ hr i (by omega) hlt⟩
            simp only [execOp,hxx',Instr.extract,hv]
            rfl
        | _=>rw [hxx'] at hxx;cases hxx
      · cases h
    · cases h
  | call c =>
    obtain ⟨callee,args,argTypes⟩:=c
    simp only [pop] at h
    split at h
    · split at h
      · rename_i x t hargs hats
        split at h
        · rename_i d' hd'
          split at h
          · rename_i n hn
            simp only [Option.some.injEq,Prod.mk.injEq] at h
            obtain ⟨rfl,rfl⟩:=h
            have e1:args=#[x]:=by apply Array.ext';simpa using hargs
            have e2:argTypes=#[t]:=by apply Array.ext';simpa using hats
            subst e1;subst e2
            refine ⟨_,?_,rd_int _ _⟩
            simp only [execOp,resolve]
            rw [run_bind (x:=({ target := .builtin .len #[t] type (#[x].map fun | .const _=>true | _=>false),args:=#[x].map ρ }:Deferred)) (w':=w) _ _ _ (by rfl)]
            simp only [invoke,builtin]
            refine run_v ?_
            simp only [Builtin.len_]
            rcases islen_sound (he _ _ hd') hn with ⟨a,cap,el,hx,hu⟩ | ⟨b,hx,hb,hu⟩
            · simp [hx,run_bind _ _ _ _ _ (run_underlying hu w),goInt]
            · simp [hx,run_bind _ _ _ _ _ (run_underlying hu w),goInt,hb]
          · cases h
        · cases h
      · cases h
    · split at h
      · rename_i x y hargs
        split at h
        · rename_i k a k' b hx hy
          simp only [Option.some.injEq,Prod.mk.injEq] at h
          obtain ⟨rfl,rfl⟩:=h
          have e1:args=#[x,y]:=by apply Array.ext';simpa using hargs
          subst e1
          refine ⟨_,?_,rd_int _ _⟩
          simp only [execOp,resolve]
          rw [run_bind (x:=({ target := .builtin .max argTypes type (#[x,y].map fun | .const _=>true | _=>false),args:=#[x,y].map ρ }:Deferred)) (w':=w) _ _ _ (by rfl)]
          simp only [invoke,builtin]
          refine run_v ?_
          simp only [Builtin.max_]
          have f1:=(rd_scalar (he _ _ hx)).1
          have f2:=(rd_scalar (he _ _ hy)).1
          simp [f1,f2,Builtin.max2]
        · cases h
      · cases h
    · split at h
      · rename_i x y hargs
        split at h
        · rename_i k a k' b hx hy
          simp only [Option.some.injEq,Prod.mk.injEq] at h
          obtain ⟨rfl,rfl⟩:=h
          have e1:args=#[x,y]:=by apply Array.ext';simpa using hargs
          subst e1
          refine ⟨_,?_,rd_int _ _⟩
          simp only [execOp,resolve]
          rw [run_bind (x:=({ target := .builtin .min argTypes type (#[x,y].map fun | .const _=>true | _=>false),args:=#[x,y].map ρ }:Deferred)) (w':=w) _ _ _ (by rfl)]
          simp only [invoke,builtin]
          refine run_v ?_
          simp only [Builtin.min_]
          have f1:=(rd_scalar (he _ _ hx)).1
          have f2:=(rd_scalar (he _ _ hy)).1
          simp [f1,f2,Builtin.min2]
        · cases h
      · cases h
    · cases h
  | slice t x lo hi mx =>
    cases mx with
    | none =>
      simp only [pop] at h
      split at h
      · rename_i b hx
        split at h
        · rename_i l hh hl hhi
          split at h
          · rename_i ht
            simp only [Option.some.injEq,Prod.mk.injEq] at h
            obtain ⟨rfl,rfl⟩:=h
            refine ⟨_,?_,rd_str _⟩
            have hb := sliceBounds_run (P := P) (isSlice := false) (len := b.size) (cap := b.size) (lo := lo.map ρ) (hi := hi.map ρ) (l := l) (h := hh)
              ((bnd_sound he hl).imp (fun ⟨a,c⟩=>⟨by simp [a],c⟩) fun ⟨y,k,a,c⟩=>⟨k,by simp [a,c]⟩) ((bnd_sound he hhi).imp (fun ⟨a,c⟩=>⟨by simp [a],c⟩) fun ⟨y,k,a,c⟩=>⟨k,by simp [a,c]⟩)
              hvc.1.1 hvc.1.2 hvc.2 (Nat.le_refl _) w
            simp only [execOp,(rd_scalar (he _ _ hx)).1,Instr.sliceAt]
            refine run_v ?_
            rw [run_bind _ _ _ _ _ (run_underlying (und_string ht) w)]
            simp only [Instr.slice]
            rw [run_bind _ _ _ _ _ (run_underlying (und_string ht) w)]
            simp only [Option.map_none,Option.isSome_none,Bool.false_eq_true,if_false]
            rw [run_bind _ _ _ _ _ hb]
            rfl
          · cases h
        · cases h
      · rename_i sz xs hx
        split at h
        · rename_i l hh n hl hhi ht
          simp only [Option.some.injEq,Prod.mk.injEq] at h
          obtain ⟨rfl,rfl⟩:=h
          obtain ⟨⟨⟨h0,hlh⟩,hle⟩,rfl⟩:=hvc
          obtain ⟨el,htl,hn⟩:=Option.bind_eq_some_iff.1 ht
          obtain ⟨a,cap,hxx,hcap,hcase⟩:=rd_isl (he _ _ hx)
          have hb := sliceBounds_run (P := P) (isSlice := true) (len := xs.length) (cap := cap) (lo := lo.map ρ) (hi := hi.map ρ) (l := l) (h := hh)
            ((bnd_sound he hl).imp (fun ⟨a,c⟩=>⟨by simp [a],c⟩) fun ⟨y,k,a,c⟩=>⟨k,by simp [a,c]⟩) ((bnd_sound he hhi).imp (fun ⟨a,c⟩=>⟨by simp [a],c⟩) fun ⟨y,k,a,c⟩=>⟨k,by simp [a,c]⟩)
            h0 hlh (by omega) hcap.1 w
          have hrun : (execOp ρ { dst := dst, op := .slice t x lo hi none, type := type, pos := pos, after := after, guard := guard }).run P w =
              .ok (.value (.slice (if cap=l.toNat then a else a.map (·.add (l.toNat * sz))) (hh.toNat - l.toNat) (cap - l.toNat))) w:=by
            simp only [execOp,hxx,Instr.sliceAt]
            refine run_v ?_
            rw [run_bind _ _ _ _ _ (run_underlying (und_slice htl) w)]
            simp only [Instr.slice]
            rw [run_bind _ _ _ _ _ (run_underlying (und_slice htl) w)]
            simp only [Option.map_none]
            rw [run_bind _ _ _ _ _ hb]
            simp only
            rw [run_bind _ _ _ _ _ (run_sizeOf hn w)]
            rfl
          refine ⟨_,hrun,?_⟩
          have hlen:((xs.drop l.toNat).take (hh.toNat - l.toNat)).length=hh.toNat - l.toNat:=by simp;omega
          rcases Nat.eq_zero_or_pos (hh.toNat - l.toNat) with he0 | hpos
          · rw [he0]
            simp only [List.take_zero]
            exact .c _ _ (.isl0 _ _ _ _)
          · rcases hcase with hnil | ⟨b,off,y,rfl,hI,hll,hc,hr⟩
            · subst hnil;simp at hle;omega
            · have hne:¬ (cap=l.toNat):=by omega
              simp only [hne,if_false,Option.map_some,add_plain]
              have := RC.isl (I := I) (w := w) s b (off + l.toNat * sz) (cap - l.toNat) sz ((xs.drop l.toNat).take (hh.toNat - l.toNat)) (fun i j => y (l.toNat + i) j) hI
                (fun i h=>by
                  simp at h
                  have:=hll (l.toNat+i) (by omega)
                  simpa using this)
                (fun i j hi hj=>by
                  rw [hlen] at hi
                  have:=hc (l.toNat+i) j (by omega) hj
                  rw [← this]
                  congr 2
                  rw [Nat.add_mul];omega)
                (fun i h j h'=>by
                  simp at h
                  have:=hr (l.toNat+i) (by omega) j (by simpa using h')
                  simpa using this)
                (by rw [hlen];constructor<;>omega)
              rw [hlen] at this
              exact .c _ _ this
        · cases h
      · rename_i k sz off len hx
        split at h
        · rename_i l hh n hl hhi ht
          simp only [Option.some.injEq,Prod.mk.injEq] at h
          obtain ⟨rfl,rfl⟩:=h
          obtain ⟨⟨⟨h0,hlh⟩,hle⟩,hor,rfl⟩:=hvc
          obtain ⟨el,htl,hn⟩:=Option.bind_eq_some_iff.1 ht
          have hsh:∃ a cap,ρ x = .slice a len cap∧len≤cap∧len≤mx:=by
            rcases rd_msl (he _ _ hx) with ⟨a,h1,_,_,h3⟩ | ⟨b,cap,arr,T,fr,h1,_,h3,_⟩
            · exact ⟨a,0,by rw [h1,h3],by omega,by omega⟩
            · exact ⟨_,cap,h1,h3⟩
          obtain ⟨a,cap,hxx,hcap⟩:=hsh
          have hb := sliceBounds_run (P := P) (isSlice := true) (len := len) (cap := cap) (lo := lo.map ρ) (hi := hi.map ρ) (l := l) (h := hh)
            ((bnd_sound he hl).imp (fun ⟨a,c⟩=>⟨by simp [a],c⟩) fun ⟨y,k,a,c⟩=>⟨k,by simp [a,c]⟩) ((bnd_sound he hhi).imp (fun ⟨a,c⟩=>⟨by simp [a],c⟩) fun ⟨y,k,a,c⟩=>⟨k,by simp [a,c]⟩)
            h0 hlh (by omega) hcap.1 w
          have hrun : (execOp ρ { dst := dst, op := .slice t x lo hi none, type := type, pos := pos, after := after, guard := guard }).run P w =
              .ok (.value (.slice (if cap=l.toNat then a else a.map (·.add (l.toNat * sz))) (hh.toNat - l.toNat) (cap - l.toNat))) w:=by
            simp only [execOp,hxx,Instr.sliceAt]
            refine run_v ?_
            rw [run_bind _ _ _ _ _ (run_underlying (und_slice htl) w)]
            simp only [Instr.slice]
            rw [run_bind _ _ _ _ _ (run_underlying (und_slice htl) w)]
            simp only [Option.map_none]
            rw [run_bind _ _ _ _ _ hb]
            simp only
            rw [run_bind _ _ _ _ _ (run_sizeOf hn w)]
            rfl
          refine ⟨_,hrun,?_⟩
          rcases rd_msl (he _ _ hx) with ⟨a',h1,hs,rfl,rfl⟩ | ⟨b,cap',arr,T,fr,h1,hs,h3,hb',hcp⟩
          · rw [hxx] at h1
            simp only [Value.slice.injEq] at h1
            obtain ⟨rfl,_,rfl⟩:=h1
            have:l=0:=by omega
            subst this
            have:hh=0:=by omega
            subst this
            simp only [Int.toNat_zero,Nat.zero_mul,Nat.add_zero,Nat.sub_self,if_true]
            exact .c _ _ (.msl0 _ _ _ _ hs)
          · rw [hxx] at h1
            simp only [Value.slice.injEq] at h1
            obtain ⟨rfl,_,rfl⟩:=h1
            have hadd:(if cap=l.toNat then some (⟨b,off,none⟩:Addr) else (some (⟨b,off,none⟩:Addr)).map (·.add (l.toNat * sz)))=some ⟨b,off+l.toNat * sz,none⟩:=by
              simp only [Option.map_some,add_plain]
              rcases hor with rfl | hlt
              · simp
              · rw [if_neg (by omega)]
            rw [hadd]
            have hmul:off+l.toNat * sz+(cap - l.toNat) * sz=off+cap * sz:=by
              rw [Nat.add_assoc,← Nat.add_mul]
              congr 2
              omega
            exact .c _ _ (.msl _ k b sz _ _ (cap - l.toNat) arr T fr hs (by omega) hb' (by omega))
        · cases h
      · cases h
    | some mx =>
      cases lo with
      | some lo=>simp [pop] at h
      | none =>
        cases hi with
        | none=>simp [pop] at h
        | some hi =>
          simp only [pop] at h
          split at h
          · rename_i c k k' hx hhi hmx
            have hsh:∃ a len cap,ρ x = .slice a len cap∧d = .c .z∧((tslice P t).bind (tsz P)).isSome:=by
              split at h <;> first
                | (split at h
                   · rename_i ht
                     simp only [Option.some.injEq,Prod.mk.injEq] at h
                     obtain ⟨rfl,rfl⟩:=h
                     first
                       | (obtain ⟨a,cap,h1,_⟩:=rd_isl (he _ _ hx);exact ⟨_,_,_,h1,rfl,ht⟩)
                       | (rcases rd_msl (he _ _ hx) with ⟨a,h1,_⟩ | ⟨b,cap,_,_,_,h1,_⟩<;>exact ⟨_,_,_,h1,rfl,ht⟩)
                       | (obtain ⟨a,h1⟩:=rd_z (he _ _ hx);exact ⟨_,_,_,h1,rfl,ht⟩)
                       | exact ⟨_,_,_,(rd_scalar (he _ _ hx)).1,rfl,ht⟩
                   · cases h)
                | cases h
            obtain ⟨a,len,cap,hxx,rfl,ht⟩:=hsh
            obtain ⟨n,hn0⟩:=Option.isSome_iff_exists.1 ht
            obtain ⟨el,hel,hn⟩:=Option.bind_eq_some_iff.1 hn0
            have hi0:=(rd_scalar (he _ _ hhi)).1
            have hm0:=(rd_scalar (he _ _ hmx)).1
            refine ⟨.slice a 0 0,?_,.c _ _ (.z _ a)⟩
            simp only [execOp,hxx,Instr.sliceAt,Option.map_none,Option.map_some,hi0,hm0]
            refine run_v ?_
            rw [run_bind _ _ _ _ _ (run_underlying (und_slice hel) w)]
            simp only [Instr.slice]
            rw [run_bind _ _ _ _ _ (run_underlying (und_slice hel) w)]
            simp only
            rw [run_bind (x:=((0,0,0):Nat × Nat × Nat)) (w':=w)]
            · simp only
              rw [run_bind _ _ _ _ _ (run_sizeOf hn w)]
              rfl
            · simp only [Instr.sliceBounds]
              rw [run_bind _ _ _ _ _ (sliceBound_run (Int.le_refl 0) (by omega) w)]
              rw [run_bind _ _ _ _ _ (sliceBound_run (Int.le_refl 0) (by omega) w)]
              rw [run_bind (x:=0) (w':=w) _ _ _ (by rfl)]
              rfl
          · cases h
  | makeFunc fn first caps =>
    cases fn with
    | func f =>
      simp only [pop] at h
      split at h
      · rename_i h0
        split at h
        · rename_i cs hcs
          simp only [Option.some.injEq,Prod.mk.injEq] at h
          obtain ⟨rfl,rfl⟩:=h
          have hr:=cellsOf_sound (I:=I) (w:=w) (s:=s) he caps.toList cs hcs
          have e1:(caps.toList.map ρ).toArray=caps.map ρ:=by apply Array.ext';simp
          rw [e1] at hr
          have e2:first.map ρ=#[]:=by
            have:first=#[]:=by apply Array.ext';simpa using h0
            rw [this];simp
          refine ⟨_,?_,.c _ _ (.clo _ f cs _ hr.1 hr.2)⟩
          simp only [execOp,Instr.makeFunc,e2]
          rfl
        · cases h
      · rename_i x h0
        split at h
        · rename_i cs hx hc0
          split at h
          · rename_i hkf
            simp only [Option.some.injEq,Prod.mk.injEq] at h
            obtain ⟨rfl,rfl⟩:=h
            have e1:caps.map ρ=#[]:=by
              have:caps=#[]:=by apply Array.ext';simpa using hc0
              rw [this];simp
            have e2:first.map ρ=#[ρ x]:=by
              have:first=#[x]:=by apply Array.ext';simpa using h0
              rw [this];simp
            have hrd:=he _ _ hx
            cases hxx:ρ x with
            | agg vs =>
              rw [hxx] at hrd
              cases hrd with
              | agg _ _ hl hr =>
                refine ⟨_,?_,.c _ _ (.met _ f cs vs hl fun j h1 h2=>(hr j h1 h2).kf0 (kfs_get hkf j h2))⟩
                simp only [execOp,Instr.makeFunc,e1,e2,hxx]
                rfl
            | _=>rw [hxx] at hrd;cases hrd
          · cases h
        · cases h
      · cases h
    | _=>simp [pop] at h
  | build t ps =>
    simp only [pop] at h
    split at h
    · rename_i zs hz
      split at h
      · rename_i cs hb
        simp only [Option.some.injEq,Prod.mk.injEq] at h
        obtain ⟨rfl,rfl⟩:=h
        obtain ⟨fs,hu,hsz,hz',h1⟩:=tstruct_parts hz
        obtain ⟨v,hr,hd⟩:=build_sound (P:=P) he hz' hu hsz hb h1
        exact ⟨v,run_v hr,hd⟩
      · cases h
    · cases h
  | _=>simp [pop] at h
end
theorem sim_rekey {m : Nat} {I : Nat → Prop} {w : World} {s : Sg} {hp : Hp} (H : SimH I w s hp) (k kn : Nat) (cs : List C) (hk : hp k = some (some cs)) (hn : hp kn = none) (hm : m ≤ kn) :
    let s':=upd s kn (s k)
    let hp':=upd (upd hp k (some none)) kn (some (some cs))
    s.le s'∧SimH I w s' hp'∧Ext m I w s hp I w s' hp':=by
  intro s' hp'
  have hsk:s kn=none:=H.top kn hn
  have hkne:k ≠ kn:=fun e=>by rw [e,hn] at hk;cases hk
  have hle:s.le s':=fun j x hj=>by
    have:j ≠ kn:=fun e=>by rw [e,hsk] at hj;cases hj
    simp [s',upd_ne _ _ this,hj]
  have hlive:∀ b,Live s' hp' b→Live s hp b:=by
    rintro b ⟨j,cs',hj,hs⟩
    by_cases e:j=kn
    · subst e
      simp only [s',upd_same] at hs
      exact ⟨k,cs,hk,hs⟩
    · simp only [s',upd_ne _ _ e] at hs
      simp only [hp',upd_ne _ _ e] at hj
      by_cases e2:j=k
      · subst e2;simp [upd_same] at hj
      · rw [upd_ne _ _ e2] at hj
        exact ⟨j,cs',hj,hs⟩
  have hext:Ext m I w s hp I w s' hp' :=
    ⟨rfl,rfl,rfl,Nat.le_refl _,fun _ _ _=>rfl,Shp.refl _,fun j hj=>upd_ne _ _ (by omega),fun _ h=>h,fun _ h => .inl h,fun b h => .inl (hlive b h)⟩
  have old:∀ i csi,hp' i=some (some csi)→∃ i',hp i'=some (some csi)∧s' i=s i'∧(i=kn∧i'=k∨i ≠ kn∧i ≠ k∧i'=i):=by
    intro i csi hi
    by_cases e:i=kn
    · subst e
      simp only [hp',upd_same,Option.some.injEq] at hi
      subst hi
      exact ⟨k,hk,by simp [s',upd_same],.inl ⟨rfl,rfl⟩⟩
    · simp only [hp',upd_ne _ _ e] at hi
      by_cases e2:i=k
      · subst e2;simp [upd_same] at hi
      · rw [upd_ne _ _ e2] at hi
        exact ⟨i,hi,by simp [s',upd_ne _ _ e],.inr ⟨e,e2,rfl⟩⟩
  refine ⟨hle,⟨fun j hj=>?_,fun j csj hj=>?_,fun j j' b cs1 cs2 h1 h2 h3 h4=>?_,H.imm,H.yng.step hext.size (H.yng.keep hext.same) hext.live,H.wri⟩,hext⟩
  · by_cases e:j=kn
    · subst e;simp [hp',upd_same] at hj
    · simp only [hp',upd_ne _ _ e] at hj
      simp only [s',upd_ne _ _ e]
      by_cases e2:j=k
      · subst e2;simp [upd_same] at hj
      · rw [upd_ne _ _ e2] at hj;exact H.top j hj
  · obtain ⟨i',hi',hs',_⟩:=old j csj hj
    rw [hs']
    rcases H.blk i' csj hi' with h1 | ⟨b,arr,T,h1,h2,h3,h4,h5⟩
    · exact .inl h1
    · refine .inr ⟨b,arr,T,h1,h2,h3,h4,fun j' h'=>?_⟩
      obtain ⟨y,hy,hr⟩:=h5 j' h'
      exact ⟨y,hy,hext.rc H hle hr⟩
  · obtain ⟨i1,g1,g2,g3⟩:=old j cs1 h1
    obtain ⟨i2,f1,f2,f3⟩:=old j' cs2 h2
    rw [g2] at h3
    rw [f2] at h4
    have:=H.inj i1 i2 b cs1 cs2 g1 f1 h3 h4
    omega
theorem RCs.ext {m : Nat} {I I' : Nat → Prop} {w w' : World} {s s' : Sg} {hp hp' : Hp} (h : Ext m I w s hp I' w' s' hp') (H : SimH I w s hp) (hle : s.le s') {arr : Array Value} {cs : List C}
    (hr:RCs I w s arr cs):RCs I' w' s' arr cs:=⟨hr.1,fun j h1 h2=>h.rc H hle (hr.2 j h1 h2)⟩
section
variable {P:Program}
def lends (hp : Hp) : D → Option (Nat × Nat × List C)
  | .c (.isl sz xs)=>some (xs.length,sz,xs.flatten)
  | .c (.msl k sz off len)=>(match hp k with | some (some cs)=>some (len,sz,(cs.drop off).take (len * sz)) | _=>none)
  | .c (.v (.slice _ 0 _))=>some (0,0,[])
  | .c .z=>some (0,0,[])
  | _=>none
theorem flatten_length (sz : Nat) : ∀ (xs : List (List C)), (∀ x ∈ xs, x.length = sz) → xs.flatten.length = xs.length * sz
  | [],_=>by simp
  | x :: r,h=>by
    rw [List.flatten_cons,List.length_append,h x (by simp),flatten_length sz r (fun y hy=>h y (by simp [hy])),List.length_cons,Nat.add_mul];omega
theorem flatten_get (sz : Nat) : ∀ (xs : List (List C)), (∀ x ∈ xs, x.length = sz) → ∀ (j : Nat), j < xs.length * sz → ∃ (i t : Nat) (hi : i < xs.length) (ht : t < xs[i].length), j = i * sz + t ∧ t < sz ∧ xs.flatten[j]? = some (xs[i])[t]
  | [],_,j,hj=>by simp at hj
  | x :: r,h,j,hj=>by
    have hx:x.length=sz:=h x (by simp)
    by_cases hlt:j<sz
    · refine ⟨0,j,by simp,by simpa [hx] using hlt,by omega,hlt,?_⟩
      rw [List.flatten_cons,List.getElem?_append_left (by omega)]
      simp [hx,hlt]
    · rw [List.length_cons,Nat.add_mul] at hj
      obtain ⟨i,t,hi,ht,e,ht2,hg⟩:=flatten_get sz r (fun y hy=>h y (by simp [hy])) (j - sz) (by omega)
      refine ⟨i+1,t,by simpa using hi,by simpa using ht,by rw [Nat.add_mul];omega,ht2,?_⟩
      rw [List.flatten_cons,List.getElem?_append_right (by omega),hx,hg]
      simp
theorem lends_sound {I : Nat → Prop} {w : World} {s : Sg} {hp : Hp} (H : SimH I w s hp) {x : Value} {d : D} (h : RD I w s x d) {n sz : Nat} {cs : List C} (hl : lends hp d = some (n, sz, cs)) :
    ∃ a cap,x = .slice a n cap∧n≤cap∧(n=0∧cs=[]∨∃ (b off:Nat) (ys:List Value),a=some ⟨b,off,none⟩∧(cs.length=n * sz→ys.length=n * sz∧(∀ j v,ys[j]? = some v→w.cell? ⟨b,off+j,none⟩=some v)∧RCs I w s ys.toArray cs)):=by
  unfold lends at hl
  split at hl
  · rename_i sz' xs
    simp only [Option.some.injEq,Prod.mk.injEq] at hl
    obtain ⟨rfl,rfl,rfl⟩:=hl
    obtain ⟨a,cap,hx,hcap,hcase⟩:=rd_isl h
    refine ⟨a,cap,hx,hcap.1,?_⟩
    rcases hcase with hnil | ⟨b,off,y,rfl,hI,hlen,hc,hr⟩
    · subst hnil;exact .inl ⟨rfl,rfl⟩
    · right
      have hall:∀ x ∈ xs,x.length=sz':=fun x hx=>by
        obtain ⟨i,hi,e⟩:=List.mem_iff_getElem.1 hx
        rw [← e];exact hlen i hi
      have hfl:=flatten_length sz' xs hall
      refine ⟨b,off,(List.range (xs.length * sz')).map (fun j=>y (j / sz') (j % sz')),rfl,fun _=>⟨by simp,fun j v hv=>?_,by simp [hfl],fun j h1 h2=>?_⟩⟩
      · simp only [List.getElem?_map] at hv
        by_cases hj:j<xs.length * sz'
        · rw [List.getElem?_range hj] at hv
          simp only [Option.map_some,Option.some.injEq] at hv
          have hpos:0<sz':=by
            rcases Nat.eq_zero_or_pos sz' with h0 | h0
            · subst h0;omega
            · exact h0
          have h1:j / sz' < xs.length:=(Nat.div_lt_iff_lt_mul hpos).2 hj
          have h2:j % sz' < sz':=Nat.mod_lt _ hpos
          have:=hc (j / sz') (j % sz') h1 h2
          rw [hv] at this
          rw [← this]
          congr 2
          have:=Nat.div_add_mod j sz'
          rw [Nat.mul_comm] at this
          omega
        · rw [List.getElem?_eq_none (by simp;omega)] at hv;cases hv
      · have hj:j<xs.length * sz':=by simpa using h1
        obtain ⟨i,t,hi,ht,e,ht2,hg⟩:=flatten_get sz' xs hall j hj
        have e2:xs.flatten[j]=(xs[i])[t]:=by
          have:xs.flatten[j]? = some xs.flatten[j]:=by simp [h2]
          rw [this] at hg
          exact Option.some.inj hg
        rw [e2]
        have hdiv:j / sz'=i:=by
          rw [e,Nat.mul_comm,Nat.mul_add_div (by omega),Nat.div_eq_of_lt ht2,Nat.add_zero]
        have hmod:j % sz'=t:=by
          rw [e,Nat.mul_comm,Nat.mul_add_mod,Nat.mod_eq_of_lt ht2]
        simp only [List.getElem_toArray,List.getElem_map,List.getElem_range,hdiv,hmod]
        exact (hr i hi t ht).any s
  · rename_i k sz' off len
    split at hl
    · rename_i csk hk
      simp only [Option.some.injEq,Prod.mk.injEq] at hl
      obtain ⟨rfl,rfl,rfl⟩:=hl
      rcases rd_msl h with ⟨a,hx,hs,rfl,rfl⟩ | ⟨b,cap,arr,T,fr,hx,hs,hlc,hb,hcp⟩
      · exact ⟨a,0,hx,Nat.le_refl _,.inl ⟨rfl,by simp⟩⟩
      · refine ⟨_,cap,hx,hlc.1,.inr ⟨b,off,((arr.toList.drop off).take (len * sz')),rfl,fun hcl=>?_⟩⟩
        obtain ⟨arr',T',hb',hl',hr⟩:=live_cells H hk hs
        rw [hb] at hb'
        simp only [Option.some.injEq,Obj.cells.injEq] at hb'
        obtain ⟨rfl,rfl,rfl⟩:=hb'
        have hcl':off+len * sz'≤csk.length∨len * sz'=0:=by
          simp only [List.length_take,List.length_drop] at hcl
          omega
        have hsz:off+len * sz'≤arr.size:=by
          have:len * sz'≤cap * sz':=Nat.mul_le_mul_right _ hlc.1
          omega
        refine ⟨by simp;omega,fun j v hv=>?_,by simp at hcl ⊢;omega,fun j h1 h2=>?_⟩
        · have hj:j<len * sz':=by
            have:=(List.getElem?_eq_some_iff.1 hv).1
            simp at this
            omega
          rw [List.getElem?_take_of_lt hj,List.getElem?_drop] at hv
          simpa [World.cell?,hb] using hv
        · have hj:j<len * sz':=by simp at h1;omega
          have hj2:off+j<csk.length:=by omega
          obtain ⟨y,hy,hry⟩:=hr (off+j) hj2
          have e1:((arr.toList.drop off).take (len * sz')).toArray[j]=y:=by
            obtain ⟨_,e⟩:=Array.getElem?_eq_some_iff.1 hy
            simp [e]
          have e2:((csk.drop off).take (len * sz'))[j]=csk[off+j]:=by simp
          rw [e1,e2]
          exact hry
    · cases hl
  · simp only [Option.some.injEq,Prod.mk.injEq] at hl
    obtain ⟨rfl,rfl,rfl⟩:=hl
    obtain ⟨h1,_⟩:=rd_scalar h
    exact ⟨_,_,h1,Nat.zero_le _,.inl ⟨rfl,rfl⟩⟩
  · simp only [Option.some.injEq,Prod.mk.injEq] at hl
    obtain ⟨rfl,rfl,rfl⟩:=hl
    obtain ⟨a,h1⟩:=rd_z h
    exact ⟨a,0,h1,Nat.le_refl _,.inl ⟨rfl,rfl⟩⟩
  · cases hl
end
section
variable {P:Program}
theorem append_room {t ty el : TypeId} {i : TypeInfo} (ht : P.underlying t = some (.slice el)) (hi : P.info? el = some i) (w : World) (b len cap m c : Nat) (T : TypeId) (arr : Array Value) (a : Option Addr) (news : List Value)
    (hb:w.heap[b]? = some (.cells arr T (0,0))) (hf:(Builtin.firstCells i.size m (.slice a m c)).run P w = .ok news.toArray w) (h1:∀ v ∈ news,one v=true) (hroom:len+m≤cap) (hfit:len * i.size+news.length≤arr.size) :
    (Builtin.append_ #[t, t] ty #[.slice (some ⟨b, 0, none⟩) len cap, .slice a m c]).run P w =
      .ok (.slice (some ⟨b,0,none⟩) (len+m) cap) { w with heap:=w.heap.setIfInBounds b (.cells (setCells arr (len * i.size) news) T (0,0)) }:=by
  have hst:=run_storeCells (P:=P) b T news arr w (len * i.size) 0 hb (by simpa using hfit) h1
  simp only [Nat.add_zero] at hst
  have hadd:(⟨b,0,none⟩:Addr).add (len * i.size)=⟨b,len * i.size,none⟩:=by rw [add_plain];simp
  simp [Builtin.append_,Go.run_underlying ht,sizeOf,typeInfo,hi,Builtin.lenOf,hroom,hf,hadd,hst]
theorem append_room_none {t ty el : TypeId} {i : TypeInfo} (ht : P.underlying t = some (.slice el)) (hi : P.info? el = some i) (w : World) (len cap m c : Nat) (a : Option Addr) (news : List Value)
    (hf:(Builtin.firstCells i.size m (.slice a m c)).run P w = .ok news.toArray w) (hroom:len+m≤cap) :
    (Builtin.append_ #[t,t] ty #[.slice none len cap,.slice a m c]).run P w = .ok (.slice none (len+m) cap) w:=by
  simp [Builtin.append_,Go.run_underlying ht,sizeOf,typeInfo,hi,Builtin.lenOf,hroom,hf]
theorem firstCells_zero (size:Nat) (a:Option Addr) (c:Nat) (w:World):(Builtin.firstCells size 0 (.slice a 0 c)).run P w = .ok #[] w:=by
  cases a with
  | none=>simp [Builtin.firstCells]
  | some a=>simp only [Builtin.firstCells,Nat.zero_mul];rfl
theorem append_grow {t ty el : TypeId} {i : TypeInfo} {z : Value} (ht : P.underlying t = some (.slice el)) (hi : P.info? el = some i) (hz : i.zero = some z) (w : World) (sa : Option Addr) (len cap : Nat) (olds : List Value)
    (ho:(Builtin.firstCells i.size len (.slice sa len cap)).run P { w with drawn:=w.drawn+1 } = .ok olds.toArray { w with drawn:=w.drawn+1 }) (a:Option Addr) (m c:Nat) (news:List Value)
    (hf:(Builtin.firstCells i.size m (.slice a m c)).run P { w with drawn:=w.drawn+1 } = .ok news.toArray { w with drawn:=w.drawn+1 })
    (hg:cap<len+m) (h63:((len+m:Nat):Int)≤9223372036854775807) (hfit:Builtin.nextslicecap (len+m) cap * i.bytes≤281474976710656) :
    (Builtin.append_ #[t, t] ty #[.slice sa len cap, .slice a m c]).run P w =
      .ok (.slice (some ⟨w.heap.size, 0, none⟩) (len + m) (grownCap w (len + m) cap el))
        (w.drew.alloc (.cells (olds.toArray++news.toArray++Builtin.zeroCells z.cells (grownCap w (len+m) cap el - (len+m))) el)):=by
  have hn:¬ (len+m≤cap):=by omega
  have h63':¬ (9223372036854775807<((len:Int)+(m:Int))):=by omega
  have h48':¬ (281474976710656<Builtin.nextslicecap (len+m) cap * i.bytes):=by omega
  have e:({ w with drawn:=w.drawn+1 }:World)=w.drew:=rfl
  rw [e] at ho hf
  simp [Builtin.append_,Go.run_underlying ht,sizeOf,typeInfo,zeroValue,hi,hz,Builtin.lenOf,hn,h63',h48',Question.forced,ho,hf,newRow,grownCap]
  have e2:∀ (x y:List Value) (z:Array Value),x.toArray++(y.toArray++z)=(x++y).toArray++z:=fun x y z=>by
    apply Array.ext';simp
  rw [e2]
theorem grownCap_ge' (w:World) (need old:Nat) (e:TypeId):need≤grownCap w need old e:=by
  unfold grownCap Question.cut
  simp
theorem firstCells_row (w : World) (size m c b off : Nat) (ys : List Value) (hl : ys.length = m * size) (hy : ∀ j v, ys[j]? = some v → w.cell? ⟨b, off + j, none⟩ = some v) :
    (Builtin.firstCells size m (.slice (some ⟨b,off,none⟩) m c)).run P w = .ok ys.toArray w:=by
  simp only [Builtin.firstCells]
  have:=run_loadCells (P:=P) b off (fun j=>ys.getD j undef) w (m * size) (fun j hj=>by
    have hj':j<ys.length:=by omega
    refine hy j _ ?_
    simp [List.getD_eq_getElem?_getD,hj'])
  rw [this]
  congr 2
  apply List.ext_getElem?
  intro j
  by_cases hj:j<m * size
  · have hj':j<ys.length:=by omega
    simp [List.getElem?_range hj,List.getD_eq_getElem?_getD,hj']
  · rw [List.getElem?_eq_none (by simp;omega),List.getElem?_eq_none (by omega)]
end
end Go.CT
