/- 'pop_sound': an operation that only reads does what 'pop' says. -/
import Derived.Test.YtknihhjejbljgaaCtF
set_option linter.unusedVariables false
set_option linter.unusedSimpArgs false
namespace Go.CT

section
variable {P : Program}

theorem run_mapM_arr {α β : Type} (f : α → Sem β) (as : Array α) (w w' : World) (l : List β) (h : (as.toList.mapM f).run P w = .ok l w') : (as.mapM f).run P w = .ok l.toArray w' := by
  rw [Array.mapM_eq_mapM_toList]
  show (Sem.run P (List.toArray <$> as.toList.mapM f) w) = _
  have : (List.toArray <$> as.toList.mapM f) = (as.toList.mapM f >>= fun l => pure l.toArray) := rfl
  rw [this, run_bind _ _ _ _ _ h]
  rfl

theorem build_sound {I : Nat → Prop} {w : World} {s : Sg} {e : Operand → Option D} {ρ : Operand → Value} (he : ∀ x d, e x = some d → RD I w s (ρ x) d) {t : TypeId} {zs : List Value} (hz : tzero P t = some zs)
    {fs : Array Field} (hu : P.underlying t = some (.struct fs)) (hsz : ∀ x ∈ fs.toList, (tsz P x.type).isSome) {ps : Array (Nat × Operand)} {cs : List C} (hb : bld P t e ps.toList (zs.map .v) = some cs) (h1 : ∀ z ∈ zs, one z = true) :
    ∃ v, (Instr.build t (ps.map fun (i, x) => (i, ρ x))).run P w = .ok v w ∧ RD I w s v (.agg cs) := by
  obtain ⟨z, hzc, hzr⟩ := run_zeroValue hz w
  obtain ⟨l, hl, hll, hli⟩ := run_mapM_places (P := P) fs.toList w hsz
  have hl' := run_mapM_arr (P := P) (fun f => do pure (f.offset, ← sizeOf f.type) : Field → Sem (Nat × Nat)) fs w w l hl
  have hr0 : RCs I w s z.cells (zs.map .v) := by
    refine ⟨by rw [← hzc]; simp, fun j h h' => ?_⟩
    have : (zs.map C.v)[j] = .v z.cells[j] := by
      simp only [List.getElem_map]
      congr 1
      simp [← hzc]
    rw [this]
    exact .v _ _ (h1 _ (by rw [← hzc]; simp))
  obtain ⟨arr', hf, hr'⟩ := bld_sound (P := P) he fs hu (fun i => l.toArray[i]?) (fun f x n hx hn => by
    have := hli f x n (by simpa using hx) hn
    simpa using this) ps.toList _ cs z.cells hb hr0
  simp only [Instr.build]
  refine ⟨.agg arr', ?_, .agg _ _ hr'.1 hr'.2⟩
  rw [run_bind (x := z) (w' := w) _ _ _ hzr, run_bind _ _ _ _ _ (run_underlying hu w)]
  simp only
  rw [run_bind _ _ _ _ _ hl']
  have : (ps.map fun (i, x) => (i, ρ x)).toList = ps.toList.map fun p => (p.1, ρ p.2) := by simp
  rw [this]
  simp only [hf]
  rfl

theorem dbin_sound {I : Nat → Prop} {w : World} {s : Sg} {x y : Value} {dx dy : D} (hx : RD I w s x dx) (hy : RD I w s y dy) {op : BinOp} {vc : Prop} {d : D} (h : dbin op dx dy = some (vc, d)) (hvc : vc) (t : TypeId)
    (hb : (∃ b, dx = DB b) → tbool P t = true) : ∃ v, (binOp op t x y).run P w = .ok v w ∧ RD I w s v d := by
  unfold dbin at h
  split at h
  · rename_i k a k' b
    obtain ⟨rfl, _⟩ := rd_scalar hx
    obtain ⟨rfl, _⟩ := rd_scalar hy
    split at h
    · obtain ⟨y, h1, h2, h3⟩ := dshift_sound (P := P) (k' := k') h hvc t w
      exact ⟨y, h1, h2 ▸ .c _ _ (.v _ _ h3)⟩
    · rename_i hsh
      split at h
      · rename_i hk
        subst hk
        obtain ⟨y, h1, h2, h3⟩ := dint_sound (P := P) h hvc ⟨fun e => hsh (.inl e), fun e => hsh (.inr e)⟩ t w
        exact ⟨y, h1, h2 ▸ .c _ _ (.v _ _ h3)⟩
      · cases h
  · rename_i a b
    obtain ⟨rfl, _⟩ := rd_scalar hx
    obtain ⟨rfl, _⟩ := rd_scalar hy
    have ht := hb ⟨a, rfl⟩
    unfold tbool at ht
    split at ht
    · rename_i hu
      cases op <;> simp only [Option.some.injEq, Prod.mk.injEq, reduceCtorEq] at h
      · obtain ⟨rfl, rfl⟩ := h
        refine ⟨_, ?_, rd_bool _⟩
        simp only [binOp, Op.equal, Op.maxDepth]
        rw [run_bind (x := (a == b)) (w' := w)]
        · rfl
        · rw [Op.equalIn.eq_def]
          simp only
          rw [run_bind _ _ _ _ _ (run_underlying hu w)]
          rfl
      · obtain ⟨rfl, rfl⟩ := h
        refine ⟨_, ?_, rd_bool _⟩
        simp only [binOp, Op.equal, Op.maxDepth]
        rw [run_bind (x := (a == b)) (w' := w)]
        · rfl
        · rw [Op.equalIn.eq_def]
          simp only
          rw [run_bind _ _ _ _ _ (run_underlying hu w)]
          rfl
    · cases ht
  · rename_i a b
    obtain ⟨rfl, _⟩ := rd_scalar hx
    obtain ⟨rfl, _⟩ := rd_scalar hy
    obtain ⟨y, h1, h2, h3⟩ := dstr_sound (P := P) h hvc t w
    exact ⟨y, h1, h2 ▸ .c _ _ (.v _ _ h3)⟩
  · cases h

theorem dbin_scalar {op : BinOp} {dx dy : D} {vc : Prop} {d : D} (h : dbin op dx dy = some (vc, d)) : (∃ u, dx = .c (.v u)) ∧ ∃ u, dy = .c (.v u) := by
  unfold dbin at h
  split at h <;> first | exact ⟨⟨_, rfl⟩, ⟨_, rfl⟩⟩ | cases h

theorem eqGuard_run {op : BinOp} {t : TypeId} {x y : Operand} {a b : Value} (ha : one a = true) (hn : a ≠ .nilIface) (w : World) : (eqGuard op t x y a b).run P w = .ok () w := by
  cases op <;> first
    | rfl
    | (cases a <;> first | rfl | exact absurd rfl hn | (simp [one] at ha))

theorem tstruct_parts {t : TypeId} {zs : List Value} (h : tstruct P t = some zs) : ∃ fs, P.underlying t = some (.struct fs) ∧ (∀ x ∈ fs.toList, (tsz P x.type).isSome) ∧ tzero P t = some zs ∧ ∀ z ∈ zs, one z = true := by
  unfold tstruct at h
  split at h
  · rename_i fs hu
    split at h
    · rename_i hall
      split at h
      · rename_i zs' hz
        split at h
        · rename_i h1
          simp only [Option.some.injEq] at h
          subst h
          exact ⟨fs, hu, fun x hx => by simpa using List.all_eq_true.1 hall x hx, hz, fun z hz' => List.all_eq_true.1 h1 z hz'⟩
        · cases h
      · cases h
    · cases h
  · cases h

theorem pop_sound {I : Nat → Prop} {w : World} {s : Sg} {hp : Hp} (H : SimH I w s hp) {e : Operand → Option D} {ρ : Operand → Value} (he : ∀ x d, e x = some d → RD I w s (ρ x) d)
    {o : Oper} {vc : Prop} {d : D} (h : pop P e hp o.op = some (vc, d)) (hvc : vc) : ∃ v, (execOp ρ o).run P w = .ok (.value v) w ∧ RD I w s v d := by
  obtain ⟨dst, op, type, pos, after, guard⟩ := o
  simp only at h
  cases op with
  | move x =>
    simp only [pop] at h
    split at h
    · rename_i d' hd
      simp only [Option.some.injEq, Prod.mk.injEq] at h
      obtain ⟨rfl, rfl⟩ := h
      exact ⟨_, rfl, he _ _ hd⟩
    · cases h
  | assign x =>
    simp only [pop] at h
    split at h
    · rename_i d' hd
      simp only [Option.some.injEq, Prod.mk.injEq] at h
      obtain ⟨rfl, rfl⟩ := h
      exact ⟨_, rfl, he _ _ hd⟩
    · cases h
  | load t x =>
    simp only [pop] at h
    split at h
    · rename_i k off g n hd hg hn
      split at h
      · rename_i cs hcs
        obtain ⟨b, hs, hx⟩ := rd_ptr (he _ _ hd)
        obtain ⟨arr, T, hb, hl, hr⟩ := live_cells H hcs hs
        obtain ⟨v, h1, h2⟩ := grab_sound (P := P) hg hn (b := b) (o := 0) h hvc (fun j hj => by
          obtain ⟨y, hy, hry⟩ := hr j hj
          exact ⟨y, by simpa [World.cell?, hb] using hy, hry⟩)
        simp only [Nat.zero_add] at h1
        refine ⟨v, ?_, h2⟩
        simp only [execOp, hx]
        exact run_v h1
      · cases h
    · rename_i cs g n hd hg hn
      obtain ⟨b, off, y, hx, hI, hc, hr⟩ := rd_eptr (he _ _ hd)
      obtain ⟨v, h1, h2⟩ := grab_sound (P := P) hg hn (b := b) (o := off) h hvc (fun j hj => ⟨y j, hc j hj, (hr j hj).any s⟩)
      refine ⟨v, ?_, h2⟩
      simp only [execOp, hx]
      exact run_v h1
    · cases h
  | nilCheck x =>
    simp only [pop] at h
    split at h
    · rename_i k off hd
      simp only [Option.some.injEq, Prod.mk.injEq] at h
      obtain ⟨rfl, rfl⟩ := h
      have hx := he _ _ hd
      obtain ⟨b, hs, hx'⟩ := rd_ptr hx
      refine ⟨_, ?_, hx⟩
      simp only [execOp, hx']
      rfl
    · rename_i cs hd
      simp only [Option.some.injEq, Prod.mk.injEq] at h
      obtain ⟨rfl, rfl⟩ := h
      have hx := he _ _ hd
      obtain ⟨b, off, y, hx', _⟩ := rd_eptr hx
      refine ⟨_, ?_, hx⟩
      simp only [execOp, hx']
      rfl
    · rename_i f cs hd
      simp only [Option.some.injEq, Prod.mk.injEq] at h
      obtain ⟨rfl, rfl⟩ := h
      have hx := he _ _ hd
      refine ⟨ρ x, ?_, hx⟩
      obtain ⟨vs, hv, _⟩ := rd_clo hx
      simp only [execOp, hv]
      rfl
    · cases h
  | binOp op t x y yt =>
    simp only [pop] at h
    split at h
    · rename_i a b hx hy
      split at h
      · rename_i ht
        obtain ⟨v, h1, h2⟩ := dbin_sound (P := P) (he _ _ hx) (he _ _ hy) h hvc t (fun _ => ht)
        refine ⟨v, ?_, h2⟩
        have hxx := (rd_scalar (he _ _ hx)).1
        simp only [execOp]
        refine run_v ?_
        rw [run_bind _ _ _ _ _ (eqGuard_run (by rw [hxx]; rfl) (by rw [hxx]; simp) w)]
        exact h1
      · cases h
    · rename_i dx dy _ hx hy
      split at h
      · cases h
      · rename_i dx' dy' hnb
        obtain ⟨⟨u, hu⟩, ⟨u', hu'⟩⟩ := dbin_scalar h
        obtain ⟨v, h1, h2⟩ := dbin_sound (P := P) (he _ _ hx) (he _ _ hy) h hvc t (fun ⟨b, hb⟩ => (hnb b hb).elim)
        refine ⟨v, ?_, h2⟩
        have hxx := rd_scalar (hu ▸ he _ _ hx)
        simp only [execOp]
        refine run_v ?_
        have hne : u ≠ .nilIface := by
          intro hc
          subst hc
          subst hu
          simp [dbin] at h
        rw [run_bind _ _ _ _ _ (eqGuard_run (by rw [hxx.1]; exact hxx.2) (by rw [hxx.1]; exact hne) w)]
        exact h1
    · cases h
  | unOp op t x =>
    simp only [pop] at h
    split at h
    · rename_i dx hx
      have hxx := he _ _ hx
      unfold dun at h
      split at h
      · rename_i b
        simp only [Option.some.injEq, Prod.mk.injEq] at h
        obtain ⟨rfl, rfl⟩ := h
        refine ⟨_, ?_, rd_bool _⟩
        simp only [execOp, (rd_scalar hxx).1]
        rfl
      · rename_i k n
        simp only [Option.some.injEq, Prod.mk.injEq] at h
        obtain ⟨rfl, rfl⟩ := h
        refine ⟨_, ?_, rd_int _ _⟩
        simp only [execOp, (rd_scalar hxx).1, Op.unary, Op.intArith, wrap_of_InK hvc]
        rfl
      · cases h
    · cases h
  | convert src dst x =>
    simp only [pop] at h
    split at h
    · rename_i k n ks kd hx hs hd
      simp only [Option.some.injEq, Prod.mk.injEq] at h
      obtain ⟨rfl, rfl⟩ := h
      refine ⟨_, ?_, rd_int _ _⟩
      simp only [execOp, (rd_scalar (he _ _ hx)).1, convert]
      refine run_v ?_
      rw [run_bind _ _ _ _ _ (run_underlying hs w), run_bind _ _ _ _ _ (run_underlying hd w)]
      simp only [Conv.intToInt, wrap_of_InK hvc]
      rfl
    · cases h
  | fieldAddr st x f =>
    simp only [pop] at h
    split at h
    · rename_i k off o ft hx hf
      simp only [Option.some.injEq, Prod.mk.injEq] at h
      obtain ⟨rfl, rfl⟩ := h
      obtain ⟨b, hs, hxx⟩ := rd_ptr (he _ _ hx)
      refine ⟨_, ?_, .c _ _ (.ptr _ k b (off + o) hs)⟩
      simp only [execOp, hxx]
      exact run_v (fieldPlace_run hf b off w)
    · rename_i cs o ft hx hf
      simp only [Option.some.injEq, Prod.mk.injEq] at h
      obtain ⟨rfl, rfl⟩ := h
      obtain ⟨b, off, y, hxx, hI, hc, hr⟩ := rd_eptr (he _ _ hx)
      refine ⟨.pointer (some ⟨b, off + o, none⟩), ?_, .c _ _ (.eptr _ b (off + o) (cs.drop o) (fun j => y (o + j)) hI (fun j hj => ?_) (fun j hj => ?_))⟩
      · simp only [execOp, hxx]
        exact run_v (fieldPlace_run hf b off w)
      · rw [Nat.add_assoc]
        simp only [List.length_drop] at hj
        exact hc (o + j) (by omega)
      · simp only [List.length_drop] at hj
        simpa using hr (o + j) (by omega)
    · cases h
  | field st x f =>
    simp only [pop] at h
    split at h
    · rename_i cs o ft hx hf
      split at h
      · rename_i g n hg hn
        obtain ⟨fs, fx, hu, hfx, rfl, rfl⟩ := tfield_parts hf
        have hxx := he _ _ hx
        cases hxx' : ρ x with
        | agg vs =>
          rw [hxx'] at hxx
          cases hxx with
          | agg _ _ hl hr =>
            obtain ⟨v, h1, h2⟩ := part_sound (P := P) hg hn h hvc hl hr
            refine ⟨v, ?_, h2⟩
            simp only [execOp, hxx', Instr.field]
            refine run_v ?_
            rw [run_bind _ _ _ _ _ (run_underlying hu w)]
            simp only [hfx]
            rw [run_bind (x := vs) (w' := w) _ _ _ (by rfl)]
            exact h1
        | _ => rw [hxx'] at hxx; cases hxx
      · cases h
    · cases h
  | indexAddr t x ix =>
    simp only [pop] at h
    split at h
    · rename_i sz xs k i n hx hi ht
      obtain ⟨el, htl, hn⟩ := Option.bind_eq_some_iff.1 ht
      split at h
      · rename_i cs hcs
        simp only [Option.some.injEq, Prod.mk.injEq] at h
        obtain ⟨rfl, rfl⟩ := h
        obtain ⟨h0, rfl⟩ := hvc
        obtain ⟨hlt, hcs'⟩ := List.getElem?_eq_some_iff.1 hcs
        obtain ⟨a, cap, hxx, hcap, hcase⟩ := rd_isl (he _ _ hx)
        rcases hcase with hnil | ⟨b, off, y, rfl, hI, hl, hc, hr⟩
        · subst hnil; simp at hlt
        · have hlen := hl _ hlt
          refine ⟨.pointer (some ⟨b, off + i.toNat * sz, none⟩), ?_, .c _ _ (.eptr _ b _ cs (fun j => y i.toNat j) hI (fun j hj => ?_) (fun j hj => ?_))⟩
          · simp only [execOp, hxx, (rd_scalar (he _ _ hi)).1, Instr.indexAt]
            refine run_v ?_
            rw [run_bind (x := (k, i)) (w' := w) _ _ _ (by rfl), run_bind _ _ _ _ _ (run_underlying (und_slice htl) w)]
            simp only
            rw [run_bind (x := (some (⟨b, off, none⟩ : Addr), xs.length, el)) (w' := w) _ _ _ (by rfl)]
            simp only
            rw [run_bind _ _ _ _ _ (run_underlying (und_slice htl) w)]
            have hb : 0 ≤ i ∧ i < (xs.length : Int) := ⟨h0, by omega⟩
            simp only [hb, and_self, if_true]
            rw [run_bind _ _ _ _ _ (run_sizeOf hn w)]
            simp only [add_plain]
            rfl
          · rw [← hcs'] at hj
            exact hc _ _ hlt (by omega)
          · have := hr _ hlt j (by rw [hcs']; exact hj)
            simpa [hcs'] using this
      · cases h
    · rename_i k sz off len kk i n hx hi ht
      obtain ⟨el, htl, hn⟩ := Option.bind_eq_some_iff.1 ht
      simp only [Option.some.injEq, Prod.mk.injEq] at h
      obtain ⟨rfl, rfl⟩ := h
      obtain ⟨⟨h0, hlt⟩, rfl⟩ := hvc
      rcases rd_msl (he _ _ hx) with ⟨a, _, _, _, h3⟩ | ⟨b, cap, arr, T, fr, hxx, hs, hlc, hb, hcp⟩
      · subst h3; exfalso; simp at hlt; omega
      · refine ⟨.pointer (some ⟨b, off + i.toNat * sz, none⟩), ?_, .c _ _ (.ptr _ k b _ hs)⟩
        simp only [execOp, hxx, (rd_scalar (he _ _ hi)).1, Instr.indexAt]
        refine run_v ?_
        rw [run_bind (x := (kk, i)) (w' := w) _ _ _ (by rfl), run_bind _ _ _ _ _ (run_underlying (und_slice htl) w)]
        simp only
        rw [run_bind (x := (some (⟨b, off, none⟩ : Addr), len, el)) (w' := w) _ _ _ (by rfl)]
        simp only
        rw [run_bind _ _ _ _ _ (run_underlying (und_slice htl) w)]
        have hb : 0 ≤ i ∧ i < (len : Int) := ⟨h0, hlt⟩
        simp only [hb, and_self, if_true]
        rw [run_bind _ _ _ _ _ (run_sizeOf hn w)]
        simp only [add_plain]
        rfl
    · cases h
  | index t x ix =>
    simp only [pop] at h
    split at h
    · rename_i b k i hx hi
      split at h
      · rename_i ht
        simp only [Option.some.injEq, Prod.mk.injEq] at h
        obtain ⟨rfl, rfl⟩ := h
        obtain ⟨h0, hlt⟩ := hvc
        unfold tstring at ht
        split at ht
        · rename_i hu
          have hlt' : i.toNat < b.size := by omega
          refine ⟨_, ?_, rd_int _ _⟩
          simp only [execOp, (rd_scalar (he _ _ hx)).1, (rd_scalar (he _ _ hi)).1, Instr.index]
          refine run_v ?_
          rw [run_bind (x := (k, i)) (w' := w) _ _ _ (by rfl), run_bind _ _ _ _ _ (run_underlying hu w)]
          simp only [h0, if_true]
          have hget : b[i.toNat]? = some (b.data.toList.getD i.toNat 0) := by
            rw [getElem?_pos b i.toNat hlt']
            congr 1
            have hls : i.toNat < b.data.toList.length := by simpa using hlt'
            rw [List.getD_eq_getElem?_getD, List.getElem?_eq_getElem hls]
            rfl
          simp only [hget]
          rfl
        · cases ht
      · cases h
    · cases h
  | extract x i =>
    simp only [pop] at h
    split at h
    · rename_i ds hx
      split at h
      · rename_i d' hd'
        simp only [Option.some.injEq, Prod.mk.injEq] at h
        obtain ⟨rfl, rfl⟩ := h
        have hxx := he _ _ hx
        cases hxx' : ρ x with
        | tuple vs =>
          rw [hxx'] at hxx
          cases hxx with
          | tup _ _ hl hr =>
            obtain ⟨hlt, hd2⟩ := List.getElem?_eq_some_iff.1 hd'
            have hv : vs[i]? = some (vs[i]'(by omega)) := by simp
            refine ⟨_, ?_, hd2 ▸ hr i (by omega) hlt⟩
            simp only [execOp, hxx', Instr.extract, hv]
            rfl
        | _ => rw [hxx'] at hxx; cases hxx
      · cases h
    · cases h
  | call c =>
    obtain ⟨callee, args, argTypes⟩ := c
    simp only [pop] at h
    split at h
    · split at h
      · rename_i x t hargs hats
        split at h
        · rename_i d' hd'
          split at h
          · rename_i n hn
            simp only [Option.some.injEq, Prod.mk.injEq] at h
            obtain ⟨rfl, rfl⟩ := h
            have e1 : args = #[x] := by apply Array.ext'; simpa using hargs
            have e2 : argTypes = #[t] := by apply Array.ext'; simpa using hats
            subst e1; subst e2
            refine ⟨_, ?_, rd_int _ _⟩
            simp only [execOp, resolve]
            rw [run_bind (x := ({ target := .builtin .len #[t] type (#[x].map fun | .const _ => true | _ => false), args := #[x].map ρ } : Deferred)) (w' := w) _ _ _ (by rfl)]
            simp only [invoke, builtin]
            refine run_v ?_
            simp only [Builtin.len_]
            rcases islen_sound (he _ _ hd') hn with ⟨a, cap, el, hx, hu⟩ | ⟨b, hx, hb, hu⟩
            · simp [hx, run_bind _ _ _ _ _ (run_underlying hu w), goInt]
            · simp [hx, run_bind _ _ _ _ _ (run_underlying hu w), goInt, hb]
          · cases h
        · cases h
      · cases h
    · cases h
  | slice t x lo hi mx =>
    cases mx with
    | none =>
      simp only [pop] at h
      split at h
      · rename_i b hx
        split at h
        · rename_i l hh hl hhi
          split at h
          · rename_i ht
            simp only [Option.some.injEq, Prod.mk.injEq] at h
            obtain ⟨rfl, rfl⟩ := h
            refine ⟨_, ?_, rd_str _⟩
            have hb := sliceBounds_run (P := P) (isSlice := false) (len := b.size) (cap := b.size) (lo := lo.map ρ) (hi := hi.map ρ) (l := l) (h := hh)
              ((bnd_sound he hl).imp (fun ⟨a, c⟩ => ⟨by simp [a], c⟩) fun ⟨y, k, a, c⟩ => ⟨k, by simp [a, c]⟩) ((bnd_sound he hhi).imp (fun ⟨a, c⟩ => ⟨by simp [a], c⟩) fun ⟨y, k, a, c⟩ => ⟨k, by simp [a, c]⟩)
              hvc.1.1 hvc.1.2 hvc.2 (Nat.le_refl _) w
            simp only [execOp, (rd_scalar (he _ _ hx)).1, Instr.sliceAt]
            refine run_v ?_
            rw [run_bind _ _ _ _ _ (run_underlying (und_string ht) w)]
            simp only [Instr.slice]
            rw [run_bind _ _ _ _ _ (run_underlying (und_string ht) w)]
            simp only [Option.map_none, Option.isSome_none, Bool.false_eq_true, if_false]
            rw [run_bind _ _ _ _ _ hb]
            rfl
          · cases h
        · cases h
      · rename_i sz xs hx
        split at h
        · rename_i l hh n hl hhi ht
          simp only [Option.some.injEq, Prod.mk.injEq] at h
          obtain ⟨rfl, rfl⟩ := h
          obtain ⟨⟨⟨h0, hlh⟩, hle⟩, rfl⟩ := hvc
          obtain ⟨el, htl, hn⟩ := Option.bind_eq_some_iff.1 ht
          obtain ⟨a, cap, hxx, hcap, hcase⟩ := rd_isl (he _ _ hx)
          have hb := sliceBounds_run (P := P) (isSlice := true) (len := xs.length) (cap := cap) (lo := lo.map ρ) (hi := hi.map ρ) (l := l) (h := hh)
            ((bnd_sound he hl).imp (fun ⟨a, c⟩ => ⟨by simp [a], c⟩) fun ⟨y, k, a, c⟩ => ⟨k, by simp [a, c]⟩) ((bnd_sound he hhi).imp (fun ⟨a, c⟩ => ⟨by simp [a], c⟩) fun ⟨y, k, a, c⟩ => ⟨k, by simp [a, c]⟩)
            h0 hlh (by omega) hcap.1 w
          have hrun : (execOp ρ { dst := dst, op := .slice t x lo hi none, type := type, pos := pos, after := after, guard := guard }).run P w =
              .ok (.value (.slice (if cap = l.toNat then a else a.map (·.add (l.toNat * sz))) (hh.toNat - l.toNat) (cap - l.toNat))) w := by
            simp only [execOp, hxx, Instr.sliceAt]
            refine run_v ?_
            rw [run_bind _ _ _ _ _ (run_underlying (und_slice htl) w)]
            simp only [Instr.slice]
            rw [run_bind _ _ _ _ _ (run_underlying (und_slice htl) w)]
            simp only [Option.map_none]
            rw [run_bind _ _ _ _ _ hb]
            simp only
            rw [run_bind _ _ _ _ _ (run_sizeOf hn w)]
            rfl
          refine ⟨_, hrun, ?_⟩
          have hlen : ((xs.drop l.toNat).take (hh.toNat - l.toNat)).length = hh.toNat - l.toNat := by simp; omega
          rcases Nat.eq_zero_or_pos (hh.toNat - l.toNat) with he0 | hpos
          · rw [he0]
            simp only [List.take_zero]
            exact .c _ _ (.isl0 _ _ _ _)
          · rcases hcase with hnil | ⟨b, off, y, rfl, hI, hll, hc, hr⟩
            · subst hnil; simp at hle; omega
            · have hne : ¬ (cap = l.toNat) := by omega
              simp only [hne, if_false, Option.map_some, add_plain]
              have := RC.isl (I := I) (w := w) s b (off + l.toNat * sz) (cap - l.toNat) sz ((xs.drop l.toNat).take (hh.toNat - l.toNat)) (fun i j => y (l.toNat + i) j) hI
                (fun i h => by
                  simp at h
                  have := hll (l.toNat + i) (by omega)
                  simpa using this)
                (fun i j hi hj => by
                  rw [hlen] at hi
                  have := hc (l.toNat + i) j (by omega) hj
                  rw [← this]
                  congr 2
                  rw [Nat.add_mul]; omega)
                (fun i h j h' => by
                  simp at h
                  have := hr (l.toNat + i) (by omega) j (by simpa using h')
                  simpa using this)
                (by rw [hlen]; constructor <;> omega)
              rw [hlen] at this
              exact .c _ _ this
        · cases h
      · rename_i k sz off len hx
        split at h
        · rename_i l hh n hl hhi ht
          simp only [Option.some.injEq, Prod.mk.injEq] at h
          obtain ⟨rfl, rfl⟩ := h
          obtain ⟨⟨⟨h0, hlh⟩, hle⟩, hor, rfl⟩ := hvc
          obtain ⟨el, htl, hn⟩ := Option.bind_eq_some_iff.1 ht
          have hsh : ∃ a cap, ρ x = .slice a len cap ∧ len ≤ cap ∧ len ≤ mx := by
            rcases rd_msl (he _ _ hx) with ⟨a, h1, _, _, h3⟩ | ⟨b, cap, arr, T, fr, h1, _, h3, _⟩
            · exact ⟨a, 0, by rw [h1, h3], by omega, by omega⟩
            · exact ⟨_, cap, h1, h3⟩
          obtain ⟨a, cap, hxx, hcap⟩ := hsh
          have hb := sliceBounds_run (P := P) (isSlice := true) (len := len) (cap := cap) (lo := lo.map ρ) (hi := hi.map ρ) (l := l) (h := hh)
            ((bnd_sound he hl).imp (fun ⟨a, c⟩ => ⟨by simp [a], c⟩) fun ⟨y, k, a, c⟩ => ⟨k, by simp [a, c]⟩) ((bnd_sound he hhi).imp (fun ⟨a, c⟩ => ⟨by simp [a], c⟩) fun ⟨y, k, a, c⟩ => ⟨k, by simp [a, c]⟩)
            h0 hlh (by omega) hcap.1 w
          have hrun : (execOp ρ { dst := dst, op := .slice t x lo hi none, type := type, pos := pos, after := after, guard := guard }).run P w =
              .ok (.value (.slice (if cap = l.toNat then a else a.map (·.add (l.toNat * sz))) (hh.toNat - l.toNat) (cap - l.toNat))) w := by
            simp only [execOp, hxx, Instr.sliceAt]
            refine run_v ?_
            rw [run_bind _ _ _ _ _ (run_underlying (und_slice htl) w)]
            simp only [Instr.slice]
            rw [run_bind _ _ _ _ _ (run_underlying (und_slice htl) w)]
            simp only [Option.map_none]
            rw [run_bind _ _ _ _ _ hb]
            simp only
            rw [run_bind _ _ _ _ _ (run_sizeOf hn w)]
            rfl
          refine ⟨_, hrun, ?_⟩
          rcases rd_msl (he _ _ hx) with ⟨a', h1, hs, rfl, rfl⟩ | ⟨b, cap', arr, T, fr, h1, hs, h3, hb', hcp⟩
          · rw [hxx] at h1
            simp only [Value.slice.injEq] at h1
            obtain ⟨rfl, _, rfl⟩ := h1
            have : l = 0 := by omega
            subst this
            have : hh = 0 := by omega
            subst this
            simp only [Int.toNat_zero, Nat.zero_mul, Nat.add_zero, Nat.sub_self, if_true]
            exact .c _ _ (.msl0 _ _ _ _ hs)
          · rw [hxx] at h1
            simp only [Value.slice.injEq] at h1
            obtain ⟨rfl, _, rfl⟩ := h1
            have hadd : (if cap = l.toNat then some (⟨b, off, none⟩ : Addr) else (some (⟨b, off, none⟩ : Addr)).map (·.add (l.toNat * sz))) = some ⟨b, off + l.toNat * sz, none⟩ := by
              simp only [Option.map_some, add_plain]
              rcases hor with rfl | hlt
              · simp
              · rw [if_neg (by omega)]
            rw [hadd]
            have hmul : off + l.toNat * sz + (cap - l.toNat) * sz = off + cap * sz := by
              rw [Nat.add_assoc, ← Nat.add_mul]
              congr 2
              omega
            exact .c _ _ (.msl _ k b sz _ _ (cap - l.toNat) arr T fr hs (by omega) hb' (by omega))
        · cases h
      · cases h
    | some mx =>
      cases lo with
      | some lo => simp [pop] at h
      | none =>
        cases hi with
        | none => simp [pop] at h
        | some hi =>
          simp only [pop] at h
          split at h
          · rename_i c k k' hx hhi hmx
            have hsh : ∃ a len cap, ρ x = .slice a len cap ∧ d = .c .z ∧ ((tslice P t).bind (tsz P)).isSome := by
              split at h <;> first
                | (split at h
                   · rename_i ht
                     simp only [Option.some.injEq, Prod.mk.injEq] at h
                     obtain ⟨rfl, rfl⟩ := h
                     first
                       | (obtain ⟨a, cap, h1, _⟩ := rd_isl (he _ _ hx); exact ⟨_, _, _, h1, rfl, ht⟩)
                       | (rcases rd_msl (he _ _ hx) with ⟨a, h1, _⟩ | ⟨b, cap, _, _, _, h1, _⟩ <;> exact ⟨_, _, _, h1, rfl, ht⟩)
                       | (obtain ⟨a, h1⟩ := rd_z (he _ _ hx); exact ⟨_, _, _, h1, rfl, ht⟩)
                       | exact ⟨_, _, _, (rd_scalar (he _ _ hx)).1, rfl, ht⟩
                   · cases h)
                | cases h
            obtain ⟨a, len, cap, hxx, rfl, ht⟩ := hsh
            obtain ⟨n, hn0⟩ := Option.isSome_iff_exists.1 ht
            obtain ⟨el, hel, hn⟩ := Option.bind_eq_some_iff.1 hn0
            have hi0 := (rd_scalar (he _ _ hhi)).1
            have hm0 := (rd_scalar (he _ _ hmx)).1
            refine ⟨.slice a 0 0, ?_, .c _ _ (.z _ a)⟩
            simp only [execOp, hxx, Instr.sliceAt, Option.map_none, Option.map_some, hi0, hm0]
            refine run_v ?_
            rw [run_bind _ _ _ _ _ (run_underlying (und_slice hel) w)]
            simp only [Instr.slice]
            rw [run_bind _ _ _ _ _ (run_underlying (und_slice hel) w)]
            simp only
            rw [run_bind (x := ((0, 0, 0) : Nat × Nat × Nat)) (w' := w)]
            · simp only
              rw [run_bind _ _ _ _ _ (run_sizeOf hn w)]
              rfl
            · simp only [Instr.sliceBounds]
              rw [run_bind _ _ _ _ _ (sliceBound_run (Int.le_refl 0) (by omega) w)]
              rw [run_bind _ _ _ _ _ (sliceBound_run (Int.le_refl 0) (by omega) w)]
              rw [run_bind (x := 0) (w' := w) _ _ _ (by rfl)]
              rfl
          · cases h
  | makeFunc fn first caps =>
    cases fn with
    | func f =>
      simp only [pop] at h
      split at h
      · rename_i cs hcs
        split at h
        · rename_i h0
          simp only [Option.some.injEq, Prod.mk.injEq] at h
          obtain ⟨rfl, rfl⟩ := h
          have hr := cellsOf_sound (I := I) (w := w) (s := s) he caps.toList cs hcs
          have e1 : (caps.toList.map ρ).toArray = caps.map ρ := by apply Array.ext'; simp
          rw [e1] at hr
          have e2 : first.map ρ = #[] := by
            have : first = #[] := Array.eq_empty_of_size_eq_zero h0
            rw [this]; simp
          refine ⟨_, ?_, .c _ _ (.clo _ f cs _ hr.1 hr.2)⟩
          simp only [execOp, Instr.makeFunc, e2]
          rfl
        · cases h
      · cases h
    | _ => simp [pop] at h
  | build t ps =>
    simp only [pop] at h
    split at h
    · rename_i zs hz
      split at h
      · rename_i cs hb
        simp only [Option.some.injEq, Prod.mk.injEq] at h
        obtain ⟨rfl, rfl⟩ := h
        obtain ⟨fs, hu, hsz, hz', h1⟩ := tstruct_parts hz
        obtain ⟨v, hr, hd⟩ := build_sound (P := P) he hz' hu hsz hb h1
        exact ⟨v, run_v hr, hd⟩
      · cases h
    · cases h
  | _ => simp [pop] at h

end
end Go.CT
