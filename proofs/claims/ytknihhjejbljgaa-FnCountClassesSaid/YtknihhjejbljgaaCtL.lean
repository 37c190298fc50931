/- A step that is no call does what 'stp' says. -/
import Derived.Test.YtknihhjejbljgaaCtK
set_option linter.unusedVariables false
set_option linter.unusedSimpArgs false
namespace Go.CT

section
variable {P : Program}

theorem run_u {s : Sem Unit} {w w' : World} (h : s.run P w = .ok () w') : (do s; pure Next.skip : Sem Next).run P w = .ok .skip w' := by
  rw [run_bind _ _ _ _ _ h]; rfl

theorem rcs_exists {I : Nat → Prop} {w : World} {s : Sg} {arr : Array Value} {cs : List C} (h : RCs I w s arr cs) : ∀ j (hj : j < cs.length), ∃ y, arr[j]? = some y ∧ RC I w s y cs[j] := fun j hj => by
  have hj' : j < arr.size := by rw [h.1]; exact hj
  exact ⟨arr[j], by simp [hj'], h.2 j hj' hj⟩

theorem rcs_consts {I : Nat → Prop} {w : World} {s : Sg} (zs : List Value) (h : zs.all one = true) : RCs I w s zs.toArray (zs.map C.v) :=
  ⟨by simp, fun j h1 h2 => by
    simp only [List.getElem_map, List.getElem_toArray]
    exact .v _ _ (List.all_eq_true.1 h _ (by simp))⟩

theorem RD.cellsR {I : Nat → Prop} {w : World} {s : Sg} {x : Value} {d : D} {cs : List C} (h : RD I w s x d) (hd : d.cells = some cs) : RCs I w s x.cells cs := h.cells hd

theorem flat_replicate (n : Nat) (zs : List C) (j : Nat) (hj : j < n * zs.length) : (List.replicate n zs).flatten[j]? = zs[j % zs.length]? := by
  have hall : ∀ x ∈ List.replicate n zs, x.length = zs.length := fun x hx => by rw [List.eq_of_mem_replicate hx]
  obtain ⟨i, t, hi, ht, e, ht2, hg⟩ := flatten_get zs.length (List.replicate n zs) hall j (by simpa using hj)
  rw [hg, e, Nat.mul_comm, Nat.mul_add_mod, Nat.mod_eq_of_lt ht2]
  simp [ht2]

theorem appUp_spend (hp : Hp) (ko : Option Nat) (key : Nat) (cs : List C) : appUp hp (spendUp ko ++ [(key, some cs)]) = upd (spend hp ko) key (some (some cs)) := by
  cases ko <;> rfl

theorem stp_sound {m : Nat} {I : Nat → Prop} {w : World} {s : Sg} {hp : Hp} (H : SimH I w s hp) {a : Act} {tm : Nat → Option D} (hA : ∀ n d, tm n = some d → RD I w s (a.tmps.getD n undef) d) {o : Oper} {key : Nat} {out : Out}
    (h : stp P m key tm hp o.op = some out) (hvc : out.vc) :
    ∃ v w' s', ((execOp a.eval o).run P w = .ok (.value v) w' ∨ (execOp a.eval o).run P w = .ok .skip w' ∧ v = undef) ∧ s.le s' ∧ SimH I w' s' (appUp hp out.up) ∧
      Ext m I w s hp I w' s' (appUp hp out.up) ∧ ∀ d, out.d = some d → RD I w' s' v d := by
  have hpop : ∀ vc d, pop P (evP tm) hp o.op = some (vc, d) → okP tm o.op.operands.toList → vc → ∃ v w' s', ((execOp a.eval o).run P w = .ok (.value v) w' ∨ (execOp a.eval o).run P w = .ok .skip w' ∧ v = undef) ∧ s.le s' ∧ SimH I w' s' (appUp hp []) ∧
      Ext m I w s hp I w' s' (appUp hp []) ∧ ∀ d', some d = some d' → RD I w' s' v d' := fun vc d h1 h2 h3 => by
    obtain ⟨v, hr, hd⟩ := pop_sound' (P := P) H hA h1 h2 h3
    exact ⟨v, w, s, .inl hr, Sg.le_refl _, H, Ext.refl _ _ _ _ _, fun d' e => by cases e; exact hd⟩
  obtain ⟨dst, op, type, pos, after, guard⟩ := o
  cases op with
  | pick c x y =>
    simp only [stp] at h
    split at h
    · rename_i b da db hc hx hy
      split at h
      · rename_i p q hp1 hq1
        simp only [Option.some.injEq] at h
        subst h
        obtain ⟨hok, h1, h2⟩ := hvc
        have hcv := (rd_scalar (evP_sound hA hc hok (by simp))).1
        refine ⟨.bool (bif b then p else q), w, s, .inl ?_, Sg.le_refl _, H, Ext.refl _ _ _ _ _, fun d' e => by cases e; exact rd_bool _⟩
        simp only [execOp, hcv]
        rw [run_bind (x := b) (w' := w) _ _ _ (by rfl)]
        cases b with
        | true =>
          have := peel_sound (evT_sound hA hx) (h1 rfl)
          rw [hp1] at this
          simp only [if_true, cond_true, (rd_scalar this).1]
          rfl
        | false =>
          have := peel_sound (evT_sound hA hy) (h2 rfl)
          rw [hq1] at this
          simp only [Bool.false_eq_true, if_false, cond_false, (rd_scalar this).1]
          rfl
      · cases h
    · cases h
  | alloc T =>
    simp only [stp] at h
    split at h
    · rename_i zs hz
      split at h
      · rename_i h1
        simp only [Option.some.injEq] at h
        subst h
        obtain ⟨hk, hm⟩ := hvc
        obtain ⟨hle, H', E'⟩ := sim_alloc (m := m) H key hk hm zs.toArray T (zs.map .v) (by simp) (rcs_exists (rcs_consts zs h1))
        refine ⟨.pointer (some ⟨w.heap.size, 0, none⟩), _, _, .inl ?_, hle, H', E', fun d e => ?_⟩
        · simp only [execOp]
          exact run_v (run_alloc hz _ w)
        · cases e
          exact .c _ _ (.ptr _ key _ 0 (by simp [upd_same]))
      · cases h
    · cases h
  | box T x =>
    simp only [stp] at h
    split at h
    · rename_i d hx
      split at h
      · rename_i cs hcs
        simp only [Option.some.injEq] at h
        subst h
        obtain ⟨hok, hk, hm⟩ := hvc
        have hr := RD.cellsR (evP_sound hA hx hok (by simp)) hcs
        obtain ⟨hle, H', E'⟩ := sim_alloc (m := m) H key hk hm (a.eval x).cells T cs (by rw [hr.1]; exact Nat.le_refl _) (rcs_exists hr)
        refine ⟨.pointer (some ⟨w.heap.size, 0, none⟩), _, _, .inl ?_, hle, H', E', fun d e => ?_⟩
        · simp only [execOp]
          exact run_v (run_box T _ w)
        · cases e
          exact .c _ _ (.ptr _ key _ 0 (by simp [upd_same]))
      · cases h
    · cases h
  | buildSlice t n ps =>
    simp only [stp] at h
    split at h
    · rename_i sz zs hsz hzs
      obtain ⟨el, htl, hn⟩ := Option.bind_eq_some_iff.1 hsz
      obtain ⟨el', htl', hz⟩ := Option.bind_eq_some_iff.1 hzs
      rw [htl] at htl'
      cases htl'
      split at h
      · rename_i cs hcs
        simp only [Option.some.injEq] at h
        subst h
        obtain ⟨hok, ⟨hpn, hcl, hbig, hzl, hmx⟩, hk, hm⟩ := hvc
        obtain ⟨z, hzc, hzr⟩ := run_zeroValue hz w
        have hzsz : z.cells.size = sz := by rw [← Array.length_toList, hzc, hzl]
        obtain ⟨vals, hv, hf⟩ := partsS_sound (P := P) (I := I) (w := w) (s := s) (sz := sz) (e := evP tm) (ρ := a.eval) ps.toList 0 cs (if n * sz = 0 then #[] else (Array.range (n * sz)).map (fun i => z.cells[i % z.cells.size]!))
          (fun x hx d hd => evP_sound hA hd hok hx) hcs (by
            rw [hcl]
            by_cases h0 : n * sz = 0
            · rw [if_pos h0]; simp [h0]
            · rw [if_neg h0]; simp)
        have hsetall : setCells (if n * sz = 0 then #[] else (Array.range (n * sz)).map (fun i => z.cells[i % z.cells.size]!)) (0 * sz) vals = vals.toArray := by
          have hvl : vals.length = n * sz := by
            have := hv.1
            simp at this
            omega
          rw [Nat.zero_mul]
          refine setCells_all vals _ ?_
          by_cases h0 : n * sz = 0
          · rw [if_pos h0, hvl, h0]; rfl
          · rw [if_neg h0, hvl]; simp
        rw [hsetall] at hf
        obtain ⟨hle, H', E'⟩ := sim_alloc (m := m) H key hk hm vals.toArray el cs (by rw [hv.1]; exact Nat.le_refl _) (rcs_exists hv)
        refine ⟨.slice (some ⟨w.heap.size, 0, none⟩) n n, _, _, .inl ?_, hle, H', E', fun d e => ?_⟩
        · simp only [execOp]
          refine run_v ?_
          simp only [Instr.buildSlice]
          rw [run_bind _ _ _ _ _ (run_underlying (und_slice htl) w)]
          simp only
          rw [run_bind _ _ _ _ _ (run_sizeOf hn w)]
          rw [if_neg (by omega)]
          have hpl : (ps.map fun (i, x) => (i, a.eval x)).toList = ps.toList.map fun p => (p.1, a.eval p.2) := by simp
          by_cases h0 : n * sz = 0
          · rw [if_pos h0] at hf ⊢
            rw [run_bind (x := (#[] : Array Value)) (w' := w) _ _ _ (by rfl)]
            have hr0 : Array.map (fun x => (#[] : Array Value)[x % (#[] : Array Value).size]!) (Array.range (n * sz)) = #[] := by rw [h0]; simp
            simp only [hr0, hpl, hf]
            rw [run_bind _ _ _ _ _ (run_newRow el vals.toArray w)]
            rfl
          · rw [if_neg h0] at hf ⊢
            rw [run_bind _ _ _ _ _ hzr, run_bind (x := z.cells) (w' := w) _ _ _ (by rfl)]
            simp only [hpl, hf]
            rw [run_bind _ _ _ _ _ (run_newRow el vals.toArray w)]
            rfl
        · cases e
          refine .c _ _ (.msl _ key w.heap.size sz 0 n n vals.toArray el (0, 0) (by simp [upd_same]) ⟨Nat.le_refl _, hmx⟩ (heap_push_eq w _) ?_)
          rw [hv.1, hcl]; simp
      · cases h
    · cases h
  | store t x y =>
    simp only [stp] at h
    split at h
    · rename_i k off d n hx hy hn
      split at h
      · rename_i cs ds hcs hds
        simp only [Option.some.injEq] at h
        subst h
        obtain ⟨hok, hdl, hfit⟩ := hvc
        obtain ⟨b, hs, hxv⟩ := rd_ptr (evP_sound hA hx hok (by simp))
        have hr := RD.cellsR (evP_sound hA hy hok (by simp)) hds
        obtain ⟨arr, T, hb, hl, hrr⟩ := live_cells H hcs hs
        have hvs : (a.eval y).cells.size = n := by rw [hr.1, hdl]
        have hrun := run_storeVar (P := P) hn b off T (a.eval y) arr w hb (by omega) hvs (fun u hu => by
          obtain ⟨j, hj, e⟩ := List.mem_iff_getElem.1 hu
          have hj2 : j < (a.eval y).cells.size := by simpa using hj
          have := hr.2 j hj2 (by rw [← hr.1]; exact hj2)
          rw [← e]
          simpa using this.one)
        have hcl : (a.eval y).cells.toList.length = ds.length := by rw [Array.length_toList, hr.1]
        obtain ⟨H', E'⟩ := sim_store (m := m) H k cs (putCells cs off ds) hcs b arr (setCells arr off (a.eval y).cells.toList) T hs hb (size_setCells _ _ _) (by rw [size_setCells, putCells_length]; exact hl)
          (fun j hj => by
            rw [putCells_length] at hj
            have g1 := get_setCells (a.eval y).cells.toList arr off j (by rw [hcl]; omega)
            have g2 := putCells_get ds cs off j (by omega)
            have hpj : (putCells cs off ds)[j]? = some ((putCells cs off ds)[j]'(by rw [putCells_length]; exact hj)) := by simp [putCells_length, hj]
            rw [hpj] at g2
            rw [g1, hcl]
            by_cases hin : off ≤ j ∧ j < off + ds.length
            · rw [if_pos hin] at g2 ⊢
              have hj3 : j - off < ds.length := by omega
              have hj4 : j - off < (a.eval y).cells.size := by rw [hr.1]; exact hj3
              refine ⟨(a.eval y).cells[j - off], by simp [hj4], ?_⟩
              have := hr.2 (j - off) hj4 hj3
              rw [List.getElem?_eq_getElem hj3] at g2
              rw [Option.some.inj g2]
              exact this
            · rw [if_neg hin] at g2 ⊢
              obtain ⟨u, hu, hru⟩ := hrr j hj
              refine ⟨u, hu, ?_⟩
              rw [List.getElem?_eq_getElem hj] at g2
              rw [Option.some.inj g2]
              exact hru) rfl
        refine ⟨undef, _, s, .inr ⟨?_, rfl⟩, Sg.le_refl _, H', E', fun d e => by cases e⟩
        simp only [execOp, hxv]
        exact run_u hrun
      · cases h
    · cases h
  | makeSlice t l c =>
    simp only [stp] at h
    split at h
    · rename_i kl n kc n' sz zs by' hl hc hsz hzs hby
      obtain ⟨el, htl, hn⟩ := Option.bind_eq_some_iff.1 hsz
      obtain ⟨el', htl', hz⟩ := Option.bind_eq_some_iff.1 hzs
      obtain ⟨el'', htl'', hbb⟩ := Option.bind_eq_some_iff.1 hby
      rw [htl] at htl' htl''
      cases htl'
      cases htl''
      split at h
      · rename_i h1
        simp only [Option.some.injEq] at h
        subst h
        obtain ⟨hok, ⟨h0, rfl, h63, h48, hzl⟩, hk, hm⟩ := hvc
        have hlv := (rd_scalar (evP_sound hA hl hok (by simp))).1
        have hcv := (rd_scalar (evP_sound hA hc hok (by simp))).1
        simp only [tsz, Option.map_eq_some_iff] at hn
        obtain ⟨i, hi, hisz⟩ := hn
        have hib : i.bytes = by' := by simpa [tbytes, hi] using hbb
        obtain ⟨z, hiz, hzc⟩ : ∃ z, i.zero = some z ∧ z.cells.toList = zs := by simpa [tzero, hi] using hz
        have hzsz : z.cells.size = sz := by rw [← Array.length_toList, hzc, hzl]
        have hrun := Go.run_make (P := P) w t el i z (und_slice htl) hi hiz kl kc n' n' h0 (Int.le_refl _) (by rw [hib]; exact h48) (Int.le_trans h63 (by decide))
        have hcells : RCs I w s (madeCells z.cells (n'.toNat * i.size)) (List.replicate n'.toNat (zs.map C.v)).flatten := by
          have hfl : ((List.replicate n'.toNat (zs.map C.v)).flatten).length = n'.toNat * sz := by
            rw [flatten_length sz _ (fun x hx => by rw [List.eq_of_mem_replicate hx]; simp [hzl])]; simp
          refine ⟨by rw [hfl, hisz]; simp [madeCells], fun j h1' h2' => ?_⟩
          rw [hfl] at h2'
          have hpos : 0 < sz := by
            rcases Nat.eq_zero_or_pos sz with h | h
            · rw [h] at h2'; omega
            · exact h
          have g := flat_replicate n'.toNat (zs.map C.v) j (by simpa [hzl] using h2')
          simp only [List.length_map, hzl] at g
          have hjm : j % sz < zs.length := by rw [hzl]; exact Nat.mod_lt _ hpos
          rw [List.getElem?_eq_getElem (by rw [hfl]; exact h2'), List.getElem?_eq_getElem (by simpa using hjm)] at g
          rw [Option.some.inj g]
          have hm' : (madeCells z.cells (n'.toNat * i.size))[j] = zs[j % sz] := by
            have hjz : j % sz < z.cells.size := by rw [hzsz]; exact Nat.mod_lt _ hpos
            simp only [madeCells, Array.getElem_map, Array.getElem_range, hzsz]
            rw [getElem!_pos z.cells (j % sz) hjz]
            simp [← hzc]
          rw [hm', List.getElem_map]
          exact .v _ _ (List.all_eq_true.1 h1 _ (by simp))
        obtain ⟨hle, H', E'⟩ := sim_alloc (m := m) H key hk hm _ el _ (by rw [hcells.1]; exact Nat.le_refl _) (rcs_exists hcells)
        refine ⟨.slice (some ⟨w.heap.size, 0, none⟩) n'.toNat n'.toNat, { w with heap := w.heap.push (.cells (madeCells z.cells (n'.toNat * i.size)) el (0, 0)) }, upd s key (some (some w.heap.size)), .inl ?_, hle, H', E', fun d e => ?_⟩
        · simp only [execOp, hlv, hcv]
          exact run_v hrun
        · cases e
          refine .c _ _ (.msl _ key w.heap.size sz 0 n'.toNat n'.toNat _ el (0, 0) (by simp [upd_same]) ⟨Nat.le_refl _, Int.toNat_le.2 h63⟩ (heap_push_eq w _) ?_)
          simp [madeCells, hisz]
      · cases h
    · cases h
  | call c =>
    obtain ⟨callee, args, argTypes⟩ := c
    simp only [stp] at h
    split at h
    · split at h
      · rename_i x y t t' hargs hats
        split at h
        · rename_i dx dy sz zs by' hx hy hsz hzs hby
          split at h
          · rename_i ko len cs n sz' ys htg hld
            simp only [Option.some.injEq] at h
            subst h
            obtain ⟨hok, ⟨rfl, hzl, hks, hszn⟩, hcs, hys, ⟨h63, h47⟩, hk, hm⟩ := hvc
            obtain ⟨el, htl, hn⟩ := Option.bind_eq_some_iff.1 hsz
            obtain ⟨el', htl', hz⟩ := Option.bind_eq_some_iff.1 hzs
            obtain ⟨el'', htl'', hbb⟩ := Option.bind_eq_some_iff.1 hby
            rw [htl] at htl' htl''
            cases htl'
            cases htl''
            have e1 : args = #[x, y] := by apply Array.ext'; simpa using hargs
            have e2 : argTypes = #[t', t'] := by apply Array.ext'; simpa using hats
            subst e1; subst e2
            obtain ⟨v, w', s', hrun, hle, H', E', R'⟩ := append_sound (P := P) (m := m) (ty := type) H (evP_sound hA hx hok (by simp)) (evP_sound hA hy hok (by simp)) htl hn hz hzl hbb htg hcs hks hld hys hszn key hk hm h63 h47
            have hup := appUp_spend hp ko key (cs ++ ys)
            refine ⟨v, w', s', .inl ?_, hle, by rw [hup]; exact H', by rw [hup]; exact E', fun d e => by cases e; exact R'⟩
            simp only [execOp, resolve]
            rw [run_bind (x := ({ target := .builtin .append #[t', t'] type (#[x, y].map fun | .const _ => true | _ => false), args := #[x, y].map a.eval } : Deferred)) (w' := w) _ _ _ (by rfl)]
            simp only [invoke, builtin]
            refine run_v ?_
            simpa using hrun
          · cases h
        · cases h
      · cases h
    · split at h
      · rename_i vc d hpp
        simp only [Option.some.injEq] at h
        subst h
        exact hpop vc d hpp hvc.1 hvc.2
      · cases h
  | _ =>
    simp only [stp] at h
    split at h
    · rename_i vc d hpp
      simp only [Option.some.injEq] at h
      subst h
      exact hpop vc d hpp hvc.1 hvc.2
    · cases h

end
end Go.CT
