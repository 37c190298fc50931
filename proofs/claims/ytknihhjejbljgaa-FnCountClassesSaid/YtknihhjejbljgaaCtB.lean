/- States of the walk: what the slots hold and what the owned blocks hold; how a state fits a frame and a world; what a step may change. -/
import Derived.Test.YtknihhjejbljgaaCtA
set_option linter.unusedVariables false
set_option linter.unusedSimpArgs false
namespace Go.CT
open Go.RowKit (Below)

def upd {α : Type} (f : Nat → α) (n : Nat) (x : α) : Nat → α := fun k => if k = n then x else f k
theorem upd_same {α : Type} (f : Nat → α) (n : Nat) (x : α) : upd f n x n = x := by simp [upd]
theorem upd_ne {α : Type} (f : Nat → α) {n k : Nat} (x : α) (h : k ≠ n) : upd f n x k = f k := by simp [upd, h]

/-- Owned blocks by key: none: no such key; some none: the key is spent; some (some cs): the block's cells. -/
abbrev Hp := Nat → Option (Option (List C))

structure St where
  tm : Nat → Option D
  hp : Hp
  nx : Nat
  nt : Nat

def Live (s : Sg) (hp : Hp) (b : Nat) : Prop := ∃ k cs, hp k = some (some cs) ∧ s k = some (some b)

structure SimH (I : Nat → Prop) (w : World) (s : Sg) (hp : Hp) : Prop where
  top : ∀ k, hp k = none → s k = none
  blk : ∀ k cs, hp k = some (some cs) → (s k = some none ∧ cs = []) ∨
    ∃ b arr T, s k = some (some b) ∧ w.heap[b]? = some (.cells arr T (0, 0)) ∧ cs.length ≤ arr.size ∧ ¬ I b ∧ ∀ j (h : j < cs.length), ∃ y, arr[j]? = some y ∧ RC I w s y cs[j]
  inj : ∀ k k' b cs cs', hp k = some (some cs) → hp k' = some (some cs') → s k = some (some b) → s k' = some (some b) → k = k'
  imm : ∀ b, I b → b < w.heap.size

structure SimA (I : Nat → Prop) (w : World) (s : Sg) (a : Act) (S : St) : Prop where
  tm : ∀ n d, S.tm n = some d → RD I w s (a.tmps.getD n undef) d
  df : a.defers = []
  sz : a.tmps.size = S.nt

structure Sim (I : Nat → Prop) (w : World) (s : Sg) (a : Act) (S : St) : Prop where
  H : SimH I w s S.hp
  A : SimA I w s a S

structure Ext (m : Nat) (I : Nat → Prop) (w : World) (s : Sg) (hp : Hp) (I' : Nat → Prop) (w' : World) (s' : Sg) (hp' : Hp) : Prop where
  os : w'.os = w.os
  tape : w'.tape = w.tape
  output : w'.output = w.output
  size : w.heap.size ≤ w'.heap.size
  same : ∀ b, b < w.heap.size → ¬ Live s hp b → w'.heap[b]? = w.heap[b]?
  shp : Shp w w'
  key : ∀ k, k < m → s' k = s k
  imm : ∀ b, I b → I' b
  imm' : ∀ b, I' b → I b ∨ Live s hp b ∨ w.heap.size ≤ b
  live : ∀ b, Live s' hp' b → Live s hp b ∨ w.heap.size ≤ b

theorem Ext.refl (m : Nat) (I : Nat → Prop) (w : World) (s : Sg) (hp : Hp) : Ext m I w s hp I w s hp :=
  ⟨rfl, rfl, rfl, Nat.le_refl _, fun _ _ _ => rfl, Shp.refl _, fun _ _ => rfl, fun _ h => h, fun _ h => .inl h, fun _ h => .inl h⟩

theorem Ext.trans {m : Nat} {I I' I'' : Nat → Prop} {w w' w'' : World} {s s' s'' : Sg} {hp hp' hp'' : Hp}
    (h : Ext m I w s hp I' w' s' hp') (h' : Ext m I' w' s' hp' I'' w'' s'' hp'') : Ext m I w s hp I'' w'' s'' hp'' where
  os := h'.os.trans h.os
  tape := h'.tape.trans h.tape
  output := h'.output.trans h.output
  size := Nat.le_trans h.size h'.size
  same := fun b hb hl => (h'.same b (Nat.lt_of_lt_of_le hb h.size) fun hl' => by
    rcases h.live b hl' with h1 | h1
    · exact hl h1
    · omega).trans (h.same b hb hl)
  shp := h.shp.trans h'.shp
  key := fun k hk => (h'.key k hk).trans (h.key k hk)
  imm := fun b hb => h'.imm b (h.imm b hb)
  imm' := fun b hb => by
    rcases h'.imm' b hb with h1 | h1 | h1
    · exact h.imm' b h1
    · exact .inr (h.live b h1)
    · exact .inr (.inr (Nat.le_trans h.size h1))
  live := fun b hb => by
    rcases h'.live b hb with h1 | h1
    · exact h.live b h1
    · exact .inr (Nat.le_trans h.size h1)

theorem SimH.live_lt {I : Nat → Prop} {w : World} {s : Sg} {hp : Hp} (H : SimH I w s hp) {b : Nat} (h : Live s hp b) : b < w.heap.size ∧ ¬ I b := by
  obtain ⟨k, cs, hk, hs⟩ := h
  rcases H.blk k cs hk with ⟨h1, _⟩ | ⟨b', arr, T, h1, h2, _, h3, _⟩
  · rw [hs] at h1; cases h1
  · rw [hs] at h1
    simp only [Option.some.injEq] at h1
    subst h1
    refine ⟨?_, h3⟩
    by_cases hlt : b < w.heap.size
    · exact hlt
    · rw [Array.getElem?_eq_none (by omega)] at h2; cases h2

/-- The blocks that never change hold what they held. -/
theorem Ext.keeps {m : Nat} {I I' : Nat → Prop} {w w' : World} {s s' : Sg} {hp hp' : Hp} (h : Ext m I w s hp I' w' s' hp') (H : SimH I w s hp) : Keeps I w w' :=
  fun b hb => h.same b (H.imm b hb) fun hl => (H.live_lt hl).2 hb

theorem Ext.rc {m : Nat} {I I' : Nat → Prop} {w w' : World} {s s' : Sg} {hp hp' : Hp} (h : Ext m I w s hp I' w' s' hp') (H : SimH I w s hp) (hle : s.le s') {x : Value} {c : C}
    (hr : RC I w s x c) : RC I' w' s' x c := hr.mono h.imm (h.keeps H) h.shp hle
theorem Ext.rd {m : Nat} {I I' : Nat → Prop} {w w' : World} {s s' : Sg} {hp hp' : Hp} (h : Ext m I w s hp I' w' s' hp') (H : SimH I w s hp) (hle : s.le s') {x : Value} {d : D}
    (hr : RD I w s x d) : RD I' w' s' x d := hr.mono h.imm (h.keeps H) h.shp hle

theorem SimA.step {m : Nat} {I I' : Nat → Prop} {w w' : World} {s s' : Sg} {a : Act} {S : St} {hp' : Hp} (A : SimA I w s a S) (H : SimH I w s S.hp)
    (h : Ext m I w s S.hp I' w' s' hp') (hle : s.le s') (n : Nat) : SimA I' w' s' a { S with hp := hp', nx := n } :=
  ⟨fun n d hd => h.rd H hle (A.tm n d hd), A.df, A.sz⟩

def St.put (S : St) (dst : Option Tmp) (d : D) : St :=
  match dst with
  | some n => { S with tm := upd S.tm n (some d) }
  | none => S
def St.clear (S : St) (dst : Option Tmp) : St :=
  match dst with
  | some n => { S with tm := upd S.tm n none }
  | none => S
def St.fits (S : St) (dst : Option Tmp) : Bool := match dst with | some n => decide (n < S.nt) | none => true

theorem getD_put (a : Act) (n k : Nat) (v : Value) : (a.put (some n) v).tmps.getD k undef = if k = n ∧ n < a.tmps.size then v else a.tmps.getD k undef := by
  simp only [Act.put, Array.getD_eq_getD_getElem?, Array.getElem?_setIfInBounds]
  by_cases h : k = n
  · subst h
    by_cases h2 : k < a.tmps.size
    · simp [h2]
    · simp [h2]
  · rw [if_neg (fun e => h e.symm)]
    simp [h]

theorem SimA.put {I : Nat → Prop} {w : World} {s : Sg} {a : Act} {S : St} (A : SimA I w s a S) {dst : Option Tmp} {v : Value} {d : D} (hd : RD I w s v d) (hf : S.fits dst = true) :
    SimA I w s (a.put dst v) (S.put dst d) := by
  cases dst with
  | none => exact A
  | some n =>
    have hn : n < S.nt := by simpa [St.fits] using hf
    refine ⟨fun k d' hk => ?_, A.df, by simp [Act.put, St.put, A.sz]⟩
    rw [getD_put]
    simp only [St.put, upd] at hk
    by_cases h : k = n
    · rw [if_pos h] at hk
      rw [if_pos ⟨h, by rw [A.sz]; exact hn⟩]
      simp only [Option.some.injEq] at hk
      subst hk
      exact hd
    · rw [if_neg h] at hk
      rw [if_neg (fun e => h e.1)]
      exact A.tm k d' hk

theorem SimA.clear {I : Nat → Prop} {w : World} {s : Sg} {a : Act} {S : St} (A : SimA I w s a S) {dst : Option Tmp} {v : Value} : SimA I w s (a.put dst v) (S.clear dst) := by
  cases dst with
  | none => exact A
  | some n =>
    refine ⟨fun k d' hk => ?_, A.df, by simp [Act.put, St.clear, A.sz]⟩
    rw [getD_put]
    simp only [St.clear, upd] at hk
    by_cases h : k = n
    · rw [if_pos h] at hk; cases hk
    · rw [if_neg h] at hk
      rw [if_neg (fun e => h e.1)]
      exact A.tm k d' hk

/-! ### New blocks, stores, spent keys -/

theorem heap_push_lt (w : World) (o : Obj) (b : Nat) (h : b < w.heap.size) : (w.heap.push o)[b]? = w.heap[b]? := by
  rw [Array.getElem?_push, if_neg (by omega)]
theorem heap_push_eq (w : World) (o : Obj) : (w.heap.push o)[w.heap.size]? = some o := by simp

theorem lt_of_heap {w : World} {b : Nat} {o : Obj} (h : w.heap[b]? = some o) : b < w.heap.size := by
  by_cases hlt : b < w.heap.size
  · exact hlt
  · rw [Array.getElem?_eq_none (by omega)] at h; cases h

/-- A new block under a fresh key. -/
theorem sim_alloc {m : Nat} {I : Nat → Prop} {w : World} {s : Sg} {hp : Hp} (H : SimH I w s hp) (k : Nat) (hk : hp k = none) (hm : m ≤ k) (arr : Array Value) (T : TypeId) (cs : List C)
    (hl : cs.length ≤ arr.size) (hr : ∀ j (h : j < cs.length), ∃ y, arr[j]? = some y ∧ RC I w s y cs[j]) :
    let w' : World := { w with heap := w.heap.push (.cells arr T (0, 0)) }
    let s' := upd s k (some (some w.heap.size))
    let hp' := upd hp k (some (some cs))
    s.le s' ∧ SimH I w' s' hp' ∧ Ext m I w s hp I w' s' hp' := by
  intro w' s' hp'
  have hsk : s k = none := H.top k hk
  have hle : s.le s' := fun j x hj => by
    have : j ≠ k := fun e => by rw [e, hsk] at hj; cases hj
    simp [s', upd_ne _ _ this, hj]
  have hshp : Shp w w' := fun b arr0 T0 fr hb => ⟨arr0, by
    have := lt_of_heap hb
    show (w.heap.push _)[b]? = _
    rw [heap_push_lt _ _ _ this]; exact hb, rfl⟩
  have hlive : ∀ b, Live s' hp' b → Live s hp b ∨ w.heap.size ≤ b := by
    rintro b ⟨j, cs', hj, hs⟩
    by_cases e : j = k
    · subst e
      simp only [s', upd_same, Option.some.injEq] at hs
      exact .inr (by omega)
    · simp only [hp', upd_ne _ _ e] at hj
      simp only [s', upd_ne _ _ e] at hs
      exact .inl ⟨j, cs', hj, hs⟩
  have hext : Ext m I w s hp I w' s' hp' := by
    refine ⟨rfl, rfl, rfl, by simp [w'], fun b hb _ => heap_push_lt _ _ _ hb, hshp, fun j hj => ?_, fun _ h => h, fun _ h => .inl h, hlive⟩
    exact upd_ne _ _ (by omega)
  refine ⟨hle, ⟨fun j hj => ?_, fun j cs' hj => ?_, fun j j' b cs1 cs2 h1 h2 h3 h4 => ?_, fun b hb => ?_⟩, hext⟩
  · by_cases e : j = k
    · subst e; simp [hp', upd_same] at hj
    · simp only [hp', upd_ne _ _ e] at hj
      simp only [s', upd_ne _ _ e]
      exact H.top j hj
  · by_cases e : j = k
    · subst e
      simp only [hp', upd_same, Option.some.injEq] at hj
      subst hj
      refine .inr ⟨w.heap.size, arr, T, by simp [s', upd_same], heap_push_eq w _, hl, fun hI => Nat.lt_irrefl _ (H.imm _ hI), fun j' h' => ?_⟩
      obtain ⟨y, hy, hry⟩ := hr j' h'
      exact ⟨y, hy, hext.rc H hle hry⟩
    · simp only [hp', upd_ne _ _ e] at hj
      rcases H.blk j cs' hj with ⟨h1, h2⟩ | ⟨b, arr0, T0, h1, h2, h3, h4, h5⟩
      · exact .inl ⟨by simp [s', upd_ne _ _ e, h1], h2⟩
      · refine .inr ⟨b, arr0, T0, by simp [s', upd_ne _ _ e, h1], ?_, h3, h4, fun j' h' => ?_⟩
        · show (w.heap.push _)[b]? = _
          rw [heap_push_lt _ _ _ (lt_of_heap h2)]; exact h2
        · obtain ⟨y, hy, hry⟩ := h5 j' h'
          exact ⟨y, hy, hext.rc H hle hry⟩
  · have old : ∀ i csi, hp' i = some (some csi) → s' i = some (some b) → (i = k ∧ b = w.heap.size) ∨ (i ≠ k ∧ hp i = some (some csi) ∧ s i = some (some b)) := by
      intro i csi hi hsi
      by_cases e : i = k
      · subst e
        simp only [s', upd_same, Option.some.injEq] at hsi
        exact .inl ⟨rfl, hsi.symm⟩
      · simp only [hp', upd_ne _ _ e] at hi
        simp only [s', upd_ne _ _ e] at hsi
        exact .inr ⟨e, hi, hsi⟩
    rcases old j cs1 h1 h3 with ⟨e1, e2⟩ | ⟨e1, e2, e3⟩ <;> rcases old j' cs2 h2 h4 with ⟨f1, f2⟩ | ⟨f1, f2, f3⟩
    · rw [e1, f1]
    · have := (H.live_lt ⟨j', cs2, f2, f3⟩).1; omega
    · have := (H.live_lt ⟨j, cs1, e2, e3⟩).1; omega
    · exact H.inj j j' b cs1 cs2 e2 f2 e3 f3
  · have := H.imm b hb
    simp [w']; omega

/-- The cells of an owned block are written anew (as many as there were, or more, within the block). -/
theorem sim_store {m : Nat} {I : Nat → Prop} {w w' : World} {s : Sg} {hp : Hp} (H : SimH I w s hp) (k : Nat) (cs cs' : List C) (hk : hp k = some (some cs)) (b : Nat) (arr arr' : Array Value) (T : TypeId)
    (hs : s k = some (some b)) (hb : w.heap[b]? = some (.cells arr T (0, 0))) (hsz : arr'.size = arr.size) (hl : cs'.length ≤ arr'.size)
    (hr : ∀ j (h : j < cs'.length), ∃ y, arr'[j]? = some y ∧ RC I w s y cs'[j])
    (hw : w' = { w with heap := w.heap.setIfInBounds b (.cells arr' T (0, 0)) }) :
    SimH I w' s (upd hp k (some (some cs'))) ∧ Ext m I w s hp I w' s (upd hp k (some (some cs'))) := by
  have hblt := lt_of_heap hb
  have hget : ∀ i, w'.heap[i]? = if i = b then some (.cells arr' T (0, 0)) else w.heap[i]? := by
    intro i
    rw [hw]
    show (w.heap.setIfInBounds b _)[i]? = _
    rw [Array.getElem?_setIfInBounds]
    by_cases e : i = b
    · subst e; simp [hblt]
    · rw [if_neg (fun h => e h.symm), if_neg e]
  have hlivek : Live s hp b := ⟨k, cs, hk, hs⟩
  have hlive : ∀ b', Live s (upd hp k (some (some cs'))) b' → Live s hp b' := by
    rintro b' ⟨j, csj, hj, hsj⟩
    by_cases e : j = k
    · subst e
      exact ⟨j, cs, hk, hsj⟩
    · rw [upd_ne _ _ e] at hj
      exact ⟨j, csj, hj, hsj⟩
  have hshp : Shp w w' := fun b0 arr0 T0 fr h0 => by
    by_cases e : b0 = b
    · subst e
      rw [hb] at h0
      simp only [Option.some.injEq, Obj.cells.injEq] at h0
      obtain ⟨rfl, rfl, rfl⟩ := h0
      exact ⟨arr', by rw [hget, if_pos rfl], hsz⟩
    · exact ⟨arr0, by rw [hget, if_neg e]; exact h0, rfl⟩
  have hext : Ext m I w s hp I w' s (upd hp k (some (some cs'))) := by
    refine ⟨by rw [hw], by rw [hw], by rw [hw], by rw [hw]; simp, fun b' hb' hl' => ?_, hshp, fun _ _ => rfl, fun _ h => h, fun _ h => .inl h, fun b' h => .inl (hlive b' h)⟩
    have hne : b' ≠ b := fun e => hl' (by rw [e]; exact hlivek)
    rw [hget, if_neg hne]
  refine ⟨⟨fun j hj => ?_, fun j csj hj => ?_, fun j j' b' cs1 cs2 h1 h2 h3 h4 => ?_, fun b' hb' => ?_⟩, hext⟩
  · by_cases e : j = k
    · subst e; simp [upd_same] at hj
    · rw [upd_ne _ _ e] at hj; exact H.top j hj
  · by_cases e : j = k
    · subst e
      simp only [upd_same, Option.some.injEq] at hj
      subst hj
      refine .inr ⟨b, arr', T, hs, by rw [hget, if_pos rfl], hl, (H.live_lt hlivek).2, fun j' h' => ?_⟩
      obtain ⟨y, hy, hry⟩ := hr j' h'
      exact ⟨y, hy, hext.rc H (Sg.le_refl _) hry⟩
    · rw [upd_ne _ _ e] at hj
      rcases H.blk j csj hj with h1 | ⟨b0, arr0, T0, h1, h2, h3, h4, h5⟩
      · exact .inl h1
      · have hne : b0 ≠ b := fun e' => e (H.inj j k b csj cs hj hk (e' ▸ h1) hs)
        refine .inr ⟨b0, arr0, T0, h1, by rw [hget, if_neg hne]; exact h2, h3, h4, fun j' h' => ?_⟩
        obtain ⟨y, hy, hry⟩ := h5 j' h'
        exact ⟨y, hy, hext.rc H (Sg.le_refl _) hry⟩
  · have old : ∀ i csi, upd hp k (some (some cs')) i = some (some csi) → ∃ csi', hp i = some (some csi') := by
      intro i csi hi
      by_cases e : i = k
      · exact ⟨cs, e ▸ hk⟩
      · rw [upd_ne _ _ e] at hi; exact ⟨csi, hi⟩
    obtain ⟨c1, g1⟩ := old j cs1 h1
    obtain ⟨c2, g2⟩ := old j' cs2 h2
    exact H.inj j j' b' c1 c2 g1 g2 h3 h4
  · rw [hw]; simpa using H.imm b' hb'

/-- A key is spent. -/
theorem sim_spend {m : Nat} {I : Nat → Prop} {w : World} {s : Sg} {hp : Hp} (H : SimH I w s hp) (k : Nat) (hk : hp k ≠ none) :
    SimH I w s (upd hp k (some none)) ∧ Ext m I w s hp I w s (upd hp k (some none)) := by
  have hlive : ∀ b', Live s (upd hp k (some none)) b' → Live s hp b' := by
    rintro b' ⟨j, csj, hj, hsj⟩
    by_cases e : j = k
    · subst e; simp [upd_same] at hj
    · rw [upd_ne _ _ e] at hj
      exact ⟨j, csj, hj, hsj⟩
  have old : ∀ i csi, upd hp k (some none) i = some (some csi) → hp i = some (some csi) := by
    intro i csi hi
    by_cases e : i = k
    · subst e; simp [upd_same] at hi
    · rw [upd_ne _ _ e] at hi; exact hi
  refine ⟨⟨fun j hj => ?_, fun j csj hj => H.blk j csj (old j csj hj), fun j j' b' cs1 cs2 h1 h2 h3 h4 => H.inj j j' b' cs1 cs2 (old _ _ h1) (old _ _ h2) h3 h4, H.imm⟩,
    ⟨rfl, rfl, rfl, Nat.le_refl _, fun _ _ _ => rfl, Shp.refl _, fun _ _ => rfl, fun _ h => h, fun _ h => .inl h, fun b' h => .inl (hlive b' h)⟩⟩
  by_cases e : j = k
  · subst e; simp [upd_same] at hj
  · rw [upd_ne _ _ e] at hj; exact H.top j hj

/-- A draw. -/
theorem sim_draw {m : Nat} {I : Nat → Prop} {w : World} {s : Sg} {a : Act} {S : St} (h : Sim I w s a S) (n : Nat) :
    Sim I { w with drawn := n } s a S ∧ Ext m I w s S.hp I { w with drawn := n } s S.hp := by
  have hk : Keeps I w { w with drawn := n } := fun _ _ => rfl
  have hs : Shp w { w with drawn := n } := Shp.refl w
  refine ⟨⟨⟨h.H.top, fun k cs hk' => ?_, h.H.inj, h.H.imm⟩, ⟨fun k d hd => (h.A.tm k d hd).mono (fun _ h => h) hk hs (Sg.le_refl _), h.A.df, h.A.sz⟩⟩,
    ⟨rfl, rfl, rfl, Nat.le_refl _, fun _ _ _ => rfl, hs, fun _ _ => rfl, fun _ h => h, fun _ h => .inl h, fun _ h => .inl h⟩⟩
  rcases h.H.blk k cs hk' with h1 | ⟨b, arr, T, h1, h2, h3, h4, h5⟩
  · exact .inl h1
  · refine .inr ⟨b, arr, T, h1, h2, h3, h4, fun j hj => ?_⟩
    obtain ⟨y, hy, hr⟩ := h5 j hj
    exact ⟨y, hy, hr.mono (fun _ h => h) hk hs (Sg.le_refl _)⟩

end Go.CT
