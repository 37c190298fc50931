/- One state taken for another: slots forgotten, keys renamed, an owned block that is written no more read as plain data, a nil slice taken for an owned one. -/
import Derived.Test.YtlapccpnilomfaaJAg
set_option linter.unusedVariables false
set_option linter.unusedSimpArgs false
set_option linter.unusedSectionVars false
set_option maxHeartbeats 16000000
set_option maxRecDepth 100000
namespace Go.CT
variable [Yn]
def tOf : List (Nat × D) → Nat → Option D
  | []=>fun _=>none
  | (n,d) :: r=>upd (tOf r) n (some d)
def hOf : List (Nat × Option (List C)) → Hp
  | []=>fun _=>none
  | (k,x) :: r=>upd (hOf r) k (some x)
mutual
def CM (hT : Hp) (r : Nat → Option Nat) (hS : Hp) (fz : List Nat) : C → C → Prop
  | .unk,_=>True
  | .isl sz xs,c=>(match c with
    | .isl sz' xs'=>sz=sz'∧xs=xs'
    | .msl k sz' off len=>(sz=sz'∧off=0∧len=xs.length)∧k ∈ fz∧hS k=some (some xs.flatten)∧(∀ x ∈ xs,x.length=sz)∧∀ x ∈ xs,∀ c ∈ x,kf c=true
    | .v (.slice none 0 0)=>xs=[]
    | .z=>xs=[]
    | _=>False)
  | .num k,c=>(match c with | .num k'=>k=k' | .v (.int k' _)=>k=k' | _=>False)
  | .csl y sz xs,c=>(match c with
    | .csl y' sz' xs'=>y=y'∧sz=sz'∧xs=xs'
    | .msl k sz' off len=>y=true∧(sz=sz'∧off=0∧len=xs.length)∧k ∈ fz∧hS k=some (some xs.flatten)∧(∀ x ∈ xs,x.length=sz)∧∀ x ∈ xs,∀ c ∈ x,kf c=true
    | .v (.slice none 0 0)=>xs=[]
    | .z=>xs=[]
    | _=>False)
  | .msl k sz off len,c=>(match c with
    | .msl k' sz' off' len'=>r k=some k'∧hT k ≠ none∧sz=sz'∧off=off'∧len=len'
    | .v (.slice none 0 0)=>r k=none∧hT k ≠ none∧off=0∧len=0
    | .z=>r k=none∧hT k ≠ none∧off=0∧len=0
    | _=>False)
  | .ptr k off,c=>(match c with | .ptr k' off'=>r k=some k'∧hT k ≠ none∧off=off' | _=>False)
  | .clo f cs,c=>(match c with | .clo f' cs'=>f=f'∧CMs hT r hS fz cs cs' | _=>False)
  | .v x,c=>(match c with | .v y=>x=y | _=>False)
  | .z,c=>(match c with | .z=>True | .v (.slice none 0 0)=>True | _=>False)
  | .eptr cs,c=>(match c with
    | .eptr cs'=>cs=cs'
    | .ptr k off=>off=0∧k ∈ fz∧hS k=some (some cs)∧∀ c ∈ cs,kf c=true
    | _=>False)
  | .met f cs,c=>(match c with | .met f' cs'=>f=f'∧cs=cs' | _=>False)
def CMs (hT : Hp) (r : Nat → Option Nat) (hS : Hp) (fz : List Nat) : List C → List C → Prop
  | [],cs=>cs=[]
  | c :: r',cs=>(match cs with | c' :: r''=>CM hT r hS fz c c'∧CMs hT r hS fz r' r'' | []=>False)
end
mutual
def DM (hT : Hp) (r : Nat → Option Nat) (hS : Hp) (fz : List Nat) : D → D → Prop
  | .c a,d=>(match d with | .c b=>CM hT r hS fz a b | _=>False)
  | .agg as,d=>(match d with | .agg bs=>CMs hT r hS fz as bs | _=>False)
  | .tup as,d=>(match d with | .tup bs=>DMs hT r hS fz as bs | _=>False)
  | .when b x,d=>(match d with | .when b' y=>b=b'∧DM hT r hS fz x y | _=>False)
def DMs (hT : Hp) (r : Nat → Option Nat) (hS : Hp) (fz : List Nat) : List D → List D → Prop
  | [],ds=>ds=[]
  | d :: r',ds=>(match ds with | d' :: r''=>DM hT r hS fz d d'∧DMs hT r hS fz r' r'' | []=>False)
end
structure SubH (m : Nat) (r : Nat → Option Nat) (fz : List Nat) (hT hS : Hp) : Prop where
  live:∀ k cs,hT k=some (some cs)→(∃ k' cs',r k=some k'∧k' ∉ fz∧hS k'=some (some cs')∧CMs hT r hS fz cs cs')∨(r k=none∧cs=[])
  inj:∀ k k' cs cs' j,hT k=some (some cs)→hT k'=some (some cs')→r k=some j→r k'=some j→k=k'
  low:∀ k,k<m→r k=some k∧hT k ≠ none
section
variable {m:Nat} {r:Nat→Option Nat} {fz:List Nat} {hT hS:Hp} {I:Nat→Prop} {w:World} {s:Sg}
def subS (r:Nat→Option Nat) (hT:Hp) (s:Sg):Sg:=fun k=>match hT k with | none=>none | some _=>(match r k with | some k'=>s k' | none=>some none)
def subI (fz:List Nat) (hS:Hp) (s:Sg) (I:Nat→Prop):Nat→Prop:=fun b=>I b∨∃ k,k ∈ fz∧∃ cs,hS k=some (some cs)∧s k=some (some b)
theorem subS_some {k k':Nat} (h:hT k ≠ none) (hr:r k=some k'):subS r hT s k=s k':=by
  unfold subS
  cases h':hT k with
  | none=>exact absurd h' h
  | some x=>simp [hr]
theorem subS_none {k:Nat} (h:hT k ≠ none) (hr:r k=none):subS r hT s k=some none:=by
  unfold subS
  cases h':hT k with
  | none=>exact absurd h' h
  | some x=>simp [hr]
theorem RC.keyfree {x:Value} {c:C} (h:RC I w s x c) (hk:kf c=true) {I':Nat→Prop} (hI:∀ b,I b→I' b) (s':Sg):RC I' w s' x c:=by
  have h0:RC I w s' x c:=by
    cases h with
    | v _ _ h1=>exact .v _ _ h1
    | unk _ _ h1=>exact .unk _ _ h1
    | z _ a=>exact .z _ a
    | isl0 _ a cap sz=>exact .isl0 _ a cap sz
    | isl _ b off cap sz xs y hIb hl hc hr hcap=>exact .isl _ b off cap sz xs y hIb hl hc hr hcap
    | num _ k n=>exact .num _ k n
    | csl0 _ a cap sz y=>exact .csl0 _ a cap sz y
    | csl _ b off len cap sz xs y h hN=>exact .csl _ b off len cap sz xs y (h.isl_any s') hN
    | eptr _ b off cs y hIb hc hr=>exact .eptr _ b off cs y hIb hc hr
    | met _ f cs vs hl hr=>exact .met _ f cs vs hl hr
    | _=>simp [kf] at hk
  exact h0.mono hI (fun _ _=>rfl) (Shp.refl w) (Sg.le_refl _)
theorem flatten_at (sz:Nat) (xs:List (List C)) (h:∀ x ∈ xs,x.length=sz) (i j:Nat) (hi:i<xs.length) (hj:j<(xs[i]).length):xs.flatten[i * sz+j]? = some (xs[i])[j]:=by
  have hl:(xs[i]).length=sz:=h _ (List.getElem_mem hi)
  have hlt:i * sz+j<xs.length * sz:=by
    have:(i+1) * sz≤xs.length * sz:=Nat.mul_le_mul_right _ hi
    rw [Nat.add_mul] at this
    omega
  obtain ⟨i',t',hi',ht',e,ht2,hg⟩:=flatten_get sz xs h (i * sz+j) hlt
  have hpos:0<sz:=by omega
  have e1:(i * sz+j) / sz=i:=by rw [Nat.mul_comm,Nat.mul_add_div hpos,Nat.div_eq_of_lt (by omega),Nat.add_zero]
  have e2:(i * sz+j) % sz=j:=by rw [Nat.mul_comm,Nat.mul_add_mod,Nat.mod_eq_of_lt (by omega)]
  have f1:(i' * sz+t') / sz=i':=by rw [Nat.mul_comm,Nat.mul_add_div hpos,Nat.div_eq_of_lt ht2,Nat.add_zero]
  have f2:(i' * sz+t') % sz=t':=by rw [Nat.mul_comm,Nat.mul_add_mod,Nat.mod_eq_of_lt ht2]
  have g1:i=i':=by rw [← e1,e,f1]
  have g2:j=t':=by rw [← e2,e,f2]
  subst g1;subst g2
  exact hg
theorem CM_isl_v {sz:Nat} {xs:List (List C)} {z:Value} (h:CM hT r hS fz (.isl sz xs) (.v z)):z = .slice none 0 0∧xs=[]:=by
  unfold CM at h
  split at h<;>simp_all
theorem CM_csl_v {y:Bool} {sz:Nat} {xs:List (List C)} {z:Value} (h:CM hT r hS fz (.csl y sz xs) (.v z)):z = .slice none 0 0∧xs=[]:=by
  unfold CM at h
  split at h<;>simp_all
theorem CM_num_v {k:IntKind} {z:Value} (h:CM hT r hS fz (.num k) (.v z)):∃ n,z = .int k n:=by
  unfold CM at h
  split at h<;>simp_all
theorem CM_msl_v {k sz off len:Nat} {z:Value} (h:CM hT r hS fz (.msl k sz off len) (.v z)):z = .slice none 0 0∧r k=none∧hT k ≠ none∧off=0∧len=0:=by
  unfold CM at h
  split at h<;>simp_all
theorem CM_z_v {z:Value} (h:CM hT r hS fz .z (.v z)):z = .slice none 0 0:=by
  unfold CM at h
  split at h<;>simp_all
theorem frozen_rc (H : SimH I w s hS) {k sz : Nat} {xs : List (List C)} {x : Value} (hk : k ∈ fz) (hh : hS k = some (some xs.flatten)) (hl : ∀ x ∈ xs, x.length = sz) (hkf : ∀ x ∈ xs, ∀ c ∈ x, kf c = true)
    (h:RC I w s x (.msl k sz 0 xs.length)) (s':Sg):RC (subI fz hS s I) w s' x (.isl sz xs):=by
  rcases rd_msl (.c _ _ h) with ⟨a,rfl,hs,_,h0⟩ | ⟨b,cap,arr,T,fr,rfl,hs,hlc,hb,hcp⟩
  · have:xs=[]:=List.eq_nil_of_length_eq_zero h0
    subst this
    exact .isl0 _ a 0 sz
  · obtain ⟨arr',T',hb',hl',hr⟩:=live_cells H hh hs
    rw [hb] at hb'
    simp only [Option.some.injEq,Obj.cells.injEq] at hb'
    obtain ⟨rfl,rfl,rfl⟩:=hb'
    have hfl:=flatten_length sz xs hl
    have hidx:∀ i j,i<xs.length→j<sz→i * sz+j<xs.flatten.length:=fun i j hi hj=>by
      have:(i+1) * sz≤xs.length * sz:=Nat.mul_le_mul_right _ hi
      rw [Nat.add_mul] at this
      omega
    refine .isl _ b 0 cap sz xs (fun i j=>arr.getD (i * sz+j) undef) (.inr ⟨k,hk,_,hh,hs⟩) (fun i hi=>hl _ (List.getElem_mem hi)) (fun i j hi hj=>?_) (fun i hi j hj=>?_) hlc
    · have:=hidx i j hi hj
      have hlt:i * sz+j<arr.size:=by omega
      simp [World.cell?,hb,hlt]
    · have hj':j<sz:=by rw [← hl _ (List.getElem_mem hi)];exact hj
      have hlt:=hidx i j hi hj'
      obtain ⟨y,hy,hry⟩:=hr (i * sz+j) hlt
      have e1:=flatten_at sz xs hl i j hi hj
      have e2:xs.flatten[i * sz+j]=(xs[i])[j]:=by
        rw [List.getElem?_eq_getElem hlt] at e1
        exact Option.some.inj e1
      have e3:arr.getD (i * sz+j) undef=y:=by
        rw [Array.getD_eq_getD_getElem?,hy];rfl
      rw [e3,← e2]
      exact hry.keyfree (by rw [e2];exact hkf _ (List.getElem_mem hi) _ (List.getElem_mem hj)) (fun _ h => .inl h) _
theorem frozen_csl (H : SimH I w s hS) {k sz : Nat} {xs : List (List C)} {x : Value} (hk : k ∈ fz) (hh : hS k = some (some xs.flatten)) (hl : ∀ x ∈ xs, x.length = sz) (hkf : ∀ x ∈ xs, ∀ c ∈ x, kf c = true)
    (h:RC I w s x (.msl k sz 0 xs.length)) (s':Sg):RC (subI fz hS s I) w s' x (.csl true sz xs):=by
  have h':=frozen_rc H hk hh hl hkf h s'
  rcases rd_msl (.c _ _ h) with ⟨a,rfl,hs,_,h0⟩ | ⟨b,cap,arr,T,fr,rfl,hs,hlc,hb,hcp⟩
  · have:xs=[]:=List.eq_nil_of_length_eq_zero h0
    subst this
    exact .csl0 _ a 0 sz true
  · exact .csl _ b 0 _ cap sz xs true h' (by rw [if_pos rfl];exact H.yng.2.1 b ⟨k,_,hh,hs⟩)
mutual
theorem CM.rc (H : SimH I w s hS) : ∀ (c c' : C) {x : Value}, CM hT r hS fz c c' → RC I w s x c' → RC (subI fz hS s I) w (subS r hT s) x c
  | .unk,c',x,_,h => .unk _ _ h.one
  | .v y,c',x,hm,h=>by
    cases c' with
    | v z =>
      simp only [CM] at hm
      subst hm
      cases h with | v _ _ h1=>exact .v _ _ h1
    | _=>simp [CM] at hm
  | .z,c',x,hm,h=>by
    cases c' with
    | z=>cases h with | z _ a=>exact .z _ a
    | v z =>
      have e:=CM_z_v hm
      subst e
      cases h with | v _ _ h1=>exact .z _ none
    | _=>simp [CM] at hm
  | .eptr cs,c',x,hm,h=>by
    cases c' with
    | eptr cs' =>
      simp only [CM] at hm
      subst hm
      exact h.keyfree rfl (fun _ h => .inl h) _
    | ptr k off =>
      simp only [CM] at hm
      obtain ⟨rfl,hk,hh,hkf⟩:=hm
      cases h with
      | ptr _ _ b _ hs =>
        obtain ⟨arr,T,hb,hl,hr⟩:=live_cells H hh hs
        refine .eptr _ b 0 cs (fun j=>arr.getD j undef) (.inr ⟨k,hk,_,hh,hs⟩) (fun j hj=>?_) (fun j hj=>?_)
        · have hlt:j<arr.size:=by omega
          simp [World.cell?,hb,hlt]
        · obtain ⟨y,hy,hry⟩:=hr j hj
          have e3:arr.getD j undef=y:=by
            rw [Array.getD_eq_getD_getElem?,hy];rfl
          rw [e3]
          exact hry.keyfree (hkf _ (List.getElem_mem hj)) (fun _ h => .inl h) _
    | _=>simp [CM] at hm
  | .met f cs,c',x,hm,h=>by
    cases c' with
    | met f' cs' =>
      simp only [CM] at hm
      obtain ⟨rfl,rfl⟩:=hm
      exact h.keyfree rfl (fun _ h => .inl h) _
    | _=>simp [CM] at hm
  | .ptr k off,c',x,hm,h=>by
    cases c' with
    | ptr k' off' =>
      simp only [CM] at hm
      obtain ⟨h1,h2,rfl⟩:=hm
      cases h with | ptr _ _ b _ h=>exact .ptr _ k b off (by rw [subS_some h2 h1];exact h)
    | _=>simp [CM] at hm
  | .msl k sz off len,c',x,hm,h=>by
    cases c' with
    | msl k' sz' off' len' =>
      simp only [CM] at hm
      obtain ⟨h1,h2,rfl,rfl,rfl⟩:=hm
      cases h with
      | msl0 _ a _ _ h=>exact .msl0 _ a k sz (by rw [subS_some h2 h1];exact h)
      | msl _ _ b _ _ _ cap arr T fr h hlen hb hcap=>exact .msl _ k b sz off len cap arr T fr (by rw [subS_some h2 h1];exact h) hlen hb hcap
    | v z =>
      obtain ⟨rfl,h1,h2,rfl,rfl⟩:=CM_msl_v hm
      cases h with | v _ _ _=>exact .msl0 _ none k sz (subS_none h2 h1)
    | z =>
      simp only [CM] at hm
      obtain ⟨h1,h2,rfl,rfl⟩:=hm
      cases h with | z _ a=>exact .msl0 _ a k sz (subS_none h2 h1)
    | _=>simp [CM] at hm
  | .clo f cs,c',x,hm,h=>by
    cases c' with
    | clo f' cs' =>
      simp only [CM] at hm
      obtain ⟨rfl,hm⟩:=hm
      cases h with
      | clo _ _ _ vs hl hr =>
        obtain ⟨h1,h2⟩:=CMs.rcs H cs cs' vs.toList hm ⟨by simpa using hl,fun j g1 g2=>by simpa using hr j (by simpa using g1) g2⟩
        refine .clo _ f cs vs (by simpa using h1) fun j g1 g2=>?_
        have:=h2 j (by simpa using g1) g2
        simpa using this
    | _=>simp [CM] at hm
  | .isl sz xs,c',x,hm,h=>by
    cases c' with
    | isl sz' xs' =>
      simp only [CM] at hm
      obtain ⟨rfl,rfl⟩:=hm
      exact h.keyfree rfl (fun _ h => .inl h) _
    | z =>
      simp only [CM] at hm
      subst hm
      cases h with | z _ a=>exact .isl0 _ a 0 sz
    | v z =>
      obtain ⟨rfl,rfl⟩:=CM_isl_v hm
      cases h with | v _ _ _=>exact .isl0 _ none 0 sz
    | msl k sz' off len =>
      simp only [CM] at hm
      obtain ⟨⟨rfl,rfl,rfl⟩,hk,hh,hl,hkf⟩:=hm
      exact frozen_rc H hk hh hl hkf h _
    | _=>simp [CM] at hm
  | .num k,c',x,hm,h=>by
    cases c' with
    | num k' =>
      simp only [CM] at hm
      subst hm
      cases h with | num _ _ n=>exact .num _ k n
    | v z =>
      obtain ⟨n,rfl⟩:=CM_num_v hm
      cases h with | v _ _ _=>exact .num _ k n
    | _=>simp [CM] at hm
  | .csl y sz xs,c',x,hm,h=>by
    cases c' with
    | csl y' sz' xs' =>
      simp only [CM] at hm
      obtain ⟨rfl,rfl,rfl⟩:=hm
      exact h.keyfree rfl (fun _ h => .inl h) _
    | z =>
      simp only [CM] at hm
      subst hm
      cases h with | z _ a=>exact .csl0 _ a 0 sz y
    | v z =>
      obtain ⟨rfl,rfl⟩:=CM_csl_v hm
      cases h with | v _ _ _=>exact .csl0 _ none 0 sz y
    | msl k sz' off len =>
      simp only [CM] at hm
      obtain ⟨rfl,⟨rfl,rfl,rfl⟩,hk,hh,hl,hkf⟩:=hm
      exact frozen_csl H hk hh hl hkf h _
    | _=>simp [CM] at hm
theorem CMs.rcs (H : SimH I w s hS) : ∀ (cs cs' : List C) (vs : List Value), CMs hT r hS fz cs cs' → RCs I w s vs.toArray cs' → RCs (subI fz hS s I) w (subS r hT s) vs.toArray cs
  | [],cs',vs,hm,h=>by
    simp only [CMs] at hm
    subst hm
    exact ⟨h.1,fun j h1 h2=>by simp at h2⟩
  | c :: cs,[],vs,hm,h=>by simp [CMs] at hm
  | c :: cs,c' :: cs',vs,hm,h=>by
    simp only [CMs] at hm
    obtain ⟨h1,h2⟩:=hm
    match vs,h with
    | [],h=>have:=h.1;simp at this
    | v :: vs,h =>
      have ih:=CMs.rcs H cs cs' vs h2 ⟨by have:=h.1;simpa using this,fun j g1 g2=>h.2 (j+1) (by simpa using g1) (by simpa using g2)⟩
      refine ⟨by have:=ih.1;simpa using this,fun j g1 g2=>?_⟩
      cases j with
      | zero=>exact CM.rc H c c' h1 (h.2 0 (by simp) (by simp))
      | succ j=>exact ih.2 j (by simpa using g1) (by simpa using g2)
end
mutual
theorem DM.rd (H : SimH I w s hS) : ∀ (d d' : D) {x : Value}, DM hT r hS fz d d' → RD I w s x d' → RD (subI fz hS s I) w (subS r hT s) x d
  | .c a,d',x,hm,h=>by
    cases d' with
    | c b =>
      simp only [DM] at hm
      cases h with | c _ _ h=>exact .c _ _ (CM.rc H a b hm h)
    | _=>simp [DM] at hm
  | .agg as,d',x,hm,h=>by
    cases d' with
    | agg bs =>
      simp only [DM] at hm
      cases h with
      | agg vs _ hl hr =>
        obtain ⟨h1,h2⟩:=CMs.rcs H as bs vs.toList hm ⟨by simpa using hl,fun j g1 g2=>by simpa using hr j (by simpa using g1) g2⟩
        exact .agg vs as (by simpa using h1) fun j g1 g2=>by simpa using h2 j (by simpa using g1) g2
    | _=>simp [DM] at hm
  | .tup as,d',x,hm,h=>by
    cases d' with
    | tup bs =>
      simp only [DM] at hm
      cases h with
      | tup vs _ hl hr =>
        obtain ⟨h1,h2⟩:=DMs.rds H as bs vs.toList hm ⟨by simpa using hl,fun j g1 g2=>by simpa using hr j (by simpa using g1) g2⟩
        exact .tup vs as (by simpa using h1) fun j g1 g2=>by simpa using h2 j (by simpa using g1) g2
    | _=>simp [DM] at hm
  | .when b a,d',x,hm,h=>by
    cases d' with
    | when b' y =>
      simp only [DM] at hm
      obtain ⟨rfl,hm⟩:=hm
      cases h with | when _ _ _ h h0=>exact .when x b a (fun hb=>DM.rd H a y hm (h hb)) h0
    | _=>simp [DM] at hm
theorem DMs.rds (H : SimH I w s hS) : ∀ (ds ds' : List D) (vs : List Value), DMs hT r hS fz ds ds' → RDs I w s vs.toArray ds' → RDs (subI fz hS s I) w (subS r hT s) vs.toArray ds
  | [],ds',vs,hm,h=>by
    simp only [DMs] at hm
    subst hm
    exact ⟨h.1,fun j h1 h2=>by simp at h2⟩
  | d :: ds,[],vs,hm,h=>by simp [DMs] at hm
  | d :: ds,d' :: ds',vs,hm,h=>by
    simp only [DMs] at hm
    obtain ⟨h1,h2⟩:=hm
    match vs,h with
    | [],h=>have:=h.1;simp at this
    | v :: vs,h =>
      have ih:=DMs.rds H ds ds' vs h2 ⟨by have:=h.1;simpa using this,fun j g1 g2=>h.2 (j+1) (by simpa using g1) (by simpa using g2)⟩
      refine ⟨by have:=ih.1;simpa using this,fun j g1 g2=>?_⟩
      cases j with
      | zero=>exact DM.rd H d d' h1 (h.2 0 (by simp) (by simp))
      | succ j=>exact ih.2 j (by simpa using g1) (by simpa using g2)
end
theorem SimH.wri_sub (H:SimH I w s hS):Wr (subI fz hS s I) w:=fun b hb hn=>by
  rcases hb with h | ⟨k,_,cs,hk,hs⟩
  · exact H.wri b h hn
  · obtain ⟨arr,T,hb,_⟩:=live_cells H hk hs
    exact ⟨arr,T,hb⟩
theorem SubH.sim (hs:SubH m r fz hT hS) (H:SimH I w s hS):SimH (subI fz hS s I) w (subS r hT s) hT∧Ext m I w s hS (subI fz hS s I) w (subS r hT s) hT:=by
  have hliv:∀ k cs b,hT k=some (some cs)→subS r hT s k=some (some b)→∃ k' cs',r k=some k'∧k' ∉ fz∧hS k'=some (some cs')∧CMs hT r hS fz cs cs'∧s k'=some (some b):=fun k cs b hk hb=>by
    have hne:hT k ≠ none:=by rw [hk];simp
    rcases hs.live k cs hk with ⟨k',cs',h1,h2,h3,h4⟩ | ⟨h1,_⟩
    · rw [subS_some hne h1] at hb
      exact ⟨k',cs',h1,h2,h3,h4,hb⟩
    · rw [subS_none hne h1] at hb;cases hb
  refine ⟨⟨fun k hk=>by simp [subS,hk],fun k cs hk=>?_,fun k k' b cs cs' h1 h2 h3 h4=>?_,fun b hb=>?_,H.yng.step (Nat.le_refl _) (fun _ _=>rfl) fun b ⟨k,cs,hk,hb⟩=>let ⟨k',cs',_,_,h3,_,h5⟩:=hliv k cs b hk hb;.inl ⟨k',cs',h3,h5⟩,H.wri_sub⟩,
    ⟨rfl,rfl,rfl,Nat.le_refl _,fun _ _ _=>rfl,Shp.refl w,fun k hk=>?_,fun _ h => .inl h,fun b hb=>?_,fun b ⟨k,cs,hk,hb⟩=>?_⟩⟩
  · have hne:hT k ≠ none:=by rw [hk];simp
    rcases hs.live k cs hk with ⟨k',cs',h1,h2,h3,h4⟩ | ⟨h1,h2⟩
    · rw [subS_some hne h1]
      rcases H.blk k' cs' h3 with ⟨g1,g2⟩ | ⟨b,arr,T,g1,g2,g3,g4,g5⟩
      · subst g2
        refine .inl ⟨g1,?_⟩
        cases cs with
        | nil=>rfl
        | cons c r=>simp [CMs] at h4
      · have hlen:cs.length=cs'.length:=by
          have:∀ (as bs:List C),CMs hT r hS fz as bs→as.length=bs.length:=by
            intro as
            induction as with
            | nil=>intro bs h;simp only [CMs] at h;subst h;rfl
            | cons a as ih =>
              intro bs h
              cases bs with
              | nil=>simp [CMs] at h
              | cons b bs=>simp only [CMs] at h;simp [ih bs h.2]
          exact this _ _ h4
        have hrs:RCs I w s (arr.toList.take cs'.length).toArray cs':=by
          refine ⟨by simp;omega,fun j q1 q2=>?_⟩
          obtain ⟨y,hy,hry⟩:=g5 j q2
          obtain ⟨hlt,e⟩:=Array.getElem?_eq_some_iff.1 hy
          simpa [e] using hry
        have hrt:=CMs.rcs H cs cs' _ h4 hrs
        refine .inr ⟨b,arr,T,g1,g2,by omega,fun hb=>?_,fun j hj=>?_⟩
        · rcases hb with hb | ⟨k2,hk2,cs2,e1,e2⟩
          · exact g4 hb
          · have:=H.inj k' k2 b cs' cs2 h3 e1 g1 e2
            exact h2 (this ▸ hk2)
        · have hja:j<arr.size:=by omega
          refine ⟨arr[j],by simp [hja],?_⟩
          have:=hrt.2 j (by simp;omega) hj
          simpa using this
    · rw [subS_none hne h1]
      exact .inl ⟨rfl,h2⟩
  · obtain ⟨j1,c1,a1,_,a3,_,a5⟩:=hliv k cs b h1 h3
    obtain ⟨j2,c2,b1,_,b3,_,b5⟩:=hliv k' cs' b h2 h4
    have:=H.inj j1 j2 b c1 c2 a3 b3 a5 b5
    subst this
    exact hs.inj k k' cs cs' j1 h1 h2 a1 b1
  · rcases hb with hb | ⟨k2,_,cs2,e1,e2⟩
    · exact H.imm b hb
    · exact (H.live_lt ⟨k2,cs2,e1,e2⟩).1
  · obtain ⟨h1,h2⟩:=hs.low k hk
    exact subS_some h2 h1
  · rcases hb with hb | ⟨k2,_,cs2,e1,e2⟩
    · exact .inl hb
    · exact .inr (.inl ⟨k2,cs2,e1,e2⟩)
  · obtain ⟨k',cs',_,_,h3,_,h5⟩:=hliv k cs b hk hb
    exact .inl ⟨k',cs',h3,h5⟩
end
def TmOK (hT : Hp) (r : Nat → Option Nat) (hS : Hp) (fz : List Nat) (tS : Nat → Option D) : List (Nat × D) → Prop
  | []=>True
  | (n,d) :: l=>(match tS n with | some d'=>DM hT r hS fz d d' | none=>False)∧TmOK hT r hS fz tS l
def HpOK (hT : Hp) (r : Nat → Option Nat) (hS : Hp) (fz : List Nat) : List (Nat × Option (List C)) → Prop
  | []=>True
  | (k,x) :: l=>(match x with
    | some cs=>(match r k with | some k'=>k' ∉ fz∧(match hS k' with | some (some cs')=>CMs hT r hS fz cs cs' | _=>False) | none=>cs=[])
    | none=>True)∧HpOK hT r hS fz l
def LowOK (r : Nat → Option Nat) (hT : Hp) : Nat → Prop
  | 0=>True
  | m+1=>(r m=some m∧hT m ≠ none)∧LowOK r hT m
def Mt (m:Nat) (r:Nat→Option Nat) (fz:List Nat) (tl:List (Nat × D)) (hl:List (Nat × Option (List C))) (S:Ms):Prop :=
  TmOK (hOf hl) r S.hp fz S.tm tl∧HpOK (hOf hl) r S.hp fz hl∧LowOK r (hOf hl) m∧((hl.map (·.1)).filterMap r).Nodup
section
variable {K:Bool} {P:Program} {m:Nat} {f:FuncId} {nt:Nat} {R:D→List (Option (List C))→Prop}
theorem hOf_mem : ∀ {hl : List (Nat × Option (List C))} {k : Nat} {x : Option (List C)}, hOf hl k = some x → (k, x) ∈ hl
  | [],k,x,h=>by simp [hOf] at h
  | (j,y) :: l,k,x,h=>by
    simp only [hOf,upd] at h
    split at h
    · rename_i e
      simp only [Option.some.injEq] at h
      rw [e,h];simp
    · simp [hOf_mem h]
theorem HpOK.at {hT:Hp} {r:Nat→Option Nat} {hS:Hp} {fz:List Nat}:∀ {hl:List (Nat × Option (List C))},HpOK hT r hS fz hl→∀ k cs,(k,some cs) ∈ hl →
    (∃ k' cs',r k=some k'∧k' ∉ fz∧hS k'=some (some cs')∧CMs hT r hS fz cs cs')∨(r k=none∧cs=[])
  | [],_,_,_,h=>by simp at h
  | (j,y) :: l,h,k,cs,hm=>by
    simp only [HpOK] at h
    rcases List.mem_cons.1 hm with e | hm
    · have e1:k=j:=congrArg Prod.fst e
      have e2:some cs=y:=congrArg Prod.snd e
      have h1:=h.1
      rw [← e2] at h1
      rw [e1]
      simp only at h1
      cases hr:r j with
      | none=>rw [hr] at h1;exact .inr ⟨rfl,h1⟩
      | some k' =>
        rw [hr] at h1
        obtain ⟨h2,h3⟩:=h1
        split at h3
        · rename_i cs' hcs
          exact .inl ⟨k',cs',rfl,h2,hcs,h3⟩
        · exact h3.elim
    · exact HpOK.at h.2 k cs hm
theorem filterMap_inj {r : Nat → Option Nat} : ∀ {l : List Nat}, (l.filterMap r).Nodup → ∀ a b j, a ∈ l → b ∈ l → r a = some j → r b = some j → a = b
  | [],_,_,_,_,h,_,_,_=>by simp at h
  | x :: l,hn,a,b,j,ha,hb,h1,h2=>by
    rcases List.mem_cons.1 ha with rfl | ha'<;>rcases List.mem_cons.1 hb with rfl | hb'
    · rfl
    · rw [List.filterMap_cons_some h1] at hn
      exact absurd (List.mem_filterMap.2 ⟨b,hb',h2⟩) (List.nodup_cons.1 hn).1
    · rw [List.filterMap_cons_some h2] at hn
      exact absurd (List.mem_filterMap.2 ⟨a,ha',h1⟩) (List.nodup_cons.1 hn).1
    · have hn':(l.filterMap r).Nodup:=by
        cases hx:r x with
        | none=>rwa [List.filterMap_cons_none hx] at hn
        | some y=>rw [List.filterMap_cons_some hx] at hn;exact (List.nodup_cons.1 hn).2
      exact filterMap_inj hn' a b j ha' hb' h1 h2
theorem LowOK.at {r : Nat → Option Nat} {hT : Hp} : ∀ {m : Nat}, LowOK r hT m → ∀ k, k < m → r k = some k ∧ hT k ≠ none
  | 0,_,k,h=>by omega
  | m+1,h,k,hk=>by
    rcases Nat.lt_or_ge k m with h1 | h1
    · exact (LowOK.at h.2) k h1
    · rw [show k=m from by omega];exact h.1
theorem Mt.subH {r : Nat → Option Nat} {fz : List Nat} {tl : List (Nat × D)} {hl : List (Nat × Option (List C))} {S : Ms} (h : Mt m r fz tl hl S) : SubH m r fz (hOf hl) S.hp where
  live:=fun k cs hk=>HpOK.at h.2.1 k cs (hOf_mem hk)
  inj:=fun k k' cs cs' j h1 h2 h3 h4=>filterMap_inj h.2.2.2 k k' j (List.mem_map.2 ⟨_,hOf_mem h1,rfl⟩) (List.mem_map.2 ⟨_,hOf_mem h2,rfl⟩) h3 h4
  low:=h.2.2.1.at
theorem TmOK.at {hT : Hp} {r : Nat → Option Nat} {hS : Hp} {fz : List Nat} {tS : Nat → Option D} : ∀ {tl : List (Nat × D)}, TmOK hT r hS fz tS tl → ∀ n d, tOf tl n = some d → ∃ d', tS n = some d' ∧ DM hT r hS fz d d'
  | [],_,n,d,h=>by simp [tOf] at h
  | (k,x) :: l,h,n,d,hn=>by
    simp only [TmOK] at h
    simp only [tOf,upd] at hn
    split at hn
    · rename_i e
      simp only [Option.some.injEq] at hn
      subst e;subst hn
      have h1:=h.1
      split at h1
      · rename_i d' hd'
        exact ⟨d',hd',h1⟩
      · exact h1.elim
    · exact TmOK.at h.2 n d hn
theorem Go.sub {r:Nat→Option Nat} {fz:List Nat} {tl:List (Nat × D)} {hl:List (Nat × Option (List C))} {S:Ms} {k:List Item} (nx:Nat) (h:Mt m r fz tl hl S) (hg:Go K P m f nt R k ⟨tOf tl,hOf hl,nx⟩):Go K P m f nt R k S:=fun I w s a hR cs=>by
  obtain ⟨H',E'⟩:=h.subH.sim hR.H
  have hR':Rc (subI fz S.hp s I) w (subS r (hOf hl) s) a (tOf tl) (hOf hl) nt:=⟨H',fun n d hd=>by
    obtain ⟨d',h1,h2⟩:=h.1.at n d hd
    exact DM.rd hR.H d d' h2 (hR.tm n d' h1),hR.df,hR.sz⟩
  obtain ⟨v,w',fr,I',s',d,h',g1,g2,g3,g4,g5,g6,g7⟩:=hg _ w _ a hR' cs
  exact ⟨v,w',fr,I',s',d,h',g1,g2,g3,E'.transG hR.H g4,g5,g6,g7⟩
theorem RetOb.of {d:D} {hp:Hp} (r:Nat→Option Nat) (fz:List Nat) (d':D) (h':List (Option (List C))) (hs:SubH m r fz (hpL h') hp) (hd:DM (hpL h') r hp fz d' d) (hR:R d' h') (hm:m≤h'.length):RetOb m R d hp :=
  fun I w s v H hv=>by
    obtain ⟨H',E'⟩:=hs.sim H
    exact ⟨_,_,d',h',hR,DM.rd H d' d hd hv,H',E',hm⟩
theorem Go.loopL {X : Type} {c : Code} {k : List Item} (tl : X → List (Nat × D)) (hl : X → List (Nat × Option (List C))) (nx : Nat) (Inv : X → Prop) (μ : X → Nat)
    (round:∀ x,Inv x→(∀ x' r fz S',Inv x'→μ x' < μ x→Mt m r fz (tl x') (hl x') S'→Go K P m f nt R (.inLoop c :: k) S')→Go K P m f nt R (.code c :: .inLoop c :: k) ⟨tOf (tl x),hOf (hl x),nx⟩) :
    ∀ x r fz S,Inv x→Mt m r fz (tl x) (hl x) S→Go K P m f nt R (.code (.loop c) :: k) S:=by
  intro x r fz S hI hM
  refine Go.loop (Go.sub nx hM ?_)
  exact round x hI fun x' r' fz' S' hi' hlt hm'=>Go.rounds (P:=P) (m:=m) (f:=f) (nt:=nt) (R:=R) (c:=c) (k:=k) (fun x S=>Inv x∧∃ r fz,Mt m r fz (tl x) (hl x) S) μ (fun x S ⟨hi,r,fz,hm⟩ ih =>
    Go.sub nx hm (round x hi fun x' r' fz' S' hi' hlt hm'=>ih x' S' hlt ⟨hi',r',fz',hm'⟩)) x' S' ⟨hi',r',fz',hm'⟩
end
def lgokF (nx:Nat) (all:Array Oper) (lg:Lg) (i:Nat) (rd wr:List Nat):Bool :=
  (List.range all.size).all fun j=>j == i || (match lg j with | none=>true | some (rd',wr')=>indep nx i j rd wr rd' wr' || ord all j i || ord all i j)
theorem lgokF_eq (nx:Nat) (all:Array Oper) (lg:Lg) (i:Nat) (rd wr:List Nat) (h:lgokF nx all lg i rd wr=true):lgok nx all lg i rd wr=true:=by
  simp only [lgokF,lgok,List.all_eq_true] at h ⊢
  intro j hj
  have:=h j hj
  split at this
  · rename_i e;simp [e]
  · rename_i rd' wr' e
    simp only [e,Bool.or_eq_true] at this ⊢
    rcases this with h | ((h | h) | h)
    · exact .inl h
    · exact .inr (.inr h)
    · exact .inr (.inl (.inl h))
    · exact .inr (.inl (.inr h))
def nxt (P:Program) (m nx0:Nat) (all:Array Oper) (i:Nat) (o:Oper) (tm:Nat→Option D) (hp:Hp):Option (Prop × Option D × List (Nat × Option (List C)) × List Nat) :=
  match o.guard with
  | none=>(match stp P m (wkey nx0 i) tm hp o.op with
    | some out=>some (out.vc,out.d,out.up,out.rd)
    | none=>none)
  | some (g,b)=>(match guardB all tm g b with
    | some x=>(match mayUp o.op with
      | true=>(match x with
        | true=>(match stp P m (wkey nx0 i) tm hp o.op with
          | some out=>some (out.vc,out.d,out.up,out.rd)
          | none=>none)
        | false=>some (True,some (.when false (DB false)),[],[]))
      | false=>(match stp P m (wkey nx0 i) tm hp o.op with
        | some out=>some ((x=true→out.vc)∧out.up=[],out.d.map (.when x),[],out.rd)
        | none=>(match gkey tm o.op with
          | none=>some (x=false∧∀ hp',stp P m (wkey nx0 i) tm hp' o.op=none,some (.when false (DB false)),[],[])
          | some k=>some (x=false,some (.when false (DB false)),[],[k]))))
    | none=>none)
def retP (P:Program) (m:Nat) (R:D→List (Option (List C))→Prop) (rs:List ResultVar) (S:Ms):Prop :=
  match retD P S.tm S.hp rs with
  | some (vc,ds)=>vc∧RetOb m R (oneD ds) S.hp
  | none=>False
def drv (K : Bool) (P : Program) (m : Nat) (f : FuncId) (nt : Nat) (R : D → List (Option (List C)) → Prop) (rs : List ResultVar) : Nat → Option Rg → List Item → Ms → Prop
  | 0,r,k,S=>XK K P m f nt R r k S
  | n+1,some ⟨all,dr,i,[],lg,nx0⟩,k,S=>drv K P m f nt R rs n none k ⟨S.tm,S.hp,nx0+64 * all.size⟩
  | n+1,some ⟨all,dr,i,o :: rest,lg,nx0⟩,k,S=>if isFn o then XK K P m f nt R (some ⟨all,dr,i,o :: rest,lg,nx0⟩) k S else
      (match nxt P m nx0 all i o S.tm S.hp with
      | some (vc,d,up,rd)=>(vc∧fitsT nt o.dst=true∧(dr=true→lgokF nx0 all lg i rd (up.map (·.1))=true)) ∧
          drv K P m f nt R rs n (some ⟨all,dr,i+1,rest,upd lg i (some (rd,up.map (·.1))),nx0⟩) k ⟨setT S.tm o.dst d,appUp S.hp up,S.nx⟩
      | none=>False)
  | n+1,none,[],S=>retP P m R rs S
  | n+1,none,.code (.seq a b) :: k,S=>drv K P m f nt R rs n none (.code a :: .code b :: k) S
  | n+1,none,.code .skip :: k,S=>drv K P m f nt R rs n none k S
  | n+1,none,.code (.label _) :: k,S=>drv K P m f nt R rs n none k S
  | n+1,none,.inBlock _ :: k,S=>drv K P m f nt R rs n none k S
  | n+1,none,.code (.block id c) :: k,S=>drv K P m f nt R rs n none (.code c :: .inBlock id :: k) S
  | n+1,none,.code (.cond c x y) :: k,S=>(match evT S.tm c with
      | some d=>(match peelD d with
        | .c (.v (.bool t))=>peelB d=true∧(t=true→drv K P m f nt R rs n none (.code x :: k) S)∧(t=false→drv K P m f nt R rs n none (.code y :: k) S)
        | _=>False)
      | none=>False)
  | n+1,none,.code (.exit id) :: k,S=>(match exitTo id k with
      | some k'=>drv K P m f nt R rs n none k' S
      | none=>False)
  | n+1,none,.code .ret :: k,S=>retP P m R rs S
  | n+1,none,.code (.region id all dr) :: k,S=>(dr=true→drawOK all=true)∧drv K P m f nt R rs n (some ⟨all,dr,0,all.toList,fun _=>none,S.nx⟩) k S
  | n+1,none,k,S=>XK K P m f nt R none k S
section
variable {K:Bool} {P:Program} {m:Nat} {f:FuncId} {nt:Nat} {R:D→List (Option (List C))→Prop}
theorem nxt_stp {nx0 : Nat} {all : Array Oper} {i : Nat} {o : Oper} {tm : Nat → Option D} {hp : Hp} (hf : isFn o = false) {vc : Prop} {d : Option D} {up : List (Nat × Option (List C))} {rd : List Nat}
    (h:nxt P m nx0 all i o tm hp=some (vc,d,up,rd)) (hvc:vc):Stp P m nx0 all i o tm hp rd (up.map (·.1)) (fun d' up'=>d'=d∧up'=up):=by
  unfold nxt at h
  split at h
  · rename_i hg
    split at h
    · rename_i out ho
      simp only [Option.some.injEq,Prod.mk.injEq] at h
      obtain ⟨rfl,rfl,rfl,rfl⟩:=h
      exact .plain out hg ho hvc
    · cases h
  · rename_i g b hg
    split at h
    · rename_i x hx
      split at h
      · rename_i hmu
        split at h
        · split at h
          · rename_i out ho
            simp only [Option.some.injEq,Prod.mk.injEq] at h
            obtain ⟨rfl,rfl,rfl,rfl⟩:=h
            exact .gon g b out hg hmu hx ho hvc
          · cases h
        · simp only [Option.some.injEq,Prod.mk.injEq] at h
          obtain ⟨rfl,rfl,rfl,rfl⟩:=h
          exact .goff g b hg hmu hx
      split at h
      · rename_i out ho
        simp only [Option.some.injEq,Prod.mk.injEq] at h
        obtain ⟨rfl,rfl,rfl,rfl⟩:=h
        exact .gplain g b x out hg hx ho hvc.2 hvc.1
      · rename_i hn0
        have hnc:∀ c,o.op = .call c→∀ f,c.callee ≠ .value f:=fun c hc fo hcf=>by
          unfold isFn at hf
          rw [hc] at hf
          simp only [hcf] at hf
          cases hf
        split at h
        · rename_i hgk
          simp only [Option.some.injEq,Prod.mk.injEq] at h
          obtain ⟨rfl,rfl,rfl,rfl⟩:=h
          obtain ⟨rfl,hn⟩:=hvc
          exact .gnone g b _ hg hx (by unfold GN;rw [hgk];exact ⟨rfl,hn⟩) hnc
        · rename_i k hgk
          simp only [Option.some.injEq,Prod.mk.injEq] at h
          obtain ⟨rfl,rfl,rfl,rfl⟩:=h
          obtain rfl:=hvc
          exact .gnone g b _ hg hx (by unfold GN;rw [hgk];exact ⟨rfl,hn0⟩) hnc
    · cases h
theorem drv_sound {fn : Func} (hfn : P.funcs[f]? = some fn) (hmo : P.follows .mixedOrders = true) {rs : List ResultVar} (hrs : fn.results.toList = rs) : ∀ (n : Nat) (r : Option Rg) (k : List Item) (S : Ms), drv K P m f nt R rs n r k S → XK K P m f nt R r k S
  | 0,r,k,S,h=>by simpa only [drv] using h
  | n+1,some ⟨all,dr,i,[],lg,nx0⟩,k,S,h=>by
    simp only [drv] at h
    have:=drv_sound hfn hmo hrs n none k _ h
    simp only [XK,dopsL] at this ⊢
    exact Pre.intro this
  | n+1,some ⟨all,dr,i,o :: rest,lg,nx0⟩,k,S,h=>by
    simp only [drv] at h
    split at h
    · exact h
    · rename_i hf
      split at h
      · rename_i vc d up rd hn
        obtain ⟨⟨h1,h2,h3⟩,h4⟩:=h
        have h5:=drv_sound hfn hmo hrs n _ k _ h4
        simp only [XK,dopsL] at h5 ⊢
        refine Pre.intro (.inl ⟨rd,up.map (·.1),_,nxt_stp (by simpa using hf) hn h1,h2,fun hdr=>⟨lgokF_eq _ _ _ _ _ _ (h3 hdr),d,up,rfl,rfl⟩,fun d' up' ht=>?_⟩)
        obtain ⟨rfl,rfl⟩:=ht
        exact h5
      · exact h.elim
  | n+1,none,[],S,h=>by
    simp only [drv,retP] at h
    split at h
    · rename_i vc ds hr
      exact Go.done hfn (by rw [hrs];exact hr) h.1 h.2
    · exact h.elim
  | n+1,none,.code c :: k,S,h=>by
    cases c with
    | seq a b=>simp only [drv] at h;exact Go.seq (drv_sound hfn hmo hrs n none _ S h)
    | skip=>simp only [drv] at h;exact Go.skip (drv_sound hfn hmo hrs n none _ S h)
    | label l=>simp only [drv] at h;exact Go.label (drv_sound hfn hmo hrs n none _ S h)
    | block id c=>simp only [drv] at h;exact Go.block (drv_sound hfn hmo hrs n none _ S h)
    | cond c x y =>
      simp only [drv] at h
      split at h
      · rename_i d hd
        split at h
        · rename_i t ht
          exact Go.cond hd h.1 ht (fun e=>drv_sound hfn hmo hrs n none _ S (h.2.1 e)) (fun e=>drv_sound hfn hmo hrs n none _ S (h.2.2 e))
        · exact h.elim
      · exact h.elim
    | exit id =>
      simp only [drv] at h
      split at h
      · rename_i k' hk
        exact Go.exit hk (drv_sound hfn hmo hrs n none _ S h)
      · exact h.elim
    | ret =>
      simp only [drv,retP] at h
      split at h
      · rename_i vc ds hr
        exact Go.ret hfn (by rw [hrs];exact hr) h.1 h.2
      · exact h.elim
    | region id all dr =>
      simp only [drv] at h
      exact Go.region (fun _=>hmo) h.1 (drv_sound hfn hmo hrs n _ k S h.2)
    | _=>simpa only [drv] using h
  | n+1,none,.inBlock id :: k,S,h=>by simp only [drv] at h;exact Go.inBlock (drv_sound hfn hmo hrs n none _ S h)
  | n+1,none,.inLoop c :: k,S,h=>by simpa only [drv] using h
  | n+1,none,.inScope c :: k,S,h=>by simpa only [drv] using h
  | n+1,none,.inRegion a b :: k,S,h=>by simpa only [drv] using h
  | n+1,none,.inRangeFunc a :: k,S,h=>by simpa only [drv] using h
  | n+1,none,.endRangeFunc a :: k,S,h=>by simpa only [drv] using h
  | n+1,none,.beginRound :: k,S,h=>by simpa only [drv] using h
  | n+1,none,.call a b c d :: k,S,h=>by simpa only [drv] using h
  | n+1,none,.extern a b :: k,S,h=>by simpa only [drv] using h
theorem XK.call {all : Array Oper} {dr : Bool} {i : Nat} {o : Oper} {rest : List Oper} {lg : Lg} {nx0 : Nat} {k : List Item} {S : Ms} {F : FuncId} {args : List D} {h : List (Option (List C))} {R' : D → List (Option (List C)) → Prop}
    (hD:DC P F args h R') (ks:List Nat) (c:Call) (hop:o.op = .call c) (hg:o.guard=none∨∃ g b,o.guard=some (g,b)∧guardB all S.tm g b=some true) (hc:calleeOf S.tm c=some (F,args.map (renD (rk0 ks (wkey nx0 i))))) (hok:okP S.tm c.operands.toList) (hfn:fnOK P F=true)
    (hks:ks.length=h.length) (hnd:ks.Nodup) (hhp:∀ i' x,h[i']? = some x→S.hp (ks.getD i' 0)=some (x.map (renCs (rk0 ks (wkey nx0 i))))) (hm:m≤wkey nx0 i) (hb:∀ j,j<64→S.hp (wkey nx0 i+j)=none)
    (hlen:∀ d h',R' d h'→h'.length≤h.length+64) (hf:fitsT nt o.dst=true) (hdr:dr=true→lgok nx0 all lg i ks ks=true∧∃ d h',R' d h'∧h.length≤h'.length)
    (next:∀ d h',R' d h'→h.length≤h'.length→XK K P m f nt R (some ⟨all,dr,i+1,rest,upd lg i (some (ks,ks)),nx0⟩) k ⟨setT S.tm o.dst (some (renD (rkey ks (wkey nx0 i)) d)),appUp S.hp (upsFrom (rkey ks (wkey nx0 i)) 0 h'),S.nx⟩) :
    XK K P m f nt R (some ⟨all,dr,i,o :: rest,lg,nx0⟩) k S:=by
  simp only [XK,dopsL]
  refine Pre.intro (.inl ⟨ks,ks,_,.call c F args ks h R' hg hop hc hok hfn hD hks hnd hhp hm hb hlen,hf,fun e=>⟨(hdr e).1,?_⟩,fun d up ht=>?_⟩)
  · obtain ⟨d,h',h1,h2⟩:=(hdr e).2
    exact ⟨_,_,d,h',h1,h2,rfl,rfl⟩
  · obtain ⟨d',h',h1,h2,rfl,rfl⟩:=ht
    exact next d' h' h1 h2
theorem XK.pure {all : Array Oper} {dr : Bool} {i : Nat} {o : Oper} {rest : List Oper} {lg : Lg} {nx0 : Nat} {k : List Item} {S : Ms} {F : FuncId} {args : List D} {d0 : D}
    (hD:DC P F args [] (fun d h'=>d=d0∧h'=[])) (c:Call) (hop:o.op = .call c) (hg:o.guard=none) (hc:calleeOf S.tm c=some (F,args.map (renD (rk0 [] (wkey nx0 i))))) (hok:okP S.tm c.operands.toList) (hfn:fnOK P F=true)
    (hm:m≤wkey nx0 i) (hb:∀ j,j<64→S.hp (wkey nx0 i+j)=none) (hf:fitsT nt o.dst=true) (hdr:dr=true→lgok nx0 all lg i [] []=true)
    (next:XK K P m f nt R (some ⟨all,dr,i+1,rest,upd lg i (some ([],[])),nx0⟩) k ⟨setT S.tm o.dst (some (renD (rkey [] (wkey nx0 i)) d0)),S.hp,S.nx⟩) :
    XK K P m f nt R (some ⟨all,dr,i,o :: rest,lg,nx0⟩) k S :=
  XK.call hD [] c hop (.inl hg) hc hok hfn rfl List.nodup_nil (fun i' x h => by simp at h) hm hb (fun d h' e => by rw [e.2]; simp) hf (fun e => ⟨hdr e, d0, [], ⟨rfl, rfl⟩, Nat.le_refl _⟩)
    fun d h' e _=>by
      obtain ⟨rfl,rfl⟩:=e
      exact next
theorem XK.gpure {all : Array Oper} {dr : Bool} {i : Nat} {o : Oper} {rest : List Oper} {lg : Lg} {nx0 : Nat} {k : List Item} {S : Ms} {d0 : D} (g : Nat) (b x : Bool) (c : Call) (hg : o.guard = some (g, b)) (hx : guardB all S.tm g b = some x)
    (hop:o.op = .call c) (hcf:∃ f,c.callee = .value f)
    (hc:x=true→∃ F args,calleeOf S.tm c=some (F,args.map (renD (rk0 [] (wkey nx0 i))))∧okP S.tm c.operands.toList∧fnOK P F=true∧DC P F args [] (fun r h'=>r=d0∧h'=[])∧renD (rkey [] (wkey nx0 i)) d0=d0)
    (hm:m≤wkey nx0 i) (hb:∀ j,j<64→S.hp (wkey nx0 i+j)=none) (hf:fitsT nt o.dst=true) (hdr:dr=true→lgok nx0 all lg i [] []=true)
    (next:XK K P m f nt R (some ⟨all,dr,i+1,rest,upd lg i (some ([],[])),nx0⟩) k ⟨setT S.tm o.dst (some (.when x d0)),S.hp,S.nx⟩) :
    XK K P m f nt R (some ⟨all,dr,i,o :: rest,lg,nx0⟩) k S:=by
  simp only [XK,dopsL]
  refine Pre.intro (.inl ⟨[],[],_,.gcall g b x c d0 hg hx hop hcf hc hm hb,hf,fun e=>⟨hdr e,_,_,rfl,rfl⟩,fun d up ht=>?_⟩)
  obtain ⟨rfl,rfl⟩:=ht
  exact next
theorem XK.sub {all : Array Oper} {i : Nat} {rest : List Oper} {lg lg' : Lg} {nx0 : Nat} {k : List Item} {S S' : Ms} (hs : Sub m nt ⟨S.tm, S.hp, lg⟩ ⟨S'.tm, S'.hp, lg'⟩)
    (h:XK K P m f nt R (some ⟨all,false,i,rest,lg',nx0⟩) k S'):XK K P m f nt R (some ⟨all,false,i,rest,lg,nx0⟩) k S:=by
  cases rest with
  | nil=>simp only [XK,dopsL] at h ⊢;exact h.sub hs
  | cons o r=>simp only [XK,dopsL] at h ⊢;exact h.sub hs
theorem DC.isl0 {F:FuncId} {sz:Nat} {R':D→List (Option (List C))→Prop} (h:∀ a c,DC P F [.c (.v (.slice a 0 c))] [] R'):DC P F [.c (.isl sz [])] [] R':=fun I w s vs H hv=>by
  obtain ⟨hsz,hall⟩:=hv
  have hsz1:vs.size=1:=hsz
  obtain ⟨x,rfl⟩:∃ x,vs=#[x]:=by
    obtain ⟨l⟩:=vs
    match l,hsz1 with
    | [x],_=>exact ⟨x,rfl⟩
  obtain ⟨a,cap,e,_,_⟩:=rd_isl (hall 0 (by simp) (by simp))
  have e:x = .slice a 0 cap:=e
  subst e
  refine h a cap I w s _ H ⟨rfl,fun j h1 h2=>?_⟩
  have:j=0:=by simpa using h1
  subst this
  exact .c _ _ (.v _ _ rfl)
theorem Sub.freeze {tm : Nat → Option D} {hp : Hp} {lg lg' : Lg} (t k sz n : Nat) (xs : List (List C)) (ht : tm t = some (.c (.msl k sz 0 n))) (hk : hp k = some (some xs.flatten)) (hn : n = xs.length) (hl : ∀ x ∈ xs, x.length = sz)
    (hkf:∀ x ∈ xs,∀ c ∈ x,kf c=true):Sub m nt ⟨tm,hp,lg⟩ ⟨upd tm t (some (.c (.isl sz xs))),upd hp k (some none),lg'⟩:=fun I w s a hR=>by
  subst hn
  have H:SimH I w s hp:=hR.H
  obtain ⟨H1,E1⟩:=sim_spend (m:=m) H k (by rw [hk];simp)
  have hI:∀ b,I b→subI [k] hp s I b:=fun b h => .inl h
  have H2:SimH (subI [k] hp s I) w s (upd hp k (some none)):=by
    refine ⟨H1.top,fun j cs hj=>?_,H1.inj,fun b hb=>?_,H1.yng,H.wri_sub⟩
    · rcases H1.blk j cs hj with h | ⟨b,arr,T,h1,h2,h3,h4,h5⟩
      · exact .inl h
      · refine .inr ⟨b,arr,T,h1,h2,h3,?_,fun j' h'=>?_⟩
        · rintro (h | ⟨k',hk',cs',hh,hs⟩)
          · exact h4 h
          · have e:k'=k:=by simpa using hk'
            subst e
            have hjk:j ≠ k':=fun e=>by subst e;rw [upd_same] at hj;cases hj
            rw [upd_ne _ _ hjk] at hj
            exact hjk (H.inj j k' b cs cs' hj hh h1 hs)
        · obtain ⟨y,hy,hr⟩:=h5 j' h'
          exact ⟨y,hy,hr.mono hI (fun _ _=>rfl) (Shp.refl w) (Sg.le_refl _)⟩
    · rcases hb with h | ⟨k',hk',cs',hh,hs⟩
      · exact H.imm b h
      · rcases H.blk k' cs' hh with ⟨h1,_⟩ | ⟨b',arr,T,h1,h2,_⟩
        · rw [hs] at h1;cases h1
        · rw [hs] at h1
          simp only [Option.some.injEq] at h1
          subst h1
          exact lt_of_heap h2
  have E2:Ext m I w s hp (subI [k] hp s I) w s (upd hp k (some none)) :=
    ⟨rfl,rfl,rfl,Nat.le_refl _,fun _ _ _=>rfl,Shp.refl w,fun _ _=>rfl,hI,fun b hb=>by
      rcases hb with h | ⟨k',_,cs',hh,hs⟩
      · exact .inl h
      · exact .inr (.inl ⟨k',cs',hh,hs⟩),E1.live⟩
  refine ⟨_,s,⟨H2,fun n d hd=>?_,hR.df,hR.sz⟩,E2⟩
  by_cases e:n=t
  · subst e
    simp only [upd_same,Option.some.injEq] at hd
    subst hd
    have h0:RD I w s (a.tmps.getD n undef) (.c (.msl k sz 0 xs.length)):=hR.tm n _ ht
    generalize a.tmps.getD n undef=x at h0
    cases h0 with
    | c _ _ h0=>exact .c _ _ (frozen_rc H (by simp) hk hl hkf h0 s)
  · simp only [upd_ne _ _ e] at hd
    exact E2.rd H (Sg.le_refl _) (hR.tm n d hd)
end
end Go.CT
