/- append, over states. -/
import Derived.Test.YtlapccpnilomfaaJAc
set_option linter.unusedVariables false
set_option linter.unusedSimpArgs false
set_option linter.unusedSectionVars false
set_option maxHeartbeats 16000000
set_option maxRecDepth 100000
namespace Go.CT
variable [Yn]
theorem sim_zero {m : Nat} {I : Nat → Prop} {w : World} {s : Sg} {hp : Hp} (H : SimH I w s hp) (kn : Nat) (hn : hp kn = none) (hm : m ≤ kn) :
    let s':=upd s kn (some none)
    let hp':=upd hp kn (some (some []))
    s.le s'∧SimH I w s' hp'∧Ext m I w s hp I w s' hp':=by
  intro s' hp'
  have hsk:s kn=none:=H.top kn hn
  have hle:s.le s':=fun j x hj=>by
    have:j ≠ kn:=fun e=>by rw [e,hsk] at hj;cases hj
    simp [s',upd_ne _ _ this,hj]
  have hlive:∀ b,Live s' hp' b→Live s hp b:=by
    rintro b ⟨j,cs',hj,hs⟩
    by_cases e:j=kn
    · subst e;simp [s',upd_same] at hs
    · simp only [s',upd_ne _ _ e] at hs
      simp only [hp',upd_ne _ _ e] at hj
      exact ⟨j,cs',hj,hs⟩
  have hext:Ext m I w s hp I w s' hp' :=
    ⟨rfl,rfl,rfl,Nat.le_refl _,fun _ _ _=>rfl,Shp.refl _,fun j hj=>upd_ne _ _ (by omega),fun _ h=>h,fun _ h => .inl h,fun b h => .inl (hlive b h)⟩
  have old:∀ i csi b,hp' i=some (some csi)→s' i=some (some b)→hp i=some (some csi)∧s i=some (some b):=by
    intro i csi b hi hs
    by_cases e:i=kn
    · subst e;simp [s',upd_same] at hs
    · simp only [s',upd_ne _ _ e] at hs
      simp only [hp',upd_ne _ _ e] at hi
      exact ⟨hi,hs⟩
  refine ⟨hle,⟨fun j hj=>?_,fun j csj hj=>?_,fun j j' b cs1 cs2 h1 h2 h3 h4=>?_,H.imm,H.yng.step hext.size (H.yng.keep hext.same) hext.live,H.wri⟩,hext⟩
  · by_cases e:j=kn
    · subst e;simp [hp',upd_same] at hj
    · simp only [hp',upd_ne _ _ e] at hj
      simp only [s',upd_ne _ _ e]
      exact H.top j hj
  · by_cases e:j=kn
    · subst e
      simp only [hp',upd_same,Option.some.injEq] at hj
      exact .inl ⟨by simp [s',upd_same],hj.symm⟩
    · simp only [hp',upd_ne _ _ e] at hj
      rcases H.blk j csj hj with ⟨h1,h2⟩ | ⟨b,arr,T,h1,h2,h3,h4,h5⟩
      · exact .inl ⟨by simp [s',upd_ne _ _ e,h1],h2⟩
      · refine .inr ⟨b,arr,T,by simp [s',upd_ne _ _ e,h1],h2,h3,h4,fun j' h'=>?_⟩
        obtain ⟨y,hy,hr⟩:=h5 j' h'
        exact ⟨y,hy,hext.rc H hle hr⟩
  · obtain ⟨g1,g2⟩:=old j cs1 b h1 h3
    obtain ⟨f1,f2⟩:=old j' cs2 b h2 h4
    exact H.inj j j' b cs1 cs2 g1 f1 g2 f2
def target (hp : Hp) : D → Option (Option Nat × Nat × List C)
  | .c (.msl k _ 0 len)=>(match hp k with | some (some cs)=>some (some k,len,cs) | _=>none)
  | .c (.v (.slice none 0 0))=>some (none,0,[])
  | .c .z=>some (none,0,[])
  | _=>none
def spend (hp : Hp) : Option Nat → Hp
  | some k=>upd hp k (some none)
  | none=>hp
section
variable {P:Program}
theorem SimH.draw {m:Nat} {I:Nat→Prop} {w:World} {s:Sg} {hp:Hp} (H:SimH I w s hp):SimH I w.drew s hp∧Ext m I w s hp I w.drew s hp:=by
  have hk:Keeps I w w.drew:=fun _ _=>rfl
  refine ⟨⟨H.top,fun k cs hk'=>?_,H.inj,H.imm,H.yng,H.wri⟩,⟨rfl,rfl,rfl,Nat.le_refl _,fun _ _ _=>rfl,Shp.refl w,fun _ _=>rfl,fun _ h=>h,fun _ h => .inl h,fun _ h => .inl h⟩⟩
  rcases H.blk k cs hk' with h1 | ⟨b,arr,T,h1,h2,h3,h4,h5⟩
  · exact .inl h1
  · refine .inr ⟨b,arr,T,h1,h2,h3,h4,fun j hj=>?_⟩
    obtain ⟨y,hy,hr⟩:=h5 j hj
    exact ⟨y,hy,hr.mono (fun _ h=>h) hk (Shp.refl w) (Sg.le_refl _)⟩
theorem RCs.append {I:Nat→Prop} {w:World} {s:Sg} {xs ys:List Value} {cs ds:List C} (hx:RCs I w s xs.toArray cs) (hy:RCs I w s ys.toArray ds):RCs I w s (xs++ys).toArray (cs++ds):=by
  have e1:xs.length=cs.length:=by simpa using hx.1
  have e2:ys.length=ds.length:=by simpa using hy.1
  refine ⟨by simp [e1,e2],fun j h h'=>?_⟩
  by_cases hj:j<xs.length
  · have:=hx.2 j (by simpa using hj) (by omega)
    simpa [List.getElem_append,hj,show j<cs.length from by omega] using this
  · have:=hy.2 (j - xs.length) (by simp at h ⊢;omega) (by simp at h';omega)
    simp only [List.getElem_toArray] at this
    simp only [List.getElem_toArray,List.getElem_append,hj,dite_false,show ¬ j<cs.length from by omega]
    simpa [e1] using this
theorem grow_sound {m : Nat} {I : Nat → Prop} {w : World} {s : Sg} {hp : Hp} (H : SimH I w s hp) (ko : Option Nat) (hko : ∀ k, ko = some k → hp k ≠ none) (kn : Nat) (hn : hp kn = none) (hm : m ≤ kn) (el : TypeId)
    (vals:List Value) (cs:List C) (hr:RCs I w s vals.toArray cs) (rest:Array Value) (sz n cap:Nat) (hnc:n≤cap∧n≤mx) (hsz:cap * sz≤vals.length+rest.size) :
    let w':=w.drew.alloc (.cells (vals.toArray++rest) el)
    ∃ s',s.le s'∧SimH I w' s' (upd (spend hp ko) kn (some (some cs)))∧Ext m I w s hp I w' s' (upd (spend hp ko) kn (some (some cs))) ∧
      RD I w' s' (.slice (some ⟨w.heap.size,0,none⟩) n cap) (.c (.msl kn sz 0 n)):=by
  intro w'
  obtain ⟨H1,E1⟩:=H.draw (m:=m)
  have hsp:SimH I w.drew s (spend hp ko)∧Ext m I w.drew s hp I w.drew s (spend hp ko):=by
    cases ko with
    | none=>exact ⟨H1,Ext.refl _ _ _ _ _⟩
    | some k=>exact sim_spend H1 k (hko k rfl)
  have hn2:spend hp ko kn=none:=by
    cases ko with
    | none=>exact hn
    | some k =>
      have:kn ≠ k:=fun e=>hko k rfl (e ▸ hn)
      simp [spend,upd_ne _ _ this,hn]
  have hle0:s.le s:=Sg.le_refl s
  have hr':∀ j (h:j<cs.length),∃ y,(vals.toArray++rest)[j]? = some y∧RC I w.drew s y cs[j]:=fun j hj=>by
    have hl:vals.length=cs.length:=by simpa using hr.1
    have hj':j<vals.toArray.size:=by simp;omega
    refine ⟨vals.toArray[j],?_,(E1.rc H hle0) (hr.2 j hj' hj)⟩
    rw [Array.getElem?_append_left hj']
    simp [hj']
  have hlc:cs.length≤(vals.toArray++rest).size:=by
    have:vals.length=cs.length:=by simpa using hr.1
    simp;omega
  obtain ⟨hle,H3,E3⟩:=sim_alloc (m:=m) hsp.1 kn hn2 hm (vals.toArray++rest) el cs hlc hr'
  refine ⟨_,hle,H3,E1.trans (hsp.2.trans E3),.c _ _ (.msl _ kn w.heap.size sz 0 n cap (vals.toArray++rest) el (0,0) (by simp [upd_same]) hnc ?_ ?_)⟩
  · exact heap_push_eq w.drew _
  · simp;omega
theorem append_sound {m : Nat} {I : Nat → Prop} {w : World} {s : Sg} {hp : Hp} (H : SimH I w s hp) {x y : Value} {dx dy : D} (hx : RD I w s x dx) (hy : RD I w s y dy)
    {t ty el:TypeId} {sz:Nat} {zs:List Value} {bytes:Nat} (ht:tslice P t=some el) (hsz:tsz P el=some sz) (hz:tzero P el=some zs) (hzl:zs.length=sz) (hby:tbytes P el=some bytes)
    {ko:Option Nat} {len:Nat} {cs:List C} (htg:target hp dx=some (ko,len,cs)) (hcs:cs.length=len * sz) (hks:∀ k,ko=some k→dx = .c (.msl k sz 0 len))
    {n sz':Nat} {ys:List C} (hld:lends hp dy=some (n,sz',ys)) (hys:ys.length=n * sz) (hszn:n=0∨sz'=sz)
    (kn:Nat) (hn:hp kn=none) (hm:m≤kn) (hmx:len+n≤mx) (h47:(len+n) * bytes≤140737488355328) :
    ∃ v w' s',(Builtin.append_ #[t,t] ty #[x,y]).run P w = .ok v w'∧s.le s'∧SimH I w' s' (upd (spend hp ko) kn (some (some (cs++ys)))) ∧
      Ext m I w s hp I w' s' (upd (spend hp ko) kn (some (some (cs++ys))))∧RD I w' s' v (.c (.msl kn sz 0 (len+n))):=by
  have h63:len+n≤9223372036854775807:=Nat.le_trans hmx (by decide)
  simp only [tsz,Option.map_eq_some_iff] at hsz
  obtain ⟨i,hi,hisz⟩:=hsz
  have hib:i.bytes=bytes:=by
    simp only [tbytes,hi,Option.map_some,Option.some.injEq] at hby
    exact hby
  obtain ⟨z,hiz,hzc⟩:∃ z,i.zero=some z∧z.cells.toList=zs:=by
    simp only [tzero,hi,Option.bind_some,Option.map_eq_some_iff] at hz
    exact hz
  have hzsz:z.cells.size=sz:=by rw [← Array.length_toList,hzc,hzl]
  have hu:=und_slice ht
  obtain ⟨ya,yc,rfl,hync,hyr⟩:=lends_sound H hy hld
  -- what is appended, as values
  obtain ⟨news,hnl,hnr,hnf⟩:∃ news:List Value,news.length=n * sz∧RCs I w s news.toArray ys∧∀ w':World,w'.heap=w.heap→(Builtin.firstCells i.size n (.slice ya n yc)).run P w' = .ok news.toArray w':=by
    rcases hyr with ⟨rfl,rfl⟩ | ⟨b,off,yv,rfl,h⟩
    · refine ⟨[],by simp,⟨rfl,fun j h=>by simp at h⟩,fun w' _=>firstCells_zero _ _ _ _⟩
    · rcases Nat.eq_zero_or_pos n with h0 | hpos
      · subst h0
        have:ys=[]:=List.eq_nil_of_length_eq_zero (by simpa using hys)
        subst this
        exact ⟨[],by simp,⟨rfl,fun j h=>by simp at h⟩,fun w' _=>firstCells_zero _ _ _ _⟩
      · have hszz:sz'=sz:=hszn.resolve_left (by omega)
        subst hszz
        obtain ⟨h1,h2,h3⟩:=h hys
        refine ⟨yv,h1,h3,fun w' hw'=>?_⟩
        have:=firstCells_row (P:=P) w' i.size n yc b off yv (by rw [hisz];exact h1) (fun j v hv=>by
          have:=h2 j v hv
          simpa [World.cell?,hw'] using this)
        exact this
  have hnone:∀ v ∈ news,one v=true:=fun v hv=>by
    obtain ⟨j,hj,e⟩:=List.mem_iff_getElem.1 hv
    have:=hnr.2 j (by simpa using hj) (by have:=hnr.1;simp at this;omega)
    rw [← e]
    exact this.one
  have hrest:∀ cap,len+n≤cap→cap * sz≤len * sz+n * sz+(Builtin.zeroCells z.cells (cap - (len+n))).size:=fun cap hc=>by
    have:(Builtin.zeroCells z.cells (cap - (len+n))).size=(cap - (len+n)) * sz:=by simp [Builtin.zeroCells,hzsz]
    rw [this,← Nat.add_mul,← Nat.add_mul]
    exact Nat.mul_le_mul_right _ (by omega)
  unfold target at htg
  split at htg
  · rename_i k szk len'
    split at htg
    · rename_i cs' hk
      simp only [Option.some.injEq,Prod.mk.injEq] at htg
      obtain ⟨rfl,rfl,rfl⟩:=htg
      have hszk:szk=sz:=by
        have:=hks k rfl
        simp only [D.c.injEq,C.msl.injEq] at this
        exact this.2.1
      subst hszk
      have hko:∀ k',some k=some k'→hp k' ≠ none:=fun k' e=>by
        cases e
        rw [hk];simp
      rcases rd_msl hx with ⟨a,rfl,hsk,_,rfl⟩ | ⟨b,cap,arr,T,fr,rfl,hsk,hlc,hb,hcp⟩
      · -- nothing there yet
        have hcs0:cs'=[]:=List.eq_nil_of_length_eq_zero (by simpa using hcs)
        subst hcs0
        rcases Nat.eq_zero_or_pos n with h0 | hpos
        · subst h0
          have hys0:ys=[]:=List.eq_nil_of_length_eq_zero (by simpa using hys)
          subst hys0
          obtain ⟨hle,H',E'⟩:=sim_rekey (m:=m) H k kn [] hk hn hm
          refine ⟨.slice a 0 0,w,_,?_,hle,by simpa [spend] using H',by simpa [spend] using E',.c _ _ (by simpa using RC.msl0 _ a kn szk (by simp [upd_same,hsk]))⟩
          have h0:=firstCells_zero (P:=P) i.size ya yc w
          cases a with
          | none=>simpa using append_room_none (P:=P) (ty:=ty) hu hi w 0 0 0 yc ya [] h0 (Nat.le_refl _)
          | some a=>simp [Builtin.append_,Go.run_underlying hu,sizeOf,typeInfo,hi,Builtin.lenOf,h0,storeCells]
        · have hg := append_grow (P := P) (ty := ty) hu hi hiz w a 0 0 [] (firstCells_zero _ _ _ _) ya n yc news (hnf _ rfl) (by omega) (by omega)
            (growslice_fits (by omega) (by rw [hib];simpa using h47))
          have e0:([]:List Value).toArray++news.toArray=news.toArray:=by simp
          rw [e0] at hg
          have hge:=grownCap_ge' w (0+n) 0 el
          obtain ⟨s', hle, H', E', R'⟩ := grow_sound (m := m) H (some k) hko kn hn hm el news ys hnr (Builtin.zeroCells z.cells (grownCap w (0 + n) 0 el - (0 + n))) szk (0 + n) (grownCap w (0 + n) 0 el) ⟨hge, hmx⟩
            (by have:=hrest _ hge;simp only [Nat.zero_mul,Nat.zero_add] at this;simp only [Nat.zero_add];rw [hnl];exact this)
          refine ⟨_,_,s',hg,hle,?_,?_,R'⟩
          · simpa using H'
          · simpa using E'
      · obtain ⟨arr',T',hb',hl',hr⟩:=live_cells H hk hsk
        rw [hb] at hb'
        simp only [Option.some.injEq,Obj.cells.injEq] at hb'
        obtain ⟨rfl,rfl,rfl⟩:=hb'
        simp only [Nat.zero_add] at hcp
        by_cases hroom:len' + n≤cap
        · -- within the capacity
          have hfit:len' * szk+n * szk≤arr.size:=by
            rw [← Nat.add_mul]
            exact Nat.le_trans (Nat.mul_le_mul_right _ hroom) hcp
          have hrun:=append_room (P:=P) (ty:=ty) hu hi w b len' cap n yc T arr ya news hb (hnf w rfl) hnone hroom (by rw [hisz,hnl];exact hfit)
          rw [hisz] at hrun
          have hyl:ys.length=n * szk:=hys
          obtain ⟨H1, E1⟩ := sim_store (m := m) H k cs' (cs' ++ ys) hk b arr (setCells arr (len' * szk) news) T hsk hb (size_setCells _ _ _) (by rw [size_setCells, List.length_append, hcs, hyl]; exact hfit)
            (fun j hj=>by
              rw [get_setCells news arr (len' * szk) j (by rw [hnl];exact hfit),hnl]
              by_cases hlt:j<cs'.length
              · rw [if_neg (by omega)]
                obtain ⟨y,hy1,hy2⟩:=hr j hlt
                exact ⟨y,hy1,by rw [List.getElem_append_left hlt];exact hy2⟩
              · have hj2:j<len' * szk+n * szk:=by rw [List.length_append,hcs,hyl] at hj;exact hj
                rw [if_pos (by omega)]
                have hj3:j - len' * szk<news.length:=by omega
                refine ⟨news[j - len' * szk],by simp [hj3],?_⟩
                rw [List.getElem_append_right (by omega)]
                have:=hnr.2 (j - len' * szk) (by simpa using hj3) (by omega)
                simpa [hcs] using this) rfl
          have hk1:upd hp k (some (some (cs'++ys))) k=some (some (cs'++ys)):=upd_same _ _ _
          have hkn:kn ≠ k:=fun e=>by rw [e,hk] at hn;cases hn
          obtain ⟨hle,H2,E2⟩:=sim_rekey (m:=m) H1 k kn _ hk1 (by rw [upd_ne _ _ hkn];exact hn) hm
          have hupd:upd (upd (upd hp k (some (some (cs'++ys)))) k (some none)) kn (some (some (cs'++ys)))=upd (spend hp (some k)) kn (some (some (cs'++ys))):=by
            funext j
            simp only [spend,upd]
            by_cases e1:j=kn
            · simp [e1]
            · by_cases e2:j=k
              · simp [e2]
              · simp [e1,e2]
          rw [hupd] at H2 E2
          refine ⟨_,_,_,hrun,hle,H2,E1.trans E2,.c _ _ (.msl _ kn b szk 0 (len' + n) cap (setCells arr (len' * szk) news) T (0,0) (by rw [upd_same];exact hsk) ⟨hroom,hmx⟩ ?_ ?_)⟩
          · simp [lt_of_heap hb]
          · rw [size_setCells];simpa using hcp
        · -- a new block
          have holds:(Builtin.firstCells i.size len' (.slice (some ⟨b,0,none⟩) len' cap)).run P { w with drawn:=w.drawn+1 } = .ok (arr.toList.take (len' * szk)).toArray { w with drawn:=w.drawn+1 }:=by
            refine firstCells_row (P:=P) _ i.size len' cap b 0 _ (by rw [hisz];simp;omega) (fun j v hv=>?_)
            have hj:j<len' * szk:=by
              have:=(List.getElem?_eq_some_iff.1 hv).1
              simp at this
              omega
            rw [List.getElem?_take_of_lt hj] at hv
            simpa [World.cell?,hb] using hv
          have hg:=append_grow (P:=P) (ty:=ty) hu hi hiz w (some ⟨b,0,none⟩) len' cap _ holds ya n yc news (hnf _ rfl) (by omega) (by omega) (growslice_fits (by omega) (by rw [hib];exact h47))
          have hge:=grownCap_ge' w (len' + n) cap el
          have hold:RCs I w s (arr.toList.take (len' * szk)).toArray cs':=by
            refine ⟨by simp;omega,fun j h1 h2=>?_⟩
            obtain ⟨y,hy1,hy2⟩:=hr j h2
            obtain ⟨hlt,e⟩:=Array.getElem?_eq_some_iff.1 hy1
            simpa [e] using hy2
          have hol:(arr.toList.take (len' * szk)).length=len' * szk:=by simp;omega
          have e1:∀ (x y:List Value) (r:Array Value),x.toArray++y.toArray++r=(x++y).toArray++r:=fun x y r=>by simp
          rw [e1] at hg
          obtain ⟨s', hle, H', E', R'⟩ := grow_sound (m := m) H (some k) hko kn hn hm el (arr.toList.take (len' * szk) ++ news) (cs' ++ ys) (hold.append hnr)
            (Builtin.zeroCells z.cells (grownCap w (len' + n) cap el - (len' + n))) szk (len' + n) (grownCap w (len' + n) cap el) ⟨hge,hmx⟩ (by rw [List.length_append,hol,hnl];exact hrest _ hge)
          exact ⟨_,_,s',hg,hle,H',E',R'⟩
    · cases htg
  · simp only [Option.some.injEq,Prod.mk.injEq] at htg
    obtain ⟨rfl,rfl,rfl⟩:=htg
    obtain ⟨rfl,_⟩:=rd_scalar hx
    rcases Nat.eq_zero_or_pos n with h0 | hpos
    · subst h0
      have hys0:ys=[]:=List.eq_nil_of_length_eq_zero (by simpa using hys)
      subst hys0
      obtain ⟨hle,H',E'⟩:=sim_zero (m:=m) H kn hn hm
      refine ⟨.slice none 0 0,w,_,?_,hle,by simpa [spend] using H',by simpa [spend] using E',.c _ _ (by simpa using RC.msl0 _ none kn sz (by simp [upd_same]))⟩
      simpa using append_room_none (P:=P) (ty:=ty) hu hi w 0 0 0 yc ya [] (firstCells_zero _ _ _ _) (Nat.le_refl _)
    · have hg := append_grow (P := P) (ty := ty) hu hi hiz w none 0 0 [] (firstCells_zero _ _ _ _) ya n yc news (hnf _ rfl) (by omega) (by omega)
        (growslice_fits (by omega) (by rw [hib];simpa using h47))
      have e0:([]:List Value).toArray++news.toArray=news.toArray:=by simp
      rw [e0] at hg
      have hge:=grownCap_ge' w (0+n) 0 el
      obtain ⟨s', hle, H', E', R'⟩ := grow_sound (m := m) H none (fun k e => by cases e) kn hn hm el news ys hnr (Builtin.zeroCells z.cells (grownCap w (0 + n) 0 el - (0 + n))) sz (0 + n) (grownCap w (0 + n) 0 el) ⟨hge, hmx⟩
        (by have:=hrest _ hge;simp only [Nat.zero_mul,Nat.zero_add] at this;simp only [Nat.zero_add];rw [hnl];exact this)
      refine ⟨_,_,s',hg,hle,?_,?_,R'⟩
      · simpa using H'
      · simpa using E'
  · simp only [Option.some.injEq,Prod.mk.injEq] at htg
    obtain ⟨rfl,rfl,rfl⟩:=htg
    obtain ⟨a,rfl⟩:=rd_z hx
    rcases Nat.eq_zero_or_pos n with h0 | hpos
    · subst h0
      have hys0:ys=[]:=List.eq_nil_of_length_eq_zero (by simpa using hys)
      subst hys0
      obtain ⟨hle,H',E'⟩:=sim_zero (m:=m) H kn hn hm
      refine ⟨.slice a 0 0,w,_,?_,hle,by simpa [spend] using H',by simpa [spend] using E',.c _ _ (by simpa using RC.msl0 _ a kn sz (by simp [upd_same]))⟩
      have h0:=firstCells_zero (P:=P) i.size ya yc w
      cases a with
      | none=>simpa using append_room_none (P:=P) (ty:=ty) hu hi w 0 0 0 yc ya [] h0 (Nat.le_refl _)
      | some a=>simp [Builtin.append_,Go.run_underlying hu,sizeOf,typeInfo,hi,Builtin.lenOf,h0,storeCells]
    · have hg := append_grow (P := P) (ty := ty) hu hi hiz w a 0 0 [] (firstCells_zero _ _ _ _) ya n yc news (hnf _ rfl) (by omega) (by omega)
        (growslice_fits (by omega) (by rw [hib];simpa using h47))
      have e0:([]:List Value).toArray++news.toArray=news.toArray:=by simp
      rw [e0] at hg
      have hge:=grownCap_ge' w (0+n) 0 el
      obtain ⟨s', hle, H', E', R'⟩ := grow_sound (m := m) H none (fun k e => by cases e) kn hn hm el news ys hnr (Builtin.zeroCells z.cells (grownCap w (0 + n) 0 el - (0 + n))) sz (0 + n) (grownCap w (0 + n) 0 el) ⟨hge, hmx⟩
        (by have:=hrest _ hge;simp only [Nat.zero_mul,Nat.zero_add] at this;simp only [Nat.zero_add];rw [hnl];exact this)
      refine ⟨_,_,s',hg,hle,?_,?_,R'⟩
      · simpa using H'
      · simpa using E'
  · cases htg
end
def cst : Value → Option D
  | .agg cs=>if cs.toList.all one then some (.agg (cs.toList.map .v)) else none
  | .tuple _=>none
  | .int k n=>some (.c (.v (.int k n)))
  | .bool b=>some (.c (.v (.bool b)))
  | .string s=>some (.c (.v (.string s)))
  | .slice a l c=>some (.c (.v (.slice a l c)))
  | .nilIface=>some (.c (.v .nilIface))
  | .nilFunc=>some (.c (.v .nilFunc))
  | .pointer p=>some (.c (.v (.pointer p)))
  | .map m=>some (.c (.v (.map m)))
  | _=>none
abbrev Lg:=Nat→Option (List Nat × List Nat)
structure Rs where
  tm:Nat→Option D
  hp:Hp
  lg:Lg
def evT (tm : Nat → Option D) : Operand → Option D
  | .tmp t=>tm t
  | .const v=>cst v
  | .func f=>some (.c (.clo f []))
  | .global _=>none
def peelB : D → Bool
  | .when b _=>b
  | _=>true
def peelD : D → D
  | .when _ d=>d
  | d=>d
def evP (tm:Nat→Option D) (x:Operand):Option D:=(evT tm x).map peelD
def okP (tm : Nat → Option D) : List Operand → Prop
  | []=>True
  | x :: r=>(match evT tm x with | some d=>peelB d=true | none=>True)∧okP tm r
structure Out where
  vc:Prop
  d:Option D
  rd:List Nat
  up:List (Nat × Option (List C))
def rdKeys (e : Operand → Option D) : Op → List Nat
  | .load _ x=>(match e x with | some (.c (.ptr k _))=>[k] | _=>[])
  | _=>[]
def partsS (P : Program) (sz : Nat) (e : Operand → Option D) : Nat → List (Nat × Operand) → Option (List C)
  | _,[]=>some []
  | i,(j,x) :: r =>
    if i=j then (match e x with
      | some d=>(match d.cells with
        | some ds=>if ds.length=sz then (match partsS P sz e (i+1) r with | some cs=>some (ds++cs) | none=>none) else none
        | none=>none)
      | none=>none)
    else none
def mslKey : D → List Nat
  | .c (.msl k _ _ _)=>[k]
  | _=>[]
def spendUp : Option Nat → List (Nat × Option (List C))
  | some k=>[(k,none)]
  | none=>[]
def stp (P:Program) (m key:Nat) (tm:Nat→Option D) (hp:Hp) (o:Op):Option Out :=
  match o with
  | .pick c a b=>(match evP tm c,evT tm a,evT tm b with
    | some (.c (.v (.bool x))),some da,some db=>(match peelD da,peelD db with
      | .c (.v (.bool p)),.c (.v (.bool q))=>some ⟨okP tm [c]∧(x=true→peelB da=true)∧(x=false→peelB db=true),some (DB (bif x then p else q)),[],[]⟩
      | _,_=>none)
    | _,_,_=>none)
  | .alloc T=>(match tzero P T with
    | some zs=>if zs.all one then some ⟨hp key=none∧m≤key,some (.c (.ptr key 0)),[],[(key,some (zs.map .v))]⟩ else none
    | none=>none)
  | .box T x=>(match evP tm x with
    | some d=>(match d.cells with
      | some cs=>some ⟨okP tm [x]∧hp key=none∧m≤key,some (.c (.ptr key 0)),[],[(key,some cs)]⟩
      | none=>none)
    | none=>none)
  | .buildSlice t n ps=>(match (tslice P t).bind (tsz P),(tslice P t).bind (tzero P) with
    | some sz,some zs=>(match partsS P sz (evP tm) 0 ps.toList with
      | some cs=>some ⟨okP tm (ps.toList.map (·.2))∧(ps.size=n∧cs.length=n * sz∧n * sz≤16777216∧zs.length=sz∧n≤mx)∧hp key=none∧m≤key,some (.c (.msl key sz 0 n)),[],[(key,some cs)]⟩
      | none=>none)
    | _,_=>none)
  | .store t a x=>(match evP tm a,evP tm x,tsz P t with
    | some (.c (.ptr k off)),some d,some n=>(match hp k,d.cells with
      | some (some cs),some ds=>some ⟨okP tm [a,x]∧ds.length=n∧off+n≤cs.length,none,[k],[(k,some (putCells cs off ds))]⟩
      | _,_=>none)
    | _,_,_=>none)
  | .makeSlice t l c=>(match evP tm l,evP tm c,(tslice P t).bind (tsz P),(tslice P t).bind (tzero P),(tslice P t).bind (tbytes P) with
    | some (.c (.v (.int _ n))),some (.c (.v (.int _ n'))),some sz,some zs,some by' =>
      if zs.all one then some ⟨okP tm [l,c]∧(0≤n∧n'=n∧n≤(mx:Int)∧by' * n≤281474976710656∧zs.length=sz)∧hp key=none∧m≤key,
        some (.c (.msl key sz 0 n.toNat)),[],[(key,some (List.replicate n.toNat (zs.map C.v)).flatten)]⟩ else none
    | _,_,_,_,_=>none)
  | .call c=>(match c.callee with
    | .builtin .append=>(match c.args.toList,c.argTypes.toList with
      | [x,y],[t,t']=>(match evP tm x,evP tm y,(tslice P t).bind (tsz P),(tslice P t).bind (tzero P),(tslice P t).bind (tbytes P) with
        | some dx,some dy,some sz,some zs,some by'=>(match target hp dx,lends hp dy with
          | some (ko,len,cs),some (n,sz',ys)=>some ⟨okP tm [x,y]∧(t'=t∧zs.length=sz∧(∀ k,ko=some k→dx = .c (.msl k sz 0 len))∧(n=0∨sz'=sz))∧cs.length=len * sz∧ys.length=n * sz ∧
              (len+n≤mx∧(len+n) * by'≤140737488355328)∧hp key=none∧m≤key,
              some (.c (.msl key sz 0 (len+n))),mslKey dx++mslKey dy,
              spendUp ko++[(key,some (cs++ys))]⟩
          | _,_=>none)
        | _,_,_,_,_=>none)
      | _,_=>none)
    | .builtin .clear=>(match c.args.toList,c.argTypes.toList with
      | [x],[t]=>(match evP tm x,(tslice P t).bind (tsz P),(tslice P t).bind (tzero P) with
        | some (.c (.msl k sz off len)),some sz',some zs=>(match hp k with
          | some (some cs)=>if zs.all one then some ⟨okP tm [x]∧(sz'=sz∧zs.length=sz)∧off+len * sz≤cs.length,some (.tup []),[k],
              [(k,some (putCells cs off (List.replicate len (zs.map C.v)).flatten))]⟩ else none
          | _=>none)
        | _,_,_=>none)
      | _,_=>none)
    | _=>(match pop P (evP tm) hp o with
      | some (vc,d)=>some ⟨okP tm o.operands.toList∧vc,some d,[],[]⟩
      | none=>none))
  | _=>(match pop P (evP tm) hp o with
    | some (vc,d)=>some ⟨okP tm o.operands.toList∧vc,some d,rdKeys (evP tm) o,[]⟩
    | none=>none)
def appUp (hp : Hp) : List (Nat × Option (List C)) → Hp
  | []=>hp
  | (k,x) :: r=>appUp (upd hp k (some x)) r
def setT (tm:Nat→Option D) (dst:Option Tmp) (d:Option D):Nat→Option D :=
  match dst with
  | some n=>upd tm n d
  | none=>tm
def fitsT (nt:Nat) (dst:Option Tmp):Bool:=match dst with | some n=>decide (n<nt) | none=>true
section
variable {P:Program}
theorem evT_sound {I:Nat→Prop} {w:World} {s:Sg} {a:Act} {tm:Nat→Option D} (hA:∀ n d,tm n=some d→RD I w s (a.tmps.getD n undef) d) {x:Operand} {d:D} (h:evT tm x=some d):RD I w s (a.eval x) d:=by
  cases x with
  | tmp t=>exact hA t d h
  | const v =>
    simp only [evT] at h
    cases v <;> simp only [cst, Option.some.injEq, reduceCtorEq] at h <;> first
      | (subst h;exact .c _ _ (.v _ _ rfl))
      | (split at h
         · rename_i cs hall
           simp only [Option.some.injEq] at h
           subst h
           refine .agg _ _ (by simp) fun j h1 h2=>?_
           simp only [List.getElem_map,Array.getElem_toList]
           exact .v _ _ (List.all_eq_true.1 hall _ (by simp))
         · cases h)
  | func f =>
    simp only [evT,Option.some.injEq] at h
    subst h
    exact .c _ _ (.clo _ f [] #[] rfl fun j h1 h2=>by simp at h1)
  | global g=>simp [evT] at h
theorem okP_mem {tm : Nat → Option D} : ∀ {l : List Operand} {x : Operand} {d : D}, okP tm l → x ∈ l → evT tm x = some d → peelB d = true
  | y :: r,x,d,h,hx,hd=>by
    rcases List.mem_cons.1 hx with rfl | hx
    · have:=h.1
      rw [hd] at this
      exact this
    · exact okP_mem h.2 hx hd
theorem peel_sound {I:Nat→Prop} {w:World} {s:Sg} {x:Value} {d:D} (h:RD I w s x d) (hb:peelB d=true):RD I w s x (peelD d):=by
  cases h with
  | when _ b d h h0=>exact h hb
  | c _ _ h=>exact .c _ _ h
  | agg _ _ hl hr=>exact .agg _ _ hl hr
  | tup _ _ hl hr=>exact .tup _ _ hl hr
theorem evP_sound {I : Nat → Prop} {w : World} {s : Sg} {a : Act} {tm : Nat → Option D} (hA : ∀ n d, tm n = some d → RD I w s (a.tmps.getD n undef) d) {x : Operand} {d : D} (h : evP tm x = some d) {l : List Operand} (ho : okP tm l) (hx : x ∈ l) :
    RD I w s (a.eval x) d:=by
  simp only [evP,Option.map_eq_some_iff] at h
  obtain ⟨d',hd',rfl⟩:=h
  exact peel_sound (evT_sound hA hd') (okP_mem ho hx hd')
theorem bld_congr {e e' : Operand → Option D} {t : TypeId} : ∀ (ps : List (Nat × Operand)) (cs : List C), (∀ x ∈ ps.map (·.2), e x = e' x) → bld P t e ps cs = bld P t e' ps cs
  | [],_,_=>rfl
  | (f,x) :: r,cs,h=>by
    have hx:e x=e' x:=h x (by simp)
    have ih:∀ cs,bld P t e r cs=bld P t e' r cs:=fun cs=>bld_congr r cs (fun y hy=>h y (by simp only [List.map_cons,List.mem_cons];exact .inr hy))
    unfold bld
    rw [hx]
    simp only [ih]
theorem cellsOf_congr {e e' : Operand → Option D} : ∀ (l : List Operand), (∀ x ∈ l, e x = e' x) → cellsOf e l = cellsOf e' l
  | [],_=>rfl
  | x :: r,h=>by simp only [cellsOf];rw [h x (by simp),cellsOf_congr r fun y hy=>h y (by simp [hy])]
theorem bnd_congr {e e':Operand→Option D} {x:Option Operand} {d:Int} (h:∀ y,x=some y→e y=e' y):bnd e x d=bnd e' x d:=by
  cases x with
  | none=>rfl
  | some y=>simp only [bnd];rw [h y rfl]
theorem pop_congr {e e':Operand→Option D} {hp:Hp} {o:Op} (h:∀ x ∈ o.operands.toList,e x=e' x):pop P e hp o=pop P e' hp o:=by
  cases o with
  | build t ps =>
    simp only [Op.operands] at h
    simp only [pop,bld_congr (P:=P) (t:=t) ps.toList _ h]
  | makeFunc fn first caps =>
    simp only [Op.operands,Array.toList_append,List.mem_append] at h
    cases fn<;>simp only [pop,cellsOf_congr caps.toList fun x hx=>h x (.inr hx)]
    cases hf:first.toList with
    | nil=>rfl
    | cons x r=>cases r with
      | nil=>simp only [h x (.inl (by rw [hf];simp))]
      | cons y r=>rfl
  | slice t x lo hi mx =>
    simp only [Op.operands,Array.toList_append,List.mem_append] at h
    have hx:=h x (by simp)
    cases mx with
    | none =>
      have hl:=fun d=>bnd_congr (e:=e) (e':=e') (x:=lo) (d:=d) fun y hy=>h y (by subst hy;simp)
      have hh:=fun d=>bnd_congr (e:=e) (e':=e') (x:=hi) (d:=d) fun y hy=>h y (by subst hy;simp)
      simp only [pop,hx,hl,hh]
    | some mx =>
      cases lo with
      | some lo=>simp only [pop]
      | none =>
        cases hi with
        | none=>simp only [pop]
        | some hi=>simp only [pop,hx,h hi (by simp),h mx (by simp)]
  | call c =>
    obtain ⟨callee,args,argTypes⟩:=c
    simp only [Op.operands,Call.operands,Array.toList_append,List.mem_append] at h
    simp only [pop]
    cases callee with
    | builtin b =>
      cases b <;> first
        | rfl
        | (cases ha:args.toList with
           | nil=>rfl
           | cons x r=>cases r with
             | nil =>
               have hx:=h x (by rw [ha];simp)
               cases argTypes.toList with
               | nil=>rfl
               | cons t r=>cases r with
                 | nil=>simp only [hx]
                 | cons t' r=>rfl
             | cons y r=>rfl)
        | (cases ha:args.toList with
           | nil=>rfl
           | cons x r=>cases r with
             | nil=>rfl
             | cons y r=>cases r with
               | nil =>
                 have hx:=h x (by rw [ha];simp)
                 have hy:=h y (by rw [ha];simp)
                 simp only [hx,hy]
               | cons z r=>rfl)
    | _=>rfl
  | _=>simp only [Op.operands] at h<;>simp only [pop]<;>first | rfl | simp [h]
theorem pop_sound' {I : Nat → Prop} {w : World} {s : Sg} {hp : Hp} (H : SimH I w s hp) {a : Act} {tm : Nat → Option D} (hA : ∀ n d, tm n = some d → RD I w s (a.tmps.getD n undef) d) {o : Oper}
    {vc:Prop} {d:D} (h:pop P (evP tm) hp o.op=some (vc,d)) (hok:okP tm o.op.operands.toList) (hvc:vc):∃ v,(execOp a.eval o).run P w = .ok (.value v) w∧RD I w s v d:=by
  let e':Operand→Option D:=fun x=>match evT tm x with | some d=>if peelB d=true then some (peelD d) else none | none=>none
  have hc:pop P (evP tm) hp o.op=pop P e' hp o.op:=pop_congr fun x hx=>by
    simp only [evP,e']
    cases hd:evT tm x with
    | none=>rfl
    | some d=>simp [okP_mem hok hx hd]
  rw [hc] at h
  refine pop_sound (P:=P) H (e:=e') (fun x d hd=>?_) h hvc
  simp only [e'] at hd
  split at hd
  · rename_i d' hd'
    split at hd
    · rename_i hb
      simp only [Option.some.injEq] at hd
      subst hd
      exact peel_sound (evT_sound hA hd') hb
    · cases hd
  · cases hd
theorem partsS_congr {sz : Nat} {e e' : Operand → Option D} : ∀ (ps : List (Nat × Operand)) (i : Nat), (∀ x ∈ ps.map (·.2), e x = e' x) → partsS P sz e i ps = partsS P sz e' i ps
  | [],_,_=>rfl
  | (f,x) :: r,i,h=>by
    have hx:e x=e' x:=h x (by simp)
    have ih:∀ i,partsS P sz e i r=partsS P sz e' i r:=fun i=>partsS_congr r i (fun y hy=>h y (by simp only [List.map_cons,List.mem_cons];exact .inr hy))
    simp only [partsS,hx,ih]
theorem setCells_append (xs ys:List Value):∀ (arr:Array Value) (off:Nat),setCells arr off (xs++ys)=setCells (setCells arr off xs) (off+xs.length) ys:=by
  induction xs with
  | nil=>intro arr off;simp [setCells]
  | cons x r ih=>intro arr off;simp only [List.cons_append,setCells,ih,List.length_cons];congr 1;omega
theorem partsS_sound {I : Nat → Prop} {w : World} {s : Sg} {sz : Nat} {e : Operand → Option D} {ρ : Operand → Value} :
    ∀ (ps:List (Nat × Operand)) (i:Nat) (cs:List C) (arr:Array Value),(∀ x ∈ ps.map (·.2),∀ d,e x=some d→RD I w s (ρ x) d)→partsS P sz e i ps=some cs→i * sz+cs.length≤arr.size →
      ∃ vals:List Value,RCs I w s vals.toArray cs∧Instr.fill (fun i=>some (i * sz,sz)) arr (ps.map fun p=>(p.1,ρ p.2))=some (setCells arr (i * sz) vals)
  | [],i,cs,arr,he,h,hl=>by
    simp only [partsS,Option.some.injEq] at h
    subst h
    exact ⟨[],⟨rfl,fun j h=>by simp at h⟩,rfl⟩
  | (j,x) :: r,i,cs,arr,he,h,hl=>by
    unfold partsS at h
    split at h
    · rename_i hij
      subst hij
      split at h
      · rename_i d hd
        split at h
        · rename_i ds hds
          split at h
          · rename_i hlen
            split at h
            · rename_i cs' hcs
              simp only [Option.some.injEq] at h
              subst h
              have hx:=(he x (by simp) d hd).cells hds
              have hxr:RCs I w s (ρ x).cells ds:=hx
              simp only [List.length_append] at hl
              have hsz:(setCells arr (i * sz) (ρ x).cells.toList).size=arr.size:=size_setCells _ _ _
              obtain ⟨vals,hv,hf⟩:=partsS_sound r (i+1) cs' (setCells arr (i * sz) (ρ x).cells.toList) (fun y hy=>he y (by simp only [List.map_cons,List.mem_cons];exact .inr hy)) hcs (by rw [hsz,Nat.add_mul];omega)
              refine ⟨(ρ x).cells.toList++vals,RCs.append (by simpa using hxr) hv,?_⟩
              simp only [List.map_cons]
              rw [fill_cons _ arr i (ρ x) _ (i * sz) sz rfl (by rw [hx.1,hlen]) (by rw [hx.1];omega),hf,setCells_append]
              have:(ρ x).cells.toList.length=sz:=by rw [Array.length_toList,hx.1,hlen]
              rw [this,Nat.add_mul,Nat.one_mul]
            · cases h
          · cases h
        · cases h
      · cases h
    · cases h
theorem setCells_all (vals:List Value) (arr:Array Value) (h:arr.size=vals.length):setCells arr 0 vals=vals.toArray:=by
  apply Array.ext_getElem?
  intro j
  rw [get_setCells vals arr 0 j (by omega)]
  by_cases hj:j<vals.length
  · rw [if_pos (by omega)]
    simp
  · rw [if_neg (by omega)]
    rw [Array.getElem?_eq_none (by omega),Array.getElem?_eq_none (by simpa using hj)]
end
end Go.CT
