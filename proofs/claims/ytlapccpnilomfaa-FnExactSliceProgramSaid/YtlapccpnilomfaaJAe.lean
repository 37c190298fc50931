/- A step that is no call does what 'stp' says. -/
import Derived.Test.YtlapccpnilomfaaJAd
set_option linter.unusedVariables false
set_option linter.unusedSimpArgs false
set_option linter.unusedSectionVars false
set_option maxHeartbeats 16000000
set_option maxRecDepth 100000
namespace Go.CT
variable [Yn]
section
variable {P:Program}
theorem run_u {s:Sem Unit} {w w':World} (h:s.run P w = .ok () w'):(do s;pure Next.skip:Sem Next).run P w = .ok .skip w':=by
  rw [run_bind _ _ _ _ _ h];rfl
theorem rcs_exists {I:Nat→Prop} {w:World} {s:Sg} {arr:Array Value} {cs:List C} (h:RCs I w s arr cs):∀ j (hj:j<cs.length),∃ y,arr[j]? = some y∧RC I w s y cs[j]:=fun j hj=>by
  have hj':j<arr.size:=by rw [h.1];exact hj
  exact ⟨arr[j],by simp [hj'],h.2 j hj' hj⟩
theorem rcs_consts {I:Nat→Prop} {w:World} {s:Sg} (zs:List Value) (h:zs.all one=true):RCs I w s zs.toArray (zs.map C.v) :=
  ⟨by simp,fun j h1 h2=>by
    simp only [List.getElem_map,List.getElem_toArray]
    exact .v _ _ (List.all_eq_true.1 h _ (by simp))⟩
theorem RD.cellsR {I:Nat→Prop} {w:World} {s:Sg} {x:Value} {d:D} {cs:List C} (h:RD I w s x d) (hd:d.cells=some cs):RCs I w s x.cells cs:=h.cells hd
theorem flat_replicate (n:Nat) (zs:List C) (j:Nat) (hj:j<n * zs.length):(List.replicate n zs).flatten[j]? = zs[j % zs.length]? := by
  have hall:∀ x ∈ List.replicate n zs,x.length=zs.length:=fun x hx=>by rw [List.eq_of_mem_replicate hx]
  obtain ⟨i,t,hi,ht,e,ht2,hg⟩:=flatten_get zs.length (List.replicate n zs) hall j (by simpa using hj)
  rw [hg,e,Nat.mul_comm,Nat.mul_add_mod,Nat.mod_eq_of_lt ht2]
  simp [ht2]
theorem appUp_spend (hp:Hp) (ko:Option Nat) (key:Nat) (cs:List C):appUp hp (spendUp ko++[(key,some cs)])=upd (spend hp ko) key (some (some cs)):=by
  cases ko<;>rfl
theorem zero_rcs {I : Nat → Prop} {w : World} {s : Sg} {z : Value} {zs : List Value} (hz : z.cells.toList = zs) (h1 : zs.all one = true) (n : Nat) :
    RCs I w s (Builtin.zeroCells z.cells n) (List.replicate n (zs.map C.v)).flatten:=by
  have hzsz:z.cells.size=zs.length:=by rw [← Array.length_toList,hz]
  have hfl:((List.replicate n (zs.map C.v)).flatten).length=n * zs.length:=by
    rw [flatten_length zs.length _ (fun x hx=>by rw [List.eq_of_mem_replicate hx];simp)];simp
  refine ⟨by rw [hfl];simp [Builtin.zeroCells,hzsz],fun j h1' h2'=>?_⟩
  rw [hfl] at h2'
  have hpos:0<zs.length:=by
    rcases Nat.eq_zero_or_pos zs.length with h | h
    · rw [h] at h2';omega
    · exact h
  have g:=flat_replicate n (zs.map C.v) j (by simpa using h2')
  simp only [List.length_map] at g
  have hjm:j % zs.length<zs.length:=Nat.mod_lt _ hpos
  rw [List.getElem?_eq_getElem (by rw [hfl];exact h2'),List.getElem?_eq_getElem (by simpa using hjm)] at g
  rw [Option.some.inj g]
  have hm':(Builtin.zeroCells z.cells n)[j]=zs[j % zs.length]:=by
    have hjz:j % zs.length<z.cells.size:=by rw [hzsz];exact hjm
    simp only [Builtin.zeroCells,Array.getElem_map,Array.getElem_range,hzsz]
    rw [getElem!_pos z.cells (j % zs.length) hjz]
    simp [← hz]
  rw [hm',List.getElem_map]
  exact .v _ _ (List.all_eq_true.1 h1 _ (by simp))
theorem put_sim {m : Nat} {I : Nat → Prop} {w : World} {s : Sg} {hp : Hp} (H : SimH I w s hp) {k off b : Nat} {cs ds : List C} (hcs : hp k = some (some cs)) (hs : s k = some (some b)) {arr : Array Value} {T : TypeId}
    (hb:w.heap[b]? = some (.cells arr T (0,0))) (hl:cs.length≤arr.size) (hrr:∀ j (h:j<cs.length),∃ y,arr[j]? = some y∧RC I w s y cs[j]) {vs:List Value} (hr:RCs I w s vs.toArray ds) (hfit:off+ds.length≤cs.length) :
    SimH I { w with heap:=w.heap.setIfInBounds b (.cells (setCells arr off vs) T (0,0)) } s (upd hp k (some (some (putCells cs off ds)))) ∧
      Ext m I w s hp I { w with heap:=w.heap.setIfInBounds b (.cells (setCells arr off vs) T (0,0)) } s (upd hp k (some (some (putCells cs off ds)))):=by
  have hcl:vs.length=ds.length:=by have:=hr.1;simpa using this
  refine sim_store (m := m) H k cs (putCells cs off ds) hcs b arr (setCells arr off vs) T hs hb (size_setCells _ _ _) (by rw [size_setCells, putCells_length]; exact hl)
    (fun j hj=>?_) rfl
  rw [putCells_length] at hj
  have g1:=get_setCells vs arr off j (by rw [hcl];omega)
  have g2:=putCells_get ds cs off j (by omega)
  have hpj:(putCells cs off ds)[j]? = some ((putCells cs off ds)[j]'(by rw [putCells_length];exact hj)):=by simp [putCells_length,hj]
  rw [hpj] at g2
  rw [g1,hcl]
  by_cases hin:off≤j∧j<off+ds.length
  · rw [if_pos hin] at g2 ⊢
    have hj3:j - off<ds.length:=by omega
    have hj4:j - off<vs.length:=by rw [hcl];exact hj3
    refine ⟨vs[j - off],by simp [hj4],?_⟩
    have:=hr.2 (j - off) (by simpa using hj4) hj3
    rw [List.getElem?_eq_getElem hj3] at g2
    rw [Option.some.inj g2]
    simpa using this
  · rw [if_neg hin] at g2 ⊢
    obtain ⟨u,hu,hru⟩:=hrr j hj
    refine ⟨u,hu,?_⟩
    rw [List.getElem?_eq_getElem hj] at g2
    rw [Option.some.inj g2]
    exact hru
theorem clear_sound {m : Nat} {I : Nat → Prop} {w : World} {s : Sg} {hp : Hp} (H : SimH I w s hp) {x : Value} {k sz off len : Nat} (hx : RD I w s x (.c (.msl k sz off len))) {cs : List C} (hcs : hp k = some (some cs))
    {t ty el:TypeId} (htl:tslice P t=some el) {zs:List Value} (hz:tzero P el=some zs) (h1:zs.all one=true) (hzl:zs.length=sz) (hfit:off+len * sz≤cs.length) :
    ∃ w',(Builtin.clear_ #[t] ty #[x]).run P w = .ok (.tuple #[]) w'∧SimH I w' s (upd hp k (some (some (putCells cs off (List.replicate len (zs.map C.v)).flatten)))) ∧
      Ext m I w s hp I w' s (upd hp k (some (some (putCells cs off (List.replicate len (zs.map C.v)).flatten)))):=by
  have hfl:((List.replicate len (zs.map C.v)).flatten).length=len * sz:=by
    rw [flatten_length sz _ (fun x hx=>by rw [List.eq_of_mem_replicate hx];simp [hzl])];simp
  have hnone:len=0→∀ a c,x = .slice a 0 c→∃ w',(Builtin.clear_ #[t] ty #[x]).run P w = .ok (.tuple #[]) w'∧SimH I w' s (upd hp k (some (some (putCells cs off (List.replicate len (zs.map C.v)).flatten)))) ∧
      Ext m I w s hp I w' s (upd hp k (some (some (putCells cs off (List.replicate len (zs.map C.v)).flatten)))):=fun h0 a c hxx=>by
    subst h0
    have e:upd hp k (some (some (putCells cs off (List.replicate 0 (zs.map C.v)).flatten)))=hp:=by
      funext j
      by_cases hj:j=k
      · subst hj;simp [upd_same,putCells,hcs]
      · rw [upd_ne _ _ hj]
    rw [e]
    refine ⟨w,?_,H,Ext.refl _ _ _ _ _⟩
    subst hxx
    simp only [Builtin.clear_]
    simp only [List.getElem?_toArray,List.getElem?_cons_zero]
    rw [run_bind _ _ _ _ _ (run_underlying (und_slice htl) w)]
    cases a<;>rfl
  rcases rd_msl hx with ⟨a,hxx,_,_,h0⟩ | ⟨b,cap,arr,T,fr,hxx,hs,hlc,hb,hcp⟩
  · exact hnone h0 a 0 hxx
  · rcases Nat.eq_zero_or_pos len with h0 | hpos
    · exact hnone h0 _ cap (by rw [hxx,h0])
    · obtain ⟨arr,T,hb,hl,hrr⟩:=live_cells H hcs hs
      obtain ⟨z,hzc,hzr⟩:=run_zeroValue hz w
      have hv:=zero_rcs (I:=I) (w:=w) (s:=s) hzc h1 len
      have hvs:RCs I w s (Builtin.zeroCells z.cells len).toList.toArray (List.replicate len (zs.map C.v)).flatten:=by simpa using hv
      have hvl:(Builtin.zeroCells z.cells len).toList.length=len * sz:=by
        have:=hv.1
        rw [hfl] at this
        simpa using this
      obtain ⟨H',E'⟩:=put_sim (m:=m) H hcs hs hb hl hrr hvs (by rw [hfl];exact hfit)
      refine ⟨_,?_,H',E'⟩
      have hst:=run_storeCells (P:=P) b T (Builtin.zeroCells z.cells len).toList arr w off 0 hb (by rw [hvl];omega) (fun v hv'=>by
        obtain ⟨j,hj,e⟩:=List.mem_iff_getElem.1 hv'
        have:=hv.2 j (by simpa using hj) (by rw [hfl,← hvl];exact hj)
        rw [← e]
        simpa using this.one)
      subst hxx
      obtain ⟨n,rfl⟩:∃ n,len=n+1:=⟨len - 1,by omega⟩
      simp only [Builtin.clear_]
      simp only [List.getElem?_toArray,List.getElem?_cons_zero]
      rw [run_bind _ _ _ _ _ (run_underlying (und_slice htl) w)]
      simp only
      rw [run_bind _ _ _ _ _ hzr]
      have hst':(storeCells ⟨b,off,none⟩ (Builtin.zeroCells z.cells (n+1)).toList).run P w = .ok () { w with heap:=w.heap.setIfInBounds b (.cells (setCells arr off (Builtin.zeroCells z.cells (n+1)).toList) T (0,0)) }:=by simpa using hst
      rw [run_bind _ _ _ _ _ hst']
      rfl
theorem stp_sound {m : Nat} {I : Nat → Prop} {w : World} {s : Sg} {hp : Hp} (H : SimH I w s hp) {a : Act} {tm : Nat → Option D} (hA : ∀ n d, tm n = some d → RD I w s (a.tmps.getD n undef) d) {o : Oper} {key : Nat} {out : Out}
    (h:stp P m key tm hp o.op=some out) (hvc:out.vc) :
    ∃ v w' s',((execOp a.eval o).run P w = .ok (.value v) w'∨(execOp a.eval o).run P w = .ok .skip w'∧v=undef)∧s.le s'∧SimH I w' s' (appUp hp out.up) ∧
      Ext m I w s hp I w' s' (appUp hp out.up)∧∀ d,out.d=some d→RD I w' s' v d:=by
  have hpop:∀ vc d,pop P (evP tm) hp o.op=some (vc,d)→okP tm o.op.operands.toList→vc→∃ v w' s',((execOp a.eval o).run P w = .ok (.value v) w'∨(execOp a.eval o).run P w = .ok .skip w'∧v=undef)∧s.le s'∧SimH I w' s' (appUp hp []) ∧
      Ext m I w s hp I w' s' (appUp hp [])∧∀ d',some d=some d'→RD I w' s' v d':=fun vc d h1 h2 h3=>by
    obtain ⟨v,hr,hd⟩:=pop_sound' (P:=P) H hA h1 h2 h3
    exact ⟨v,w,s,.inl hr,Sg.le_refl _,H,Ext.refl _ _ _ _ _,fun d' e=>by cases e;exact hd⟩
  obtain ⟨dst,op,type,pos,after,guard⟩:=o
  cases op with
  | pick c x y =>
    simp only [stp] at h
    split at h
    · rename_i b da db hc hx hy
      split at h
      · rename_i p q hp1 hq1
        simp only [Option.some.injEq] at h
        subst h
        obtain ⟨hok,h1,h2⟩:=hvc
        have hcv:=(rd_scalar (evP_sound hA hc hok (by simp))).1
        refine ⟨.bool (bif b then p else q),w,s,.inl ?_,Sg.le_refl _,H,Ext.refl _ _ _ _ _,fun d' e=>by cases e;exact rd_bool _⟩
        simp only [execOp,hcv]
        rw [run_bind (x:=b) (w':=w) _ _ _ (by rfl)]
        cases b with
        | true =>
          have:=peel_sound (evT_sound hA hx) (h1 rfl)
          rw [hp1] at this
          simp only [if_true,cond_true,(rd_scalar this).1]
          rfl
        | false =>
          have:=peel_sound (evT_sound hA hy) (h2 rfl)
          rw [hq1] at this
          simp only [Bool.false_eq_true,if_false,cond_false,(rd_scalar this).1]
          rfl
      · cases h
    · cases h
  | alloc T =>
    simp only [stp] at h
    split at h
    · rename_i zs hz
      split at h
      · rename_i h1
        simp only [Option.some.injEq] at h
        subst h
        obtain ⟨hk,hm⟩:=hvc
        obtain ⟨hle,H',E'⟩:=sim_alloc (m:=m) H key hk hm zs.toArray T (zs.map .v) (by simp) (rcs_exists (rcs_consts zs h1))
        refine ⟨.pointer (some ⟨w.heap.size,0,none⟩),_,_,.inl ?_,hle,H',E',fun d e=>?_⟩
        · simp only [execOp]
          exact run_v (run_alloc hz _ w)
        · cases e
          exact .c _ _ (.ptr _ key _ 0 (by simp [upd_same]))
      · cases h
    · cases h
  | box T x =>
    simp only [stp] at h
    split at h
    · rename_i d hx
      split at h
      · rename_i cs hcs
        simp only [Option.some.injEq] at h
        subst h
        obtain ⟨hok,hk,hm⟩:=hvc
        have hr:=RD.cellsR (evP_sound hA hx hok (by simp)) hcs
        obtain ⟨hle,H',E'⟩:=sim_alloc (m:=m) H key hk hm (a.eval x).cells T cs (by rw [hr.1];exact Nat.le_refl _) (rcs_exists hr)
        refine ⟨.pointer (some ⟨w.heap.size,0,none⟩),_,_,.inl ?_,hle,H',E',fun d e=>?_⟩
        · simp only [execOp]
          exact run_v (run_box T _ w)
        · cases e
          exact .c _ _ (.ptr _ key _ 0 (by simp [upd_same]))
      · cases h
    · cases h
  | buildSlice t n ps =>
    simp only [stp] at h
    split at h
    · rename_i sz zs hsz hzs
      obtain ⟨el,htl,hn⟩:=Option.bind_eq_some_iff.1 hsz
      obtain ⟨el',htl',hz⟩:=Option.bind_eq_some_iff.1 hzs
      rw [htl] at htl'
      cases htl'
      split at h
      · rename_i cs hcs
        simp only [Option.some.injEq] at h
        subst h
        obtain ⟨hok,⟨hpn,hcl,hbig,hzl,hmx⟩,hk,hm⟩:=hvc
        obtain ⟨z,hzc,hzr⟩:=run_zeroValue hz w
        have hzsz:z.cells.size=sz:=by rw [← Array.length_toList,hzc,hzl]
        obtain ⟨vals, hv, hf⟩ := partsS_sound (P := P) (I := I) (w := w) (s := s) (sz := sz) (e := evP tm) (ρ := a.eval) ps.toList 0 cs (if n * sz = 0 then #[] else (Array.range (n * sz)).map (fun i => z.cells[i % z.cells.size]!))
          (fun x hx d hd=>evP_sound hA hd hok hx) hcs (by
            rw [hcl]
            by_cases h0:n * sz=0
            · rw [if_pos h0];simp [h0]
            · rw [if_neg h0];simp)
        have hsetall:setCells (if n * sz=0 then #[] else (Array.range (n * sz)).map (fun i=>z.cells[i % z.cells.size]!)) (0 * sz) vals=vals.toArray:=by
          have hvl:vals.length=n * sz:=by
            have:=hv.1
            simp at this
            omega
          rw [Nat.zero_mul]
          refine setCells_all vals _ ?_
          by_cases h0:n * sz=0
          · rw [if_pos h0,hvl,h0];rfl
          · rw [if_neg h0,hvl];simp
        rw [hsetall] at hf
        obtain ⟨hle,H',E'⟩:=sim_alloc (m:=m) H key hk hm vals.toArray el cs (by rw [hv.1];exact Nat.le_refl _) (rcs_exists hv)
        refine ⟨.slice (some ⟨w.heap.size,0,none⟩) n n,_,_,.inl ?_,hle,H',E',fun d e=>?_⟩
        · simp only [execOp]
          refine run_v ?_
          simp only [Instr.buildSlice]
          rw [run_bind _ _ _ _ _ (run_underlying (und_slice htl) w)]
          simp only
          rw [run_bind _ _ _ _ _ (run_sizeOf hn w)]
          rw [if_neg (by omega)]
          have hpl:(ps.map fun (i,x)=>(i,a.eval x)).toList=ps.toList.map fun p=>(p.1,a.eval p.2):=by simp
          by_cases h0:n * sz=0
          · rw [if_pos h0] at hf ⊢
            rw [run_bind (x:=(#[]:Array Value)) (w':=w) _ _ _ (by rfl)]
            have hr0:Array.map (fun x=>(#[]:Array Value)[x % (#[]:Array Value).size]!) (Array.range (n * sz))=#[]:=by rw [h0];simp
            simp only [hr0,hpl,hf]
            rw [run_bind _ _ _ _ _ (run_newRow el vals.toArray w)]
            rfl
          · rw [if_neg h0] at hf ⊢
            rw [run_bind _ _ _ _ _ hzr,run_bind (x:=z.cells) (w':=w) _ _ _ (by rfl)]
            simp only [hpl,hf]
            rw [run_bind _ _ _ _ _ (run_newRow el vals.toArray w)]
            rfl
        · cases e
          refine .c _ _ (.msl _ key w.heap.size sz 0 n n vals.toArray el (0,0) (by simp [upd_same]) ⟨Nat.le_refl _,hmx⟩ (heap_push_eq w _) ?_)
          rw [hv.1,hcl];simp
      · cases h
    · cases h
  | store t x y =>
    simp only [stp] at h
    split at h
    · rename_i k off d n hx hy hn
      split at h
      · rename_i cs ds hcs hds
        simp only [Option.some.injEq] at h
        subst h
        obtain ⟨hok,hdl,hfit⟩:=hvc
        obtain ⟨b,hs,hxv⟩:=rd_ptr (evP_sound hA hx hok (by simp))
        have hr:=RD.cellsR (evP_sound hA hy hok (by simp)) hds
        obtain ⟨arr,T,hb,hl,hrr⟩:=live_cells H hcs hs
        have hvs:(a.eval y).cells.size=n:=by rw [hr.1,hdl]
        have hrun:=run_storeVar (P:=P) hn b off T (a.eval y) arr w hb (by omega) hvs (fun u hu=>by
          obtain ⟨j,hj,e⟩:=List.mem_iff_getElem.1 hu
          have hj2:j<(a.eval y).cells.size:=by simpa using hj
          have:=hr.2 j hj2 (by rw [← hr.1];exact hj2)
          rw [← e]
          simpa using this.one)
        have hcl:(a.eval y).cells.toList.length=ds.length:=by rw [Array.length_toList,hr.1]
        obtain ⟨H', E'⟩ := sim_store (m := m) H k cs (putCells cs off ds) hcs b arr (setCells arr off (a.eval y).cells.toList) T hs hb (size_setCells _ _ _) (by rw [size_setCells, putCells_length]; exact hl)
          (fun j hj=>by
            rw [putCells_length] at hj
            have g1:=get_setCells (a.eval y).cells.toList arr off j (by rw [hcl];omega)
            have g2:=putCells_get ds cs off j (by omega)
            have hpj:(putCells cs off ds)[j]? = some ((putCells cs off ds)[j]'(by rw [putCells_length];exact hj)):=by simp [putCells_length,hj]
            rw [hpj] at g2
            rw [g1,hcl]
            by_cases hin:off≤j∧j<off+ds.length
            · rw [if_pos hin] at g2 ⊢
              have hj3:j - off<ds.length:=by omega
              have hj4:j - off<(a.eval y).cells.size:=by rw [hr.1];exact hj3
              refine ⟨(a.eval y).cells[j - off],by simp [hj4],?_⟩
              have:=hr.2 (j - off) hj4 hj3
              rw [List.getElem?_eq_getElem hj3] at g2
              rw [Option.some.inj g2]
              exact this
            · rw [if_neg hin] at g2 ⊢
              obtain ⟨u,hu,hru⟩:=hrr j hj
              refine ⟨u,hu,?_⟩
              rw [List.getElem?_eq_getElem hj] at g2
              rw [Option.some.inj g2]
              exact hru) rfl
        refine ⟨undef,_,s,.inr ⟨?_,rfl⟩,Sg.le_refl _,H',E',fun d e=>by cases e⟩
        simp only [execOp,hxv]
        exact run_u hrun
      · cases h
    · cases h
  | makeSlice t l c =>
    simp only [stp] at h
    split at h
    · rename_i kl n kc n' sz zs by' hl hc hsz hzs hby
      obtain ⟨el,htl,hn⟩:=Option.bind_eq_some_iff.1 hsz
      obtain ⟨el',htl',hz⟩:=Option.bind_eq_some_iff.1 hzs
      obtain ⟨el'',htl'',hbb⟩:=Option.bind_eq_some_iff.1 hby
      rw [htl] at htl' htl''
      cases htl'
      cases htl''
      split at h
      · rename_i h1
        simp only [Option.some.injEq] at h
        subst h
        obtain ⟨hok,⟨h0,rfl,h63,h48,hzl⟩,hk,hm⟩:=hvc
        have hlv:=(rd_scalar (evP_sound hA hl hok (by simp))).1
        have hcv:=(rd_scalar (evP_sound hA hc hok (by simp))).1
        simp only [tsz,Option.map_eq_some_iff] at hn
        obtain ⟨i,hi,hisz⟩:=hn
        have hib:i.bytes=by':=by simpa [tbytes,hi] using hbb
        obtain ⟨z,hiz,hzc⟩:∃ z,i.zero=some z∧z.cells.toList=zs:=by simpa [tzero,hi] using hz
        have hzsz:z.cells.size=sz:=by rw [← Array.length_toList,hzc,hzl]
        have hrun:=Go.run_make (P:=P) w t el i z (und_slice htl) hi hiz kl kc n' n' h0 (Int.le_refl _) (by rw [hib];exact h48) (Int.le_trans h63 (by decide))
        have hcells:RCs I w s (madeCells z.cells (n'.toNat * i.size)) (List.replicate n'.toNat (zs.map C.v)).flatten:=by
          have hfl:((List.replicate n'.toNat (zs.map C.v)).flatten).length=n'.toNat * sz:=by
            rw [flatten_length sz _ (fun x hx=>by rw [List.eq_of_mem_replicate hx];simp [hzl])];simp
          refine ⟨by rw [hfl,hisz];simp [madeCells],fun j h1' h2'=>?_⟩
          rw [hfl] at h2'
          have hpos:0<sz:=by
            rcases Nat.eq_zero_or_pos sz with h | h
            · rw [h] at h2';omega
            · exact h
          have g:=flat_replicate n'.toNat (zs.map C.v) j (by simpa [hzl] using h2')
          simp only [List.length_map,hzl] at g
          have hjm:j % sz<zs.length:=by rw [hzl];exact Nat.mod_lt _ hpos
          rw [List.getElem?_eq_getElem (by rw [hfl];exact h2'),List.getElem?_eq_getElem (by simpa using hjm)] at g
          rw [Option.some.inj g]
          have hm':(madeCells z.cells (n'.toNat * i.size))[j]=zs[j % sz]:=by
            have hjz:j % sz<z.cells.size:=by rw [hzsz];exact Nat.mod_lt _ hpos
            simp only [madeCells,Array.getElem_map,Array.getElem_range,hzsz]
            rw [getElem!_pos z.cells (j % sz) hjz]
            simp [← hzc]
          rw [hm',List.getElem_map]
          exact .v _ _ (List.all_eq_true.1 h1 _ (by simp))
        obtain ⟨hle,H',E'⟩:=sim_alloc (m:=m) H key hk hm _ el _ (by rw [hcells.1];exact Nat.le_refl _) (rcs_exists hcells)
        refine ⟨.slice (some ⟨w.heap.size,0,none⟩) n'.toNat n'.toNat,{ w with heap:=w.heap.push (.cells (madeCells z.cells (n'.toNat * i.size)) el (0,0)) },upd s key (some (some w.heap.size)),.inl ?_,hle,H',E',fun d e=>?_⟩
        · simp only [execOp,hlv,hcv]
          exact run_v hrun
        · cases e
          refine .c _ _ (.msl _ key w.heap.size sz 0 n'.toNat n'.toNat _ el (0,0) (by simp [upd_same]) ⟨Nat.le_refl _,Int.toNat_le.2 h63⟩ (heap_push_eq w _) ?_)
          simp [madeCells,hisz]
      · cases h
    · cases h
  | call c =>
    obtain ⟨callee,args,argTypes⟩:=c
    simp only [stp] at h
    split at h
    · split at h
      · rename_i x y t t' hargs hats
        split at h
        · rename_i dx dy sz zs by' hx hy hsz hzs hby
          split at h
          · rename_i ko len cs n sz' ys htg hld
            simp only [Option.some.injEq] at h
            subst h
            obtain ⟨hok,⟨rfl,hzl,hks,hszn⟩,hcs,hys,⟨h63,h47⟩,hk,hm⟩:=hvc
            obtain ⟨el,htl,hn⟩:=Option.bind_eq_some_iff.1 hsz
            obtain ⟨el',htl',hz⟩:=Option.bind_eq_some_iff.1 hzs
            obtain ⟨el'',htl'',hbb⟩:=Option.bind_eq_some_iff.1 hby
            rw [htl] at htl' htl''
            cases htl'
            cases htl''
            have e1:args=#[x,y]:=by apply Array.ext';simpa using hargs
            have e2:argTypes=#[t',t']:=by apply Array.ext';simpa using hats
            subst e1;subst e2
            obtain ⟨v,w',s',hrun,hle,H',E',R'⟩:=append_sound (P:=P) (m:=m) (ty:=type) H (evP_sound hA hx hok (by simp)) (evP_sound hA hy hok (by simp)) htl hn hz hzl hbb htg hcs hks hld hys hszn key hk hm h63 h47
            have hup:=appUp_spend hp ko key (cs++ys)
            refine ⟨v,w',s',.inl ?_,hle,by rw [hup];exact H',by rw [hup];exact E',fun d e=>by cases e;exact R'⟩
            simp only [execOp,resolve]
            rw [run_bind (x:=({ target := .builtin .append #[t',t'] type (#[x,y].map fun | .const _=>true | _=>false),args:=#[x,y].map a.eval }:Deferred)) (w':=w) _ _ _ (by rfl)]
            simp only [invoke,builtin]
            refine run_v ?_
            simpa using hrun
          · cases h
        · cases h
      · cases h
    · split at h
      · rename_i x t hargs hats
        split at h
        · rename_i k sz off len sz' zs hx hsz hzs
          split at h
          · rename_i cs hcs
            split at h
            · rename_i h1
              simp only [Option.some.injEq] at h
              subst h
              obtain ⟨hok,⟨rfl,hzl⟩,hfit⟩:=hvc
              obtain ⟨el',htl',hz⟩:=Option.bind_eq_some_iff.1 hzs
              have e1:args=#[x]:=by apply Array.ext';simpa using hargs
              have e2:argTypes=#[t]:=by apply Array.ext';simpa using hats
              subst e1;subst e2
              obtain ⟨w',hrun,H',E'⟩:=clear_sound (P:=P) (m:=m) (ty:=type) H (evP_sound hA hx hok (by simp)) hcs htl' hz h1 hzl hfit
              refine ⟨.tuple #[],w',s,.inl ?_,Sg.le_refl _,H',E',fun d e=>by cases e;exact .tup _ _ rfl (fun j h=>by simp at h)⟩
              simp only [execOp,resolve]
              rw [run_bind (x:=({ target := .builtin .clear #[t] type (#[x].map fun | .const _=>true | _=>false),args:=#[x].map a.eval }:Deferred)) (w':=w) _ _ _ (by rfl)]
              simp only [invoke,builtin]
              refine run_v ?_
              simpa using hrun
            · cases h
          · cases h
        · cases h
      · cases h
    · split at h
      · rename_i vc d hpp
        simp only [Option.some.injEq] at h
        subst h
        exact hpop vc d hpp hvc.1 hvc.2
      · cases h
  | _ =>
    simp only [stp] at h
    split at h
    · rename_i vc d hpp
      simp only [Option.some.injEq] at h
      subst h
      exact hpop vc d hpp hvc.1 hvc.2
    · cases h
end
mutual
def renC (r : Nat → Nat) : C → C
  | .v x => .v x
  | .isl sz xs => .isl sz xs
  | .csl y sz xs => .csl y sz xs
  | .num k => .num k
  | .msl k sz off len => .msl (r k) sz off len
  | .ptr k off => .ptr (r k) off
  | .eptr cs => .eptr cs
  | .clo f caps => .clo f (renCs r caps)
  | .met f cs => .met f cs
  | .z => .z
  | .unk => .unk
def renCs (r : Nat → Nat) : List C → List C
  | []=>[]
  | c :: cs=>renC r c :: renCs r cs
end
mutual
def renD (r : Nat → Nat) : D → D
  | .c x => .c (renC r x)
  | .agg cs => .agg (renCs r cs)
  | .tup ds => .tup (renDs r ds)
  | .when b d => .when b (renD r d)
def renDs (r : Nat → Nat) : List D → List D
  | []=>[]
  | d :: ds=>renD r d :: renDs r ds
end
theorem renCs_eq (r : Nat → Nat) : ∀ cs : List C, renCs r cs = cs.map (renC r)
  | []=>rfl
  | c :: cs=>by simp only [renCs,List.map_cons,renCs_eq r cs]
theorem renDs_eq (r : Nat → Nat) : ∀ ds : List D, renDs r ds = ds.map (renD r)
  | []=>rfl
  | d :: ds=>by simp only [renDs,List.map_cons,renDs_eq r ds]
section
variable {I:Nat→Prop} {w:World}
theorem RC.ren {r:Nat→Nat} {s:Sg} {x:Value} {c:C} (h:RC I w s x c):∀ {s':Sg},(∀ k y,s k=some y→s' (r k)=some y)→RC I w s' x (renC r c):=by
  induction h with
  | v s x h1=>exact fun _ => .v _ x h1
  | unk s x h1=>exact fun _ => .unk _ x h1
  | z s a=>exact fun _ => .z _ a
  | isl0 s a cap sz=>exact fun _ => .isl0 _ a cap sz
  | isl s b off cap sz xs y hIb hl hc hr hcap ih=>exact fun _ => .isl _ b off cap sz xs y hIb hl hc hr hcap
  | num s k n=>exact fun _ => .num _ k n
  | csl0 s a cap sz y=>exact fun _ => .csl0 _ a cap sz y
  | csl s b off len cap sz xs y h hN ih =>
    intro s' hle
    have:=ih hle
    simp only [renC] at this
    exact .csl _ b off len cap sz xs y this hN
  | msl0 s a k sz h=>exact fun hle => .msl0 _ a (r k) sz (hle _ _ h)
  | msl s k b sz off len cap arr T fr h hlen hb hcap=>exact fun hle => .msl _ (r k) b sz off len cap arr T fr (hle _ _ h) hlen hb hcap
  | ptr s k b off h=>exact fun hle => .ptr _ (r k) b off (hle _ _ h)
  | eptr s b off cs y hIb hc hr ih=>exact fun _ => .eptr _ b off cs y hIb hc hr
  | clo s f caps vs hl hr ih =>
    intro s' hle
    simp only [renC]
    refine .clo _ f _ vs (by rw [renCs_eq];simpa using hl) fun j h h'=>?_
    have h2:j<caps.length:=by omega
    have:=ih j h h2 hle
    simpa [renCs_eq] using this
  | met s f cs vs hl hr ih=>exact fun _ => .met _ f cs vs hl hr
theorem RD.ren {r:Nat→Nat} {s s':Sg} (hle:∀ k y,s k=some y→s' (r k)=some y) {x:Value} {d:D} (h:RD I w s x d):RD I w s' x (renD r d):=by
  induction h with
  | c x c h=>exact .c _ _ (h.ren hle)
  | agg vs cs hl hr =>
    simp only [renD]
    refine .agg vs _ (by rw [renCs_eq];simpa using hl) fun j h h'=>?_
    have:=(hr j h (by omega)).ren hle
    simpa [renCs_eq] using this
  | tup vs ds hl hr ih =>
    simp only [renD]
    refine .tup vs _ (by rw [renDs_eq];simpa using hl) fun j h h'=>?_
    have:=ih j h (by omega)
    simpa [renDs_eq] using this
  | when x b d h h0 ih=>exact .when x b _ (fun hb=>ih hb) h0
mutual
theorem RC.unren {r : Nat → Nat} {s s' : Sg} (hle : ∀ k y, s (r k) = some y → s' k = some y) : ∀ (c : C) {x : Value}, RC I w s x (renC r c) → RC I w s' x c
  | .v y,x,h=>by
    simp only [renC] at h
    cases h with | v _ _ h1=>exact .v _ _ h1
  | .unk,x,h=>by
    simp only [renC] at h
    cases h with | unk _ _ h1=>exact .unk _ _ h1
  | .z,x,h=>by
    simp only [renC] at h
    cases h with | z _ a=>exact .z _ a
  | .isl sz xs,x,h=>by
    simp only [renC] at h
    exact h.isl_any s'
  | .num k,x,h=>by
    simp only [renC] at h
    cases h with | num _ _ n=>exact .num _ k n
  | .csl y sz xs,x,h=>by
    simp only [renC] at h
    cases h with
    | csl0 _ a cap _ _=>exact .csl0 _ a cap sz y
    | csl _ b off len cap _ _ _ h hN=>exact .csl _ b off len cap sz xs y (h.isl_any s') hN
  | .msl k sz off len,x,h=>by
    simp only [renC] at h
    cases h with
    | msl0 _ a _ _ h=>exact .msl0 _ a k sz (hle _ _ h)
    | msl _ _ b _ _ _ cap arr T fr h hlen hb hcap=>exact .msl _ k b sz off len cap arr T fr (hle _ _ h) hlen hb hcap
  | .ptr k off,x,h=>by
    simp only [renC] at h
    cases h with | ptr _ _ b _ h=>exact .ptr _ k b off (hle _ _ h)
  | .eptr cs,x,h=>by
    simp only [renC] at h
    cases h with | eptr _ b off _ y hIb hc hr=>exact .eptr _ b off cs y hIb hc hr
  | .met f cs,x,h=>by
    simp only [renC] at h
    cases h with | met _ _ _ vs hl hr=>exact .met _ f cs vs hl hr
  | .clo f caps,x,h=>by
    simp only [renC] at h
    cases h with
    | clo _ _ _ vs hl hr =>
      have hl':vs.size=caps.length:=by rw [renCs_eq] at hl;simpa using hl
      exact .clo _ f caps vs hl' (RCs.unren hle caps vs.toList (by simpa using hl') (fun j h1 h2=>by
        have:=hr j (by simpa using h1) (by rw [renCs_eq];simpa using h2)
        simpa [renCs_eq] using this))
theorem RCs.unren {r:Nat→Nat} {s s':Sg} (hle:∀ k y,s (r k)=some y→s' k=some y):∀ (cs:List C) (vs:List Value),vs.length=cs.length→(∀ j (h:j<vs.length) (h':j<cs.length),RC I w s vs[j] (renC r cs[j])) →
    ∀ j (h:j<vs.toArray.size) (h':j<cs.length),RC I w s' vs.toArray[j] cs[j]
  | [],vs,hl,hr=>fun j h h'=>by simp at h'
  | c :: cs,[],hl,hr=>by simp at hl
  | c :: cs,v :: vs,hl,hr=>fun j h h'=>by
    cases j with
    | zero=>exact RC.unren hle c (hr 0 (by simp) (by simp))
    | succ j =>
      exact RCs.unren hle cs vs (by simpa using hl) (fun i h1 h2=>hr (i+1) (by simpa using h1) (by simpa using h2)) j (by simpa using h) (by simpa using h')
end
def RDs (I:Nat→Prop) (w:World) (s:Sg) (vs:Array Value) (ds:List D):Prop:=vs.size=ds.length∧∀ j (h:j<vs.size) (h':j<ds.length),RD I w s vs[j] ds[j]
theorem RD.unrenC {r:Nat→Nat} {s s':Sg} (hle:∀ k y,s (r k)=some y→s' k=some y) {x:Value} {d:D} (h:RD I w s x (renD r d)):∀ (n:Nat),SizeOf.sizeOf d<n→RD I w s' x d:=by
  intro n
  induction n generalizing x d with
  | zero=>intro hn;omega
  | succ n ih =>
    intro hn
    cases d with
    | c c =>
      simp only [renD] at h
      cases h with | c _ _ h=>exact .c _ _ (RC.unren hle c h)
    | agg cs =>
      simp only [renD] at h
      cases h with
      | agg vs _ hl hr =>
        have hl':vs.size=cs.length:=by rw [renCs_eq] at hl;simpa using hl
        refine .agg vs cs hl' fun j h1 h2=>?_
        have:=hr j h1 (by rw [renCs_eq];simpa using h2)
        exact RC.unren hle _ (by simpa [renCs_eq] using this)
    | tup ds =>
      simp only [renD] at h
      cases h with
      | tup vs _ hl hr =>
        have hl':vs.size=ds.length:=by rw [renDs_eq] at hl;simpa using hl
        refine .tup vs ds hl' fun j h1 h2=>?_
        have:=hr j h1 (by rw [renDs_eq];simpa using h2)
        have hs:SizeOf.sizeOf ds[j]<SizeOf.sizeOf ds:=List.sizeOf_lt_of_mem (List.getElem_mem h2)
        simp only [D.tup.sizeOf_spec] at hn
        exact ih (by simpa [renDs_eq] using this) (by omega)
    | when b d =>
      simp only [renD] at h
      cases h with
      | when _ _ _ h h0 =>
        simp only [D.when.sizeOf_spec] at hn
        exact .when x b d (fun hb=>ih (h hb) (by omega)) h0
theorem RDs.unren {r:Nat→Nat} {s s':Sg} (hle:∀ k y,s (r k)=some y→s' k=some y) {vs:Array Value} {ds:List D} (h:RDs I w s vs (ds.map (renD r))):RDs I w s' vs ds:=by
  have hl:vs.size=ds.length:=by simpa using h.1
  refine ⟨hl,fun j h1 h2=>?_⟩
  have:=h.2 j h1 (by simpa using h2)
  exact RD.unrenC hle (by simpa using this) _ (Nat.lt_succ_self _)
end
def hpL (h:List (Option (List C))):Hp:=fun k=>h[k]?
def DC (P:Program) (F:FuncId) (args:List D) (h:List (Option (List C))) (R:D→List (Option (List C))→Prop):Prop :=
  ∀ I w s vs,SimH I w s (hpL h)→RDs I w s vs args→Calls P F vs w fun e w'=>∃ v I' s' d h',e = .returned v∧R d h'∧RD I' w' s' v d∧SimH I' w' s' (hpL h') ∧
    Ext h.length I w s (hpL h) I' w' s' (hpL h')∧h.length≤h'.length
def rkey (ks:List Nat) (b:Nat) (k:Nat):Nat:=if k<ks.length then ks.getD k 0 else b+(k - ks.length)
def upsFrom (r : Nat → Nat) : Nat → List (Option (List C)) → List (Nat × Option (List C))
  | _,[]=>[]
  | i,x :: l=>(r i,x.map (renCs r)) :: upsFrom r (i+1) l
theorem appUp_upsFrom (r:Nat→Nat):∀ (l:List (Option (List C))) (i:Nat) (hp:Hp),(∀ a b,i≤a→a<i+l.length→i≤b→b<i+l.length→r a=r b→a=b) →
    (∀ j,j<l.length→appUp hp (upsFrom r i l) (r (i+j))=(l[j]?).map (·.map (renCs r)))∧(∀ k,(∀ j,j<l.length→k ≠ r (i+j))→appUp hp (upsFrom r i l) k=hp k)
  | [],i,hp,_=>⟨fun j h=>by simp at h,fun k _=>rfl⟩
  | x :: l,i,hp,hinj=>by
    obtain ⟨ih1,ih2⟩:=appUp_upsFrom r l (i+1) (upd hp (r i) (some (x.map (renCs r)))) (fun a b h1 h2 h3 h4=>hinj a b (by omega) (by simp only [List.length_cons];omega) (by omega) (by simp only [List.length_cons];omega))
    refine ⟨fun j hj=>?_,fun k hk=>?_⟩
    · simp only [upsFrom,appUp]
      cases j with
      | zero =>
        rw [ih2 (r (i+0)) (fun j' hj'=>fun e=>by
          have:=hinj (i+0) (i+1+j') (by omega) (by simp only [List.length_cons];omega) (by omega) (by simp only [List.length_cons];omega) e
          omega)]
        simp [upd]
      | succ j =>
        have:=ih1 j (by simpa using hj)
        rw [show i+1+j=i+(j+1) from by omega] at this
        rw [this]
        simp
    · simp only [upsFrom,appUp]
      rw [ih2 k (fun j hj=>by have:=hk (j+1) (by simpa using hj);rwa [show i+1+j=i+(j+1) from by omega])]
      exact upd_ne _ _ (by have:=hk 0 (by simp);simpa using this)
def rk0 (ks:List Nat) (b:Nat) (k:Nat):Nat:=if k<ks.length then ks.getD k 0 else b
theorem call_sound {P : Program} {m : Nat} {I : Nat → Prop} {w : World} {s : Sg} {hp : Hp} (H : SimH I w s hp) {F : FuncId} {args : List D} {h : List (Option (List C))} {R : D → List (Option (List C)) → Prop} (hD : DC P F args h R)
    (ks:List Nat) (b:Nat) (hks:ks.length=h.length) (hnd:ks.Nodup) (hhp:∀ i x,h[i]? = some x→hp (ks.getD i 0)=some (x.map (renCs (rk0 ks b)))) (hm:m≤b) (hb:∀ j,j<64→hp (b+j)=none)
    (hlen:∀ d h',R d h'→h'.length≤h.length+64) {vs:Array Value} (hvs:RDs I w s vs (args.map (renD (rk0 ks b)))) :
    Calls P F vs w fun e w'=>∃ v I' s' d h',e = .returned v∧R d h'∧h.length≤h'.length∧s.le s'∧SimH I' w' s' (appUp hp (upsFrom (rkey ks b) 0 h')) ∧
      Ext m I w s hp I' w' s' (appUp hp (upsFrom (rkey ks b) 0 h'))∧RD I' w' s' v (renD (rkey ks b) d):=by
  have hb0:hp b=none:=by simpa using hb 0 (by omega)
  have hsb:s b=none:=H.top b hb0
  have hrk0:∀ k,k<h.length→rk0 ks b k=ks.getD k 0:=fun k hk=>by simp only [rk0];rw [if_pos (by omega)]
  have hrk0':∀ k,h.length≤k→rk0 ks b k=b:=fun k hk=>by simp only [rk0];rw [if_neg (by omega)]
  let sc:Sg:=fun k=>if k<h.length then s (ks.getD k 0) else none
  have hsc:∀ k,k<h.length→sc k=s (ks.getD k 0):=fun k hk=>if_pos hk
  have hsc':∀ k,h.length≤k→sc k=none:=fun k hk=>if_neg (by omega)
  have hunren:∀ k y,s (rk0 ks b k)=some y→sc k=some y:=fun k y hy=>by
    by_cases hk:k<h.length
    · rw [hsc k hk,← hrk0 k hk];exact hy
    · rw [hrk0' k (by omega),hsb] at hy;cases hy
  have hinjks:∀ i j,i<h.length→j<h.length→ks.getD i 0=ks.getD j 0→i=j:=fun i j hi hj e=>by
    have hi':i<ks.length:=by omega
    have hj':j<ks.length:=by omega
    simp only [List.getD_eq_getElem?_getD,List.getElem?_eq_getElem hi',List.getElem?_eq_getElem hj',Option.getD_some] at e
    have hp:=List.pairwise_iff_getElem.1 hnd
    rcases Nat.lt_trichotomy i j with h1 | h1 | h1
    · exact absurd e (hp i j hi' hj' h1)
    · exact h1
    · exact absurd e.symm (hp j i hj' hi' h1)
  have hhl:∀ i,i<h.length→hp (ks.getD i 0) ≠ none:=fun i hi=>by
    rw [hhp i h[i] (by simp [hi])];simp
  have hlivec:∀ b0,Live sc (hpL h) b0→∃ i,i<h.length∧∃ cs,hp (ks.getD i 0)=some (some cs)∧s (ks.getD i 0)=some (some b0):=by
    rintro b0 ⟨i,cs,hi,hs⟩
    simp only [hpL] at hi
    have hlt:=(List.getElem?_eq_some_iff.1 hi).1
    rw [hsc i hlt] at hs
    exact ⟨i,hlt,_,by simpa using hhp i _ hi,hs⟩
  have Hc:SimH I w sc (hpL h):=by
    refine ⟨fun k hk=>?_,fun k cs hk=>?_,fun k k' b0 cs cs' h1 h2 h3 h4=>?_,H.imm,H.yng.step (Nat.le_refl _) (fun _ _=>rfl) fun b0 hb0=>let ⟨_,_,cs',h2,h3⟩:=hlivec b0 hb0;.inl ⟨_,cs',h2,h3⟩,H.wri⟩
    · refine hsc' k ?_
      simp only [hpL] at hk
      exact List.getElem?_eq_none_iff.1 hk
    · simp only [hpL] at hk
      have hlt:=(List.getElem?_eq_some_iff.1 hk).1
      have h1:=hhp k _ hk
      simp only [Option.map_some] at h1
      rw [hsc k hlt]
      rcases H.blk _ _ h1 with ⟨h2,h3⟩ | ⟨b0,arr,T,h2,h3,h4,h5,h6⟩
      · exact .inl ⟨h2,by rw [renCs_eq] at h3;simpa using h3⟩
      · refine .inr ⟨b0,arr,T,h2,h3,by rw [renCs_eq] at h4;simpa using h4,h5,fun j hj=>?_⟩
        obtain ⟨y,hy,hry⟩:=h6 j (by rw [renCs_eq];simpa using hj)
        exact ⟨y,hy,RC.unren hunren _ (by simpa [renCs_eq] using hry)⟩
    · simp only [hpL] at h1 h2
      have hlt:=(List.getElem?_eq_some_iff.1 h1).1
      have hlt':=(List.getElem?_eq_some_iff.1 h2).1
      rw [hsc k hlt] at h3
      rw [hsc k' hlt'] at h4
      exact hinjks k k' hlt hlt' (H.inj _ _ b0 _ _ (by simpa using hhp k _ h1) (by simpa using hhp k' _ h2) h3 h4)
  refine (hD I w sc vs Hc (hvs.unren hunren)).mono ?_
  rintro e w' ⟨v,I',s',d,h',rfl,hR,hrd,H',E',hlen'⟩
  have hl64:=hlen d h' hR
  have hkeyeq:∀ k,k<h.length→s' k=s (ks.getD k 0):=fun k hk=>(E'.key k hk).trans (hsc k hk)
  -- the names behind the call
  let r:=rkey ks b
  have hr1:∀ k,k<h.length→r k=ks.getD k 0:=fun k hk=>by simp only [r,rkey];rw [if_pos (by omega)]
  have hr2:∀ k,h.length≤k→r k=b+(k - h.length):=fun k hk=>by simp only [r,rkey];rw [if_neg (by omega),hks]
  let sn:Sg:=fun k=>if b≤k∧k<b+64 then s' (h.length+(k - b)) else s k
  have hsn1:∀ k,(b≤k∧k<b+64)→sn k=s' (h.length+(k - b)):=fun k hk=>if_pos hk
  have hsn2:∀ k,¬ (b≤k∧k<b+64)→sn k=s k:=fun k hk=>if_neg hk
  have hwin:∀ k,hp k ≠ none→¬ (b≤k∧k<b+64):=fun k hk hw=>hk (by
    have:=hb (k - b) (by omega)
    rwa [show b+(k - b)=k from by omega] at this)
  have hle:s.le sn:=fun k x hx=>by
    by_cases hw:b≤k∧k<b+64
    · have:=H.top k (by have:=hb (k - b) (by omega);rwa [show b+(k - b)=k from by omega] at this)
      rw [this] at hx;cases hx
    · rw [hsn2 k hw];exact hx
  have hsnr:∀ i,i<h'.length→sn (r i)=s' i:=fun i hi=>by
    by_cases hlt:i<h.length
    · rw [hr1 i hlt,hsn2 _ (hwin _ (hhl i hlt)),hkeyeq i hlt]
    · rw [hr2 i (by omega),hsn1 _ (by omega)]
      congr 1
      omega
  have hren:∀ k y,s' k=some y→sn (r k)=some y:=fun k y hy=>by
    by_cases hk:k<h'.length
    · rw [hsnr k hk];exact hy
    · have:=H'.top k (by simp only [hpL];exact List.getElem?_eq_none_iff.2 (by omega))
      rw [this] at hy;cases hy
  have hrinj:∀ i j,i<h'.length→j<h'.length→r i=r j→i=j:=fun i j hi hj e=>by
    by_cases h1:i<h.length<;>by_cases h2:j<h.length
    · rw [hr1 i h1,hr1 j h2] at e;exact hinjks i j h1 h2 e
    · rw [hr1 i h1,hr2 j (by omega)] at e
      exact absurd ⟨by omega,by omega⟩ (hwin _ (hhl i h1))
    · rw [hr2 i (by omega),hr1 j h2] at e
      exact absurd ⟨by omega,by omega⟩ (hwin _ (hhl j h2))
    · rw [hr2 i (by omega),hr2 j (by omega)] at e;omega
  obtain ⟨hup1,hup2⟩:=appUp_upsFrom r h' 0 hp (fun a c _ h2 _ h4 e=>hrinj a c (by omega) (by omega) e)
  simp only [Nat.zero_add] at hup1 hup2
  let hpn:=appUp hp (upsFrom r 0 h')
  have hcase:∀ k,(∃ i,i<h'.length∧k=r i∧hpn k=(h'[i]?).map (·.map (renCs r)))∨((∀ i,i<h'.length→k ≠ r i)∧hpn k=hp k):=fun k=>by
    by_cases hk:∃ i,i<h'.length∧k=r i
    · obtain ⟨i,hi,rfl⟩:=hk
      exact .inl ⟨i,hi,rfl,hup1 i hi⟩
    · have hk':∀ i,i<h'.length→k ≠ r i:=fun i hi e=>hk ⟨i,hi,e⟩
      exact .inr ⟨hk',hup2 k hk'⟩
  have hkeepsc:Keeps I w w':=E'.keeps Hc
  have hother:∀ k cs b0,hpn k=hp k→(∀ i,i<h'.length→k ≠ r i)→hp k=some (some cs)→s k=some (some b0)→¬ Live sc (hpL h) b0:=fun k cs b0 _ hne hk hs hl=>by
    obtain ⟨i,hi,cs',h1,h2⟩:=hlivec b0 hl
    have:=H.inj k _ b0 cs cs' hk h1 hs h2
    exact hne i (by omega) (by rw [hr1 i hi];exact this)
  have hlive:∀ b0,Live sn hpn b0→Live s hp b0∨w.heap.size≤b0:=by
    rintro b0 ⟨k,cs,hk,hs⟩
    rcases hcase k with ⟨i,hi,rfl,he⟩ | ⟨hne,he⟩
    · rw [hsnr i hi] at hs
      have hi':h'[i]? = some h'[i]:=by simp [hi]
      rw [he,hi'] at hk
      simp only [Option.map_some,Option.some.injEq] at hk
      cases hx:h'[i] with
      | none=>rw [hx] at hk;simp at hk
      | some c0 =>
        rcases E'.live b0 ⟨i,c0,by simp only [hpL];rw [hi',hx],hs⟩ with h1 | h1
        · obtain ⟨i',_,cs',h2,h3⟩:=hlivec b0 h1
          exact .inl ⟨_,cs',h2,h3⟩
        · exact .inr h1
    · rw [he] at hk
      rw [hsn2 k (hwin k (by rw [hk];simp))] at hs
      exact .inl ⟨k,cs,hk,hs⟩
  have hext:Ext m I w s hp I' w' sn hpn:=by
    refine ⟨E'.os,E'.tape,E'.output,E'.size,fun b0 hb0' hl=>E'.same b0 hb0' fun hc=>?_,E'.shp,fun k hk=>hsn2 k (by omega),E'.imm,fun b0 hb0'=>?_,hlive⟩
    · obtain ⟨i',_,cs',h2,h3⟩:=hlivec b0 hc
      exact hl ⟨_,cs',h2,h3⟩
    · rcases E'.imm' b0 hb0' with h1 | h1 | h1
      · exact .inl h1
      · obtain ⟨i',_,cs',h2,h3⟩:=hlivec b0 h1
        exact .inr (.inl ⟨_,cs',h2,h3⟩)
      · exact .inr (.inr h1)
  refine ⟨v,I',sn,d,h',rfl,hR,hlen',hle,⟨fun k hk=>?_,fun k cs hk=>?_,fun k k' b0 cs cs' h1 h2 h3 h4=>?_,H'.imm,H.yng.step hext.size (H.yng.keep hext.same) hlive,H'.wri⟩,hext,hrd.ren hren⟩
  · rcases hcase k with ⟨i,hi,rfl,he⟩ | ⟨hne,he⟩
    · have hk':hpn (r i)=none:=hk
      rw [he] at hk'
      simp [hi] at hk'
    · have hk':hpn k=none:=hk
      rw [he] at hk'
      by_cases hw:b≤k∧k<b+64
      · rw [hsn1 k hw]
        refine H'.top _ ?_
        simp only [hpL]
        refine List.getElem?_eq_none_iff.2 ?_
        refine Nat.le_of_not_lt fun hlt=>hne (h.length+(k - b)) hlt ?_
        rw [hr2 _ (by omega)];omega
      · rw [hsn2 k hw];exact H.top k hk'
  · have hk':hpn k=some (some cs):=hk
    rcases hcase k with ⟨i,hi,rfl,he⟩ | ⟨hne,he⟩
    · have hi':h'[i]? = some h'[i]:=by simp [hi]
      rw [he,hi'] at hk'
      simp only [Option.map_some,Option.some.injEq] at hk'
      cases hx:h'[i] with
      | none=>rw [hx] at hk';simp at hk'
      | some c0 =>
        rw [hx] at hk'
        simp only [Option.map_some,Option.some.injEq] at hk'
        subst hk'
        rw [hsnr i hi]
        rcases H'.blk i c0 (by simp only [hpL];rw [hi',hx]) with ⟨g1,g2⟩ | ⟨b0,arr,T,g1,g2,g3,g4,g5⟩
        · exact .inl ⟨g1,by rw [g2];rfl⟩
        · refine .inr ⟨b0,arr,T,g1,g2,by rw [renCs_eq];simpa using g3,g4,fun j hj=>?_⟩
          obtain ⟨y,hy,hry⟩:=g5 j (by rw [renCs_eq] at hj;simpa using hj)
          exact ⟨y,hy,by simpa [renCs_eq] using hry.ren hren⟩
    · rw [he] at hk'
      rw [hsn2 k (hwin k (by rw [hk'];simp))]
      rcases H.blk k cs hk' with h1 | ⟨b0,arr,T,g1,g2,g3,g4,g5⟩
      · exact .inl h1
      · have hnl:=hother k cs b0 he hne hk' g1
        have hlt:=lt_of_heap g2
        refine .inr ⟨b0,arr,T,g1,by rw [E'.same b0 hlt hnl];exact g2,g3,fun hI=>?_,fun j hj=>?_⟩
        · rcases E'.imm' b0 hI with q | q | q
          · exact g4 q
          · exact hnl q
          · omega
        · obtain ⟨y,hy,hry⟩:=g5 j hj
          exact ⟨y,hy,hry.mono E'.imm hkeepsc E'.shp hle⟩
  · have h1':hpn k=some (some cs):=h1
    have h2':hpn k'=some (some cs'):=h2
    have own:∀ k cs,hpn k=some (some cs)→sn k=some (some b0)→(∃ i c0,i<h'.length∧k=r i∧h'[i]? = some (some c0)∧s' i=some (some b0))∨((∀ i,i<h'.length→k ≠ r i)∧hpn k=hp k∧hp k=some (some cs)∧s k=some (some b0)):=fun k cs hk hs=>by
      rcases hcase k with ⟨i,hi,rfl,he⟩ | ⟨hne,he⟩
      · have hi':h'[i]? = some h'[i]:=by simp [hi]
        rw [he,hi'] at hk
        simp only [Option.map_some,Option.some.injEq] at hk
        cases hx:h'[i] with
        | none=>rw [hx] at hk;simp at hk
        | some c0=>exact .inl ⟨i,c0,hi,rfl,by rw [hi',hx],by rw [← hsnr i hi];exact hs⟩
      · have hk2:=hk
        rw [he] at hk2
        exact .inr ⟨hne,he,hk2,by rw [hsn2 k (hwin k (by rw [hk2];simp))] at hs;exact hs⟩
    rcases own k cs h1' h3 with ⟨i,c0,hi,rfl,e1,e2⟩ | ⟨hne,he,e1,e2⟩<;>rcases own k' cs' h2' h4 with ⟨i',c0',hi',rfl,f1,f2⟩ | ⟨hne',he',f1,f2⟩
    · rw [H'.inj i i' b0 c0 c0' e1 f1 e2 f2]
    · rcases E'.live b0 ⟨i,c0,e1,e2⟩ with q | q
      · exact absurd q (hother k' cs' b0 he' hne' f1 f2)
      · have:=(H.live_lt ⟨k',cs',f1,f2⟩).1;omega
    · rcases E'.live b0 ⟨i',c0',f1,f2⟩ with q | q
      · exact absurd q (hother k cs b0 he hne e1 e2)
      · have:=(H.live_lt ⟨k,cs,e1,e2⟩).1;omega
    · exact H.inj k k' b0 cs cs' e1 f1 e2 f2
end Go.CT
