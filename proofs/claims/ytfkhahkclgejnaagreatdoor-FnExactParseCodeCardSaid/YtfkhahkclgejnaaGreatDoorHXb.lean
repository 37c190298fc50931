/- Contracts of functions of the program, one behind the other, as plain data: what each call returns and which blocks it leaves. -/
import Derived.Test.YtfkhahkclgejnaaGreatDoorChecked
import Derived.KernelRfl
import Derived.WalkKit
import Derived.BigCall
import Derived.Shelf.Strings.Builder1
import Derived.Test.YtfkhahkclgejnaaGreatDoorShelf
import Derived.Laws.IdiomStrings
import Derived.Lib.ItoaNum
import Derived.Test.YtfkhahkclgejnaaGreatDoorHAi
set_option linter.unusedVariables false
set_option linter.unusedSimpArgs false
set_option linter.unusedSectionVars false
set_option maxHeartbeats 16000000
set_option maxRecDepth 100000
namespace Go.Proofs.YtfkhahkclgejnaaGreatDoor.CtG
open Go Go.RowKit
theorem bSize:∃ j:TypeInfo,Tryz.prog.info? 111=some j∧j.size=2:=by
  have h:(Tryz.prog.info? 111).map (·.size)=some 2:=by kernel_rfl
  obtain ⟨j,hj,e⟩:=Option.map_eq_some_iff.1 h
  exact ⟨j,hj,e⟩
theorem bLies:liesAt Tryz.prog Tryz.prog.depth 111 (2 / Tryz.prog.cellsOf 111) 0 111 1=true:=by kernel_rfl
theorem byteInfo:∃ i:TypeInfo,Tryz.prog.info? 5=some i∧i.zero=some (.int .u8 0)∧i.size=1∧i.bytes=1:=by
  have h:(Tryz.prog.info? 5).map (fun i=>(i.zero,i.size,i.bytes))=some (some (.int .u8 0),1,1):=by kernel_rfl
  obtain ⟨i,hi,e⟩:=Option.map_eq_some_iff.1 h
  simp only [Prod.mk.injEq] at e
  exact ⟨i,hi,e.1,e.2.1,e.2.2⟩
theorem check_used (b : Nat) (w : World) (h0 : w.cell? ⟨b, 0, none⟩ = some (.pointer (some ⟨b, 0, none⟩))) :
    Calls Tryz.prog 111 #[.pointer (some ⟨b,0,none⟩)] w fun e w'=>e = .returned (.tuple #[])∧w'=w:=by
  obtain ⟨j,hj,_⟩:=bSize
  go_enter Tryz.func111,Tryz.ntmps111
  go_wp2
  rw [Lib.run_neq_ptr_same w _ Tryz.underlying109 hj]
  go_wp2
  go_end0
  exact ⟨rfl,rfl⟩
theorem check_fresh (b : Nat) (w : World) (h0 : w.cell? ⟨b, 0, none⟩ = some (.pointer none)) (hsh : w.shape? b = some (111, 2)) (hfz : w.frozen? ⟨b, 0, none⟩ = false) :
    Calls Tryz.prog 111 #[.pointer (some ⟨b,0,none⟩)] w fun e w'=>e = .returned (.tuple #[])∧w'=w.setCell ⟨b,0,none⟩ (.pointer (some ⟨b,0,none⟩)):=by
  obtain ⟨j,hj,hjs⟩:=bSize
  go_enter Tryz.func111,Tryz.ntmps111
  go_wp2
  rw [Lib.run_to_unsafe w ⟨b,0,none⟩ Tryz.underlying109 Tryz.underlying144 hj (by rw [hjs];decide) hsh (Nat.zero_lt_succ 1)]
  simp only [Result.andThen]
  rw [Oper.upon_value]
  go_wp2
  rw [run_callFunc_extern Tryz.func121 (by kernel_rfl) (by kernel_rfl) (by kernel_rfl) (e:=Extern.AbiNoEscape.same) (by kernel_rfl)]
  rw [Lib.run_noEscape]
  simp only [Result.andThen]
  rw [Oper.upon_value]
  go_wp2
  rw [Lib.run_from_unsafe w ⟨b,0,none⟩ Tryz.underlying144 Tryz.underlying109 hj hsh bLies]
  simp only [Result.andThen]
  rw [Oper.upon_value]
  go_wp2
  go_end0
  exact ⟨rfl,rfl⟩
theorem check (B b : Nat) (bs : List Value) (w : World) (h : Lib.IsBuilder 111 5 B b bs w) :
    Calls Tryz.prog 111 #[.pointer (some ⟨b,0,none⟩)] w fun e w'=>e = .returned (.tuple #[])∧(Lib.BuilderAt 111 5 B b (.pointer (some ⟨b,0,none⟩)) bs w'∧Below B w w'):=by
  rcases h with h | h
  · refine (check_fresh b w h.cell0 h.shape h.frozen0).mono ?_
    rintro e w' ⟨rfl,rfl⟩
    exact ⟨rfl,h.used _,(Below.refl B w).setCell (p:=⟨b,0,none⟩) h.1 _⟩
  · refine (check_used b w h.cell0).mono ?_
    rintro e w' ⟨rfl,rfl⟩
    exact ⟨rfl,h,Below.refl B _⟩
theorem writeByte (B b : Nat) (bs : List Value) (c : Int) (w : World) (h : Lib.IsBuilder 111 5 B b bs w) (hlen : bs.length + 1 ≤ 140737488355328) (hBw : B ≤ w.heap.size) :
    Calls Tryz.prog 90 #[.pointer (some ⟨b,0,none⟩),.int .u8 c] w fun e w'=>e = .returned .nilIface∧(Lib.BuilderAt 111 5 B b (.pointer (some ⟨b,0,none⟩)) (bs++[.int .u8 c]) w'∧Below B w w'):=by
  obtain ⟨i0,hi,hz0,hz1,hz2⟩:=byteInfo
  go_enter Tryz.func90,Tryz.ntmps90
  go_wp2_with (go_at_call 111;refine (check B b bs _ h).mono ?_)
  rintro e w1 ⟨rfl,h1,hb1⟩
  obtain ⟨hB,v,hbk,hown,hne⟩:=h1
  have c0:w1.cell? ⟨b,0,none⟩=some (.pointer (some ⟨b,0,none⟩)):=by rw [Lib.cell_of_heap hbk];rfl
  have c1:w1.cell? ⟨b,1,none⟩=some v:=by rw [Lib.cell_of_heap hbk];rfl
  go_wp2_with (at_builtin;refine wpList_append_own _ rfl _ _ 31 rfl B 5 i0 (.int .u8 0) 1 1 Tryz.underlying31 hi hz0 hz1 hz2 rfl (by decide) _ _ _ rfl (hown.alloc _) ⟨w1.heap.size,0,none⟩ 1 1 [.int .u8 c] rfl rfl ?c1 ?c2 ?c3 ?c4 ?c5 ?_)
  case c1 =>
    intro j u hj
    match j,hj with
    | 0,hj=>simp at hj;subst hj;simp [Addr.add]
  case c2=>intro u hu;simp at hu;subst hu;rfl
  case c3=>unfold maxLen;omega
  case c4=>omega
  case c5=>have:=hb1.size;simp;omega
  intro v' w2 hown' hgrow _
  have hlt:b<w1.heap.size:=by
    rcases Nat.lt_or_ge b w1.heap.size with h' | h'
    · exact h'
    · simp [Array.getElem?_eq_none h'] at hbk
  have hb2:w2.heap[b]? = some (.cells #[.pointer (some ⟨b,0,none⟩),v] 111 (0,0)):=by
    rw [hgrow.block b (by simp;omega) (fun e=>hne e.symm),Lib.alloc_old w1 _ b hlt]
    exact hbk
  have d0:w2.cell? ⟨b,0,none⟩=some (.pointer (some ⟨b,0,none⟩)):=by rw [Lib.cell_of_heap hb2];rfl
  have d1:w2.cell? ⟨b,1,none⟩=some v:=by rw [Lib.cell_of_heap hb2];rfl
  have f1:w2.frozen? ⟨b,1,none⟩=false:=Lib.frozen_of_heap hb2 1
  obtain ⟨g,cap,rfl⟩:∃ g cap,v' = .slice (some ⟨g,0,none⟩) (bs.length+1) cap:=by
    rcases hown'.2 with ⟨_,h0⟩ | ⟨g,cap,cur,hv,_⟩
    · omega
    · exact ⟨g,cap,hv⟩
  go_wp2
  go_ret
  refine ⟨rfl,?_,?_⟩
  · exact Lib.BuilderAt.put (T:=111) (e:=5) hB hb2 (bs':=bs++[.int .u8 c]) (by simpa using hown') (by decide)
  · exact ((hb1.alloc (by have:=hb1.size;omega) _).grown hgrow (by have:=hb1.size;simp;omega) (fun k hk=>(hown.lt k hk).1)).setCell (p:=⟨b,1,none⟩) hB _
theorem writeString (B b : Nat) (bs : List Value) (s : ByteArray) (w : World) (h : Lib.IsBuilder 111 5 B b bs w) (hlen : bs.length + s.size ≤ 140737488355328) (hBw : B ≤ w.heap.size) :
    Calls Tryz.prog 92 #[.pointer (some ⟨b,0,none⟩),.string s] w fun e w'=>e = .returned (.tuple #[.int .i64 s.size,.nilIface])∧(Lib.BuilderAt 111 5 B b (.pointer (some ⟨b,0,none⟩)) (bs++Lib.strCells s) w'∧Below B w w'):=by
  obtain ⟨i0,hi,hz0,hz1,hz2⟩:=byteInfo
  go_enter Tryz.func92,Tryz.ntmps92
  go_wp2_with (go_at_call 111;refine (check B b bs _ h).mono ?_)
  rintro e w1 ⟨rfl,h1,hb1⟩
  obtain ⟨hB,v,hbk,hown,hne⟩:=h1
  have c0:w1.cell? ⟨b,0,none⟩=some (.pointer (some ⟨b,0,none⟩)):=by rw [Lib.cell_of_heap hbk];rfl
  have c1:w1.cell? ⟨b,1,none⟩=some v:=by rw [Lib.cell_of_heap hbk];rfl
  go_wp2_with (at_builtin;refine Lib.wpList_append_own_string _ rfl _ _ 31 9 rfl B 5 i0 Tryz.underlying31 Tryz.underlying9 hi hz0 hz1 hz2 _ _ _ rfl hown s rfl ?c3 ?c4 ?c5 ?_)
  case c3=>unfold maxLen;omega
  case c4=>omega
  case c5=>have:=hb1.size;omega
  intro v' w2 hown' hgrow _
  have hlt:b<w1.heap.size:=by
    rcases Nat.lt_or_ge b w1.heap.size with h' | h'
    · exact h'
    · simp [Array.getElem?_eq_none h'] at hbk
  have hb2:w2.heap[b]? = some (.cells #[.pointer (some ⟨b,0,none⟩),v] 111 (0,0)):=by
    rw [hgrow.block b hlt (fun e=>hne e.symm)]
    exact hbk
  have d0:w2.cell? ⟨b,0,none⟩=some (.pointer (some ⟨b,0,none⟩)):=by rw [Lib.cell_of_heap hb2];rfl
  have d1:w2.cell? ⟨b,1,none⟩=some v:=by rw [Lib.cell_of_heap hb2];rfl
  have f1:w2.frozen? ⟨b,1,none⟩=false:=Lib.frozen_of_heap hb2 1
  obtain ⟨ao,n',cap,rfl⟩:∃ ao n' cap,v' = .slice ao n' cap:=by
    rcases hown'.2 with ⟨hv,_⟩ | ⟨g,cap,cur,hv,_⟩
    · exact ⟨_,_,_,hv⟩
    · exact ⟨_,_,_,hv⟩
  go_wp2
  go_ret2
  refine ⟨rfl,?_,?_⟩
  · exact Lib.BuilderAt.put (T:=111) (e:=5) hB hb2 (bs':=bs++Lib.strCells s) (by simpa [Lib.strCells_length] using hown') (by decide)
  · exact (hb1.grown hgrow (by have:=hb1.size;omega) (fun k hk=>(hown.lt k hk).1)).setCell (p:=⟨b,1,none⟩) hB _
end Go.Proofs.YtfkhahkclgejnaaGreatDoor.CtG
namespace Go.Proofs.YtfkhahkclgejnaaGreatDoor.CtG
open Go Go.CT Go.RowKit
def ltrL (x:Int):UInt8:=[76,72,85,88].getD x.toNat 0
def labT (xs:List Int):List UInt8:=xs.map ltrL
theorem labT_snoc (zs:List Int) (k:Nat) (hk:k<zs.length):labT (zs.take (k+1))=labT (zs.take k)++[ltrL (zs.getD k 0)]:=by
  unfold labT
  rw [List.take_add_one,List.map_append]
  simp [List.getD,List.getElem?_eq_getElem hk]
theorem fmtLab_any (b off len cap : Nat) (zs : List Int) (w : World) (hmx : len ≤ 70368744177664) (hz : len ≤ zs.length) (hb : b < w.heap.size) (hlab : ∀ z ∈ zs, 0 ≤ z ∧ z ≤ 3)
    (hc:∀ j,j<zs.length→w.cell? ⟨b,off+j,none⟩=some (.int .i64 (zs.getD j 0)))
    (hal:Calls Tryz.prog 68 #[.slice (some ⟨b,off,none⟩) len cap] w fun e w'=>e = .returned (.bool true)∧Below w.heap.size w w') :
    Calls Tryz.prog 60 #[.slice (some ⟨b,off,none⟩) len cap] w fun e w'=>e = .returned (.string ⟨(labT (zs.take len)).toArray⟩)∧Below w.heap.size w w':=by
  go_enter Tryz.func60,Tryz.ntmps60
  go_wp2_with (go_at_call 68;refine hal.mono ?_)
  rintro e w1 ⟨rfl,hb1⟩
  go_wp2
  have hL:∀ k:Nat,k<len→ltrL (zs.getD k 0)=ltrL (zs.getD k 0):=fun _ _=>rfl
  go_loopw [11] (fun i wr => ∃ k : Nat, k ≤ len ∧ i = .int .i64 k ∧ Lib.IsBuilder 111 5 w1.heap.size w1.heap.size (Lib.byteCells (labT (zs.take k))) wr ∧ Below w1.heap.size w1 wr)
    (fun i _=>len - (intOf i).toNat)
  case atStart=>exact ⟨0,Nat.zero_le _,rfl,by simpa [labT,Lib.byteCells] using Lib.fresh_isBuilder 111 5 w1,(Below.refl _ _).alloc (Nat.le_refl _) _⟩
  case round =>
    obtain ⟨k,hk,rfl,hI,hbw⟩:=hrel
    have hcx:k<len→wr.cell? ⟨b,off+k,none⟩=some (.int .i64 (zs.getD k 0)):=fun hlt=>(hbw.cell (by have:=hb1.size;exact Nat.lt_of_lt_of_le hb this)).trans ((hb1.cell (by exact hb)).trans (hc k (by omega)))
    have hr:k<len→0≤zs.getD k 0∧zs.getD k 0≤3:=fun hlt=>by
      rw [List.getD,List.getElem?_eq_getElem (show k<zs.length by omega)]
      exact hlab _ (List.getElem_mem _)
    by_cases hlt:k<len
    · have hcx:=hcx hlt
      have hr:=hr hlt
      generalize hx:zs.getD k 0=x at *
      have hsz:w1.heap.size≤wr.heap.size:=hbw.size
      go_wp2_with (go_at_call 90;refine (writeByte w1.heap.size w1.heap.size _ _ _ hI (by rw [Lib.byteCells_length,labT,List.length_map,List.length_take];omega) hsz).mono ?_)
      all_goals first | omega | skip
      rintro e w2 ⟨rfl,h2,hb2⟩
      go_wp2
      go_roundw
      case rel =>
        refine ⟨k+1,by omega,by go_num,?_,hbw.trans hb2⟩
        rw [labT_snoc zs k (by omega),Lib.byteCells_append,hx]
        have e:Lib.byteCells [ltrL x]=[.int .u8 (((⟨#[76,72,85,88]⟩:ByteArray)[x.toNat]'(by show x.toNat<4;omega)).toNat:Nat)]:=by
          obtain rfl | rfl | rfl | rfl:x=0∨x=1∨x=2∨x=3:=by omega
          all_goals rfl
        rw [e]
        exact Or.inr h2
      case measure=>simp [intOf];omega
    · have:k=len:=by omega
      subst this
      go_wp2_with (go_at_call 91;refine (Tryz.Builder_String_any w1.heap.size w1.heap.size _ _ hI (by have:=hbw.size;simpa using this)).mono ?_)
      rintro e w2 rfl hb2
      go_wp2
      go_ret
      exact ⟨rfl,hb1.trans ((hbw.trans hb2).mono hb1.size)⟩
theorem bKeep {T e:TypeId} {B b:Nat} {bs:List Value} {w w':World} (h:Lib.IsBuilder T e B b bs w) (hb:Below w.heap.size w w'):Lib.IsBuilder T e B b bs w':=by
  have key:∀ p,Lib.BuilderAt T e B b p bs w→Lib.BuilderAt T e B b p bs w':=by
    rintro p ⟨h1,v,h2,h3,h4⟩
    have lt:∀ k x,w.heap[k]? = some x→k<w.heap.size:=fun k x e=>(Array.getElem?_eq_some_iff.1 e).1
    refine ⟨h1,v,by rw [hb.block b (lt _ _ h2)];exact h2,⟨h3.1,?_⟩,h4⟩
    rcases h3.2 with q | ⟨g,cap,cur,q1,q2,q3,q4⟩
    · exact .inl q
    · exact .inr ⟨g,cap,cur,q1,q2,by rw [hb.block g (lt _ _ q3)];exact q3,q4⟩
  exact h.imp (key _) (key _)
theorem fmtLab_none (a : Option Addr) (cap : Nat) (w : World)
    (hal:Calls Tryz.prog 68 #[.slice a 0 cap] w fun e w'=>e = .returned (.bool true)∧Below w.heap.size w w') :
    Calls Tryz.prog 60 #[.slice a 0 cap] w fun e w'=>e = .returned (.string ⟨#[]⟩)∧Below w.heap.size w w':=by
  go_enter Tryz.func60,Tryz.ntmps60
  go_wp2_with (go_at_call 68;refine hal.mono ?_)
  rintro e w1 ⟨rfl,hb1⟩
  go_wp2
  refine wp_loop_rounds 1 ?_
  rw [rounds_succ]
  have hI:Lib.IsBuilder 111 5 w1.heap.size w1.heap.size (Lib.byteCells []) (w1.alloc (.cells #[.pointer none,.slice none 0 0] 111)):=by simpa [Lib.byteCells] using Lib.fresh_isBuilder 111 5 w1
  go_wp2_with (go_at_call 91;refine (Tryz.Builder_String_any w1.heap.size w1.heap.size _ _ hI (by simp)).mono ?_)
  rintro e w2 ⟨rfl,hb2⟩
  go_wp2
  go_ret
  exact ⟨rfl,hb1.trans ((((Below.refl _ _).alloc (Nat.le_refl _) _).trans hb2).mono hb1.size)⟩
def lstT (tx:Nat→List UInt8) (n:Nat):List UInt8:=(List.range n).flatMap fun k=>tx k++[10]
theorem lstT_succ (tx:Nat→List UInt8) (n:Nat):lstT tx (n+1)=lstT tx n++(tx n++[10]):=by
  unfold lstT
  rw [List.range_succ,List.flatMap_append]
  simp
theorem lstT_len (tx : Nat → List UInt8) (h : ∀ k, (tx k).length ≤ 1000) : ∀ n, (lstT tx n).length ≤ n * 1001
  | 0=>by simp [lstT]
  | n+1=>by
    have:=lstT_len tx h n
    have:=h n
    rw [lstT_succ];simp;omega
theorem listText_any (v0 v1 : Value) (b off len cap : Nat) (f : Nat → Nat → Int) (tx : Nat → List UInt8) (w : World) (hmx : len ≤ 1000000) (hb : b < w.heap.size) (htx : ∀ k, (tx k).length ≤ 1000)
    (hc:∀ k j,k<len→j<5→w.cell? ⟨b,off+(k * 5+j),none⟩=some (.int .i64 (f k j)))
    (htext:∀ k,k<len→∀ w',Below w.heap.size w w'→Calls Tryz.prog 93 #[.agg #[.int .i64 (f k 0),.int .i64 (f k 1),.int .i64 (f k 2),.int .i64 (f k 3),.int .i64 (f k 4)]] w' fun e w''=>e = .returned (.string ⟨(tx k).toArray⟩)∧Below w'.heap.size w' w'') :
    Calls Tryz.prog 61 #[.agg #[v0,v1,.slice (some ⟨b,off,none⟩) len cap]] w fun e w'=>e = .returned (.string ⟨(lstT tx len).toArray⟩)∧Below w.heap.size w w':=by
  go_enter Tryz.func61,Tryz.ntmps61
  go_wp2
  have h0:Lib.IsBuilder 111 5 (w.heap.size+1) (w.heap.size+1) (Lib.byteCells (lstT tx 0)) ((w.alloc (.cells #[v0,v1,.slice (some ⟨b,off,none⟩) len cap] 25)).alloc (.cells #[.pointer none,.slice none 0 0] 111)):=by
    have:=Lib.fresh_isBuilder 111 5 (w.alloc (.cells #[v0,v1,.slice (some ⟨b,off,none⟩) len cap] 25))
    simpa [lstT,Lib.byteCells] using this
  go_loopw [9] (fun i wr => ∃ k : Nat, k ≤ len ∧ i = .int .i64 k ∧ Lib.IsBuilder 111 5 (w.heap.size + 1) (w.heap.size + 1) (Lib.byteCells (lstT tx k)) wr ∧ Below w.heap.size w wr ∧ w.heap.size + 2 ≤ wr.heap.size)
    (fun i _=>len - (intOf i).toNat)
  case atStart=>exact ⟨0,Nat.zero_le _,rfl,h0,((Below.refl _ _).alloc (Nat.le_refl _) _).alloc (by simp) _,by simp⟩
  case round =>
    obtain ⟨k,hk,rfl,hI,hbw,hsz⟩:=hrel
    have hcx:∀ j,k<len→j<5→wr.cell? ⟨b,off+(k * 5+j),none⟩=some (.int .i64 (f k j)):=fun j hlt hj=>(hbw.cell (by exact hb)).trans (hc k j hlt hj)
    by_cases hlt:k<len
    · have c0:wr.cell? ⟨b,off+k * 5,none⟩=some (.int .i64 (f k 0)):=hcx 0 hlt (by omega)
      have c1:wr.cell? ⟨b,off+k * 5+1,none⟩=some (.int .i64 (f k 1)):=by have:=hcx 1 hlt (by omega);rwa [show off+(k * 5+1)=off+k * 5+1 by omega] at this
      have c2:wr.cell? ⟨b,off+k * 5+2,none⟩=some (.int .i64 (f k 2)):=by have:=hcx 2 hlt (by omega);rwa [show off+(k * 5+2)=off+k * 5+2 by omega] at this
      have c3:wr.cell? ⟨b,off+k * 5+3,none⟩=some (.int .i64 (f k 3)):=by have:=hcx 3 hlt (by omega);rwa [show off+(k * 5+3)=off+k * 5+3 by omega] at this
      have c4:wr.cell? ⟨b,off+k * 5+4,none⟩=some (.int .i64 (f k 4)):=by have:=hcx 4 hlt (by omega);rwa [show off+(k * 5+4)=off+k * 5+4 by omega] at this
      clear hcx
      have htext:=htext k hlt
      go_wp2_with (go_at_call 93;refine (htext _ ?_).mono ?_)
      case refine_1=>exact hbw.alloc hbw.size _
      rintro e w2 ⟨rfl,hb2⟩
      have hb0:Below wr.heap.size wr (wr.alloc (.cells #[.int .i64 (f k 0),.int .i64 (f k 1),.int .i64 (f k 2),.int .i64 (f k 3),.int .i64 (f k 4)] 42)):=(Below.refl _ wr).alloc (Nat.le_refl _) _
      have hI2:=bKeep (bKeep hI hb0) hb2
      have hs2:=hb2.size
      have hs1:=hb0.size
      have hl1:=htx k
      have hl2:=lstT_len tx htx k
      have hbz:Below w.heap.size w w2:=(hbw.trans (hb0.mono (by omega))).trans (hb2.mono (by omega))
      go_wp2_with (go_at_call 92;refine (writeString (w.heap.size+1) (w.heap.size+1) _ _ _ hI2 ?_ ?_).mono ?_)
      case refine_1 =>
        have:((⟨(tx k).toArray⟩:ByteArray)++⟨#[10]⟩).size=(tx k).length+1:=by simp [ByteArray.size]
        rw [Lib.byteCells_length,this];omega
      case refine_2=>omega
      rintro e w3 ⟨rfl,h3,hb3⟩
      go_wp2
      go_roundw
      case rel =>
        refine ⟨k+1,by omega,by go_num,?_,hbz.trans (hb3.mono (by omega)),by have:=hb3.size;omega⟩
        have e:Lib.strCells ((⟨(tx k).toArray⟩:ByteArray)++⟨#[10]⟩)=Lib.byteCells (tx k++[10]):=by simp [Lib.strCells,Lib.byteCells]
        rw [e,← Lib.byteCells_append,← lstT_succ] at h3
        exact Or.inr h3
      case measure=>simp [intOf];omega
    · have:k=len:=by omega
      subst this
      go_wp2_with (go_at_call 91;refine (Tryz.Builder_String_any (w.heap.size+1) (w.heap.size+1) _ _ hI (by omega)).mono ?_)
      rintro e w2 ⟨rfl,hb2⟩
      go_wp2
      go_ret
      exact ⟨rfl,hbw.trans (hb2.mono (by omega))⟩
theorem decLen (u:Nat):(Lib.decDigits u).length≤u+1:=by
  induction u using Nat.strongRecOn with
  | _ u ih =>
    rw [Lib.decDigits]
    split
    · simp
    · have:=ih (u / 10) (by omega)
      simp;omega
theorem decStep {m:Nat} (h:10≤m):Lib.decDigits m=Lib.decDigits (m / 10)++[48+UInt8.ofNat (m % 10)]:=by
  conv=>lhs;rw [Lib.decDigits,dif_neg (show ¬ m<10 by omega)]
  simp
theorem dec_any (n : Nat) (hn : n < 4611686018427387904) (w : World) :
    Calls Tryz.prog 67 #[.int .i64 n] w fun e w'=>e = .returned (.string ⟨(Lib.decDigits n).toArray⟩)∧Below w.heap.size w w':=by
  have h1:¬ ((n:Int) < -9223372036854775807):=by omega
  have h2:¬ ((n:Int)<0):=by omega
  go_enter Tryz.func67,Tryz.ntmps67
  go_wp2
  go_loopw [0, 3] (fun i s wr => ∃ (m : Nat) (acc : List UInt8), i = .int .i64 m ∧ m ≤ n ∧ s = .string ⟨acc.toArray⟩ ∧ Lib.decDigits m ++ acc = Lib.decDigits n ∧ Below w.heap.size w wr)
    (fun i _ _=>(intOf i).toNat)
  case atStart=>exact ⟨n,[],rfl,Nat.le_refl _,rfl,by simp,Below.refl _ _⟩
  case round =>
    obtain ⟨m,acc,rfl,hm,rfl,hacc,hbw⟩:=hrel
    have hcv:∀ c:Nat,c<208→(convert 31 9 (.slice (some ⟨wr.heap.size,0,none⟩) 1 1)).run Tryz.prog (wr.alloc (.cells #[.int .u8 (48+(c:Int))] 5)) = .ok (.string ⟨[UInt8.ofNat (48+c)].toArray⟩) (wr.alloc (.cells #[.int .u8 (48+(c:Int))] 5)):=fun c hc=>by
      refine run_convert_bytes_back _ 31 9 5 ⟨wr.heap.size,0,none⟩ 1 [UInt8.ofNat (48+c)] Tryz.underlying31 Tryz.underlying5 Tryz.underlying9 fun j hj=>?_
      have:j=0:=by simpa using hj
      subst this
      have e:(UInt8.ofNat (48+c)).toNat=48+c:=by rw [UInt8.toNat_ofNat'];omega
      show (wr.alloc (.cells #[.int .u8 (48+(c:Int))] 5)).cell? ⟨wr.heap.size,0+0,none⟩=some (.int .u8 (((UInt8.ofNat (48+c)).toNat:Nat):Int))
      rw [e,Lib.cell_of_heap (heap_alloc_new wr _)]
      rfl
    have hal:acc.length≤n+1:=by
      have h1:=congrArg List.length hacc
      have h2:=decLen n
      rw [List.length_append] at h1;omega
    have hsz:(1:Int)+(acc.length:Int)≤9223372036854775807:=by omega
    by_cases h9:9<m
    · have hc1:=hcv (m % 10) (by omega)
      rw [show ((48:Int)+((m % 10:Nat):Int))=48+(m:Int) % 10 by omega] at hc1
      go_wp2
      go_roundw
      case rel =>
        refine ⟨m / 10,(48+UInt8.ofNat (m % 10)) :: acc,by simp,by omega,by first | (congr 1;done) | (congr 1;simp),?_,hbw.alloc hbw.size _⟩
        rw [← hacc,decStep (show 10≤m by omega)]
        simp
      case measure=>simp [intOf];omega
    · have hc1:=hcv m (by omega)
      go_wp2
      go_ret
      refine ⟨?_,hbw.alloc hbw.size _⟩
      rw [← hacc,Lib.decDigits_one (show m<10 by omega)]
      simp
      first | (congr 1;done) | (congr 1;simp) | rfl
end Go.Proofs.YtfkhahkclgejnaaGreatDoor.CtG
