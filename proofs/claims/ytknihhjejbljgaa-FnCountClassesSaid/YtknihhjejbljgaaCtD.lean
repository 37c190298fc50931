/- Operations that only read: what they give as plain data, and under which condition. -/
import Derived.Test.YtknihhjejbljgaaCtC
set_option linter.unusedVariables false
set_option linter.unusedSimpArgs false
namespace Go.CT

/-- The range of a kind of integers. -/
def InK : IntKind → Int → Prop
  | .i8, n => -128 ≤ n ∧ n ≤ 127
  | .i16, n => -32768 ≤ n ∧ n ≤ 32767
  | .i32, n => -2147483648 ≤ n ∧ n ≤ 2147483647
  | .i64, n => -9223372036854775808 ≤ n ∧ n ≤ 9223372036854775807
  | .u8, n => 0 ≤ n ∧ n ≤ 255
  | .u16, n => 0 ≤ n ∧ n ≤ 65535
  | .u32, n => 0 ≤ n ∧ n ≤ 4294967295
  | .u64, n => 0 ≤ n ∧ n ≤ 18446744073709551615

theorem wrap_of_InK {k : IntKind} {n : Int} (h : InK k n) : k.wrap n = n := by
  cases k <;> simp only [InK] at h <;> simp only [IntKind.wrap, IntKind.bits, IntKind.signed] <;> (try simp) <;> (try split) <;> omega

abbrev DI (k : IntKind) (n : Int) : D := .c (.v (.int k n))
abbrev DB (b : Bool) : D := .c (.v (.bool b))
abbrev DS (s : ByteArray) : D := .c (.v (.string s))

def dint (op : BinOp) (k : IntKind) (a b : Int) : Option (Prop × D) :=
  match op with
  | .add => some (InK k (a + b), DI k (a + b))
  | .sub => some (InK k (a - b), DI k (a - b))
  | .mul => some (InK k (a * b), DI k (a * b))
  | .quo => some ((0 ≤ a ∧ 0 < b) ∧ InK k a, DI k (a / b))
  | .rem => some (0 ≤ a ∧ 0 < b, DI k (a % b))
  | .and => some ((0 ≤ a ∧ 0 ≤ b) ∧ InK k a ∧ InK k b, DI k ((a.toNat &&& b.toNat : Nat) : Int))
  | .or => some ((0 ≤ a ∧ 0 ≤ b) ∧ InK k a ∧ InK k b, DI k ((a.toNat ||| b.toNat : Nat) : Int))
  | .xor => some ((0 ≤ a ∧ 0 ≤ b) ∧ InK k a ∧ InK k b, DI k ((a.toNat ^^^ b.toNat : Nat) : Int))
  | .andNot => some ((0 ≤ a ∧ 0 ≤ b) ∧ InK k a ∧ InK k b, DI k ((a.toNat ^^^ (a.toNat &&& b.toNat) : Nat) : Int))
  | .eql => some (True, DB (a == b))
  | .neq => some (True, DB (a != b))
  | .lss => some (True, DB (decide (a < b)))
  | .leq => some (True, DB (decide (a ≤ b)))
  | .gtr => some (True, DB (decide (b < a)))
  | .geq => some (True, DB (decide (b ≤ a)))
  | _ => none

def dshift (op : BinOp) (k : IntKind) (a b : Int) : Option (Prop × D) :=
  match op with
  | .shl => some ((0 ≤ b ∧ b ≤ k.bits) ∧ InK k (a * 2 ^ b.toNat), DI k (a * 2 ^ b.toNat))
  | .shr => some (0 ≤ b ∧ b ≤ k.bits, DI k (a / 2 ^ b.toNat))
  | _ => none

def dstr (op : BinOp) (a b : ByteArray) : Option (Prop × D) :=
  match op with
  | .add => some (((a.size + b.size : Nat) : Int) ≤ 9223372036854775807, DS (a ++ b))
  | .eql => some (True, DB (a.toList == b.toList))
  | .neq => some (True, DB (!(a.toList == b.toList)))
  | _ => none

def dbin (op : BinOp) (x y : D) : Option (Prop × D) :=
  match x, y with
  | .c (.v (.int k a)), .c (.v (.int k' b)) => if op = .shl ∨ op = .shr then dshift op k a b else if k = k' then dint op k a b else none
  | .c (.v (.bool a)), .c (.v (.bool b)) => (match op with | .eql => some (True, DB (a == b)) | .neq => some (True, DB (a != b)) | _ => none)
  | .c (.v (.string a)), .c (.v (.string b)) => dstr op a b
  | _, _ => none

def dun (op : UnOp) (x : D) : Option (Prop × D) :=
  match op, x with
  | .not, .c (.v (.bool b)) => some (True, DB !b)
  | .neg, .c (.v (.int k n)) => some (InK k (0 - n), DI k (0 - n))
  | _, _ => none

section
variable {P : Program}

theorem rd_scalar {I : Nat → Prop} {w : World} {s : Sg} {x y : Value} (h : RD I w s x (.c (.v y))) : x = y ∧ one y = true := by
  cases h with
  | c _ _ h => cases h with | v _ _ h1 => exact ⟨rfl, h1⟩

theorem rd_int {I : Nat → Prop} {w : World} {s : Sg} (k : IntKind) (n : Int) : RD I w s (.int k n) (DI k n) := .c _ _ (.v _ _ rfl)
theorem rd_bool {I : Nat → Prop} {w : World} {s : Sg} (b : Bool) : RD I w s (.bool b) (DB b) := .c _ _ (.v _ _ rfl)
theorem rd_str {I : Nat → Prop} {w : World} {s : Sg} (b : ByteArray) : RD I w s (.string b) (DS b) := .c _ _ (.v _ _ rfl)

theorem ofInt_nonneg (n : Nat) (a : Int) (h : 0 ≤ a) (h2 : a.toNat < 2 ^ n) : (BitVec.ofInt n a).toNat = a.toNat := by
  rw [BitVec.toNat_ofInt]
  obtain ⟨m, rfl⟩ := Int.eq_ofNat_of_zero_le h
  simp only [Int.toNat_natCast] at h2 ⊢
  have : ((2 ^ n : Nat) : Int) = (2 : Int) ^ n := by simp
  rw [Int.emod_eq_of_lt (by omega) (by omega)]
  simp

theorem bits_bound {k : IntKind} {a : Int} (h0 : 0 ≤ a) (h : InK k a) : a.toNat < 2 ^ k.bits ∧ ∀ m : Nat, m ≤ a.toNat → InK k (m : Int) := by
  cases k <;> simp only [InK, IntKind.bits] at h ⊢ <;> exact ⟨by omega, fun m hm => by omega⟩

theorem InK_pow {k : IntKind} : ∃ t, (∀ m : Nat, InK k (m : Int) ↔ m < 2 ^ t) ∧ t ≤ k.bits := by
  cases k
  · exact ⟨7, fun m => by simp only [InK]; omega, by simp [IntKind.bits]⟩
  · exact ⟨15, fun m => by simp only [InK]; omega, by simp [IntKind.bits]⟩
  · exact ⟨31, fun m => by simp only [InK]; omega, by simp [IntKind.bits]⟩
  · exact ⟨63, fun m => by simp only [InK]; omega, by simp [IntKind.bits]⟩
  · exact ⟨8, fun m => by simp only [InK]; omega, by simp [IntKind.bits]⟩
  · exact ⟨16, fun m => by simp only [InK]; omega, by simp [IntKind.bits]⟩
  · exact ⟨32, fun m => by simp only [InK]; omega, by simp [IntKind.bits]⟩
  · exact ⟨64, fun m => by simp only [InK]; omega, by simp [IntKind.bits]⟩

theorem bits_run {k : IntKind} {a b : Int} (ha : 0 ≤ a) (hb : 0 ≤ b) (hka : InK k a) (hkb : InK k b) (w : World) :
    (Op.intBits .and k a b).run P w = .ok (.int k ((a.toNat &&& b.toNat : Nat) : Int)) w ∧
    (Op.intBits .or k a b).run P w = .ok (.int k ((a.toNat ||| b.toNat : Nat) : Int)) w ∧
    (Op.intBits .xor k a b).run P w = .ok (.int k ((a.toNat ^^^ b.toNat : Nat) : Int)) w ∧
    (Op.intBits .andNot k a b).run P w = .ok (.int k ((a.toNat ^^^ (a.toNat &&& b.toNat) : Nat) : Int)) w := by
  obtain ⟨t, ht, htk⟩ := InK_pow (k := k)
  have ea : InK k (a.toNat : Int) := by rw [Int.toNat_of_nonneg ha]; exact hka
  have eb : InK k (b.toNat : Int) := by rw [Int.toNat_of_nonneg hb]; exact hkb
  have la := (ht _).1 ea
  have lb := (ht _).1 eb
  have hp : 2 ^ t ≤ 2 ^ k.bits := Nat.pow_le_pow_right (by omega) htk
  have na := ofInt_nonneg k.bits a ha (by omega)
  have nb := ofInt_nonneg k.bits b hb (by omega)
  have fin : ∀ m : Nat, m < 2 ^ t → k.wrap (m : Int) = m := fun m hm => wrap_of_InK ((ht m).2 hm)
  refine ⟨?_, ?_, ?_, ?_⟩
  · show Result.ok _ _ = _
    rw [BitVec.toNat_and, na, nb, fin _ (Nat.lt_of_le_of_lt Nat.and_le_left la)]
  · show Result.ok _ _ = _
    rw [BitVec.toNat_or, na, nb, fin _ (Nat.or_lt_two_pow la lb)]
  · show Result.ok _ _ = _
    rw [BitVec.toNat_xor, na, nb, fin _ (Nat.xor_lt_two_pow la lb)]
  · show Result.ok _ _ = _
    have e : (BitVec.ofInt k.bits a &&& ~~~(BitVec.ofInt k.bits b)) = (BitVec.ofInt k.bits a ^^^ (BitVec.ofInt k.bits a &&& BitVec.ofInt k.bits b)) := by
      ext i hi
      simp
      cases (BitVec.ofInt k.bits a)[i] <;> cases (BitVec.ofInt k.bits b)[i] <;> rfl
    rw [e, BitVec.toNat_xor, BitVec.toNat_and, na, nb, fin _ (Nat.xor_lt_two_pow la (Nat.lt_of_le_of_lt Nat.and_le_left la))]

theorem dint_sound {op : BinOp} {k : IntKind} {a b : Int} {vc : Prop} {d : D} (h : dint op k a b = some (vc, d)) (hvc : vc) (hsh : op ≠ .shl ∧ op ≠ .shr) (t : TypeId) (w : World) :
    ∃ y, (binOp op t (.int k a) (.int k b)).run P w = .ok y w ∧ d = .c (.v y) ∧ one y = true := by
  cases op <;> simp only [dint, Option.some.injEq, Prod.mk.injEq, reduceCtorEq] at h <;> (try (obtain ⟨rfl, rfl⟩ := h)) <;> first
    | exact absurd rfl hsh.1
    | exact absurd rfl hsh.2
    | (refine ⟨_, ?_, rfl, rfl⟩
       simp only [binOp, ne_eq, not_true_eq_false, if_false]
       first
         | exact (bits_run hvc.1.1 hvc.1.2 hvc.2.1 hvc.2.2 w).1
         | exact (bits_run hvc.1.1 hvc.1.2 hvc.2.1 hvc.2.2 w).2.1
         | exact (bits_run hvc.1.1 hvc.1.2 hvc.2.1 hvc.2.2 w).2.2.1
         | exact (bits_run hvc.1.1 hvc.1.2 hvc.2.1 hvc.2.2 w).2.2.2
         | (simp only [Op.intArith, wrap_of_InK hvc]; rfl)
         | (simp only [Op.intCmp]; rfl)
         | (have h0 : ¬ (b = 0) := by omega
            simp only [Op.intDiv, if_neg h0, Int.tmod_eq_emod_of_nonneg hvc.1]; rfl)
         | (have h0 : ¬ (b = 0) := by omega
            have hb : InK k (a / b) := by
              have h1 : 0 ≤ a / b := Int.ediv_nonneg hvc.1.1 (by omega)
              have h2 : a / b ≤ a := Int.ediv_le_self b hvc.1.1
              have := hvc.2
              cases k <;> simp only [InK] at this ⊢ <;> omega
            simp only [Op.intDiv, if_neg h0, Int.tdiv_eq_ediv_of_nonneg hvc.1.1, wrap_of_InK hb]; rfl))

theorem dshift_sound {op : BinOp} {k k' : IntKind} {a b : Int} {vc : Prop} {d : D} (h : dshift op k a b = some (vc, d)) (hvc : vc) (t : TypeId) (w : World) :
    ∃ y, (binOp op t (.int k a) (.int k' b)).run P w = .ok y w ∧ d = .c (.v y) ∧ one y = true := by
  cases op <;> simp only [dshift, Option.some.injEq, Prod.mk.injEq, reduceCtorEq] at h
  · obtain ⟨rfl, rfl⟩ := h
    refine ⟨_, ?_, rfl, rfl⟩
    have h0 : ¬ (b < 0) := by omega
    have hm : min b.toNat k.bits = b.toNat := by omega
    simp only [binOp, Op.shift, if_neg h0, hm, wrap_of_InK hvc.2]
    rfl
  · obtain ⟨rfl, rfl⟩ := h
    refine ⟨_, ?_, rfl, rfl⟩
    have h0 : ¬ (b < 0) := by omega
    have hm : min b.toNat k.bits = b.toNat := by omega
    have hp : (0 : Int) ≤ 2 ^ b.toNat := Int.le_of_lt (Int.pow_pos (by omega))
    simp only [binOp, Op.shift, if_neg h0, hm]
    rw [Int.fdiv_eq_ediv_of_nonneg _ hp]
    rfl

theorem dstr_sound {op : BinOp} {a b : ByteArray} {vc : Prop} {d : D} (h : dstr op a b = some (vc, d)) (hvc : vc) (t : TypeId) (w : World) :
    ∃ y, (binOp op t (.string a) (.string b)).run P w = .ok y w ∧ d = .c (.v y) ∧ one y = true := by
  cases op <;> simp only [dstr, Option.some.injEq, Prod.mk.injEq, reduceCtorEq] at h <;> (obtain ⟨rfl, rfl⟩ := h) <;> refine ⟨_, ?_, rfl, rfl⟩ <;> simp only [binOp, Op.stringOp]
  · rw [if_neg (by simp [IntKind.max, IntKind.signed, IntKind.bits]; omega)]
    rfl
  · rfl
  · rfl

end
end Go.CT
