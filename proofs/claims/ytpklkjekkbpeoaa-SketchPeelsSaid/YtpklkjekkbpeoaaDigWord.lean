/- DERIVED. Words of 32 bits, and what the language's operations make of them. -/
import Derived.Test.YtpklkjekkbpeoaaSegMem
namespace Go.Proofs.Ytpklkjekkbpeoaa
open Go.RowKit
set_option linter.unusedVariables false
set_option linter.unusedSimpArgs false

abbrev W32 := BitVec 32
/-- A word, a byte as the number that a value holds (behind a name, that the walk's rules leave it alone). -/
def wv (x : W32) : Int := (x.toNat : Int)
def bv (b : UInt8) : Int := (b.toNat : Int)
theorem u32_wrap (n : Int) : IntKind.u32.wrap n = n % 4294967296 := by simp [IntKind.wrap, IntKind.bits, IntKind.signed]
theorem u32_in (x : W32) : IntKind.u32.wrap (wv x) = wv x := by
  rw [u32_wrap]
  unfold wv
  have := x.isLt
  omega
theorem w_of (x : W32) : BitVec.ofInt IntKind.u32.bits (wv x) = x := by
  show BitVec.ofInt 32 (x.toNat : Int) = x
  simp
theorem w_add (t : TypeId) (x y : W32) : binOp .add t (.int .u32 (wv x)) (.int .u32 (wv y)) = pure (.int .u32 (wv (x + y))) := by
  unfold wv
  have : IntKind.u32.wrap ((x.toNat : Int) + (y.toNat : Int)) = ((x + y).toNat : Int) := by
    rw [u32_wrap, BitVec.toNat_add]
    omega
  simp [binOp, Op.intArith, this]
theorem w_xor (t : TypeId) (x y : W32) : binOp .xor t (.int .u32 (wv x)) (.int .u32 (wv y)) = pure (.int .u32 (wv (x ^^^ y))) := by
  simp only [binOp_xor, Op.intBits, w_of]
  exact congrArg (fun n => pure (Value.int .u32 n)) (u32_in (x ^^^ y))
theorem w_and (t : TypeId) (x y : W32) : binOp .and t (.int .u32 (wv x)) (.int .u32 (wv y)) = pure (.int .u32 (wv (x &&& y))) := by
  simp only [binOp_and, Op.intBits, w_of]
  exact congrArg (fun n => pure (Value.int .u32 n)) (u32_in (x &&& y))
theorem w_or (t : TypeId) (x y : W32) : binOp .or t (.int .u32 (wv x)) (.int .u32 (wv y)) = pure (.int .u32 (wv (x ||| y))) := by
  simp only [binOp_or, Op.intBits, w_of]
  exact congrArg (fun n => pure (Value.int .u32 n)) (u32_in (x ||| y))
theorem w_andNot (t : TypeId) (x y : W32) : binOp .andNot t (.int .u32 (wv x)) (.int .u32 (wv y)) = pure (.int .u32 (wv (x &&& ~~~y))) := by
  simp only [binOp_andNot, Op.intBits, w_of]
  exact congrArg (fun n => pure (Value.int .u32 n)) (u32_in (x &&& ~~~y))
theorem w_not (x : W32) : Op.unary .xor (.int .u32 (wv x)) = pure (.int .u32 (wv (~~~x))) := by
  have h : BitVec.ofInt 32 4294967295 = BitVec.allOnes 32 := by decide +kernel
  have h2 : (BitVec.allOnes 32 ^^^ x) = ~~~x := BitVec.allOnes_xor
  simp only [unary_xor, Op.intBits, w_of]
  have h3 : BitVec.ofInt IntKind.u32.bits (if IntKind.u32.signed = true then -1 else IntKind.u32.max) = BitVec.allOnes 32 := h
  rw [h3]
  exact congrArg (fun n => pure (Value.int .u32 n)) ((congrArg (fun z : W32 => IntKind.u32.wrap (wv z)) h2).trans (u32_in (~~~x)))
theorem w_shl (t : TypeId) (yk : IntKind) (x : W32) (y : Int) (h : 0 ≤ y) : binOp .shl t (.int .u32 (wv x)) (.int yk y) = pure (.int .u32 (wv (x <<< y.toNat))) := by
  unfold wv
  have hy : ¬ y < 0 := by omega
  have : IntKind.u32.wrap ((x.toNat : Int) * 2 ^ (min y.toNat IntKind.u32.bits)) = ((x <<< y.toNat).toNat : Int) := by
    rw [u32_wrap, BitVec.toNat_shiftLeft, Nat.shiftLeft_eq]
    rcases Nat.lt_or_ge y.toNat 32 with h | h
    · rw [Nat.min_eq_left (show y.toNat ≤ IntKind.u32.bits from Nat.le_of_lt h)]
      show (x.toNat : Int) * 2 ^ y.toNat % 4294967296 = ((x.toNat * 2 ^ y.toNat % 4294967296 : Nat) : Int)
      rw [Int.natCast_emod, Int.natCast_mul, Int.natCast_pow]
      rfl
    · rw [Nat.min_eq_right (show IntKind.u32.bits ≤ y.toNat from h)]
      obtain ⟨m, hm⟩ := Nat.exists_eq_add_of_le h
      rw [hm, Nat.pow_add, show (IntKind.u32.bits) = 32 from rfl]
      have h1 : x.toNat * (2 ^ 32 * 2 ^ m) % 2 ^ 32 = 0 := by rw [show x.toNat * (2 ^ 32 * 2 ^ m) = 2 ^ 32 * (x.toNat * 2 ^ m) by rw [Nat.mul_left_comm]]; exact Nat.mul_mod_right _ _
      rw [h1]
      omega
  rw [binOp_shl]
  simp only [Op.shift, if_neg hy, this]
theorem w_shr (t : TypeId) (yk : IntKind) (x : W32) (y : Int) (h : 0 ≤ y) : binOp .shr t (.int .u32 (wv x)) (.int yk y) = pure (.int .u32 (wv (x >>> y.toNat))) := by
  unfold wv
  have hy : ¬ y < 0 := by omega
  have : ((x.toNat : Int)).fdiv (2 ^ (min y.toNat IntKind.u32.bits)) = ((x >>> y.toNat).toNat : Int) := by
    rw [BitVec.toNat_ushiftRight, Nat.shiftRight_eq_div_pow, Int.fdiv_eq_ediv_of_nonneg _ (Int.le_of_lt (Int.pow_pos (by omega)))]
    rcases Nat.lt_or_ge y.toNat 32 with h | h
    · rw [Nat.min_eq_left (show y.toNat ≤ IntKind.u32.bits from Nat.le_of_lt h)]
      rw [Int.natCast_ediv, Int.natCast_pow]
      rfl
    · rw [Nat.min_eq_right (show IntKind.u32.bits ≤ y.toNat from h)]
      have h1 : x.toNat / 2 ^ y.toNat = 0 := Nat.div_eq_of_lt (Nat.lt_of_lt_of_le x.isLt (Nat.pow_le_pow_right (by omega) h))
      rw [h1]
      have := x.isLt
      show ((x.toNat : Int)) / (2 ^ 32) = _
      omega
  rw [binOp_shr]
  simp only [Op.shift, if_neg hy, this]
/-- A byte as a word, a word's last byte. -/
def byteW (b : UInt8) : W32 := BitVec.ofNat 32 b.toNat
def wByte (x : W32) : UInt8 := UInt8.ofNat x.toNat
theorem u32_byte (b : UInt8) : IntKind.u32.wrap (bv b) = wv (byteW b) := by
  unfold wv bv
  rw [u32_wrap, byteW, BitVec.toNat_ofNat]
  have := b.toNat_lt
  omega
theorem u8_word (x : W32) : IntKind.u8.wrap (wv x) = bv (wByte x) := by
  unfold wv bv
  simp only [IntKind.wrap, IntKind.bits, IntKind.signed, wByte, UInt8.toNat_ofNat']
  simp
/-- A word, turned to the right. -/
def rr (x : W32) (n : Nat) : W32 := x >>> n ||| x <<< (32 - n)
end Go.Proofs.Ytpklkjekkbpeoaa
