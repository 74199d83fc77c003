/- DERIVED. Words of 32 bits, and what the language's operations make of them. The digest of a text (SHA-256), in plain words. The digest of a text, whole: what stands behind it, its blocks, its bytes. What stands behind a text of so many bytes: the document's Fill. -/
import Derived.Test.YtljfigikkajlnaaVGRow
import Derived.Test.YtljfigikkajlnaaVSegMem
import Derived.Laws.Tables
import Derived.Deep.WholeRow
import Derived.Deep.MidRow
import Derived.Great.BuildSlice
import Derived.Deep.LoopGhost
import Derived.Deep.Cut
import Derived.Deep.CutRange
namespace Go.Proofs.Ytljfigikkajlnaa
open Go.RowKit
set_option linter.unusedVariables false
set_option linter.unusedSimpArgs false
abbrev W32 := BitVec 32
/-- A word, a byte as the number that a value holds (behind a name, that the walk's rules leave it alone). -/
def wv (x : W32) : Int := (x.toNat : Int)
def bv (b : UInt8) : Int := (b.toNat : Int)
theorem u32_wrap (n : Int) : IntKind.u32.wrap n = n % 4294967296 := by simp [IntKind.wrap, IntKind.bits, IntKind.signed]
theorem u32_in (x : W32) : IntKind.u32.wrap (wv x) = wv x := by
  rw [u32_wrap]
  unfold wv
  have := x.isLt
  omega
theorem w_of (x : W32) : BitVec.ofInt IntKind.u32.bits (wv x) = x := by
  show BitVec.ofInt 32 (x.toNat : Int) = x
  simp
theorem w_add (t : TypeId) (x y : W32) : binOp .add t (.int .u32 (wv x)) (.int .u32 (wv y)) = pure (.int .u32 (wv (x + y))) := by
  unfold wv
  have : IntKind.u32.wrap ((x.toNat : Int) + (y.toNat : Int)) = ((x + y).toNat : Int) := by
    rw [u32_wrap, BitVec.toNat_add]
    omega
  simp [binOp, Op.intArith, this]
theorem w_xor (t : TypeId) (x y : W32) : binOp .xor t (.int .u32 (wv x)) (.int .u32 (wv y)) = pure (.int .u32 (wv (x ^^^ y))) := by
  simp only [binOp_xor, Op.intBits, w_of]
  exact congrArg (fun n => pure (Value.int .u32 n)) (u32_in (x ^^^ y))
theorem w_and (t : TypeId) (x y : W32) : binOp .and t (.int .u32 (wv x)) (.int .u32 (wv y)) = pure (.int .u32 (wv (x &&& y))) := by
  simp only [binOp_and, Op.intBits, w_of]
  exact congrArg (fun n => pure (Value.int .u32 n)) (u32_in (x &&& y))
theorem w_or (t : TypeId) (x y : W32) : binOp .or t (.int .u32 (wv x)) (.int .u32 (wv y)) = pure (.int .u32 (wv (x ||| y))) := by
  simp only [binOp_or, Op.intBits, w_of]
  exact congrArg (fun n => pure (Value.int .u32 n)) (u32_in (x ||| y))
theorem w_andNot (t : TypeId) (x y : W32) : binOp .andNot t (.int .u32 (wv x)) (.int .u32 (wv y)) = pure (.int .u32 (wv (x &&& ~~~y))) := by
  simp only [binOp_andNot, Op.intBits, w_of]
  exact congrArg (fun n => pure (Value.int .u32 n)) (u32_in (x &&& ~~~y))
theorem w_not (x : W32) : Op.unary .xor (.int .u32 (wv x)) = pure (.int .u32 (wv (~~~x))) := by
  have h : BitVec.ofInt 32 4294967295 = BitVec.allOnes 32 := by decide +kernel
  have h2 : (BitVec.allOnes 32 ^^^ x) = ~~~x := BitVec.allOnes_xor
  simp only [unary_xor, Op.intBits, w_of]
  have h3 : BitVec.ofInt IntKind.u32.bits (if IntKind.u32.signed = true then -1 else IntKind.u32.max) = BitVec.allOnes 32 := h
  rw [h3]
  exact congrArg (fun n => pure (Value.int .u32 n)) ((congrArg (fun z : W32 => IntKind.u32.wrap (wv z)) h2).trans (u32_in (~~~x)))
theorem w_shl (t : TypeId) (yk : IntKind) (x : W32) (y : Int) (h : 0 ≤ y) : binOp .shl t (.int .u32 (wv x)) (.int yk y) = pure (.int .u32 (wv (x <<< y.toNat))) := by
  unfold wv
  have hy : ¬ y < 0 := by omega
  have : IntKind.u32.wrap ((x.toNat : Int) * 2 ^ (min y.toNat IntKind.u32.bits)) = ((x <<< y.toNat).toNat : Int) := by
    rw [u32_wrap, BitVec.toNat_shiftLeft, Nat.shiftLeft_eq]
    rcases Nat.lt_or_ge y.toNat 32 with h | h
    · rw [Nat.min_eq_left (show y.toNat ≤ IntKind.u32.bits from Nat.le_of_lt h)]
      show (x.toNat : Int) * 2 ^ y.toNat % 4294967296 = ((x.toNat * 2 ^ y.toNat % 4294967296 : Nat) : Int)
      rw [Int.natCast_emod, Int.natCast_mul, Int.natCast_pow]
      rfl
    · rw [Nat.min_eq_right (show IntKind.u32.bits ≤ y.toNat from h)]
      obtain ⟨m, hm⟩ := Nat.exists_eq_add_of_le h
      rw [hm, Nat.pow_add, show (IntKind.u32.bits) = 32 from rfl]
      have h1 : x.toNat * (2 ^ 32 * 2 ^ m) % 2 ^ 32 = 0 := by rw [show x.toNat * (2 ^ 32 * 2 ^ m) = 2 ^ 32 * (x.toNat * 2 ^ m) by rw [Nat.mul_left_comm]]; exact Nat.mul_mod_right _ _
      rw [h1]
      omega
  rw [binOp_shl]
  simp only [Op.shift, if_neg hy, this]
theorem w_shr (t : TypeId) (yk : IntKind) (x : W32) (y : Int) (h : 0 ≤ y) : binOp .shr t (.int .u32 (wv x)) (.int yk y) = pure (.int .u32 (wv (x >>> y.toNat))) := by
  unfold wv
  have hy : ¬ y < 0 := by omega
  have : ((x.toNat : Int)).fdiv (2 ^ (min y.toNat IntKind.u32.bits)) = ((x >>> y.toNat).toNat : Int) := by
    rw [BitVec.toNat_ushiftRight, Nat.shiftRight_eq_div_pow, Int.fdiv_eq_ediv_of_nonneg _ (Int.le_of_lt (Int.pow_pos (by omega)))]
    rcases Nat.lt_or_ge y.toNat 32 with h | h
    · rw [Nat.min_eq_left (show y.toNat ≤ IntKind.u32.bits from Nat.le_of_lt h)]
      rw [Int.natCast_ediv, Int.natCast_pow]
      rfl
    · rw [Nat.min_eq_right (show IntKind.u32.bits ≤ y.toNat from h)]
      have h1 : x.toNat / 2 ^ y.toNat = 0 := Nat.div_eq_of_lt (Nat.lt_of_lt_of_le x.isLt (Nat.pow_le_pow_right (by omega) h))
      rw [h1]
      have := x.isLt
      show ((x.toNat : Int)) / (2 ^ 32) = _
      omega
  rw [binOp_shr]
  simp only [Op.shift, if_neg hy, this]
/-- A byte as a word, a word's last byte. -/
def byteW (b : UInt8) : W32 := BitVec.ofNat 32 b.toNat
def wByte (x : W32) : UInt8 := UInt8.ofNat x.toNat
theorem u32_byte (b : UInt8) : IntKind.u32.wrap (bv b) = wv (byteW b) := by
  unfold wv bv
  rw [u32_wrap, byteW, BitVec.toNat_ofNat]
  have := b.toNat_lt
  omega
theorem u8_word (x : W32) : IntKind.u8.wrap (wv x) = bv (wByte x) := by
  unfold wv bv
  simp only [IntKind.wrap, IntKind.bits, IntKind.signed, wByte, UInt8.toNat_ofNat']
  simp
/-- A word, turned to the right. -/
def rr (x : W32) (n : Nat) : W32 := x >>> n ||| x <<< (32 - n)
end Go.Proofs.Ytljfigikkajlnaa
namespace Go.Proofs.Ytljfigikkajlnaa
open Go.RowKit
set_option linter.unusedVariables false
set_option linter.unusedSimpArgs false
def kcs : List Nat := [
  0x428a2f98, 0x71374491, 0xb5c0fbcf, 0xe9b5dba5, 0x3956c25b, 0x59f111f1, 0x923f82a4, 0xab1c5ed5,
  0xd807aa98, 0x12835b01, 0x243185be, 0x550c7dc3, 0x72be5d74, 0x80deb1fe, 0x9bdc06a7, 0xc19bf174,
  0xe49b69c1, 0xefbe4786, 0x0fc19dc6, 0x240ca1cc, 0x2de92c6f, 0x4a7484aa, 0x5cb0a9dc, 0x76f988da,
  0x983e5152, 0xa831c66d, 0xb00327c8, 0xbf597fc7, 0xc6e00bf3, 0xd5a79147, 0x06ca6351, 0x14292967,
  0x27b70a85, 0x2e1b2138, 0x4d2c6dfc, 0x53380d13, 0x650a7354, 0x766a0abb, 0x81c2c92e, 0x92722c85,
  0xa2bfe8a1, 0xa81a664b, 0xc24b8b70, 0xc76c51a3, 0xd192e819, 0xd6990624, 0xf40e3585, 0x106aa070,
  0x19a4c116, 0x1e376c08, 0x2748774c, 0x34b0bcb5, 0x391c0cb3, 0x4ed8aa4a, 0x5b9cca4f, 0x682e6ff3,
  0x748f82ee, 0x78a5636f, 0x84c87814, 0x8cc70208, 0x90befffa, 0xa4506ceb, 0xbef9a3f7, 0xc67178f2]
def kc (i : Nat) : W32 := BitVec.ofNat 32 (kcs.getD i 0)
def h0s : List Nat := [0x6a09e667, 0xbb67ae85, 0x3c6ef372, 0xa54ff53a, 0x510e527f, 0x9b05688c, 0x1f83d9ab, 0x5be0cd19]
def h0 (i : Nat) : W32 := BitVec.ofNat 32 (h0s.getD i 0)
def sigA (x : W32) : W32 := rr x 7 ^^^ rr x 18 ^^^ x >>> 3
def sigB (x : W32) : W32 := rr x 17 ^^^ rr x 19 ^^^ x >>> 10
def word (m : Nat → UInt8) (i : Nat) : W32 := byteW (m (4 * i)) <<< 24 + byteW (m (4 * i + 1)) <<< 16 + byteW (m (4 * i + 2)) <<< 8 + byteW (m (4 * i + 3))
/-- The words of a block. -/
def sched (m : Nat → UInt8) (i : Nat) : W32 :=
  if i < 16 then word m i else sched m (i - 16) + sigA (sched m (i - 15)) + sched m (i - 7) + sigB (sched m (i - 2))
termination_by i
theorem sched_lo (m : Nat → UInt8) {i : Nat} (h : i < 16) : sched m i = word m i := by rw [sched, if_pos h]
theorem sched_hi (m : Nat → UInt8) {i : Nat} (h : ¬ i < 16) : sched m i = sched m (i - 16) + sigA (sched m (i - 15)) + sched m (i - 7) + sigB (sched m (i - 2)) := by rw [sched, if_neg h]
def tOf (f : Nat → W32) (k w : W32) : W32 := f 7 + (rr (f 4) 6 ^^^ rr (f 4) 11 ^^^ rr (f 4) 25) + (f 4 &&& f 5 ^^^ ~~~(f 4) &&& f 6) + k + w
def uOf (f : Nat → W32) : W32 := (rr (f 0) 2 ^^^ rr (f 0) 13 ^^^ rr (f 0) 22) + (f 0 &&& f 1 ^^^ f 0 &&& f 2 ^^^ f 1 &&& f 2)
def rnd (f : Nat → W32) (k w : W32) : Nat → W32 := fun j => if j = 0 then tOf f k w + uOf f else if j = 4 then f 3 + tOf f k w else f (j - 1)
def rounds (f W : Nat → W32) : Nat → Nat → W32
  | 0 => f
  | i + 1 => rnd (rounds f W i) (kc i) (W i)
/-- What a block makes of a state. -/
def madeF (f : Nat → W32) (m : Nat → UInt8) : Nat → W32 := fun j => rounds f (sched m) 64 j + f j
end Go.Proofs.Ytljfigikkajlnaa
namespace Go.Proofs.Ytljfigikkajlnaa
open Go.RowKit
set_option linter.unusedVariables false
set_option linter.unusedSimpArgs false
/-- The bytes of block number b of some bytes. -/
def blockAt (l : List UInt8) (b : Nat) : Nat → UInt8 := fun j => l.getD (64 * b + j) 0
/-- The state behind b blocks. -/
def stAt (l : List UInt8) : Nat → Nat → W32
  | 0 => h0
  | b + 1 => madeF (stAt l b) (blockAt l b)
theorem sched_congr {m m' : Nat → UInt8} (h : ∀ j, j < 64 → m j = m' j) : ∀ i, i < 64 → sched m i = sched m' i := by
  have hw : ∀ i, i < 16 → word m i = word m' i := fun i hi => by
    simp only [word]
    rw [h _ (by omega), h _ (by omega), h _ (by omega), h _ (by omega)]
  intro i
  induction i using Nat.strongRecOn with
  | _ i ih =>
    intro hi
    by_cases h16 : i < 16
    · rw [sched_lo _ h16, sched_lo _ h16, hw i h16]
    · rw [sched_hi _ h16, sched_hi _ h16, ih (i - 16) (by omega) (by omega), ih (i - 15) (by omega) (by omega), ih (i - 7) (by omega) (by omega), ih (i - 2) (by omega) (by omega)]
theorem rounds_congr {f W W' : Nat → W32} : ∀ i, (∀ j, j < i → W j = W' j) → rounds f W i = rounds f W' i
  | 0, _ => rfl
  | i + 1, h => by rw [rounds, rounds, rounds_congr i (fun j hj => h j (by omega)), h i (by omega)]
theorem madeF_congr (f : Nat → W32) {m m' : Nat → UInt8} (h : ∀ j, j < 64 → m j = m' j) : madeF f m = madeF f m' := by
  unfold madeF
  rw [rounds_congr 64 (fun j hj => sched_congr h j hj)]
theorem stAt_congr {l l' : List UInt8} (b : Nat) (h : ∀ i, i < 64 * b → l.getD i 0 = l'.getD i 0) : stAt l b = stAt l' b := by
  induction b with
  | zero => rfl
  | succ b ih =>
    rw [stAt, stAt, ih (fun i hi => h i (by omega))]
    exact madeF_congr _ (fun j hj => h _ (by omega))
end Go.Proofs.Ytljfigikkajlnaa
namespace Go.Proofs.Ytljfigikkajlnaa
open Go.RowKit
set_option linter.unusedVariables false
set_option linter.unusedSimpArgs false
attribute [local irreducible] wpList Code.wp
theorem byte_info : (Try.prog.info? 5).map (fun i => (i.zero, i.size, i.bytes)) = some (some (.int .u8 0), 1, 1) := by kernel_rfl
end Go.Proofs.Ytljfigikkajlnaa
