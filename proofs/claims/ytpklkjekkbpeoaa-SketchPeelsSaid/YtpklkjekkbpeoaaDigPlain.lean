/- DERIVED. The digest of a text (SHA-256), in plain words. -/
import Derived.Test.YtpklkjekkbpeoaaDigRot
namespace Go.Proofs.Ytpklkjekkbpeoaa
open Go.RowKit
set_option linter.unusedVariables false
set_option linter.unusedSimpArgs false

def kcs : List Nat := [
  0x428a2f98, 0x71374491, 0xb5c0fbcf, 0xe9b5dba5, 0x3956c25b, 0x59f111f1, 0x923f82a4, 0xab1c5ed5,
  0xd807aa98, 0x12835b01, 0x243185be, 0x550c7dc3, 0x72be5d74, 0x80deb1fe, 0x9bdc06a7, 0xc19bf174,
  0xe49b69c1, 0xefbe4786, 0x0fc19dc6, 0x240ca1cc, 0x2de92c6f, 0x4a7484aa, 0x5cb0a9dc, 0x76f988da,
  0x983e5152, 0xa831c66d, 0xb00327c8, 0xbf597fc7, 0xc6e00bf3, 0xd5a79147, 0x06ca6351, 0x14292967,
  0x27b70a85, 0x2e1b2138, 0x4d2c6dfc, 0x53380d13, 0x650a7354, 0x766a0abb, 0x81c2c92e, 0x92722c85,
  0xa2bfe8a1, 0xa81a664b, 0xc24b8b70, 0xc76c51a3, 0xd192e819, 0xd6990624, 0xf40e3585, 0x106aa070,
  0x19a4c116, 0x1e376c08, 0x2748774c, 0x34b0bcb5, 0x391c0cb3, 0x4ed8aa4a, 0x5b9cca4f, 0x682e6ff3,
  0x748f82ee, 0x78a5636f, 0x84c87814, 0x8cc70208, 0x90befffa, 0xa4506ceb, 0xbef9a3f7, 0xc67178f2]
def kc (i : Nat) : W32 := BitVec.ofNat 32 (kcs.getD i 0)
def h0s : List Nat := [0x6a09e667, 0xbb67ae85, 0x3c6ef372, 0xa54ff53a, 0x510e527f, 0x9b05688c, 0x1f83d9ab, 0x5be0cd19]
def h0 (i : Nat) : W32 := BitVec.ofNat 32 (h0s.getD i 0)

def sigA (x : W32) : W32 := rr x 7 ^^^ rr x 18 ^^^ x >>> 3
def sigB (x : W32) : W32 := rr x 17 ^^^ rr x 19 ^^^ x >>> 10
def word (m : Nat → UInt8) (i : Nat) : W32 := byteW (m (4 * i)) <<< 24 + byteW (m (4 * i + 1)) <<< 16 + byteW (m (4 * i + 2)) <<< 8 + byteW (m (4 * i + 3))
/-- The words of a block. -/
def sched (m : Nat → UInt8) (i : Nat) : W32 :=
  if i < 16 then word m i else sched m (i - 16) + sigA (sched m (i - 15)) + sched m (i - 7) + sigB (sched m (i - 2))
termination_by i
theorem sched_lo (m : Nat → UInt8) {i : Nat} (h : i < 16) : sched m i = word m i := by rw [sched, if_pos h]
theorem sched_hi (m : Nat → UInt8) {i : Nat} (h : ¬ i < 16) : sched m i = sched m (i - 16) + sigA (sched m (i - 15)) + sched m (i - 7) + sigB (sched m (i - 2)) := by rw [sched, if_neg h]

def tOf (f : Nat → W32) (k w : W32) : W32 := f 7 + (rr (f 4) 6 ^^^ rr (f 4) 11 ^^^ rr (f 4) 25) + (f 4 &&& f 5 ^^^ ~~~(f 4) &&& f 6) + k + w
def uOf (f : Nat → W32) : W32 := (rr (f 0) 2 ^^^ rr (f 0) 13 ^^^ rr (f 0) 22) + (f 0 &&& f 1 ^^^ f 0 &&& f 2 ^^^ f 1 &&& f 2)
def rnd (f : Nat → W32) (k w : W32) : Nat → W32 := fun j => if j = 0 then tOf f k w + uOf f else if j = 4 then f 3 + tOf f k w else f (j - 1)
def rounds (f W : Nat → W32) : Nat → Nat → W32
  | 0 => f
  | i + 1 => rnd (rounds f W i) (kc i) (W i)
/-- What a block makes of a state. -/
def madeF (f : Nat → W32) (m : Nat → UInt8) : Nat → W32 := fun j => rounds f (sched m) 64 j + f j

theorem ch_eq (x y z : W32) : (x &&& y ||| z &&& ~~~x) = (x &&& y ^^^ ~~~x &&& z) := by
  apply BitVec.eq_of_getLsbD_eq
  intro i hi
  simp only [BitVec.getLsbD_or, BitVec.getLsbD_and, BitVec.getLsbD_xor, BitVec.getLsbD_not, hi, decide_true, Bool.true_and]
  cases x.getLsbD i <;> cases y.getLsbD i <;> cases z.getLsbD i <;> rfl
theorem maj_eq (x y z : W32) : (x &&& y ||| x &&& z ||| y &&& z) = (x &&& y ^^^ x &&& z ^^^ y &&& z) := by
  apply BitVec.eq_of_getLsbD_eq
  intro i hi
  simp only [BitVec.getLsbD_or, BitVec.getLsbD_and, BitVec.getLsbD_xor]
  cases x.getLsbD i <;> cases y.getLsbD i <;> cases z.getLsbD i <;> rfl
/-- The program's own order of the same sums. -/
theorem tOf_eq (f : Nat → W32) (k w : W32) : f 7 + k + w + (f 4 &&& f 5 ||| f 6 &&& ~~~(f 4)) + (rr (f 4) 6 ^^^ rr (f 4) 11 ^^^ rr (f 4) 25) = tOf f k w := by
  rw [ch_eq, tOf]
  ac_rfl
theorem uOf_eq (f : Nat → W32) : (f 0 &&& f 1 ||| f 0 &&& f 2 ||| f 1 &&& f 2) + (rr (f 0) 2 ^^^ rr (f 0) 13 ^^^ rr (f 0) 22) = uOf f := by
  rw [maj_eq, uOf]
  ac_rfl
theorem or_add (a b c d : UInt8) : (byteW a <<< 24 ||| byteW b <<< 16 ||| byteW c <<< 8 ||| byteW d) = byteW a <<< 24 + byteW b <<< 16 + byteW c <<< 8 + byteW d := by
  have ha := a.toNat_lt
  have hb := b.toNat_lt
  have hc := c.toNat_lt
  have hd := d.toNat_lt
  have h1 : byteW a <<< 24 &&& byteW b <<< 16 = 0#32 := by
    apply BitVec.eq_of_getLsbD_eq
    intro i hi
    simp only [BitVec.getLsbD_and, BitVec.getLsbD_shiftLeft, byteW, BitVec.getLsbD_ofNat]
    by_cases h : i < 24
    · simp [h]
    · have : b.toNat.testBit (i - 16) = false := Nat.testBit_lt_two_pow (Nat.lt_of_lt_of_le hb (Nat.pow_le_pow_right (n := 2) (by omega) (show 8 ≤ i - 16 by omega)))
      simp [this]
  have h2 : (byteW a <<< 24 ||| byteW b <<< 16) &&& byteW c <<< 8 = 0#32 := by
    apply BitVec.eq_of_getLsbD_eq
    intro i hi
    simp only [BitVec.getLsbD_and, BitVec.getLsbD_or, BitVec.getLsbD_shiftLeft, byteW, BitVec.getLsbD_ofNat]
    by_cases h : i < 16
    · simp [h, show i < 24 by omega]
    · have : c.toNat.testBit (i - 8) = false := Nat.testBit_lt_two_pow (Nat.lt_of_lt_of_le hc (Nat.pow_le_pow_right (n := 2) (by omega) (show 8 ≤ i - 8 by omega)))
      simp [this]
  have h3 : (byteW a <<< 24 ||| byteW b <<< 16 ||| byteW c <<< 8) &&& byteW d = 0#32 := by
    apply BitVec.eq_of_getLsbD_eq
    intro i hi
    simp only [BitVec.getLsbD_and, BitVec.getLsbD_or, BitVec.getLsbD_shiftLeft, byteW, BitVec.getLsbD_ofNat]
    by_cases h : i < 8
    · simp [h, show i < 24 by omega, show i < 16 by omega]
    · have : d.toNat.testBit i = false := Nat.testBit_lt_two_pow (Nat.lt_of_lt_of_le hd (Nat.pow_le_pow_right (n := 2) (by omega) (show 8 ≤ i by omega)))
      simp [this]
  rw [BitVec.add_eq_or_of_and_eq_zero _ _ h1, BitVec.add_eq_or_of_and_eq_zero _ _ h2, BitVec.add_eq_or_of_and_eq_zero _ _ h3]
end Go.Proofs.Ytpklkjekkbpeoaa
