/- DERIVED. The digest of a text, whole: what stands behind it, its blocks, its bytes. -/
import Derived.Test.YtpklkjekkbpeoaaDigPlain
namespace Go.Proofs.Ytpklkjekkbpeoaa
open Go.RowKit
set_option linter.unusedVariables false
set_option linter.unusedSimpArgs false

/-- How many zeros stand behind a text of n bytes. -/
def zeros (n : Nat) : Nat := (119 - n % 64) % 64
theorem zeros_spec (n : Nat) : (n + 1 + zeros n + 8) % 64 = 0 := by unfold zeros; omega
theorem zeros_lt (n : Nat) : zeros n < 64 := by unfold zeros; omega
theorem zeros_not {n z : Nat} (h : z < zeros n) : ¬ (n % 64 + (1 + z) + 8) % 64 = 0 := by unfold zeros at h; omega
theorem zeros_is {n z : Nat} (h : z = zeros n) : (n % 64 + (1 + z) + 8) % 64 = 0 := by unfold zeros at h; omega
theorem zeros_long (n : Nat) : 72 - (n + 8) % 64 = 9 + zeros n := by unfold zeros; omega
/-- The i-th of the eight bytes of a number, the highest first. -/
def beB (v i : Nat) : UInt8 := UInt8.ofNat (v / 2 ^ (56 - 8 * i) % 256)
def fillL (n : Nat) : List UInt8 := 128 :: (List.replicate (zeros n) 0 ++ (List.range 8).map (beB (8 * n % 18446744073709551616)))
theorem fillL_length (n : Nat) : (fillL n).length = 9 + zeros n := by simp [fillL]; omega
def fullL (l : List UInt8) : List UInt8 := l ++ fillL l.length
theorem fullL_mod (l : List UInt8) : (fullL l).length % 64 = 0 := by
  have := zeros_spec l.length
  rw [fullL, List.length_append, fillL_length]
  omega
/-- The bytes of block number b of some bytes. -/
def blockAt (l : List UInt8) (b : Nat) : Nat → UInt8 := fun j => l.getD (64 * b + j) 0
/-- The state behind b blocks. -/
def stAt (l : List UInt8) : Nat → Nat → W32
  | 0 => h0
  | b + 1 => madeF (stAt l b) (blockAt l b)
theorem sched_congr {m m' : Nat → UInt8} (h : ∀ j, j < 64 → m j = m' j) : ∀ i, i < 64 → sched m i = sched m' i := by
  have hw : ∀ i, i < 16 → word m i = word m' i := fun i hi => by
    simp only [word]
    rw [h _ (by omega), h _ (by omega), h _ (by omega), h _ (by omega)]
  intro i
  induction i using Nat.strongRecOn with
  | _ i ih =>
    intro hi
    by_cases h16 : i < 16
    · rw [sched_lo _ h16, sched_lo _ h16, hw i h16]
    · rw [sched_hi _ h16, sched_hi _ h16, ih (i - 16) (by omega) (by omega), ih (i - 15) (by omega) (by omega), ih (i - 7) (by omega) (by omega), ih (i - 2) (by omega) (by omega)]
theorem rounds_congr {f W W' : Nat → W32} : ∀ i, (∀ j, j < i → W j = W' j) → rounds f W i = rounds f W' i
  | 0, _ => rfl
  | i + 1, h => by rw [rounds, rounds, rounds_congr i (fun j hj => h j (by omega)), h i (by omega)]
theorem madeF_congr (f : Nat → W32) {m m' : Nat → UInt8} (h : ∀ j, j < 64 → m j = m' j) : madeF f m = madeF f m' := by
  unfold madeF
  rw [rounds_congr 64 (fun j hj => sched_congr h j hj)]
theorem stAt_congr {l l' : List UInt8} (b : Nat) (h : ∀ i, i < 64 * b → l.getD i 0 = l'.getD i 0) : stAt l b = stAt l' b := by
  induction b with
  | zero => rfl
  | succ b ih =>
    rw [stAt, stAt, ih (fun i hi => h i (by omega))]
    exact madeF_congr _ (fun j hj => h _ (by omega))
/-- A byte of the digest, out of the last state. -/
def outB (f : Nat → W32) (i : Nat) : UInt8 := wByte (f (i / 4) >>> (24 - 8 * (i % 4)))
def shaB (l : List UInt8) (i : Nat) : UInt8 := outB (stAt (fullL l) ((fullL l).length / 64)) i
end Go.Proofs.Ytpklkjekkbpeoaa
