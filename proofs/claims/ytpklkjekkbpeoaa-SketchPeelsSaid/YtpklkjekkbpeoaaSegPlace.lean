/- DERIVED. A key's segment, and what its keys begin with: both texts. -/
import Derived.Test.YtpklkjekkbpeoaaDigSum
namespace Go.Proofs.Ytpklkjekkbpeoaa
open Go.RowKit
set_option linter.unusedVariables false
set_option linter.unusedSimpArgs false
attribute [local irreducible] arrW arrB wpList Code.wp

def keyB (s : ByteArray) : Bool := decide (1 ≤ s.size) && decide (s.size ≤ 32)
/-- A key's segment: twelve bits of its text's digest. -/
def placeL (key : ByteArray) : List UInt8 := (⟨#[75]⟩ ++ key : ByteArray).data.toList
def placeI (key : ByteArray) : Int := bv (shaB (placeL key) 0) * 16 + bv (shaB (placeL key) 1) / 16
def ofI (key : ByteArray) : Int := if keyB key then placeI key else -1
theorem ofI_pos {key : ByteArray} (h : keyB key = true) : ofI key = placeI key := by rw [ofI, if_pos h]
theorem ofI_neg {key : ByteArray} (h : keyB key = false) : ofI key = -1 := by rw [ofI, if_neg (by rw [h]; decide)]
theorem bv_lt (x : UInt8) : 0 ≤ bv x ∧ bv x < 256 := by
  have := x.toNat_lt
  unfold bv
  omega
theorem w64_small (n : Int) (h : 0 ≤ n) (h1 : n < 65536) : wrap64 n = n := by unfold wrap64; omega
theorem place_bits (x y : UInt8) : bits .or .i64 (wrap64 (wrap64 (bv x) * 16)) (wrap64 (bv y) / 16) = bv x * 16 + bv y / 16 := by
  have hx := bv_lt x
  have hy := bv_lt y
  rw [w64_small (bv x) hx.1 (by omega), w64_small (bv x * 16) (by omega) (by omega), w64_small (bv y) hy.1 (by omega)]
  exact bits_join .i64 62 (by decide) (fun n h h1 => IntWalk.i64_in _ (by omega)) 4 _ _ (by omega) (by omega) (by omega) (by omega) (by omega) (by omega)
theorem place_sum (x y : UInt8) : wrap64 (wrap64 (wrap64 (bv x) * 16) + wrap64 ((wrap64 (bv y)).tdiv 16)) = bv x * 16 + bv y / 16 := by
  have hx := bv_lt x
  have hy := bv_lt y
  rw [w64_small (bv x) hx.1 (by omega), w64_small (bv x * 16) (by omega) (by omega), w64_small (bv y) hy.1 (by omega), Int.tdiv_eq_ediv_of_nonneg hy.1, w64_small (bv y / 16) (by omega) (by omega), w64_small _ (by omega) (by omega)]
end Go.Proofs.Ytpklkjekkbpeoaa
