/- DERIVED. A key's segment, and what its keys begin with: both texts. -/
import Derived.Test.YtkpckpglmiodbaaDigSum
import Derived.Test.YtkpckpglmiodbaaSegKey
namespace Go.Proofs.Ytkpckpglmiodbaa
open Go.RowKit
attribute [local irreducible] arrW arrB wpList Code.wp

/-- A key's segment: twelve bits of its text's digest. -/
def placeL (key : ByteArray) : List UInt8 := (⟨#[75]⟩ ++ key : ByteArray).data.toList
def placeI (key : ByteArray) : Int := bv (shaB (placeL key) 0) * 16 + bv (shaB (placeL key) 1) / 16
def ofI (key : ByteArray) : Int := if keyB key then placeI key else -1
theorem ofI_pos {key : ByteArray} (h : keyB key = true) : ofI key = placeI key := by rw [ofI, if_pos h]
theorem ofI_neg {key : ByteArray} (h : keyB key = false) : ofI key = -1 := by rw [ofI, if_neg (by rw [h]; decide)]
theorem bv_lt (x : UInt8) : 0 ≤ bv x ∧ bv x < 256 := by
  have := x.toNat_lt
  unfold bv
  omega
theorem w64_small (n : Int) (h : 0 ≤ n) (h1 : n < 65536) : wrap64 n = n := by unfold wrap64; omega
theorem place_bits (x y : UInt8) : bits .or .i64 (wrap64 (wrap64 (bv x) * 16)) (wrap64 (bv y) / 16) = bv x * 16 + bv y / 16 := by
  have hx := bv_lt x
  have hy := bv_lt y
  rw [w64_small (bv x) hx.1 (by omega), w64_small (bv x * 16) (by omega) (by omega), w64_small (bv y) hy.1 (by omega)]
  exact bits_join .i64 62 (by decide) (fun n h h1 => IntWalk.i64_in _ (by omega)) 4 _ _ (by omega) (by omega) (by omega) (by omega) (by omega) (by omega)
theorem place_sum (x y : UInt8) : wrap64 (wrap64 (wrap64 (bv x) * 16) + wrap64 ((wrap64 (bv y)).tdiv 16)) = bv x * 16 + bv y / 16 := by
  have hx := bv_lt x
  have hy := bv_lt y
  rw [w64_small (bv x) hx.1 (by omega), w64_small (bv x * 16) (by omega) (by omega), w64_small (bv y) hy.1 (by omega), Int.tdiv_eq_ediv_of_nonneg hy.1, w64_small (bv y / 16) (by omega) (by omega), w64_small _ (by omega) (by omega)]
set_option maxRecDepth 100000 in
set_option maxHeartbeats 3200000 in
theorem place_yes (s : ByteArray) (h : keyB s = true) (w : World) : Calls Try.prog 7 #[.string s] w fun e w' => e = .returned (.tuple #[.int .i64 (placeI s), .int .i64 0]) ∧ Below w.heap.size w w' := by
  have hk := (keyB_iff _).1 h
  have ks := hk.2
  have k1 := hk.1
  have hcat : ∀ W, (Op.stringOp .add ⟨#[75]⟩ s).run Try.prog W = .ok (.string (⟨#[75]⟩ ++ s)) W := fun W => run_string_add_sum W _ _ (by show 1 + s.size ≤ _; omega)
  have hcs : ((⟨#[75]⟩ : ByteArray) ++ s).size ≤ 70368744177664 := by rw [ByteArray.size_append]; show 1 + s.size ≤ _; omega
  have HCS := Lib.hid hcs
  have HSZ := Lib.hid ks
  clear hk ks k1 hcs
  go_enter Try.func7, Try.ntmps7
  go_wp2_with (first
    | (go_at_call 8; refine (segKey_yes s h _).mono ?_; rintro e w1 ⟨rfl, rfl⟩)
    | (go_at_call 21; refine (of_any _ HCS.out w).mono ?_; rintro e W1 ⟨rfl, L_⟩; have L1 := Lib.hid L_; clear L_)
    | (refine alloc_arr (w := W1) rfl 53 rfl _ _ z32 ?_; intro W2 B_ L_ S_; have B2 := Lib.hid B_; have L2 := Lib.hid L_; have S2 := Lib.hid S_; clear B_ L_ S_)
    | (refine store_arr (w := W2) rfl 53 _ _ rfl W1.heap.size (arrB 32 (shaB (placeL s))) rfl rfl _ _ B2.out (by rw [arrB_size]; exact s32) (by rw [arrB_size, arrB_size]) (arrB_one _ _) ?_; intro W3 B_ G_ S_; have B3 := Lib.hid B_; have G3 := Lib.hid G_; clear B_ G_ S_; have c0 := (B3.out.cell 0).trans (arrB_get 32 (shaB (placeL s)) (by omega)); have c1 := (B3.out.cell 1).trans (arrB_get 32 (shaB (placeL s)) (by omega))))
  rw [place_bits]
  go_ret2
  exact ⟨rfl, bl_of_grown (bl_then L1.out L2.out) G3.out (zero_lt_of (by have := L1.out.size; omega) rfl)⟩

set_option maxRecDepth 100000 in
theorem place_no (s : ByteArray) (h : keyB s = false) (w : World) : Calls Try.prog 7 #[.string s] w fun e w' => e = .returned (.tuple #[.int .i64 0, .int .i64 130]) ∧ w = w' := by
  go_enter Try.func7, Try.ntmps7
  go_wp2_with (go_at_call 8; refine (segKey_no s h _).mono ?_; rintro e w1 ⟨rfl, rfl⟩)
  go_ret2
  exact ⟨rfl, rfl⟩
end Go.Proofs.Ytkpckpglmiodbaa
