/- DERIVED. An entry's item: the document's text and the program's. -/
import Derived.Test.YtpklkjekkbpeoaaFrmWr
import Derived.Test.YtpklkjekkbpeoaaSegPlace
import Derived.Lib.EndianBits
namespace Go.Proofs.Ytpklkjekkbpeoaa
open Go.RowKit
set_option linter.unusedVariables false
set_option linter.unusedSimpArgs false
attribute [local irreducible] arrW arrB wpList Code.wp

/-- What is hashed for an item's place and for its rest. -/
def kL (k : ByteArray) : List UInt8 := 75 :: k.data.toList
def iL (k s : ByteArray) : List UInt8 := 73 :: (textU k ++ textU s)
/-- The number after j of the six bytes. -/
def itN (k s : ByteArray) : Nat → Nat
  | 0 => (shaB (kL k) 0).toNat * 16 + (shaB (kL k) 1).toNat / 16
  | j + 1 => itN k s j * 256 + (shaB (iL k s) j).toNat
theorem itN_lt (k s : ByteArray) : ∀ j, itN k s j < 4096 * 256 ^ j
  | 0 => by
    have h1 := (shaB (kL k) 0).toNat_lt
    have h2 := (shaB (kL k) 1).toNat_lt
    simp only [itN, Nat.pow_zero]; omega
  | j + 1 => by
    have h1 := itN_lt k s j
    have h2 := (shaB (iL k s) j).toNat_lt
    simp only [itN, Nat.pow_succ]; omega

theorem bvn (x : UInt8) : bv x = (x.toNat : Int) := rfl
theorem or_u64 (X c : Nat) (i : Nat) (hX : X % 2 ^ i = 0) (h1 : X < 2 ^ 64) (h2 : c < 2 ^ i) (h3 : c < 2 ^ 64) : bits .or .u64 (X : Int) (c : Int) = ((X + c : Nat) : Int) := by
  rw [bits_join .u64 64 (by decide) wraps_u64 i (X : Int) (c : Int) (by omega) (by exact_mod_cast hX) (by exact_mod_cast h1) (by omega) (by exact_mod_cast h2) (by exact_mod_cast h3)]
  rfl
theorem it0 (k s : ByteArray) : bits .or .u64 (IntKind.u64.wrap (IntKind.u64.wrap (bv (shaB (kL k) 0)) * 16)) (IntKind.u64.wrap (bv (shaB (kL k) 1)) / 16) = (itN k s 0 : Int) := by
  have h1 := (shaB (kL k) 0).toNat_lt
  have h2 := (shaB (kL k) 1).toNat_lt
  rw [bvn, bvn, IntKind.wrap_u64, IntKind.wrap_u64, IntKind.wrap_u64]
  rw [show (((shaB (kL k) 0).toNat : Int) % 18446744073709551616 * 16 % 18446744073709551616) = (((shaB (kL k) 0).toNat * 16 : Nat) : Int) by omega, show (((shaB (kL k) 1).toNat : Int) % 18446744073709551616 / 16) = (((shaB (kL k) 1).toNat / 16 : Nat) : Int) by omega]
  exact or_u64 _ _ 4 (by omega) (by omega) (by omega) (by omega)
theorem itS (k s : ByteArray) (j : Nat) (hj : j < 6) : bits .or .u64 (IntKind.u64.wrap ((itN k s j : Int) * 256)) (IntKind.u64.wrap (bv (shaB (iL k s) j))) = (itN k s (j + 1) : Int) := by
  have h1 := itN_lt k s j
  have h2 := (shaB (iL k s) j).toNat_lt
  have h3 : 256 ^ j ≤ 256 ^ 5 := Nat.pow_le_pow_right (by omega) (by omega)
  have h4 : itN k s j < 4503599627370496 := by
    have : (4096 : Nat) * 256 ^ 5 = 4503599627370496 := by decide
    omega
  rw [bvn, IntKind.wrap_u64, IntKind.wrap_u64]
  rw [show ((itN k s j : Int) * 256 % 18446744073709551616) = ((itN k s j * 256 : Nat) : Int) by omega, show (((shaB (iL k s) j).toNat : Int) % 18446744073709551616) = (((shaB (iL k s) j).toNat : Nat) : Int) by omega]
  exact or_u64 _ _ 8 (by omega) (by omega) (by omega) (by omega)
theorem segment_any (x : Nat) (hx : x < 18446744073709551616) (w : World) : Calls Try.prog 11 #[.int .u64 x] w fun e w' => e = .returned (.int .i64 (x / 281474976710656 : Nat)) ∧ w = w' := by
  go_enter Try.func11, Try.ntmps11
  go_wp2
  go_ret
  exact ⟨rfl, rfl⟩

set_option maxRecDepth 100000 in
set_option maxHeartbeats 6400000 in
theorem skItem_any (k s : ByteArray) (hk : k.size ≤ 1048576) (hs : s.size ≤ 1048576) (w : World) :
    Calls Try.prog 9 #[.agg #[.string k, .string s]] w fun e w' => e = .returned (.int .u64 (itN k s 6)) ∧ Below w.heap.size w w' := by
  have hcat : ∀ W, (Op.stringOp .add ⟨#[75]⟩ k).run Try.prog W = .ok (.string ⟨(kL k).toArray⟩) W := fun W => by
    rw [run_string_add_sum W _ _ (by show 1 + k.size ≤ _; omega)]
    have := strApp k [75]
    rw [show (⟨#[75]⟩ : ByteArray) ++ k = ⟨(kL k).toArray⟩ from this]
  have HK := Lib.hid (show (⟨(kL k).toArray⟩ : ByteArray).size ≤ 70368744177664 by show (kL k).length ≤ _; have : k.data.toList.length = k.size := rfl; simp only [kL, List.length_cons]; omega)
  go_enter Try.func9, Try.ntmps9
  go_wp2_with (first
    | (go_at_call 31; refine (of_any _ HK.out _).mono ?_; rintro e W1 ⟨rfl, L_⟩; have L1 := Lib.hid (bl_then ((Below.refl w.heap.size w).alloc (Nat.le_refl _) _) L_); have X1 : Hid (GR.Blk W1 w.heap.size 23 #[.string k, .string s]) := Lib.hid ((L_.block w.heap.size (by simp)).trans (GR.Blk.new w 23 #[.string k, .string s])); clear L_)
    | (refine alloc_arr (w := W1) rfl 64 rfl _ _ z32 ?_; intro W2 B_ L_ S_; have B2 := Lib.hid B_; have L2 := Lib.hid L_; have S2 := Lib.hid S_; clear B_ L_ S_)
    | (refine store_arr (w := W2) rfl 64 _ _ rfl W1.heap.size (arrB 32 (shaB (kL k))) rfl rfl _ _ B2.out (by rw [arrB_size]; exact s32) (by rw [arrB_size, arrB_size]) (arrB_one _ _) ?_; intro W3 B_ G_ S_; have B3 := Lib.hid B_; have G3 := Lib.hid G_; clear B_ G_ S_))
  have hlt : w.heap.size < W1.heap.size := X1.out.lt
  have X3 : GR.Blk W3 w.heap.size 23 #[.string k, .string s] := (X1.out.below L2.out hlt).grown G3.out (by intro e; injection e with e; omega)
  have x0 : W3.cell? ⟨w.heap.size, 0, none⟩ = some (.string k) := X3.cell 0
  have x1 : W3.cell? ⟨w.heap.size, 1, none⟩ = some (.string s) := X3.cell 1
  have y0 := (B3.out.cell 0).trans (arrB_get 32 (shaB (kL k)) (by omega))
  have y1 := (B3.out.cell 1).trans (arrB_get 32 (shaB (kL k)) (by omega))
  have KX0 := Lib.hid x0
  have KX1 := Lib.hid x1
  have KY0 := Lib.hid y0
  have KY1 := Lib.hid y1
  have B0 := Lib.hid (bl_of_grown (bl_then L1.out L2.out) G3.out (zero_lt_of (by have := L1.out.size; omega) rfl))
  clear x0 x1 y0 y1 X3 X1 B2 L2 S2 G3 B3 L1
  refine (newWriter_any _).mono ?_
  rintro e w4 ⟨rfl, hw, hb⟩
  have W4 := Lib.hid hw
  have BW := Lib.hid hb
  clear hw hb
  go_wp2_with fail
  refine (byte_any _ _ [] 73 73 _ W4.out rfl (by simp)).mono ?_
  rintro e w5 ⟨rfl, hw, hb⟩
  have W5 := Lib.hid hw
  have N_ := Lib.hid (BW.out.trans hb)
  clear BW hw hb W4
  have BW := N_
  clear N_
  have x0 := (BW.out.cell (World.block_lt_of_cell? W3 _ KX0.out)).trans KX0.out
  go_wp2_with fail
  refine (wtext_any _ _ _ k _ W5.out (by simp; omega)).mono ?_
  rintro e w6 ⟨rfl, hw, hb, _⟩
  have W6 := Lib.hid hw
  have N_ := Lib.hid (BW.out.trans hb)
  clear BW hw hb W5
  have BW := N_
  clear N_
  have x1 := (BW.out.cell (World.block_lt_of_cell? W3 _ KX1.out)).trans KX1.out
  have hlk := uintU_len10 (show k.size < 18446744073709551616 by omega)
  have hls := uintU_len10 (show s.size < 18446744073709551616 by omega)
  have hdk : k.data.toList.length = k.size := rfl
  have hds : s.data.toList.length = s.size := rfl
  go_wp2_with fail
  refine (wtext_any _ _ _ s _ W6.out (by simp only [textU, List.length_append, List.length_cons, List.length_nil]; omega)).mono ?_
  rintro e w7 ⟨rfl, hw, hb, _⟩
  have W7 := Lib.hid (show Wr w7 W3.heap.size W3.heap.size (iL k s) by simpa [iL] using hw)
  have N_ := Lib.hid (BW.out.trans hb)
  clear BW hw hb W6
  have BW := N_
  clear N_
  have HI := Lib.hid (show (⟨(iL k s).toArray⟩ : ByteArray).size ≤ 70368744177664 by show (iL k s).length ≤ _; simp only [iL, textU, List.length_append, List.length_cons]; omega)
  clear hlk hls hdk hds
  go_wp2_with fail
  refine (told_any _ _ _ _ W7.out).mono ?_
  rintro e w8 ⟨rfl, rfl⟩
  go_wp2_with (first
    | (go_at_call 31; refine (of_any _ HI.out _).mono ?_; rintro e U1 ⟨rfl, L_⟩; have M1 := Lib.hid (bl_then BW.out L_); clear L_)
    | (refine alloc_arr (w := U1) rfl 64 rfl _ _ z32 ?_; intro U2 B_ L_ S_; have C2 := Lib.hid B_; have M2 := Lib.hid L_; have S2 := Lib.hid S_; clear B_ L_ S_)
    | (refine store_arr (w := U2) rfl 64 _ _ rfl U1.heap.size (arrB 32 (shaB (iL k s))) rfl rfl _ _ C2.out (by rw [arrB_size]; exact s32) (by rw [arrB_size, arrB_size]) (arrB_one _ _) ?_; intro U3 B_ G_ S_; have C3 := Lib.hid B_; have G3 := Lib.hid G_; clear B_ G_ S_; have BU := Lib.hid (bl_of_grown (bl_then M1.out M2.out) G3.out (zero_lt_of (by have := M1.out.size; omega) rfl)); have y0 := (BU.out.cell (World.block_lt_of_cell? W3 _ KY0.out)).trans KY0.out; have y1 := (BU.out.cell (World.block_lt_of_cell? W3 _ KY1.out)).trans KY1.out))
  rw [it0 k s]
  go_loopw [6, 38] (fun x i w' => ∃ j : Nat, j ≤ 6 ∧ i = .int .i64 j ∧ x = .int .u64 (itN k s j) ∧ Hid (Drawn U3 w')) (fun _ i _ => 6 - (intOf i).toNat)
  case atStart => exact ⟨0, by omega, rfl, rfl, Lib.hid (Drawn.refl U3)⟩
  case round =>
    obtain ⟨j, hj, rfl, rfl, hd⟩ := hrel
    by_cases hlt : j < 6
    · have i1 : (0 : Int) ≤ (j : Int) := by omega
      have i2 : (j : Int) < 6 := by omega
      have i3 : (j : Int) < 32 := by omega
      have z : Blk wr U1.heap.size 64 (arrB 32 (shaB (iL k s))) := ((hd.out.below U3.heap.size).block U1.heap.size C3.out.lt).trans C3.out
      have z0 := (z.cell j).trans (arrB_get 32 (shaB (iL k s)) (by omega))
      have HS := Lib.hid (itS k s j hlt)
      clear z
      go_wp2
      go_roundw
      case rel => exact ⟨j + 1, by omega, by go_num, by rw [HS.out], hd⟩
      case measure => simp [intOf]; omega
    · obtain rfl : j = 6 := by omega
      go_wp2
      go_ret
      exact ⟨rfl, bl_drawn (bl_then B0.out BU.out) hd.out⟩
end Go.Proofs.Ytpklkjekkbpeoaa
