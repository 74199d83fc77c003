/- DERIVED. What a key may be; which entries are a list (both texts of chapters 13 and 14). A key's segment, and what its keys begin with: both texts. A number in a fixed count of bytes: the document's Fixed; both texts' Prefix. (Several texts in one: SegKey, SegPlace, SegPrefix.) -/
import Derived.Test.YtljfigikkajlnaaSegBase
import Derived.Test.YtljfigikkajlnaaDigSum
import Derived.Test.YtljfigikkajlnaaDigFill2
import Derived.Test.YtljfigikkajlnaaDigMade
import Derived.Laws.Cover3
namespace Go.Proofs.Ytljfigikkajlnaa
open Go.RowKit
set_option linter.unusedVariables false
set_option linter.unusedSimpArgs false

/-- A key of 1 to 32 bytes. -/
def keyB (s : ByteArray) : Bool := decide (1 ≤ s.size) && decide (s.size ≤ 32)
def keyE (s : ByteArray) : Int := if keyB s then 0 else 130
theorem keyE_pos {s : ByteArray} (h : keyB s = true) : keyE s = 0 := by simp [keyE, h]
theorem keyE_neg {s : ByteArray} (h : keyB s = false) : keyE s = 130 := by simp [keyE, h]
theorem keyB_iff (s : ByteArray) : keyB s = true ↔ 1 ≤ s.size ∧ s.size ≤ 32 := by simp [keyB]

theorem toList_eq (s : ByteArray) : s.toList = s.data.toList := ByteArray.toList_eq s
theorem nonempty_of_size {s : ByteArray} (h : 1 ≤ s.size) : s.data.toList.isEmpty = false := by
  obtain ⟨⟨l⟩⟩ := s
  cases l with
  | nil => exact absurd h (by decide)
  | cons x l => rfl
theorem empty_of_size {s : ByteArray} (h : s.size = 0) : s.data.toList.isEmpty = true := by
  obtain ⟨⟨l⟩⟩ := s
  cases l with
  | nil => rfl
  | cons x l => exact absurd h (by simp [ByteArray.size])

theorem segKey_yes (s : ByteArray) (h : keyB s = true) (w : World) : Calls Try.prog 27 #[.string s] w fun e w' => e = .returned (.int .i64 0) ∧ w = w' := by
  have hk := (keyB_iff _).1 h
  have b1 : s.toList.isEmpty = false := by rw [toList_eq]; exact nonempty_of_size hk.1
  have b2 : decide (32 < (s.size : Int)) = false := by simp; omega
  clear h hk
  go_enter Try.func27, Try.ntmps27
  go_wp2
  go_ret
  exact ⟨rfl, rfl⟩
theorem segKey_no (s : ByteArray) (h : keyB s = false) (w : World) : Calls Try.prog 27 #[.string s] w fun e w' => e = .returned (.int .i64 130) ∧ w = w' := by
  by_cases h0 : s.size = 0
  · have b1 : s.toList.isEmpty = true := by rw [toList_eq]; exact empty_of_size h0
    clear h h0
    go_enter Try.func27, Try.ntmps27
    go_wp2
    all_goals (go_ret; exact ⟨rfl, rfl⟩)
  · have b1 : s.toList.isEmpty = false := by rw [toList_eq]; exact nonempty_of_size (by omega)
    have b2 : decide (32 < (s.size : Int)) = true := by
      simp [keyB] at h; simp; omega
    clear h h0
    go_enter Try.func27, Try.ntmps27
    go_wp2
    all_goals (go_ret; exact ⟨rfl, rfl⟩)
end Go.Proofs.Ytljfigikkajlnaa

namespace Go.Proofs.Ytljfigikkajlnaa
open Go.RowKit
set_option linter.unusedVariables false
set_option linter.unusedSimpArgs false
attribute [local irreducible] arrW arrB wpList Code.wp

/-- A key's segment: twelve bits of its text's digest. -/
def placeL (key : ByteArray) : List UInt8 := (⟨#[75]⟩ ++ key : ByteArray).data.toList
def placeI (key : ByteArray) : Int := bv (shaB (placeL key) 0) * 16 + bv (shaB (placeL key) 1) / 16
def ofI (key : ByteArray) : Int := if keyB key then placeI key else -1
theorem ofI_pos {key : ByteArray} (h : keyB key = true) : ofI key = placeI key := by rw [ofI, if_pos h]
theorem ofI_neg {key : ByteArray} (h : keyB key = false) : ofI key = -1 := by rw [ofI, if_neg (by rw [h]; decide)]
theorem bv_lt (x : UInt8) : 0 ≤ bv x ∧ bv x < 256 := by
  have := x.toNat_lt
  unfold bv
  omega
theorem w64_small (n : Int) (h : 0 ≤ n) (h1 : n < 65536) : wrap64 n = n := by unfold wrap64; omega
theorem place_bits (x y : UInt8) : bits .or .i64 (wrap64 (wrap64 (bv x) * 16)) (wrap64 (bv y) / 16) = bv x * 16 + bv y / 16 := by
  have hx := bv_lt x
  have hy := bv_lt y
  rw [w64_small (bv x) hx.1 (by omega), w64_small (bv x * 16) (by omega) (by omega), w64_small (bv y) hy.1 (by omega)]
  exact bits_join .i64 62 (by decide) (fun n h h1 => IntWalk.i64_in _ (by omega)) 4 _ _ (by omega) (by omega) (by omega) (by omega) (by omega) (by omega)
theorem place_sum (x y : UInt8) : wrap64 (wrap64 (wrap64 (bv x) * 16) + wrap64 ((wrap64 (bv y)).tdiv 16)) = bv x * 16 + bv y / 16 := by
  have hx := bv_lt x
  have hy := bv_lt y
  rw [w64_small (bv x) hx.1 (by omega), w64_small (bv x * 16) (by omega) (by omega), w64_small (bv y) hy.1 (by omega), Int.tdiv_eq_ediv_of_nonneg hy.1, w64_small (bv y / 16) (by omega) (by omega), w64_small _ (by omega) (by omega)]
set_option maxRecDepth 100000 in
set_option maxHeartbeats 3200000 in
theorem place_yes (s : ByteArray) (h : keyB s = true) (w : World) : Calls Try.prog 26 #[.string s] w fun e w' => e = .returned (.tuple #[.int .i64 (placeI s), .int .i64 0]) ∧ Below w.heap.size w w' := by
  have hk := (keyB_iff _).1 h
  have ks := hk.2
  have k1 := hk.1
  have hcat : ∀ W, (Op.stringOp .add ⟨#[75]⟩ s).run Try.prog W = .ok (.string (⟨#[75]⟩ ++ s)) W := fun W => run_string_add_sum W _ _ (by show 1 + s.size ≤ _; omega)
  have hcs : ((⟨#[75]⟩ : ByteArray) ++ s).size ≤ 70368744177664 := by rw [ByteArray.size_append]; show 1 + s.size ≤ _; omega
  have HCS := Lib.hid hcs
  have HSZ := Lib.hid ks
  clear hk ks k1 hcs
  go_enter Try.func26, Try.ntmps26
  go_wp2_with (first
    | (go_at_call 27; refine (segKey_yes s h _).mono ?_; rintro e w1 ⟨rfl, rfl⟩)
    | (go_at_call 60; refine (of_any _ HCS.out w).mono ?_; rintro e W1 ⟨rfl, L_⟩; have L1 := Lib.hid L_; clear L_)
    | (refine alloc_arr (w := W1) rfl 91 rfl _ _ z32 ?_; intro W2 B_ L_ S_; have B2 := Lib.hid B_; have L2 := Lib.hid L_; have S2 := Lib.hid S_; clear B_ L_ S_)
    | (refine store_arr (w := W2) rfl 91 _ _ rfl W1.heap.size (arrB 32 (shaB (placeL s))) rfl rfl _ _ B2.out (by rw [arrB_size]; exact s32) (by rw [arrB_size, arrB_size]) (arrB_one _ _) ?_; intro W3 B_ G_ S_; have B3 := Lib.hid B_; have G3 := Lib.hid G_; clear B_ G_ S_; have c0 := (B3.out.cell 0).trans (arrB_get 32 (shaB (placeL s)) (by omega)); have c1 := (B3.out.cell 1).trans (arrB_get 32 (shaB (placeL s)) (by omega))))
  rw [place_bits]
  go_ret2
  exact ⟨rfl, bl_of_grown (bl_then L1.out L2.out) G3.out (zero_lt_of (by have := L1.out.size; omega) rfl)⟩

set_option maxRecDepth 100000 in
theorem place_no (s : ByteArray) (h : keyB s = false) (w : World) : Calls Try.prog 26 #[.string s] w fun e w' => e = .returned (.tuple #[.int .i64 0, .int .i64 130]) ∧ w = w' := by
  go_enter Try.func26, Try.ntmps26
  go_wp2_with (go_at_call 27; refine (segKey_no s h _).mono ?_; rintro e w1 ⟨rfl, rfl⟩)
  go_ret2
  exact ⟨rfl, rfl⟩
end Go.Proofs.Ytljfigikkajlnaa

namespace Go.Proofs.Ytljfigikkajlnaa
open Go.RowKit
set_option linter.unusedVariables false
set_option linter.unusedSimpArgs false
attribute [local irreducible] arrW arrB wpList Code.wp

def fixD (v e : Nat) : UInt8 := UInt8.ofNat (v / 256 ^ e)
def fixF (v n k : Nat) (j : Nat) : UInt8 := if n - k ≤ j then fixD v (n - 1 - j) else 0
def fixL (v n : Nat) : List Int := (List.range n).map fun j => bv (fixD v (n - 1 - j))
theorem fixF_zero (v n : Nat) : ∀ j, j < n → fixF v n 0 j = 0 := fun j hj => by unfold fixF; rw [if_neg (by omega)]
theorem fixF_next (v n k q : Nat) (h : q + 1 + k = n) : ∀ j, j < n → fixF v n (k + 1) j = if j = q then fixD v k else fixF v n k j := fun j hj => by
  unfold fixF
  by_cases hq : j = q
  · rw [if_pos hq, if_pos (by omega), show n - 1 - j = k by omega]
  · rw [if_neg hq]
    by_cases h1 : n - k ≤ j
    · rw [if_pos h1, if_pos (by omega)]
    · rw [if_neg h1, if_neg (by omega)]
theorem fixD_mod (v k : Nat) : bv (fixD v k) = ((v / 256 ^ k : Nat) : Int) % 256 := by
  unfold bv fixD
  rw [UInt8.toNat_ofNat']
  omega
theorem fixL_length (v n : Nat) : (fixL v n).length = n := by simp [fixL]
theorem fixL_get (v n i : Nat) (h : i < n) : (fixL v n).getD i 0 = bv (fixF v n n i) := by
  simp [fixL, fixF, h]
theorem byte_val (X : Nat) : IntKind.u8.wrap (X : Int) = (X : Int) % 256 := IntKind.wrap_u8 _

set_option maxRecDepth 100000 in
set_option maxHeartbeats 3200000 in
theorem fixed_any (v n : Nat) (hv : v < 18446744073709551616) (hn : 1 ≤ n) (hn8 : n ≤ 8) (w : World) :
    Calls Try.prog 89 #[.int .u64 v, .int .i64 n] w fun e w' => e = .returned (.string (strOfNums (fixL v n))) ∧ Below w.heap.size w w' := by
  obtain ⟨i0, hi0, hz0, hz1, hz2⟩ := info_parts byte_info
  go_enter Try.func89, Try.ntmps89
  go_wp2_with (refine wpList_make_full w rfl _ _ 130 rfl w.heap.size 5 i0 _ 1 Try.underlying130 hi0 hz0 hz1 .i64 .i64 (n : Int) (n : Int) n rfl rfl rfl rfl (by rw [hz2]; omega) (by simp only [maxLen]; omega) (Nat.le_refl _) ?_; intro W1 O_ G_; obtain ⟨-, B_⟩ := made_zeros O_; have B1 := Lib.hid B_; have G1 := Lib.hid G_; clear O_ G_ B_)
  have HB2 := Lib.hid (show Blk W1 w.heap.size 5 (arrB n (fixF v n 0)) from by
    rw [arrB_congr n (fixF v n 0) (fun _ => 0) (fixF_zero v n)]; exact B1.out)
  clear B1
  go_loopg [0, 6] (n) (fun gk s0 s6 wx => ∃ (k m X : Nat), m + k = n ∧ gk = m ∧ s0 = .int .u64 X ∧ s6 = .int .i64 ((m : Int) - 1) ∧ X < 18446744073709551616 ∧ Hid (X = v / 256 ^ k) ∧ Hid (Blk wx w.heap.size 5 (arrB n (fixF v n k))) ∧ Hid (Below w.heap.size w wx))
  case atStart => exact ⟨0, n, v, rfl, rfl, rfl, by go_num, hv, Lib.hid (by simp), HB2, Lib.hid (bl_of_grown (Below.refl _ _) G1.out (fun b hb => by cases hb))⟩
  case round =>
    clear HB2 G1
    obtain ⟨k, m, X, hm, rfl, rfl, rfl, hX, HX, hB, hL⟩ := hrel
    rcases gk with _ | q
    · obtain rfl : k = n := by omega
      have e1 : ((0 : Nat) : Int) - 1 = -1 := by omega
      rw [e1]
      have hcv := run_convert_bytes_arg (P := Try.prog) wr 130 5 Try.underlying130 Try.underlying5 w.heap.size 0 k k (fixL v k) (fixL_length v k) (fun i hi => by
        rw [fixL_get v k i hi, Nat.zero_add]
        exact (hB.out.cell i).trans (arrB_get k _ hi)) 9 Try.underlying9
      clear e1 hm
      go_wp2
      go_ret
      exact ⟨rfl, hL.out⟩
    · have e1 : ((q + 1 : Nat) : Int) - 1 = (q : Int) := by omega
      rw [e1]
      have q0 : (0 : Int) ≤ (q : Int) := by omega
      have q1 : (q : Int) < (n : Int) := by omega
      have cb := (hB.out.cell q).trans (arrB_get n _ (by omega))
      have fb := hB.out.frozen q
      have HM := Lib.hid hm
      clear e1 hm
      go_wp2
      have hw : (((X : Nat) : Int) % 256) = bv (fixD v k) := by rw [fixD_mod, HX.out]
      have HB9 := Lib.hid (show Blk (wr.setCell ⟨w.heap.size, q, none⟩ (.int .u8 (bv (fixD v k)))) w.heap.size 5 (arrB n (fixF v n (k + 1))) from by
        have := hB.out.set_ q (.int .u8 (bv (fixD v k)))
        rw [arrB_set] at this
        rw [arrB_congr n _ _ (fixF_next v n k q HM.out)]
        exact this)
      rw [hw]
      go_roundg q
      case measure => omega
      case rel => exact ⟨k + 1, q, X / 256, by have := HM.out; omega, rfl, rfl, rfl, by omega, Lib.hid (by rw [HX.out, Nat.div_div_eq_div_mul, Nat.pow_succ]), HB9, Lib.hid (bl_of_grown hL.out (grown_set' wr w.heap.size q (.int .u8 (bv (fixD v k)))) (zero_lt_of (Nat.le_refl _) rfl))⟩

def prefS (n : Nat) : ByteArray := strOfNums [(n : Int) / 256, (n : Int) % 256]
theorem fixL_two (n : Nat) (h : n < 4096) : strOfNums (fixL n 2) = prefS n := by
  unfold prefS
  rw [show fixL n 2 = [bv (fixD n 1), bv (fixD n 0)] from rfl, fixD_mod, fixD_mod, show ((n / 256 ^ 1 : Nat) : Int) % 256 = (n : Int) / 256 by omega, show ((n / 256 ^ 0 : Nat) : Int) % 256 = (n : Int) % 256 by omega]
theorem conv2 (W : World) (a b : Int) : (convert 130 9 (.slice (some ⟨W.heap.size, 0, none⟩) 2 2)).run Try.prog (W.alloc (.cells #[.int .u8 a, .int .u8 b] 5)) = .ok (.string (strOfNums [a, b])) (W.alloc (.cells #[.int .u8 a, .int .u8 b] 5)) := by
  refine run_convert_bytes_arg _ 130 5 Try.underlying130 Try.underlying5 W.heap.size 0 2 2 [a, b] rfl (fun i hi => ?_) 9 Try.underlying9
  have h := cell_of_row (W.alloc (.cells #[.int .u8 a, .int .u8 b] 5)) W.heap.size (0 + i) _ 5 (0, 0) (heap_alloc_new W _)
  rw [h]
  have : i = 0 ∨ i = 1 := by omega
  rcases this with rfl | rfl <;> rfl
end Go.Proofs.Ytljfigikkajlnaa
