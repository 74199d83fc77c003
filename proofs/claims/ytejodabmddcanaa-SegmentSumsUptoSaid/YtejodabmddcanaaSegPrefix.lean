/- DERIVED. A number in a fixed count of bytes: the document's Fixed; both texts' Prefix. -/
import Derived.Test.YtejodabmddcanaaSegPlace
namespace Go.Proofs.Ytejodabmddcanaa
open Go.RowKit
attribute [local irreducible] arrW arrB wpList Code.wp

def fixD (v e : Nat) : UInt8 := UInt8.ofNat (v / 256 ^ e)
def fixF (v n k : Nat) (j : Nat) : UInt8 := if n - k ≤ j then fixD v (n - 1 - j) else 0
def fixL (v n : Nat) : List Int := (List.range n).map fun j => bv (fixD v (n - 1 - j))
theorem fixF_zero (v n : Nat) : ∀ j, j < n → fixF v n 0 j = 0 := fun j hj => by unfold fixF; rw [if_neg (by omega)]
theorem fixF_next (v n k q : Nat) (h : q + 1 + k = n) : ∀ j, j < n → fixF v n (k + 1) j = if j = q then fixD v k else fixF v n k j := fun j hj => by
  unfold fixF
  by_cases hq : j = q
  · rw [if_pos hq, if_pos (by omega), show n - 1 - j = k by omega]
  · rw [if_neg hq]
    by_cases h1 : n - k ≤ j
    · rw [if_pos h1, if_pos (by omega)]
    · rw [if_neg h1, if_neg (by omega)]
theorem fixD_mod (v k : Nat) : bv (fixD v k) = ((v / 256 ^ k : Nat) : Int) % 256 := by
  unfold bv fixD
  rw [UInt8.toNat_ofNat']
  omega
theorem fixL_length (v n : Nat) : (fixL v n).length = n := by simp [fixL]
theorem fixL_get (v n i : Nat) (h : i < n) : (fixL v n).getD i 0 = bv (fixF v n n i) := by
  simp [fixL, fixF, h]
theorem byte_val (X : Nat) : IntKind.u8.wrap (X : Int) = (X : Int) % 256 := IntKind.wrap_u8 _

set_option maxRecDepth 100000 in
set_option maxHeartbeats 3200000 in
theorem fixed_any (v n : Nat) (hv : v < 18446744073709551616) (hn : 1 ≤ n) (hn8 : n ≤ 8) (w : World) :
    Calls Try.prog 64 #[.int .u64 v, .int .i64 n] w fun e w' => e = .returned (.string (strOfNums (fixL v n))) ∧ Below w.heap.size w w' := by
  obtain ⟨i0, hi0, hz0, hz1, hz2⟩ := info_parts byte_info
  go_enter Try.func64, Try.ntmps64
  go_wp2_with (refine wpList_make_full w rfl _ _ 23 rfl w.heap.size 5 i0 _ 1 Try.underlying23 hi0 hz0 hz1 .i64 .i64 (n : Int) (n : Int) n rfl rfl rfl rfl (by rw [hz2]; omega) (by simp only [maxLen]; omega) (Nat.le_refl _) ?_; intro W1 O_ G_; obtain ⟨-, B_⟩ := made_zeros O_; have B1 := Lib.hid B_; have G1 := Lib.hid G_; clear O_ G_ B_)
  have HB2 := Lib.hid (show Blk W1 w.heap.size 5 (arrB n (fixF v n 0)) from by
    rw [arrB_congr n (fixF v n 0) (fun _ => 0) (fixF_zero v n)]; exact B1.out)
  clear B1
  go_loopg [0, 6] (n) (fun gk s0 s6 wx => ∃ (k m X : Nat), m + k = n ∧ gk = m ∧ s0 = .int .u64 X ∧ s6 = .int .i64 ((m : Int) - 1) ∧ X < 18446744073709551616 ∧ Hid (X = v / 256 ^ k) ∧ Hid (Blk wx w.heap.size 5 (arrB n (fixF v n k))) ∧ Hid (Below w.heap.size w wx))
  case atStart => exact ⟨0, n, v, rfl, rfl, rfl, by go_num, hv, Lib.hid (by simp), HB2, Lib.hid (bl_of_grown (Below.refl _ _) G1.out (fun b hb => by cases hb))⟩
  case round =>
    clear HB2 G1
    obtain ⟨k, m, X, hm, rfl, rfl, rfl, hX, HX, hB, hL⟩ := hrel
    rcases gk with _ | q
    · obtain rfl : k = n := by omega
      have e1 : ((0 : Nat) : Int) - 1 = -1 := by omega
      rw [e1]
      have hcv := run_convert_bytes_arg (P := Try.prog) wr 23 5 Try.underlying23 Try.underlying5 w.heap.size 0 k k (fixL v k) (fixL_length v k) (fun i hi => by
        rw [fixL_get v k i hi, Nat.zero_add]
        exact (hB.out.cell i).trans (arrB_get k _ hi)) 9 Try.underlying9
      clear e1 hm
      go_wp2
      go_ret
      exact ⟨rfl, hL.out⟩
    · have e1 : ((q + 1 : Nat) : Int) - 1 = (q : Int) := by omega
      rw [e1]
      have q0 : (0 : Int) ≤ (q : Int) := by omega
      have q1 : (q : Int) < (n : Int) := by omega
      have cb := (hB.out.cell q).trans (arrB_get n _ (by omega))
      have fb := hB.out.frozen q
      have HM := Lib.hid hm
      clear e1 hm
      go_wp2
      have hw : (((X : Nat) : Int) % 256) = bv (fixD v k) := by rw [fixD_mod, HX.out]
      have HB9 := Lib.hid (show Blk (wr.setCell ⟨w.heap.size, q, none⟩ (.int .u8 (bv (fixD v k)))) w.heap.size 5 (arrB n (fixF v n (k + 1))) from by
        have := hB.out.set_ q (.int .u8 (bv (fixD v k)))
        rw [arrB_set] at this
        rw [arrB_congr n _ _ (fixF_next v n k q HM.out)]
        exact this)
      rw [hw]
      go_roundg q
      case measure => omega
      case rel => exact ⟨k + 1, q, X / 256, by have := HM.out; omega, rfl, rfl, rfl, by omega, Lib.hid (by rw [HX.out, Nat.div_div_eq_div_mul, Nat.pow_succ]), HB9, Lib.hid (bl_of_grown hL.out (grown_set' wr w.heap.size q (.int .u8 (bv (fixD v k)))) (zero_lt_of (Nat.le_refl _) rfl))⟩

def prefS (n : Nat) : ByteArray := strOfNums [(n : Int) / 256, (n : Int) % 256]
theorem fixL_two (n : Nat) (h : n < 4096) : strOfNums (fixL n 2) = prefS n := by
  unfold prefS
  rw [show fixL n 2 = [bv (fixD n 1), bv (fixD n 0)] from rfl, fixD_mod, fixD_mod, show ((n / 256 ^ 1 : Nat) : Int) % 256 = (n : Int) / 256 by omega, show ((n / 256 ^ 0 : Nat) : Int) % 256 = (n : Int) % 256 by omega]
theorem segB_pos {n : Int} (h : segB n = true) : ∃ m : Nat, n = m ∧ m < 4096 := by
  simp only [segB, Bool.and_eq_true, decide_eq_true_eq] at h
  exact ⟨n.toNat, by omega, by omega⟩
set_option maxRecDepth 100000 in
theorem refPrefix_no (n : Int) (h : segB n = false) (w : World) : Calls Try.prog 36 #[.int .i64 n] w fun e w' => e = .returned (.tuple #[.string ⟨#[]⟩, .int .i64 1]) ∧ w = w' := by
  have hc := refSeg_any n w
  rw [h] at hc
  go_enter Try.func36, Try.ntmps36
  go_wp2_with (go_at_call 63; refine hc.mono ?_; rintro e w1 ⟨rfl, rfl⟩)
  go_ret2
  exact ⟨rfl, rfl⟩
set_option maxRecDepth 100000 in
theorem refPrefix_yes (n : Nat) (h : n < 4096) (w : World) : Calls Try.prog 36 #[.int .i64 n] w fun e w' => e = .returned (.tuple #[.string (prefS n), .int .i64 0]) ∧ Below w.heap.size w w' := by
  have hc := refSeg_any n w
  have hs : segB n = true := by simp [segB]; omega
  rw [hs] at hc
  have hw : IntKind.u64.wrap (n : Int) = (n : Int) := IntWalk.u64_in _ (by omega)
  have hf := fixed_any n 2 (by omega) (by omega) (by omega) w
  rw [fixL_two n h] at hf
  go_enter Try.func36, Try.ntmps36
  go_wp2_with (first
    | (go_at_call 63; refine hc.mono ?_; rintro e w1 ⟨rfl, rfl⟩)
    | (go_at_call 64; refine hf.mono ?_; rintro e w1 ⟨rfl, L_⟩; have L1 := Lib.hid L_; clear L_))
  go_ret2
  exact ⟨rfl, L1.out⟩
set_option maxRecDepth 100000 in
theorem segPrefix_no (n : Int) (h : segB n = false) (w : World) : Calls Try.prog 37 #[.int .i64 n] w fun e w' => e = .returned (.tuple #[.string ⟨#[]⟩, .int .i64 1]) ∧ w = w' := by
  have hc := segSeg_any n w
  rw [h] at hc
  go_enter Try.func37, Try.ntmps37
  go_wp2_with (go_at_call 65; refine hc.mono ?_; rintro e w1 ⟨rfl, rfl⟩)
  go_ret2
  exact ⟨rfl, rfl⟩
theorem conv2 (W : World) (a b : Int) : (convert 23 9 (.slice (some ⟨W.heap.size, 0, none⟩) 2 2)).run Try.prog (W.alloc (.cells #[.int .u8 a, .int .u8 b] 5)) = .ok (.string (strOfNums [a, b])) (W.alloc (.cells #[.int .u8 a, .int .u8 b] 5)) := by
  refine run_convert_bytes_arg _ 23 5 Try.underlying23 Try.underlying5 W.heap.size 0 2 2 [a, b] rfl (fun i hi => ?_) 9 Try.underlying9
  have h := cell_of_row (W.alloc (.cells #[.int .u8 a, .int .u8 b] 5)) W.heap.size (0 + i) _ 5 (0, 0) (heap_alloc_new W _)
  rw [h]
  have : i = 0 ∨ i = 1 := by omega
  rcases this with rfl | rfl <;> rfl
set_option maxRecDepth 100000 in
theorem segPrefix_yes (n : Nat) (h : n < 4096) (w : World) : Calls Try.prog 37 #[.int .i64 n] w fun e w' => e = .returned (.tuple #[.string (prefS n), .int .i64 0]) ∧ Below w.heap.size w w' := by
  have hc := segSeg_any n w
  have hs : segB n = true := by simp [segB]; omega
  rw [hs] at hc
  have hcv := conv2 w ((n : Int) / 256) ((n : Int) % 256)
  have n0 : (0 : Int) ≤ (n : Int) := by omega
  go_enter Try.func37, Try.ntmps37
  go_wp2_with (go_at_call 65; refine hc.mono ?_; rintro e w1 ⟨rfl, rfl⟩)
  go_ret2
  exact ⟨rfl, (Below.refl _ _).alloc (Nat.le_refl _) _⟩
end Go.Proofs.Ytejodabmddcanaa
