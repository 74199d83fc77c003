/- DERIVED. A number in a fixed count of bytes: the document's Fixed; both texts' Prefix. The digest of a text: the program's Of. -/
import Derived.Test.YtljfigikkajlnaaVDigFill2
import Derived.Test.YtljfigikkajlnaaVDigMade
import Derived.Test.YtljfigikkajlnaaVDigWrite
import Derived.Laws.Cover3
namespace Go.Proofs.Ytljfigikkajlnaa
open Go.RowKit
set_option linter.unusedVariables false
set_option linter.unusedSimpArgs false
attribute [local irreducible] arrW arrB wpList Code.wp
def fixD (v e : Nat) : UInt8 := UInt8.ofNat (v / 256 ^ e)
def fixF (v n k : Nat) (j : Nat) : UInt8 := if n - k ≤ j then fixD v (n - 1 - j) else 0
def fixL (v n : Nat) : List Int := (List.range n).map fun j => bv (fixD v (n - 1 - j))
theorem fixF_zero (v n : Nat) : ∀ j, j < n → fixF v n 0 j = 0 := fun j hj => by unfold fixF; rw [if_neg (by omega)]
theorem fixF_next (v n k q : Nat) (h : q + 1 + k = n) : ∀ j, j < n → fixF v n (k + 1) j = if j = q then fixD v k else fixF v n k j := fun j hj => by
  unfold fixF
  by_cases hq : j = q
  · rw [if_pos hq, if_pos (by omega), show n - 1 - j = k by omega]
  · rw [if_neg hq]
    by_cases h1 : n - k ≤ j
    · rw [if_pos h1, if_pos (by omega)]
    · rw [if_neg h1, if_neg (by omega)]
theorem fixD_mod (v k : Nat) : bv (fixD v k) = ((v / 256 ^ k : Nat) : Int) % 256 := by
  unfold bv fixD
  rw [UInt8.toNat_ofNat']
  omega
theorem fixL_length (v n : Nat) : (fixL v n).length = n := by simp [fixL]
theorem fixL_get (v n i : Nat) (h : i < n) : (fixL v n).getD i 0 = bv (fixF v n n i) := by
  simp [fixL, fixF, h]
set_option maxRecDepth 100000 in
set_option maxHeartbeats 3200000 in
theorem fixed_any (v n : Nat) (hv : v < 18446744073709551616) (hn : 1 ≤ n) (hn8 : n ≤ 8) (w : World) :
    Calls Try.prog 89 #[.int .u64 v, .int .i64 n] w fun e w' => e = .returned (.string (strOfNums (fixL v n))) ∧ Below w.heap.size w w' := by
  obtain ⟨i0, hi0, hz0, hz1, hz2⟩ := info_parts byte_info
  go_enter Try.func89, Try.ntmps89
  go_wp2_with (refine wpList_make_full w rfl _ _ 130 rfl w.heap.size 5 i0 _ 1 Try.underlying130 hi0 hz0 hz1 .i64 .i64 (n : Int) (n : Int) n rfl rfl rfl rfl (by rw [hz2]; omega) (by simp only [maxLen]; omega) (Nat.le_refl _) ?_; intro W1 O_ G_; obtain ⟨-, B_⟩ := made_zeros O_; have B1 := Lib.hid B_; have G1 := Lib.hid G_; clear O_ G_ B_)
  have HB2 := Lib.hid (show Blk W1 w.heap.size 5 (arrB n (fixF v n 0)) from by
    rw [arrB_congr n (fixF v n 0) (fun _ => 0) (fixF_zero v n)]; exact B1.out)
  clear B1
  go_loopg [0, 6] (n) (fun gk s0 s6 wx => ∃ (k m X : Nat), m + k = n ∧ gk = m ∧ s0 = .int .u64 X ∧ s6 = .int .i64 ((m : Int) - 1) ∧ X < 18446744073709551616 ∧ Hid (X = v / 256 ^ k) ∧ Hid (Blk wx w.heap.size 5 (arrB n (fixF v n k))) ∧ Hid (Below w.heap.size w wx))
  case atStart => exact ⟨0, n, v, rfl, rfl, rfl, by go_num, hv, Lib.hid (by simp), HB2, Lib.hid (bl_of_grown (Below.refl _ _) G1.out (fun b hb => by cases hb))⟩
  case round =>
    clear HB2 G1
    obtain ⟨k, m, X, hm, rfl, rfl, rfl, hX, HX, hB, hL⟩ := hrel
    rcases gk with _ | q
    · obtain rfl : k = n := by omega
      have e1 : ((0 : Nat) : Int) - 1 = -1 := by omega
      rw [e1]
      have hcv := run_convert_bytes_arg (P := Try.prog) wr 130 5 Try.underlying130 Try.underlying5 w.heap.size 0 k k (fixL v k) (fixL_length v k) (fun i hi => by
        rw [fixL_get v k i hi, Nat.zero_add]
        exact (hB.out.cell i).trans (arrB_get k _ hi)) 9 Try.underlying9
      clear e1 hm
      go_wp2
      go_ret
      exact ⟨rfl, hL.out⟩
    · have e1 : ((q + 1 : Nat) : Int) - 1 = (q : Int) := by omega
      rw [e1]
      have q0 : (0 : Int) ≤ (q : Int) := by omega
      have q1 : (q : Int) < (n : Int) := by omega
      have cb := (hB.out.cell q).trans (arrB_get n _ (by omega))
      have fb := hB.out.frozen q
      have HM := Lib.hid hm
      clear e1 hm
      go_wp2
      have hw : (((X : Nat) : Int) % 256) = bv (fixD v k) := by rw [fixD_mod, HX.out]
      have HB9 := Lib.hid (show Blk (wr.setCell ⟨w.heap.size, q, none⟩ (.int .u8 (bv (fixD v k)))) w.heap.size 5 (arrB n (fixF v n (k + 1))) from by
        have := hB.out.set_ q (.int .u8 (bv (fixD v k)))
        rw [arrB_set] at this
        rw [arrB_congr n _ _ (fixF_next v n k q HM.out)]
        exact this)
      rw [hw]
      go_roundg q
      case measure => omega
      case rel => exact ⟨k + 1, q, X / 256, by have := HM.out; omega, rfl, rfl, rfl, by omega, Lib.hid (by rw [HX.out, Nat.div_div_eq_div_mul, Nat.pow_succ]), HB9, Lib.hid (bl_of_grown hL.out (grown_set' wr w.heap.size q (.int .u8 (bv (fixD v k)))) (zero_lt_of (Nat.le_refl _) rfl))⟩
def prefS (n : Nat) : ByteArray := strOfNums [(n : Int) / 256, (n : Int) % 256]
theorem fixL_two (n : Nat) (h : n < 4096) : strOfNums (fixL n 2) = prefS n := by
  unfold prefS
  rw [show fixL n 2 = [bv (fixD n 1), bv (fixD n 0)] from rfl, fixD_mod, fixD_mod, show ((n / 256 ^ 1 : Nat) : Int) % 256 = (n : Int) / 256 by omega, show ((n / 256 ^ 0 : Nat) : Int) % 256 = (n : Int) % 256 by omega]
end Go.Proofs.Ytljfigikkajlnaa
namespace Go.Proofs.Ytljfigikkajlnaa
open Go.RowKit
set_option linter.unusedVariables false
set_option linter.unusedSimpArgs false
attribute [local go_sem high] w_shl w_shr u32_byte u8_word
attribute [local irreducible] arrW arrB hashC wpList Code.wp
theorem z74 : (Try.prog.info? 156).map (fun i => (i.zero, i.size)) = some (some (.agg (hashC (fun _ => 0) (fun _ => 0) 0 0)), 74) := by
  unfold hashC
  kernel_rfl
set_option maxRecDepth 100000 in
theorem new_any (w : World) : Calls Try.prog 101 #[] w fun e w' => ∃ g, e = .returned (.pointer (some ⟨g, 0, none⟩)) ∧ w.heap.size ≤ g ∧ Blk w' g 156 (hashC h0 (fun _ => 0) 0 0) ∧ Below w.heap.size w w' := by
  go_enter Try.func101, Try.ntmps101
  go_wp2_with (first
    | (go_at_call 126; refine (start_any w).mono ?_; rintro e W1 ⟨rfl, L_⟩; have L1 := Lib.hid L_; clear L_)
    | (refine wpList_buildTo rfl 156 _ rfl _ rfl (hashC h0 (fun _ => 0) 0 0) (by kernel_rfl) ?_)
    | (refine box_arr (w := W1) rfl 156 _ rfl (hashC h0 (fun _ => 0) 0 0) rfl ?_; intro W2 B_ L_ S_; have B2 := Lib.hid B_; have L2 := Lib.hid L_; clear B_ L_ S_))
  go_ret
  exact ⟨_, rfl, L1.out.size, B2.out, bl_then L1.out L2.out⟩
theorem range_list (l : List UInt8) : (List.range l.length).map (fun j => l.getD j 0) = l := by
  apply List.ext_getElem?
  intro j
  rw [List.getElem?_map]
  by_cases h : j < l.length
  · rw [List.getElem?_range h, Option.map_some, List.getD_eq_getElem?_getD, List.getElem?_eq_getElem h]; rfl
  · rw [List.getElem?_eq_none (by simpa using h), List.getElem?_eq_none (by omega)]; rfl
set_option maxRecDepth 100000 in
theorem text_any (gH held0 n0 : Nat) (st0 : Nat → W32) (rest0 : Nat → UInt8) (l0 : List UInt8) (s : ByteArray) (w : World) (hH : Blk w gH 156 (hashC st0 rest0 held0 n0)) (hA : Abs st0 rest0 held0 l0) (hs : s.size ≤ 70368744177664) (hn : n0 ≤ 70368744177664) :
    Calls Try.prog 102 #[.pointer (some ⟨gH, 0, none⟩), .string s] w fun e w' => e = .returned (.tuple #[]) ∧ (∃ st rest held, Abs st rest held (l0 ++ s.data.toList) ∧ Blk w' gH 156 (hashC st rest held (n0 + s.size))) ∧ w.grownBy w' (some gH) := by
  have HH := Lib.hid hH
  have HA := Lib.hid hA
  clear hH hA
  have hlen : s.data.toList.length = s.size := by rw [Array.length_toList]; rfl
  have HLN := Lib.hid hlen
  clear hlen
  go_enter Try.func102, Try.ntmps102
  go_wp2_with (refine conv_ownM (w := w) rfl 9 130 _ rfl s rfl Try.underlying9 Try.underlying130 Try.underlying5 (by omega) ?_; intro v2 W2 O_ L_; obtain ⟨g2, c2, e2, hB2, hc2, hm2, hcl⟩ := O_.form; subst e2; rw [HLN.out]; have H2 := Lib.hid hB2; have HC := Lib.hid (show s.size ≤ c2 ∧ c2 < 9223372036854775808 from ⟨by rw [← HLN.out]; exact hc2, by simp only [maxLen] at hm2; omega⟩); have HB := Lib.hid (show Byt W2 ⟨g2, 0, none⟩ s.size (fun j => s.data.toList.getD j 0) from fun j hj => by rw [add_plain]; exact hcl j (by rw [HLN.out]; exact hj)); have L2 := Lib.hid L_; clear O_ L_ hB2 hc2 hm2 hcl)
  refine (write_any gH g2 0 s.size c2 held0 n0 st0 rest0 (fun j => s.data.toList.getD j 0) l0 W2 (HH.out.below L2.out HH.out.lt) HA.out HB.out (fun _ => by have := H2.out; have := HH.out.lt; omega) HC.out.1 (by omega) HC.out.2).mono ?_
  rintro e W3 ⟨rfl, ⟨st, rest, held, hA3, hB3⟩, hG⟩
  have hrl := range_list s.data.toList
  rw [HLN.out] at hrl
  rw [hrl] at hA3
  have HA3 := Lib.hid hA3
  have HB3 := Lib.hid hB3
  have HG := Lib.hid hG
  clear hA3 hB3 hG hrl
  go_wp2
  go_end0
  exact ⟨rfl, ⟨st, rest, held, HA3.out, HB3.out⟩, grown_step (grown_of_bl L2.out (some gH)) HG.out (.inl rfl)⟩
end Go.Proofs.Ytljfigikkajlnaa
