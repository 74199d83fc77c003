/- DERIVED. What stands behind a text of so many bytes: the program's Fill. -/
import Derived.Test.YtpklkjekkbpeoaaDigBuf
import Derived.Test.YtpklkjekkbpeoaaDigFill
import Derived.Test.YtpklkjekkbpeoaaDigWords
import Derived.BigRegion
namespace Go.Proofs.Ytpklkjekkbpeoaa
open Go.RowKit
set_option linter.unusedVariables false
set_option linter.unusedSimpArgs false
attribute [local irreducible] arrB wpList Code.wp

theorem made_zeros {w : World} {B g n : Nat} (h : w.ownsRow B 5 1 (.slice (some ⟨g, 0, none⟩) n n) n (madeCells (Value.int .u8 0).cells (n * 1)).toList) : B ≤ g ∧ Blk w g 5 (arrB n fun _ => 0) := by
  rcases h.2 with ⟨hv, _⟩ | ⟨g', cap, cur, hv, hb, hg, h1, h2, h3, h4⟩
  · cases hv
  · injection hv with e1 e2 e3
    injection e1 with e1
    injection e1 with e1
    subst e1 e3
    refine ⟨hb, ?_⟩
    have hc : cur = arrB n fun _ => 0 := by
      have h5 : cur.toList.length ≤ n * 1 := by rw [Array.length_toList, h3]; exact Nat.le_refl _
      rw [List.take_of_length_le h5] at h4
      apply Array.ext_getElem?
      intro j
      have h6 := congrArg (fun z => z[j]?) h4
      simp only [Array.getElem?_toList] at h6
      rw [h6]
      by_cases hj : j < n
      · rw [arrB_get n (fun _ => 0) hj]
        simp [madeCells, hj, Value.cells, Nat.mod_one]
        rfl
      · rw [Array.getElem?_eq_none (show (arrB n fun _ => 0).size ≤ j by rw [arrB_size]; omega)]
        simp [madeCells]
        omega
    rw [← hc]
    exact hg
theorem long_idx (n : Nat) (hn : n < 9223372036854775808) : ∃ a b : Nat, IntKind.u64.wrap ((n : Int) + 8) = (a : Int) ∧ Int.tmod (a : Int) 64 = (b : Int) ∧ IntKind.i64.wrap (b : Int) = (b : Int) ∧ IntKind.i64.wrap (72 - (b : Int)) = (((fillL n).length : Nat) : Int) := by
  refine ⟨n + 8, (n + 8) % 64, ?_, ?_, ?_, ?_⟩
  · have := u64_small (n := n + 8) (by omega)
    rw [← this]; congr 1
  · rw [Int.tmod_eq_emod_of_nonneg (by omega)]; omega
  · rw [IntWalk.i64_in _ (by omega)]
  · rw [fillL_length, ← zeros_long, IntWalk.i64_in _ (by omega)]; omega
theorem back_idx (v L i : Nat) (hi : i < 8) (hL : 9 ≤ L) (hL2 : L ≤ 72) : ∃ k a x : Nat, IntKind.i64.wrap (8 * (i : Int)) = (k : Int) ∧ IntKind.i64.wrap ((L : Int) - 1) = (a : Int) ∧ IntKind.i64.wrap ((a : Int) - (i : Int)) = (x : Int) ∧ ((0 : Int) ≤ (k : Int) ∧ (k : Int) ≤ 64 ∧ (0 : Int) ≤ (x : Int) ∧ (x : Int) < (L : Int)) ∧
    IntKind.u8.wrap ((v : Int) / 2 ^ k) = bv (beB v (7 - i)) ∧ Hid (x = L - 1 - i ∧ x < L) := by
  refine ⟨8 * i, L - 1, L - 1 - i, ?_, ?_, ?_, ⟨by omega, by omega, by omega, by omega⟩, ?_, rfl, by omega⟩
  · rw [IntWalk.i64_in _ (by omega)]; omega
  · rw [IntWalk.i64_in _ (by omega)]; omega
  · rw [IntWalk.i64_in _ (by omega)]; omega
  · have h2 : ((v : Int) / 2 ^ (8 * i)) = ((v / 2 ^ (8 * i) : Nat) : Int) := by rw [Int.natCast_ediv, Int.natCast_pow]; rfl
    rw [h2, bv, beB, UInt8.toNat_ofNat', show 56 - 8 * (7 - i) = 8 * i by omega]
    simp only [IntKind.wrap, IntKind.bits, IntKind.signed, Bool.false_and, Bool.false_eq_true, if_false]
    omega
/-- The bytes so far. -/
def fillF (n i : Nat) : Nat → UInt8 := fun j => if j = 0 then 128 else if (fillL n).length - i ≤ j then beB (8 * n % 18446744073709551616) (j - ((fillL n).length - 8)) else 0
theorem fillF_all (n j : Nat) (hj : j < (fillL n).length) : fillF n 8 j = (fillL n).getD j 0 := by
  have hl := fillL_length n
  unfold fillF
  by_cases h0 : j = 0
  · subst h0; rfl
  · rw [if_neg h0]
    have h1 : (fillL n).getD j 0 = (List.replicate (zeros n) 0 ++ (List.range 8).map (beB (8 * n % 18446744073709551616))).getD (j - 1) 0 := by
      obtain ⟨k, rfl⟩ : ∃ k, j = k + 1 := ⟨j - 1, by omega⟩
      rfl
    rw [h1]
    by_cases h2 : (fillL n).length - 8 ≤ j
    · rw [if_pos h2, List.getD_eq_getElem?_getD, List.getElem?_append_right (by simp; omega)]
      simp only [List.length_replicate]
      rw [List.getElem?_map, List.getElem?_range (by omega)]
      simp only [Option.map_some, Option.getD_some]
      congr 1
      omega
    · rw [if_neg h2, List.getD_eq_getElem?_getD, List.getElem?_append_left (by simp; omega), List.getElem?_replicate]
      split <;> rfl
theorem fillF_next (n i : Nat) (hi : i < 8) : arrB (fillL n).length (fun j => if j = (fillL n).length - 1 - i then beB (8 * n % 18446744073709551616) (7 - i) else fillF n i j) = arrB (fillL n).length (fillF n (i + 1)) := by
  have hl := fillL_length n
  refine arrB_congr _ _ _ fun j hj => ?_
  by_cases h : j = (fillL n).length - 1 - i
  · subst h
    rw [if_pos rfl, fillF, if_neg (by omega), if_pos (by omega)]
    congr 1
    omega
  · rw [if_neg h]
    unfold fillF
    by_cases h0 : j = 0
    · rw [if_pos h0, if_pos h0]
    · rw [if_neg h0, if_neg h0]
      by_cases h2 : (fillL n).length - i ≤ j
      · rw [if_pos h2, if_pos (by omega)]
      · rw [if_neg h2, if_neg (by omega)]
set_option maxRecDepth 100000 in
set_option maxHeartbeats 6400000 in
theorem fill_any (n : Nat) (hn : n < 9223372036854775808) (w : World) :
    Calls Try.prog 72 #[.int .u64 n] w fun e w' => ∃ g, e = .returned (.slice (some ⟨g, 0, none⟩) (fillL n).length (fillL n).length) ∧ w.heap.size ≤ g ∧ Blk w' g 5 (arrB (fillL n).length fun j => (fillL n).getD j 0) ∧ Below w.heap.size w w' := by
  obtain ⟨i0, hi0, hz0, hz1, hz2⟩ := info_parts byte_info
  obtain ⟨a, b, e0, e1, e2, e3⟩ := long_idx n hn
  obtain ⟨L, hL⟩ : ∃ L, L = (fillL n).length := ⟨_, rfl⟩
  have hL9 : 9 ≤ L ∧ L ≤ 72 := by rw [hL, fillL_length]; have := zeros_lt n; omega
  have hLa := hL9.1
  have hLb := hL9.2
  rw [← hL] at e3 ⊢
  have HLL := Lib.hid hL
  have HN := Lib.hid hn
  clear hL hL9 hn
  have l0 : (0 : Int) < (L : Int) := by omega
  go_enter Try.func72, Try.ntmps72
  go_wp2_with (refine wpList_make_full w rfl _ _ 72 rfl w.heap.size 5 i0 _ 1 Try.underlying72 hi0 hz0 hz1 .i64 .i64 (L : Int) (L : Int) L rfl rfl rfl rfl (by rw [hz2]; omega) (by simp only [maxLen]; omega) (Nat.le_refl _) ?_; intro W1 O_ G_; obtain ⟨-, B_⟩ := made_zeros O_; have B1 := Lib.hid B_; have G1 := Lib.hid G_; clear O_ G_ B_; have c0 := (B1.out.cell 0).trans (arrB_get L (fun _ => 0) (by omega)); have f0 := B1.out.frozen 0)
  have HB2 := Lib.hid (show Blk (W1.setCell ⟨w.heap.size, 0, none⟩ (.int .u8 (bv 128))) w.heap.size 5 (arrB L (fillF n 0)) from by
    have := B1.out.set_ 0 (.int .u8 (bv 128))
    rw [arrB_set] at this
    rw [arrB_congr L (fillF n 0) (fun j => if j = 0 then 128 else 0) (fun j hj => by
      unfold fillF
      rw [← HLL.out, Nat.sub_zero]
      by_cases h : j = 0
      · rw [if_pos h, if_pos h]
      · rw [if_neg h, if_neg h, if_neg (by omega)])]
    exact this)
  have HG2 := Lib.hid (show w.grownBy (W1.setCell ⟨w.heap.size, 0, none⟩ (.int .u8 (bv 128))) none from
    ⟨G1.out.os, G1.out.tape, G1.out.output, by have := G1.out.size; simpa [World.setCell] using this, fun k hk _ => (Below.heap_setCell _ _ _ _ (by show k ≠ w.heap.size; omega)).trans (G1.out.block k hk (by simp))⟩)
  clear B1 G1 c0 f0
  obtain ⟨V, hV⟩ : ∃ V, V = 8 * n % 18446744073709551616 := ⟨_, rfl⟩
  have ev : IntKind.u64.wrap (8 * (n : Int)) = (V : Int) := by rw [hV, ← u64_mod]; rfl
  have HV := Lib.hid hV
  clear hV
  go_loopg [15] 8 (fun gk s15 wx => ∃ i : Nat, i ≤ 8 ∧ gk = 8 - i ∧ s15 = .int .i64 i ∧ Hid (Blk wx w.heap.size 5 (arrB L (fillF n i))) ∧ Hid (Below w.heap.size w wx))
  case atStart => exact ⟨0, by omega, rfl, rfl, HB2, Lib.hid (bl_of_grown (Below.refl _ _) HG2.out (fun b hb => by cases hb))⟩
  case round =>
    clear HB2 HG2
    obtain ⟨i, hi, rfl, rfl, hB, hL⟩ := hrel
    by_cases hlt : i < 8
    · have i0 : (0 : Int) ≤ (i : Int) := by omega
      have i1 : (i : Int) < 8 := by omega
      obtain ⟨k, a', x, f0, f1, f2, ⟨g0, g1, g2, g3⟩, f4, HX⟩ := back_idx V L i hlt hLa hLb
      have cb := (hB.out.cell x).trans (arrB_get L _ HX.out.2)
      have fb := hB.out.frozen x
      have HB9 := Lib.hid (show Blk (wr.setCell ⟨w.heap.size, x, none⟩ (.int .u8 (bv (beB V (7 - i))))) w.heap.size 5 (arrB L (fillF n (i + 1))) from by
        have := hB.out.set_ x (.int .u8 (bv (beB V (7 - i))))
        rw [arrB_set, HX.out.1, HV.out, HLL.out, fillF_next n i hlt] at this
        rw [HX.out.1, HV.out, HLL.out]
        exact this)
      go_wp2
      go_roundg (8 - (i + 1))
      case measure => omega
      case rel => exact ⟨i + 1, by omega, rfl, by go_num, HB9, Lib.hid (bl_of_grown hL.out (grown_set' _ _ _ _) (fun b hb => by injection hb with hb; omega))⟩
    · obtain rfl : i = 8 := by omega
      have HE := Lib.hid (show arrB L (fillF n 8) = arrB L fun j => (fillL n).getD j 0 from by
        rw [HLL.out]
        exact arrB_congr _ _ _ (fun j hj => fillF_all n j hj))
      rw [HE.out] at hB
      go_wp2
      go_ret
      exact ⟨_, rfl, Nat.le_refl _, hB.out, hL.out⟩
end Go.Proofs.Ytpklkjekkbpeoaa
