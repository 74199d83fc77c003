/- DERIVED. works: items added, taken away, peeled; the item of one entry. -/
import Derived.Test.YtpklkjekkbpeoaaSkPeel
import Derived.Test.YtpklkjekkbpeoaaSkSame
import Derived.Test.YtpklkjekkbpeoaaSkItem
import Derived.Test.YtpklkjekkbpeoaaSegNum
namespace Go.Proofs.Ytpklkjekkbpeoaa
open Go.RowKit
set_option linter.unusedVariables false
set_option linter.unusedSimpArgs false
attribute [local irreducible] mixN arrW arrB

theorem itN_top (k s : ByteArray) : ∀ j, itN k s j / 256 ^ j = itN k s 0
  | 0 => by simp
  | j + 1 => by
    have h2 := (shaB (iL k s) j).toNat_lt
    have h1 := itN_top k s j
    rw [show itN k s (j + 1) = itN k s j * 256 + (shaB (iL k s) j).toNat from rfl, Nat.pow_succ, Nat.mul_comm (256 ^ j) 256, ← Nat.div_div_eq_div_mul, show (itN k s j * 256 + (shaB (iL k s) j).toNat) / 256 = itN k s j by omega]
    exact h1
theorem item_ax : itN ⟨#[97]⟩ ⟨#[120]⟩ 6 / 281474976710656 = 2005 := by
  have h := of_a
  rw [ofI_pos (by decide +kernel), placeI, show placeL ⟨#[97]⟩ = kL ⟨#[97]⟩ from by decide +kernel, bvn, bvn] at h
  have h2 := itN_top ⟨#[97]⟩ ⟨#[120]⟩ 6
  rw [show 281474976710656 = 256 ^ 6 from by decide, h2, itN]
  omega
theorem add_s {w : World} {B g c cap : Nat} {L : List Cel} (x : It) (hs : Skt w B g c cap L) :
    Calls Try.prog 12 #[.pointer (some ⟨g, 0, none⟩), .int .u64 (x.toNat : Int)] w fun e w' => e = .returned (.tuple #[]) ∧ Skt w' B g c cap (layC x 1 L) ∧ w.grownBy w' (some c) :=
  (add_any x B g c cap L hs.n3 hs.n2 w hs.b hs.o).mono fun _ _ h => ⟨h.1, hs.laid (by simp) h.2.1 h.2.2, h.2.2⟩
theorem take_s {w : World} {B g c cap : Nat} {L : List Cel} (x : It) (hs : Skt w B g c cap L) :
    Calls Try.prog 13 #[.pointer (some ⟨g, 0, none⟩), .int .u64 (x.toNat : Int)] w fun e w' => e = .returned (.tuple #[]) ∧ Skt w' B g c cap (layC x (-1) L) ∧ w.grownBy w' (some c) :=
  (take_any x B g c cap L hs.n3 hs.n2 w hs.b hs.o).mono fun _ _ h => ⟨h.1, hs.laid (by simp) h.2.1 h.2.2, h.2.2⟩
theorem bl_laid {w w1 w2 : World} {B g c cap : Nat} {L : List Cel} (hb : Below w.heap.size w w1) (hs : Skt w1 B g c cap L) (hB : w.heap.size ≤ B) (hg : w1.grownBy w2 (some c)) : Below w.heap.size w w2 :=
  Below.grown hb hg hb.size (fun b hb => by cases hb; have := hs.clt.1; omega)
theorem all_three (x : It) (b : BitVec 16) : layC x b (zL 3) = [itC x b, itC x b, itC x b] := by
  have h : ∀ i, i < 3 → isP 3 3 x i = true := fun i hi => isP_iff.2 ⟨i, hi, by unfold plc; simp [Nat.mod_one]⟩
  apply List.ext_getElem (by simp [zL])
  intro i h1 h2
  have hi : i < 3 := by simpa [zL] using h1
  have e := one_getD 3 x b i hi
  rw [h i hi, if_pos rfl, List.getD_eq_getElem?_getD, List.getElem?_eq_getElem h1, Option.getD_some] at e
  rw [e]
  match i, hi with
  | 0, _ => rfl
  | 1, _ => rfl
  | 2, _ => rfl
theorem works_list : layC 7 (-1) (layC 9 1 (layC 7 1 (zL 3))) = layC 9 1 (zL 3) := by
  rw [layC_comm 7 9, layC_undo]
set_option maxRecDepth 100000 in
set_option maxHeartbeats 12800000 in
theorem works_any (w : World) : Calls Try.prog 18 #[] w fun e w' => e = .returned (.bool true) ∧ Below w.heap.size w w' := by
  have h7 : (((7 : It).toNat : Nat) : Int) = 7 := by decide
  have h9 : (((9 : It).toNat : Nat) : Int) = 9 := by decide
  go_enter Try.func18, Try.ntmps18
  go_wp2_with fail
  refine (newS_any 3 (by omega) (by omega) w).mono ?_
  rintro e w1 ⟨⟨g, rfl, hgs, c, cap, hs⟩, hb⟩
  have S1 := Lib.hid hs
  have B1 := Lib.hid hb
  clear hs hb
  have a7 := add_s 7 S1.out
  rw [h7] at a7
  go_wp2_with fail
  refine (a7).mono ?_
  rintro e w2 ⟨rfl, hs, hg⟩
  have S2 := Lib.hid hs
  have B2 := Lib.hid (bl_laid B1.out S1.out (Nat.le_refl _) hg)
  clear hs hg a7
  have a9 := add_s 9 S2.out
  rw [h9] at a9
  go_wp2_with fail
  refine (a9).mono ?_
  rintro e w3 ⟨rfl, hs, hg⟩
  have S3 := Lib.hid hs
  have B3 := Lib.hid (bl_laid B2.out S2.out (Nat.le_refl _) hg)
  clear hs hg a9
  have t7 := take_s 7 S3.out
  rw [h7, works_list] at t7
  go_wp2_with fail
  refine (t7).mono ?_
  rintro e w4 ⟨rfl, hs, hg⟩
  have S4 := Lib.hid hs
  have B4 := Lib.hid (bl_laid B3.out S3.out (Nat.le_refl _) hg)
  clear hs hg t7 S1 S2 S3 B1 B2 B3
  have hl3 : (layC 9 1 (zL 3)).length = 3 := by simp [zL]
  have hpe : peelN (layC 9 1 (zL 3)).length (layC 9 1 (zL 3)) [] [] = (zL 3, [9], []) := by rw [hl3]; exact peel_one 2 3 (by omega) 9
  have hp := peel_any _ g c cap (layC 9 1 (zL 3)) [9] [] w4 S4.out (by rw [hpe]; exact sort_small [9] (by simp)) (by rw [hpe]; exact sort_small [] (by simp))
  rw [hpe] at hp
  go_wp2_with fail
  refine (hp).mono ?_
  rintro e w5 ⟨A1, c1, A2, c2, rfl, o1, o2, hb⟩
  have O1 := Lib.hid o1
  have S5 := Lib.hid (S4.out.below hb)
  have B5 := Lib.hid (bl_then B4.out hb)
  rw [zeroB_zL]
  clear o1 o2 hb hp hpe
  have hc := cells_any _ g c cap _ w5 S5.out
  rw [hl3, all_three] at hc
  go_wp2_with fail
  refine (hc).mono ?_
  rintro e w6 ⟨d, e2, rfl, o1, hb⟩
  have R6 := Lib.hid o1
  have O6 := Lib.hid (O1.out.below hb)
  have B6 := Lib.hid (bl_then B5.out hb)
  clear o1 hb hc hl3
  obtain ⟨⟨q0, q1, q2⟩, _⟩ := cel_at R6.out 0 (by simp) (itC 9 1) rfl
  obtain ⟨⟨s0, s1, s2⟩, _⟩ := cel_at R6.out 2 (by simp) (itC 9 1) rfl
  have q0' : w6.cell? ⟨d, 0, none⟩ = some (.int .i16 1) := q0
  have s1' : w6.cell? ⟨d, 7, none⟩ = some (.int .u64 9) := s1
  have s0' : w6.cell? ⟨d, 6, none⟩ = some (.int .i16 1) := s0
  clear q0 q1 q2 s0 s1 s2
  go_wp2_with fail
  obtain ⟨w7, hw7⟩ : ∃ w7, w7 = w6.alloc (.cells #[.int .u64 9] 24) := ⟨_, rfl⟩
  rw [← hw7]
  have R7 : GR.Rd itK w7 (some ⟨w6.heap.size, 0, none⟩) [9] := by rw [hw7]; exact GR.rd_new (K := itK) (W := w6) (9 : It) rfl (by show (8 : Nat) ≤ _; omega)
  have T7 : GR.Rd itK w7 A1 [9] := by rw [hw7]; exact (O6.out.rd (by show (1 : Nat) * 8 ≤ _; omega)).2.2.alloc _
  have B7 := Lib.hid (show Below w.heap.size w w7 from by rw [hw7]; exact bl_alloc B6.out _)
  clear hw7 q0' s1' s0' R6 O6 B6 S5 B5 S4 O1 B4
  refine (sameItems_any A1 (some ⟨w6.heap.size, 0, none⟩) c1 1 [9] [9] w7 T7 R7).mono ?_
  rintro e w8 ⟨rfl, hb⟩
  rw [show decide (([9] : List It) = [9]) = true from by simp]
  have B8 := Lib.hid (bl_then B7.out hb)
  clear hb R7 T7 B7
  obtain ⟨V, hV⟩ : ∃ V, V = itN ⟨#[97]⟩ ⟨#[120]⟩ 6 := ⟨_, rfl⟩
  have hI := skItem_any ⟨#[97]⟩ ⟨#[120]⟩ (by decide) (by decide) w8
  have hV2 := item_ax
  have hVl := itN_lt ⟨#[97]⟩ ⟨#[120]⟩ 6
  rw [← hV] at hI hV2 hVl
  have hVm : V < 18446744073709551616 := by
    have h2 : (4096 : Nat) * 256 ^ 6 ≤ 18446744073709551616 := by decide
    omega
  clear hV hVl
  have HV2 := Lib.hid hV2
  clear hV2
  go_wp2_with (first | (go_at_call 9; refine (hI).mono ?_; rintro e w9 ⟨rfl, hb⟩; have B9 := Lib.hid (bl_then B8.out hb); clear hb) | (go_at_call 11; refine (segment_any V hVm _).mono ?_; rintro e w10 ⟨rfl, rfl⟩))
  go_ret
  exact ⟨ret_bool (by have := HV2.out; rw [beq_iff_eq]; omega), B9.out⟩
end Go.Proofs.Ytpklkjekkbpeoaa
