/- DERIVED. ObjectNames: the walk of the law. -/
import Derived.Test.YtkpckpglmiodbaaSegNum
import Derived.Test.YtkpckpglmiodbaaFrmUint
namespace Go.Proofs.Ytkpckpglmiodbaa
open Go.RowKit
attribute [local irreducible] arrW arrB wpList Code.wp

def S33 : ByteArray := ⟨((List.range 33).map fun _ => (0 : UInt8)).toArray⟩
theorem made_str {w : World} {g : Nat} (h : Blk w g 5 (arrB 33 fun _ => 0)) : (convert 25 9 (.slice (some ⟨g, 0, none⟩) 33 33)).run Try.prog w = .ok (.string S33) w := by
  have := run_convert_bytes_back (P := Try.prog) w 25 9 5 ⟨g, 0, none⟩ 33 ((List.range 33).map fun _ => (0 : UInt8)) Try.underlying25 Try.underlying5 Try.underlying9 (fun j hj => by
    have hj' : j < 33 := by simpa using hj
    rw [add_plain, h.cell j, arrB_get 33 _ (by omega)]
    simp [bv])
  rw [List.length_map, List.length_range] at this
  exact this
theorem place_a (W : World) : Calls Try.prog 7 #[.string ⟨#[97]⟩] W fun e w' => e = .returned (.tuple #[.int .i64 2005, .int .i64 0]) ∧ Below W.heap.size W w' := by
  have h := place_yes ⟨#[97]⟩ (by decide +kernel) W
  have e : placeI ⟨#[97]⟩ = 2005 := by rw [← ofI_pos (key := ⟨#[97]⟩) (by decide +kernel)]; exact of_a
  rw [e] at h
  exact h

set_option maxRecDepth 100000 in
set_option maxHeartbeats 3200000 in
theorem objectNames_walk (w : World) :
    Calls Try.prog 3 #[] w fun e w' => e = .returned (.bool true) ∧ Below w.heap.size w w' := by
  obtain ⟨i0, hi0, hz0, hz1, hz2⟩ := info_parts byte_info
  go_enter Try.func3, Try.ntmps3
  go_wp2_with fail
  refine (place_a _).mono ?_
  rintro e w1 ⟨rfl, hb1⟩
  have B1 := Lib.hid hb1
  clear hb1
  go_wp2_with (refine wpList_make_full w1 rfl _ _ 25 rfl w1.heap.size 5 i0 _ 1 Try.underlying25 hi0 hz0 hz1 .i64 .i64 33 33 33 rfl rfl rfl rfl (by rw [hz2]; omega) (by simp only [maxLen]; omega) (Nat.le_refl _) ?_; intro W1 O_ G_; obtain ⟨-, B_⟩ := made_zeros O_; have HB1 := Lib.hid B_; have G1 := Lib.hid G_; have hcv := made_str B_; clear O_ G_ B_)
  refine (segKey_no ⟨#[]⟩ (by decide +kernel) _).mono ?_
  rintro e w2 ⟨rfl, rfl⟩
  go_wp2_with fail
  refine (segKey_no S33 (by decide +kernel) _).mono ?_
  rintro e w2 ⟨rfl, rfl⟩
  have hs : S33.size = 33 := by decide +kernel
  go_wp2_with fail
  refine (segKey_yes (S33.extract 0 32) (by decide +kernel) _).mono ?_
  rintro e w2 ⟨rfl, rfl⟩
  go_wp2
  go_ret
  exact ⟨rfl, bl_of_grown B1.out G1.out (fun b hb => by cases hb)⟩
end Go.Proofs.Ytkpckpglmiodbaa
