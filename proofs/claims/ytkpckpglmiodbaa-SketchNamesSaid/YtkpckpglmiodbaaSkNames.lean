/- DERIVED. SketchNames: the walk of the law. -/
import Derived.Test.YtkpckpglmiodbaaSegBase
import Derived.Test.YtkpckpglmiodbaaGRow
namespace Go.Proofs.Ytkpckpglmiodbaa
open Go.RowKit

theorem lay_nil (x n : Int) (w : World) : Calls Try.prog 28 #[.pointer none, .int .u64 x, .int .i16 n] w fun e w' => e = .returned (.tuple #[]) ∧ w = w' := by
  go_enter Try.func28, Try.ntmps28
  go_wp2
  first | go_end0 | refine bodyPost_ret (results_none rfl _ _ _) rfl ?_
  exact ⟨rfl, rfl⟩
theorem add_nil (x : Int) (w : World) : Calls Try.prog 12 #[.pointer none, .int .u64 x] w fun e w' => e = .returned (.tuple #[]) ∧ w = w' := by
  go_enter Try.func12, Try.ntmps12
  go_wp2_with (go_at_call 28; refine (lay_nil _ _ _).mono ?_; rintro e w1 ⟨rfl, rfl⟩)
  first | go_end0 | refine bodyPost_ret (results_none rfl _ _ _) rfl ?_
  exact ⟨rfl, rfl⟩
theorem take_nil (x : Int) (w : World) : Calls Try.prog 13 #[.pointer none, .int .u64 x] w fun e w' => e = .returned (.tuple #[]) ∧ w = w' := by
  go_enter Try.func13, Try.ntmps13
  go_wp2_with (go_at_call 28; refine (lay_nil _ _ _).mono ?_; rintro e w1 ⟨rfl, rfl⟩)
  first | go_end0 | refine bodyPost_ret (results_none rfl _ _ _) rfl ?_
  exact ⟨rfl, rfl⟩
theorem minus_nil (p : Option Addr) (w : World) : Calls Try.prog 14 #[.pointer p, .pointer none] w fun e w' => e = .returned (.tuple #[.pointer none, .int .i64 2]) ∧ w = w' := by
  cases p <;>
  · go_enter Try.func14, Try.ntmps14
    go_wp2
    go_ret2
    exact ⟨rfl, rfl⟩
theorem peel_nil (w : World) : Calls Try.prog 15 #[.pointer none] w fun e w' => e = .returned (.tuple #[.slice none 0 0, .slice none 0 0, .bool false]) ∧ w = w' := by
  go_enter Try.func15, Try.ntmps15
  go_wp2
  go_ret3
  exact ⟨rfl, rfl⟩
theorem cells_nil (w : World) : Calls Try.prog 17 #[.pointer none] w fun e w' => e = .returned (.slice none 0 0) ∧ w = w' := by
  go_enter Try.func17, Try.ntmps17
  go_wp2
  go_ret
  exact ⟨rfl, rfl⟩
theorem cell_info : (Try.prog.info? 69).map (fun i => (i.zero, i.size, i.bytes)) = some (some (.agg #[.int .i16 0, .int .u64 0, .int .u32 0]), 3, 24) := by kernel_rfl
set_option maxRecDepth 100000 in
theorem new_three (w : World) : Calls Try.prog 16 #[.int .i64 3] w fun e w' => (∃ a, e = .returned (.tuple #[.pointer (some a), .int .i64 0])) ∧ Below w.heap.size w w' := by
  obtain ⟨i0, hi0, hz0, hz1, hz2⟩ := info_parts cell_info
  go_enter Try.func16, Try.ntmps16
  go_wp2_with (refine wpList_make_full w rfl _ _ 42 rfl w.heap.size 69 i0 _ 3 Try.underlying42 hi0 hz0 hz1 .i64 .i64 3 3 3 rfl rfl rfl rfl (by rw [hz2]; omega) (by simp only [maxLen]; omega) (Nat.le_refl _) ?_; intro W1 O_ G_; have G1 := Lib.hid G_; clear O_ G_)
  go_ret2
  exact ⟨⟨_, rfl⟩, bl_alloc (GR.bl_of_grown (Below.refl _ _) G1.out (fun b hb => by cases hb)) _⟩

set_option maxRecDepth 100000 in
theorem sketchNames_walk (w : World) :
    Calls Try.prog 5 #[] w fun e w' => e = .returned (.bool true) ∧ Below w.heap.size w w' := by
  go_enter Try.func5, Try.ntmps5
  go_wp2_with fail
  refine (add_nil _ _).mono ?_
  rintro e w1 ⟨rfl, rfl⟩
  go_wp2_with fail
  refine (take_nil _ _).mono ?_
  rintro e w1 ⟨rfl, rfl⟩
  go_wp2_with fail
  refine (minus_nil _ _).mono ?_
  rintro e w1 ⟨rfl, rfl⟩
  go_wp2_with fail
  refine (peel_nil _).mono ?_
  rintro e w1 ⟨rfl, rfl⟩
  go_wp2_with fail
  refine (new_three _).mono ?_
  rintro e w1 ⟨⟨a, rfl⟩, hb⟩
  have HB := Lib.hid hb
  clear hb
  go_wp2_with fail
  refine (minus_nil _ _).mono ?_
  rintro e w2 ⟨rfl, rfl⟩
  go_wp2_with fail
  refine (cells_nil _).mono ?_
  rintro e w2 ⟨rfl, rfl⟩
  go_wp2
  go_ret
  exact ⟨rfl, HB.out⟩
end Go.Proofs.Ytkpckpglmiodbaa
