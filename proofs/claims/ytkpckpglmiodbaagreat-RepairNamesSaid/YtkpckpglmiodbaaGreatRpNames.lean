/- DERIVED. RepairNames: the walk of the law. -/
import Derived.Test.YtkpckpglmiodbaaGreatSegBase
import Derived.Test.YtkpckpglmiodbaaGreatGRow
import Derived.Laws.ResultCell
namespace Go.Proofs.YtkpckpglmiodbaaGreat
open Go.RowKit

theorem results_cell {fn : Func} {p : Tmp} {ty : TypeId} (h : fn.results = #[.cell p ty]) (tmps : Array Value) (P : Program) (w : World) :
    (results fn tmps).run P w = ((asAddr (tmps.getD p undef)).run P w).andThen fun a w₁ => (loadVar ty a).run P w₁ := by
  simp only [results, h]
  simp [Sem.run_bind]
theorem same10_nil (w : World) : Calls Tryz.prog 42 #[.slice none 0 0, .slice none 0 0] w fun e w' => e = .returned (.bool true) ∧ w = w' := by
  go_enter Tryz.func42, Tryz.ntmps42
  go_wp2
  go_loopw [5] (fun i w' => i = .int .i64 0 ∧ w = w') (fun _ _ => 0)
  case atStart => exact ⟨rfl, rfl⟩
  case round =>
    obtain ⟨rfl, rfl⟩ := hrel
    go_wp2
    go_ret
    exact ⟨rfl, rfl⟩
theorem same14_nil (w : World) : Calls Tryz.prog 32 #[.slice none 0 0, .slice none 0 0] w fun e w' => e = .returned (.bool true) ∧ w = w' := by
  go_enter Tryz.func32, Tryz.ntmps32
  go_wp2
  go_loopw [5] (fun i w' => i = .int .i64 0 ∧ w = w') (fun _ _ => 0)
  case atStart => exact ⟨rfl, rfl⟩
  case round =>
    obtain ⟨rfl, rfl⟩ := hrel
    go_wp2
    go_ret
    exact ⟨rfl, rfl⟩
set_option maxRecDepth 100000 in
set_option maxHeartbeats 3200000 in
theorem same11_nil (w : World) : Calls Tryz.prog 33 #[.agg #[.slice none 0 0, .slice none 0 0], .agg #[.slice none 0 0, .slice none 0 0]] w fun e w' => e = .returned (.bool true) ∧ Below w.heap.size w w' := by
  go_enter Tryz.func33, Tryz.ntmps33
  go_wp2_with (go_at_call 42; refine (same10_nil _).mono ?_; rintro e w1 ⟨rfl, rfl⟩)
  go_loopw [5] (fun i w' => i = .int .i64 0 ∧ (w.alloc (.cells #[.slice none 0 0, .slice none 0 0] 33)).alloc (.cells #[.slice none 0 0, .slice none 0 0] 33) = w') (fun _ _ => 0)
  case atStart => exact ⟨rfl, rfl⟩
  case round =>
    obtain ⟨rfl, rfl⟩ := hrel
    go_wp2
    go_ret
    exact ⟨rfl, ((Below.refl _ _).alloc (Nat.le_refl _) _).alloc (by simp) _⟩
set_option maxRecDepth 100000 in
set_option maxHeartbeats 6400000 in
theorem same20_nil (k c : Int) (w : World) : Calls Tryz.prog 14 #[.agg #[.int .u8 k, .int .i64 c, .int .u8 0, .int .u16 0, .bool false, .string ⟨#[]⟩, .string ⟨#[]⟩, .slice none 0 0, .slice none 0 0, .slice none 0 0, .slice none 0 0, .slice none 0 0, .slice none 0 0], .agg #[.int .u8 k, .int .i64 c, .int .u8 0, .int .u16 0, .bool false, .string ⟨#[]⟩, .string ⟨#[]⟩, .slice none 0 0, .slice none 0 0, .slice none 0 0, .slice none 0 0, .slice none 0 0, .slice none 0 0]] w fun e w' => e = .returned (.bool true) ∧ Below w.heap.size w w' := by
  have X0 := Lib.hid ((GR.Blk.new w 35 #[.int .u8 k, .int .i64 c, .int .u8 0, .int .u16 0, .bool false, .string ⟨#[]⟩, .string ⟨#[]⟩, .slice none 0 0, .slice none 0 0, .slice none 0 0, .slice none 0 0, .slice none 0 0, .slice none 0 0]).alloc (.cells #[.int .u8 k, .int .i64 c, .int .u8 0, .int .u16 0, .bool false, .string ⟨#[]⟩, .string ⟨#[]⟩, .slice none 0 0, .slice none 0 0, .slice none 0 0, .slice none 0 0, .slice none 0 0, .slice none 0 0] 35))
  have Y0 := Lib.hid (GR.Blk.new (w.alloc (.cells #[.int .u8 k, .int .i64 c, .int .u8 0, .int .u16 0, .bool false, .string ⟨#[]⟩, .string ⟨#[]⟩, .slice none 0 0, .slice none 0 0, .slice none 0 0, .slice none 0 0, .slice none 0 0, .slice none 0 0] 35)) 35 #[.int .u8 k, .int .i64 c, .int .u8 0, .int .u16 0, .bool false, .string ⟨#[]⟩, .string ⟨#[]⟩, .slice none 0 0, .slice none 0 0, .slice none 0 0, .slice none 0 0, .slice none 0 0, .slice none 0 0])
  have hs : (w.alloc (.cells #[.int .u8 k, .int .i64 c, .int .u8 0, .int .u16 0, .bool false, .string ⟨#[]⟩, .string ⟨#[]⟩, .slice none 0 0, .slice none 0 0, .slice none 0 0, .slice none 0 0, .slice none 0 0, .slice none 0 0] 35)).heap.size = w.heap.size + 1 := by simp
  rw [hs] at Y0
  go_enter Tryz.func14, Tryz.ntmps14
  go_wp2_with fail
  refine (same14_nil _).mono ?_
  rintro e w1 ⟨rfl, rfl⟩
  go_wp2_with fail
  refine (same11_nil _).mono ?_
  rintro e w1 ⟨rfl, hb1⟩
  have X1 := X0.out.below hb1 X0.out.lt
  have Y1 := Y0.out.below hb1 Y0.out.lt
  have x0 : w1.cell? ⟨w.heap.size, 0, none⟩ = some (.int .u8 k) := X1.cell 0
  have x1 : w1.cell? ⟨w.heap.size, 1, none⟩ = some (.int .i64 c) := X1.cell 1
  have x2 : w1.cell? ⟨w.heap.size, 2, none⟩ = some (.int .u8 0) := X1.cell 2
  have x3 : w1.cell? ⟨w.heap.size, 3, none⟩ = some (.int .u16 0) := X1.cell 3
  have x4 : w1.cell? ⟨w.heap.size, 4, none⟩ = some (.bool false) := X1.cell 4
  have x5 : w1.cell? ⟨w.heap.size, 5, none⟩ = some (.string ⟨#[]⟩) := X1.cell 5
  have x6 : w1.cell? ⟨w.heap.size, 6, none⟩ = some (.string ⟨#[]⟩) := X1.cell 6
  have x7 : w1.cell? ⟨w.heap.size, 7, none⟩ = some (.slice none 0 0) := X1.cell 7
  have x8 : w1.cell? ⟨w.heap.size, 8, none⟩ = some (.slice none 0 0) := X1.cell 8
  have x9 : w1.cell? ⟨w.heap.size, 9, none⟩ = some (.slice none 0 0) := X1.cell 9
  have x10 : w1.cell? ⟨w.heap.size, 10, none⟩ = some (.slice none 0 0) := X1.cell 10
  have x11 : w1.cell? ⟨w.heap.size, 11, none⟩ = some (.slice none 0 0) := X1.cell 11
  have x12 : w1.cell? ⟨w.heap.size, 12, none⟩ = some (.slice none 0 0) := X1.cell 12
  have y0 : w1.cell? ⟨w.heap.size + 1, 0, none⟩ = some (.int .u8 k) := Y1.cell 0
  have y1 : w1.cell? ⟨w.heap.size + 1, 1, none⟩ = some (.int .i64 c) := Y1.cell 1
  have y2 : w1.cell? ⟨w.heap.size + 1, 2, none⟩ = some (.int .u8 0) := Y1.cell 2
  have y3 : w1.cell? ⟨w.heap.size + 1, 3, none⟩ = some (.int .u16 0) := Y1.cell 3
  have y4 : w1.cell? ⟨w.heap.size + 1, 4, none⟩ = some (.bool false) := Y1.cell 4
  have y5 : w1.cell? ⟨w.heap.size + 1, 5, none⟩ = some (.string ⟨#[]⟩) := Y1.cell 5
  have y6 : w1.cell? ⟨w.heap.size + 1, 6, none⟩ = some (.string ⟨#[]⟩) := Y1.cell 6
  have y7 : w1.cell? ⟨w.heap.size + 1, 7, none⟩ = some (.slice none 0 0) := Y1.cell 7
  have y8 : w1.cell? ⟨w.heap.size + 1, 8, none⟩ = some (.slice none 0 0) := Y1.cell 8
  have y9 : w1.cell? ⟨w.heap.size + 1, 9, none⟩ = some (.slice none 0 0) := Y1.cell 9
  have y10 : w1.cell? ⟨w.heap.size + 1, 10, none⟩ = some (.slice none 0 0) := Y1.cell 10
  have y11 : w1.cell? ⟨w.heap.size + 1, 11, none⟩ = some (.slice none 0 0) := Y1.cell 11
  have y12 : w1.cell? ⟨w.heap.size + 1, 12, none⟩ = some (.slice none 0 0) := Y1.cell 12
  have L1 := Lib.hid (bl_then (((Below.refl w.heap.size w).alloc (Nat.le_refl _) _).alloc (by simp) _) hb1)
  clear hb1 X1 Y1
  go_wp2
  go_loopw [5] (fun i w' => i = .int .i64 0 ∧ w1 = w') (fun _ _ => 0)
  case atStart => exact ⟨rfl, rfl⟩
  case round =>
    obtain ⟨rfl, rfl⟩ := hrel
    go_wp2
    go_loopw [6] (fun i w' => i = .int .i64 0 ∧ w1 = w') (fun _ _ => 0)
    case atStart => exact ⟨rfl, rfl⟩
    case round =>
      obtain ⟨rfl, rfl⟩ := hrel
      go_wp2
      go_loopw [7] (fun i w' => i = .int .i64 0 ∧ w1 = w') (fun _ _ => 0)
      case atStart => exact ⟨rfl, rfl⟩
      case round =>
        obtain ⟨rfl, rfl⟩ := hrel
        go_wp2
        go_ret
        exact ⟨rfl, L1.out⟩
theorem new_nil (w : World) : Calls Tryz.prog 12 #[.nilIface, .slice none 0 0] w fun e w' => e = .returned (.tuple #[.pointer none, .int .i64 2]) ∧ w = w' := by
  go_enter Tryz.func12, Tryz.ntmps12
  go_wp2
  go_ret2
  exact ⟨rfl, rfl⟩
set_option maxRecDepth 100000 in
set_option maxHeartbeats 3200000 in
theorem take_nil (m : Array Value) (w : World) : Calls Tryz.prog 15 #[.pointer none, .agg m] w fun e w' => e = .returned (.int .i64 2) ∧ Below w.heap.size w w' := by
  go_enter Tryz.func15, Tryz.ntmps15
  go_wp2
  go_ret
  exact ⟨rfl, (Below.refl _ _).alloc (Nat.le_refl _) _⟩
theorem done_nil (w : World) : Calls Tryz.prog 16 #[.pointer none] w fun e w' => e = .returned (.bool false) ∧ w = w' := by
  go_enter Tryz.func16, Tryz.ntmps16
  go_wp2
  go_ret
  exact ⟨rfl, rfl⟩
theorem mended_nil (w : World) : Calls Tryz.prog 17 #[.pointer none] w fun e w' => e = .returned (.int .i64 0) ∧ w = w' := by
  go_enter Tryz.func17, Tryz.ntmps17
  go_wp2
  go_ret
  exact ⟨rfl, rfl⟩
theorem left_nil (w : World) : Calls Tryz.prog 18 #[.pointer none] w fun e w' => e = .returned (.slice none 0 0) ∧ w = w' := by
  go_enter Tryz.func18, Tryz.ntmps18
  go_wp2
  go_ret
  exact ⟨rfl, rfl⟩
set_option maxRecDepth 100000 in
set_option maxHeartbeats 3200000 in
theorem next_nil (w : World) : Calls Tryz.prog 11 #[.pointer none] w fun e w' => e = .returned (.tuple #[.agg #[.int .u8 0, .int .i64 0, .int .u8 0, .int .u16 0, .bool false, .string ⟨#[]⟩, .string ⟨#[]⟩, .slice none 0 0, .slice none 0 0, .slice none 0 0, .slice none 0 0, .slice none 0 0, .slice none 0 0], .bool false]) ∧ Below w.heap.size w w' := by
  go_enter Tryz.func11, Tryz.ntmps11
  go_wp2
  refine bodyPost_ret ((results_cell_tmp rfl _ _ _).trans (by go_simp; rfl)) rfl ?_
  exact ⟨rfl, by repeat (first | exact Below.refl _ _ | refine Below.setCell ?_ (Nat.le_refl _) _ | refine Below.alloc ?_ (Nat.le_refl _) _)⟩
set_option maxRecDepth 100000 in
set_option maxHeartbeats 3200000 in
theorem serve_nil (w : World) : Calls Tryz.prog 13 #[.nilIface, .agg #[.int .u8 5, .int .i64 0, .int .u8 0, .int .u16 0, .bool false, .string ⟨#[]⟩, .string ⟨#[97]⟩, .slice none 0 0, .slice none 0 0, .slice none 0 0, .slice none 0 0, .slice none 0 0, .slice none 0 0]] w fun e w' => e = .returned (.agg #[.int .u8 18, .int .i64 2, .int .u8 0, .int .u16 0, .bool false, .string ⟨#[]⟩, .string ⟨#[]⟩, .slice none 0 0, .slice none 0 0, .slice none 0 0, .slice none 0 0, .slice none 0 0, .slice none 0 0]) ∧ Below w.heap.size w w' := by
  go_enter Tryz.func13, Tryz.ntmps13
  go_wp2
  refine bodyPost_ret ((results_cell rfl _ _ _).trans (by go_simp; rfl)) rfl ?_
  exact ⟨rfl, by repeat (first | exact Below.refl _ _ | refine Below.setCell ?_ (by first | (simp; done) | (simp; omega)) _ | refine Below.alloc ?_ (by first | (simp; done) | (simp; omega)) _)⟩
set_option maxRecDepth 100000 in
set_option maxHeartbeats 6400000 in
theorem repairNames_walk (w : World) :
    Calls Tryz.prog 5 #[] w fun e w' => e = .returned (.bool true) ∧ Below w.heap.size w w' := by
  go_enter Tryz.func5, Tryz.ntmps5
  go_wp2_with fail
  refine (next_nil _).mono ?_
  rintro e w1 ⟨rfl, hb1⟩
  have X1 := Lib.hid (GR.Blk.new w1 35 #[.int .u8 0, .int .i64 0, .int .u8 0, .int .u16 0, .bool false, .string ⟨#[]⟩, .string ⟨#[]⟩, .slice none 0 0, .slice none 0 0, .slice none 0 0, .slice none 0 0, .slice none 0 0, .slice none 0 0])
  have L1 := Lib.hid (bl_alloc hb1 (.cells #[.int .u8 0, .int .i64 0, .int .u8 0, .int .u16 0, .bool false, .string ⟨#[]⟩, .string ⟨#[]⟩, .slice none 0 0, .slice none 0 0, .slice none 0 0, .slice none 0 0, .slice none 0 0, .slice none 0 0] 35))
  clear hb1
  go_wp2_with fail
  refine (new_nil _).mono ?_
  rintro e w2 ⟨rfl, rfl⟩
  go_wp2_with fail
  refine (serve_nil _).mono ?_
  rintro e w2 ⟨rfl, hb2⟩
  have X2 := Lib.hid ((X1.out.below hb2 X1.out.lt).alloc (.cells #[.int .u8 18, .int .i64 2, .int .u8 0, .int .u16 0, .bool false, .string ⟨#[]⟩, .string ⟨#[]⟩, .slice none 0 0, .slice none 0 0, .slice none 0 0, .slice none 0 0, .slice none 0 0, .slice none 0 0] 35))
  have Y2 := Lib.hid (GR.Blk.new w2 35 #[.int .u8 18, .int .i64 2, .int .u8 0, .int .u16 0, .bool false, .string ⟨#[]⟩, .string ⟨#[]⟩, .slice none 0 0, .slice none 0 0, .slice none 0 0, .slice none 0 0, .slice none 0 0, .slice none 0 0])
  have L2 := Lib.hid (bl_alloc (bl_then L1.out hb2) (.cells #[.int .u8 18, .int .i64 2, .int .u8 0, .int .u16 0, .bool false, .string ⟨#[]⟩, .string ⟨#[]⟩, .slice none 0 0, .slice none 0 0, .slice none 0 0, .slice none 0 0, .slice none 0 0, .slice none 0 0] 35))
  have Z2 := X1.out.below hb2 X1.out.lt
  have z0 : w2.cell? ⟨w1.heap.size, 0, none⟩ = some (.int .u8 0) := Z2.cell 0
  have z1 : w2.cell? ⟨w1.heap.size, 1, none⟩ = some (.int .i64 0) := Z2.cell 1
  have z2 : w2.cell? ⟨w1.heap.size, 2, none⟩ = some (.int .u8 0) := Z2.cell 2
  have z3 : w2.cell? ⟨w1.heap.size, 3, none⟩ = some (.int .u16 0) := Z2.cell 3
  have z4 : w2.cell? ⟨w1.heap.size, 4, none⟩ = some (.bool false) := Z2.cell 4
  have z5 : w2.cell? ⟨w1.heap.size, 5, none⟩ = some (.string ⟨#[]⟩) := Z2.cell 5
  have z6 : w2.cell? ⟨w1.heap.size, 6, none⟩ = some (.string ⟨#[]⟩) := Z2.cell 6
  have z7 : w2.cell? ⟨w1.heap.size, 7, none⟩ = some (.slice none 0 0) := Z2.cell 7
  have z8 : w2.cell? ⟨w1.heap.size, 8, none⟩ = some (.slice none 0 0) := Z2.cell 8
  have z9 : w2.cell? ⟨w1.heap.size, 9, none⟩ = some (.slice none 0 0) := Z2.cell 9
  have z10 : w2.cell? ⟨w1.heap.size, 10, none⟩ = some (.slice none 0 0) := Z2.cell 10
  have z11 : w2.cell? ⟨w1.heap.size, 11, none⟩ = some (.slice none 0 0) := Z2.cell 11
  have z12 : w2.cell? ⟨w1.heap.size, 12, none⟩ = some (.slice none 0 0) := Z2.cell 12
  have l1 := Z2.lt
  have n1 : w1.heap.size ≠ w2.heap.size := Nat.ne_of_lt Z2.lt
  clear hb2 L1 X1 Z2
  go_wp2_with fail
  refine (same20_nil 0 0 _).mono ?_
  rintro e w3 ⟨rfl, hb3⟩
  have Y3 := Lib.hid (Y2.out.below hb3 Y2.out.lt)
  have L3 := Lib.hid (bl_then L2.out hb3)
  clear hb3 L2 Y2 X2
  go_wp2_with fail
  refine (take_nil _ _).mono ?_
  rintro e w4 ⟨rfl, hb4⟩
  have Y4 := Y3.out.below hb4 Y3.out.lt
  have y0 : w4.cell? ⟨w2.heap.size, 0, none⟩ = some (.int .u8 18) := Y4.cell 0
  have y1 : w4.cell? ⟨w2.heap.size, 1, none⟩ = some (.int .i64 2) := Y4.cell 1
  have y2 : w4.cell? ⟨w2.heap.size, 2, none⟩ = some (.int .u8 0) := Y4.cell 2
  have y3 : w4.cell? ⟨w2.heap.size, 3, none⟩ = some (.int .u16 0) := Y4.cell 3
  have y4 : w4.cell? ⟨w2.heap.size, 4, none⟩ = some (.bool false) := Y4.cell 4
  have y5 : w4.cell? ⟨w2.heap.size, 5, none⟩ = some (.string ⟨#[]⟩) := Y4.cell 5
  have y6 : w4.cell? ⟨w2.heap.size, 6, none⟩ = some (.string ⟨#[]⟩) := Y4.cell 6
  have y7 : w4.cell? ⟨w2.heap.size, 7, none⟩ = some (.slice none 0 0) := Y4.cell 7
  have y8 : w4.cell? ⟨w2.heap.size, 8, none⟩ = some (.slice none 0 0) := Y4.cell 8
  have y9 : w4.cell? ⟨w2.heap.size, 9, none⟩ = some (.slice none 0 0) := Y4.cell 9
  have y10 : w4.cell? ⟨w2.heap.size, 10, none⟩ = some (.slice none 0 0) := Y4.cell 10
  have y11 : w4.cell? ⟨w2.heap.size, 11, none⟩ = some (.slice none 0 0) := Y4.cell 11
  have y12 : w4.cell? ⟨w2.heap.size, 12, none⟩ = some (.slice none 0 0) := Y4.cell 12
  have L4 := Lib.hid (bl_then L3.out hb4)
  clear hb4 L3 Y3 Y4
  go_wp2_with fail
  refine (done_nil _).mono ?_
  rintro e w5 ⟨rfl, rfl⟩
  go_wp2_with fail
  refine (mended_nil _).mono ?_
  rintro e w5 ⟨rfl, rfl⟩
  go_wp2_with fail
  refine (left_nil _).mono ?_
  rintro e w5 ⟨rfl, rfl⟩
  go_wp2_with fail
  refine (same20_nil 18 2 _).mono ?_
  rintro e w6 ⟨rfl, hb6⟩
  have L6 := Lib.hid (bl_then L4.out hb6)
  clear hb6
  go_wp2
  go_ret
  exact ⟨rfl, L6.out⟩
end Go.Proofs.YtkpckpglmiodbaaGreat
