/- DERIVED. WitnessNames: the walk of the law. -/
import Derived.Test.YtalggenhnkpkhaaGreatSegBase
import Derived.Test.YtalggenhnkpkhaaGreatGRow
namespace Go.Proofs.YtalggenhnkpkhaaGreat
open Go.RowKit

theorem run_equalIn_func_nil {P : Program} (d : Nat) (t : TypeId) (x y : Array TypeId) (b : Bool) (f : Fn) (a c : Array Value) (w : World) (h : P.underlying t = some (.func x y b)) : (Op.equalIn (d + 1) t (.func f a c) .nilFunc).run P w = .ok false w := by
  simp [Op.equalIn, run_underlying h]
theorem run_equal_func_nil {P : Program} (t : TypeId) (x y : Array TypeId) (b : Bool) (f : Fn) (a c : Array Value) (w : World) (h : P.underlying t = some (.func x y b)) : (Op.equal t (.func f a c) .nilFunc).run P w = .ok false w := by
  exact run_equalIn_func_nil 9999 t x y b f a c w h
theorem eqfK (f : Fn) (a c : Array Value) (w : World) : (binOp .eql 79 (.func f a c) .nilFunc).run Tryz.prog w = .ok (.bool false) w := by
  simp [binOp, run_equal_func_nil _ _ _ _ f a c w Tryz.underlying79]
theorem eqfE (f : Fn) (a c : Array Value) (w : World) : (binOp .eql 85 (.func f a c) .nilFunc).run Tryz.prog w = .ok (.bool false) w := by
  simp [binOp, run_equal_func_nil _ _ _ _ f a c w Tryz.underlying85]
attribute [local go_sem high] eqfK eqfE

theorem check_nil (w : World) : Calls Tryz.prog 39 #[.slice none 0 0] w fun e w' => e = .returned (.int .i64 0) ∧ w = w' := by
  go_enter Tryz.func39, Tryz.ntmps39
  go_wp2
  go_loopw [8] (fun i w' => i = .int .i64 0 ∧ w = w') (fun _ _ => 0)
  case atStart => exact ⟨rfl, rfl⟩
  case round =>
    obtain ⟨rfl, rfl⟩ := hrel
    go_wp2
    go_ret
    exact ⟨rfl, rfl⟩
theorem wrong_33 (b : Nat) (w : World) : Calls Tryz.prog 23 #[.int .i64 33, .slice (some ⟨b, 0, none⟩) 1 1] w fun e w' => e = .returned (.int .i64 1) ∧ w = w' := by
  go_enter Tryz.func23, Tryz.ntmps23
  go_wp2
  go_ret
  exact ⟨rfl, rfl⟩
theorem wrong_nil (b : Nat) (w : World) (hb : GR.Blk w b 46 #[.slice none 0 0, .slice none 0 0]) : Calls Tryz.prog 23 #[.int .i64 1, .slice (some ⟨b, 0, none⟩) 2 2] w fun e w' => e = .returned (.int .i64 0) ∧ w = w' := by
  have c0 : w.cell? ⟨b, 0, none⟩ = some (.slice none 0 0) := hb.cell 0
  have c1 : w.cell? ⟨b, 1, none⟩ = some (.slice none 0 0) := hb.cell 1
  clear hb
  go_enter Tryz.func23, Tryz.ntmps23
  go_wp2
  go_loopw [16] (fun i w' => ∃ k : Nat, k ≤ 2 ∧ i = .int .i64 k ∧ w = w') (fun i _ => 2 - (intOf i).toNat)
  case atStart => exact ⟨0, by omega, rfl, rfl⟩
  case round =>
    obtain ⟨k, hk, rfl, rfl⟩ := hrel
    have h3 : k = 0 ∨ k = 1 ∨ k = 2 := by omega
    rcases h3 with rfl | rfl | rfl
    · go_wp2_with (go_at_call 39; refine (check_nil _).mono ?_; rintro e w' ⟨rfl, rfl⟩)
      go_roundw
      case rel => exact ⟨1, by omega, by trivial, by trivial⟩
      case measure => simp [intOf]
    · go_wp2_with (go_at_call 39; refine (check_nil _).mono ?_; rintro e w' ⟨rfl, rfl⟩)
      go_roundw
      case rel => exact ⟨2, by omega, by trivial, by trivial⟩
      case measure => simp [intOf]
    · go_wp2
      go_ret
      exact ⟨rfl, rfl⟩
theorem merge_nil (f g h : Fn) (x y z : Array Value) (w : World) : Calls Tryz.prog 27 #[.slice none 0 0, .slice none 0 0, .func f #[] x, .func g #[] y, .func h #[] z] w fun e w' => e = .returned (.tuple #[]) ∧ w = w' := by
  go_enter Tryz.func27, Tryz.ntmps27
  go_wp2
  go_loopw [10, 11] (fun i k w' => i = .int .i64 0 ∧ k = .int .i64 0 ∧ w = w') (fun _ _ _ => 0)
  case atStart => exact ⟨rfl, rfl, rfl⟩
  case round =>
    obtain ⟨rfl, rfl, rfl⟩ := hrel
    go_wp2
    go_end0
    exact ⟨rfl, rfl⟩
theorem forms_33 (w : World) : Calls Tryz.prog 11 #[.slice none 0 0, .int .i64 33] w fun e w' => e = .returned (.tuple #[.slice none 0 0, .int .i64 1]) ∧ Below w.heap.size w w' := by
  go_enter Tryz.func11, Tryz.ntmps11
  go_wp2_with (go_at_call 23; refine (wrong_33 _ _).mono ?_; rintro e w' ⟨rfl, rfl⟩)
  go_ret2
  exact ⟨rfl, (by repeat (first | exact Below.refl _ _ | refine bl_drewN ?_ _ | refine bl_drew ?_ | refine bl_alloc ?_ _))⟩
theorem bl_set {w w1 : World} (h : Below w.heap.size w w1) {g : Nat} (hg : w.heap.size ≤ g) (i : Nat) (u : Value) : Below w.heap.size w (w1.setCell ⟨g, i, none⟩ u) := h.setCell hg _
set_option maxHeartbeats 800000 in
theorem joined_nil (w : World) : Calls Tryz.prog 12 #[.slice none 0 0, .slice none 0 0] w fun e w' => e = .returned (.tuple #[.slice none 0 0, .int .i64 0]) ∧ Below w.heap.size w w' := by
  go_enter Tryz.func12, Tryz.ntmps12
  go_wp2_with (first
    | (go_at_call 23; refine (wrong_nil _ _ (GR.Blk.new _ _ _)).mono ?_; rintro e w' ⟨rfl, rfl⟩)
    | (go_at_call 27; refine (merge_nil _ _ _ _ _ _ _).mono ?_; rintro e w' ⟨rfl, rfl⟩))
  go_ret2
  exact ⟨rfl, (by repeat (first | exact Below.refl _ _ | refine bl_drewN ?_ _ | refine bl_drew ?_ | refine bl_alloc ?_ _))⟩
set_option maxHeartbeats 800000 in
theorem below_nil (w : World) : Calls Tryz.prog 13 #[.slice none 0 0, .slice none 0 0] w fun e w' => e = .returned (.tuple #[.bool true, .int .i64 0]) ∧ Below w.heap.size w w' := by
  go_enter Tryz.func13, Tryz.ntmps13
  go_wp2_with (first
    | (go_at_call 23; refine (wrong_nil _ _ (GR.Blk.new _ _ _)).mono ?_; rintro e w' ⟨rfl, rfl⟩)
    | (go_at_call 27; refine (merge_nil _ _ _ _ _ _ _).mono ?_; rintro e w' ⟨rfl, rfl⟩))
  go_ret2
  exact ⟨rfl, (by repeat (first | exact Below.refl _ _ | refine bl_drewN ?_ _ | refine bl_drew ?_ | refine bl_alloc ?_ _))⟩
set_option maxHeartbeats 800000 in
theorem witnessNames_walk (w : World) : Calls Tryz.prog 5 #[] w fun e w' => e = .returned (.bool true) ∧ Below w.heap.size w w' := by
  go_enter Tryz.func5, Tryz.ntmps5
  go_wp2_with fail
  refine (forms_33 _).mono ?_
  rintro e w1 ⟨rfl, hb1⟩
  have X1 : GR.Blk w1 w.heap.size 42 #[.int .i64 1, .string ⟨#[97]⟩, .string ⟨#[98]⟩, .string ⟨#[99]⟩] := (GR.Blk.new w 42 _).below hb1 (by simp)
  have B1 := Lib.hid (bl_then ((Below.refl w.heap.size w).alloc (Nat.le_refl _) _) hb1)
  have KX := Lib.hid X1
  clear hb1 X1
  go_wp2_with fail
  refine (joined_nil _).mono ?_
  rintro e w2 ⟨rfl, hb2⟩
  have B2 := Lib.hid (bl_then B1.out hb2)
  have KX2 := Lib.hid (KX.out.below hb2 KX.out.lt)
  clear hb2
  go_wp2_with fail
  refine (below_nil _).mono ?_
  rintro e w3 ⟨rfl, hb3⟩
  have B3 := Lib.hid (bl_then B2.out hb3)
  have KX3 := KX2.out.below hb3 KX2.out.lt
  clear hb3
  have x1 : w3.cell? ⟨w.heap.size, 1, none⟩ = some (.string ⟨#[97]⟩) := KX3.cell 1
  have x2 : w3.cell? ⟨w.heap.size, 2, none⟩ = some (.string ⟨#[98]⟩) := KX3.cell 2
  have x3 : w3.cell? ⟨w.heap.size, 3, none⟩ = some (.string ⟨#[99]⟩) := KX3.cell 3
  clear KX3
  go_wp2
  go_ret
  exact ⟨ret_bool (by rw [ByteArray.toList_eq]; rfl), B3.out⟩
end Go.Proofs.YtalggenhnkpkhaaGreat
