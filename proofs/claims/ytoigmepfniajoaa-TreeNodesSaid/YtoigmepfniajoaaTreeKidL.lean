/- DERIVED. A node's children: the program's text, level by level. -/
import Derived.Test.YtoigmepfniajoaaTreeKin
import Derived.Deep.RegionHeld3
namespace Go.Proofs.Ytoigmepfniajoaa
open Go.RowKit
attribute [local go_sem] wd0 wd1 wd2 wd3 fs0 fs1 fs2 fs3 fs4
set_option maxHeartbeats 8000000 in
theorem kid_l0 (n i : Int) (h0 : 0 ≤ n) (h : n ≤ 65535) (w : World) (hi0 : 0 ≤ i) (hi1 : i < 16) (hl : lvI n = 0) (hi : ixI n = 0) (q : Int) (hq : q = 0) (q0 : 0 ≤ q) (q1 : q ≤ 300) :
    Calls Try.prog 14 #[.int .u16 n, .int .i64 i] w fun e w' => e = .returned (.tuple #[.int .u16 (kdV n i), .bool (kdB n i)]) ∧ Below w.heap.size w w' := by
  have i1 := base_at1 .i8
  have e1 : IntKind.i8.wrap 1 = 1 := by decide
  have HB := Lib.hid (Below.refl w.heap.size w)
  have d1 : decide (i < 0) = false := by simp; omega
  have d2 : decide (16 ≤ i) = false := by simp; omega
  have HI := Lib.hid (hi.trans hq.symm)
  have HL := Lib.hid hl
  clear hi hl hq
  have HG := Lib.hid (show kdB n i = true by simp [kdB, HL.out]; omega)
  go_enter Try.func14, Try.ntmps14
  go_wp2_with (go_at_call 16; refine (level_any _ h0 h _).mono ?_; rintro e w1 ⟨rfl, hb1⟩; rw [HL.out]; have HN := Lib.hid (bl_then HB.out hb1); clear hb1 HB; have HB := HN; clear HN)
  go_region_held3 (fun _ => True) (trivial) (first | (go_at_call 51; refine (bases_any _).mono ?_; rintro e w2 ⟨rfl, hb1⟩; have HN := Lib.hid (bl_then (w := w) (by repeat (first | exact HB.out | refine bl_drewN ?_ _ | refine bl_drew ?_ | refine bl_alloc ?_ _)) hb1); clear hb1 HB; have HB := HN; clear HN) | (go_at_call 18; refine (index_any _ h0 h _).mono ?_; rintro e w2 ⟨rfl, hb1⟩; rw [HI.out]; have HN := Lib.hid (bl_then (w := w) (by repeat (first | exact HB.out | refine bl_drewN ?_ _ | refine bl_drew ?_ | refine bl_alloc ?_ _)) hb1); clear hb1 HB; have HB := HN; clear HN))
  all_goals
    go_wp2
    go_ret2
    exact ⟨ret_kin (by rw [kd_good HG.out, HL.out, HI.out, kid_eq _ _ _ (by omega) (by omega) (by omega) (by omega) (by omega) (by omega)]; rfl) HG.out, HB.out⟩
set_option maxHeartbeats 8000000 in
theorem kid_l1 (n i : Int) (h0 : 0 ≤ n) (h : n ≤ 65535) (w : World) (hi0 : 0 ≤ i) (hi1 : i < 16) (hl : lvI n = 1) (hi : ixI n = n - 1) (q : Int) (hq : q = n - 1) (q0 : 0 ≤ q) (q1 : q ≤ 300) :
    Calls Try.prog 14 #[.int .u16 n, .int .i64 i] w fun e w' => e = .returned (.tuple #[.int .u16 (kdV n i), .bool (kdB n i)]) ∧ Below w.heap.size w w' := by
  have i1 := base_at2 .i8
  have e1 : IntKind.i8.wrap 2 = 2 := by decide
  have HB := Lib.hid (Below.refl w.heap.size w)
  have d1 : decide (i < 0) = false := by simp; omega
  have d2 : decide (16 ≤ i) = false := by simp; omega
  have HI := Lib.hid (hi.trans hq.symm)
  have HL := Lib.hid hl
  clear hi hl hq
  have HG := Lib.hid (show kdB n i = true by simp [kdB, HL.out]; omega)
  go_enter Try.func14, Try.ntmps14
  go_wp2_with (go_at_call 16; refine (level_any _ h0 h _).mono ?_; rintro e w1 ⟨rfl, hb1⟩; rw [HL.out]; have HN := Lib.hid (bl_then HB.out hb1); clear hb1 HB; have HB := HN; clear HN)
  go_region_held3 (fun _ => True) (trivial) (first | (go_at_call 51; refine (bases_any _).mono ?_; rintro e w2 ⟨rfl, hb1⟩; have HN := Lib.hid (bl_then (w := w) (by repeat (first | exact HB.out | refine bl_drewN ?_ _ | refine bl_drew ?_ | refine bl_alloc ?_ _)) hb1); clear hb1 HB; have HB := HN; clear HN) | (go_at_call 18; refine (index_any _ h0 h _).mono ?_; rintro e w2 ⟨rfl, hb1⟩; rw [HI.out]; have HN := Lib.hid (bl_then (w := w) (by repeat (first | exact HB.out | refine bl_drewN ?_ _ | refine bl_drew ?_ | refine bl_alloc ?_ _)) hb1); clear hb1 HB; have HB := HN; clear HN))
  all_goals
    go_wp2
    go_ret2
    exact ⟨ret_kin (by rw [kd_good HG.out, HL.out, HI.out, kid_eq _ _ _ (by omega) (by omega) (by omega) (by omega) (by omega) (by omega)]; rfl) HG.out, HB.out⟩
set_option maxHeartbeats 8000000 in
theorem kid_l2 (n i : Int) (h0 : 0 ≤ n) (h : n ≤ 65535) (w : World) (hi0 : 0 ≤ i) (hi1 : i < 16) (hl : lvI n = 2) (hi : ixI n = n - 17) (q : Int) (hq : q = n - 17) (q0 : 0 ≤ q) (q1 : q ≤ 300) :
    Calls Try.prog 14 #[.int .u16 n, .int .i64 i] w fun e w' => e = .returned (.tuple #[.int .u16 (kdV n i), .bool (kdB n i)]) ∧ Below w.heap.size w w' := by
  have i1 := base_at3 .i8
  have e1 : IntKind.i8.wrap 3 = 3 := by decide
  have HB := Lib.hid (Below.refl w.heap.size w)
  have d1 : decide (i < 0) = false := by simp; omega
  have d2 : decide (16 ≤ i) = false := by simp; omega
  have HI := Lib.hid (hi.trans hq.symm)
  have HL := Lib.hid hl
  clear hi hl hq
  have HG := Lib.hid (show kdB n i = true by simp [kdB, HL.out]; omega)
  go_enter Try.func14, Try.ntmps14
  go_wp2_with (go_at_call 16; refine (level_any _ h0 h _).mono ?_; rintro e w1 ⟨rfl, hb1⟩; rw [HL.out]; have HN := Lib.hid (bl_then HB.out hb1); clear hb1 HB; have HB := HN; clear HN)
  go_region_held3 (fun _ => True) (trivial) (first | (go_at_call 51; refine (bases_any _).mono ?_; rintro e w2 ⟨rfl, hb1⟩; have HN := Lib.hid (bl_then (w := w) (by repeat (first | exact HB.out | refine bl_drewN ?_ _ | refine bl_drew ?_ | refine bl_alloc ?_ _)) hb1); clear hb1 HB; have HB := HN; clear HN) | (go_at_call 18; refine (index_any _ h0 h _).mono ?_; rintro e w2 ⟨rfl, hb1⟩; rw [HI.out]; have HN := Lib.hid (bl_then (w := w) (by repeat (first | exact HB.out | refine bl_drewN ?_ _ | refine bl_drew ?_ | refine bl_alloc ?_ _)) hb1); clear hb1 HB; have HB := HN; clear HN))
  all_goals
    go_wp2
    go_ret2
    exact ⟨ret_kin (by rw [kd_good HG.out, HL.out, HI.out, kid_eq _ _ _ (by omega) (by omega) (by omega) (by omega) (by omega) (by omega)]; rfl) HG.out, HB.out⟩
end Go.Proofs.Ytoigmepfniajoaa
