/- DERIVED. The digest's constants: both texts. -/
import Derived.Test.YtpklkjekkbpeoaaDigMem
namespace Go.Proofs.Ytpklkjekkbpeoaa
open Go.RowKit
set_option linter.unusedVariables false
set_option linter.unusedSimpArgs false

theorem z64 : (Try.prog.info? 117).map (fun i => (i.zero, i.size)) = some (some (.agg (arrW 64 fun _ => 0)), 64) := by kernel_rfl
theorem z8 : (Try.prog.info? 99).map (fun i => (i.zero, i.size)) = some (some (.agg (arrW 8 fun _ => 0)), 8) := by kernel_rfl
theorem s64 : (Try.prog.info? 117).map (·.size) = some 64 := by kernel_rfl
theorem s8 : (Try.prog.info? 99).map (·.size) = some 8 := by kernel_rfl
def kcI : List Int := kcs.map Int.ofNat
def h0I : List Int := h0s.map Int.ofNat
theorem kcI_is : (kcI.map (Value.int .u32)).toArray = arrW 64 kc := by kernel_rfl
theorem h0I_is : (h0I.map (Value.int .u32)).toArray = arrW 8 h0 := by kernel_rfl

set_option maxRecDepth 100000 in
set_option maxHeartbeats 1600000 in
theorem cubes_any (w : World) : Calls Try.prog 97 #[] w fun e w' => e = .returned (.agg (arrW 64 kc)) ∧ Below w.heap.size w w' := by
  go_enter Try.func97, Try.ntmps97
  go_wp2_with (first
    | (refine alloc_arr rfl 117 rfl _ _ z64 ?_; intro W1 B1 L1 S1)
    | (refine wpList_buildFlatArr rfl 117 79 64 _ rfl .u32 kcI Try.underlying117 (by kernel_rfl) (by kernel_rfl) (by kernel_rfl) ?_; rw [kcI_is])
    | (refine store_arr rfl 117 _ _ rfl w.heap.size (arrW 64 kc) rfl rfl 117 _ B1 (by rw [arrW_size]; exact s64) (by rw [arrW_size, arrW_size]) (arrW_one _ _) ?_; intro W2 B2 G2 S2))
  (try simp only [Exit.inBlock, Exit.then])
  refine bodyPost_ret (results_cell_row rfl _ _ w.heap.size 117 (arrW 64 kc) (0, 0) _ rfl B2 Try.underlying117 rfl (by rw [arrW_size]; exact s64)) rfl ?_
  exact ⟨rfl, bl_of_grown L1 G2 (fun b hb => by cases hb; exact Nat.le_refl _)⟩

set_option maxRecDepth 100000 in
set_option maxHeartbeats 1600000 in
theorem refCubes_any (w : World) : Calls Try.prog 73 #[] w fun e w' => e = .returned (.agg (arrW 64 kc)) ∧ Below w.heap.size w w' := by
  go_enter Try.func73, Try.ntmps73
  go_wp2_with (first
    | (refine alloc_arr rfl 117 rfl _ _ z64 ?_; intro W1 B1 L1 S1)
    | (refine wpList_buildFlatArr rfl 117 79 64 _ rfl .u32 kcI Try.underlying117 (by kernel_rfl) (by kernel_rfl) (by kernel_rfl) ?_; rw [kcI_is])
    | (refine store_arr rfl 117 _ _ rfl w.heap.size (arrW 64 kc) rfl rfl 117 _ B1 (by rw [arrW_size]; exact s64) (by rw [arrW_size, arrW_size]) (arrW_one _ _) ?_; intro W2 B2 G2 S2))
  (try simp only [Exit.inBlock, Exit.then])
  refine bodyPost_ret (results_cell_row rfl _ _ w.heap.size 117 (arrW 64 kc) (0, 0) _ rfl B2 Try.underlying117 rfl (by rw [arrW_size]; exact s64)) rfl ?_
  exact ⟨rfl, bl_of_grown L1 G2 (fun b hb => by cases hb; exact Nat.le_refl _)⟩

set_option maxRecDepth 100000 in
set_option maxHeartbeats 1600000 in
theorem start_any (w : World) : Calls Try.prog 70 #[] w fun e w' => e = .returned (.agg (arrW 8 h0)) ∧ Below w.heap.size w w' := by
  go_enter Try.func70, Try.ntmps70
  go_wp2_with (first
    | (refine alloc_arr rfl 99 rfl _ _ z8 ?_; intro W1 B1 L1 S1)
    | (refine wpList_buildFlatArr rfl 99 79 8 _ rfl .u32 h0I Try.underlying99 (by kernel_rfl) (by kernel_rfl) (by kernel_rfl) ?_; rw [h0I_is])
    | (refine store_arr rfl 99 _ _ rfl w.heap.size (arrW 8 h0) rfl rfl 99 _ B1 (by rw [arrW_size]; exact s8) (by rw [arrW_size, arrW_size]) (arrW_one _ _) ?_; intro W2 B2 G2 S2))
  (try simp only [Exit.inBlock, Exit.then])
  refine bodyPost_ret (results_cell_row rfl _ _ w.heap.size 99 (arrW 8 h0) (0, 0) _ rfl B2 Try.underlying99 rfl (by rw [arrW_size]; exact s8)) rfl ?_
  exact ⟨rfl, bl_of_grown L1 G2 (fun b hb => by cases hb; exact Nat.le_refl _)⟩

set_option maxRecDepth 100000 in
set_option maxHeartbeats 1600000 in
theorem refStart_any (w : World) : Calls Try.prog 57 #[] w fun e w' => e = .returned (.agg (arrW 8 h0)) ∧ Below w.heap.size w w' := by
  go_enter Try.func57, Try.ntmps57
  go_wp2_with (first
    | (refine alloc_arr rfl 99 rfl _ _ z8 ?_; intro W1 B1 L1 S1)
    | (refine wpList_buildFlatArr rfl 99 79 8 _ rfl .u32 h0I Try.underlying99 (by kernel_rfl) (by kernel_rfl) (by kernel_rfl) ?_; rw [h0I_is])
    | (refine store_arr rfl 99 _ _ rfl w.heap.size (arrW 8 h0) rfl rfl 99 _ B1 (by rw [arrW_size]; exact s8) (by rw [arrW_size, arrW_size]) (arrW_one _ _) ?_; intro W2 B2 G2 S2))
  (try simp only [Exit.inBlock, Exit.then])
  refine bodyPost_ret (results_cell_row rfl _ _ w.heap.size 99 (arrW 8 h0) (0, 0) _ rfl B2 Try.underlying99 rfl (by rw [arrW_size]; exact s8)) rfl ?_
  exact ⟨rfl, bl_of_grown L1 G2 (fun b hb => by cases hb; exact Nat.le_refl _)⟩
end Go.Proofs.Ytpklkjekkbpeoaa
