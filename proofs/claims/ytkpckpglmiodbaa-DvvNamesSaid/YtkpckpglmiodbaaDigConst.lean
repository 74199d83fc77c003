/- DERIVED. The digest's constants: both texts. -/
import Derived.Test.YtkpckpglmiodbaaDigMem
namespace Go.Proofs.Ytkpckpglmiodbaa
open Go.RowKit

theorem z64 : (Try.prog.info? 119).map (fun i => (i.zero, i.size)) = some (some (.agg (arrW 64 fun _ => 0)), 64) := by kernel_rfl
theorem z8 : (Try.prog.info? 93).map (fun i => (i.zero, i.size)) = some (some (.agg (arrW 8 fun _ => 0)), 8) := by kernel_rfl
theorem s64 : (Try.prog.info? 119).map (·.size) = some 64 := by kernel_rfl
theorem s8 : (Try.prog.info? 93).map (·.size) = some 8 := by kernel_rfl
def kcI : List Int := kcs.map Int.ofNat
def h0I : List Int := h0s.map Int.ofNat
theorem kcI_is : (kcI.map (Value.int .u32)).toArray = arrW 64 kc := by kernel_rfl
theorem h0I_is : (h0I.map (Value.int .u32)).toArray = arrW 8 h0 := by kernel_rfl

set_option maxRecDepth 100000 in
set_option maxHeartbeats 1600000 in
theorem cubes_any (w : World) : Calls Try.prog 93 #[] w fun e w' => e = .returned (.agg (arrW 64 kc)) ∧ Below w.heap.size w w' := by
  go_enter Try.func93, Try.ntmps93
  go_wp2_with (first
    | (refine alloc_arr rfl 119 rfl _ _ z64 ?_; intro W1 B1 L1 S1)
    | (refine wpList_buildFlatArr rfl 119 67 64 _ rfl .u32 kcI Try.underlying119 (by kernel_rfl) (by kernel_rfl) (by kernel_rfl) ?_; rw [kcI_is])
    | (refine store_arr rfl 119 _ _ rfl w.heap.size (arrW 64 kc) rfl rfl 119 _ B1 (by rw [arrW_size]; exact s64) (by rw [arrW_size, arrW_size]) (arrW_one _ _) ?_; intro W2 B2 G2 S2))
  (try simp only [Exit.inBlock, Exit.then])
  refine bodyPost_ret (results_cell_row rfl _ _ w.heap.size 119 (arrW 64 kc) (0, 0) _ rfl B2 Try.underlying119 rfl (by rw [arrW_size]; exact s64)) rfl ?_
  exact ⟨rfl, bl_of_grown L1 G2 (fun b hb => by cases hb; exact Nat.le_refl _)⟩

set_option maxRecDepth 100000 in
set_option maxHeartbeats 1600000 in
theorem refCubes_any (w : World) : Calls Try.prog 67 #[] w fun e w' => e = .returned (.agg (arrW 64 kc)) ∧ Below w.heap.size w w' := by
  go_enter Try.func67, Try.ntmps67
  go_wp2_with (first
    | (refine alloc_arr rfl 119 rfl _ _ z64 ?_; intro W1 B1 L1 S1)
    | (refine wpList_buildFlatArr rfl 119 67 64 _ rfl .u32 kcI Try.underlying119 (by kernel_rfl) (by kernel_rfl) (by kernel_rfl) ?_; rw [kcI_is])
    | (refine store_arr rfl 119 _ _ rfl w.heap.size (arrW 64 kc) rfl rfl 119 _ B1 (by rw [arrW_size]; exact s64) (by rw [arrW_size, arrW_size]) (arrW_one _ _) ?_; intro W2 B2 G2 S2))
  (try simp only [Exit.inBlock, Exit.then])
  refine bodyPost_ret (results_cell_row rfl _ _ w.heap.size 119 (arrW 64 kc) (0, 0) _ rfl B2 Try.underlying119 rfl (by rw [arrW_size]; exact s64)) rfl ?_
  exact ⟨rfl, bl_of_grown L1 G2 (fun b hb => by cases hb; exact Nat.le_refl _)⟩

set_option maxRecDepth 100000 in
set_option maxHeartbeats 1600000 in
theorem start_any (w : World) : Calls Try.prog 64 #[] w fun e w' => e = .returned (.agg (arrW 8 h0)) ∧ Below w.heap.size w w' := by
  go_enter Try.func64, Try.ntmps64
  go_wp2_with (first
    | (refine alloc_arr rfl 93 rfl _ _ z8 ?_; intro W1 B1 L1 S1)
    | (refine wpList_buildFlatArr rfl 93 67 8 _ rfl .u32 h0I Try.underlying93 (by kernel_rfl) (by kernel_rfl) (by kernel_rfl) ?_; rw [h0I_is])
    | (refine store_arr rfl 93 _ _ rfl w.heap.size (arrW 8 h0) rfl rfl 93 _ B1 (by rw [arrW_size]; exact s8) (by rw [arrW_size, arrW_size]) (arrW_one _ _) ?_; intro W2 B2 G2 S2))
  (try simp only [Exit.inBlock, Exit.then])
  refine bodyPost_ret (results_cell_row rfl _ _ w.heap.size 93 (arrW 8 h0) (0, 0) _ rfl B2 Try.underlying93 rfl (by rw [arrW_size]; exact s8)) rfl ?_
  exact ⟨rfl, bl_of_grown L1 G2 (fun b hb => by cases hb; exact Nat.le_refl _)⟩

set_option maxRecDepth 100000 in
set_option maxHeartbeats 1600000 in
theorem refStart_any (w : World) : Calls Try.prog 48 #[] w fun e w' => e = .returned (.agg (arrW 8 h0)) ∧ Below w.heap.size w w' := by
  go_enter Try.func48, Try.ntmps48
  go_wp2_with (first
    | (refine alloc_arr rfl 93 rfl _ _ z8 ?_; intro W1 B1 L1 S1)
    | (refine wpList_buildFlatArr rfl 93 67 8 _ rfl .u32 h0I Try.underlying93 (by kernel_rfl) (by kernel_rfl) (by kernel_rfl) ?_; rw [h0I_is])
    | (refine store_arr rfl 93 _ _ rfl w.heap.size (arrW 8 h0) rfl rfl 93 _ B1 (by rw [arrW_size]; exact s8) (by rw [arrW_size, arrW_size]) (arrW_one _ _) ?_; intro W2 B2 G2 S2))
  (try simp only [Exit.inBlock, Exit.then])
  refine bodyPost_ret (results_cell_row rfl _ _ w.heap.size 93 (arrW 8 h0) (0, 0) _ rfl B2 Try.underlying93 rfl (by rw [arrW_size]; exact s8)) rfl ?_
  exact ⟨rfl, bl_of_grown L1 G2 (fun b hb => by cases hb; exact Nat.le_refl _)⟩
end Go.Proofs.Ytkpckpglmiodbaa
