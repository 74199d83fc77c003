/- DERIVED. Arrays of words and of bytes in memory of the call's own. The digest's constants: both texts. The words of a block: the document's text. -/
import Derived.Test.YtljfigikkajlnaaVm1
import Derived.Test.YtljfigikkajlnaaVm5
import Derived.Laws.Rows
import Derived.Laws.Tables
import Derived.Deep.WholeRow
import Derived.Deep.MidRow
import Derived.Great.BuildSlice
import Derived.Deep.LoopGhost
import Derived.Deep.Cut
import Derived.Deep.CutRange
namespace Go.Proofs.Ytljfigikkajlnaa
open Go.RowKit
set_option linter.unusedVariables false
set_option linter.unusedSimpArgs false
def arrW (n : Nat) (f : Nat → W32) : Array Value := ((List.range n).map fun j => Value.int .u32 (wv (f j))).toArray
def arrB (n : Nat) (f : Nat → UInt8) : Array Value := ((List.range n).map fun j => Value.int .u8 (bv (f j))).toArray
section
variable (n : Nat) (f g : Nat → W32)
theorem arrW_size : (arrW n f).size = n := by simp [arrW]
theorem arrW_get {i : Nat} (h : i < n) : (arrW n f)[i]? = some (.int .u32 (wv (f i))) := by simp [arrW, h]
theorem arrW_congr (h : ∀ j, j < n → f j = g j) : arrW n f = arrW n g := by
 unfold arrW
 congr 1
 refine List.map_congr_left fun j hj => ?_
 rw [h j (List.mem_range.1 hj)]
theorem arrW_set (i : Nat) (x : W32) : (arrW n f).setIfInBounds i (.int .u32 (wv x)) = arrW n (fun j => if j = i then x else f j) := by
 apply Array.ext_getElem?
 intro j
 rw [Array.getElem?_setIfInBounds]
 by_cases hj : j < n
 · by_cases hij : i = j
   · subst hij; simp [arrW, hj]
   · have : ¬ j = i := fun e => hij e.symm
     simp [arrW, hj, hij, this]
 · by_cases hij : i = j
   · subst hij; simp [arrW, hj]
   · simp [arrW, hj, hij]
theorem arrW_one : (arrW n f).all (·.oneCell') = true := by
 rw [Array.all_eq_true_iff_forall_mem]
 intro v hv
 simp only [arrW, List.mem_toArray, List.mem_map] at hv
 obtain ⟨_, _, rfl⟩ := hv
 rfl
end
section
variable (n : Nat) (f g : Nat → UInt8)
theorem arrB_size : (arrB n f).size = n := by simp [arrB]
theorem arrB_get {i : Nat} (h : i < n) : (arrB n f)[i]? = some (.int .u8 (bv (f i))) := by simp [arrB, h]
theorem arrB_congr (h : ∀ j, j < n → f j = g j) : arrB n f = arrB n g := by
 unfold arrB
 congr 1
 refine List.map_congr_left fun j hj => ?_
 rw [h j (List.mem_range.1 hj)]
theorem arrB_set (i : Nat) (x : UInt8) : (arrB n f).setIfInBounds i (.int .u8 (bv x)) = arrB n (fun j => if j = i then x else f j) := by
 apply Array.ext_getElem?
 intro j
 rw [Array.getElem?_setIfInBounds]
 by_cases hj : j < n
 · by_cases hij : i = j
   · subst hij; simp [arrB, hj]
   · have : ¬ j = i := fun e => hij e.symm
     simp [arrB, hj, hij, this]
 · by_cases hij : i = j
   · subst hij; simp [arrB, hj]
   · simp [arrB, hj, hij]
theorem arrB_one : (arrB n f).all (·.oneCell') = true := by
 rw [Array.all_eq_true_iff_forall_mem]
 intro v hv
 simp only [arrB, List.mem_toArray, List.mem_map] at hv
 obtain ⟨_, _, rfl⟩ := hv
 rfl
end
section
variable {P : Program} {ops : Array Oper} {rest : List Oper} {o : Oper} {a : Act} {w : World} {Q : Exit → Act → World → Prop}
/-- What an operation that makes a block leaves: the block, all else as it was. -/
theorem alloc_arr (hgd : o.guard = none) (t : TypeId) (ho : o.op = .alloc t) (cs : Array Value) (n : Nat) (hz : (P.info? t).map (fun i => (i.zero, i.size)) = some (some (.agg cs), n))
 (h : ∀ W', Blk W' w.heap.size t cs → Below w.heap.size w W' → W'.heap.size = w.heap.size + 1 → wpList P ops Q rest (a.put o.dst (.pointer (some ⟨w.heap.size, 0, none⟩))) W') : wpList P ops Q (o :: rest) a w := by
 refine wpList_plain hgd fun K hK => ?_
 unfold Oper.wp execOp
 simp only [ho, Instr.alloc, Sem.run_bind, (zero_of_info hz).1, Result.andThen_ok, newVar, newRow, Value.cells]
 exact hK _ _ (h _ (Blk.new w t cs) ((Below.refl _ _).alloc (Nat.le_refl _) _) (by simp))
theorem box_arr (hgd : o.guard = none) (t : TypeId) (x : Operand) (ho : o.op = .box t x) (cs : Array Value) (hx : a.eval x = .agg cs)
 (h : ∀ W', Blk W' w.heap.size t cs → Below w.heap.size w W' → W'.heap.size = w.heap.size + 1 → wpList P ops Q rest (a.put o.dst (.pointer (some ⟨w.heap.size, 0, none⟩))) W') : wpList P ops Q (o :: rest) a w := by
 refine wpList_plain hgd fun K hK => ?_
 unfold Oper.wp execOp
 simp only [ho, hx, Instr.box, Sem.run_bind, newVar, newRow, Value.cells]
 exact hK _ _ (h _ (Blk.new w t cs) ((Below.refl _ _).alloc (Nat.le_refl _) _) (by simp))
/-- The whole of a block, by value. -/
theorem load_arr (hgd : o.guard = none) (ty : TypeId) (x : Operand) (ho : o.op = .load ty x) (g : Nat) (hx : a.eval x = .pointer (some ⟨g, 0, none⟩)) (t : TypeId) (cs : Array Value) (n : Nat) (e : TypeId)
 (hb : Blk w g t cs) (hu : P.underlying ty = some (.array n e)) (hi : (P.info? ty).map (·.size) = some cs.size) (h : wpList P ops Q rest (a.put o.dst (.agg cs)) w) : wpList P ops Q (o :: rest) a w :=
 wpList_load_row hgd ty x ho g hx t cs (0, 0) _ hb hu rfl hi h
/-- Into the whole of a block, by value. -/
theorem store_arr (hgd : o.guard = none) (ty : TypeId) (x y : Operand) (ho : o.op = .store ty x y) (g : Nat) (cs : Array Value) (hx : a.eval x = .pointer (some ⟨g, 0, none⟩)) (hy : a.eval y = .agg cs) (t : TypeId) (old : Array Value)
 (hb : Blk w g t old) (hi : (P.info? ty).map (·.size) = some cs.size) (hold : old.size = cs.size) (h1 : cs.all (·.oneCell') = true)
 (h : ∀ W', Blk W' g t cs → w.grownBy W' (some g) → W'.heap.size = w.heap.size → wpList P ops Q rest (a.put o.dst undef) W') : wpList P ops Q (o :: rest) a w := by
 refine wpList_store_row hgd ty x y ho g cs hx hy t old hb hi hold h1 (h _ (setRow_heap w g old cs t (0, 0) hb) ⟨rfl, rfl, rfl, by simp [World.setRow], fun k _ hk => ?_⟩ (by simp [World.setRow]))
 simp only [World.setRow, Array.getElem?_modify]
 rw [if_neg (fun e => hk (by rw [e]))]
end
end Go.Proofs.Ytljfigikkajlnaa
namespace Go.Proofs.Ytljfigikkajlnaa
open Go.RowKit
set_option linter.unusedVariables false
set_option linter.unusedSimpArgs false
theorem z64 : (Try.prog.info? 164).map (fun i => (i.zero, i.size)) = some (some (.agg (arrW 64 fun _ => 0)), 64) := by kernel_rfl
theorem z8 : (Try.prog.info? 151).map (fun i => (i.zero, i.size)) = some (some (.agg (arrW 8 fun _ => 0)), 8) := by kernel_rfl
theorem s64 : (Try.prog.info? 164).map (·.size) = some 64 := by kernel_rfl
theorem s8 : (Try.prog.info? 151).map (·.size) = some 8 := by kernel_rfl
def kcI : List Int := kcs.map Int.ofNat
def h0I : List Int := h0s.map Int.ofNat
theorem kcI_is : (kcI.map (Value.int .u32)).toArray = arrW 64 kc := by kernel_rfl
theorem h0I_is : (h0I.map (Value.int .u32)).toArray = arrW 8 h0 := by kernel_rfl
set_option maxRecDepth 100000 in
set_option maxHeartbeats 1600000 in
theorem cubes_any (w : World) : Calls Try.prog 142 #[] w fun e w' => e = .returned (.agg (arrW 64 kc)) ∧ Below w.heap.size w w' := by
 go_enter Try.func142, Try.ntmps142
 go_wp2_with (first
  | (refine alloc_arr rfl 164 rfl _ _ z64 ?_; intro W1 B1 L1 S1)
  | (refine wpList_buildFlatArr rfl 164 29 64 _ rfl .u32 kcI Try.underlying164 (by kernel_rfl) (by kernel_rfl) (by kernel_rfl) ?_; rw [kcI_is])
  | (refine store_arr rfl 164 _ _ rfl w.heap.size (arrW 64 kc) rfl rfl 164 _ B1 (by rw [arrW_size]; exact s64) (by rw [arrW_size, arrW_size]) (arrW_one _ _) ?_; intro W2 B2 G2 S2))
 (try simp only [Exit.inBlock, Exit.then])
 refine bodyPost_ret (results_cell_row rfl _ _ w.heap.size 164 (arrW 64 kc) (0, 0) _ rfl B2 Try.underlying164 rfl (by rw [arrW_size]; exact s64)) rfl ?_
 exact ⟨rfl, bl_of_grown L1 G2 (fun b hb => by cases hb; exact Nat.le_refl _)⟩
set_option maxRecDepth 100000 in
set_option maxHeartbeats 1600000 in
theorem start_any (w : World) : Calls Try.prog 126 #[] w fun e w' => e = .returned (.agg (arrW 8 h0)) ∧ Below w.heap.size w w' := by
 go_enter Try.func126, Try.ntmps126
 go_wp2_with (first
  | (refine alloc_arr rfl 151 rfl _ _ z8 ?_; intro W1 B1 L1 S1)
  | (refine wpList_buildFlatArr rfl 151 29 8 _ rfl .u32 h0I Try.underlying151 (by kernel_rfl) (by kernel_rfl) (by kernel_rfl) ?_; rw [h0I_is])
  | (refine store_arr rfl 151 _ _ rfl w.heap.size (arrW 8 h0) rfl rfl 151 _ B1 (by rw [arrW_size]; exact s8) (by rw [arrW_size, arrW_size]) (arrW_one _ _) ?_; intro W2 B2 G2 S2))
 (try simp only [Exit.inBlock, Exit.then])
 refine bodyPost_ret (results_cell_row rfl _ _ w.heap.size 151 (arrW 8 h0) (0, 0) _ rfl B2 Try.underlying151 rfl (by rw [arrW_size]; exact s8)) rfl ?_
 exact ⟨rfl, bl_of_grown L1 G2 (fun b hb => by cases hb; exact Nat.le_refl _)⟩
end Go.Proofs.Ytljfigikkajlnaa
namespace Go.Proofs.Ytljfigikkajlnaa
open Go.RowKit
set_option linter.unusedVariables false
set_option linter.unusedSimpArgs false
attribute [local go_sem high] w_add w_xor w_and w_or w_andNot w_not w_shl w_shr u32_byte u8_word
/-- n bytes from an address on. -/
def Byt (w : World) (ad : Addr) (n : Nat) (m : Nat → UInt8) : Prop := ∀ j, j < n → w.cell? (ad.add j) = some (.int .u8 (bv (m j)))
theorem Byt.keep {w w' : World} {ad : Addr} {n : Nat} {m : Nat → UInt8} (h : Byt w ad n m) (hb : Below w.heap.size w w') : Byt w' ad n m :=
 fun j hj => (hb.cell (World.block_lt_of_cell? w _ (h j hj))).trans (h j hj)
theorem grown_set' (w : World) (g i : Nat) (v : Value) : w.grownBy (w.setCell ⟨g, i, none⟩ v) (some g) :=
 ⟨rfl, rfl, rfl, by simp [World.setCell], fun k _ hk => Below.heap_setCell _ _ _ _ (fun e => hk (by simp [e]))⟩
theorem grown_drew {w w' : World} {r : Option Nat} (h : w.grownBy w' r) : w.grownBy w'.drew r := ⟨h.os, h.tape, h.output, h.size, h.block⟩
theorem grown_drewN {w w' : World} {r : Option Nat} (h : w.grownBy w' r) (n : Nat) : w.grownBy (w'.drewN n) r := ⟨h.os, h.tape, h.output, h.size, h.block⟩
theorem rot_z (x : W32) (z : Int) (h0 : -31 ≤ z) (h1 : z ≤ -1) (w : World) :
 Calls Try.prog 143 #[.int .u32 (wv x), .int .i64 z] w fun e w' => e = .returned (.int .u32 (wv (rr x (-z).toNat))) ∧ w = w' := by
 obtain ⟨n, hn⟩ := Int.eq_ofNat_of_zero_le (show 0 ≤ -z by omega)
 obtain rfl : z = -(n : Int) := by omega
 rw [hn]
 exact rot_any x n (by omega) (by omega) w
end Go.Proofs.Ytljfigikkajlnaa
