/- DERIVED. Arrays of words and of bytes in memory of the call's own. -/
import Derived.Test.YtpklkjekkbpeoaaDigPlain
import Derived.Laws.Rows
import Derived.Laws.Tables
import Derived.Deep.WholeRow
import Derived.Deep.MidRow
import Derived.Great.BuildSlice
import Derived.Deep.LoopGhost
import Derived.Deep.Cut
import Derived.Deep.CutRange
namespace Go.Proofs.Ytpklkjekkbpeoaa
open Go.RowKit
set_option linter.unusedVariables false
set_option linter.unusedSimpArgs false

def arrW (n : Nat) (f : Nat → W32) : Array Value := ((List.range n).map fun j => Value.int .u32 (wv (f j))).toArray
def arrB (n : Nat) (f : Nat → UInt8) : Array Value := ((List.range n).map fun j => Value.int .u8 (bv (f j))).toArray
section
variable (n : Nat) (f g : Nat → W32)
theorem arrW_size : (arrW n f).size = n := by simp [arrW]
theorem arrW_get {i : Nat} (h : i < n) : (arrW n f)[i]? = some (.int .u32 (wv (f i))) := by simp [arrW, h]
theorem arrW_congr (h : ∀ j, j < n → f j = g j) : arrW n f = arrW n g := by
  unfold arrW
  congr 1
  refine List.map_congr_left fun j hj => ?_
  rw [h j (List.mem_range.1 hj)]
theorem arrW_set (i : Nat) (x : W32) : (arrW n f).setIfInBounds i (.int .u32 (wv x)) = arrW n (fun j => if j = i then x else f j) := by
  apply Array.ext_getElem?
  intro j
  rw [Array.getElem?_setIfInBounds]
  by_cases hj : j < n
  · by_cases hij : i = j
    · subst hij; simp [arrW, hj]
    · have : ¬ j = i := fun e => hij e.symm
      simp [arrW, hj, hij, this]
  · by_cases hij : i = j
    · subst hij; simp [arrW, hj]
    · simp [arrW, hj, hij]
theorem arrW_one : (arrW n f).all (·.oneCell') = true := by
  rw [Array.all_eq_true_iff_forall_mem]
  intro v hv
  simp only [arrW, List.mem_toArray, List.mem_map] at hv
  obtain ⟨_, _, rfl⟩ := hv
  rfl
end
theorem arr8 (f : Nat → W32) : arrW 8 f = #[.int .u32 (wv (f 0)), .int .u32 (wv (f 1)), .int .u32 (wv (f 2)), .int .u32 (wv (f 3)), .int .u32 (wv (f 4)), .int .u32 (wv (f 5)), .int .u32 (wv (f 6)), .int .u32 (wv (f 7))] := rfl
section
variable (n : Nat) (f g : Nat → UInt8)
theorem arrB_size : (arrB n f).size = n := by simp [arrB]
theorem arrB_get {i : Nat} (h : i < n) : (arrB n f)[i]? = some (.int .u8 (bv (f i))) := by simp [arrB, h]
theorem arrB_congr (h : ∀ j, j < n → f j = g j) : arrB n f = arrB n g := by
  unfold arrB
  congr 1
  refine List.map_congr_left fun j hj => ?_
  rw [h j (List.mem_range.1 hj)]
theorem arrB_set (i : Nat) (x : UInt8) : (arrB n f).setIfInBounds i (.int .u8 (bv x)) = arrB n (fun j => if j = i then x else f j) := by
  apply Array.ext_getElem?
  intro j
  rw [Array.getElem?_setIfInBounds]
  by_cases hj : j < n
  · by_cases hij : i = j
    · subst hij; simp [arrB, hj]
    · have : ¬ j = i := fun e => hij e.symm
      simp [arrB, hj, hij, this]
  · by_cases hij : i = j
    · subst hij; simp [arrB, hj]
    · simp [arrB, hj, hij]
theorem arrB_one : (arrB n f).all (·.oneCell') = true := by
  rw [Array.all_eq_true_iff_forall_mem]
  intro v hv
  simp only [arrB, List.mem_toArray, List.mem_map] at hv
  obtain ⟨_, _, rfl⟩ := hv
  rfl
end
section
variable {P : Program} {ops : Array Oper} {rest : List Oper} {o : Oper} {a : Act} {w : World} {Q : Exit → Act → World → Prop}
/-- What an operation that makes a block leaves: the block, all else as it was. -/
theorem alloc_arr (hgd : o.guard = none) (t : TypeId) (ho : o.op = .alloc t) (cs : Array Value) (n : Nat) (hz : (P.info? t).map (fun i => (i.zero, i.size)) = some (some (.agg cs), n))
    (h : ∀ W', Blk W' w.heap.size t cs → Below w.heap.size w W' → W'.heap.size = w.heap.size + 1 → wpList P ops Q rest (a.put o.dst (.pointer (some ⟨w.heap.size, 0, none⟩))) W') : wpList P ops Q (o :: rest) a w := by
  refine wpList_plain hgd fun K hK => ?_
  unfold Oper.wp execOp
  simp only [ho, Instr.alloc, Sem.run_bind, (zero_of_info hz).1, Result.andThen_ok, newVar, newRow, Value.cells]
  exact hK _ _ (h _ (Blk.new w t cs) ((Below.refl _ _).alloc (Nat.le_refl _) _) (by simp))
theorem box_arr (hgd : o.guard = none) (t : TypeId) (x : Operand) (ho : o.op = .box t x) (cs : Array Value) (hx : a.eval x = .agg cs)
    (h : ∀ W', Blk W' w.heap.size t cs → Below w.heap.size w W' → W'.heap.size = w.heap.size + 1 → wpList P ops Q rest (a.put o.dst (.pointer (some ⟨w.heap.size, 0, none⟩))) W') : wpList P ops Q (o :: rest) a w := by
  refine wpList_plain hgd fun K hK => ?_
  unfold Oper.wp execOp
  simp only [ho, hx, Instr.box, Sem.run_bind, newVar, newRow, Value.cells]
  exact hK _ _ (h _ (Blk.new w t cs) ((Below.refl _ _).alloc (Nat.le_refl _) _) (by simp))
/-- The whole of a block, by value. -/
theorem load_arr (hgd : o.guard = none) (ty : TypeId) (x : Operand) (ho : o.op = .load ty x) (g : Nat) (hx : a.eval x = .pointer (some ⟨g, 0, none⟩)) (t : TypeId) (cs : Array Value) (n : Nat) (e : TypeId)
    (hb : Blk w g t cs) (hu : P.underlying ty = some (.array n e)) (hi : (P.info? ty).map (·.size) = some cs.size) (h : wpList P ops Q rest (a.put o.dst (.agg cs)) w) : wpList P ops Q (o :: rest) a w :=
  wpList_load_row hgd ty x ho g hx t cs (0, 0) _ hb hu rfl hi h
/-- Into the whole of a block, by value. -/
theorem store_arr (hgd : o.guard = none) (ty : TypeId) (x y : Operand) (ho : o.op = .store ty x y) (g : Nat) (cs : Array Value) (hx : a.eval x = .pointer (some ⟨g, 0, none⟩)) (hy : a.eval y = .agg cs) (t : TypeId) (old : Array Value)
    (hb : Blk w g t old) (hi : (P.info? ty).map (·.size) = some cs.size) (hold : old.size = cs.size) (h1 : cs.all (·.oneCell') = true)
    (h : ∀ W', Blk W' g t cs → w.grownBy W' (some g) → W'.heap.size = w.heap.size → wpList P ops Q rest (a.put o.dst undef) W') : wpList P ops Q (o :: rest) a w := by
  refine wpList_store_row hgd ty x y ho g cs hx hy t old hb hi hold h1 (h _ (setRow_heap w g old cs t (0, 0) hb) ⟨rfl, rfl, rfl, by simp [World.setRow], fun k _ hk => ?_⟩ (by simp [World.setRow]))
  simp only [World.setRow, Array.getElem?_modify]
  rw [if_neg (fun e => hk (by rw [e]))]
end
end Go.Proofs.Ytpklkjekkbpeoaa
