/- DERIVED. Put: the program's own. -/
import Derived.Test.YtejodabmddcanaaSegPutS
import Derived.Test.YtejodabmddcanaaSegPutR
import Derived.Test.YtejodabmddcanaaSegOver
namespace Go.Proofs.Ytejodabmddcanaa
open Go.RowKit

set_option maxRecDepth 100000 in
set_option maxHeartbeats 3200000 in
theorem segPut_there (A : Option Addr) (c : Nat) (l : List Ent) (x : Ent) (w : World) (hr : Rd w A l) (_hc : l.length ≤ c) (hl : l.length ≤ 4398046511000) (h1 : listB l = true) (hx1 : listB [x] = true) (hl0 : 0 < l.length) (hsum : l[0].sum.size = x.sum.size) (HTH : Hid (there l x.key = true)) :
    Calls Try.prog 33 #[.slice A l.length c, .agg #[.string x.key, .string x.sum]] w fun e w' => ∃ v, e = .returned (.tuple #[v, .int .i64 0]) ∧ Own w' w.heap.size v (putL l x) ∧ Below w.heap.size w w' := by
  have hmax := hr.max
  have HR := Lib.hid hr
  have HRa := Lib.hid (hr.alloc (.cells #[.string x.key, .string x.sum] 53))
  have HB := Lib.hid (bl_alloc (Below.refl w.heap.size w) (.cells #[.string x.key, .string x.sum] 53))
  clear hr
  obtain ⟨i0, hi0, hz0, hz1, hz2⟩ := info_parts entry_info
  have HX := Lib.hid hx1
  have HS := Lib.hid (rises_of_list h1)
  obtain ⟨q, hq⟩ : ∃ q, q = cut l x.key := ⟨_, rfl⟩
  have hql : q ≤ l.length := by rw [hq]; exact cut_le _ _
  have HQ := Lib.hid hq
  clear hx1 hq
  obtain ⟨ad, rfl, c0, c1⟩ := HRa.out.head hl0
  have adlt : ad.block < w.heap.size := by
    obtain ⟨ad', e', c0', _⟩ := HR.out.head hl0
    cases e'
    exact World.block_lt_of_cell? w _ c0'
  have b3 : decide ((0 : Int) < (l.length : Int)) = true := by simp; omega
  have b4 : decide (0 < l.length) = true := by simpa using hl0
  have b5 : (0 : Int) < (l.length : Int) := by omega
  have b1 : ((l[0].sum.size : Int) != (x.sum.size : Int)) = false := by simp; omega
  have b2 : (l[0].sum.size != x.sum.size) = false := by simp; omega
  clear hsum
  go_enter Try.func33, Try.ntmps33
  go_wp2
  refine wp_region_held_drew (S := fun w' => w'.cell? ⟨w.heap.size, 0, none⟩ = some (.string x.key) ∧ w'.cell? ⟨w.heap.size, 1, none⟩ = some (.string x.sum) ∧ w'.cell? ⟨ad.block, ad.off + 1, none⟩ = some (.string l[0].sum)) (by kernel_rfl) ?_ (fun hHeld => ?_)
  · simp [*]
  refine wpAnyH_take (i := 0) (oi := { dst := some 9, op := Op.move (Operand.tmp 0), type := 37, pos := "segment.go:121", after := #[], guard := none }) (v := ?_) rfl (by kernel_rfl) (by kernel_rfl) (by kernel_rfl) (fun _ _ _ h => h) (Or.inl ⟨by rfl, ?_⟩) (by assumption) ?_
  rotate_left
  · intro w_ hSw
    (try dsimp only at hSw)
    go_simp
    first | done | with_reducible rfl
  try simp only [Act.put, List.setIfInBounds_toArray, List.set_cons_zero, List.set_cons_succ]
  refine wpAnyH_ready (rs := [1]) (by kernel_rfl) (by simp) ?_
  refine AllReadyH.cons (o := { dst := some 10, op := Op.call { callee := Callee.value (Operand.func 55), args := #[Operand.tmp 9], argTypes := #[37] }, type := 4, pos := "segment.go:121", after := #[{ on := 0, ground := Ground.data }], guard := none }) rfl (fun K hK => ?_) AllReadyH.nil
  go_simp
  refine (segList_any _ _ _ _ ?_).mono ?_
  · exact HRa.out.drew
  rintro e w2 ⟨rfl, hb_⟩
  rw [h1]
  have hs2 : w.heap.size < w2.heap.size := by have := hb_.size; simp at this; omega
  have HB2 := Lib.hid (bl_then (w := w) (by repeat (first | exact HB.out | refine bl_drewN ?_ _ | refine bl_drew ?_ | refine bl_alloc ?_ _)) hb_)
  go_wp2_with fail
  refine hK.out _ _ ?_ (fun hHeld => ?_)
  · exact ⟨(hb_.cell (p := ⟨w.heap.size, 0, none⟩) (by first | (simp; done) | (simp; omega))).trans hHeld.1, (hb_.cell (p := ⟨w.heap.size, 1, none⟩) (by first | (simp; done) | (simp; omega))).trans hHeld.2.1, (hb_.cell (p := ⟨ad.block, ad.off + 1, none⟩) (by simp; omega)).trans hHeld.2.2⟩
  clear hK K
  try simp only [Act.put, List.setIfInBounds_toArray, List.set_cons_zero, List.set_cons_succ]
  refine wpAnyH_take (i := 2) (oi := { dst := some 11, op := Op.unOp UnOp.not 4 (Operand.tmp 10), type := 4, pos := "segment.go:121", after := #[{ on := 1, ground := Ground.data }], guard := none }) (v := ?_) rfl (by kernel_rfl) (by kernel_rfl) (by kernel_rfl) (fun _ _ _ h => h) (Or.inl ⟨by rfl, ?_⟩) (by assumption) ?_
  rotate_left
  · intro w_ hSw
    (try dsimp only at hSw)
    go_simp
    first | done | with_reducible rfl
  try simp only [Act.put, List.setIfInBounds_toArray, List.set_cons_zero, List.set_cons_succ]
  refine wpAnyH_take (i := 3) (oi := { dst := some 12, op := Op.move (Operand.tmp 11), type := 4, pos := "segment.go:121", after := #[{ on := 2, ground := Ground.data }, { on := 1, ground := Ground.chain }], guard := none }) (v := ?_) rfl (by kernel_rfl) (by kernel_rfl) (by kernel_rfl) (fun _ _ _ h => h) (Or.inl ⟨by rfl, ?_⟩) (by assumption) ?_
  rotate_left
  · intro w_ hSw
    (try dsimp only at hSw)
    go_simp
    first | done | with_reducible rfl
  try simp only [Act.put, List.setIfInBounds_toArray, List.set_cons_zero, List.set_cons_succ]
  refine wpAnyH_take (i := 4) (oi := { dst := some 13, op := Op.load 53 (Operand.tmp 3), type := 53, pos := "segment.go:121", after := #[{ on := 3, ground := Ground.guard }], guard := some (3, false) }) (v := ?_) rfl (by kernel_rfl) (by kernel_rfl) (by kernel_rfl) (fun _ _ _ h => h) (Or.inl ⟨by rfl, ?_⟩) (by assumption) ?_
  rotate_left
  · intro w_ hSw
    (try dsimp only at hSw)
    go_simp
    first | done | with_reducible rfl
  try simp only [Act.put, List.setIfInBounds_toArray, List.set_cons_zero, List.set_cons_succ]
  refine wpAnyH_ready (rs := [5]) (by kernel_rfl) (by simp) ?_
  refine AllReadyH.cons (o := { dst := some 14, op := Op.buildSlice 37 1 #[(0, Operand.tmp 13)], type := 37, pos := "segment.go:121", after := #[{ on := 4, ground := Ground.data }, { on := 3, ground := Ground.guard }], guard := some (3, false) }) rfl (fun K hK => ?_) AllReadyH.nil
  go_simp
  skip
  refine hK.out _ _ ?_ (fun hHeld => ?_)
  · simp [*, World.cell?_alloc_some]
  clear hK K
  try simp only [Act.put, List.setIfInBounds_toArray, List.set_cons_zero, List.set_cons_succ]
  refine wpAnyH_ready (rs := [6]) (by kernel_rfl) (by simp) ?_
  refine AllReadyH.cons (o := { dst := some 15, op := Op.call { callee := Callee.value (Operand.func 55), args := #[Operand.tmp 14], argTypes := #[37] }, type := 4, pos := "segment.go:121", after := #[{ on := 5, ground := Ground.data }, { on := 3, ground := Ground.chain }, { on := 3, ground := Ground.guard }], guard := some (3, false) }) rfl (fun K hK => ?_) AllReadyH.nil
  go_simp
  refine (segList_any _ _ [x] _ ?_).mono ?_
  · exact rd_new _ _ (by simp)
  rintro e w3 ⟨rfl, hb_⟩
  rw [HX.out]
  have HB3 := Lib.hid (bl_then (w := w) (by repeat (first | exact HB2.out | refine bl_drewN ?_ _ | refine bl_drew ?_ | refine bl_alloc ?_ _)) hb_)
  go_wp2_with fail
  refine hK.out _ _ ?_ (fun hHeld => ?_)
  · exact ⟨(hb_.cell (p := ⟨w.heap.size, 0, none⟩) (by first | (simp; done) | (simp; omega))).trans hHeld.1, (hb_.cell (p := ⟨w.heap.size, 1, none⟩) (by first | (simp; done) | (simp; omega))).trans hHeld.2.1, (hb_.cell (p := ⟨ad.block, ad.off + 1, none⟩) (by simp; omega)).trans hHeld.2.2⟩
  clear hK K
  try simp only [Act.put, List.setIfInBounds_toArray, List.set_cons_zero, List.set_cons_succ]
  refine wpAnyH_take (i := 7) (oi := { dst := some 16, op := Op.unOp UnOp.not 4 (Operand.tmp 15), type := 4, pos := "segment.go:121", after := #[{ on := 6, ground := Ground.data }, { on := 3, ground := Ground.guard }], guard := some (3, false) }) (v := ?_) rfl (by kernel_rfl) (by kernel_rfl) (by kernel_rfl) (fun _ _ _ h => h) (Or.inl ⟨by rfl, ?_⟩) (by assumption) ?_
  rotate_left
  · intro w_ hSw
    (try dsimp only at hSw)
    go_simp
    first | done | with_reducible rfl
  try simp only [Act.put, List.setIfInBounds_toArray, List.set_cons_zero, List.set_cons_succ]
  refine wpAnyH_take (i := 8) (oi := { dst := some 17, op := Op.pick (Operand.tmp 12) (Operand.const (Value.bool true)) (Operand.tmp 16), type := 4, pos := "segment.go:121", after := #[{ on := 3, ground := Ground.data }, { on := 7, ground := Ground.data }], guard := none }) (v := ?_) rfl (by kernel_rfl) (by kernel_rfl) (by kernel_rfl) (fun _ _ _ h => h) (Or.inl ⟨by rfl, ?_⟩) (by assumption) ?_
  rotate_left
  · intro w_ hSw
    (try dsimp only at hSw)
    go_simp
    first | done | with_reducible rfl
  try simp only [Act.put, List.setIfInBounds_toArray, List.set_cons_zero, List.set_cons_succ]
  refine wpAnyH_take (i := 9) (oi := { dst := some 18, op := Op.move (Operand.tmp 17), type := 4, pos := "segment.go:121", after := #[{ on := 8, ground := Ground.data }, { on := 6, ground := Ground.chain }], guard := none }) (v := ?_) rfl (by kernel_rfl) (by kernel_rfl) (by kernel_rfl) (fun _ _ _ h => h) (Or.inl ⟨by rfl, ?_⟩) (by assumption) ?_
  rotate_left
  · intro w_ hSw
    (try dsimp only at hSw)
    go_simp
    first | done | with_reducible rfl
  try simp only [Act.put, List.setIfInBounds_toArray, List.set_cons_zero, List.set_cons_succ]
  refine wpAnyH_take (i := 10) (oi := { dst := some 19, op := Op.move (Operand.tmp 0), type := 37, pos := "segment.go:121", after := #[{ on := 9, ground := Ground.guard }], guard := some (9, false) }) (v := ?_) rfl (by kernel_rfl) (by kernel_rfl) (by kernel_rfl) (fun _ _ _ h => h) (Or.inl ⟨by rfl, ?_⟩) (by assumption) ?_
  rotate_left
  · intro w_ hSw
    (try dsimp only at hSw)
    go_simp
    first | done | with_reducible rfl
  try simp only [Act.put, List.setIfInBounds_toArray, List.set_cons_zero, List.set_cons_succ]
  refine wpAnyH_take (i := 11) (oi := { dst := some 20, op := Op.call { callee := Callee.builtin Builtin.len, args := #[Operand.tmp 19], argTypes := #[37] }, type := 3, pos := "segment.go:121", after := #[{ on := 10, ground := Ground.data }, { on := 9, ground := Ground.guard }], guard := some (9, false) }) (v := ?_) rfl (by kernel_rfl) (by kernel_rfl) (by kernel_rfl) (fun _ _ _ h => h) (Or.inl ⟨by rfl, ?_⟩) (by assumption) ?_
  rotate_left
  · intro w_ hSw
    (try dsimp only at hSw)
    go_simp
    first | done | with_reducible rfl
  try simp only [Act.put, List.setIfInBounds_toArray, List.set_cons_zero, List.set_cons_succ]
  refine wpAnyH_take (i := 12) (oi := { dst := some 21, op := Op.binOp BinOp.gtr 3 (Operand.tmp 20) (Operand.const (Value.int IntKind.i64 0)) 3, type := 4, pos := "segment.go:121", after := #[{ on := 11, ground := Ground.data }, { on := 9, ground := Ground.guard }], guard := some (9, false) }) (v := ?_) rfl (by kernel_rfl) (by kernel_rfl) (by kernel_rfl) (fun _ _ _ h => h) (Or.inl ⟨by rfl, ?_⟩) (by assumption) ?_
  rotate_left
  · intro w_ hSw
    (try dsimp only at hSw)
    go_simp
    first | done | with_reducible rfl
  try simp only [Act.put, List.setIfInBounds_toArray, List.set_cons_zero, List.set_cons_succ]
  refine wpAnyH_take (i := 13) (oi := { dst := some 22, op := Op.move (Operand.tmp 21), type := 4, pos := "segment.go:121", after := #[{ on := 12, ground := Ground.data }, { on := 9, ground := Ground.chain }, { on := 9, ground := Ground.guard }], guard := some (9, false) }) (v := ?_) rfl (by kernel_rfl) (by kernel_rfl) (by kernel_rfl) (fun _ _ _ h => h) (Or.inl ⟨by rfl, ?_⟩) (by assumption) ?_
  rotate_left
  · intro w_ hSw
    (try dsimp only at hSw)
    go_simp
    first | done | with_reducible rfl
  try simp only [Act.put, List.setIfInBounds_toArray, List.set_cons_zero, List.set_cons_succ]
  refine wpAnyH_take (i := 14) (oi := { dst := some 23, op := Op.move (Operand.tmp 0), type := 37, pos := "segment.go:121", after := #[{ on := 13, ground := Ground.guard }], guard := some (13, true) }) (v := ?_) rfl (by kernel_rfl) (by kernel_rfl) (by kernel_rfl) (fun _ _ _ h => h) (Or.inl ⟨by rfl, ?_⟩) (by assumption) ?_
  rotate_left
  · intro w_ hSw
    (try dsimp only at hSw)
    go_simp
    first | done | with_reducible rfl
  try simp only [Act.put, List.setIfInBounds_toArray, List.set_cons_zero, List.set_cons_succ]
  refine wpAnyH_take (i := 15) (oi := { dst := some 24, op := Op.indexAddr 37 (Operand.tmp 23) (Operand.const (Value.int IntKind.i64 0)), type := 0, pos := "segment.go:121", after := #[{ on := 14, ground := Ground.data }, { on := 13, ground := Ground.guard }], guard := some (13, true) }) (v := ?_) rfl (by kernel_rfl) (by kernel_rfl) (by kernel_rfl) (fun _ _ _ h => h) (Or.inl ⟨by rfl, ?_⟩) (by assumption) ?_
  rotate_left
  · intro w_ hSw
    (try dsimp only at hSw)
    go_simp
    first | done | with_reducible rfl
  try simp only [Act.put, List.setIfInBounds_toArray, List.set_cons_zero, List.set_cons_succ]
  refine wpAnyH_take (i := 16) (oi := { dst := some 25, op := Op.fieldAddr 53 (Operand.tmp 24) 1, type := 0, pos := "segment.go:121", after := #[{ on := 15, ground := Ground.data }, { on := 13, ground := Ground.guard }], guard := some (13, true) }) (v := ?_) rfl (by kernel_rfl) (by kernel_rfl) (by kernel_rfl) (fun _ _ _ h => h) (Or.inl ⟨by rfl, ?_⟩) (by assumption) ?_
  rotate_left
  · intro w_ hSw
    (try dsimp only at hSw)
    go_simp
    first | done | with_reducible rfl
  try simp only [Act.put, List.setIfInBounds_toArray, List.set_cons_zero, List.set_cons_succ]
  refine wpAnyH_take (i := 17) (oi := { dst := some 26, op := Op.load 9 (Operand.tmp 25), type := 9, pos := "segment.go:121", after := #[{ on := 16, ground := Ground.data }, { on := 13, ground := Ground.guard }], guard := some (13, true) }) (v := ?_) rfl (by kernel_rfl) (by kernel_rfl) (by kernel_rfl) (fun _ _ _ h => h) (Or.inl ⟨by rfl, ?_⟩) (by assumption) ?_
  rotate_left
  · intro w_ hSw
    (try dsimp only at hSw)
    go_simp
    first | done | with_reducible rfl
  try simp only [Act.put, List.setIfInBounds_toArray, List.set_cons_zero, List.set_cons_succ]
  refine wpAnyH_take (i := 18) (oi := { dst := some 27, op := Op.call { callee := Callee.builtin Builtin.len, args := #[Operand.tmp 26], argTypes := #[9] }, type := 3, pos := "segment.go:121", after := #[{ on := 17, ground := Ground.data }, { on := 13, ground := Ground.guard }], guard := some (13, true) }) (v := ?_) rfl (by kernel_rfl) (by kernel_rfl) (by kernel_rfl) (fun _ _ _ h => h) (Or.inl ⟨by rfl, ?_⟩) (by assumption) ?_
  rotate_left
  · intro w_ hSw
    (try dsimp only at hSw)
    go_simp
    first | done | with_reducible rfl
  try simp only [Act.put, List.setIfInBounds_toArray, List.set_cons_zero, List.set_cons_succ]
  refine wpAnyH_take (i := 19) (oi := { dst := some 28, op := Op.fieldAddr 53 (Operand.tmp 3) 1, type := 0, pos := "segment.go:121", after := #[{ on := 13, ground := Ground.guard }], guard := some (13, true) }) (v := ?_) rfl (by kernel_rfl) (by kernel_rfl) (by kernel_rfl) (fun _ _ _ h => h) (Or.inl ⟨by rfl, ?_⟩) (by assumption) ?_
  rotate_left
  · intro w_ hSw
    (try dsimp only at hSw)
    go_simp
    first | done | with_reducible rfl
  try simp only [Act.put, List.setIfInBounds_toArray, List.set_cons_zero, List.set_cons_succ]
  refine wpAnyH_take (i := 20) (oi := { dst := some 29, op := Op.load 9 (Operand.tmp 28), type := 9, pos := "segment.go:121", after := #[{ on := 19, ground := Ground.data }, { on := 13, ground := Ground.guard }], guard := some (13, true) }) (v := ?_) rfl (by kernel_rfl) (by kernel_rfl) (by kernel_rfl) (fun _ _ _ h => h) (Or.inl ⟨by rfl, ?_⟩) (by assumption) ?_
  rotate_left
  · intro w_ hSw
    (try dsimp only at hSw)
    go_simp
    first | done | with_reducible rfl
  try simp only [Act.put, List.setIfInBounds_toArray, List.set_cons_zero, List.set_cons_succ]
  refine wpAnyH_take (i := 21) (oi := { dst := some 30, op := Op.call { callee := Callee.builtin Builtin.len, args := #[Operand.tmp 29], argTypes := #[9] }, type := 3, pos := "segment.go:121", after := #[{ on := 20, ground := Ground.data }, { on := 13, ground := Ground.guard }], guard := some (13, true) }) (v := ?_) rfl (by kernel_rfl) (by kernel_rfl) (by kernel_rfl) (fun _ _ _ h => h) (Or.inl ⟨by rfl, ?_⟩) (by assumption) ?_
  rotate_left
  · intro w_ hSw
    (try dsimp only at hSw)
    go_simp
    first | done | with_reducible rfl
  try simp only [Act.put, List.setIfInBounds_toArray, List.set_cons_zero, List.set_cons_succ]
  refine wpAnyH_take (i := 22) (oi := { dst := some 31, op := Op.binOp BinOp.neq 3 (Operand.tmp 27) (Operand.tmp 30) 3, type := 4, pos := "segment.go:121", after := #[{ on := 18, ground := Ground.data }, { on := 21, ground := Ground.data }, { on := 13, ground := Ground.guard }], guard := some (13, true) }) (v := ?_) rfl (by kernel_rfl) (by kernel_rfl) (by kernel_rfl) (fun _ _ _ h => h) (Or.inl ⟨by rfl, ?_⟩) (by assumption) ?_
  rotate_left
  · intro w_ hSw
    (try dsimp only at hSw)
    go_simp
    first | done | with_reducible rfl
  try simp only [Act.put, List.setIfInBounds_toArray, List.set_cons_zero, List.set_cons_succ]
  refine wpAnyH_take (i := 23) (oi := { dst := some 32, op := Op.pick (Operand.tmp 22) (Operand.tmp 31) (Operand.const (Value.bool false)), type := 4, pos := "segment.go:121", after := #[{ on := 13, ground := Ground.data }, { on := 22, ground := Ground.data }, { on := 9, ground := Ground.guard }], guard := some (9, false) }) (v := ?_) rfl (by kernel_rfl) (by kernel_rfl) (by kernel_rfl) (fun _ _ _ h => h) (Or.inl ⟨by rfl, ?_⟩) (by assumption) ?_
  rotate_left
  · intro w_ hSw
    (try dsimp only at hSw)
    go_simp
    first | done | with_reducible rfl
  try simp only [Act.put, List.setIfInBounds_toArray, List.set_cons_zero, List.set_cons_succ]
  refine wpAnyH_take (i := 24) (oi := { dst := some 33, op := Op.pick (Operand.tmp 18) (Operand.const (Value.bool true)) (Operand.tmp 32), type := 4, pos := "segment.go:121", after := #[{ on := 9, ground := Ground.data }, { on := 23, ground := Ground.data }], guard := none }) (v := ?_) rfl (by kernel_rfl) (by kernel_rfl) (by kernel_rfl) (fun _ _ _ h => h) (Or.inl ⟨by rfl, ?_⟩) (by assumption) ?_
  rotate_left
  · intro w_ hSw
    (try dsimp only at hSw)
    go_simp
    first | done | with_reducible rfl
  try simp only [Act.put, List.setIfInBounds_toArray, List.set_cons_zero, List.set_cons_succ]
  refine wpAnyH_done (by kernel_rfl) ?_ _
  obtain ⟨x0, x1, _⟩ := hHeld
  have hw3 : w.heap.size < w3.heap.size := World.block_lt_of_cell? w3 _ x0
  have R3 := Lib.hid (HR.out.below HB3.out)
  have hqlt : q < l.length := by rw [HQ.out]; exact there_lt HTH.out
  have HV := Lib.hid (show putL l x = l.set q x by rw [putL, if_pos HTH.out, ← HQ.out, List.set_eq_take_append_cons_drop, if_pos hqlt])
  go_wp2_with fail
  refine (at_any _ _ _ _ _ R3.out HS.out).mono ?_
  rintro e w4 ⟨rfl, hd⟩
  rw [← HQ.out, HTH.out]
  have HB4 := Lib.hid (bl_then HB3.out hd)
  have R4 := Lib.hid (R3.out.below hd)
  have y0 := (hd.cell (p := ⟨w.heap.size, 0, none⟩) hw3).trans x0
  have y1 := (hd.cell (p := ⟨w.heap.size, 1, none⟩) hw3).trans x1
  have hw4 : w.heap.size < w4.heap.size := World.block_lt_of_cell? w4 _ y0
  clear hd x0 x1
  go_wp2_with fail
  refine (clone_any _ c _ l _ R4.out rfl (fun h => by cases h)).mono ?_
  rintro e w5 ⟨v5, rfl, ho5, hb5⟩
  obtain ⟨g, cap, rfl⟩ : ∃ g cap : Nat, v5 = .slice (some ⟨g, 0, none⟩) l.length cap := by
    rcases ho5.2 with ⟨_, h0⟩ | ⟨g, cap, cur, hv, _⟩
    · omega
    · exact ⟨g, cap, hv⟩
  have O5 := Lib.hid (ho5.base (show w.heap.size ≤ w4.heap.size by omega))
  have HB5 := Lib.hid (bl_then HB4.out hb5)
  have z0 := (hb5.cell (p := ⟨w.heap.size, 0, none⟩) hw4).trans y0
  have z1 := (hb5.cell (p := ⟨w.heap.size, 1, none⟩) hw4).trans y1
  have hg4 := (ho5.lt g rfl).1
  clear ho5 hb5 y0 y1
  obtain ⟨d0, d1, f0, f1⟩ := O5.out.cells q hqlt
  have hg5 := (O5.out.lt g rfl).2
  have i0 : (0 : Int) ≤ (q : Int) := by omega
  have i1 : (q : Int) < (l.length : Int) := by omega
  go_wp2
  go_ret2
  refine ⟨_, rfl, by rw [HV.out]; exact O5.out.set_ q hqlt x, ?_⟩
  exact bl_of_grown (bl_of_grown HB5.out (grown_set _ g _ _) (fun b hb => by cases hb; omega)) (grown_set _ g _ _) (fun b hb => by cases hb; omega)
set_option maxRecDepth 100000 in
set_option maxHeartbeats 3200000 in
theorem segPut_not1 (A : Option Addr) (c : Nat) (l : List Ent) (x : Ent) (w : World) (hr : Rd w A l) (hc : l.length ≤ c) (hl : l.length ≤ 4398046511000) (h1 : listB l = true) (hx1 : listB [x] = true) (hl0 : 0 < l.length) (hsum : l[0].sum.size = x.sum.size) (HTH : Hid (there l x.key = false)) (HCQ : ¬ c = cut l x.key) :
    Calls Try.prog 33 #[.slice A l.length c, .agg #[.string x.key, .string x.sum]] w fun e w' => ∃ v, e = .returned (.tuple #[v, .int .i64 0]) ∧ Own w' w.heap.size v (putL l x) ∧ Below w.heap.size w w' := by
  have hmax := hr.max
  have HR := Lib.hid hr
  have HRa := Lib.hid (hr.alloc (.cells #[.string x.key, .string x.sum] 53))
  have HB := Lib.hid (bl_alloc (Below.refl w.heap.size w) (.cells #[.string x.key, .string x.sum] 53))
  clear hr
  obtain ⟨i0, hi0, hz0, hz1, hz2⟩ := info_parts entry_info
  have HX := Lib.hid hx1
  have HS := Lib.hid (rises_of_list h1)
  obtain ⟨q, hq⟩ : ∃ q, q = cut l x.key := ⟨_, rfl⟩
  have hql : q ≤ l.length := by rw [hq]; exact cut_le _ _
  have HQ := Lib.hid hq
  clear hx1 hq
  obtain ⟨ad, rfl, c0, c1⟩ := HRa.out.head hl0
  have adlt : ad.block < w.heap.size := by
    obtain ⟨ad', e', c0', _⟩ := HR.out.head hl0
    cases e'
    exact World.block_lt_of_cell? w _ c0'
  have b3 : decide ((0 : Int) < (l.length : Int)) = true := by simp; omega
  have b4 : decide (0 < l.length) = true := by simpa using hl0
  have b5 : (0 : Int) < (l.length : Int) := by omega
  have b1 : ((l[0].sum.size : Int) != (x.sum.size : Int)) = false := by simp; omega
  have b2 : (l[0].sum.size != x.sum.size) = false := by simp; omega
  clear hsum
  rw [← HQ.out] at HCQ
  go_enter Try.func33, Try.ntmps33
  go_wp2
  refine wp_region_held_drew (S := fun w' => w'.cell? ⟨w.heap.size, 0, none⟩ = some (.string x.key) ∧ w'.cell? ⟨w.heap.size, 1, none⟩ = some (.string x.sum) ∧ w'.cell? ⟨ad.block, ad.off + 1, none⟩ = some (.string l[0].sum)) (by kernel_rfl) ?_ (fun hHeld => ?_)
  · simp [*]
  refine wpAnyH_take (i := 0) (oi := { dst := some 9, op := Op.move (Operand.tmp 0), type := 37, pos := "segment.go:121", after := #[], guard := none }) (v := ?_) rfl (by kernel_rfl) (by kernel_rfl) (by kernel_rfl) (fun _ _ _ h => h) (Or.inl ⟨by rfl, ?_⟩) (by assumption) ?_
  rotate_left
  · intro w_ hSw
    (try dsimp only at hSw)
    go_simp
    first | done | with_reducible rfl
  try simp only [Act.put, List.setIfInBounds_toArray, List.set_cons_zero, List.set_cons_succ]
  refine wpAnyH_ready (rs := [1]) (by kernel_rfl) (by simp) ?_
  refine AllReadyH.cons (o := { dst := some 10, op := Op.call { callee := Callee.value (Operand.func 55), args := #[Operand.tmp 9], argTypes := #[37] }, type := 4, pos := "segment.go:121", after := #[{ on := 0, ground := Ground.data }], guard := none }) rfl (fun K hK => ?_) AllReadyH.nil
  go_simp
  refine (segList_any _ _ _ _ ?_).mono ?_
  · exact HRa.out.drew
  rintro e w2 ⟨rfl, hb_⟩
  rw [h1]
  have hs2 : w.heap.size < w2.heap.size := by have := hb_.size; simp at this; omega
  have HB2 := Lib.hid (bl_then (w := w) (by repeat (first | exact HB.out | refine bl_drewN ?_ _ | refine bl_drew ?_ | refine bl_alloc ?_ _)) hb_)
  go_wp2_with fail
  refine hK.out _ _ ?_ (fun hHeld => ?_)
  · exact ⟨(hb_.cell (p := ⟨w.heap.size, 0, none⟩) (by first | (simp; done) | (simp; omega))).trans hHeld.1, (hb_.cell (p := ⟨w.heap.size, 1, none⟩) (by first | (simp; done) | (simp; omega))).trans hHeld.2.1, (hb_.cell (p := ⟨ad.block, ad.off + 1, none⟩) (by simp; omega)).trans hHeld.2.2⟩
  clear hK K
  try simp only [Act.put, List.setIfInBounds_toArray, List.set_cons_zero, List.set_cons_succ]
  refine wpAnyH_take (i := 2) (oi := { dst := some 11, op := Op.unOp UnOp.not 4 (Operand.tmp 10), type := 4, pos := "segment.go:121", after := #[{ on := 1, ground := Ground.data }], guard := none }) (v := ?_) rfl (by kernel_rfl) (by kernel_rfl) (by kernel_rfl) (fun _ _ _ h => h) (Or.inl ⟨by rfl, ?_⟩) (by assumption) ?_
  rotate_left
  · intro w_ hSw
    (try dsimp only at hSw)
    go_simp
    first | done | with_reducible rfl
  try simp only [Act.put, List.setIfInBounds_toArray, List.set_cons_zero, List.set_cons_succ]
  refine wpAnyH_take (i := 3) (oi := { dst := some 12, op := Op.move (Operand.tmp 11), type := 4, pos := "segment.go:121", after := #[{ on := 2, ground := Ground.data }, { on := 1, ground := Ground.chain }], guard := none }) (v := ?_) rfl (by kernel_rfl) (by kernel_rfl) (by kernel_rfl) (fun _ _ _ h => h) (Or.inl ⟨by rfl, ?_⟩) (by assumption) ?_
  rotate_left
  · intro w_ hSw
    (try dsimp only at hSw)
    go_simp
    first | done | with_reducible rfl
  try simp only [Act.put, List.setIfInBounds_toArray, List.set_cons_zero, List.set_cons_succ]
  refine wpAnyH_take (i := 4) (oi := { dst := some 13, op := Op.load 53 (Operand.tmp 3), type := 53, pos := "segment.go:121", after := #[{ on := 3, ground := Ground.guard }], guard := some (3, false) }) (v := ?_) rfl (by kernel_rfl) (by kernel_rfl) (by kernel_rfl) (fun _ _ _ h => h) (Or.inl ⟨by rfl, ?_⟩) (by assumption) ?_
  rotate_left
  · intro w_ hSw
    (try dsimp only at hSw)
    go_simp
    first | done | with_reducible rfl
  try simp only [Act.put, List.setIfInBounds_toArray, List.set_cons_zero, List.set_cons_succ]
  refine wpAnyH_ready (rs := [5]) (by kernel_rfl) (by simp) ?_
  refine AllReadyH.cons (o := { dst := some 14, op := Op.buildSlice 37 1 #[(0, Operand.tmp 13)], type := 37, pos := "segment.go:121", after := #[{ on := 4, ground := Ground.data }, { on := 3, ground := Ground.guard }], guard := some (3, false) }) rfl (fun K hK => ?_) AllReadyH.nil
  go_simp
  skip
  refine hK.out _ _ ?_ (fun hHeld => ?_)
  · simp [*, World.cell?_alloc_some]
  clear hK K
  try simp only [Act.put, List.setIfInBounds_toArray, List.set_cons_zero, List.set_cons_succ]
  refine wpAnyH_ready (rs := [6]) (by kernel_rfl) (by simp) ?_
  refine AllReadyH.cons (o := { dst := some 15, op := Op.call { callee := Callee.value (Operand.func 55), args := #[Operand.tmp 14], argTypes := #[37] }, type := 4, pos := "segment.go:121", after := #[{ on := 5, ground := Ground.data }, { on := 3, ground := Ground.chain }, { on := 3, ground := Ground.guard }], guard := some (3, false) }) rfl (fun K hK => ?_) AllReadyH.nil
  go_simp
  refine (segList_any _ _ [x] _ ?_).mono ?_
  · exact rd_new _ _ (by simp)
  rintro e w3 ⟨rfl, hb_⟩
  rw [HX.out]
  have HB3 := Lib.hid (bl_then (w := w) (by repeat (first | exact HB2.out | refine bl_drewN ?_ _ | refine bl_drew ?_ | refine bl_alloc ?_ _)) hb_)
  go_wp2_with fail
  refine hK.out _ _ ?_ (fun hHeld => ?_)
  · exact ⟨(hb_.cell (p := ⟨w.heap.size, 0, none⟩) (by first | (simp; done) | (simp; omega))).trans hHeld.1, (hb_.cell (p := ⟨w.heap.size, 1, none⟩) (by first | (simp; done) | (simp; omega))).trans hHeld.2.1, (hb_.cell (p := ⟨ad.block, ad.off + 1, none⟩) (by simp; omega)).trans hHeld.2.2⟩
  clear hK K
  try simp only [Act.put, List.setIfInBounds_toArray, List.set_cons_zero, List.set_cons_succ]
  refine wpAnyH_take (i := 7) (oi := { dst := some 16, op := Op.unOp UnOp.not 4 (Operand.tmp 15), type := 4, pos := "segment.go:121", after := #[{ on := 6, ground := Ground.data }, { on := 3, ground := Ground.guard }], guard := some (3, false) }) (v := ?_) rfl (by kernel_rfl) (by kernel_rfl) (by kernel_rfl) (fun _ _ _ h => h) (Or.inl ⟨by rfl, ?_⟩) (by assumption) ?_
  rotate_left
  · intro w_ hSw
    (try dsimp only at hSw)
    go_simp
    first | done | with_reducible rfl
  try simp only [Act.put, List.setIfInBounds_toArray, List.set_cons_zero, List.set_cons_succ]
  refine wpAnyH_take (i := 8) (oi := { dst := some 17, op := Op.pick (Operand.tmp 12) (Operand.const (Value.bool true)) (Operand.tmp 16), type := 4, pos := "segment.go:121", after := #[{ on := 3, ground := Ground.data }, { on := 7, ground := Ground.data }], guard := none }) (v := ?_) rfl (by kernel_rfl) (by kernel_rfl) (by kernel_rfl) (fun _ _ _ h => h) (Or.inl ⟨by rfl, ?_⟩) (by assumption) ?_
  rotate_left
  · intro w_ hSw
    (try dsimp only at hSw)
    go_simp
    first | done | with_reducible rfl
  try simp only [Act.put, List.setIfInBounds_toArray, List.set_cons_zero, List.set_cons_succ]
  refine wpAnyH_take (i := 9) (oi := { dst := some 18, op := Op.move (Operand.tmp 17), type := 4, pos := "segment.go:121", after := #[{ on := 8, ground := Ground.data }, { on := 6, ground := Ground.chain }], guard := none }) (v := ?_) rfl (by kernel_rfl) (by kernel_rfl) (by kernel_rfl) (fun _ _ _ h => h) (Or.inl ⟨by rfl, ?_⟩) (by assumption) ?_
  rotate_left
  · intro w_ hSw
    (try dsimp only at hSw)
    go_simp
    first | done | with_reducible rfl
  try simp only [Act.put, List.setIfInBounds_toArray, List.set_cons_zero, List.set_cons_succ]
  refine wpAnyH_take (i := 10) (oi := { dst := some 19, op := Op.move (Operand.tmp 0), type := 37, pos := "segment.go:121", after := #[{ on := 9, ground := Ground.guard }], guard := some (9, false) }) (v := ?_) rfl (by kernel_rfl) (by kernel_rfl) (by kernel_rfl) (fun _ _ _ h => h) (Or.inl ⟨by rfl, ?_⟩) (by assumption) ?_
  rotate_left
  · intro w_ hSw
    (try dsimp only at hSw)
    go_simp
    first | done | with_reducible rfl
  try simp only [Act.put, List.setIfInBounds_toArray, List.set_cons_zero, List.set_cons_succ]
  refine wpAnyH_take (i := 11) (oi := { dst := some 20, op := Op.call { callee := Callee.builtin Builtin.len, args := #[Operand.tmp 19], argTypes := #[37] }, type := 3, pos := "segment.go:121", after := #[{ on := 10, ground := Ground.data }, { on := 9, ground := Ground.guard }], guard := some (9, false) }) (v := ?_) rfl (by kernel_rfl) (by kernel_rfl) (by kernel_rfl) (fun _ _ _ h => h) (Or.inl ⟨by rfl, ?_⟩) (by assumption) ?_
  rotate_left
  · intro w_ hSw
    (try dsimp only at hSw)
    go_simp
    first | done | with_reducible rfl
  try simp only [Act.put, List.setIfInBounds_toArray, List.set_cons_zero, List.set_cons_succ]
  refine wpAnyH_take (i := 12) (oi := { dst := some 21, op := Op.binOp BinOp.gtr 3 (Operand.tmp 20) (Operand.const (Value.int IntKind.i64 0)) 3, type := 4, pos := "segment.go:121", after := #[{ on := 11, ground := Ground.data }, { on := 9, ground := Ground.guard }], guard := some (9, false) }) (v := ?_) rfl (by kernel_rfl) (by kernel_rfl) (by kernel_rfl) (fun _ _ _ h => h) (Or.inl ⟨by rfl, ?_⟩) (by assumption) ?_
  rotate_left
  · intro w_ hSw
    (try dsimp only at hSw)
    go_simp
    first | done | with_reducible rfl
  try simp only [Act.put, List.setIfInBounds_toArray, List.set_cons_zero, List.set_cons_succ]
  refine wpAnyH_take (i := 13) (oi := { dst := some 22, op := Op.move (Operand.tmp 21), type := 4, pos := "segment.go:121", after := #[{ on := 12, ground := Ground.data }, { on := 9, ground := Ground.chain }, { on := 9, ground := Ground.guard }], guard := some (9, false) }) (v := ?_) rfl (by kernel_rfl) (by kernel_rfl) (by kernel_rfl) (fun _ _ _ h => h) (Or.inl ⟨by rfl, ?_⟩) (by assumption) ?_
  rotate_left
  · intro w_ hSw
    (try dsimp only at hSw)
    go_simp
    first | done | with_reducible rfl
  try simp only [Act.put, List.setIfInBounds_toArray, List.set_cons_zero, List.set_cons_succ]
  refine wpAnyH_take (i := 14) (oi := { dst := some 23, op := Op.move (Operand.tmp 0), type := 37, pos := "segment.go:121", after := #[{ on := 13, ground := Ground.guard }], guard := some (13, true) }) (v := ?_) rfl (by kernel_rfl) (by kernel_rfl) (by kernel_rfl) (fun _ _ _ h => h) (Or.inl ⟨by rfl, ?_⟩) (by assumption) ?_
  rotate_left
  · intro w_ hSw
    (try dsimp only at hSw)
    go_simp
    first | done | with_reducible rfl
  try simp only [Act.put, List.setIfInBounds_toArray, List.set_cons_zero, List.set_cons_succ]
  refine wpAnyH_take (i := 15) (oi := { dst := some 24, op := Op.indexAddr 37 (Operand.tmp 23) (Operand.const (Value.int IntKind.i64 0)), type := 0, pos := "segment.go:121", after := #[{ on := 14, ground := Ground.data }, { on := 13, ground := Ground.guard }], guard := some (13, true) }) (v := ?_) rfl (by kernel_rfl) (by kernel_rfl) (by kernel_rfl) (fun _ _ _ h => h) (Or.inl ⟨by rfl, ?_⟩) (by assumption) ?_
  rotate_left
  · intro w_ hSw
    (try dsimp only at hSw)
    go_simp
    first | done | with_reducible rfl
  try simp only [Act.put, List.setIfInBounds_toArray, List.set_cons_zero, List.set_cons_succ]
  refine wpAnyH_take (i := 16) (oi := { dst := some 25, op := Op.fieldAddr 53 (Operand.tmp 24) 1, type := 0, pos := "segment.go:121", after := #[{ on := 15, ground := Ground.data }, { on := 13, ground := Ground.guard }], guard := some (13, true) }) (v := ?_) rfl (by kernel_rfl) (by kernel_rfl) (by kernel_rfl) (fun _ _ _ h => h) (Or.inl ⟨by rfl, ?_⟩) (by assumption) ?_
  rotate_left
  · intro w_ hSw
    (try dsimp only at hSw)
    go_simp
    first | done | with_reducible rfl
  try simp only [Act.put, List.setIfInBounds_toArray, List.set_cons_zero, List.set_cons_succ]
  refine wpAnyH_take (i := 17) (oi := { dst := some 26, op := Op.load 9 (Operand.tmp 25), type := 9, pos := "segment.go:121", after := #[{ on := 16, ground := Ground.data }, { on := 13, ground := Ground.guard }], guard := some (13, true) }) (v := ?_) rfl (by kernel_rfl) (by kernel_rfl) (by kernel_rfl) (fun _ _ _ h => h) (Or.inl ⟨by rfl, ?_⟩) (by assumption) ?_
  rotate_left
  · intro w_ hSw
    (try dsimp only at hSw)
    go_simp
    first | done | with_reducible rfl
  try simp only [Act.put, List.setIfInBounds_toArray, List.set_cons_zero, List.set_cons_succ]
  refine wpAnyH_take (i := 18) (oi := { dst := some 27, op := Op.call { callee := Callee.builtin Builtin.len, args := #[Operand.tmp 26], argTypes := #[9] }, type := 3, pos := "segment.go:121", after := #[{ on := 17, ground := Ground.data }, { on := 13, ground := Ground.guard }], guard := some (13, true) }) (v := ?_) rfl (by kernel_rfl) (by kernel_rfl) (by kernel_rfl) (fun _ _ _ h => h) (Or.inl ⟨by rfl, ?_⟩) (by assumption) ?_
  rotate_left
  · intro w_ hSw
    (try dsimp only at hSw)
    go_simp
    first | done | with_reducible rfl
  try simp only [Act.put, List.setIfInBounds_toArray, List.set_cons_zero, List.set_cons_succ]
  refine wpAnyH_take (i := 19) (oi := { dst := some 28, op := Op.fieldAddr 53 (Operand.tmp 3) 1, type := 0, pos := "segment.go:121", after := #[{ on := 13, ground := Ground.guard }], guard := some (13, true) }) (v := ?_) rfl (by kernel_rfl) (by kernel_rfl) (by kernel_rfl) (fun _ _ _ h => h) (Or.inl ⟨by rfl, ?_⟩) (by assumption) ?_
  rotate_left
  · intro w_ hSw
    (try dsimp only at hSw)
    go_simp
    first | done | with_reducible rfl
  try simp only [Act.put, List.setIfInBounds_toArray, List.set_cons_zero, List.set_cons_succ]
  refine wpAnyH_take (i := 20) (oi := { dst := some 29, op := Op.load 9 (Operand.tmp 28), type := 9, pos := "segment.go:121", after := #[{ on := 19, ground := Ground.data }, { on := 13, ground := Ground.guard }], guard := some (13, true) }) (v := ?_) rfl (by kernel_rfl) (by kernel_rfl) (by kernel_rfl) (fun _ _ _ h => h) (Or.inl ⟨by rfl, ?_⟩) (by assumption) ?_
  rotate_left
  · intro w_ hSw
    (try dsimp only at hSw)
    go_simp
    first | done | with_reducible rfl
  try simp only [Act.put, List.setIfInBounds_toArray, List.set_cons_zero, List.set_cons_succ]
  refine wpAnyH_take (i := 21) (oi := { dst := some 30, op := Op.call { callee := Callee.builtin Builtin.len, args := #[Operand.tmp 29], argTypes := #[9] }, type := 3, pos := "segment.go:121", after := #[{ on := 20, ground := Ground.data }, { on := 13, ground := Ground.guard }], guard := some (13, true) }) (v := ?_) rfl (by kernel_rfl) (by kernel_rfl) (by kernel_rfl) (fun _ _ _ h => h) (Or.inl ⟨by rfl, ?_⟩) (by assumption) ?_
  rotate_left
  · intro w_ hSw
    (try dsimp only at hSw)
    go_simp
    first | done | with_reducible rfl
  try simp only [Act.put, List.setIfInBounds_toArray, List.set_cons_zero, List.set_cons_succ]
  refine wpAnyH_take (i := 22) (oi := { dst := some 31, op := Op.binOp BinOp.neq 3 (Operand.tmp 27) (Operand.tmp 30) 3, type := 4, pos := "segment.go:121", after := #[{ on := 18, ground := Ground.data }, { on := 21, ground := Ground.data }, { on := 13, ground := Ground.guard }], guard := some (13, true) }) (v := ?_) rfl (by kernel_rfl) (by kernel_rfl) (by kernel_rfl) (fun _ _ _ h => h) (Or.inl ⟨by rfl, ?_⟩) (by assumption) ?_
  rotate_left
  · intro w_ hSw
    (try dsimp only at hSw)
    go_simp
    first | done | with_reducible rfl
  try simp only [Act.put, List.setIfInBounds_toArray, List.set_cons_zero, List.set_cons_succ]
  refine wpAnyH_take (i := 23) (oi := { dst := some 32, op := Op.pick (Operand.tmp 22) (Operand.tmp 31) (Operand.const (Value.bool false)), type := 4, pos := "segment.go:121", after := #[{ on := 13, ground := Ground.data }, { on := 22, ground := Ground.data }, { on := 9, ground := Ground.guard }], guard := some (9, false) }) (v := ?_) rfl (by kernel_rfl) (by kernel_rfl) (by kernel_rfl) (fun _ _ _ h => h) (Or.inl ⟨by rfl, ?_⟩) (by assumption) ?_
  rotate_left
  · intro w_ hSw
    (try dsimp only at hSw)
    go_simp
    first | done | with_reducible rfl
  try simp only [Act.put, List.setIfInBounds_toArray, List.set_cons_zero, List.set_cons_succ]
  refine wpAnyH_take (i := 24) (oi := { dst := some 33, op := Op.pick (Operand.tmp 18) (Operand.const (Value.bool true)) (Operand.tmp 32), type := 4, pos := "segment.go:121", after := #[{ on := 9, ground := Ground.data }, { on := 23, ground := Ground.data }], guard := none }) (v := ?_) rfl (by kernel_rfl) (by kernel_rfl) (by kernel_rfl) (fun _ _ _ h => h) (Or.inl ⟨by rfl, ?_⟩) (by assumption) ?_
  rotate_left
  · intro w_ hSw
    (try dsimp only at hSw)
    go_simp
    first | done | with_reducible rfl
  try simp only [Act.put, List.setIfInBounds_toArray, List.set_cons_zero, List.set_cons_succ]
  refine wpAnyH_done (by kernel_rfl) ?_ _
  obtain ⟨x0, x1, _⟩ := hHeld
  have hw3 : w.heap.size < w3.heap.size := World.block_lt_of_cell? w3 _ x0
  have R3 := Lib.hid (HR.out.below HB3.out)
  have HV := Lib.hid (show putL l x = l.take q ++ ([x] ++ l.drop q) by rw [putL, HTH.out, ← HQ.out]; simp)
  go_wp2_with fail
  refine (at_any _ _ _ _ _ R3.out HS.out).mono ?_
  rintro e w4 ⟨rfl, hd⟩
  rw [← HQ.out, HTH.out]
  have HB4 := Lib.hid (bl_then HB3.out hd)
  have R4 := Lib.hid (R3.out.below hd)
  have y0 := (hd.cell (p := ⟨w.heap.size, 0, none⟩) hw3).trans x0
  have y1 := (hd.cell (p := ⟨w.heap.size, 1, none⟩) hw3).trans x1
  have hw4 : w.heap.size < w4.heap.size := World.block_lt_of_cell? w4 _ y0
  clear hd x0 x1
  have f0 : (0 : Int) ≤ (q : Int) := by omega
  have f1 : (q : Int) ≤ (l.length : Int) := by omega
  have f2 : q ≤ l.length := hql
  have hcq : ¬ c = q := HCQ
  have f6 : (q : Int) ≤ (c : Int) := by omega
  go_wp2_with fail
  go_region_held3 (fun w' => w'.cell? ⟨w.heap.size, 0, none⟩ = some (.string x.key) ∧ w'.cell? ⟨w.heap.size, 1, none⟩ = some (.string x.sum)) (first | go_keep | (exact ⟨(hb6.cell (p := ⟨w.heap.size, 0, none⟩) (by simp; omega)).trans (by simp [*, World.cell?_alloc_some]), (hb6.cell (p := ⟨w.heap.size, 1, none⟩) (by simp; omega)).trans (by simp [*, World.cell?_alloc_some])⟩)) ((go_at_call 62; refine (concat3 ((w4.alloc (.cells #[.string x.key, .string x.sum] 53)).drew) (some ad) (some ⟨w4.heap.size, 0, none⟩) (some (ad.add (q * 2))) _ _ _ _ _ _ _ (l.take q) [x] (l.drop q) (by simp) (by simp <;> omega) (by simp) (by simp <;> omega) (((R4.out.first q).alloc _).drew) (Rd.drew (rd_new _ _ rfl)) (((R4.out.rest q c hc hql _ (fun _ => rfl)).alloc _).drew) (by simp; omega)).mono ?_; rintro e w6 ⟨v6, rfl, ho6, hb6⟩))
  go_wp2
  go_ret2
  exact ⟨_, rfl, by rw [HV.out]; exact ho6.base (by omega), bl_then (w1 := (w4.alloc (.cells #[.string x.key, .string x.sum] 53)).drew) (bl_drew (bl_alloc HB4.out _)) hb6⟩
set_option maxRecDepth 100000 in
set_option maxHeartbeats 3200000 in
theorem segPut_not2 (A : Option Addr) (c : Nat) (l : List Ent) (x : Ent) (w : World) (hr : Rd w A l) (hc : l.length ≤ c) (hl : l.length ≤ 4398046511000) (h1 : listB l = true) (hx1 : listB [x] = true) (hl0 : 0 < l.length) (hsum : l[0].sum.size = x.sum.size) (HTH : Hid (there l x.key = false)) (HCQ : c = cut l x.key) :
    Calls Try.prog 33 #[.slice A l.length c, .agg #[.string x.key, .string x.sum]] w fun e w' => ∃ v, e = .returned (.tuple #[v, .int .i64 0]) ∧ Own w' w.heap.size v (putL l x) ∧ Below w.heap.size w w' := by
  have hmax := hr.max
  have HR := Lib.hid hr
  have HRa := Lib.hid (hr.alloc (.cells #[.string x.key, .string x.sum] 53))
  have HB := Lib.hid (bl_alloc (Below.refl w.heap.size w) (.cells #[.string x.key, .string x.sum] 53))
  clear hr
  obtain ⟨i0, hi0, hz0, hz1, hz2⟩ := info_parts entry_info
  have HX := Lib.hid hx1
  have HS := Lib.hid (rises_of_list h1)
  obtain ⟨q, hq⟩ : ∃ q, q = cut l x.key := ⟨_, rfl⟩
  have hql : q ≤ l.length := by rw [hq]; exact cut_le _ _
  have HQ := Lib.hid hq
  clear hx1 hq
  obtain ⟨ad, rfl, c0, c1⟩ := HRa.out.head hl0
  have adlt : ad.block < w.heap.size := by
    obtain ⟨ad', e', c0', _⟩ := HR.out.head hl0
    cases e'
    exact World.block_lt_of_cell? w _ c0'
  have b3 : decide ((0 : Int) < (l.length : Int)) = true := by simp; omega
  have b4 : decide (0 < l.length) = true := by simpa using hl0
  have b5 : (0 : Int) < (l.length : Int) := by omega
  have b1 : ((l[0].sum.size : Int) != (x.sum.size : Int)) = false := by simp; omega
  have b2 : (l[0].sum.size != x.sum.size) = false := by simp; omega
  clear hsum
  rw [← HQ.out] at HCQ
  go_enter Try.func33, Try.ntmps33
  go_wp2
  refine wp_region_held_drew (S := fun w' => w'.cell? ⟨w.heap.size, 0, none⟩ = some (.string x.key) ∧ w'.cell? ⟨w.heap.size, 1, none⟩ = some (.string x.sum) ∧ w'.cell? ⟨ad.block, ad.off + 1, none⟩ = some (.string l[0].sum)) (by kernel_rfl) ?_ (fun hHeld => ?_)
  · simp [*]
  refine wpAnyH_take (i := 0) (oi := { dst := some 9, op := Op.move (Operand.tmp 0), type := 37, pos := "segment.go:121", after := #[], guard := none }) (v := ?_) rfl (by kernel_rfl) (by kernel_rfl) (by kernel_rfl) (fun _ _ _ h => h) (Or.inl ⟨by rfl, ?_⟩) (by assumption) ?_
  rotate_left
  · intro w_ hSw
    (try dsimp only at hSw)
    go_simp
    first | done | with_reducible rfl
  try simp only [Act.put, List.setIfInBounds_toArray, List.set_cons_zero, List.set_cons_succ]
  refine wpAnyH_ready (rs := [1]) (by kernel_rfl) (by simp) ?_
  refine AllReadyH.cons (o := { dst := some 10, op := Op.call { callee := Callee.value (Operand.func 55), args := #[Operand.tmp 9], argTypes := #[37] }, type := 4, pos := "segment.go:121", after := #[{ on := 0, ground := Ground.data }], guard := none }) rfl (fun K hK => ?_) AllReadyH.nil
  go_simp
  refine (segList_any _ _ _ _ ?_).mono ?_
  · exact HRa.out.drew
  rintro e w2 ⟨rfl, hb_⟩
  rw [h1]
  have hs2 : w.heap.size < w2.heap.size := by have := hb_.size; simp at this; omega
  have HB2 := Lib.hid (bl_then (w := w) (by repeat (first | exact HB.out | refine bl_drewN ?_ _ | refine bl_drew ?_ | refine bl_alloc ?_ _)) hb_)
  go_wp2_with fail
  refine hK.out _ _ ?_ (fun hHeld => ?_)
  · exact ⟨(hb_.cell (p := ⟨w.heap.size, 0, none⟩) (by first | (simp; done) | (simp; omega))).trans hHeld.1, (hb_.cell (p := ⟨w.heap.size, 1, none⟩) (by first | (simp; done) | (simp; omega))).trans hHeld.2.1, (hb_.cell (p := ⟨ad.block, ad.off + 1, none⟩) (by simp; omega)).trans hHeld.2.2⟩
  clear hK K
  try simp only [Act.put, List.setIfInBounds_toArray, List.set_cons_zero, List.set_cons_succ]
  refine wpAnyH_take (i := 2) (oi := { dst := some 11, op := Op.unOp UnOp.not 4 (Operand.tmp 10), type := 4, pos := "segment.go:121", after := #[{ on := 1, ground := Ground.data }], guard := none }) (v := ?_) rfl (by kernel_rfl) (by kernel_rfl) (by kernel_rfl) (fun _ _ _ h => h) (Or.inl ⟨by rfl, ?_⟩) (by assumption) ?_
  rotate_left
  · intro w_ hSw
    (try dsimp only at hSw)
    go_simp
    first | done | with_reducible rfl
  try simp only [Act.put, List.setIfInBounds_toArray, List.set_cons_zero, List.set_cons_succ]
  refine wpAnyH_take (i := 3) (oi := { dst := some 12, op := Op.move (Operand.tmp 11), type := 4, pos := "segment.go:121", after := #[{ on := 2, ground := Ground.data }, { on := 1, ground := Ground.chain }], guard := none }) (v := ?_) rfl (by kernel_rfl) (by kernel_rfl) (by kernel_rfl) (fun _ _ _ h => h) (Or.inl ⟨by rfl, ?_⟩) (by assumption) ?_
  rotate_left
  · intro w_ hSw
    (try dsimp only at hSw)
    go_simp
    first | done | with_reducible rfl
  try simp only [Act.put, List.setIfInBounds_toArray, List.set_cons_zero, List.set_cons_succ]
  refine wpAnyH_take (i := 4) (oi := { dst := some 13, op := Op.load 53 (Operand.tmp 3), type := 53, pos := "segment.go:121", after := #[{ on := 3, ground := Ground.guard }], guard := some (3, false) }) (v := ?_) rfl (by kernel_rfl) (by kernel_rfl) (by kernel_rfl) (fun _ _ _ h => h) (Or.inl ⟨by rfl, ?_⟩) (by assumption) ?_
  rotate_left
  · intro w_ hSw
    (try dsimp only at hSw)
    go_simp
    first | done | with_reducible rfl
  try simp only [Act.put, List.setIfInBounds_toArray, List.set_cons_zero, List.set_cons_succ]
  refine wpAnyH_ready (rs := [5]) (by kernel_rfl) (by simp) ?_
  refine AllReadyH.cons (o := { dst := some 14, op := Op.buildSlice 37 1 #[(0, Operand.tmp 13)], type := 37, pos := "segment.go:121", after := #[{ on := 4, ground := Ground.data }, { on := 3, ground := Ground.guard }], guard := some (3, false) }) rfl (fun K hK => ?_) AllReadyH.nil
  go_simp
  skip
  refine hK.out _ _ ?_ (fun hHeld => ?_)
  · simp [*, World.cell?_alloc_some]
  clear hK K
  try simp only [Act.put, List.setIfInBounds_toArray, List.set_cons_zero, List.set_cons_succ]
  refine wpAnyH_ready (rs := [6]) (by kernel_rfl) (by simp) ?_
  refine AllReadyH.cons (o := { dst := some 15, op := Op.call { callee := Callee.value (Operand.func 55), args := #[Operand.tmp 14], argTypes := #[37] }, type := 4, pos := "segment.go:121", after := #[{ on := 5, ground := Ground.data }, { on := 3, ground := Ground.chain }, { on := 3, ground := Ground.guard }], guard := some (3, false) }) rfl (fun K hK => ?_) AllReadyH.nil
  go_simp
  refine (segList_any _ _ [x] _ ?_).mono ?_
  · exact rd_new _ _ (by simp)
  rintro e w3 ⟨rfl, hb_⟩
  rw [HX.out]
  have HB3 := Lib.hid (bl_then (w := w) (by repeat (first | exact HB2.out | refine bl_drewN ?_ _ | refine bl_drew ?_ | refine bl_alloc ?_ _)) hb_)
  go_wp2_with fail
  refine hK.out _ _ ?_ (fun hHeld => ?_)
  · exact ⟨(hb_.cell (p := ⟨w.heap.size, 0, none⟩) (by first | (simp; done) | (simp; omega))).trans hHeld.1, (hb_.cell (p := ⟨w.heap.size, 1, none⟩) (by first | (simp; done) | (simp; omega))).trans hHeld.2.1, (hb_.cell (p := ⟨ad.block, ad.off + 1, none⟩) (by simp; omega)).trans hHeld.2.2⟩
  clear hK K
  try simp only [Act.put, List.setIfInBounds_toArray, List.set_cons_zero, List.set_cons_succ]
  refine wpAnyH_take (i := 7) (oi := { dst := some 16, op := Op.unOp UnOp.not 4 (Operand.tmp 15), type := 4, pos := "segment.go:121", after := #[{ on := 6, ground := Ground.data }, { on := 3, ground := Ground.guard }], guard := some (3, false) }) (v := ?_) rfl (by kernel_rfl) (by kernel_rfl) (by kernel_rfl) (fun _ _ _ h => h) (Or.inl ⟨by rfl, ?_⟩) (by assumption) ?_
  rotate_left
  · intro w_ hSw
    (try dsimp only at hSw)
    go_simp
    first | done | with_reducible rfl
  try simp only [Act.put, List.setIfInBounds_toArray, List.set_cons_zero, List.set_cons_succ]
  refine wpAnyH_take (i := 8) (oi := { dst := some 17, op := Op.pick (Operand.tmp 12) (Operand.const (Value.bool true)) (Operand.tmp 16), type := 4, pos := "segment.go:121", after := #[{ on := 3, ground := Ground.data }, { on := 7, ground := Ground.data }], guard := none }) (v := ?_) rfl (by kernel_rfl) (by kernel_rfl) (by kernel_rfl) (fun _ _ _ h => h) (Or.inl ⟨by rfl, ?_⟩) (by assumption) ?_
  rotate_left
  · intro w_ hSw
    (try dsimp only at hSw)
    go_simp
    first | done | with_reducible rfl
  try simp only [Act.put, List.setIfInBounds_toArray, List.set_cons_zero, List.set_cons_succ]
  refine wpAnyH_take (i := 9) (oi := { dst := some 18, op := Op.move (Operand.tmp 17), type := 4, pos := "segment.go:121", after := #[{ on := 8, ground := Ground.data }, { on := 6, ground := Ground.chain }], guard := none }) (v := ?_) rfl (by kernel_rfl) (by kernel_rfl) (by kernel_rfl) (fun _ _ _ h => h) (Or.inl ⟨by rfl, ?_⟩) (by assumption) ?_
  rotate_left
  · intro w_ hSw
    (try dsimp only at hSw)
    go_simp
    first | done | with_reducible rfl
  try simp only [Act.put, List.setIfInBounds_toArray, List.set_cons_zero, List.set_cons_succ]
  refine wpAnyH_take (i := 10) (oi := { dst := some 19, op := Op.move (Operand.tmp 0), type := 37, pos := "segment.go:121", after := #[{ on := 9, ground := Ground.guard }], guard := some (9, false) }) (v := ?_) rfl (by kernel_rfl) (by kernel_rfl) (by kernel_rfl) (fun _ _ _ h => h) (Or.inl ⟨by rfl, ?_⟩) (by assumption) ?_
  rotate_left
  · intro w_ hSw
    (try dsimp only at hSw)
    go_simp
    first | done | with_reducible rfl
  try simp only [Act.put, List.setIfInBounds_toArray, List.set_cons_zero, List.set_cons_succ]
  refine wpAnyH_take (i := 11) (oi := { dst := some 20, op := Op.call { callee := Callee.builtin Builtin.len, args := #[Operand.tmp 19], argTypes := #[37] }, type := 3, pos := "segment.go:121", after := #[{ on := 10, ground := Ground.data }, { on := 9, ground := Ground.guard }], guard := some (9, false) }) (v := ?_) rfl (by kernel_rfl) (by kernel_rfl) (by kernel_rfl) (fun _ _ _ h => h) (Or.inl ⟨by rfl, ?_⟩) (by assumption) ?_
  rotate_left
  · intro w_ hSw
    (try dsimp only at hSw)
    go_simp
    first | done | with_reducible rfl
  try simp only [Act.put, List.setIfInBounds_toArray, List.set_cons_zero, List.set_cons_succ]
  refine wpAnyH_take (i := 12) (oi := { dst := some 21, op := Op.binOp BinOp.gtr 3 (Operand.tmp 20) (Operand.const (Value.int IntKind.i64 0)) 3, type := 4, pos := "segment.go:121", after := #[{ on := 11, ground := Ground.data }, { on := 9, ground := Ground.guard }], guard := some (9, false) }) (v := ?_) rfl (by kernel_rfl) (by kernel_rfl) (by kernel_rfl) (fun _ _ _ h => h) (Or.inl ⟨by rfl, ?_⟩) (by assumption) ?_
  rotate_left
  · intro w_ hSw
    (try dsimp only at hSw)
    go_simp
    first | done | with_reducible rfl
  try simp only [Act.put, List.setIfInBounds_toArray, List.set_cons_zero, List.set_cons_succ]
  refine wpAnyH_take (i := 13) (oi := { dst := some 22, op := Op.move (Operand.tmp 21), type := 4, pos := "segment.go:121", after := #[{ on := 12, ground := Ground.data }, { on := 9, ground := Ground.chain }, { on := 9, ground := Ground.guard }], guard := some (9, false) }) (v := ?_) rfl (by kernel_rfl) (by kernel_rfl) (by kernel_rfl) (fun _ _ _ h => h) (Or.inl ⟨by rfl, ?_⟩) (by assumption) ?_
  rotate_left
  · intro w_ hSw
    (try dsimp only at hSw)
    go_simp
    first | done | with_reducible rfl
  try simp only [Act.put, List.setIfInBounds_toArray, List.set_cons_zero, List.set_cons_succ]
  refine wpAnyH_take (i := 14) (oi := { dst := some 23, op := Op.move (Operand.tmp 0), type := 37, pos := "segment.go:121", after := #[{ on := 13, ground := Ground.guard }], guard := some (13, true) }) (v := ?_) rfl (by kernel_rfl) (by kernel_rfl) (by kernel_rfl) (fun _ _ _ h => h) (Or.inl ⟨by rfl, ?_⟩) (by assumption) ?_
  rotate_left
  · intro w_ hSw
    (try dsimp only at hSw)
    go_simp
    first | done | with_reducible rfl
  try simp only [Act.put, List.setIfInBounds_toArray, List.set_cons_zero, List.set_cons_succ]
  refine wpAnyH_take (i := 15) (oi := { dst := some 24, op := Op.indexAddr 37 (Operand.tmp 23) (Operand.const (Value.int IntKind.i64 0)), type := 0, pos := "segment.go:121", after := #[{ on := 14, ground := Ground.data }, { on := 13, ground := Ground.guard }], guard := some (13, true) }) (v := ?_) rfl (by kernel_rfl) (by kernel_rfl) (by kernel_rfl) (fun _ _ _ h => h) (Or.inl ⟨by rfl, ?_⟩) (by assumption) ?_
  rotate_left
  · intro w_ hSw
    (try dsimp only at hSw)
    go_simp
    first | done | with_reducible rfl
  try simp only [Act.put, List.setIfInBounds_toArray, List.set_cons_zero, List.set_cons_succ]
  refine wpAnyH_take (i := 16) (oi := { dst := some 25, op := Op.fieldAddr 53 (Operand.tmp 24) 1, type := 0, pos := "segment.go:121", after := #[{ on := 15, ground := Ground.data }, { on := 13, ground := Ground.guard }], guard := some (13, true) }) (v := ?_) rfl (by kernel_rfl) (by kernel_rfl) (by kernel_rfl) (fun _ _ _ h => h) (Or.inl ⟨by rfl, ?_⟩) (by assumption) ?_
  rotate_left
  · intro w_ hSw
    (try dsimp only at hSw)
    go_simp
    first | done | with_reducible rfl
  try simp only [Act.put, List.setIfInBounds_toArray, List.set_cons_zero, List.set_cons_succ]
  refine wpAnyH_take (i := 17) (oi := { dst := some 26, op := Op.load 9 (Operand.tmp 25), type := 9, pos := "segment.go:121", after := #[{ on := 16, ground := Ground.data }, { on := 13, ground := Ground.guard }], guard := some (13, true) }) (v := ?_) rfl (by kernel_rfl) (by kernel_rfl) (by kernel_rfl) (fun _ _ _ h => h) (Or.inl ⟨by rfl, ?_⟩) (by assumption) ?_
  rotate_left
  · intro w_ hSw
    (try dsimp only at hSw)
    go_simp
    first | done | with_reducible rfl
  try simp only [Act.put, List.setIfInBounds_toArray, List.set_cons_zero, List.set_cons_succ]
  refine wpAnyH_take (i := 18) (oi := { dst := some 27, op := Op.call { callee := Callee.builtin Builtin.len, args := #[Operand.tmp 26], argTypes := #[9] }, type := 3, pos := "segment.go:121", after := #[{ on := 17, ground := Ground.data }, { on := 13, ground := Ground.guard }], guard := some (13, true) }) (v := ?_) rfl (by kernel_rfl) (by kernel_rfl) (by kernel_rfl) (fun _ _ _ h => h) (Or.inl ⟨by rfl, ?_⟩) (by assumption) ?_
  rotate_left
  · intro w_ hSw
    (try dsimp only at hSw)
    go_simp
    first | done | with_reducible rfl
  try simp only [Act.put, List.setIfInBounds_toArray, List.set_cons_zero, List.set_cons_succ]
  refine wpAnyH_take (i := 19) (oi := { dst := some 28, op := Op.fieldAddr 53 (Operand.tmp 3) 1, type := 0, pos := "segment.go:121", after := #[{ on := 13, ground := Ground.guard }], guard := some (13, true) }) (v := ?_) rfl (by kernel_rfl) (by kernel_rfl) (by kernel_rfl) (fun _ _ _ h => h) (Or.inl ⟨by rfl, ?_⟩) (by assumption) ?_
  rotate_left
  · intro w_ hSw
    (try dsimp only at hSw)
    go_simp
    first | done | with_reducible rfl
  try simp only [Act.put, List.setIfInBounds_toArray, List.set_cons_zero, List.set_cons_succ]
  refine wpAnyH_take (i := 20) (oi := { dst := some 29, op := Op.load 9 (Operand.tmp 28), type := 9, pos := "segment.go:121", after := #[{ on := 19, ground := Ground.data }, { on := 13, ground := Ground.guard }], guard := some (13, true) }) (v := ?_) rfl (by kernel_rfl) (by kernel_rfl) (by kernel_rfl) (fun _ _ _ h => h) (Or.inl ⟨by rfl, ?_⟩) (by assumption) ?_
  rotate_left
  · intro w_ hSw
    (try dsimp only at hSw)
    go_simp
    first | done | with_reducible rfl
  try simp only [Act.put, List.setIfInBounds_toArray, List.set_cons_zero, List.set_cons_succ]
  refine wpAnyH_take (i := 21) (oi := { dst := some 30, op := Op.call { callee := Callee.builtin Builtin.len, args := #[Operand.tmp 29], argTypes := #[9] }, type := 3, pos := "segment.go:121", after := #[{ on := 20, ground := Ground.data }, { on := 13, ground := Ground.guard }], guard := some (13, true) }) (v := ?_) rfl (by kernel_rfl) (by kernel_rfl) (by kernel_rfl) (fun _ _ _ h => h) (Or.inl ⟨by rfl, ?_⟩) (by assumption) ?_
  rotate_left
  · intro w_ hSw
    (try dsimp only at hSw)
    go_simp
    first | done | with_reducible rfl
  try simp only [Act.put, List.setIfInBounds_toArray, List.set_cons_zero, List.set_cons_succ]
  refine wpAnyH_take (i := 22) (oi := { dst := some 31, op := Op.binOp BinOp.neq 3 (Operand.tmp 27) (Operand.tmp 30) 3, type := 4, pos := "segment.go:121", after := #[{ on := 18, ground := Ground.data }, { on := 21, ground := Ground.data }, { on := 13, ground := Ground.guard }], guard := some (13, true) }) (v := ?_) rfl (by kernel_rfl) (by kernel_rfl) (by kernel_rfl) (fun _ _ _ h => h) (Or.inl ⟨by rfl, ?_⟩) (by assumption) ?_
  rotate_left
  · intro w_ hSw
    (try dsimp only at hSw)
    go_simp
    first | done | with_reducible rfl
  try simp only [Act.put, List.setIfInBounds_toArray, List.set_cons_zero, List.set_cons_succ]
  refine wpAnyH_take (i := 23) (oi := { dst := some 32, op := Op.pick (Operand.tmp 22) (Operand.tmp 31) (Operand.const (Value.bool false)), type := 4, pos := "segment.go:121", after := #[{ on := 13, ground := Ground.data }, { on := 22, ground := Ground.data }, { on := 9, ground := Ground.guard }], guard := some (9, false) }) (v := ?_) rfl (by kernel_rfl) (by kernel_rfl) (by kernel_rfl) (fun _ _ _ h => h) (Or.inl ⟨by rfl, ?_⟩) (by assumption) ?_
  rotate_left
  · intro w_ hSw
    (try dsimp only at hSw)
    go_simp
    first | done | with_reducible rfl
  try simp only [Act.put, List.setIfInBounds_toArray, List.set_cons_zero, List.set_cons_succ]
  refine wpAnyH_take (i := 24) (oi := { dst := some 33, op := Op.pick (Operand.tmp 18) (Operand.const (Value.bool true)) (Operand.tmp 32), type := 4, pos := "segment.go:121", after := #[{ on := 9, ground := Ground.data }, { on := 23, ground := Ground.data }], guard := none }) (v := ?_) rfl (by kernel_rfl) (by kernel_rfl) (by kernel_rfl) (fun _ _ _ h => h) (Or.inl ⟨by rfl, ?_⟩) (by assumption) ?_
  rotate_left
  · intro w_ hSw
    (try dsimp only at hSw)
    go_simp
    first | done | with_reducible rfl
  try simp only [Act.put, List.setIfInBounds_toArray, List.set_cons_zero, List.set_cons_succ]
  refine wpAnyH_done (by kernel_rfl) ?_ _
  obtain ⟨x0, x1, _⟩ := hHeld
  have hw3 : w.heap.size < w3.heap.size := World.block_lt_of_cell? w3 _ x0
  have R3 := Lib.hid (HR.out.below HB3.out)
  have HV := Lib.hid (show putL l x = l.take q ++ ([x] ++ l.drop q) by rw [putL, HTH.out, ← HQ.out]; simp)
  go_wp2_with fail
  refine (at_any _ _ _ _ _ R3.out HS.out).mono ?_
  rintro e w4 ⟨rfl, hd⟩
  rw [← HQ.out, HTH.out]
  have HB4 := Lib.hid (bl_then HB3.out hd)
  have R4 := Lib.hid (R3.out.below hd)
  have y0 := (hd.cell (p := ⟨w.heap.size, 0, none⟩) hw3).trans x0
  have y1 := (hd.cell (p := ⟨w.heap.size, 1, none⟩) hw3).trans x1
  have hw4 : w.heap.size < w4.heap.size := World.block_lt_of_cell? w4 _ y0
  clear hd x0 x1
  have f0 : (0 : Int) ≤ (q : Int) := by omega
  have f1 : (q : Int) ≤ (l.length : Int) := by omega
  have f2 : q ≤ l.length := hql
  have HCQ2 : q = c := HCQ.symm
  subst HCQ2
  have f6 : (q : Int) ≤ (q : Int) := by omega
  go_wp2_with fail
  go_region_held3 (fun w' => w'.cell? ⟨w.heap.size, 0, none⟩ = some (.string x.key) ∧ w'.cell? ⟨w.heap.size, 1, none⟩ = some (.string x.sum)) (first | go_keep | (exact ⟨(hb6.cell (p := ⟨w.heap.size, 0, none⟩) (by simp; omega)).trans (by simp [*, World.cell?_alloc_some]), (hb6.cell (p := ⟨w.heap.size, 1, none⟩) (by simp; omega)).trans (by simp [*, World.cell?_alloc_some])⟩)) ((go_at_call 62; refine (concat3 ((w4.alloc (.cells #[.string x.key, .string x.sum] 53)).drew) (some ad) (some ⟨w4.heap.size, 0, none⟩) (some ad) _ _ _ _ _ _ _ (l.take q) [x] (l.drop q) (by simp) (by simp <;> omega) (by simp) (by simp <;> omega) (((R4.out.first q).alloc _).drew) (Rd.drew (rd_new _ _ rfl)) (((R4.out.rest q q hc hql _ (fun h => absurd h (Nat.lt_irrefl _))).alloc _).drew) (by simp; omega)).mono ?_; rintro e w6 ⟨v6, rfl, ho6, hb6⟩))
  go_wp2
  go_ret2
  exact ⟨_, rfl, by rw [HV.out]; exact ho6.base (by omega), bl_then (w1 := (w4.alloc (.cells #[.string x.key, .string x.sum] 53)).drew) (bl_drew (bl_alloc HB4.out _)) hb6⟩
end Go.Proofs.Ytejodabmddcanaa
