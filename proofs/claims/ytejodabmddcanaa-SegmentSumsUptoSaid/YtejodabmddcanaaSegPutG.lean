/- DERIVED. Put: the document's text, a put that is taken. -/
import Derived.Test.YtejodabmddcanaaSegPutR
namespace Go.Proofs.Ytejodabmddcanaa
open Go.RowKit

/-- The document's Put, so far come. -/
def acc (l : List Ent) (x : Ent) (q s k : Nat) : List Ent := if k ≤ q then l.take k else l.take q ++ x :: (l.take k).drop s
theorem acc_lo {l : List Ent} {x : Ent} {q s k : Nat} (h : k ≤ q) : acc l x q s k = l.take k := by simp [acc, h]
theorem acc_hi {l : List Ent} {x : Ent} {q s k : Nat} (h : q < k) : acc l x q s k = l.take q ++ x :: (l.take k).drop s := by simp [acc, show ¬ k ≤ q by omega]
theorem acc_len (l : List Ent) (x : Ent) (q s k : Nat) (hqs : q ≤ s) : (acc l x q s k).length ≤ l.length + 1 := by
  unfold acc
  split
  · simp; omega
  · simp; omega
set_option maxRecDepth 100000 in
set_option maxHeartbeats 3200000 in
theorem refPut_goodN (A : Option Addr) (c : Nat) (l : List Ent) (x : Ent) (w : World) (hr : Rd w A l) (hl : l.length ≤ 4398046511000) (h1 : listB l = true) (hx1 : listB [x] = true) (hl0 : 0 < l.length) (hsum : l[0].sum.size = x.sum.size) :
    Calls Try.prog 32 #[.slice A l.length c, .agg #[.string x.key, .string x.sum]] w fun e w' => ∃ v, e = .returned (.tuple #[v, .int .i64 0]) ∧ Own w' w.heap.size v (putL l x) ∧ Below w.heap.size w w' := by
  have hmax := hr.max
  have HR := Lib.hid hr
  have HRa := Lib.hid (hr.alloc (.cells #[.string x.key, .string x.sum] 53))
  have HB := Lib.hid (bl_alloc (Below.refl w.heap.size w) (.cells #[.string x.key, .string x.sum] 53))
  clear hr
  obtain ⟨i0, hi0, hz0, hz1, hz2⟩ := info_parts entry_info
  have HX := Lib.hid hx1
  have HS := Lib.hid (rises_of_list h1)
  have HBX := Lib.hid (Blk.new w 53 #[.string x.key, .string x.sum])
  obtain ⟨q, hq⟩ : ∃ q, q = cut l x.key := ⟨_, rfl⟩
  obtain ⟨s, hs⟩ : ∃ s, s = (if there l x.key then q + 1 else q) := ⟨_, rfl⟩
  have hql : q ≤ l.length := by rw [hq]; exact cut_le _ _
  have HQ := Lib.hid hq
  have HSS := Lib.hid hs
  clear hx1 hq hs
  obtain ⟨ad, rfl, c0, c1⟩ := HRa.out.head hl0
  have b3 : decide ((0 : Int) < (l.length : Int)) = true := by simp; omega
  have b4 : decide (0 < l.length) = true := by simpa using hl0
  have b5 : (0 : Int) < (l.length : Int) := by omega
  have b1 : ((x.sum.size : Int) != (l[0].sum.size : Int)) = false := by simp; omega
  have b2 : (x.sum.size != l[0].sum.size) = false := by simp; omega
  clear hsum
  go_enter Try.func32, Try.ntmps32
  go_wp2
  refine wp_region_held_drew (S := fun w' => w'.cell? ⟨w.heap.size, 0, none⟩ = some (.string x.key) ∧ w'.cell? ⟨w.heap.size, 1, none⟩ = some (.string x.sum) ∧ w'.cell? ⟨ad.block, ad.off + 1, none⟩ = some (.string l[0].sum)) (by kernel_rfl) ?_ (fun hHeld => ?_)
  · simp [*]
  refine wpAnyH_take (i := 0) (oi := { dst := some 9, op := Op.move (Operand.tmp 0), type := 37, pos := "ref.go:133", after := #[], guard := none }) (v := ?_) rfl (by kernel_rfl) (by kernel_rfl) (by kernel_rfl) (fun _ _ _ h => h) (Or.inl ⟨by rfl, ?_⟩) (by assumption) ?_
  rotate_left
  · intro w_ hSw
    (try dsimp only at hSw)
    go_simp
    first | done | with_reducible rfl
  try simp only [Act.put, List.setIfInBounds_toArray, List.set_cons_zero, List.set_cons_succ]
  refine wpAnyH_ready (rs := [1]) (by kernel_rfl) (by simp) ?_
  refine AllReadyH.cons (o := { dst := some 10, op := Op.call { callee := Callee.value (Operand.func 41), args := #[Operand.tmp 9], argTypes := #[37] }, type := 4, pos := "ref.go:133", after := #[{ on := 0, ground := Ground.data }], guard := none }) rfl (fun K hK => ?_) AllReadyH.nil
  go_simp
  refine (refList_any _ _ _ _ ?_).mono ?_
  · exact HRa.out.drew
  rintro e w2 ⟨rfl, n, rfl⟩
  rw [h1]
  go_wp2_with fail
  refine hK.out _ _ ?_ (fun hHeld => ?_)
  · simp [*]
  clear hK K
  try simp only [Act.put, List.setIfInBounds_toArray, List.set_cons_zero, List.set_cons_succ]
  refine wpAnyH_take (i := 2) (oi := { dst := some 11, op := Op.unOp UnOp.not 4 (Operand.tmp 10), type := 4, pos := "ref.go:133", after := #[{ on := 1, ground := Ground.data }], guard := none }) (v := ?_) rfl (by kernel_rfl) (by kernel_rfl) (by kernel_rfl) (fun _ _ _ h => h) (Or.inl ⟨by rfl, ?_⟩) (by assumption) ?_
  rotate_left
  · intro w_ hSw
    (try dsimp only at hSw)
    go_simp
    first | done | with_reducible rfl
  try simp only [Act.put, List.setIfInBounds_toArray, List.set_cons_zero, List.set_cons_succ]
  refine wpAnyH_take (i := 3) (oi := { dst := some 12, op := Op.move (Operand.tmp 11), type := 4, pos := "ref.go:133", after := #[{ on := 2, ground := Ground.data }, { on := 1, ground := Ground.chain }], guard := none }) (v := ?_) rfl (by kernel_rfl) (by kernel_rfl) (by kernel_rfl) (fun _ _ _ h => h) (Or.inl ⟨by rfl, ?_⟩) (by assumption) ?_
  rotate_left
  · intro w_ hSw
    (try dsimp only at hSw)
    go_simp
    first | done | with_reducible rfl
  try simp only [Act.put, List.setIfInBounds_toArray, List.set_cons_zero, List.set_cons_succ]
  refine wpAnyH_take (i := 4) (oi := { dst := some 13, op := Op.load 53 (Operand.tmp 3), type := 53, pos := "ref.go:133", after := #[{ on := 3, ground := Ground.guard }], guard := some (3, false) }) (v := ?_) rfl (by kernel_rfl) (by kernel_rfl) (by kernel_rfl) (fun _ _ _ h => h) (Or.inl ⟨by rfl, ?_⟩) (by assumption) ?_
  rotate_left
  · intro w_ hSw
    (try dsimp only at hSw)
    go_simp
    first | done | with_reducible rfl
  try simp only [Act.put, List.setIfInBounds_toArray, List.set_cons_zero, List.set_cons_succ]
  refine wpAnyH_ready (rs := [5]) (by kernel_rfl) (by simp) ?_
  refine AllReadyH.cons (o := { dst := some 14, op := Op.buildSlice 37 1 #[(0, Operand.tmp 13)], type := 37, pos := "ref.go:133", after := #[{ on := 4, ground := Ground.data }, { on := 3, ground := Ground.guard }], guard := some (3, false) }) rfl (fun K hK => ?_) AllReadyH.nil
  go_simp
  skip
  refine hK.out _ _ ?_ (fun hHeld => ?_)
  · simp [*, World.cell?_alloc_some]
  clear hK K
  try simp only [Act.put, List.setIfInBounds_toArray, List.set_cons_zero, List.set_cons_succ]
  refine wpAnyH_ready (rs := [6]) (by kernel_rfl) (by simp) ?_
  refine AllReadyH.cons (o := { dst := some 15, op := Op.call { callee := Callee.value (Operand.func 41), args := #[Operand.tmp 14], argTypes := #[37] }, type := 4, pos := "ref.go:133", after := #[{ on := 5, ground := Ground.data }, { on := 3, ground := Ground.chain }, { on := 3, ground := Ground.guard }], guard := some (3, false) }) rfl (fun K hK => ?_) AllReadyH.nil
  go_simp
  refine (refList_any _ _ [x] _ ?_).mono ?_
  · exact rd_new _ _ (by simp)
  rintro e w2 ⟨rfl, n, rfl⟩
  rw [HX.out]
  go_wp2_with fail
  refine hK.out _ _ ?_ (fun hHeld => ?_)
  · simp [*]
  clear hK K
  try simp only [Act.put, List.setIfInBounds_toArray, List.set_cons_zero, List.set_cons_succ]
  refine wpAnyH_take (i := 7) (oi := { dst := some 16, op := Op.unOp UnOp.not 4 (Operand.tmp 15), type := 4, pos := "ref.go:133", after := #[{ on := 6, ground := Ground.data }, { on := 3, ground := Ground.guard }], guard := some (3, false) }) (v := ?_) rfl (by kernel_rfl) (by kernel_rfl) (by kernel_rfl) (fun _ _ _ h => h) (Or.inl ⟨by rfl, ?_⟩) (by assumption) ?_
  rotate_left
  · intro w_ hSw
    (try dsimp only at hSw)
    go_simp
    first | done | with_reducible rfl
  try simp only [Act.put, List.setIfInBounds_toArray, List.set_cons_zero, List.set_cons_succ]
  refine wpAnyH_take (i := 8) (oi := { dst := some 17, op := Op.pick (Operand.tmp 12) (Operand.const (Value.bool true)) (Operand.tmp 16), type := 4, pos := "ref.go:133", after := #[{ on := 3, ground := Ground.data }, { on := 7, ground := Ground.data }], guard := none }) (v := ?_) rfl (by kernel_rfl) (by kernel_rfl) (by kernel_rfl) (fun _ _ _ h => h) (Or.inl ⟨by rfl, ?_⟩) (by assumption) ?_
  rotate_left
  · intro w_ hSw
    (try dsimp only at hSw)
    go_simp
    first | done | with_reducible rfl
  try simp only [Act.put, List.setIfInBounds_toArray, List.set_cons_zero, List.set_cons_succ]
  refine wpAnyH_take (i := 9) (oi := { dst := some 18, op := Op.move (Operand.tmp 17), type := 4, pos := "ref.go:133", after := #[{ on := 8, ground := Ground.data }, { on := 6, ground := Ground.chain }], guard := none }) (v := ?_) rfl (by kernel_rfl) (by kernel_rfl) (by kernel_rfl) (fun _ _ _ h => h) (Or.inl ⟨by rfl, ?_⟩) (by assumption) ?_
  rotate_left
  · intro w_ hSw
    (try dsimp only at hSw)
    go_simp
    first | done | with_reducible rfl
  try simp only [Act.put, List.setIfInBounds_toArray, List.set_cons_zero, List.set_cons_succ]
  refine wpAnyH_take (i := 10) (oi := { dst := some 19, op := Op.move (Operand.tmp 0), type := 37, pos := "ref.go:133", after := #[{ on := 9, ground := Ground.guard }], guard := some (9, false) }) (v := ?_) rfl (by kernel_rfl) (by kernel_rfl) (by kernel_rfl) (fun _ _ _ h => h) (Or.inl ⟨by rfl, ?_⟩) (by assumption) ?_
  rotate_left
  · intro w_ hSw
    (try dsimp only at hSw)
    go_simp
    first | done | with_reducible rfl
  try simp only [Act.put, List.setIfInBounds_toArray, List.set_cons_zero, List.set_cons_succ]
  refine wpAnyH_take (i := 11) (oi := { dst := some 20, op := Op.call { callee := Callee.builtin Builtin.len, args := #[Operand.tmp 19], argTypes := #[37] }, type := 3, pos := "ref.go:133", after := #[{ on := 10, ground := Ground.data }, { on := 9, ground := Ground.guard }], guard := some (9, false) }) (v := ?_) rfl (by kernel_rfl) (by kernel_rfl) (by kernel_rfl) (fun _ _ _ h => h) (Or.inl ⟨by rfl, ?_⟩) (by assumption) ?_
  rotate_left
  · intro w_ hSw
    (try dsimp only at hSw)
    go_simp
    first | done | with_reducible rfl
  try simp only [Act.put, List.setIfInBounds_toArray, List.set_cons_zero, List.set_cons_succ]
  refine wpAnyH_take (i := 12) (oi := { dst := some 21, op := Op.binOp BinOp.gtr 3 (Operand.tmp 20) (Operand.const (Value.int IntKind.i64 0)) 3, type := 4, pos := "ref.go:133", after := #[{ on := 11, ground := Ground.data }, { on := 9, ground := Ground.guard }], guard := some (9, false) }) (v := ?_) rfl (by kernel_rfl) (by kernel_rfl) (by kernel_rfl) (fun _ _ _ h => h) (Or.inl ⟨by rfl, ?_⟩) (by assumption) ?_
  rotate_left
  · intro w_ hSw
    (try dsimp only at hSw)
    go_simp
    first | done | with_reducible rfl
  try simp only [Act.put, List.setIfInBounds_toArray, List.set_cons_zero, List.set_cons_succ]
  refine wpAnyH_take (i := 13) (oi := { dst := some 22, op := Op.move (Operand.tmp 21), type := 4, pos := "ref.go:133", after := #[{ on := 12, ground := Ground.data }, { on := 9, ground := Ground.chain }, { on := 9, ground := Ground.guard }], guard := some (9, false) }) (v := ?_) rfl (by kernel_rfl) (by kernel_rfl) (by kernel_rfl) (fun _ _ _ h => h) (Or.inl ⟨by rfl, ?_⟩) (by assumption) ?_
  rotate_left
  · intro w_ hSw
    (try dsimp only at hSw)
    go_simp
    first | done | with_reducible rfl
  try simp only [Act.put, List.setIfInBounds_toArray, List.set_cons_zero, List.set_cons_succ]
  refine wpAnyH_take (i := 14) (oi := { dst := some 23, op := Op.fieldAddr 53 (Operand.tmp 3) 1, type := 0, pos := "ref.go:133", after := #[{ on := 13, ground := Ground.guard }], guard := some (13, true) }) (v := ?_) rfl (by kernel_rfl) (by kernel_rfl) (by kernel_rfl) (fun _ _ _ h => h) (Or.inl ⟨by rfl, ?_⟩) (by assumption) ?_
  rotate_left
  · intro w_ hSw
    (try dsimp only at hSw)
    go_simp
    first | done | with_reducible rfl
  try simp only [Act.put, List.setIfInBounds_toArray, List.set_cons_zero, List.set_cons_succ]
  refine wpAnyH_take (i := 15) (oi := { dst := some 24, op := Op.load 9 (Operand.tmp 23), type := 9, pos := "ref.go:133", after := #[{ on := 14, ground := Ground.data }, { on := 13, ground := Ground.guard }], guard := some (13, true) }) (v := ?_) rfl (by kernel_rfl) (by kernel_rfl) (by kernel_rfl) (fun _ _ _ h => h) (Or.inl ⟨by rfl, ?_⟩) (by assumption) ?_
  rotate_left
  · intro w_ hSw
    (try dsimp only at hSw)
    go_simp
    first | done | with_reducible rfl
  try simp only [Act.put, List.setIfInBounds_toArray, List.set_cons_zero, List.set_cons_succ]
  refine wpAnyH_take (i := 16) (oi := { dst := some 25, op := Op.call { callee := Callee.builtin Builtin.len, args := #[Operand.tmp 24], argTypes := #[9] }, type := 3, pos := "ref.go:133", after := #[{ on := 15, ground := Ground.data }, { on := 13, ground := Ground.guard }], guard := some (13, true) }) (v := ?_) rfl (by kernel_rfl) (by kernel_rfl) (by kernel_rfl) (fun _ _ _ h => h) (Or.inl ⟨by rfl, ?_⟩) (by assumption) ?_
  rotate_left
  · intro w_ hSw
    (try dsimp only at hSw)
    go_simp
    first | done | with_reducible rfl
  try simp only [Act.put, List.setIfInBounds_toArray, List.set_cons_zero, List.set_cons_succ]
  refine wpAnyH_take (i := 17) (oi := { dst := some 26, op := Op.move (Operand.tmp 0), type := 37, pos := "ref.go:133", after := #[{ on := 13, ground := Ground.guard }], guard := some (13, true) }) (v := ?_) rfl (by kernel_rfl) (by kernel_rfl) (by kernel_rfl) (fun _ _ _ h => h) (Or.inl ⟨by rfl, ?_⟩) (by assumption) ?_
  rotate_left
  · intro w_ hSw
    (try dsimp only at hSw)
    go_simp
    first | done | with_reducible rfl
  try simp only [Act.put, List.setIfInBounds_toArray, List.set_cons_zero, List.set_cons_succ]
  refine wpAnyH_take (i := 18) (oi := { dst := some 27, op := Op.indexAddr 37 (Operand.tmp 26) (Operand.const (Value.int IntKind.i64 0)), type := 0, pos := "ref.go:133", after := #[{ on := 17, ground := Ground.data }, { on := 13, ground := Ground.guard }], guard := some (13, true) }) (v := ?_) rfl (by kernel_rfl) (by kernel_rfl) (by kernel_rfl) (fun _ _ _ h => h) (Or.inl ⟨by rfl, ?_⟩) (by assumption) ?_
  rotate_left
  · intro w_ hSw
    (try dsimp only at hSw)
    go_simp
    first | done | with_reducible rfl
  try simp only [Act.put, List.setIfInBounds_toArray, List.set_cons_zero, List.set_cons_succ]
  refine wpAnyH_take (i := 19) (oi := { dst := some 28, op := Op.fieldAddr 53 (Operand.tmp 27) 1, type := 0, pos := "ref.go:133", after := #[{ on := 18, ground := Ground.data }, { on := 13, ground := Ground.guard }], guard := some (13, true) }) (v := ?_) rfl (by kernel_rfl) (by kernel_rfl) (by kernel_rfl) (fun _ _ _ h => h) (Or.inl ⟨by rfl, ?_⟩) (by assumption) ?_
  rotate_left
  · intro w_ hSw
    (try dsimp only at hSw)
    go_simp
    first | done | with_reducible rfl
  try simp only [Act.put, List.setIfInBounds_toArray, List.set_cons_zero, List.set_cons_succ]
  refine wpAnyH_take (i := 20) (oi := { dst := some 29, op := Op.load 9 (Operand.tmp 28), type := 9, pos := "ref.go:133", after := #[{ on := 19, ground := Ground.data }, { on := 13, ground := Ground.guard }], guard := some (13, true) }) (v := ?_) rfl (by kernel_rfl) (by kernel_rfl) (by kernel_rfl) (fun _ _ _ h => h) (Or.inl ⟨by rfl, ?_⟩) (by assumption) ?_
  rotate_left
  · intro w_ hSw
    (try dsimp only at hSw)
    go_simp
    first | done | with_reducible rfl
  try simp only [Act.put, List.setIfInBounds_toArray, List.set_cons_zero, List.set_cons_succ]
  refine wpAnyH_take (i := 21) (oi := { dst := some 30, op := Op.call { callee := Callee.builtin Builtin.len, args := #[Operand.tmp 29], argTypes := #[9] }, type := 3, pos := "ref.go:133", after := #[{ on := 20, ground := Ground.data }, { on := 13, ground := Ground.guard }], guard := some (13, true) }) (v := ?_) rfl (by kernel_rfl) (by kernel_rfl) (by kernel_rfl) (fun _ _ _ h => h) (Or.inl ⟨by rfl, ?_⟩) (by assumption) ?_
  rotate_left
  · intro w_ hSw
    (try dsimp only at hSw)
    go_simp
    first | done | with_reducible rfl
  try simp only [Act.put, List.setIfInBounds_toArray, List.set_cons_zero, List.set_cons_succ]
  refine wpAnyH_take (i := 22) (oi := { dst := some 31, op := Op.binOp BinOp.neq 3 (Operand.tmp 25) (Operand.tmp 30) 3, type := 4, pos := "ref.go:133", after := #[{ on := 16, ground := Ground.data }, { on := 21, ground := Ground.data }, { on := 13, ground := Ground.guard }], guard := some (13, true) }) (v := ?_) rfl (by kernel_rfl) (by kernel_rfl) (by kernel_rfl) (fun _ _ _ h => h) (Or.inl ⟨by rfl, ?_⟩) (by assumption) ?_
  rotate_left
  · intro w_ hSw
    (try dsimp only at hSw)
    go_simp
    first | done | with_reducible rfl
  try simp only [Act.put, List.setIfInBounds_toArray, List.set_cons_zero, List.set_cons_succ]
  refine wpAnyH_take (i := 23) (oi := { dst := some 32, op := Op.pick (Operand.tmp 22) (Operand.tmp 31) (Operand.const (Value.bool false)), type := 4, pos := "ref.go:133", after := #[{ on := 13, ground := Ground.data }, { on := 22, ground := Ground.data }, { on := 9, ground := Ground.guard }], guard := some (9, false) }) (v := ?_) rfl (by kernel_rfl) (by kernel_rfl) (by kernel_rfl) (fun _ _ _ h => h) (Or.inl ⟨by rfl, ?_⟩) (by assumption) ?_
  rotate_left
  · intro w_ hSw
    (try dsimp only at hSw)
    go_simp
    first | done | with_reducible rfl
  try simp only [Act.put, List.setIfInBounds_toArray, List.set_cons_zero, List.set_cons_succ]
  refine wpAnyH_take (i := 24) (oi := { dst := some 33, op := Op.pick (Operand.tmp 18) (Operand.const (Value.bool true)) (Operand.tmp 32), type := 4, pos := "ref.go:133", after := #[{ on := 9, ground := Ground.data }, { on := 23, ground := Ground.data }], guard := none }) (v := ?_) rfl (by kernel_rfl) (by kernel_rfl) (by kernel_rfl) (fun _ _ _ h => h) (Or.inl ⟨by rfl, ?_⟩) (by assumption) ?_
  rotate_left
  · intro w_ hSw
    (try dsimp only at hSw)
    go_simp
    first | done | with_reducible rfl
  try simp only [Act.put, List.setIfInBounds_toArray, List.set_cons_zero, List.set_cons_succ]
  refine wpAnyH_done (by kernel_rfl) ?_ _
  go_wp2
  go_loopw [6, 7, 8] (fun v0 p0 i w' => ∃ (v : Value) (b : Bool) (k : Nat), v = v0 ∧ k ≤ l.length ∧ p0 = .bool b ∧ i = .int .i64 k ∧ Hid (b = decide (q < k)) ∧ Hid (Own w' (w.heap.size + 1) v (acc l x q s k)) ∧ Hid (Blk w' w.heap.size 53 #[.string x.key, .string x.sum]) ∧ Hid (Below w.heap.size w w')) (fun _ _ i _ => l.length - (intOf i).toNat)
  case atStart => exact ⟨_, _, 0, rfl, Nat.zero_le _, rfl, rfl, Lib.hid (by simp), Lib.hid (by rw [acc_lo (Nat.zero_le _)]; simpa using Own.nil _ _), Lib.hid (by repeat (first | exact HBX.out | refine Blk.drewN ?_ _ | refine Blk.drew ?_ | refine Blk.alloc ?_ _)), Lib.hid (by repeat (first | exact HB.out | refine bl_drewN ?_ _ | refine bl_drew ?_ | refine bl_alloc ?_ _))⟩
  case round =>
    obtain ⟨v, b, k, rfl, hk, rfl, rfl, hbk, ho, hx, hbl⟩ := hrel
    have HR1 := Lib.hid (HR.out.below hbl.out)
    have x0 : wr.cell? ⟨w.heap.size, 0, none⟩ = some (.string x.key) := hx.out.cell 0
    have x1 : wr.cell? ⟨w.heap.size, 1, none⟩ = some (.string x.sum) := hx.out.cell 1
    have hsz : w.heap.size + 1 ≤ wr.heap.size := hx.out.lt
    have hal := acc_len l x q s k (by rw [HSS.out]; split <;> omega)
    by_cases hlt : k < l.length
    · have i0 : (0 : Int) ≤ (k : Int) := by omega
      have i1 : (k : Int) < (l.length : Int) := by omega
      obtain ⟨ad, e0, c0, c1⟩ := HR1.out.at_ k hlt
      cases e0
      have g1 := geq_key HS.out x.key k hlt
      have g2 := eq_key HS.out x.key k hlt
      rw [← HQ.out] at g1 g2
      rcases Nat.lt_trichotomy k q with hc | hc | hc
      · have hb0 : b = false := by rw [hbk.out]; simp; omega
        subst hb0
        have g1' : Op.bytesLess l[k].key.toList x.key.toList = true := by simpa [show ¬ q ≤ k by omega] using g1
        have g2' : (l[k].key.toList == x.key.toList) = false := by rw [g2]; simp; omega
        clear g1 g2
        go_wp2
        go_quiet (fail)
        go_wp2
        go_quiet (fail)
        go_wp2_with (at_builtin; refine app_one rfl (.tmp 64) (.tmp 69) _ rfl Try.underlying37 hi0 hz0 hz1 hz2 rfl (w.heap.size + 1) _ (acc l x q s k) l[k] rfl (Own.drewN ho.out _) rfl (by omega) hsz ?_; intro v3 w3 ho3 hg3 hat3; have HO3 := Lib.hid ho3; have HB3 := Lib.hid (bl_of_grown (w := w) (by repeat (first | exact hbl.out | refine bl_drewN ?_ _ | refine bl_drew ?_ | refine bl_alloc ?_ _)) hg3 (fun b hb => by have := (ho.out.lt b hb).1; omega)); have HX3 := Lib.hid ((hx.out.drewN _).grown hg3 (fun e => by have := (ho.out.lt _ e.symm).1; omega)); clear ho3 hg3 hat3)
        go_roundw
        case rel => exact ⟨_, _, k + 1, rfl, by omega, rfl, by go_num, Lib.hid (by simp; omega), Lib.hid (by rw [acc_lo (by omega), List.take_succ_eq_append_getElem hlt, ← acc_lo (x := x) (s := s) (Nat.le_of_lt hc)]; exact HO3.out), HX3, HB3⟩
        case measure => simp [intOf]; omega
      · have hb0 : b = false := by rw [hbk.out]; simp; omega
        subst hb0
        have g1' : Op.bytesLess l[k].key.toList x.key.toList = false := by simpa [show q ≤ k by omega] using g1
        by_cases ht : there l x.key = true
        · have g2' : (l[k].key.toList == x.key.toList) = true := by rw [g2]; simp [hc, ht]
          have HT := Lib.hid (show s = q + 1 by rw [HSS.out, if_pos ht])
          have HC := Lib.hid hc
          clear g1 g2 ht hc
          go_wp2
          go_quiet (fail)
          go_wp2_with (at_builtin; refine app_one rfl (.tmp 52) (.tmp 54) _ rfl Try.underlying37 hi0 hz0 hz1 hz2 rfl (w.heap.size + 1) _ (acc l x q s k) (x) rfl (Own.drewN ho.out _) rfl (by first | omega | (simp; omega)) (hsz) ?_; intro v3 w3 ho_ hg_ hat_; have HO3 := Lib.hid ho_; have HB3 := Lib.hid (bl_of_grown (w := w) (by repeat (first | exact hbl.out | refine bl_drewN ?_ _ | refine bl_drew ?_ | refine bl_alloc ?_ _)) hg_ (fun b hb => by have := (ho.out.lt b hb).1; omega)); have HX3 := Lib.hid (Blk.grown (w := _) (Blk.drewN hx.out _) hg_ (fun e => by have := (ho.out.lt _ e.symm).1; omega)); clear ho_ hg_ hat_; obtain ⟨ad3, e3, c03, c13⟩ := (HR.out.below HB3.out).at_ k hlt; cases e3; have x03 := HX3.out.cell 0; have hsz3 := HX3.out.lt)
          go_quiet (fail)
          go_wp2
          go_roundw
          case rel => exact ⟨_, _, k + 1, rfl, by omega, rfl, by go_num, Lib.hid (by have := HC.out; simp; omega), Lib.hid (by
            have e1 := HC.out
            subst e1
            rw [acc_hi (by omega), HT.out, List.drop_eq_nil_of_le (by simp; omega), ← acc_lo (x := x) (s := s) (Nat.le_refl k)]
            exact HO3.out.drewN _), Lib.hid (HX3.out.drewN _), Lib.hid (bl_drewN HB3.out _)⟩
          case measure => simp [intOf]; omega
        · have ht' : there l x.key = false := by simpa using ht
          have g2' : (l[k].key.toList == x.key.toList) = false := by rw [g2]; simp [ht']
          have HT := Lib.hid (show s = q by rw [HSS.out, if_neg ht])
          have HC := Lib.hid hc
          clear g1 g2 ht ht' hc
          go_wp2
          go_quiet (fail)
          go_wp2_with (at_builtin; refine app_one rfl (.tmp 52) (.tmp 54) _ rfl Try.underlying37 hi0 hz0 hz1 hz2 rfl (w.heap.size + 1) _ (acc l x q s k) (x) rfl (Own.drewN ho.out _) rfl (by first | omega | (simp; omega)) (hsz) ?_; intro v3 w3 ho_ hg_ hat_; have HO3 := Lib.hid ho_; have HB3 := Lib.hid (bl_of_grown (w := w) (by repeat (first | exact hbl.out | refine bl_drewN ?_ _ | refine bl_drew ?_ | refine bl_alloc ?_ _)) hg_ (fun b hb => by have := (ho.out.lt b hb).1; omega)); have HX3 := Lib.hid (Blk.grown (w := _) (Blk.drewN hx.out _) hg_ (fun e => by have := (ho.out.lt _ e.symm).1; omega)); clear ho_ hg_ hat_; obtain ⟨ad3, e3, c03, c13⟩ := (HR.out.below HB3.out).at_ k hlt; cases e3; have x03 := HX3.out.cell 0; have hsz3 := HX3.out.lt)
          go_quiet (fail)
          go_wp2_with (at_builtin; refine app_one rfl (.tmp 64) (.tmp 69) _ rfl Try.underlying37 hi0 hz0 hz1 hz2 rfl (w.heap.size + 1) _ (acc l x q s k ++ [x]) (l[k]) rfl (Own.drewN HO3.out _) rfl (by first | omega | (simp; omega)) (hsz3) ?_; intro v4 w4 ho_ hg_ hat_; have HO4 := Lib.hid ho_; have HB4 := Lib.hid (bl_of_grown (w := w) (by repeat (first | exact HB3.out | refine bl_drewN ?_ _ | refine bl_drew ?_ | refine bl_alloc ?_ _)) hg_ (fun b hb => by have := (HO3.out.lt b hb).1; omega)); have HX4 := Lib.hid (Blk.grown (w := _) (Blk.drewN HX3.out _) hg_ (fun e => by have := (HO3.out.lt _ e.symm).1; omega)); clear ho_ hg_ hat_)
          go_roundw
          case rel => exact ⟨_, _, k + 1, rfl, by omega, rfl, by go_num, Lib.hid (by have := HC.out; simp; omega), Lib.hid (by
            have e1 := HC.out
            subst e1
            rw [acc_hi (by omega), HT.out, List.take_succ_eq_append_getElem hlt, List.drop_append_of_le_length (by simp; omega), List.drop_eq_nil_of_le (by simp; omega)]
            have := HO4.out
            rw [acc_lo (Nat.le_refl k)] at this
            simpa using this), HX4, HB4⟩
          case measure => simp [intOf]; omega
      · have hb0 : b = true := by rw [hbk.out]; simp; omega
        subst hb0
        have g2' : (l[k].key.toList == x.key.toList) = false := by rw [g2]; simp; omega
        have HT := Lib.hid (show s ≤ k by rw [HSS.out]; split <;> omega)
        clear g1 g2
        go_wp2
        go_quiet (fail)
        go_wp2
        go_quiet (fail)
        go_wp2_with (at_builtin; refine app_one rfl (.tmp 64) (.tmp 69) _ rfl Try.underlying37 hi0 hz0 hz1 hz2 rfl (w.heap.size + 1) _ (acc l x q s k) l[k] rfl (Own.drewN ho.out _) rfl (by omega) hsz ?_; intro v3 w3 ho3 hg3 hat3; have HO3 := Lib.hid ho3; have HB3 := Lib.hid (bl_of_grown (w := w) (by repeat (first | exact hbl.out | refine bl_drewN ?_ _ | refine bl_drew ?_ | refine bl_alloc ?_ _)) hg3 (fun b hb => by have := (ho.out.lt b hb).1; omega)); have HX3 := Lib.hid ((hx.out.drewN _).grown hg3 (fun e => by have := (ho.out.lt _ e.symm).1; omega)); clear ho3 hg3 hat3)
        go_roundw
        case rel => exact ⟨_, _, k + 1, rfl, by omega, rfl, by go_num, Lib.hid (by simp; omega), Lib.hid (by
          have := HO3.out
          rw [acc_hi hc] at this
          rw [acc_hi (by omega), List.take_succ_eq_append_getElem hlt, List.drop_append_of_le_length (by have := HT.out; simp; omega)]
          simpa using this), HX3, HB3⟩
        case measure => simp [intOf]; omega
    · have hkl : k = l.length := by omega
      by_cases hc : q < k
      · have hb0 : b = true := by rw [hbk.out]; simpa using hc
        subst hb0
        have HV := Lib.hid (show putL l x = acc l x q s k by rw [acc_hi hc, hkl, List.take_length, putL, ← HQ.out, ← HSS.out])
        clear hkl
        go_wp2
        go_ret2
        exact ⟨_, rfl, by rw [HV.out]; exact ho.out.base (Nat.le_succ _), hbl.out⟩
      · have hb0 : b = false := by rw [hbk.out]; simpa using hc
        subst hb0
        have HV := Lib.hid (show putL l x = acc l x q s k ++ [x] by
          rw [acc_lo (by omega), hkl, List.take_length, putL, ← HQ.out, ← HSS.out, List.take_of_length_le (by omega), List.drop_eq_nil_of_le (by rw [HSS.out]; split <;> omega)])
        clear hkl
        go_wp2_with (at_builtin; refine app_one rfl (.tmp 73) (.tmp 75) _ rfl Try.underlying37 hi0 hz0 hz1 hz2 rfl (w.heap.size + 1) _ (acc l x q s k) (x) rfl (ho.out) rfl (by first | omega | (simp; omega)) (hsz) ?_; intro v3 w3 ho_ hg_ hat_; have HO3 := Lib.hid ho_; have HB3 := Lib.hid (bl_of_grown (w := w) (by repeat (first | exact hbl.out | refine bl_drewN ?_ _ | refine bl_drew ?_ | refine bl_alloc ?_ _)) hg_ (fun b hb => by have := (ho.out.lt b hb).1; omega)); have HX3 := Lib.hid (Blk.grown (w := _) (hx.out) hg_ (fun e => by have := (ho.out.lt _ e.symm).1; omega)); clear ho_ hg_ hat_)
        go_ret2
        exact ⟨_, rfl, by rw [HV.out]; exact HO3.out.base (Nat.le_succ _), HB3.out⟩
set_option maxRecDepth 100000 in
set_option maxHeartbeats 3200000 in
theorem refPut_good0 (A : Option Addr) (c : Nat) (l : List Ent) (x : Ent) (w : World) (hr : Rd w A l) (hl : l.length ≤ 4398046511000) (h1 : listB l = true) (hx1 : listB [x] = true) (hl0 : l.length = 0) :
    Calls Try.prog 32 #[.slice A l.length c, .agg #[.string x.key, .string x.sum]] w fun e w' => ∃ v, e = .returned (.tuple #[v, .int .i64 0]) ∧ Own w' w.heap.size v (putL l x) ∧ Below w.heap.size w w' := by
  have hmax := hr.max
  have HR := Lib.hid hr
  have HRa := Lib.hid (hr.alloc (.cells #[.string x.key, .string x.sum] 53))
  have HB := Lib.hid (bl_alloc (Below.refl w.heap.size w) (.cells #[.string x.key, .string x.sum] 53))
  clear hr
  obtain ⟨i0, hi0, hz0, hz1, hz2⟩ := info_parts entry_info
  have HX := Lib.hid hx1
  have HS := Lib.hid (rises_of_list h1)
  have HBX := Lib.hid (Blk.new w 53 #[.string x.key, .string x.sum])
  obtain ⟨q, hq⟩ : ∃ q, q = cut l x.key := ⟨_, rfl⟩
  obtain ⟨s, hs⟩ : ∃ s, s = (if there l x.key then q + 1 else q) := ⟨_, rfl⟩
  have hql : q ≤ l.length := by rw [hq]; exact cut_le _ _
  have HQ := Lib.hid hq
  have HSS := Lib.hid hs
  clear hx1 hq hs
  have b3 : decide ((0 : Int) < (l.length : Int)) = false := by rw [decide_eq_false_iff_not]; omega
  have b4 : decide (0 < l.length) = false := by rw [decide_eq_false_iff_not]; omega
  have HL0 := Lib.hid hl0
  clear hl0
  go_enter Try.func32, Try.ntmps32
  go_wp2
  refine wp_region_held_drew (S := fun w' => w'.cell? ⟨w.heap.size, 0, none⟩ = some (.string x.key) ∧ w'.cell? ⟨w.heap.size, 1, none⟩ = some (.string x.sum)) (by kernel_rfl) ?_ (fun hHeld => ?_)
  · simp [*]
  refine wpAnyH_take (i := 0) (oi := { dst := some 9, op := Op.move (Operand.tmp 0), type := 37, pos := "ref.go:133", after := #[], guard := none }) (v := ?_) rfl (by kernel_rfl) (by kernel_rfl) (by kernel_rfl) (fun _ _ _ h => h) (Or.inl ⟨by rfl, ?_⟩) (by assumption) ?_
  rotate_left
  · intro w_ hSw
    (try dsimp only at hSw)
    go_simp
    first | done | with_reducible rfl
  try simp only [Act.put, List.setIfInBounds_toArray, List.set_cons_zero, List.set_cons_succ]
  refine wpAnyH_ready (rs := [1]) (by kernel_rfl) (by simp) ?_
  refine AllReadyH.cons (o := { dst := some 10, op := Op.call { callee := Callee.value (Operand.func 41), args := #[Operand.tmp 9], argTypes := #[37] }, type := 4, pos := "ref.go:133", after := #[{ on := 0, ground := Ground.data }], guard := none }) rfl (fun K hK => ?_) AllReadyH.nil
  go_simp
  refine (refList_any _ _ _ _ ?_).mono ?_
  · exact HRa.out.drew
  rintro e w2 ⟨rfl, n, rfl⟩
  rw [h1]
  go_wp2_with fail
  refine hK.out _ _ ?_ (fun hHeld => ?_)
  · simp [*]
  clear hK K
  try simp only [Act.put, List.setIfInBounds_toArray, List.set_cons_zero, List.set_cons_succ]
  refine wpAnyH_take (i := 2) (oi := { dst := some 11, op := Op.unOp UnOp.not 4 (Operand.tmp 10), type := 4, pos := "ref.go:133", after := #[{ on := 1, ground := Ground.data }], guard := none }) (v := ?_) rfl (by kernel_rfl) (by kernel_rfl) (by kernel_rfl) (fun _ _ _ h => h) (Or.inl ⟨by rfl, ?_⟩) (by assumption) ?_
  rotate_left
  · intro w_ hSw
    (try dsimp only at hSw)
    go_simp
    first | done | with_reducible rfl
  try simp only [Act.put, List.setIfInBounds_toArray, List.set_cons_zero, List.set_cons_succ]
  refine wpAnyH_take (i := 3) (oi := { dst := some 12, op := Op.move (Operand.tmp 11), type := 4, pos := "ref.go:133", after := #[{ on := 2, ground := Ground.data }, { on := 1, ground := Ground.chain }], guard := none }) (v := ?_) rfl (by kernel_rfl) (by kernel_rfl) (by kernel_rfl) (fun _ _ _ h => h) (Or.inl ⟨by rfl, ?_⟩) (by assumption) ?_
  rotate_left
  · intro w_ hSw
    (try dsimp only at hSw)
    go_simp
    first | done | with_reducible rfl
  try simp only [Act.put, List.setIfInBounds_toArray, List.set_cons_zero, List.set_cons_succ]
  refine wpAnyH_take (i := 4) (oi := { dst := some 13, op := Op.load 53 (Operand.tmp 3), type := 53, pos := "ref.go:133", after := #[{ on := 3, ground := Ground.guard }], guard := some (3, false) }) (v := ?_) rfl (by kernel_rfl) (by kernel_rfl) (by kernel_rfl) (fun _ _ _ h => h) (Or.inl ⟨by rfl, ?_⟩) (by assumption) ?_
  rotate_left
  · intro w_ hSw
    (try dsimp only at hSw)
    go_simp
    first | done | with_reducible rfl
  try simp only [Act.put, List.setIfInBounds_toArray, List.set_cons_zero, List.set_cons_succ]
  refine wpAnyH_ready (rs := [5]) (by kernel_rfl) (by simp) ?_
  refine AllReadyH.cons (o := { dst := some 14, op := Op.buildSlice 37 1 #[(0, Operand.tmp 13)], type := 37, pos := "ref.go:133", after := #[{ on := 4, ground := Ground.data }, { on := 3, ground := Ground.guard }], guard := some (3, false) }) rfl (fun K hK => ?_) AllReadyH.nil
  go_simp
  skip
  refine hK.out _ _ ?_ (fun hHeld => ?_)
  · simp [*, World.cell?_alloc_some]
  clear hK K
  try simp only [Act.put, List.setIfInBounds_toArray, List.set_cons_zero, List.set_cons_succ]
  refine wpAnyH_ready (rs := [6]) (by kernel_rfl) (by simp) ?_
  refine AllReadyH.cons (o := { dst := some 15, op := Op.call { callee := Callee.value (Operand.func 41), args := #[Operand.tmp 14], argTypes := #[37] }, type := 4, pos := "ref.go:133", after := #[{ on := 5, ground := Ground.data }, { on := 3, ground := Ground.chain }, { on := 3, ground := Ground.guard }], guard := some (3, false) }) rfl (fun K hK => ?_) AllReadyH.nil
  go_simp
  refine (refList_any _ _ [x] _ ?_).mono ?_
  · exact rd_new _ _ (by simp)
  rintro e w2 ⟨rfl, n, rfl⟩
  rw [HX.out]
  go_wp2_with fail
  refine hK.out _ _ ?_ (fun hHeld => ?_)
  · simp [*]
  clear hK K
  try simp only [Act.put, List.setIfInBounds_toArray, List.set_cons_zero, List.set_cons_succ]
  refine wpAnyH_take (i := 7) (oi := { dst := some 16, op := Op.unOp UnOp.not 4 (Operand.tmp 15), type := 4, pos := "ref.go:133", after := #[{ on := 6, ground := Ground.data }, { on := 3, ground := Ground.guard }], guard := some (3, false) }) (v := ?_) rfl (by kernel_rfl) (by kernel_rfl) (by kernel_rfl) (fun _ _ _ h => h) (Or.inl ⟨by rfl, ?_⟩) (by assumption) ?_
  rotate_left
  · intro w_ hSw
    (try dsimp only at hSw)
    go_simp
    first | done | with_reducible rfl
  try simp only [Act.put, List.setIfInBounds_toArray, List.set_cons_zero, List.set_cons_succ]
  refine wpAnyH_take (i := 8) (oi := { dst := some 17, op := Op.pick (Operand.tmp 12) (Operand.const (Value.bool true)) (Operand.tmp 16), type := 4, pos := "ref.go:133", after := #[{ on := 3, ground := Ground.data }, { on := 7, ground := Ground.data }], guard := none }) (v := ?_) rfl (by kernel_rfl) (by kernel_rfl) (by kernel_rfl) (fun _ _ _ h => h) (Or.inl ⟨by rfl, ?_⟩) (by assumption) ?_
  rotate_left
  · intro w_ hSw
    (try dsimp only at hSw)
    go_simp
    first | done | with_reducible rfl
  try simp only [Act.put, List.setIfInBounds_toArray, List.set_cons_zero, List.set_cons_succ]
  refine wpAnyH_take (i := 9) (oi := { dst := some 18, op := Op.move (Operand.tmp 17), type := 4, pos := "ref.go:133", after := #[{ on := 8, ground := Ground.data }, { on := 6, ground := Ground.chain }], guard := none }) (v := ?_) rfl (by kernel_rfl) (by kernel_rfl) (by kernel_rfl) (fun _ _ _ h => h) (Or.inl ⟨by rfl, ?_⟩) (by assumption) ?_
  rotate_left
  · intro w_ hSw
    (try dsimp only at hSw)
    go_simp
    first | done | with_reducible rfl
  try simp only [Act.put, List.setIfInBounds_toArray, List.set_cons_zero, List.set_cons_succ]
  refine wpAnyH_take (i := 10) (oi := { dst := some 19, op := Op.move (Operand.tmp 0), type := 37, pos := "ref.go:133", after := #[{ on := 9, ground := Ground.guard }], guard := some (9, false) }) (v := ?_) rfl (by kernel_rfl) (by kernel_rfl) (by kernel_rfl) (fun _ _ _ h => h) (Or.inl ⟨by rfl, ?_⟩) (by assumption) ?_
  rotate_left
  · intro w_ hSw
    (try dsimp only at hSw)
    go_simp
    first | done | with_reducible rfl
  try simp only [Act.put, List.setIfInBounds_toArray, List.set_cons_zero, List.set_cons_succ]
  refine wpAnyH_take (i := 11) (oi := { dst := some 20, op := Op.call { callee := Callee.builtin Builtin.len, args := #[Operand.tmp 19], argTypes := #[37] }, type := 3, pos := "ref.go:133", after := #[{ on := 10, ground := Ground.data }, { on := 9, ground := Ground.guard }], guard := some (9, false) }) (v := ?_) rfl (by kernel_rfl) (by kernel_rfl) (by kernel_rfl) (fun _ _ _ h => h) (Or.inl ⟨by rfl, ?_⟩) (by assumption) ?_
  rotate_left
  · intro w_ hSw
    (try dsimp only at hSw)
    go_simp
    first | done | with_reducible rfl
  try simp only [Act.put, List.setIfInBounds_toArray, List.set_cons_zero, List.set_cons_succ]
  refine wpAnyH_take (i := 12) (oi := { dst := some 21, op := Op.binOp BinOp.gtr 3 (Operand.tmp 20) (Operand.const (Value.int IntKind.i64 0)) 3, type := 4, pos := "ref.go:133", after := #[{ on := 11, ground := Ground.data }, { on := 9, ground := Ground.guard }], guard := some (9, false) }) (v := ?_) rfl (by kernel_rfl) (by kernel_rfl) (by kernel_rfl) (fun _ _ _ h => h) (Or.inl ⟨by rfl, ?_⟩) (by assumption) ?_
  rotate_left
  · intro w_ hSw
    (try dsimp only at hSw)
    go_simp
    first | done | with_reducible rfl
  try simp only [Act.put, List.setIfInBounds_toArray, List.set_cons_zero, List.set_cons_succ]
  refine wpAnyH_take (i := 13) (oi := { dst := some 22, op := Op.move (Operand.tmp 21), type := 4, pos := "ref.go:133", after := #[{ on := 12, ground := Ground.data }, { on := 9, ground := Ground.chain }, { on := 9, ground := Ground.guard }], guard := some (9, false) }) (v := ?_) rfl (by kernel_rfl) (by kernel_rfl) (by kernel_rfl) (fun _ _ _ h => h) (Or.inl ⟨by rfl, ?_⟩) (by assumption) ?_
  rotate_left
  · intro w_ hSw
    (try dsimp only at hSw)
    go_simp
    first | done | with_reducible rfl
  try simp only [Act.put, List.setIfInBounds_toArray, List.set_cons_zero, List.set_cons_succ]
  refine wpAnyH_take (i := 14) (oi := { dst := some 23, op := Op.fieldAddr 53 (Operand.tmp 3) 1, type := 0, pos := "ref.go:133", after := #[{ on := 13, ground := Ground.guard }], guard := some (13, true) }) (v := undef) rfl (by kernel_rfl) (by kernel_rfl) (by kernel_rfl) (fun _ _ _ h => h) (Or.inr ⟨by rfl, rfl⟩) (by assumption) ?_
  try simp only [Act.put, List.setIfInBounds_toArray, List.set_cons_zero, List.set_cons_succ]
  refine wpAnyH_take (i := 15) (oi := { dst := some 24, op := Op.load 9 (Operand.tmp 23), type := 9, pos := "ref.go:133", after := #[{ on := 14, ground := Ground.data }, { on := 13, ground := Ground.guard }], guard := some (13, true) }) (v := undef) rfl (by kernel_rfl) (by kernel_rfl) (by kernel_rfl) (fun _ _ _ h => h) (Or.inr ⟨by rfl, rfl⟩) (by assumption) ?_
  try simp only [Act.put, List.setIfInBounds_toArray, List.set_cons_zero, List.set_cons_succ]
  refine wpAnyH_take (i := 16) (oi := { dst := some 25, op := Op.call { callee := Callee.builtin Builtin.len, args := #[Operand.tmp 24], argTypes := #[9] }, type := 3, pos := "ref.go:133", after := #[{ on := 15, ground := Ground.data }, { on := 13, ground := Ground.guard }], guard := some (13, true) }) (v := undef) rfl (by kernel_rfl) (by kernel_rfl) (by kernel_rfl) (fun _ _ _ h => h) (Or.inr ⟨by rfl, rfl⟩) (by assumption) ?_
  try simp only [Act.put, List.setIfInBounds_toArray, List.set_cons_zero, List.set_cons_succ]
  refine wpAnyH_take (i := 17) (oi := { dst := some 26, op := Op.move (Operand.tmp 0), type := 37, pos := "ref.go:133", after := #[{ on := 13, ground := Ground.guard }], guard := some (13, true) }) (v := undef) rfl (by kernel_rfl) (by kernel_rfl) (by kernel_rfl) (fun _ _ _ h => h) (Or.inr ⟨by rfl, rfl⟩) (by assumption) ?_
  try simp only [Act.put, List.setIfInBounds_toArray, List.set_cons_zero, List.set_cons_succ]
  refine wpAnyH_take (i := 18) (oi := { dst := some 27, op := Op.indexAddr 37 (Operand.tmp 26) (Operand.const (Value.int IntKind.i64 0)), type := 0, pos := "ref.go:133", after := #[{ on := 17, ground := Ground.data }, { on := 13, ground := Ground.guard }], guard := some (13, true) }) (v := undef) rfl (by kernel_rfl) (by kernel_rfl) (by kernel_rfl) (fun _ _ _ h => h) (Or.inr ⟨by rfl, rfl⟩) (by assumption) ?_
  try simp only [Act.put, List.setIfInBounds_toArray, List.set_cons_zero, List.set_cons_succ]
  refine wpAnyH_take (i := 19) (oi := { dst := some 28, op := Op.fieldAddr 53 (Operand.tmp 27) 1, type := 0, pos := "ref.go:133", after := #[{ on := 18, ground := Ground.data }, { on := 13, ground := Ground.guard }], guard := some (13, true) }) (v := undef) rfl (by kernel_rfl) (by kernel_rfl) (by kernel_rfl) (fun _ _ _ h => h) (Or.inr ⟨by rfl, rfl⟩) (by assumption) ?_
  try simp only [Act.put, List.setIfInBounds_toArray, List.set_cons_zero, List.set_cons_succ]
  refine wpAnyH_take (i := 20) (oi := { dst := some 29, op := Op.load 9 (Operand.tmp 28), type := 9, pos := "ref.go:133", after := #[{ on := 19, ground := Ground.data }, { on := 13, ground := Ground.guard }], guard := some (13, true) }) (v := undef) rfl (by kernel_rfl) (by kernel_rfl) (by kernel_rfl) (fun _ _ _ h => h) (Or.inr ⟨by rfl, rfl⟩) (by assumption) ?_
  try simp only [Act.put, List.setIfInBounds_toArray, List.set_cons_zero, List.set_cons_succ]
  refine wpAnyH_take (i := 21) (oi := { dst := some 30, op := Op.call { callee := Callee.builtin Builtin.len, args := #[Operand.tmp 29], argTypes := #[9] }, type := 3, pos := "ref.go:133", after := #[{ on := 20, ground := Ground.data }, { on := 13, ground := Ground.guard }], guard := some (13, true) }) (v := undef) rfl (by kernel_rfl) (by kernel_rfl) (by kernel_rfl) (fun _ _ _ h => h) (Or.inr ⟨by rfl, rfl⟩) (by assumption) ?_
  try simp only [Act.put, List.setIfInBounds_toArray, List.set_cons_zero, List.set_cons_succ]
  refine wpAnyH_take (i := 22) (oi := { dst := some 31, op := Op.binOp BinOp.neq 3 (Operand.tmp 25) (Operand.tmp 30) 3, type := 4, pos := "ref.go:133", after := #[{ on := 16, ground := Ground.data }, { on := 21, ground := Ground.data }, { on := 13, ground := Ground.guard }], guard := some (13, true) }) (v := undef) rfl (by kernel_rfl) (by kernel_rfl) (by kernel_rfl) (fun _ _ _ h => h) (Or.inr ⟨by rfl, rfl⟩) (by assumption) ?_
  try simp only [Act.put, List.setIfInBounds_toArray, List.set_cons_zero, List.set_cons_succ]
  refine wpAnyH_take (i := 23) (oi := { dst := some 32, op := Op.pick (Operand.tmp 22) (Operand.tmp 31) (Operand.const (Value.bool false)), type := 4, pos := "ref.go:133", after := #[{ on := 13, ground := Ground.data }, { on := 22, ground := Ground.data }, { on := 9, ground := Ground.guard }], guard := some (9, false) }) (v := ?_) rfl (by kernel_rfl) (by kernel_rfl) (by kernel_rfl) (fun _ _ _ h => h) (Or.inl ⟨by rfl, ?_⟩) (by assumption) ?_
  rotate_left
  · intro w_ hSw
    (try dsimp only at hSw)
    go_simp
    first | done | with_reducible rfl
  try simp only [Act.put, List.setIfInBounds_toArray, List.set_cons_zero, List.set_cons_succ]
  refine wpAnyH_take (i := 24) (oi := { dst := some 33, op := Op.pick (Operand.tmp 18) (Operand.const (Value.bool true)) (Operand.tmp 32), type := 4, pos := "ref.go:133", after := #[{ on := 9, ground := Ground.data }, { on := 23, ground := Ground.data }], guard := none }) (v := ?_) rfl (by kernel_rfl) (by kernel_rfl) (by kernel_rfl) (fun _ _ _ h => h) (Or.inl ⟨by rfl, ?_⟩) (by assumption) ?_
  rotate_left
  · intro w_ hSw
    (try dsimp only at hSw)
    go_simp
    first | done | with_reducible rfl
  try simp only [Act.put, List.setIfInBounds_toArray, List.set_cons_zero, List.set_cons_succ]
  refine wpAnyH_done (by kernel_rfl) ?_ _
  go_wp2
  go_loopw [6, 7, 8] (fun v0 p0 i w' => ∃ (v : Value) (b : Bool) (k : Nat), v = v0 ∧ k ≤ l.length ∧ p0 = .bool b ∧ i = .int .i64 k ∧ Hid (b = decide (q < k)) ∧ Hid (Own w' (w.heap.size + 1) v (acc l x q s k)) ∧ Hid (Blk w' w.heap.size 53 #[.string x.key, .string x.sum]) ∧ Hid (Below w.heap.size w w')) (fun _ _ i _ => l.length - (intOf i).toNat)
  case atStart => exact ⟨_, _, 0, rfl, Nat.zero_le _, rfl, rfl, Lib.hid (by simp), Lib.hid (by rw [acc_lo (Nat.zero_le _)]; simpa using Own.nil _ _), Lib.hid (by repeat (first | exact HBX.out | refine Blk.drewN ?_ _ | refine Blk.drew ?_ | refine Blk.alloc ?_ _)), Lib.hid (by repeat (first | exact HB.out | refine bl_drewN ?_ _ | refine bl_drew ?_ | refine bl_alloc ?_ _))⟩
  case round =>
    obtain ⟨v, b, k, rfl, hk, rfl, rfl, hbk, ho, hx, hbl⟩ := hrel
    have HR1 := Lib.hid (HR.out.below hbl.out)
    have x0 : wr.cell? ⟨w.heap.size, 0, none⟩ = some (.string x.key) := hx.out.cell 0
    have x1 : wr.cell? ⟨w.heap.size, 1, none⟩ = some (.string x.sum) := hx.out.cell 1
    have hsz : w.heap.size + 1 ≤ wr.heap.size := hx.out.lt
    have hal := acc_len l x q s k (by rw [HSS.out]; split <;> omega)
    by_cases hlt : k < l.length
    · exact absurd hlt (by have := HL0.out; omega)
    · have hkl : k = l.length := by omega
      by_cases hc : q < k
      · have hb0 : b = true := by rw [hbk.out]; simpa using hc
        subst hb0
        have HV := Lib.hid (show putL l x = acc l x q s k by rw [acc_hi hc, hkl, List.take_length, putL, ← HQ.out, ← HSS.out])
        clear hkl
        go_wp2
        go_ret2
        exact ⟨_, rfl, by rw [HV.out]; exact ho.out.base (Nat.le_succ _), hbl.out⟩
      · have hb0 : b = false := by rw [hbk.out]; simpa using hc
        subst hb0
        have HV := Lib.hid (show putL l x = acc l x q s k ++ [x] by
          rw [acc_lo (by omega), hkl, List.take_length, putL, ← HQ.out, ← HSS.out, List.take_of_length_le (by omega), List.drop_eq_nil_of_le (by rw [HSS.out]; split <;> omega)])
        clear hkl
        go_wp2_with (at_builtin; refine app_one rfl (.tmp 73) (.tmp 75) _ rfl Try.underlying37 hi0 hz0 hz1 hz2 rfl (w.heap.size + 1) _ (acc l x q s k) (x) rfl (ho.out) rfl (by first | omega | (simp; omega)) (hsz) ?_; intro v3 w3 ho_ hg_ hat_; have HO3 := Lib.hid ho_; have HB3 := Lib.hid (bl_of_grown (w := w) (by repeat (first | exact hbl.out | refine bl_drewN ?_ _ | refine bl_drew ?_ | refine bl_alloc ?_ _)) hg_ (fun b hb => by have := (ho.out.lt b hb).1; omega)); have HX3 := Lib.hid (Blk.grown (w := _) (hx.out) hg_ (fun e => by have := (ho.out.lt _ e.symm).1; omega)); clear ho_ hg_ hat_)
        go_ret2
        exact ⟨_, rfl, by rw [HV.out]; exact HO3.out.base (Nat.le_succ _), HB3.out⟩

def putE (l : List Ent) (x : Ent) : Int := if badP l x then 140 else 0
def putA (l : List Ent) (x : Ent) : List Ent := if badP l x then [] else putL l x
theorem putA_len (l : List Ent) (x : Ent) : (putA l x).length ≤ l.length + 1 := by
  unfold putA putL
  split
  · simp
  · have := cut_le l x.key
    split <;> simp <;> omega
theorem refPut_any (A : Option Addr) (c : Nat) (l : List Ent) (x : Ent) (w : World) (hr : Rd w A l) (hl : l.length ≤ 4398046511000) :
    Calls Try.prog 32 #[.slice A l.length c, .agg #[.string x.key, .string x.sum]] w fun e w' => ∃ v, e = .returned (.tuple #[v, .int .i64 (putE l x)]) ∧ Own w' w.heap.size v (putA l x) ∧ Below w.heap.size w w' := by
  by_cases hb : badP l x = true
  · refine (refPut_bad A c l x w hr hb).mono fun e w' ⟨he, hB⟩ => ⟨.slice none 0 0, ?_, ?_, hB⟩
    · rw [he, putE, if_pos hb]
    · rw [putA, if_pos hb]; exact Own.nil _ _
  · have e1 : putE l x = 0 := by rw [putE, if_neg hb]
    have e2 : putA l x = putL l x := by rw [putA, if_neg hb]
    rw [e1, e2]
    simp only [badP, Bool.or_eq_true, Bool.not_eq_true', not_or, Bool.not_eq_false, Bool.not_eq_true] at hb
    obtain ⟨h1, h2, h3⟩ := hb
    rcases Nat.eq_zero_or_pos l.length with h0 | h0
    · exact refPut_good0 A c l x w hr hl h1 h2 h0
    · refine refPut_goodN A c l x w hr hl h1 h2 h0 ?_
      cases l with
      | nil => exact absurd h0 (by simp)
      | cons e l => simpa [sumUnlike] using h3
end Go.Proofs.Ytejodabmddcanaa
