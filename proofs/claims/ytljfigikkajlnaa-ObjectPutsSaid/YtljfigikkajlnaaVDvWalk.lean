/- DERIVED. The closures of the program's Max and Below; its walk through two vectors. -/
import Derived.Test.YtljfigikkajlnaaVm3
import Derived.Test.YtljfigikkajlnaaVm11
import Derived.Laws.Runes
namespace Go.Proofs.Ytljfigikkajlnaa
open Go.RowKit
set_option linter.unusedVariables false
set_option linter.unusedSimpArgs false
theorem blB_drewN {B : Nat} {a w : World} (h : Below B a w) (n : Nat) : Below B a (w.drewN n) := ⟨h.os, h.tape, h.output, h.size, h.block⟩
theorem blB_alloc {B : Nat} {a w : World} (h : Below B a w) (hB : B ≤ a.heap.size) (o : Obj) : Below B a (w.alloc o) := h.alloc (Nat.le_trans hB h.size) o
set_option maxRecDepth 100000 in
set_option maxHeartbeats 3200000 in
theorem max_left (B g : Nat) (v : Value) (acc : List Dot) (w : World) (px : Addr) (x : Dot) (hx : px.block < B) (x0 : w.cell? px = some (.int .u32 x.a)) (x1 : w.cell? ⟨px.block, px.off + 1, none⟩ = some (.int .u64 x.n))
    (hB : B ≤ g) (bg : GR.Blk w g 22 #[v]) (ho : GR.Own dotK w B v acc) (hsz : (acc.length + 1) * 16 ≤ 140737488355328) :
    Calls Try.prog 112 #[.pointer (some px), .pointer none, .pointer (some ⟨g, 0, none⟩)] w fun e w' => e = .returned (.tuple #[]) ∧ (∃ v', GR.Blk w' g 22 #[v'] ∧ GR.Own dotK w' B v' (acc ++ [x])) ∧ Below B w w' := by
  obtain ⟨i0, hi0, hz0, hz1, hz2⟩ := info_parts dot_info
  have lg := bg.lt
  have ng : g ≠ w.heap.size := Nat.ne_of_lt lg
  have hBw : B ≤ w.heap.size := Nat.le_trans hB (Nat.le_of_lt lg)
  have c0 : w.cell? ⟨g, 0, none⟩ = some v := bg.cell 0
  have c2 : ∀ n, ((w.drewN n).alloc (.cells #[.int .u32 x.a, .int .u64 x.n] 41)).cell? ⟨g, 0, none⟩ = some v := fun n => ((bg.drewN n).alloc _).cell 0
  have KX0 := Lib.hid x0
  have KX1 := Lib.hid x1
  have HR := Lib.hid (Below.refl B w)
  have BG := Lib.hid bg
  have HO := Lib.hid ho
  clear bg ho
  go_enter Try.func112, Try.ntmps112
  go_wp2
  go_quiet (fail)
  go_wp2
  refine wp_region_held_drew (S := fun w' => w'.cell? px = some (.int .u32 x.a) ∧ w'.cell? ⟨px.block, px.off + 1, none⟩ = some (.int .u64 x.n)) (by kernel_rfl) ?_ (fun hHeld => ?_)
  · exact ⟨KX0.out, KX1.out⟩
  refine wpAnyH_take (i := 1) (oi := { dst := some 24, op := Op.move (Operand.tmp 0), type := 142, pos := "vector.go:67", after := #[], guard := none }) (v := ?_) rfl (by kernel_rfl) (by kernel_rfl) (by kernel_rfl) (fun _ _ _ h => h) (Or.inl ⟨by rfl, ?_⟩) (by assumption) ?_
  rotate_left
  · intro w_ hSw
    (try dsimp only at hSw)
    go_simp
    first | done | with_reducible rfl
  try simp only [Act.put, List.setIfInBounds_toArray, List.set_cons_zero, List.set_cons_succ]
  refine wpAnyH_take (i := 2) (oi := { dst := some 25, op := Op.nilCheck (Operand.tmp 24), type := 0, pos := "vector.go:67", after := #[{ on := 1, ground := Ground.data }], guard := none }) (v := ?_) rfl (by kernel_rfl) (by kernel_rfl) (by kernel_rfl) (fun _ _ _ h => h) (Or.inl ⟨by rfl, ?_⟩) (by assumption) ?_
  rotate_left
  · intro w_ hSw
    (try dsimp only at hSw)
    go_simp
    first | done | with_reducible rfl
  try simp only [Act.put, List.setIfInBounds_toArray, List.set_cons_zero, List.set_cons_succ]
  refine wpAnyH_take (i := 3) (oi := { dst := some 26, op := Op.load 41 (Operand.tmp 25), type := 41, pos := "vector.go:67", after := #[{ on := 2, ground := Ground.data }], guard := none }) (v := ?_) rfl (by kernel_rfl) (by kernel_rfl) (by kernel_rfl) (fun _ _ _ h => h) (Or.inl ⟨by rfl, ?_⟩) (by assumption) ?_
  rotate_left
  · intro w_ hSw
    (try dsimp only at hSw)
    go_simp
    first | done | with_reducible rfl
  try simp only [Act.put, List.setIfInBounds_toArray, List.set_cons_zero, List.set_cons_succ]
  refine wpAnyH_ready (rs := [0, 4]) (by kernel_rfl) (by simp) ?_
  refine AllReadyH.cons (o := { dst := some 23, op := Op.load 22 (Operand.tmp 2), type := 22, pos := "vector.go:67", after := #[], guard := none }) rfl (fun K hK => ?_) (AllReadyH.cons (o := { dst := some 27, op := Op.buildSlice 22 1 #[(0, Operand.tmp 26)], type := 22, pos := "vector.go:67", after := #[{ on := 3, ground := Ground.data }], guard := none }) rfl (fun K hK => ?_) (AllReadyH.nil))
  · skip
    go_simp
    skip
    refine hK.out _ _ ?_ (fun hHeld => ?_)
    · exact ⟨(Below.cell (by repeat (first | exact HR.out | refine blB_drewN ?_ _ | refine Below.drew ?_ | refine blB_alloc ?_ hBw _ | refine Below.setCell ?_ hB _)) hx).trans KX0.out, (Below.cell (p := ⟨px.block, px.off + 1, none⟩) (by repeat (first | exact HR.out | refine blB_drewN ?_ _ | refine Below.drew ?_ | refine blB_alloc ?_ hBw _ | refine Below.setCell ?_ hB _)) hx).trans KX1.out⟩
    clear hK K
    try simp only [Act.put, List.setIfInBounds_toArray, List.set_cons_zero, List.set_cons_succ]
    refine wpAnyH_ready (rs := [4]) (by kernel_rfl) (by simp) ?_
    refine AllReadyH.cons (o := { dst := some 27, op := Op.buildSlice 22 1 #[(0, Operand.tmp 26)], type := 22, pos := "vector.go:67", after := #[{ on := 3, ground := Ground.data }], guard := none }) rfl (fun K hK => ?_) (AllReadyH.nil)
    go_simp
    skip
    refine hK.out _ _ ?_ (fun hHeld => ?_)
    · exact ⟨(Below.cell (by repeat (first | exact HR.out | refine blB_drewN ?_ _ | refine Below.drew ?_ | refine blB_alloc ?_ hBw _ | refine Below.setCell ?_ hB _)) hx).trans KX0.out, (Below.cell (p := ⟨px.block, px.off + 1, none⟩) (by repeat (first | exact HR.out | refine blB_drewN ?_ _ | refine Below.drew ?_ | refine blB_alloc ?_ hBw _ | refine Below.setCell ?_ hB _)) hx).trans KX1.out⟩
    clear hK K
    try simp only [Act.put, List.setIfInBounds_toArray, List.set_cons_zero, List.set_cons_succ]
    refine wpAnyH_ready (rs := [5]) (by kernel_rfl) (by simp) ?_
    refine AllReadyH.cons (o := { dst := some 28, op := Op.call { callee := Callee.builtin Builtin.append, args := #[Operand.tmp 23, Operand.tmp 27], argTypes := #[22, 22] }, type := 22, pos := "vector.go:67", after := #[{ on := 0, ground := Ground.data }, { on := 4, ground := Ground.data }], guard := none }) rfl (fun K hK => ?_) (AllReadyH.nil)
    refine GR.step_one (K := dotK) rfl (.tmp 23) (.tmp 27) _ rfl Try.underlying22 hi0 hz0 hz1 hz2 rfl B _ acc x rfl (by repeat (first | exact HO.out | refine GR.Own.drewN ?_ _ | refine GR.Own.drew ?_ | refine GR.Own.alloc ?_ _)) _ rfl (by repeat (first | exact GR.rd_new _ rfl (by show 16 ≤ 140737488355328; omega) | refine GR.Rd.drewN ?_ _ | refine GR.Rd.drew ?_)) (by show (acc.length + 1) * 16 ≤ _; omega) (by simp; omega) ?_
    intro v3 w3 ho_ hg_ hat_
    obtain ⟨A3, n3, c3, rfl⟩ := own_slice ho_ (by show (acc ++ [x]).length * 16 ≤ _; rw [List.length_append]; exact hsz)
    have B3 : Hid (GR.Blk w3 g 22 #[v]) := Lib.hid (GR.Blk.grown (by repeat (first | exact BG.out | refine GR.Blk.drewN ?_ _ | refine GR.Blk.drew ?_ | refine GR.Blk.alloc ?_ _)) hg_ (Ne.symm (GR.own_blk_ne HO.out BG.out (by decide))))
    have HO3 := Lib.hid ho_
    have HR3 : Hid (Below B w w3) := Lib.hid (Below.grown (by repeat (first | exact HR.out | refine blB_drewN ?_ _ | refine Below.drew ?_ | refine blB_alloc ?_ hBw _ | refine Below.setCell ?_ hB _)) hg_ (by simp; omega) (fun b hb => (HO.out.lt b hb).1))
    clear HR
    have HR := HR3
    clear HR3 ho_ hg_ hat_
    have d0 : w3.cell? ⟨g, 0, none⟩ = some v := B3.out.cell 0
    have d1 := B3.out.frozen 0
    refine hK.out _ _ ?_ (fun hHeld => ?_)
    · exact ⟨(Below.cell (by repeat (first | exact HR.out | refine blB_drewN ?_ _ | refine Below.drew ?_ | refine blB_alloc ?_ hBw _ | refine Below.setCell ?_ hB _)) hx).trans KX0.out, (Below.cell (p := ⟨px.block, px.off + 1, none⟩) (by repeat (first | exact HR.out | refine blB_drewN ?_ _ | refine Below.drew ?_ | refine blB_alloc ?_ hBw _ | refine Below.setCell ?_ hB _)) hx).trans KX1.out⟩
    clear hK K
    try simp only [Act.put, List.setIfInBounds_toArray, List.set_cons_zero, List.set_cons_succ]
    refine wpAnyH_ready (rs := [6]) (by kernel_rfl) (by simp) ?_
    refine AllReadyH.cons (o := { dst := none, op := Op.store 22 (Operand.tmp 2) (Operand.tmp 28), type := 0, pos := "vector.go:67", after := #[{ on := 5, ground := Ground.data }, { on := 5, ground := Ground.chain }, { on := 0, ground := Ground.phase }, { on := 1, ground := Ground.phase }, { on := 2, ground := Ground.phase }, { on := 3, ground := Ground.phase }, { on := 4, ground := Ground.phase }, { on := 5, ground := Ground.phase }], guard := none }) rfl (fun K hK => ?_) (AllReadyH.nil)
    go_simp
    skip
    refine hK.out _ _ ?_ (fun hHeld => ?_)
    · exact ⟨(Below.cell (by repeat (first | exact HR.out | refine blB_drewN ?_ _ | refine Below.drew ?_ | refine blB_alloc ?_ hBw _ | refine Below.setCell ?_ hB _)) hx).trans KX0.out, (Below.cell (p := ⟨px.block, px.off + 1, none⟩) (by repeat (first | exact HR.out | refine blB_drewN ?_ _ | refine Below.drew ?_ | refine blB_alloc ?_ hBw _ | refine Below.setCell ?_ hB _)) hx).trans KX1.out⟩
    clear hK K
    try simp only [Act.put, List.setIfInBounds_toArray, List.set_cons_zero, List.set_cons_succ]
    refine wpAnyH_done (by kernel_rfl) ?_ _
    go_wp2
    go_end0
    exact ⟨rfl, ⟨_, B3.out.set_ 0 _, own_far HO3.out B3.out _ (by decide)⟩, (by repeat (first | exact HR.out | refine blB_drewN ?_ _ | refine Below.drew ?_ | refine blB_alloc ?_ hBw _ | refine Below.setCell ?_ hB _))⟩
  · skip
    go_simp
    skip
    refine hK.out _ _ ?_ (fun hHeld => ?_)
    · exact ⟨(Below.cell (by repeat (first | exact HR.out | refine blB_drewN ?_ _ | refine Below.drew ?_ | refine blB_alloc ?_ hBw _ | refine Below.setCell ?_ hB _)) hx).trans KX0.out, (Below.cell (p := ⟨px.block, px.off + 1, none⟩) (by repeat (first | exact HR.out | refine blB_drewN ?_ _ | refine Below.drew ?_ | refine blB_alloc ?_ hBw _ | refine Below.setCell ?_ hB _)) hx).trans KX1.out⟩
    clear hK K
    try simp only [Act.put, List.setIfInBounds_toArray, List.set_cons_zero, List.set_cons_succ]
    refine wpAnyH_ready (rs := [0]) (by kernel_rfl) (by simp) ?_
    refine AllReadyH.cons (o := { dst := some 23, op := Op.load 22 (Operand.tmp 2), type := 22, pos := "vector.go:67", after := #[], guard := none }) rfl (fun K hK => ?_) (AllReadyH.nil)
    go_simp
    skip
    refine hK.out _ _ ?_ (fun hHeld => ?_)
    · exact ⟨(Below.cell (by repeat (first | exact HR.out | refine blB_drewN ?_ _ | refine Below.drew ?_ | refine blB_alloc ?_ hBw _ | refine Below.setCell ?_ hB _)) hx).trans KX0.out, (Below.cell (p := ⟨px.block, px.off + 1, none⟩) (by repeat (first | exact HR.out | refine blB_drewN ?_ _ | refine Below.drew ?_ | refine blB_alloc ?_ hBw _ | refine Below.setCell ?_ hB _)) hx).trans KX1.out⟩
    clear hK K
    try simp only [Act.put, List.setIfInBounds_toArray, List.set_cons_zero, List.set_cons_succ]
    refine wpAnyH_ready (rs := [5]) (by kernel_rfl) (by simp) ?_
    refine AllReadyH.cons (o := { dst := some 28, op := Op.call { callee := Callee.builtin Builtin.append, args := #[Operand.tmp 23, Operand.tmp 27], argTypes := #[22, 22] }, type := 22, pos := "vector.go:67", after := #[{ on := 0, ground := Ground.data }, { on := 4, ground := Ground.data }], guard := none }) rfl (fun K hK => ?_) (AllReadyH.nil)
    refine GR.step_one (K := dotK) rfl (.tmp 23) (.tmp 27) _ rfl Try.underlying22 hi0 hz0 hz1 hz2 rfl B _ acc x rfl (by repeat (first | exact HO.out | refine GR.Own.drewN ?_ _ | refine GR.Own.drew ?_ | refine GR.Own.alloc ?_ _)) _ rfl (by repeat (first | exact GR.rd_new _ rfl (by show 16 ≤ 140737488355328; omega) | refine GR.Rd.drewN ?_ _ | refine GR.Rd.drew ?_)) (by show (acc.length + 1) * 16 ≤ _; omega) (by simp; omega) ?_
    intro v3 w3 ho_ hg_ hat_
    obtain ⟨A3, n3, c3, rfl⟩ := own_slice ho_ (by show (acc ++ [x]).length * 16 ≤ _; rw [List.length_append]; exact hsz)
    have B3 : Hid (GR.Blk w3 g 22 #[v]) := Lib.hid (GR.Blk.grown (by repeat (first | exact BG.out | refine GR.Blk.drewN ?_ _ | refine GR.Blk.drew ?_ | refine GR.Blk.alloc ?_ _)) hg_ (Ne.symm (GR.own_blk_ne HO.out BG.out (by decide))))
    have HO3 := Lib.hid ho_
    have HR3 : Hid (Below B w w3) := Lib.hid (Below.grown (by repeat (first | exact HR.out | refine blB_drewN ?_ _ | refine Below.drew ?_ | refine blB_alloc ?_ hBw _ | refine Below.setCell ?_ hB _)) hg_ (by simp; omega) (fun b hb => (HO.out.lt b hb).1))
    clear HR
    have HR := HR3
    clear HR3 ho_ hg_ hat_
    have d0 : w3.cell? ⟨g, 0, none⟩ = some v := B3.out.cell 0
    have d1 := B3.out.frozen 0
    refine hK.out _ _ ?_ (fun hHeld => ?_)
    · exact ⟨(Below.cell (by repeat (first | exact HR.out | refine blB_drewN ?_ _ | refine Below.drew ?_ | refine blB_alloc ?_ hBw _ | refine Below.setCell ?_ hB _)) hx).trans KX0.out, (Below.cell (p := ⟨px.block, px.off + 1, none⟩) (by repeat (first | exact HR.out | refine blB_drewN ?_ _ | refine Below.drew ?_ | refine blB_alloc ?_ hBw _ | refine Below.setCell ?_ hB _)) hx).trans KX1.out⟩
    clear hK K
    try simp only [Act.put, List.setIfInBounds_toArray, List.set_cons_zero, List.set_cons_succ]
    refine wpAnyH_ready (rs := [6]) (by kernel_rfl) (by simp) ?_
    refine AllReadyH.cons (o := { dst := none, op := Op.store 22 (Operand.tmp 2) (Operand.tmp 28), type := 0, pos := "vector.go:67", after := #[{ on := 5, ground := Ground.data }, { on := 5, ground := Ground.chain }, { on := 0, ground := Ground.phase }, { on := 1, ground := Ground.phase }, { on := 2, ground := Ground.phase }, { on := 3, ground := Ground.phase }, { on := 4, ground := Ground.phase }, { on := 5, ground := Ground.phase }], guard := none }) rfl (fun K hK => ?_) (AllReadyH.nil)
    go_simp
    skip
    refine hK.out _ _ ?_ (fun hHeld => ?_)
    · exact ⟨(Below.cell (by repeat (first | exact HR.out | refine blB_drewN ?_ _ | refine Below.drew ?_ | refine blB_alloc ?_ hBw _ | refine Below.setCell ?_ hB _)) hx).trans KX0.out, (Below.cell (p := ⟨px.block, px.off + 1, none⟩) (by repeat (first | exact HR.out | refine blB_drewN ?_ _ | refine Below.drew ?_ | refine blB_alloc ?_ hBw _ | refine Below.setCell ?_ hB _)) hx).trans KX1.out⟩
    clear hK K
    try simp only [Act.put, List.setIfInBounds_toArray, List.set_cons_zero, List.set_cons_succ]
    refine wpAnyH_done (by kernel_rfl) ?_ _
    go_wp2
    go_end0
    exact ⟨rfl, ⟨_, B3.out.set_ 0 _, own_far HO3.out B3.out _ (by decide)⟩, (by repeat (first | exact HR.out | refine blB_drewN ?_ _ | refine Below.drew ?_ | refine blB_alloc ?_ hBw _ | refine Below.setCell ?_ hB _))⟩
set_option maxRecDepth 100000 in
set_option maxHeartbeats 3200000 in
theorem max_right (B g : Nat) (v : Value) (acc : List Dot) (w : World) (py : Addr) (y : Dot) (hy : py.block < B) (y0 : w.cell? py = some (.int .u32 y.a)) (y1 : w.cell? ⟨py.block, py.off + 1, none⟩ = some (.int .u64 y.n))
    (hB : B ≤ g) (bg : GR.Blk w g 22 #[v]) (ho : GR.Own dotK w B v acc) (hsz : (acc.length + 1) * 16 ≤ 140737488355328) :
    Calls Try.prog 112 #[.pointer none, .pointer (some py), .pointer (some ⟨g, 0, none⟩)] w fun e w' => e = .returned (.tuple #[]) ∧ (∃ v', GR.Blk w' g 22 #[v'] ∧ GR.Own dotK w' B v' (acc ++ [y])) ∧ Below B w w' := by
  obtain ⟨i0, hi0, hz0, hz1, hz2⟩ := info_parts dot_info
  have lg := bg.lt
  have ng : g ≠ w.heap.size := Nat.ne_of_lt lg
  have hBw : B ≤ w.heap.size := Nat.le_trans hB (Nat.le_of_lt lg)
  have c0 : w.cell? ⟨g, 0, none⟩ = some v := bg.cell 0
  have c2 : ∀ n, ((w.drewN n).alloc (.cells #[.int .u32 y.a, .int .u64 y.n] 41)).cell? ⟨g, 0, none⟩ = some v := fun n => ((bg.drewN n).alloc _).cell 0
  have KX0 := Lib.hid y0
  have KX1 := Lib.hid y1
  have HR := Lib.hid (Below.refl B w)
  have BG := Lib.hid bg
  have HO := Lib.hid ho
  clear bg ho
  go_enter Try.func112, Try.ntmps112
  go_wp2
  go_quiet (fail)
  go_wp2
  refine wp_region_held_drew (S := fun w' => w'.cell? py = some (.int .u32 y.a) ∧ w'.cell? ⟨py.block, py.off + 1, none⟩ = some (.int .u64 y.n)) (by kernel_rfl) ?_ (fun hHeld => ?_)
  · exact ⟨KX0.out, KX1.out⟩
  refine wpAnyH_take (i := 1) (oi := { dst := some 24, op := Op.move (Operand.tmp 0), type := 142, pos := "vector.go:67", after := #[], guard := none }) (v := ?_) rfl (by kernel_rfl) (by kernel_rfl) (by kernel_rfl) (fun _ _ _ h => h) (Or.inl ⟨by rfl, ?_⟩) (by assumption) ?_
  rotate_left
  · intro w_ hSw
    (try dsimp only at hSw)
    go_simp
    first | done | with_reducible rfl
  try simp only [Act.put, List.setIfInBounds_toArray, List.set_cons_zero, List.set_cons_succ]
  refine wpAnyH_take (i := 2) (oi := { dst := some 25, op := Op.nilCheck (Operand.tmp 24), type := 0, pos := "vector.go:67", after := #[{ on := 1, ground := Ground.data }], guard := none }) (v := ?_) rfl (by kernel_rfl) (by kernel_rfl) (by kernel_rfl) (fun _ _ _ h => h) (Or.inl ⟨by rfl, ?_⟩) (by assumption) ?_
  rotate_left
  · intro w_ hSw
    (try dsimp only at hSw)
    go_simp
    first | done | with_reducible rfl
  try simp only [Act.put, List.setIfInBounds_toArray, List.set_cons_zero, List.set_cons_succ]
  refine wpAnyH_take (i := 3) (oi := { dst := some 26, op := Op.load 41 (Operand.tmp 25), type := 41, pos := "vector.go:67", after := #[{ on := 2, ground := Ground.data }], guard := none }) (v := ?_) rfl (by kernel_rfl) (by kernel_rfl) (by kernel_rfl) (fun _ _ _ h => h) (Or.inl ⟨by rfl, ?_⟩) (by assumption) ?_
  rotate_left
  · intro w_ hSw
    (try dsimp only at hSw)
    go_simp
    first | done | with_reducible rfl
  try simp only [Act.put, List.setIfInBounds_toArray, List.set_cons_zero, List.set_cons_succ]
  refine wpAnyH_ready (rs := [0, 4]) (by kernel_rfl) (by simp) ?_
  refine AllReadyH.cons (o := { dst := some 23, op := Op.load 22 (Operand.tmp 2), type := 22, pos := "vector.go:67", after := #[], guard := none }) rfl (fun K hK => ?_) (AllReadyH.cons (o := { dst := some 27, op := Op.buildSlice 22 1 #[(0, Operand.tmp 26)], type := 22, pos := "vector.go:67", after := #[{ on := 3, ground := Ground.data }], guard := none }) rfl (fun K hK => ?_) (AllReadyH.nil))
  · skip
    go_simp
    skip
    refine hK.out _ _ ?_ (fun hHeld => ?_)
    · exact ⟨(Below.cell (by repeat (first | exact HR.out | refine blB_drewN ?_ _ | refine Below.drew ?_ | refine blB_alloc ?_ hBw _ | refine Below.setCell ?_ hB _)) hy).trans KX0.out, (Below.cell (p := ⟨py.block, py.off + 1, none⟩) (by repeat (first | exact HR.out | refine blB_drewN ?_ _ | refine Below.drew ?_ | refine blB_alloc ?_ hBw _ | refine Below.setCell ?_ hB _)) hy).trans KX1.out⟩
    clear hK K
    try simp only [Act.put, List.setIfInBounds_toArray, List.set_cons_zero, List.set_cons_succ]
    refine wpAnyH_ready (rs := [4]) (by kernel_rfl) (by simp) ?_
    refine AllReadyH.cons (o := { dst := some 27, op := Op.buildSlice 22 1 #[(0, Operand.tmp 26)], type := 22, pos := "vector.go:67", after := #[{ on := 3, ground := Ground.data }], guard := none }) rfl (fun K hK => ?_) (AllReadyH.nil)
    go_simp
    skip
    refine hK.out _ _ ?_ (fun hHeld => ?_)
    · exact ⟨(Below.cell (by repeat (first | exact HR.out | refine blB_drewN ?_ _ | refine Below.drew ?_ | refine blB_alloc ?_ hBw _ | refine Below.setCell ?_ hB _)) hy).trans KX0.out, (Below.cell (p := ⟨py.block, py.off + 1, none⟩) (by repeat (first | exact HR.out | refine blB_drewN ?_ _ | refine Below.drew ?_ | refine blB_alloc ?_ hBw _ | refine Below.setCell ?_ hB _)) hy).trans KX1.out⟩
    clear hK K
    try simp only [Act.put, List.setIfInBounds_toArray, List.set_cons_zero, List.set_cons_succ]
    refine wpAnyH_ready (rs := [5]) (by kernel_rfl) (by simp) ?_
    refine AllReadyH.cons (o := { dst := some 28, op := Op.call { callee := Callee.builtin Builtin.append, args := #[Operand.tmp 23, Operand.tmp 27], argTypes := #[22, 22] }, type := 22, pos := "vector.go:67", after := #[{ on := 0, ground := Ground.data }, { on := 4, ground := Ground.data }], guard := none }) rfl (fun K hK => ?_) (AllReadyH.nil)
    refine GR.step_one (K := dotK) rfl (.tmp 23) (.tmp 27) _ rfl Try.underlying22 hi0 hz0 hz1 hz2 rfl B _ acc y rfl (by repeat (first | exact HO.out | refine GR.Own.drewN ?_ _ | refine GR.Own.drew ?_ | refine GR.Own.alloc ?_ _)) _ rfl (by repeat (first | exact GR.rd_new _ rfl (by show 16 ≤ 140737488355328; omega) | refine GR.Rd.drewN ?_ _ | refine GR.Rd.drew ?_)) (by show (acc.length + 1) * 16 ≤ _; omega) (by simp; omega) ?_
    intro v3 w3 ho_ hg_ hat_
    obtain ⟨A3, n3, c3, rfl⟩ := own_slice ho_ (by show (acc ++ [y]).length * 16 ≤ _; rw [List.length_append]; exact hsz)
    have B3 : Hid (GR.Blk w3 g 22 #[v]) := Lib.hid (GR.Blk.grown (by repeat (first | exact BG.out | refine GR.Blk.drewN ?_ _ | refine GR.Blk.drew ?_ | refine GR.Blk.alloc ?_ _)) hg_ (Ne.symm (GR.own_blk_ne HO.out BG.out (by decide))))
    have HO3 := Lib.hid ho_
    have HR3 : Hid (Below B w w3) := Lib.hid (Below.grown (by repeat (first | exact HR.out | refine blB_drewN ?_ _ | refine Below.drew ?_ | refine blB_alloc ?_ hBw _ | refine Below.setCell ?_ hB _)) hg_ (by simp; omega) (fun b hb => (HO.out.lt b hb).1))
    clear HR
    have HR := HR3
    clear HR3 ho_ hg_ hat_
    have d0 : w3.cell? ⟨g, 0, none⟩ = some v := B3.out.cell 0
    have d1 := B3.out.frozen 0
    refine hK.out _ _ ?_ (fun hHeld => ?_)
    · exact ⟨(Below.cell (by repeat (first | exact HR.out | refine blB_drewN ?_ _ | refine Below.drew ?_ | refine blB_alloc ?_ hBw _ | refine Below.setCell ?_ hB _)) hy).trans KX0.out, (Below.cell (p := ⟨py.block, py.off + 1, none⟩) (by repeat (first | exact HR.out | refine blB_drewN ?_ _ | refine Below.drew ?_ | refine blB_alloc ?_ hBw _ | refine Below.setCell ?_ hB _)) hy).trans KX1.out⟩
    clear hK K
    try simp only [Act.put, List.setIfInBounds_toArray, List.set_cons_zero, List.set_cons_succ]
    refine wpAnyH_ready (rs := [6]) (by kernel_rfl) (by simp) ?_
    refine AllReadyH.cons (o := { dst := none, op := Op.store 22 (Operand.tmp 2) (Operand.tmp 28), type := 0, pos := "vector.go:67", after := #[{ on := 5, ground := Ground.data }, { on := 5, ground := Ground.chain }, { on := 0, ground := Ground.phase }, { on := 1, ground := Ground.phase }, { on := 2, ground := Ground.phase }, { on := 3, ground := Ground.phase }, { on := 4, ground := Ground.phase }, { on := 5, ground := Ground.phase }], guard := none }) rfl (fun K hK => ?_) (AllReadyH.nil)
    go_simp
    skip
    refine hK.out _ _ ?_ (fun hHeld => ?_)
    · exact ⟨(Below.cell (by repeat (first | exact HR.out | refine blB_drewN ?_ _ | refine Below.drew ?_ | refine blB_alloc ?_ hBw _ | refine Below.setCell ?_ hB _)) hy).trans KX0.out, (Below.cell (p := ⟨py.block, py.off + 1, none⟩) (by repeat (first | exact HR.out | refine blB_drewN ?_ _ | refine Below.drew ?_ | refine blB_alloc ?_ hBw _ | refine Below.setCell ?_ hB _)) hy).trans KX1.out⟩
    clear hK K
    try simp only [Act.put, List.setIfInBounds_toArray, List.set_cons_zero, List.set_cons_succ]
    refine wpAnyH_done (by kernel_rfl) ?_ _
    go_wp2
    go_end0
    exact ⟨rfl, ⟨_, B3.out.set_ 0 _, own_far HO3.out B3.out _ (by decide)⟩, (by repeat (first | exact HR.out | refine blB_drewN ?_ _ | refine Below.drew ?_ | refine blB_alloc ?_ hBw _ | refine Below.setCell ?_ hB _))⟩
  · skip
    go_simp
    skip
    refine hK.out _ _ ?_ (fun hHeld => ?_)
    · exact ⟨(Below.cell (by repeat (first | exact HR.out | refine blB_drewN ?_ _ | refine Below.drew ?_ | refine blB_alloc ?_ hBw _ | refine Below.setCell ?_ hB _)) hy).trans KX0.out, (Below.cell (p := ⟨py.block, py.off + 1, none⟩) (by repeat (first | exact HR.out | refine blB_drewN ?_ _ | refine Below.drew ?_ | refine blB_alloc ?_ hBw _ | refine Below.setCell ?_ hB _)) hy).trans KX1.out⟩
    clear hK K
    try simp only [Act.put, List.setIfInBounds_toArray, List.set_cons_zero, List.set_cons_succ]
    refine wpAnyH_ready (rs := [0]) (by kernel_rfl) (by simp) ?_
    refine AllReadyH.cons (o := { dst := some 23, op := Op.load 22 (Operand.tmp 2), type := 22, pos := "vector.go:67", after := #[], guard := none }) rfl (fun K hK => ?_) (AllReadyH.nil)
    go_simp
    skip
    refine hK.out _ _ ?_ (fun hHeld => ?_)
    · exact ⟨(Below.cell (by repeat (first | exact HR.out | refine blB_drewN ?_ _ | refine Below.drew ?_ | refine blB_alloc ?_ hBw _ | refine Below.setCell ?_ hB _)) hy).trans KX0.out, (Below.cell (p := ⟨py.block, py.off + 1, none⟩) (by repeat (first | exact HR.out | refine blB_drewN ?_ _ | refine Below.drew ?_ | refine blB_alloc ?_ hBw _ | refine Below.setCell ?_ hB _)) hy).trans KX1.out⟩
    clear hK K
    try simp only [Act.put, List.setIfInBounds_toArray, List.set_cons_zero, List.set_cons_succ]
    refine wpAnyH_ready (rs := [5]) (by kernel_rfl) (by simp) ?_
    refine AllReadyH.cons (o := { dst := some 28, op := Op.call { callee := Callee.builtin Builtin.append, args := #[Operand.tmp 23, Operand.tmp 27], argTypes := #[22, 22] }, type := 22, pos := "vector.go:67", after := #[{ on := 0, ground := Ground.data }, { on := 4, ground := Ground.data }], guard := none }) rfl (fun K hK => ?_) (AllReadyH.nil)
    refine GR.step_one (K := dotK) rfl (.tmp 23) (.tmp 27) _ rfl Try.underlying22 hi0 hz0 hz1 hz2 rfl B _ acc y rfl (by repeat (first | exact HO.out | refine GR.Own.drewN ?_ _ | refine GR.Own.drew ?_ | refine GR.Own.alloc ?_ _)) _ rfl (by repeat (first | exact GR.rd_new _ rfl (by show 16 ≤ 140737488355328; omega) | refine GR.Rd.drewN ?_ _ | refine GR.Rd.drew ?_)) (by show (acc.length + 1) * 16 ≤ _; omega) (by simp; omega) ?_
    intro v3 w3 ho_ hg_ hat_
    obtain ⟨A3, n3, c3, rfl⟩ := own_slice ho_ (by show (acc ++ [y]).length * 16 ≤ _; rw [List.length_append]; exact hsz)
    have B3 : Hid (GR.Blk w3 g 22 #[v]) := Lib.hid (GR.Blk.grown (by repeat (first | exact BG.out | refine GR.Blk.drewN ?_ _ | refine GR.Blk.drew ?_ | refine GR.Blk.alloc ?_ _)) hg_ (Ne.symm (GR.own_blk_ne HO.out BG.out (by decide))))
    have HO3 := Lib.hid ho_
    have HR3 : Hid (Below B w w3) := Lib.hid (Below.grown (by repeat (first | exact HR.out | refine blB_drewN ?_ _ | refine Below.drew ?_ | refine blB_alloc ?_ hBw _ | refine Below.setCell ?_ hB _)) hg_ (by simp; omega) (fun b hb => (HO.out.lt b hb).1))
    clear HR
    have HR := HR3
    clear HR3 ho_ hg_ hat_
    have d0 : w3.cell? ⟨g, 0, none⟩ = some v := B3.out.cell 0
    have d1 := B3.out.frozen 0
    refine hK.out _ _ ?_ (fun hHeld => ?_)
    · exact ⟨(Below.cell (by repeat (first | exact HR.out | refine blB_drewN ?_ _ | refine Below.drew ?_ | refine blB_alloc ?_ hBw _ | refine Below.setCell ?_ hB _)) hy).trans KX0.out, (Below.cell (p := ⟨py.block, py.off + 1, none⟩) (by repeat (first | exact HR.out | refine blB_drewN ?_ _ | refine Below.drew ?_ | refine blB_alloc ?_ hBw _ | refine Below.setCell ?_ hB _)) hy).trans KX1.out⟩
    clear hK K
    try simp only [Act.put, List.setIfInBounds_toArray, List.set_cons_zero, List.set_cons_succ]
    refine wpAnyH_ready (rs := [6]) (by kernel_rfl) (by simp) ?_
    refine AllReadyH.cons (o := { dst := none, op := Op.store 22 (Operand.tmp 2) (Operand.tmp 28), type := 0, pos := "vector.go:67", after := #[{ on := 5, ground := Ground.data }, { on := 5, ground := Ground.chain }, { on := 0, ground := Ground.phase }, { on := 1, ground := Ground.phase }, { on := 2, ground := Ground.phase }, { on := 3, ground := Ground.phase }, { on := 4, ground := Ground.phase }, { on := 5, ground := Ground.phase }], guard := none }) rfl (fun K hK => ?_) (AllReadyH.nil)
    go_simp
    skip
    refine hK.out _ _ ?_ (fun hHeld => ?_)
    · exact ⟨(Below.cell (by repeat (first | exact HR.out | refine blB_drewN ?_ _ | refine Below.drew ?_ | refine blB_alloc ?_ hBw _ | refine Below.setCell ?_ hB _)) hy).trans KX0.out, (Below.cell (p := ⟨py.block, py.off + 1, none⟩) (by repeat (first | exact HR.out | refine blB_drewN ?_ _ | refine Below.drew ?_ | refine blB_alloc ?_ hBw _ | refine Below.setCell ?_ hB _)) hy).trans KX1.out⟩
    clear hK K
    try simp only [Act.put, List.setIfInBounds_toArray, List.set_cons_zero, List.set_cons_succ]
    refine wpAnyH_done (by kernel_rfl) ?_ _
    go_wp2
    go_end0
    exact ⟨rfl, ⟨_, B3.out.set_ 0 _, own_far HO3.out B3.out _ (by decide)⟩, (by repeat (first | exact HR.out | refine blB_drewN ?_ _ | refine Below.drew ?_ | refine blB_alloc ?_ hBw _ | refine Below.setCell ?_ hB _))⟩
set_option maxRecDepth 100000 in
set_option maxHeartbeats 3200000 in
theorem max_both_x (B g : Nat) (v : Value) (acc : List Dot) (w : World) (px : Addr) (x : Dot) (hx : px.block < B) (x0 : w.cell? px = some (.int .u32 x.a)) (x1 : w.cell? ⟨px.block, px.off + 1, none⟩ = some (.int .u64 x.n)) (py : Addr) (y : Dot) (hy : py.block < B) (y0 : w.cell? py = some (.int .u32 y.a)) (y1 : w.cell? ⟨py.block, py.off + 1, none⟩ = some (.int .u64 y.n)) (hq : y.n ≤ x.n)
    (hB : B ≤ g) (bg : GR.Blk w g 22 #[v]) (ho : GR.Own dotK w B v acc) (hsz : (acc.length + 1) * 16 ≤ 140737488355328) :
    Calls Try.prog 112 #[.pointer (some px), .pointer (some py), .pointer (some ⟨g, 0, none⟩)] w fun e w' => e = .returned (.tuple #[]) ∧ (∃ v', GR.Blk w' g 22 #[v'] ∧ GR.Own dotK w' B v' (acc ++ [x])) ∧ Below B w w' := by
  obtain ⟨i0, hi0, hz0, hz1, hz2⟩ := info_parts dot_info
  have lg := bg.lt
  have ng : g ≠ w.heap.size := Nat.ne_of_lt lg
  have hBw : B ≤ w.heap.size := Nat.le_trans hB (Nat.le_of_lt lg)
  have c0 : w.cell? ⟨g, 0, none⟩ = some v := bg.cell 0
  have c2 : ∀ n, ((w.drewN n).alloc (.cells #[.int .u32 x.a, .int .u64 x.n] 41)).cell? ⟨g, 0, none⟩ = some v := fun n => ((bg.drewN n).alloc _).cell 0
  have KX0 := Lib.hid x0
  have KX1 := Lib.hid x1
  have HR := Lib.hid (Below.refl B w)
  have q0 : decide (x.n < y.n) = false := by simp; omega
  clear hq
  have BG := Lib.hid bg
  have HO := Lib.hid ho
  clear bg ho
  go_enter Try.func112, Try.ntmps112
  go_wp2
  go_quiet (fail)
  go_wp2
  refine wp_region_held_drew (S := fun w' => w'.cell? px = some (.int .u32 x.a) ∧ w'.cell? ⟨px.block, px.off + 1, none⟩ = some (.int .u64 x.n)) (by kernel_rfl) ?_ (fun hHeld => ?_)
  · exact ⟨KX0.out, KX1.out⟩
  refine wpAnyH_take (i := 1) (oi := { dst := some 24, op := Op.move (Operand.tmp 0), type := 142, pos := "vector.go:67", after := #[], guard := none }) (v := ?_) rfl (by kernel_rfl) (by kernel_rfl) (by kernel_rfl) (fun _ _ _ h => h) (Or.inl ⟨by rfl, ?_⟩) (by assumption) ?_
  rotate_left
  · intro w_ hSw
    (try dsimp only at hSw)
    go_simp
    first | done | with_reducible rfl
  try simp only [Act.put, List.setIfInBounds_toArray, List.set_cons_zero, List.set_cons_succ]
  refine wpAnyH_take (i := 2) (oi := { dst := some 25, op := Op.nilCheck (Operand.tmp 24), type := 0, pos := "vector.go:67", after := #[{ on := 1, ground := Ground.data }], guard := none }) (v := ?_) rfl (by kernel_rfl) (by kernel_rfl) (by kernel_rfl) (fun _ _ _ h => h) (Or.inl ⟨by rfl, ?_⟩) (by assumption) ?_
  rotate_left
  · intro w_ hSw
    (try dsimp only at hSw)
    go_simp
    first | done | with_reducible rfl
  try simp only [Act.put, List.setIfInBounds_toArray, List.set_cons_zero, List.set_cons_succ]
  refine wpAnyH_take (i := 3) (oi := { dst := some 26, op := Op.load 41 (Operand.tmp 25), type := 41, pos := "vector.go:67", after := #[{ on := 2, ground := Ground.data }], guard := none }) (v := ?_) rfl (by kernel_rfl) (by kernel_rfl) (by kernel_rfl) (fun _ _ _ h => h) (Or.inl ⟨by rfl, ?_⟩) (by assumption) ?_
  rotate_left
  · intro w_ hSw
    (try dsimp only at hSw)
    go_simp
    first | done | with_reducible rfl
  try simp only [Act.put, List.setIfInBounds_toArray, List.set_cons_zero, List.set_cons_succ]
  refine wpAnyH_ready (rs := [0, 4]) (by kernel_rfl) (by simp) ?_
  refine AllReadyH.cons (o := { dst := some 23, op := Op.load 22 (Operand.tmp 2), type := 22, pos := "vector.go:67", after := #[], guard := none }) rfl (fun K hK => ?_) (AllReadyH.cons (o := { dst := some 27, op := Op.buildSlice 22 1 #[(0, Operand.tmp 26)], type := 22, pos := "vector.go:67", after := #[{ on := 3, ground := Ground.data }], guard := none }) rfl (fun K hK => ?_) (AllReadyH.nil))
  · skip
    go_simp
    skip
    refine hK.out _ _ ?_ (fun hHeld => ?_)
    · exact ⟨(Below.cell (by repeat (first | exact HR.out | refine blB_drewN ?_ _ | refine Below.drew ?_ | refine blB_alloc ?_ hBw _ | refine Below.setCell ?_ hB _)) hx).trans KX0.out, (Below.cell (p := ⟨px.block, px.off + 1, none⟩) (by repeat (first | exact HR.out | refine blB_drewN ?_ _ | refine Below.drew ?_ | refine blB_alloc ?_ hBw _ | refine Below.setCell ?_ hB _)) hx).trans KX1.out⟩
    clear hK K
    try simp only [Act.put, List.setIfInBounds_toArray, List.set_cons_zero, List.set_cons_succ]
    refine wpAnyH_ready (rs := [4]) (by kernel_rfl) (by simp) ?_
    refine AllReadyH.cons (o := { dst := some 27, op := Op.buildSlice 22 1 #[(0, Operand.tmp 26)], type := 22, pos := "vector.go:67", after := #[{ on := 3, ground := Ground.data }], guard := none }) rfl (fun K hK => ?_) (AllReadyH.nil)
    go_simp
    skip
    refine hK.out _ _ ?_ (fun hHeld => ?_)
    · exact ⟨(Below.cell (by repeat (first | exact HR.out | refine blB_drewN ?_ _ | refine Below.drew ?_ | refine blB_alloc ?_ hBw _ | refine Below.setCell ?_ hB _)) hx).trans KX0.out, (Below.cell (p := ⟨px.block, px.off + 1, none⟩) (by repeat (first | exact HR.out | refine blB_drewN ?_ _ | refine Below.drew ?_ | refine blB_alloc ?_ hBw _ | refine Below.setCell ?_ hB _)) hx).trans KX1.out⟩
    clear hK K
    try simp only [Act.put, List.setIfInBounds_toArray, List.set_cons_zero, List.set_cons_succ]
    refine wpAnyH_ready (rs := [5]) (by kernel_rfl) (by simp) ?_
    refine AllReadyH.cons (o := { dst := some 28, op := Op.call { callee := Callee.builtin Builtin.append, args := #[Operand.tmp 23, Operand.tmp 27], argTypes := #[22, 22] }, type := 22, pos := "vector.go:67", after := #[{ on := 0, ground := Ground.data }, { on := 4, ground := Ground.data }], guard := none }) rfl (fun K hK => ?_) (AllReadyH.nil)
    refine GR.step_one (K := dotK) rfl (.tmp 23) (.tmp 27) _ rfl Try.underlying22 hi0 hz0 hz1 hz2 rfl B _ acc x rfl (by repeat (first | exact HO.out | refine GR.Own.drewN ?_ _ | refine GR.Own.drew ?_ | refine GR.Own.alloc ?_ _)) _ rfl (by repeat (first | exact GR.rd_new _ rfl (by show 16 ≤ 140737488355328; omega) | refine GR.Rd.drewN ?_ _ | refine GR.Rd.drew ?_)) (by show (acc.length + 1) * 16 ≤ _; omega) (by simp; omega) ?_
    intro v3 w3 ho_ hg_ hat_
    obtain ⟨A3, n3, c3, rfl⟩ := own_slice ho_ (by show (acc ++ [x]).length * 16 ≤ _; rw [List.length_append]; exact hsz)
    have B3 : Hid (GR.Blk w3 g 22 #[v]) := Lib.hid (GR.Blk.grown (by repeat (first | exact BG.out | refine GR.Blk.drewN ?_ _ | refine GR.Blk.drew ?_ | refine GR.Blk.alloc ?_ _)) hg_ (Ne.symm (GR.own_blk_ne HO.out BG.out (by decide))))
    have HO3 := Lib.hid ho_
    have HR3 : Hid (Below B w w3) := Lib.hid (Below.grown (by repeat (first | exact HR.out | refine blB_drewN ?_ _ | refine Below.drew ?_ | refine blB_alloc ?_ hBw _ | refine Below.setCell ?_ hB _)) hg_ (by simp; omega) (fun b hb => (HO.out.lt b hb).1))
    clear HR
    have HR := HR3
    clear HR3 ho_ hg_ hat_
    have d0 : w3.cell? ⟨g, 0, none⟩ = some v := B3.out.cell 0
    have d1 := B3.out.frozen 0
    refine hK.out _ _ ?_ (fun hHeld => ?_)
    · exact ⟨(Below.cell (by repeat (first | exact HR.out | refine blB_drewN ?_ _ | refine Below.drew ?_ | refine blB_alloc ?_ hBw _ | refine Below.setCell ?_ hB _)) hx).trans KX0.out, (Below.cell (p := ⟨px.block, px.off + 1, none⟩) (by repeat (first | exact HR.out | refine blB_drewN ?_ _ | refine Below.drew ?_ | refine blB_alloc ?_ hBw _ | refine Below.setCell ?_ hB _)) hx).trans KX1.out⟩
    clear hK K
    try simp only [Act.put, List.setIfInBounds_toArray, List.set_cons_zero, List.set_cons_succ]
    refine wpAnyH_ready (rs := [6]) (by kernel_rfl) (by simp) ?_
    refine AllReadyH.cons (o := { dst := none, op := Op.store 22 (Operand.tmp 2) (Operand.tmp 28), type := 0, pos := "vector.go:67", after := #[{ on := 5, ground := Ground.data }, { on := 5, ground := Ground.chain }, { on := 0, ground := Ground.phase }, { on := 1, ground := Ground.phase }, { on := 2, ground := Ground.phase }, { on := 3, ground := Ground.phase }, { on := 4, ground := Ground.phase }, { on := 5, ground := Ground.phase }], guard := none }) rfl (fun K hK => ?_) (AllReadyH.nil)
    go_simp
    skip
    refine hK.out _ _ ?_ (fun hHeld => ?_)
    · exact ⟨(Below.cell (by repeat (first | exact HR.out | refine blB_drewN ?_ _ | refine Below.drew ?_ | refine blB_alloc ?_ hBw _ | refine Below.setCell ?_ hB _)) hx).trans KX0.out, (Below.cell (p := ⟨px.block, px.off + 1, none⟩) (by repeat (first | exact HR.out | refine blB_drewN ?_ _ | refine Below.drew ?_ | refine blB_alloc ?_ hBw _ | refine Below.setCell ?_ hB _)) hx).trans KX1.out⟩
    clear hK K
    try simp only [Act.put, List.setIfInBounds_toArray, List.set_cons_zero, List.set_cons_succ]
    refine wpAnyH_done (by kernel_rfl) ?_ _
    go_wp2
    go_end0
    exact ⟨rfl, ⟨_, B3.out.set_ 0 _, own_far HO3.out B3.out _ (by decide)⟩, (by repeat (first | exact HR.out | refine blB_drewN ?_ _ | refine Below.drew ?_ | refine blB_alloc ?_ hBw _ | refine Below.setCell ?_ hB _))⟩
  · skip
    go_simp
    skip
    refine hK.out _ _ ?_ (fun hHeld => ?_)
    · exact ⟨(Below.cell (by repeat (first | exact HR.out | refine blB_drewN ?_ _ | refine Below.drew ?_ | refine blB_alloc ?_ hBw _ | refine Below.setCell ?_ hB _)) hx).trans KX0.out, (Below.cell (p := ⟨px.block, px.off + 1, none⟩) (by repeat (first | exact HR.out | refine blB_drewN ?_ _ | refine Below.drew ?_ | refine blB_alloc ?_ hBw _ | refine Below.setCell ?_ hB _)) hx).trans KX1.out⟩
    clear hK K
    try simp only [Act.put, List.setIfInBounds_toArray, List.set_cons_zero, List.set_cons_succ]
    refine wpAnyH_ready (rs := [0]) (by kernel_rfl) (by simp) ?_
    refine AllReadyH.cons (o := { dst := some 23, op := Op.load 22 (Operand.tmp 2), type := 22, pos := "vector.go:67", after := #[], guard := none }) rfl (fun K hK => ?_) (AllReadyH.nil)
    go_simp
    skip
    refine hK.out _ _ ?_ (fun hHeld => ?_)
    · exact ⟨(Below.cell (by repeat (first | exact HR.out | refine blB_drewN ?_ _ | refine Below.drew ?_ | refine blB_alloc ?_ hBw _ | refine Below.setCell ?_ hB _)) hx).trans KX0.out, (Below.cell (p := ⟨px.block, px.off + 1, none⟩) (by repeat (first | exact HR.out | refine blB_drewN ?_ _ | refine Below.drew ?_ | refine blB_alloc ?_ hBw _ | refine Below.setCell ?_ hB _)) hx).trans KX1.out⟩
    clear hK K
    try simp only [Act.put, List.setIfInBounds_toArray, List.set_cons_zero, List.set_cons_succ]
    refine wpAnyH_ready (rs := [5]) (by kernel_rfl) (by simp) ?_
    refine AllReadyH.cons (o := { dst := some 28, op := Op.call { callee := Callee.builtin Builtin.append, args := #[Operand.tmp 23, Operand.tmp 27], argTypes := #[22, 22] }, type := 22, pos := "vector.go:67", after := #[{ on := 0, ground := Ground.data }, { on := 4, ground := Ground.data }], guard := none }) rfl (fun K hK => ?_) (AllReadyH.nil)
    refine GR.step_one (K := dotK) rfl (.tmp 23) (.tmp 27) _ rfl Try.underlying22 hi0 hz0 hz1 hz2 rfl B _ acc x rfl (by repeat (first | exact HO.out | refine GR.Own.drewN ?_ _ | refine GR.Own.drew ?_ | refine GR.Own.alloc ?_ _)) _ rfl (by repeat (first | exact GR.rd_new _ rfl (by show 16 ≤ 140737488355328; omega) | refine GR.Rd.drewN ?_ _ | refine GR.Rd.drew ?_)) (by show (acc.length + 1) * 16 ≤ _; omega) (by simp; omega) ?_
    intro v3 w3 ho_ hg_ hat_
    obtain ⟨A3, n3, c3, rfl⟩ := own_slice ho_ (by show (acc ++ [x]).length * 16 ≤ _; rw [List.length_append]; exact hsz)
    have B3 : Hid (GR.Blk w3 g 22 #[v]) := Lib.hid (GR.Blk.grown (by repeat (first | exact BG.out | refine GR.Blk.drewN ?_ _ | refine GR.Blk.drew ?_ | refine GR.Blk.alloc ?_ _)) hg_ (Ne.symm (GR.own_blk_ne HO.out BG.out (by decide))))
    have HO3 := Lib.hid ho_
    have HR3 : Hid (Below B w w3) := Lib.hid (Below.grown (by repeat (first | exact HR.out | refine blB_drewN ?_ _ | refine Below.drew ?_ | refine blB_alloc ?_ hBw _ | refine Below.setCell ?_ hB _)) hg_ (by simp; omega) (fun b hb => (HO.out.lt b hb).1))
    clear HR
    have HR := HR3
    clear HR3 ho_ hg_ hat_
    have d0 : w3.cell? ⟨g, 0, none⟩ = some v := B3.out.cell 0
    have d1 := B3.out.frozen 0
    refine hK.out _ _ ?_ (fun hHeld => ?_)
    · exact ⟨(Below.cell (by repeat (first | exact HR.out | refine blB_drewN ?_ _ | refine Below.drew ?_ | refine blB_alloc ?_ hBw _ | refine Below.setCell ?_ hB _)) hx).trans KX0.out, (Below.cell (p := ⟨px.block, px.off + 1, none⟩) (by repeat (first | exact HR.out | refine blB_drewN ?_ _ | refine Below.drew ?_ | refine blB_alloc ?_ hBw _ | refine Below.setCell ?_ hB _)) hx).trans KX1.out⟩
    clear hK K
    try simp only [Act.put, List.setIfInBounds_toArray, List.set_cons_zero, List.set_cons_succ]
    refine wpAnyH_ready (rs := [6]) (by kernel_rfl) (by simp) ?_
    refine AllReadyH.cons (o := { dst := none, op := Op.store 22 (Operand.tmp 2) (Operand.tmp 28), type := 0, pos := "vector.go:67", after := #[{ on := 5, ground := Ground.data }, { on := 5, ground := Ground.chain }, { on := 0, ground := Ground.phase }, { on := 1, ground := Ground.phase }, { on := 2, ground := Ground.phase }, { on := 3, ground := Ground.phase }, { on := 4, ground := Ground.phase }, { on := 5, ground := Ground.phase }], guard := none }) rfl (fun K hK => ?_) (AllReadyH.nil)
    go_simp
    skip
    refine hK.out _ _ ?_ (fun hHeld => ?_)
    · exact ⟨(Below.cell (by repeat (first | exact HR.out | refine blB_drewN ?_ _ | refine Below.drew ?_ | refine blB_alloc ?_ hBw _ | refine Below.setCell ?_ hB _)) hx).trans KX0.out, (Below.cell (p := ⟨px.block, px.off + 1, none⟩) (by repeat (first | exact HR.out | refine blB_drewN ?_ _ | refine Below.drew ?_ | refine blB_alloc ?_ hBw _ | refine Below.setCell ?_ hB _)) hx).trans KX1.out⟩
    clear hK K
    try simp only [Act.put, List.setIfInBounds_toArray, List.set_cons_zero, List.set_cons_succ]
    refine wpAnyH_done (by kernel_rfl) ?_ _
    go_wp2
    go_end0
    exact ⟨rfl, ⟨_, B3.out.set_ 0 _, own_far HO3.out B3.out _ (by decide)⟩, (by repeat (first | exact HR.out | refine blB_drewN ?_ _ | refine Below.drew ?_ | refine blB_alloc ?_ hBw _ | refine Below.setCell ?_ hB _))⟩
set_option maxRecDepth 100000 in
set_option maxHeartbeats 3200000 in
theorem max_both_y (B g : Nat) (v : Value) (acc : List Dot) (w : World) (px : Addr) (x : Dot) (hx : px.block < B) (x0 : w.cell? px = some (.int .u32 x.a)) (x1 : w.cell? ⟨px.block, px.off + 1, none⟩ = some (.int .u64 x.n)) (py : Addr) (y : Dot) (hy : py.block < B) (y0 : w.cell? py = some (.int .u32 y.a)) (y1 : w.cell? ⟨py.block, py.off + 1, none⟩ = some (.int .u64 y.n)) (hq : x.n < y.n)
    (hB : B ≤ g) (bg : GR.Blk w g 22 #[v]) (ho : GR.Own dotK w B v acc) (hsz : (acc.length + 1) * 16 ≤ 140737488355328) :
    Calls Try.prog 112 #[.pointer (some px), .pointer (some py), .pointer (some ⟨g, 0, none⟩)] w fun e w' => e = .returned (.tuple #[]) ∧ (∃ v', GR.Blk w' g 22 #[v'] ∧ GR.Own dotK w' B v' (acc ++ [y])) ∧ Below B w w' := by
  obtain ⟨i0, hi0, hz0, hz1, hz2⟩ := info_parts dot_info
  have lg := bg.lt
  have ng : g ≠ w.heap.size := Nat.ne_of_lt lg
  have hBw : B ≤ w.heap.size := Nat.le_trans hB (Nat.le_of_lt lg)
  have c0 : w.cell? ⟨g, 0, none⟩ = some v := bg.cell 0
  have c2 : ∀ n, ((w.drewN n).alloc (.cells #[.int .u32 y.a, .int .u64 y.n] 41)).cell? ⟨g, 0, none⟩ = some v := fun n => ((bg.drewN n).alloc _).cell 0
  have KX0 := Lib.hid y0
  have KX1 := Lib.hid y1
  have HR := Lib.hid (Below.refl B w)
  have q0 : decide (x.n < y.n) = true := by simpa using hq
  clear hq
  have BG := Lib.hid bg
  have HO := Lib.hid ho
  clear bg ho
  go_enter Try.func112, Try.ntmps112
  go_wp2
  go_quiet (fail)
  go_wp2
  refine wp_region_held_drew (S := fun w' => w'.cell? py = some (.int .u32 y.a) ∧ w'.cell? ⟨py.block, py.off + 1, none⟩ = some (.int .u64 y.n)) (by kernel_rfl) ?_ (fun hHeld => ?_)
  · exact ⟨KX0.out, KX1.out⟩
  refine wpAnyH_take (i := 1) (oi := { dst := some 24, op := Op.move (Operand.tmp 0), type := 142, pos := "vector.go:67", after := #[], guard := none }) (v := ?_) rfl (by kernel_rfl) (by kernel_rfl) (by kernel_rfl) (fun _ _ _ h => h) (Or.inl ⟨by rfl, ?_⟩) (by assumption) ?_
  rotate_left
  · intro w_ hSw
    (try dsimp only at hSw)
    go_simp
    first | done | with_reducible rfl
  try simp only [Act.put, List.setIfInBounds_toArray, List.set_cons_zero, List.set_cons_succ]
  refine wpAnyH_take (i := 2) (oi := { dst := some 25, op := Op.nilCheck (Operand.tmp 24), type := 0, pos := "vector.go:67", after := #[{ on := 1, ground := Ground.data }], guard := none }) (v := ?_) rfl (by kernel_rfl) (by kernel_rfl) (by kernel_rfl) (fun _ _ _ h => h) (Or.inl ⟨by rfl, ?_⟩) (by assumption) ?_
  rotate_left
  · intro w_ hSw
    (try dsimp only at hSw)
    go_simp
    first | done | with_reducible rfl
  try simp only [Act.put, List.setIfInBounds_toArray, List.set_cons_zero, List.set_cons_succ]
  refine wpAnyH_take (i := 3) (oi := { dst := some 26, op := Op.load 41 (Operand.tmp 25), type := 41, pos := "vector.go:67", after := #[{ on := 2, ground := Ground.data }], guard := none }) (v := ?_) rfl (by kernel_rfl) (by kernel_rfl) (by kernel_rfl) (fun _ _ _ h => h) (Or.inl ⟨by rfl, ?_⟩) (by assumption) ?_
  rotate_left
  · intro w_ hSw
    (try dsimp only at hSw)
    go_simp
    first | done | with_reducible rfl
  try simp only [Act.put, List.setIfInBounds_toArray, List.set_cons_zero, List.set_cons_succ]
  refine wpAnyH_ready (rs := [0, 4]) (by kernel_rfl) (by simp) ?_
  refine AllReadyH.cons (o := { dst := some 23, op := Op.load 22 (Operand.tmp 2), type := 22, pos := "vector.go:67", after := #[], guard := none }) rfl (fun K hK => ?_) (AllReadyH.cons (o := { dst := some 27, op := Op.buildSlice 22 1 #[(0, Operand.tmp 26)], type := 22, pos := "vector.go:67", after := #[{ on := 3, ground := Ground.data }], guard := none }) rfl (fun K hK => ?_) (AllReadyH.nil))
  · skip
    go_simp
    skip
    refine hK.out _ _ ?_ (fun hHeld => ?_)
    · exact ⟨(Below.cell (by repeat (first | exact HR.out | refine blB_drewN ?_ _ | refine Below.drew ?_ | refine blB_alloc ?_ hBw _ | refine Below.setCell ?_ hB _)) hy).trans KX0.out, (Below.cell (p := ⟨py.block, py.off + 1, none⟩) (by repeat (first | exact HR.out | refine blB_drewN ?_ _ | refine Below.drew ?_ | refine blB_alloc ?_ hBw _ | refine Below.setCell ?_ hB _)) hy).trans KX1.out⟩
    clear hK K
    try simp only [Act.put, List.setIfInBounds_toArray, List.set_cons_zero, List.set_cons_succ]
    refine wpAnyH_ready (rs := [4]) (by kernel_rfl) (by simp) ?_
    refine AllReadyH.cons (o := { dst := some 27, op := Op.buildSlice 22 1 #[(0, Operand.tmp 26)], type := 22, pos := "vector.go:67", after := #[{ on := 3, ground := Ground.data }], guard := none }) rfl (fun K hK => ?_) (AllReadyH.nil)
    go_simp
    skip
    refine hK.out _ _ ?_ (fun hHeld => ?_)
    · exact ⟨(Below.cell (by repeat (first | exact HR.out | refine blB_drewN ?_ _ | refine Below.drew ?_ | refine blB_alloc ?_ hBw _ | refine Below.setCell ?_ hB _)) hy).trans KX0.out, (Below.cell (p := ⟨py.block, py.off + 1, none⟩) (by repeat (first | exact HR.out | refine blB_drewN ?_ _ | refine Below.drew ?_ | refine blB_alloc ?_ hBw _ | refine Below.setCell ?_ hB _)) hy).trans KX1.out⟩
    clear hK K
    try simp only [Act.put, List.setIfInBounds_toArray, List.set_cons_zero, List.set_cons_succ]
    refine wpAnyH_ready (rs := [5]) (by kernel_rfl) (by simp) ?_
    refine AllReadyH.cons (o := { dst := some 28, op := Op.call { callee := Callee.builtin Builtin.append, args := #[Operand.tmp 23, Operand.tmp 27], argTypes := #[22, 22] }, type := 22, pos := "vector.go:67", after := #[{ on := 0, ground := Ground.data }, { on := 4, ground := Ground.data }], guard := none }) rfl (fun K hK => ?_) (AllReadyH.nil)
    refine GR.step_one (K := dotK) rfl (.tmp 23) (.tmp 27) _ rfl Try.underlying22 hi0 hz0 hz1 hz2 rfl B _ acc y rfl (by repeat (first | exact HO.out | refine GR.Own.drewN ?_ _ | refine GR.Own.drew ?_ | refine GR.Own.alloc ?_ _)) _ rfl (by repeat (first | exact GR.rd_new _ rfl (by show 16 ≤ 140737488355328; omega) | refine GR.Rd.drewN ?_ _ | refine GR.Rd.drew ?_)) (by show (acc.length + 1) * 16 ≤ _; omega) (by simp; omega) ?_
    intro v3 w3 ho_ hg_ hat_
    obtain ⟨A3, n3, c3, rfl⟩ := own_slice ho_ (by show (acc ++ [y]).length * 16 ≤ _; rw [List.length_append]; exact hsz)
    have B3 : Hid (GR.Blk w3 g 22 #[v]) := Lib.hid (GR.Blk.grown (by repeat (first | exact BG.out | refine GR.Blk.drewN ?_ _ | refine GR.Blk.drew ?_ | refine GR.Blk.alloc ?_ _)) hg_ (Ne.symm (GR.own_blk_ne HO.out BG.out (by decide))))
    have HO3 := Lib.hid ho_
    have HR3 : Hid (Below B w w3) := Lib.hid (Below.grown (by repeat (first | exact HR.out | refine blB_drewN ?_ _ | refine Below.drew ?_ | refine blB_alloc ?_ hBw _ | refine Below.setCell ?_ hB _)) hg_ (by simp; omega) (fun b hb => (HO.out.lt b hb).1))
    clear HR
    have HR := HR3
    clear HR3 ho_ hg_ hat_
    have d0 : w3.cell? ⟨g, 0, none⟩ = some v := B3.out.cell 0
    have d1 := B3.out.frozen 0
    refine hK.out _ _ ?_ (fun hHeld => ?_)
    · exact ⟨(Below.cell (by repeat (first | exact HR.out | refine blB_drewN ?_ _ | refine Below.drew ?_ | refine blB_alloc ?_ hBw _ | refine Below.setCell ?_ hB _)) hy).trans KX0.out, (Below.cell (p := ⟨py.block, py.off + 1, none⟩) (by repeat (first | exact HR.out | refine blB_drewN ?_ _ | refine Below.drew ?_ | refine blB_alloc ?_ hBw _ | refine Below.setCell ?_ hB _)) hy).trans KX1.out⟩
    clear hK K
    try simp only [Act.put, List.setIfInBounds_toArray, List.set_cons_zero, List.set_cons_succ]
    refine wpAnyH_ready (rs := [6]) (by kernel_rfl) (by simp) ?_
    refine AllReadyH.cons (o := { dst := none, op := Op.store 22 (Operand.tmp 2) (Operand.tmp 28), type := 0, pos := "vector.go:67", after := #[{ on := 5, ground := Ground.data }, { on := 5, ground := Ground.chain }, { on := 0, ground := Ground.phase }, { on := 1, ground := Ground.phase }, { on := 2, ground := Ground.phase }, { on := 3, ground := Ground.phase }, { on := 4, ground := Ground.phase }, { on := 5, ground := Ground.phase }], guard := none }) rfl (fun K hK => ?_) (AllReadyH.nil)
    go_simp
    skip
    refine hK.out _ _ ?_ (fun hHeld => ?_)
    · exact ⟨(Below.cell (by repeat (first | exact HR.out | refine blB_drewN ?_ _ | refine Below.drew ?_ | refine blB_alloc ?_ hBw _ | refine Below.setCell ?_ hB _)) hy).trans KX0.out, (Below.cell (p := ⟨py.block, py.off + 1, none⟩) (by repeat (first | exact HR.out | refine blB_drewN ?_ _ | refine Below.drew ?_ | refine blB_alloc ?_ hBw _ | refine Below.setCell ?_ hB _)) hy).trans KX1.out⟩
    clear hK K
    try simp only [Act.put, List.setIfInBounds_toArray, List.set_cons_zero, List.set_cons_succ]
    refine wpAnyH_done (by kernel_rfl) ?_ _
    go_wp2
    go_end0
    exact ⟨rfl, ⟨_, B3.out.set_ 0 _, own_far HO3.out B3.out _ (by decide)⟩, (by repeat (first | exact HR.out | refine blB_drewN ?_ _ | refine Below.drew ?_ | refine blB_alloc ?_ hBw _ | refine Below.setCell ?_ hB _))⟩
  · skip
    go_simp
    skip
    refine hK.out _ _ ?_ (fun hHeld => ?_)
    · exact ⟨(Below.cell (by repeat (first | exact HR.out | refine blB_drewN ?_ _ | refine Below.drew ?_ | refine blB_alloc ?_ hBw _ | refine Below.setCell ?_ hB _)) hy).trans KX0.out, (Below.cell (p := ⟨py.block, py.off + 1, none⟩) (by repeat (first | exact HR.out | refine blB_drewN ?_ _ | refine Below.drew ?_ | refine blB_alloc ?_ hBw _ | refine Below.setCell ?_ hB _)) hy).trans KX1.out⟩
    clear hK K
    try simp only [Act.put, List.setIfInBounds_toArray, List.set_cons_zero, List.set_cons_succ]
    refine wpAnyH_ready (rs := [0]) (by kernel_rfl) (by simp) ?_
    refine AllReadyH.cons (o := { dst := some 23, op := Op.load 22 (Operand.tmp 2), type := 22, pos := "vector.go:67", after := #[], guard := none }) rfl (fun K hK => ?_) (AllReadyH.nil)
    go_simp
    skip
    refine hK.out _ _ ?_ (fun hHeld => ?_)
    · exact ⟨(Below.cell (by repeat (first | exact HR.out | refine blB_drewN ?_ _ | refine Below.drew ?_ | refine blB_alloc ?_ hBw _ | refine Below.setCell ?_ hB _)) hy).trans KX0.out, (Below.cell (p := ⟨py.block, py.off + 1, none⟩) (by repeat (first | exact HR.out | refine blB_drewN ?_ _ | refine Below.drew ?_ | refine blB_alloc ?_ hBw _ | refine Below.setCell ?_ hB _)) hy).trans KX1.out⟩
    clear hK K
    try simp only [Act.put, List.setIfInBounds_toArray, List.set_cons_zero, List.set_cons_succ]
    refine wpAnyH_ready (rs := [5]) (by kernel_rfl) (by simp) ?_
    refine AllReadyH.cons (o := { dst := some 28, op := Op.call { callee := Callee.builtin Builtin.append, args := #[Operand.tmp 23, Operand.tmp 27], argTypes := #[22, 22] }, type := 22, pos := "vector.go:67", after := #[{ on := 0, ground := Ground.data }, { on := 4, ground := Ground.data }], guard := none }) rfl (fun K hK => ?_) (AllReadyH.nil)
    refine GR.step_one (K := dotK) rfl (.tmp 23) (.tmp 27) _ rfl Try.underlying22 hi0 hz0 hz1 hz2 rfl B _ acc y rfl (by repeat (first | exact HO.out | refine GR.Own.drewN ?_ _ | refine GR.Own.drew ?_ | refine GR.Own.alloc ?_ _)) _ rfl (by repeat (first | exact GR.rd_new _ rfl (by show 16 ≤ 140737488355328; omega) | refine GR.Rd.drewN ?_ _ | refine GR.Rd.drew ?_)) (by show (acc.length + 1) * 16 ≤ _; omega) (by simp; omega) ?_
    intro v3 w3 ho_ hg_ hat_
    obtain ⟨A3, n3, c3, rfl⟩ := own_slice ho_ (by show (acc ++ [y]).length * 16 ≤ _; rw [List.length_append]; exact hsz)
    have B3 : Hid (GR.Blk w3 g 22 #[v]) := Lib.hid (GR.Blk.grown (by repeat (first | exact BG.out | refine GR.Blk.drewN ?_ _ | refine GR.Blk.drew ?_ | refine GR.Blk.alloc ?_ _)) hg_ (Ne.symm (GR.own_blk_ne HO.out BG.out (by decide))))
    have HO3 := Lib.hid ho_
    have HR3 : Hid (Below B w w3) := Lib.hid (Below.grown (by repeat (first | exact HR.out | refine blB_drewN ?_ _ | refine Below.drew ?_ | refine blB_alloc ?_ hBw _ | refine Below.setCell ?_ hB _)) hg_ (by simp; omega) (fun b hb => (HO.out.lt b hb).1))
    clear HR
    have HR := HR3
    clear HR3 ho_ hg_ hat_
    have d0 : w3.cell? ⟨g, 0, none⟩ = some v := B3.out.cell 0
    have d1 := B3.out.frozen 0
    refine hK.out _ _ ?_ (fun hHeld => ?_)
    · exact ⟨(Below.cell (by repeat (first | exact HR.out | refine blB_drewN ?_ _ | refine Below.drew ?_ | refine blB_alloc ?_ hBw _ | refine Below.setCell ?_ hB _)) hy).trans KX0.out, (Below.cell (p := ⟨py.block, py.off + 1, none⟩) (by repeat (first | exact HR.out | refine blB_drewN ?_ _ | refine Below.drew ?_ | refine blB_alloc ?_ hBw _ | refine Below.setCell ?_ hB _)) hy).trans KX1.out⟩
    clear hK K
    try simp only [Act.put, List.setIfInBounds_toArray, List.set_cons_zero, List.set_cons_succ]
    refine wpAnyH_ready (rs := [6]) (by kernel_rfl) (by simp) ?_
    refine AllReadyH.cons (o := { dst := none, op := Op.store 22 (Operand.tmp 2) (Operand.tmp 28), type := 0, pos := "vector.go:67", after := #[{ on := 5, ground := Ground.data }, { on := 5, ground := Ground.chain }, { on := 0, ground := Ground.phase }, { on := 1, ground := Ground.phase }, { on := 2, ground := Ground.phase }, { on := 3, ground := Ground.phase }, { on := 4, ground := Ground.phase }, { on := 5, ground := Ground.phase }], guard := none }) rfl (fun K hK => ?_) (AllReadyH.nil)
    go_simp
    skip
    refine hK.out _ _ ?_ (fun hHeld => ?_)
    · exact ⟨(Below.cell (by repeat (first | exact HR.out | refine blB_drewN ?_ _ | refine Below.drew ?_ | refine blB_alloc ?_ hBw _ | refine Below.setCell ?_ hB _)) hy).trans KX0.out, (Below.cell (p := ⟨py.block, py.off + 1, none⟩) (by repeat (first | exact HR.out | refine blB_drewN ?_ _ | refine Below.drew ?_ | refine blB_alloc ?_ hBw _ | refine Below.setCell ?_ hB _)) hy).trans KX1.out⟩
    clear hK K
    try simp only [Act.put, List.setIfInBounds_toArray, List.set_cons_zero, List.set_cons_succ]
    refine wpAnyH_done (by kernel_rfl) ?_ _
    go_wp2
    go_end0
    exact ⟨rfl, ⟨_, B3.out.set_ 0 _, own_far HO3.out B3.out _ (by decide)⟩, (by repeat (first | exact HR.out | refine blB_drewN ?_ _ | refine Below.drew ?_ | refine blB_alloc ?_ hBw _ | refine Below.setCell ?_ hB _))⟩
end Go.Proofs.Ytljfigikkajlnaa
