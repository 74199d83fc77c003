/- DERIVED. A state's twin. -/
import Derived.Test.YtlmnmlehnigfdaaDvCmp
import Derived.Test.YtlmnmlehnigfdaaDvOwn
import Derived.Test.YtlmnmlehnigfdaaWEqStruct
import Derived.WalkMore
import Derived.Lib.Strings
import Derived.Laws.Runes
namespace Go.Proofs.Ytlmnmlehnigfdaa
open Go.RowKit
set_option linter.unusedVariables false
set_option linter.unusedSimpArgs false

namespace GR
variable {α : Type} {K : Kind α}
variable {P : Program} {ops : Array Oper} {o : Oper} {a : Act} {Q : Exit → Act → World → Prop}
/-- append(v, x...) at a step of a region that draws its order. -/
theorem step_all {w : World} {E : Prop} {K' : Act → World → Prop} {i : TypeInfo} {z : Value} (hgd : o.guard = none) (s x : Operand) (t : TypeId)
    (ho : o.op = .call { callee := .builtin .append, args := #[s, x], argTypes := #[t, t] })
    (ht : P.underlying t = some (.slice K.e)) (hi : P.info? K.e = some i) (hz : i.zero = some z) (hsize : i.size = K.s) (hby : i.bytes = K.b) (hzs : z.cells.size = K.s)
    (B : Nat) (v : Value) (xs : List α) (hs : a.eval s = v) (hown : Own K w B v xs) (A : Option Addr) (n c : Nat) (ys : List α) (hx : a.eval x = .slice A n c) (hn : n = ys.length) (hr : Rd K w A ys)
    (hb : (xs.length + ys.length) * K.b ≤ 140737488355328) (hbase : B ≤ w.heap.size)
    (h : ∀ v' w', Own K w' B v' (xs ++ ys) → w.grownBy w' v.ownBlock → (v'.ownBlock = v.ownBlock ∨ v'.ownBlock = some w.heap.size) → K' (a.put o.dst v') w') :
    if Region.wanted o (yielded ops a.tmps) = true then Oper.wp P o a w K' Q else E := by
  subst hn
  have hlen : xs.length + ys.length ≤ 140737488355328 := Nat.le_trans (Nat.le_mul_of_pos_right _ K.hb) hb
  refine step_append_any w hgd s x t ho B K.e i z K.s K.b ht hi hz hsize hby hzs K.hs v xs.length (cs K xs) hs hown w.heap.size A ys.length c (cs K ys) hx hr.2 (cs_one ys) (by simp only [maxLen]; omega) hb hbase fun v' w' h1 h2 h3 => h v' w' ?_ h2 h3
  show w'.ownsRow B K.e K.s v' (xs ++ ys).length (cs K (xs ++ ys))
  rw [List.length_append, cs_append]; exact h1
theorem lit_at (w : World) (B H : Nat) (hB : B ≤ w.heap.size) (hH : w.heap.size = H) : Own K (w.alloc (.cells #[] K.e)) B (.slice (some ⟨H, 0, none⟩) 0 0) [] := by
  subst hH; exact Own.lit0 w B hB
end GR

theorem own_grown2 {α β : Type} {K : GR.Kind α} {J : GR.Kind β} {w w' : World} {B B' : Nat} {u v : Value} {l : List α} {m : List β} (hg : w.grownBy w' v.ownBlock) (h : GR.Own K w B u l) (k : GR.Own J w B' v m) (hne : K.e ≠ J.e) : GR.Own K w' B u l := h.grown hg (own_apart h k hne)
set_option maxRecDepth 100000 in
set_option maxHeartbeats 3200000 in
theorem twin_any (A B : Option Addr) (c d : Nat) (a : List Dot) (l : List Sib) (w : World) (ha : GR.Rd dotK w A a) (hl : GR.Rd sibK w B l) :
    Calls Try.prog 18 #[.agg #[.slice A a.length c, .slice B l.length d]] w fun e w' => ∃ v1 v2, e = .returned (.agg #[v1, v2]) ∧ GR.Own dotK w' w.heap.size v1 a ∧ GR.Own sibK w' w.heap.size v2 l ∧ Below w.heap.size w w' := by
  obtain ⟨i0, hi0, hz0, hz1, hz2⟩ := info_parts dot_info
  obtain ⟨j0, hj0, jz0, jz1, jz2⟩ := info_parts sib_info
  have hma : a.length * 16 ≤ 140737488355328 := ha.max
  have hml : l.length * 40 ≤ 140737488355328 := hl.max
  have HA := Lib.hid ha
  have HL := Lib.hid hl
  clear ha hl
  go_enter Try.func18, Try.ntmps18
  go_wp2_with fail
  obtain ⟨W1, hW1⟩ : ∃ W1 : World, W1 = (w.alloc (.cells #[.slice A a.length c, .slice B l.length d] 25)).alloc (.cells #[.slice none 0 0, .slice none 0 0] 25) := ⟨_, rfl⟩
  rw [← hW1]
  have LW : Hid (Below w.heap.size w W1) := Lib.hid (by rw [hW1]; exact (by repeat (first | exact Below.refl _ _ | refine bl_drewN ?_ _ | refine bl_drew ?_ | refine bl_alloc ?_ _)))
  have XA : Hid (GR.Blk W1 w.heap.size 25 #[.slice A a.length c, .slice B l.length d]) := Lib.hid (by rw [hW1]; exact (GR.Blk.new _ _ _).alloc _)
  have XR : Hid (GR.Blk W1 (w.heap.size + 1) 25 #[.slice none 0 0, .slice none 0 0]) := Lib.hid (by rw [hW1]; exact new_at _ _ _ (by simp))
  clear hW1
  have K0 : Hid (W1.cell? ⟨w.heap.size, 0, none⟩ = some (.slice A a.length c)) := Lib.hid (XA.out.cell 0)
  have K1 : Hid (W1.cell? ⟨w.heap.size, 1, none⟩ = some (.slice B l.length d)) := Lib.hid (XA.out.cell 1)
  have HR := Lib.hid (Below.refl W1.heap.size W1)
  have HA1 := Lib.hid (HA.out.below LW.out)
  have HL1 := Lib.hid (HL.out.below LW.out)
  have hw1 : w.heap.size + 1 ≤ W1.heap.size := Nat.le_of_lt XR.out.lt
  refine wp_region_held_drew (S := fun w' => w'.cell? ⟨w.heap.size, 0, none⟩ = some (.slice A a.length c) ∧ w'.cell? ⟨w.heap.size, 1, none⟩ = some (.slice B l.length d)) (by kernel_rfl) ?_ (fun hHeld => ?_)
  · exact ⟨K0.out, K1.out⟩
  refine wpAnyH_take (i := 1) (oi := { dst := some 4, op := Op.fieldAddr 25 (Operand.tmp 1) 0, type := 0, pos := "ref.go:266", after := #[], guard := none }) (v := ?_) rfl (by kernel_rfl) (by kernel_rfl) (by kernel_rfl) (fun _ _ _ h => h) (Or.inl ⟨by rfl, ?_⟩) (by assumption) ?_
  rotate_left
  · intro w_ hSw
    (try dsimp only at hSw)
    go_simp
    first | done | with_reducible rfl
  try simp only [Act.put, List.setIfInBounds_toArray, List.set_cons_zero, List.set_cons_succ]
  refine wpAnyH_take (i := 2) (oi := { dst := some 5, op := Op.load 22 (Operand.tmp 4), type := 22, pos := "ref.go:266", after := #[{ on := 1, ground := Ground.data }], guard := none }) (v := ?_) rfl (by kernel_rfl) (by kernel_rfl) (by kernel_rfl) (fun _ _ _ h => h) (Or.inl ⟨by rfl, ?_⟩) (by assumption) ?_
  rotate_left
  · intro w_ hSw
    (try dsimp only at hSw)
    go_simp
    first | done | with_reducible rfl
  try simp only [Act.put, List.setIfInBounds_toArray, List.set_cons_zero, List.set_cons_succ]
  refine wpAnyH_take (i := 5) (oi := { dst := some 8, op := Op.fieldAddr 25 (Operand.tmp 1) 1, type := 0, pos := "ref.go:266", after := #[], guard := none }) (v := ?_) rfl (by kernel_rfl) (by kernel_rfl) (by kernel_rfl) (fun _ _ _ h => h) (Or.inl ⟨by rfl, ?_⟩) (by assumption) ?_
  rotate_left
  · intro w_ hSw
    (try dsimp only at hSw)
    go_simp
    first | done | with_reducible rfl
  try simp only [Act.put, List.setIfInBounds_toArray, List.set_cons_zero, List.set_cons_succ]
  refine wpAnyH_take (i := 6) (oi := { dst := some 9, op := Op.load 23 (Operand.tmp 8), type := 23, pos := "ref.go:266", after := #[{ on := 5, ground := Ground.data }], guard := none }) (v := ?_) rfl (by kernel_rfl) (by kernel_rfl) (by kernel_rfl) (fun _ _ _ h => h) (Or.inl ⟨by rfl, ?_⟩) (by assumption) ?_
  rotate_left
  · intro w_ hSw
    (try dsimp only at hSw)
    go_simp
    first | done | with_reducible rfl
  try simp only [Act.put, List.setIfInBounds_toArray, List.set_cons_zero, List.set_cons_succ]
  refine wpAnyH_ready (rs := [0, 4]) (by kernel_rfl) (by simp) ?_
  refine AllReadyH.cons (o := { dst := some 3, op := Op.buildSlice 22 0 #[], type := 22, pos := "ref.go:266", after := #[], guard := none }) rfl (fun K hK => ?_) (AllReadyH.cons (o := { dst := some 7, op := Op.buildSlice 23 0 #[], type := 23, pos := "ref.go:266", after := #[], guard := none }) rfl (fun K hK => ?_) (AllReadyH.nil))
  · skip
    go_simp
    skip
    refine hK.out _ _ ?_ (fun hHeld => ?_)
    · first | exact ⟨(Below.cell (B := w.heap.size + 1) (p := ⟨w.heap.size, 0, none⟩) (Below.setCell (Below.setCell (HR.out.mono hw1) (Nat.le_refl _) _) (Nat.le_refl _) _) (Nat.lt_succ_self _)).trans K0.out, (Below.cell (B := w.heap.size + 1) (p := ⟨w.heap.size, 1, none⟩) (Below.setCell (Below.setCell (HR.out.mono hw1) (Nat.le_refl _) _) (Nat.le_refl _) _) (Nat.lt_succ_self _)).trans K1.out⟩ | exact ⟨(Below.cell (p := ⟨w.heap.size, 0, none⟩) (by repeat (first | exact HR.out | refine bl_drewN ?_ _ | refine bl_drew ?_ | refine bl_alloc ?_ _)) (World.block_lt_of_cell? W1 _ K0.out)).trans K0.out, (Below.cell (p := ⟨w.heap.size, 1, none⟩) (by repeat (first | exact HR.out | refine bl_drewN ?_ _ | refine bl_drew ?_ | refine bl_alloc ?_ _)) (World.block_lt_of_cell? W1 _ K1.out)).trans K1.out⟩
    clear hK K
    try simp only [Act.put, List.setIfInBounds_toArray, List.set_cons_zero, List.set_cons_succ]
    refine wpAnyH_ready (rs := [3, 4]) (by kernel_rfl) (by simp) ?_
    refine AllReadyH.cons (o := { dst := some 6, op := Op.call { callee := Callee.builtin Builtin.append, args := #[Operand.tmp 3, Operand.tmp 5], argTypes := #[22, 22] }, type := 22, pos := "ref.go:266", after := #[{ on := 0, ground := Ground.data }, { on := 2, ground := Ground.data }], guard := none }) rfl (fun K hK => ?_) (AllReadyH.cons (o := { dst := some 7, op := Op.buildSlice 23 0 #[], type := 23, pos := "ref.go:266", after := #[], guard := none }) rfl (fun K hK => ?_) (AllReadyH.nil))
    · skip
      refine GR.step_all (K := dotK) rfl (.tmp 3) (.tmp 5) _ rfl Try.underlying22 hi0 hz0 hz1 hz2 rfl W1.heap.size _ [] rfl (by repeat (first | exact GR.lit_at _ _ _ (by simp) (by simp) | refine GR.Own.drewN ?_ _ | refine GR.Own.drew ?_ | refine GR.Own.alloc ?_ _)) _ _ c a rfl rfl (GR.Rd.below HA1.out (by repeat (first | exact HR.out | refine bl_drewN ?_ _ | refine bl_drew ?_ | refine bl_alloc ?_ _))) (by show (0 + a.length) * 16 ≤ _; omega) (Below.size (w := W1) (by repeat (first | exact HR.out | refine bl_drewN ?_ _ | refine bl_drew ?_ | refine bl_alloc ?_ _))) ?_
      intro v3 w3 ho3 hg3 hat3
      obtain ⟨A3, n3, c3, rfl⟩ := own_slice ho3 (by show a.length * 16 ≤ _; exact hma)
      skip
      have N_ := Lib.hid (Below.grown (a := W1) (B := W1.heap.size) (by repeat (first | exact HR.out | refine bl_drewN ?_ _ | refine bl_drew ?_ | refine bl_alloc ?_ _)) hg3 (Below.size (w := W1) (by repeat (first | exact HR.out | refine bl_drewN ?_ _ | refine bl_drew ?_ | refine bl_alloc ?_ _))) (fun b hb => by cases hb; simp))
      clear HR
      have HR := N_
      have O3 : Hid (GR.Own dotK w3 W1.heap.size (.slice A3 n3 c3) a) := Lib.hid ho3
      have HS3 := Lib.hid (HR.out.size : W1.heap.size ≤ w3.heap.size)
      clear N_ ho3 hg3 hat3
      refine hK.out _ _ ?_ (fun hHeld => ?_)
      · first | exact ⟨(Below.cell (B := w.heap.size + 1) (p := ⟨w.heap.size, 0, none⟩) (Below.setCell (Below.setCell (HR.out.mono hw1) (Nat.le_refl _) _) (Nat.le_refl _) _) (Nat.lt_succ_self _)).trans K0.out, (Below.cell (B := w.heap.size + 1) (p := ⟨w.heap.size, 1, none⟩) (Below.setCell (Below.setCell (HR.out.mono hw1) (Nat.le_refl _) _) (Nat.le_refl _) _) (Nat.lt_succ_self _)).trans K1.out⟩ | exact ⟨(Below.cell (p := ⟨w.heap.size, 0, none⟩) (by repeat (first | exact HR.out | refine bl_drewN ?_ _ | refine bl_drew ?_ | refine bl_alloc ?_ _)) (World.block_lt_of_cell? W1 _ K0.out)).trans K0.out, (Below.cell (p := ⟨w.heap.size, 1, none⟩) (by repeat (first | exact HR.out | refine bl_drewN ?_ _ | refine bl_drew ?_ | refine bl_alloc ?_ _)) (World.block_lt_of_cell? W1 _ K1.out)).trans K1.out⟩
      clear hK K
      try simp only [Act.put, List.setIfInBounds_toArray, List.set_cons_zero, List.set_cons_succ]
      refine wpAnyH_ready (rs := [4]) (by kernel_rfl) (by simp) ?_
      refine AllReadyH.cons (o := { dst := some 7, op := Op.buildSlice 23 0 #[], type := 23, pos := "ref.go:266", after := #[], guard := none }) rfl (fun K hK => ?_) (AllReadyH.nil)
      go_simp
      skip
      refine hK.out _ _ ?_ (fun hHeld => ?_)
      · first | exact ⟨(Below.cell (B := w.heap.size + 1) (p := ⟨w.heap.size, 0, none⟩) (Below.setCell (Below.setCell (HR.out.mono hw1) (Nat.le_refl _) _) (Nat.le_refl _) _) (Nat.lt_succ_self _)).trans K0.out, (Below.cell (B := w.heap.size + 1) (p := ⟨w.heap.size, 1, none⟩) (Below.setCell (Below.setCell (HR.out.mono hw1) (Nat.le_refl _) _) (Nat.le_refl _) _) (Nat.lt_succ_self _)).trans K1.out⟩ | exact ⟨(Below.cell (p := ⟨w.heap.size, 0, none⟩) (by repeat (first | exact HR.out | refine bl_drewN ?_ _ | refine bl_drew ?_ | refine bl_alloc ?_ _)) (World.block_lt_of_cell? W1 _ K0.out)).trans K0.out, (Below.cell (p := ⟨w.heap.size, 1, none⟩) (by repeat (first | exact HR.out | refine bl_drewN ?_ _ | refine bl_drew ?_ | refine bl_alloc ?_ _)) (World.block_lt_of_cell? W1 _ K1.out)).trans K1.out⟩
      clear hK K
      try simp only [Act.put, List.setIfInBounds_toArray, List.set_cons_zero, List.set_cons_succ]
      refine wpAnyH_ready (rs := [7]) (by kernel_rfl) (by simp) ?_
      refine AllReadyH.cons (o := { dst := some 10, op := Op.call { callee := Callee.builtin Builtin.append, args := #[Operand.tmp 7, Operand.tmp 9], argTypes := #[23, 23] }, type := 23, pos := "ref.go:266", after := #[{ on := 4, ground := Ground.data }, { on := 6, ground := Ground.data }, { on := 3, ground := Ground.chain }], guard := none }) rfl (fun K hK => ?_) (AllReadyH.nil)
      refine GR.step_all (K := sibK) rfl (.tmp 7) (.tmp 9) _ rfl Try.underlying23 hj0 jz0 jz1 jz2 rfl W1.heap.size _ [] rfl (by repeat (first | exact OS3.out | exact GR.lit_at _ _ _ HS3.out rfl | refine GR.Own.drewN ?_ _ | refine GR.Own.drew ?_ | refine GR.Own.alloc ?_ _)) _ _ d l rfl rfl (GR.Rd.below HL1.out (by repeat (first | exact HR.out | refine bl_drewN ?_ _ | refine bl_drew ?_ | refine bl_alloc ?_ _))) (by show (0 + l.length) * 40 ≤ _; omega) (Below.size (w := W1) (by repeat (first | exact HR.out | refine bl_drewN ?_ _ | refine bl_drew ?_ | refine bl_alloc ?_ _))) ?_
      intro v7 w7 ho7 hg7 hat7
      obtain ⟨A7, n7, c7, rfl⟩ := own_slice ho7 (by show l.length * 40 ≤ _; exact hml)
      have O37 : Hid (GR.Own dotK w7 W1.heap.size (.slice A3 n3 c3) a) := Lib.hid (own_grown2 (K := dotK) (J := sibK) (m := []) (B' := W1.heap.size) hg7 (by repeat (first | exact O3.out | refine GR.Own.drewN ?_ _ | refine GR.Own.drew ?_ | refine GR.Own.alloc ?_ _)) (by repeat (first | exact OS3.out | exact GR.lit_at _ _ _ HS3.out rfl | refine GR.Own.drewN ?_ _ | refine GR.Own.drew ?_ | refine GR.Own.alloc ?_ _)) (by decide))
      have N_ := Lib.hid (Below.grown (a := W1) (B := W1.heap.size) (by repeat (first | exact HR.out | refine bl_drewN ?_ _ | refine bl_drew ?_ | refine bl_alloc ?_ _)) hg7 (Below.size (w := W1) (by repeat (first | exact HR.out | refine bl_drewN ?_ _ | refine bl_drew ?_ | refine bl_alloc ?_ _))) (fun b hb => by cases hb; first | exact HS3.out | simp))
      clear HR
      have HR := N_
      have O7 : Hid (GR.Own sibK w7 W1.heap.size (.slice A7 n7 c7) l) := Lib.hid ho7
      clear N_ ho7 hg7 hat7
      have r0 : w7.cell? ⟨w.heap.size + 1, 0, none⟩ = some (.slice none 0 0) := (XR.out.below HR.out XR.out.lt).cell 0
      have r1 : w7.cell? ⟨w.heap.size + 1, 1, none⟩ = some (.slice none 0 0) := (XR.out.below HR.out XR.out.lt).cell 1
      have r2 := (XR.out.below HR.out XR.out.lt).frozen 0
      have r3 := (XR.out.below HR.out XR.out.lt).frozen 1
      refine hK.out _ _ ?_ (fun hHeld => ?_)
      · first | exact ⟨(Below.cell (B := w.heap.size + 1) (p := ⟨w.heap.size, 0, none⟩) (Below.setCell (Below.setCell (HR.out.mono hw1) (Nat.le_refl _) _) (Nat.le_refl _) _) (Nat.lt_succ_self _)).trans K0.out, (Below.cell (B := w.heap.size + 1) (p := ⟨w.heap.size, 1, none⟩) (Below.setCell (Below.setCell (HR.out.mono hw1) (Nat.le_refl _) _) (Nat.le_refl _) _) (Nat.lt_succ_self _)).trans K1.out⟩ | exact ⟨(Below.cell (p := ⟨w.heap.size, 0, none⟩) (by repeat (first | exact HR.out | refine bl_drewN ?_ _ | refine bl_drew ?_ | refine bl_alloc ?_ _)) (World.block_lt_of_cell? W1 _ K0.out)).trans K0.out, (Below.cell (p := ⟨w.heap.size, 1, none⟩) (by repeat (first | exact HR.out | refine bl_drewN ?_ _ | refine bl_drew ?_ | refine bl_alloc ?_ _)) (World.block_lt_of_cell? W1 _ K1.out)).trans K1.out⟩
      clear hK K
      try simp only [Act.put, List.setIfInBounds_toArray, List.set_cons_zero, List.set_cons_succ]
      refine wpAnyH_take (i := 8) (oi := { dst := some 11, op := Op.build 25 #[(0, Operand.tmp 6), (1, Operand.tmp 10)], type := 25, pos := "ref.go:266", after := #[{ on := 3, ground := Ground.data }, { on := 7, ground := Ground.data }], guard := none }) (v := ?_) rfl (by kernel_rfl) (by kernel_rfl) (by kernel_rfl) (fun _ _ _ h => h) (Or.inl ⟨by rfl, ?_⟩) (by assumption) ?_
      rotate_left
      · intro w_ hSw
        (try dsimp only at hSw)
        go_simp
        first | done | with_reducible rfl
      try simp only [Act.put, List.setIfInBounds_toArray, List.set_cons_zero, List.set_cons_succ]
      refine wpAnyH_ready (rs := [9]) (by kernel_rfl) (by simp) ?_
      refine AllReadyH.cons (o := { dst := none, op := Op.store 25 (Operand.tmp 2) (Operand.tmp 11), type := 0, pos := "ref.go:266", after := #[{ on := 8, ground := Ground.data }, { on := 7, ground := Ground.chain }, { on := 0, ground := Ground.phase }, { on := 1, ground := Ground.phase }, { on := 2, ground := Ground.phase }, { on := 3, ground := Ground.phase }, { on := 4, ground := Ground.phase }, { on := 5, ground := Ground.phase }, { on := 6, ground := Ground.phase }, { on := 7, ground := Ground.phase }, { on := 8, ground := Ground.phase }], guard := none }) rfl (fun K hK => ?_) (AllReadyH.nil)
      go_simp
      skip
      refine hK.out _ _ ?_ (fun hHeld => ?_)
      · first | exact ⟨(Below.cell (B := w.heap.size + 1) (p := ⟨w.heap.size, 0, none⟩) (Below.setCell (Below.setCell (HR.out.mono hw1) (Nat.le_refl _) _) (Nat.le_refl _) _) (Nat.lt_succ_self _)).trans K0.out, (Below.cell (B := w.heap.size + 1) (p := ⟨w.heap.size, 1, none⟩) (Below.setCell (Below.setCell (HR.out.mono hw1) (Nat.le_refl _) _) (Nat.le_refl _) _) (Nat.lt_succ_self _)).trans K1.out⟩ | exact ⟨(Below.cell (p := ⟨w.heap.size, 0, none⟩) (by repeat (first | exact HR.out | refine bl_drewN ?_ _ | refine bl_drew ?_ | refine bl_alloc ?_ _)) (World.block_lt_of_cell? W1 _ K0.out)).trans K0.out, (Below.cell (p := ⟨w.heap.size, 1, none⟩) (by repeat (first | exact HR.out | refine bl_drewN ?_ _ | refine bl_drew ?_ | refine bl_alloc ?_ _)) (World.block_lt_of_cell? W1 _ K1.out)).trans K1.out⟩
      clear hK K
      try simp only [Act.put, List.setIfInBounds_toArray, List.set_cons_zero, List.set_cons_succ]
      refine wpAnyH_done (by kernel_rfl) ?_ _
      go_wp2
      exact bodyPost_ret (v := .agg #[.slice A3 n3 c3, .slice A7 n7 c7]) (by simp [results, Try.results18, go_sem, r0, r1, r2, r3]) rfl ⟨_, _, rfl, own_set2 (O37.out.base LW.out.size) XR.out HR.out, own_set2 (O7.out.base LW.out.size) XR.out HR.out, by repeat (first | exact bl_then LW.out HR.out | refine bl_drewN ?_ _ | refine bl_drew ?_ | refine Below.setCell ?_ (by simp) _)⟩
    · skip
      go_simp
      skip
      refine hK.out _ _ ?_ (fun hHeld => ?_)
      · first | exact ⟨(Below.cell (B := w.heap.size + 1) (p := ⟨w.heap.size, 0, none⟩) (Below.setCell (Below.setCell (HR.out.mono hw1) (Nat.le_refl _) _) (Nat.le_refl _) _) (Nat.lt_succ_self _)).trans K0.out, (Below.cell (B := w.heap.size + 1) (p := ⟨w.heap.size, 1, none⟩) (Below.setCell (Below.setCell (HR.out.mono hw1) (Nat.le_refl _) _) (Nat.le_refl _) _) (Nat.lt_succ_self _)).trans K1.out⟩ | exact ⟨(Below.cell (p := ⟨w.heap.size, 0, none⟩) (by repeat (first | exact HR.out | refine bl_drewN ?_ _ | refine bl_drew ?_ | refine bl_alloc ?_ _)) (World.block_lt_of_cell? W1 _ K0.out)).trans K0.out, (Below.cell (p := ⟨w.heap.size, 1, none⟩) (by repeat (first | exact HR.out | refine bl_drewN ?_ _ | refine bl_drew ?_ | refine bl_alloc ?_ _)) (World.block_lt_of_cell? W1 _ K1.out)).trans K1.out⟩
      clear hK K
      try simp only [Act.put, List.setIfInBounds_toArray, List.set_cons_zero, List.set_cons_succ]
      refine wpAnyH_ready (rs := [3]) (by kernel_rfl) (by simp) ?_
      refine AllReadyH.cons (o := { dst := some 6, op := Op.call { callee := Callee.builtin Builtin.append, args := #[Operand.tmp 3, Operand.tmp 5], argTypes := #[22, 22] }, type := 22, pos := "ref.go:266", after := #[{ on := 0, ground := Ground.data }, { on := 2, ground := Ground.data }], guard := none }) rfl (fun K hK => ?_) (AllReadyH.nil)
      refine GR.step_all (K := dotK) rfl (.tmp 3) (.tmp 5) _ rfl Try.underlying22 hi0 hz0 hz1 hz2 rfl W1.heap.size _ [] rfl (by repeat (first | exact GR.lit_at _ _ _ (by simp) (by simp) | refine GR.Own.drewN ?_ _ | refine GR.Own.drew ?_ | refine GR.Own.alloc ?_ _)) _ _ c a rfl rfl (GR.Rd.below HA1.out (by repeat (first | exact HR.out | refine bl_drewN ?_ _ | refine bl_drew ?_ | refine bl_alloc ?_ _))) (by show (0 + a.length) * 16 ≤ _; omega) (Below.size (w := W1) (by repeat (first | exact HR.out | refine bl_drewN ?_ _ | refine bl_drew ?_ | refine bl_alloc ?_ _))) ?_
      intro v3 w3 ho3 hg3 hat3
      obtain ⟨A3, n3, c3, rfl⟩ := own_slice ho3 (by show a.length * 16 ≤ _; exact hma)
      first | (have OS3 : Hid (GR.Own sibK w3 W1.heap.size (.slice (some ⟨W1.heap.size + 1, 0, none⟩) 0 0) []) := Lib.hid (GR.Own.grown (B := W1.heap.size) (by repeat (first | exact GR.lit_at _ _ _ (by simp) (by simp) | refine GR.Own.drewN ?_ _ | refine GR.Own.drew ?_ | refine GR.Own.alloc ?_ _)) hg3 (.inr (fun e => absurd (Option.some.inj e) (by show ¬ (W1.heap.size + 1 = W1.heap.size); omega))))) | (have OS3 : Hid (GR.Own sibK w3 W1.heap.size (.slice (some ⟨W1.heap.size, 0, none⟩) 0 0) []) := Lib.hid (GR.Own.grown (B := W1.heap.size) (by repeat (first | exact GR.lit_at _ _ _ (by simp) (by simp) | refine GR.Own.drewN ?_ _ | refine GR.Own.drew ?_ | refine GR.Own.alloc ?_ _)) hg3 (.inr (fun e => absurd (Option.some.inj e) (by show ¬ (W1.heap.size = W1.heap.size + 1); omega)))))
      have N_ := Lib.hid (Below.grown (a := W1) (B := W1.heap.size) (by repeat (first | exact HR.out | refine bl_drewN ?_ _ | refine bl_drew ?_ | refine bl_alloc ?_ _)) hg3 (Below.size (w := W1) (by repeat (first | exact HR.out | refine bl_drewN ?_ _ | refine bl_drew ?_ | refine bl_alloc ?_ _))) (fun b hb => by cases hb; simp))
      clear HR
      have HR := N_
      have O3 : Hid (GR.Own dotK w3 W1.heap.size (.slice A3 n3 c3) a) := Lib.hid ho3
      have HS3 := Lib.hid (HR.out.size : W1.heap.size ≤ w3.heap.size)
      clear N_ ho3 hg3 hat3
      refine hK.out _ _ ?_ (fun hHeld => ?_)
      · first | exact ⟨(Below.cell (B := w.heap.size + 1) (p := ⟨w.heap.size, 0, none⟩) (Below.setCell (Below.setCell (HR.out.mono hw1) (Nat.le_refl _) _) (Nat.le_refl _) _) (Nat.lt_succ_self _)).trans K0.out, (Below.cell (B := w.heap.size + 1) (p := ⟨w.heap.size, 1, none⟩) (Below.setCell (Below.setCell (HR.out.mono hw1) (Nat.le_refl _) _) (Nat.le_refl _) _) (Nat.lt_succ_self _)).trans K1.out⟩ | exact ⟨(Below.cell (p := ⟨w.heap.size, 0, none⟩) (by repeat (first | exact HR.out | refine bl_drewN ?_ _ | refine bl_drew ?_ | refine bl_alloc ?_ _)) (World.block_lt_of_cell? W1 _ K0.out)).trans K0.out, (Below.cell (p := ⟨w.heap.size, 1, none⟩) (by repeat (first | exact HR.out | refine bl_drewN ?_ _ | refine bl_drew ?_ | refine bl_alloc ?_ _)) (World.block_lt_of_cell? W1 _ K1.out)).trans K1.out⟩
      clear hK K
      try simp only [Act.put, List.setIfInBounds_toArray, List.set_cons_zero, List.set_cons_succ]
      refine wpAnyH_ready (rs := [7]) (by kernel_rfl) (by simp) ?_
      refine AllReadyH.cons (o := { dst := some 10, op := Op.call { callee := Callee.builtin Builtin.append, args := #[Operand.tmp 7, Operand.tmp 9], argTypes := #[23, 23] }, type := 23, pos := "ref.go:266", after := #[{ on := 4, ground := Ground.data }, { on := 6, ground := Ground.data }, { on := 3, ground := Ground.chain }], guard := none }) rfl (fun K hK => ?_) (AllReadyH.nil)
      refine GR.step_all (K := sibK) rfl (.tmp 7) (.tmp 9) _ rfl Try.underlying23 hj0 jz0 jz1 jz2 rfl W1.heap.size _ [] rfl (by repeat (first | exact OS3.out | exact GR.lit_at _ _ _ HS3.out rfl | refine GR.Own.drewN ?_ _ | refine GR.Own.drew ?_ | refine GR.Own.alloc ?_ _)) _ _ d l rfl rfl (GR.Rd.below HL1.out (by repeat (first | exact HR.out | refine bl_drewN ?_ _ | refine bl_drew ?_ | refine bl_alloc ?_ _))) (by show (0 + l.length) * 40 ≤ _; omega) (Below.size (w := W1) (by repeat (first | exact HR.out | refine bl_drewN ?_ _ | refine bl_drew ?_ | refine bl_alloc ?_ _))) ?_
      intro v7 w7 ho7 hg7 hat7
      obtain ⟨A7, n7, c7, rfl⟩ := own_slice ho7 (by show l.length * 40 ≤ _; exact hml)
      have O37 : Hid (GR.Own dotK w7 W1.heap.size (.slice A3 n3 c3) a) := Lib.hid (own_grown2 (K := dotK) (J := sibK) (m := []) (B' := W1.heap.size) hg7 (by repeat (first | exact O3.out | refine GR.Own.drewN ?_ _ | refine GR.Own.drew ?_ | refine GR.Own.alloc ?_ _)) (by repeat (first | exact OS3.out | exact GR.lit_at _ _ _ HS3.out rfl | refine GR.Own.drewN ?_ _ | refine GR.Own.drew ?_ | refine GR.Own.alloc ?_ _)) (by decide))
      have N_ := Lib.hid (Below.grown (a := W1) (B := W1.heap.size) (by repeat (first | exact HR.out | refine bl_drewN ?_ _ | refine bl_drew ?_ | refine bl_alloc ?_ _)) hg7 (Below.size (w := W1) (by repeat (first | exact HR.out | refine bl_drewN ?_ _ | refine bl_drew ?_ | refine bl_alloc ?_ _))) (fun b hb => by cases hb; first | exact HS3.out | simp))
      clear HR
      have HR := N_
      have O7 : Hid (GR.Own sibK w7 W1.heap.size (.slice A7 n7 c7) l) := Lib.hid ho7
      clear N_ ho7 hg7 hat7
      have r0 : w7.cell? ⟨w.heap.size + 1, 0, none⟩ = some (.slice none 0 0) := (XR.out.below HR.out XR.out.lt).cell 0
      have r1 : w7.cell? ⟨w.heap.size + 1, 1, none⟩ = some (.slice none 0 0) := (XR.out.below HR.out XR.out.lt).cell 1
      have r2 := (XR.out.below HR.out XR.out.lt).frozen 0
      have r3 := (XR.out.below HR.out XR.out.lt).frozen 1
      refine hK.out _ _ ?_ (fun hHeld => ?_)
      · first | exact ⟨(Below.cell (B := w.heap.size + 1) (p := ⟨w.heap.size, 0, none⟩) (Below.setCell (Below.setCell (HR.out.mono hw1) (Nat.le_refl _) _) (Nat.le_refl _) _) (Nat.lt_succ_self _)).trans K0.out, (Below.cell (B := w.heap.size + 1) (p := ⟨w.heap.size, 1, none⟩) (Below.setCell (Below.setCell (HR.out.mono hw1) (Nat.le_refl _) _) (Nat.le_refl _) _) (Nat.lt_succ_self _)).trans K1.out⟩ | exact ⟨(Below.cell (p := ⟨w.heap.size, 0, none⟩) (by repeat (first | exact HR.out | refine bl_drewN ?_ _ | refine bl_drew ?_ | refine bl_alloc ?_ _)) (World.block_lt_of_cell? W1 _ K0.out)).trans K0.out, (Below.cell (p := ⟨w.heap.size, 1, none⟩) (by repeat (first | exact HR.out | refine bl_drewN ?_ _ | refine bl_drew ?_ | refine bl_alloc ?_ _)) (World.block_lt_of_cell? W1 _ K1.out)).trans K1.out⟩
      clear hK K
      try simp only [Act.put, List.setIfInBounds_toArray, List.set_cons_zero, List.set_cons_succ]
      refine wpAnyH_take (i := 8) (oi := { dst := some 11, op := Op.build 25 #[(0, Operand.tmp 6), (1, Operand.tmp 10)], type := 25, pos := "ref.go:266", after := #[{ on := 3, ground := Ground.data }, { on := 7, ground := Ground.data }], guard := none }) (v := ?_) rfl (by kernel_rfl) (by kernel_rfl) (by kernel_rfl) (fun _ _ _ h => h) (Or.inl ⟨by rfl, ?_⟩) (by assumption) ?_
      rotate_left
      · intro w_ hSw
        (try dsimp only at hSw)
        go_simp
        first | done | with_reducible rfl
      try simp only [Act.put, List.setIfInBounds_toArray, List.set_cons_zero, List.set_cons_succ]
      refine wpAnyH_ready (rs := [9]) (by kernel_rfl) (by simp) ?_
      refine AllReadyH.cons (o := { dst := none, op := Op.store 25 (Operand.tmp 2) (Operand.tmp 11), type := 0, pos := "ref.go:266", after := #[{ on := 8, ground := Ground.data }, { on := 7, ground := Ground.chain }, { on := 0, ground := Ground.phase }, { on := 1, ground := Ground.phase }, { on := 2, ground := Ground.phase }, { on := 3, ground := Ground.phase }, { on := 4, ground := Ground.phase }, { on := 5, ground := Ground.phase }, { on := 6, ground := Ground.phase }, { on := 7, ground := Ground.phase }, { on := 8, ground := Ground.phase }], guard := none }) rfl (fun K hK => ?_) (AllReadyH.nil)
      go_simp
      skip
      refine hK.out _ _ ?_ (fun hHeld => ?_)
      · first | exact ⟨(Below.cell (B := w.heap.size + 1) (p := ⟨w.heap.size, 0, none⟩) (Below.setCell (Below.setCell (HR.out.mono hw1) (Nat.le_refl _) _) (Nat.le_refl _) _) (Nat.lt_succ_self _)).trans K0.out, (Below.cell (B := w.heap.size + 1) (p := ⟨w.heap.size, 1, none⟩) (Below.setCell (Below.setCell (HR.out.mono hw1) (Nat.le_refl _) _) (Nat.le_refl _) _) (Nat.lt_succ_self _)).trans K1.out⟩ | exact ⟨(Below.cell (p := ⟨w.heap.size, 0, none⟩) (by repeat (first | exact HR.out | refine bl_drewN ?_ _ | refine bl_drew ?_ | refine bl_alloc ?_ _)) (World.block_lt_of_cell? W1 _ K0.out)).trans K0.out, (Below.cell (p := ⟨w.heap.size, 1, none⟩) (by repeat (first | exact HR.out | refine bl_drewN ?_ _ | refine bl_drew ?_ | refine bl_alloc ?_ _)) (World.block_lt_of_cell? W1 _ K1.out)).trans K1.out⟩
      clear hK K
      try simp only [Act.put, List.setIfInBounds_toArray, List.set_cons_zero, List.set_cons_succ]
      refine wpAnyH_done (by kernel_rfl) ?_ _
      go_wp2
      exact bodyPost_ret (v := .agg #[.slice A3 n3 c3, .slice A7 n7 c7]) (by simp [results, Try.results18, go_sem, r0, r1, r2, r3]) rfl ⟨_, _, rfl, own_set2 (O37.out.base LW.out.size) XR.out HR.out, own_set2 (O7.out.base LW.out.size) XR.out HR.out, by repeat (first | exact bl_then LW.out HR.out | refine bl_drewN ?_ _ | refine bl_drew ?_ | refine Below.setCell ?_ (by simp) _)⟩
  · skip
    go_simp
    skip
    refine hK.out _ _ ?_ (fun hHeld => ?_)
    · first | exact ⟨(Below.cell (B := w.heap.size + 1) (p := ⟨w.heap.size, 0, none⟩) (Below.setCell (Below.setCell (HR.out.mono hw1) (Nat.le_refl _) _) (Nat.le_refl _) _) (Nat.lt_succ_self _)).trans K0.out, (Below.cell (B := w.heap.size + 1) (p := ⟨w.heap.size, 1, none⟩) (Below.setCell (Below.setCell (HR.out.mono hw1) (Nat.le_refl _) _) (Nat.le_refl _) _) (Nat.lt_succ_self _)).trans K1.out⟩ | exact ⟨(Below.cell (p := ⟨w.heap.size, 0, none⟩) (by repeat (first | exact HR.out | refine bl_drewN ?_ _ | refine bl_drew ?_ | refine bl_alloc ?_ _)) (World.block_lt_of_cell? W1 _ K0.out)).trans K0.out, (Below.cell (p := ⟨w.heap.size, 1, none⟩) (by repeat (first | exact HR.out | refine bl_drewN ?_ _ | refine bl_drew ?_ | refine bl_alloc ?_ _)) (World.block_lt_of_cell? W1 _ K1.out)).trans K1.out⟩
    clear hK K
    try simp only [Act.put, List.setIfInBounds_toArray, List.set_cons_zero, List.set_cons_succ]
    refine wpAnyH_ready (rs := [0]) (by kernel_rfl) (by simp) ?_
    refine AllReadyH.cons (o := { dst := some 3, op := Op.buildSlice 22 0 #[], type := 22, pos := "ref.go:266", after := #[], guard := none }) rfl (fun K hK => ?_) (AllReadyH.nil)
    go_simp
    skip
    refine hK.out _ _ ?_ (fun hHeld => ?_)
    · first | exact ⟨(Below.cell (B := w.heap.size + 1) (p := ⟨w.heap.size, 0, none⟩) (Below.setCell (Below.setCell (HR.out.mono hw1) (Nat.le_refl _) _) (Nat.le_refl _) _) (Nat.lt_succ_self _)).trans K0.out, (Below.cell (B := w.heap.size + 1) (p := ⟨w.heap.size, 1, none⟩) (Below.setCell (Below.setCell (HR.out.mono hw1) (Nat.le_refl _) _) (Nat.le_refl _) _) (Nat.lt_succ_self _)).trans K1.out⟩ | exact ⟨(Below.cell (p := ⟨w.heap.size, 0, none⟩) (by repeat (first | exact HR.out | refine bl_drewN ?_ _ | refine bl_drew ?_ | refine bl_alloc ?_ _)) (World.block_lt_of_cell? W1 _ K0.out)).trans K0.out, (Below.cell (p := ⟨w.heap.size, 1, none⟩) (by repeat (first | exact HR.out | refine bl_drewN ?_ _ | refine bl_drew ?_ | refine bl_alloc ?_ _)) (World.block_lt_of_cell? W1 _ K1.out)).trans K1.out⟩
    clear hK K
    try simp only [Act.put, List.setIfInBounds_toArray, List.set_cons_zero, List.set_cons_succ]
    refine wpAnyH_ready (rs := [3]) (by kernel_rfl) (by simp) ?_
    refine AllReadyH.cons (o := { dst := some 6, op := Op.call { callee := Callee.builtin Builtin.append, args := #[Operand.tmp 3, Operand.tmp 5], argTypes := #[22, 22] }, type := 22, pos := "ref.go:266", after := #[{ on := 0, ground := Ground.data }, { on := 2, ground := Ground.data }], guard := none }) rfl (fun K hK => ?_) (AllReadyH.nil)
    refine GR.step_all (K := dotK) rfl (.tmp 3) (.tmp 5) _ rfl Try.underlying22 hi0 hz0 hz1 hz2 rfl W1.heap.size _ [] rfl (by repeat (first | exact GR.lit_at _ _ _ (by simp) (by simp) | refine GR.Own.drewN ?_ _ | refine GR.Own.drew ?_ | refine GR.Own.alloc ?_ _)) _ _ c a rfl rfl (GR.Rd.below HA1.out (by repeat (first | exact HR.out | refine bl_drewN ?_ _ | refine bl_drew ?_ | refine bl_alloc ?_ _))) (by show (0 + a.length) * 16 ≤ _; omega) (Below.size (w := W1) (by repeat (first | exact HR.out | refine bl_drewN ?_ _ | refine bl_drew ?_ | refine bl_alloc ?_ _))) ?_
    intro v3 w3 ho3 hg3 hat3
    obtain ⟨A3, n3, c3, rfl⟩ := own_slice ho3 (by show a.length * 16 ≤ _; exact hma)
    first | (have OS3 : Hid (GR.Own sibK w3 W1.heap.size (.slice (some ⟨W1.heap.size + 1, 0, none⟩) 0 0) []) := Lib.hid (GR.Own.grown (B := W1.heap.size) (by repeat (first | exact GR.lit_at _ _ _ (by simp) (by simp) | refine GR.Own.drewN ?_ _ | refine GR.Own.drew ?_ | refine GR.Own.alloc ?_ _)) hg3 (.inr (fun e => absurd (Option.some.inj e) (by show ¬ (W1.heap.size + 1 = W1.heap.size); omega))))) | (have OS3 : Hid (GR.Own sibK w3 W1.heap.size (.slice (some ⟨W1.heap.size, 0, none⟩) 0 0) []) := Lib.hid (GR.Own.grown (B := W1.heap.size) (by repeat (first | exact GR.lit_at _ _ _ (by simp) (by simp) | refine GR.Own.drewN ?_ _ | refine GR.Own.drew ?_ | refine GR.Own.alloc ?_ _)) hg3 (.inr (fun e => absurd (Option.some.inj e) (by show ¬ (W1.heap.size = W1.heap.size + 1); omega)))))
    have N_ := Lib.hid (Below.grown (a := W1) (B := W1.heap.size) (by repeat (first | exact HR.out | refine bl_drewN ?_ _ | refine bl_drew ?_ | refine bl_alloc ?_ _)) hg3 (Below.size (w := W1) (by repeat (first | exact HR.out | refine bl_drewN ?_ _ | refine bl_drew ?_ | refine bl_alloc ?_ _))) (fun b hb => by cases hb; simp))
    clear HR
    have HR := N_
    have O3 : Hid (GR.Own dotK w3 W1.heap.size (.slice A3 n3 c3) a) := Lib.hid ho3
    have HS3 := Lib.hid (HR.out.size : W1.heap.size ≤ w3.heap.size)
    clear N_ ho3 hg3 hat3
    refine hK.out _ _ ?_ (fun hHeld => ?_)
    · first | exact ⟨(Below.cell (B := w.heap.size + 1) (p := ⟨w.heap.size, 0, none⟩) (Below.setCell (Below.setCell (HR.out.mono hw1) (Nat.le_refl _) _) (Nat.le_refl _) _) (Nat.lt_succ_self _)).trans K0.out, (Below.cell (B := w.heap.size + 1) (p := ⟨w.heap.size, 1, none⟩) (Below.setCell (Below.setCell (HR.out.mono hw1) (Nat.le_refl _) _) (Nat.le_refl _) _) (Nat.lt_succ_self _)).trans K1.out⟩ | exact ⟨(Below.cell (p := ⟨w.heap.size, 0, none⟩) (by repeat (first | exact HR.out | refine bl_drewN ?_ _ | refine bl_drew ?_ | refine bl_alloc ?_ _)) (World.block_lt_of_cell? W1 _ K0.out)).trans K0.out, (Below.cell (p := ⟨w.heap.size, 1, none⟩) (by repeat (first | exact HR.out | refine bl_drewN ?_ _ | refine bl_drew ?_ | refine bl_alloc ?_ _)) (World.block_lt_of_cell? W1 _ K1.out)).trans K1.out⟩
    clear hK K
    try simp only [Act.put, List.setIfInBounds_toArray, List.set_cons_zero, List.set_cons_succ]
    refine wpAnyH_ready (rs := [7]) (by kernel_rfl) (by simp) ?_
    refine AllReadyH.cons (o := { dst := some 10, op := Op.call { callee := Callee.builtin Builtin.append, args := #[Operand.tmp 7, Operand.tmp 9], argTypes := #[23, 23] }, type := 23, pos := "ref.go:266", after := #[{ on := 4, ground := Ground.data }, { on := 6, ground := Ground.data }, { on := 3, ground := Ground.chain }], guard := none }) rfl (fun K hK => ?_) (AllReadyH.nil)
    refine GR.step_all (K := sibK) rfl (.tmp 7) (.tmp 9) _ rfl Try.underlying23 hj0 jz0 jz1 jz2 rfl W1.heap.size _ [] rfl (by repeat (first | exact OS3.out | exact GR.lit_at _ _ _ HS3.out rfl | refine GR.Own.drewN ?_ _ | refine GR.Own.drew ?_ | refine GR.Own.alloc ?_ _)) _ _ d l rfl rfl (GR.Rd.below HL1.out (by repeat (first | exact HR.out | refine bl_drewN ?_ _ | refine bl_drew ?_ | refine bl_alloc ?_ _))) (by show (0 + l.length) * 40 ≤ _; omega) (Below.size (w := W1) (by repeat (first | exact HR.out | refine bl_drewN ?_ _ | refine bl_drew ?_ | refine bl_alloc ?_ _))) ?_
    intro v7 w7 ho7 hg7 hat7
    obtain ⟨A7, n7, c7, rfl⟩ := own_slice ho7 (by show l.length * 40 ≤ _; exact hml)
    have O37 : Hid (GR.Own dotK w7 W1.heap.size (.slice A3 n3 c3) a) := Lib.hid (own_grown2 (K := dotK) (J := sibK) (m := []) (B' := W1.heap.size) hg7 (by repeat (first | exact O3.out | refine GR.Own.drewN ?_ _ | refine GR.Own.drew ?_ | refine GR.Own.alloc ?_ _)) (by repeat (first | exact OS3.out | exact GR.lit_at _ _ _ HS3.out rfl | refine GR.Own.drewN ?_ _ | refine GR.Own.drew ?_ | refine GR.Own.alloc ?_ _)) (by decide))
    have N_ := Lib.hid (Below.grown (a := W1) (B := W1.heap.size) (by repeat (first | exact HR.out | refine bl_drewN ?_ _ | refine bl_drew ?_ | refine bl_alloc ?_ _)) hg7 (Below.size (w := W1) (by repeat (first | exact HR.out | refine bl_drewN ?_ _ | refine bl_drew ?_ | refine bl_alloc ?_ _))) (fun b hb => by cases hb; first | exact HS3.out | simp))
    clear HR
    have HR := N_
    have O7 : Hid (GR.Own sibK w7 W1.heap.size (.slice A7 n7 c7) l) := Lib.hid ho7
    clear N_ ho7 hg7 hat7
    have r0 : w7.cell? ⟨w.heap.size + 1, 0, none⟩ = some (.slice none 0 0) := (XR.out.below HR.out XR.out.lt).cell 0
    have r1 : w7.cell? ⟨w.heap.size + 1, 1, none⟩ = some (.slice none 0 0) := (XR.out.below HR.out XR.out.lt).cell 1
    have r2 := (XR.out.below HR.out XR.out.lt).frozen 0
    have r3 := (XR.out.below HR.out XR.out.lt).frozen 1
    refine hK.out _ _ ?_ (fun hHeld => ?_)
    · first | exact ⟨(Below.cell (B := w.heap.size + 1) (p := ⟨w.heap.size, 0, none⟩) (Below.setCell (Below.setCell (HR.out.mono hw1) (Nat.le_refl _) _) (Nat.le_refl _) _) (Nat.lt_succ_self _)).trans K0.out, (Below.cell (B := w.heap.size + 1) (p := ⟨w.heap.size, 1, none⟩) (Below.setCell (Below.setCell (HR.out.mono hw1) (Nat.le_refl _) _) (Nat.le_refl _) _) (Nat.lt_succ_self _)).trans K1.out⟩ | exact ⟨(Below.cell (p := ⟨w.heap.size, 0, none⟩) (by repeat (first | exact HR.out | refine bl_drewN ?_ _ | refine bl_drew ?_ | refine bl_alloc ?_ _)) (World.block_lt_of_cell? W1 _ K0.out)).trans K0.out, (Below.cell (p := ⟨w.heap.size, 1, none⟩) (by repeat (first | exact HR.out | refine bl_drewN ?_ _ | refine bl_drew ?_ | refine bl_alloc ?_ _)) (World.block_lt_of_cell? W1 _ K1.out)).trans K1.out⟩
    clear hK K
    try simp only [Act.put, List.setIfInBounds_toArray, List.set_cons_zero, List.set_cons_succ]
    refine wpAnyH_take (i := 8) (oi := { dst := some 11, op := Op.build 25 #[(0, Operand.tmp 6), (1, Operand.tmp 10)], type := 25, pos := "ref.go:266", after := #[{ on := 3, ground := Ground.data }, { on := 7, ground := Ground.data }], guard := none }) (v := ?_) rfl (by kernel_rfl) (by kernel_rfl) (by kernel_rfl) (fun _ _ _ h => h) (Or.inl ⟨by rfl, ?_⟩) (by assumption) ?_
    rotate_left
    · intro w_ hSw
      (try dsimp only at hSw)
      go_simp
      first | done | with_reducible rfl
    try simp only [Act.put, List.setIfInBounds_toArray, List.set_cons_zero, List.set_cons_succ]
    refine wpAnyH_ready (rs := [9]) (by kernel_rfl) (by simp) ?_
    refine AllReadyH.cons (o := { dst := none, op := Op.store 25 (Operand.tmp 2) (Operand.tmp 11), type := 0, pos := "ref.go:266", after := #[{ on := 8, ground := Ground.data }, { on := 7, ground := Ground.chain }, { on := 0, ground := Ground.phase }, { on := 1, ground := Ground.phase }, { on := 2, ground := Ground.phase }, { on := 3, ground := Ground.phase }, { on := 4, ground := Ground.phase }, { on := 5, ground := Ground.phase }, { on := 6, ground := Ground.phase }, { on := 7, ground := Ground.phase }, { on := 8, ground := Ground.phase }], guard := none }) rfl (fun K hK => ?_) (AllReadyH.nil)
    go_simp
    skip
    refine hK.out _ _ ?_ (fun hHeld => ?_)
    · first | exact ⟨(Below.cell (B := w.heap.size + 1) (p := ⟨w.heap.size, 0, none⟩) (Below.setCell (Below.setCell (HR.out.mono hw1) (Nat.le_refl _) _) (Nat.le_refl _) _) (Nat.lt_succ_self _)).trans K0.out, (Below.cell (B := w.heap.size + 1) (p := ⟨w.heap.size, 1, none⟩) (Below.setCell (Below.setCell (HR.out.mono hw1) (Nat.le_refl _) _) (Nat.le_refl _) _) (Nat.lt_succ_self _)).trans K1.out⟩ | exact ⟨(Below.cell (p := ⟨w.heap.size, 0, none⟩) (by repeat (first | exact HR.out | refine bl_drewN ?_ _ | refine bl_drew ?_ | refine bl_alloc ?_ _)) (World.block_lt_of_cell? W1 _ K0.out)).trans K0.out, (Below.cell (p := ⟨w.heap.size, 1, none⟩) (by repeat (first | exact HR.out | refine bl_drewN ?_ _ | refine bl_drew ?_ | refine bl_alloc ?_ _)) (World.block_lt_of_cell? W1 _ K1.out)).trans K1.out⟩
    clear hK K
    try simp only [Act.put, List.setIfInBounds_toArray, List.set_cons_zero, List.set_cons_succ]
    refine wpAnyH_done (by kernel_rfl) ?_ _
    go_wp2
    exact bodyPost_ret (v := .agg #[.slice A3 n3 c3, .slice A7 n7 c7]) (by simp [results, Try.results18, go_sem, r0, r1, r2, r3]) rfl ⟨_, _, rfl, own_set2 (O37.out.base LW.out.size) XR.out HR.out, own_set2 (O7.out.base LW.out.size) XR.out HR.out, by repeat (first | exact bl_then LW.out HR.out | refine bl_drewN ?_ _ | refine bl_drew ?_ | refine Below.setCell ?_ (by simp) _)⟩
end Go.Proofs.Ytlmnmlehnigfdaa
