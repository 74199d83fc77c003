/- DERIVED. An entry's item: the document's text. -/
import Derived.Test.YtkpckpglmiodbaaSkItem
import Derived.Deep.RegionHeld3
namespace Go.Proofs.Ytkpckpglmiodbaa
open Go.RowKit
attribute [local irreducible] arrW arrB wpList Code.wp

section
variable {P : Program} {ops : Array Oper} {o : Oper} {a : Act} {w : World} {K : Act → World → Prop} {Q : Exit → Act → World → Prop} {E : Prop}
theorem step_alloc (hgd : o.guard = none) (t : TypeId) (ho : o.op = .alloc t) (cs : Array Value) (n : Nat) (hz : (P.info? t).map (fun i => (i.zero, i.size)) = some (some (.agg cs), n))
    (h : ∀ W' g, g = w.heap.size → Blk W' g t cs → Below w.heap.size w W' → K (a.put o.dst (.pointer (some ⟨g, 0, none⟩))) W') : if Region.wanted o (yielded ops a.tmps) = true then Oper.wp P o a w K Q else E := by
  rw [if_pos (by simp [Region.wanted, hgd])]
  unfold Oper.wp execOp
  simp only [ho, Instr.alloc, Sem.run_bind, (zero_of_info hz).1, Result.andThen_ok, newVar, newRow, Value.cells]
  exact h _ _ rfl (Blk.new w t cs) ((Below.refl _ _).alloc (Nat.le_refl _) _)
end
theorem rit0 (k s : ByteArray) : IntKind.u64.wrap (IntKind.u64.wrap (IntKind.u64.wrap (bv (shaB (kL k) 0)) * 16) + IntKind.u64.wrap ((IntKind.u64.wrap (bv (shaB (kL k) 1))).tdiv 16)) = (itN k s 0 : Int) := by
  have h1 := (shaB (kL k) 0).toNat_lt
  have h2 := (shaB (kL k) 1).toNat_lt
  rw [bvn, bvn, IntKind.wrap_u64, IntKind.wrap_u64, IntKind.wrap_u64, IntKind.wrap_u64, IntKind.wrap_u64, Int.tdiv_eq_ediv_of_nonneg (by omega)]
  simp only [itN]
  omega
theorem ritS (k s : ByteArray) (j : Nat) (hj : j < 6) : IntKind.u64.wrap (IntKind.u64.wrap (256 * (itN k s j : Int)) + IntKind.u64.wrap (bv (shaB (iL k s) j))) = (itN k s (j + 1) : Int) := by
  have h1 := itN_lt k s j
  have h2 := (shaB (iL k s) j).toNat_lt
  have h3 : 256 ^ j ≤ 256 ^ 5 := Nat.pow_le_pow_right (by omega) (by omega)
  have h4 : itN k s j < 4503599627370496 := by
    have : (4096 : Nat) * 256 ^ 5 = 4503599627370496 := by decide
    omega
  rw [bvn, IntKind.wrap_u64, IntKind.wrap_u64, IntKind.wrap_u64]
  simp only [itN]
  omega
set_option maxRecDepth 100000 in
set_option maxHeartbeats 12800000 in
theorem refItem_any (k s : ByteArray) (hk : k.size ≤ 1048576) (hs : s.size ≤ 1048576) (w : World) :
    Calls Try.prog 10 #[.agg #[.string k, .string s]] w fun e w' => e = .returned (.int .u64 (itN k s 6)) ∧ Below w.heap.size w w' := by
  have hlk := uintU_len10 (show k.size < 18446744073709551616 by omega)
  have hls := uintU_len10 (show s.size < 18446744073709551616 by omega)
  have hdk : k.data.toList.length = k.size := rfl
  have hds : s.data.toList.length = s.size := rfl
  have htk : (textU k).length ≤ 1048586 := by rw [textU, List.length_append]; omega
  have hts : (textU s).length ≤ 1048586 := by rw [textU, List.length_append]; omega
  have szL : ∀ L : List UInt8, (⟨L.toArray⟩ : ByteArray).size = L.length := fun L => by simp [ByteArray.size]
  have hcat : ∀ W, (Op.stringOp .add ⟨#[75]⟩ k).run Try.prog W = .ok (.string ⟨(kL k).toArray⟩) W := fun W => by
    rw [run_string_add_sum W _ _ (by show 1 + k.size ≤ _; omega)]
    have := strApp k [75]
    rw [show (⟨#[75]⟩ : ByteArray) ++ k = ⟨(kL k).toArray⟩ from this]
  have hcat2 : ∀ W, (Op.stringOp .add ⟨#[73]⟩ ⟨(textU k).toArray⟩).run Try.prog W = .ok (.string ⟨(73 :: textU k).toArray⟩) W := fun W => by
    rw [run_string_add_sum W _ _ (by rw [szL, szL]; show 1 + (textU k).length ≤ _; omega)]
    have := strApp ⟨(textU k).toArray⟩ [73]
    rw [show (⟨#[73]⟩ : ByteArray) ++ ⟨(textU k).toArray⟩ = ⟨(73 :: textU k).toArray⟩ from this]
  have hcat3 : ∀ W, (Op.stringOp .add ⟨(73 :: textU k).toArray⟩ ⟨(textU s).toArray⟩).run Try.prog W = .ok (.string ⟨(iL k s).toArray⟩) W := fun W => by
    rw [run_string_add_sum W _ _ (by rw [szL, szL, List.length_cons]; omega)]
    have := strApp ⟨(textU s).toArray⟩ (73 :: textU k)
    rw [show (⟨(73 :: textU k).toArray⟩ : ByteArray) ++ ⟨(textU s).toArray⟩ = ⟨(iL k s).toArray⟩ from this]
  have HK := Lib.hid (show (⟨(kL k).toArray⟩ : ByteArray).size ≤ 70368744177664 by rw [szL]; simp only [kL, List.length_cons]; omega)
  have HI := Lib.hid (show (⟨(iL k s).toArray⟩ : ByteArray).size ≤ 70368744177664 by rw [szL]; simp only [iL, List.length_append, List.length_cons]; omega)
  clear hlk hls hdk hds htk hts szL
  go_enter Try.func10, Try.ntmps10
  go_wp2_with (first
    | (go_at_call 26; refine (refOf_any _ HK.out _).mono ?_; rintro e W1 ⟨rfl, L_⟩; have L1 := Lib.hid (bl_then ((Below.refl w.heap.size w).alloc (Nat.le_refl _) _) L_); have X1 : Hid (GR.Blk W1 w.heap.size 29 #[.string k, .string s]) := Lib.hid ((L_.block w.heap.size (by simp)).trans (GR.Blk.new w 29 #[.string k, .string s])); clear L_)
    | (refine alloc_arr (w := W1) rfl 53 rfl _ _ z32 ?_; intro W2 B_ L_ S_; have B2 := Lib.hid B_; have L2 := Lib.hid L_; have S2 := Lib.hid S_; clear B_ L_ S_)
    | (refine store_arr (w := W2) rfl 53 _ _ rfl W1.heap.size (arrB 32 (shaB (kL k))) rfl rfl _ _ B2.out (by rw [arrB_size]; exact s32) (by rw [arrB_size, arrB_size]) (arrB_one _ _) ?_; intro W3 B_ G_ S_; have B3 := Lib.hid B_; have G3 := Lib.hid G_; clear B_ G_ S_))
  have hlt : w.heap.size < W1.heap.size := X1.out.lt
  have X3 : GR.Blk W3 w.heap.size 29 #[.string k, .string s] := (X1.out.below L2.out hlt).grown G3.out (by intro e; injection e with e; omega)
  have x0 : W3.cell? ⟨w.heap.size, 0, none⟩ = some (.string k) := X3.cell 0
  have x1 : W3.cell? ⟨w.heap.size, 1, none⟩ = some (.string s) := X3.cell 1
  have y0 := (B3.out.cell 0).trans (arrB_get 32 (shaB (kL k)) (by omega))
  have y1 := (B3.out.cell 1).trans (arrB_get 32 (shaB (kL k)) (by omega))
  have KX0 := Lib.hid x0
  have KX1 := Lib.hid x1
  have KY0 := Lib.hid y0
  have KY1 := Lib.hid y1
  have B0 := Lib.hid (bl_of_grown (bl_then L1.out L2.out) G3.out (zero_lt_of (by have := L1.out.size; omega) rfl))
  have HR := Lib.hid (Below.refl W3.heap.size W3)
  clear x0 x1 y0 y1 X3 X1 B2 L2 S2 G3 B3 L1
  refine wp_region_held_drew (S := fun w' => w'.cell? ⟨w.heap.size, 0, none⟩ = some (.string k) ∧ w'.cell? ⟨w.heap.size, 1, none⟩ = some (.string s)) (by kernel_rfl) ?_ (fun hHeld => ?_)
  · exact ⟨KX0.out, KX1.out⟩
  refine wpAnyH_take (i := 0) (oi := { dst := some 11, op := Op.fieldAddr 29 (Operand.tmp 1) 0, type := 0, pos := "ref.go:21", after := #[], guard := none }) (v := ?_) rfl (by kernel_rfl) (by kernel_rfl) (by kernel_rfl) (fun _ _ _ h => h) (Or.inl ⟨by rfl, ?_⟩) (by assumption) ?_
  rotate_left
  · intro w_ hSw
    (try dsimp only at hSw)
    go_simp
    first | done | with_reducible rfl
  try simp only [Act.put, List.setIfInBounds_toArray, List.set_cons_zero, List.set_cons_succ]
  refine wpAnyH_take (i := 1) (oi := { dst := some 12, op := Op.load 9 (Operand.tmp 11), type := 9, pos := "ref.go:21", after := #[{ on := 0, ground := Ground.data }], guard := none }) (v := ?_) rfl (by kernel_rfl) (by kernel_rfl) (by kernel_rfl) (fun _ _ _ h => h) (Or.inl ⟨by rfl, ?_⟩) (by assumption) ?_
  rotate_left
  · intro w_ hSw
    (try dsimp only at hSw)
    go_simp
    first | done | with_reducible rfl
  try simp only [Act.put, List.setIfInBounds_toArray, List.set_cons_zero, List.set_cons_succ]
  refine wpAnyH_take (i := 4) (oi := { dst := some 15, op := Op.fieldAddr 29 (Operand.tmp 1) 1, type := 0, pos := "ref.go:21", after := #[], guard := none }) (v := ?_) rfl (by kernel_rfl) (by kernel_rfl) (by kernel_rfl) (fun _ _ _ h => h) (Or.inl ⟨by rfl, ?_⟩) (by assumption) ?_
  rotate_left
  · intro w_ hSw
    (try dsimp only at hSw)
    go_simp
    first | done | with_reducible rfl
  try simp only [Act.put, List.setIfInBounds_toArray, List.set_cons_zero, List.set_cons_succ]
  refine wpAnyH_take (i := 5) (oi := { dst := some 16, op := Op.load 9 (Operand.tmp 15), type := 9, pos := "ref.go:21", after := #[{ on := 4, ground := Ground.data }], guard := none }) (v := ?_) rfl (by kernel_rfl) (by kernel_rfl) (by kernel_rfl) (fun _ _ _ h => h) (Or.inl ⟨by rfl, ?_⟩) (by assumption) ?_
  rotate_left
  · intro w_ hSw
    (try dsimp only at hSw)
    go_simp
    first | done | with_reducible rfl
  try simp only [Act.put, List.setIfInBounds_toArray, List.set_cons_zero, List.set_cons_succ]
  refine wpAnyH_ready (rs := [2, 9]) (by kernel_rfl) (by simp) ?_
  refine AllReadyH.cons (o := { dst := some 13, op := Op.call { callee := Callee.value (Operand.func 27), args := #[Operand.tmp 12], argTypes := #[9] }, type := 9, pos := "ref.go:21", after := #[{ on := 1, ground := Ground.data }], guard := none }) rfl (fun K hK => ?_) (AllReadyH.cons (o := { dst := some 4, op := Op.alloc 53, type := 0, pos := "ref.go:21", after := #[], guard := none }) rfl (fun K hK => ?_) (AllReadyH.nil))
  · skip
    go_simp
    go_at_call 27
    refine (refText_any k (by omega) _).mono ?_
    rintro e w2 ⟨rfl, hb2⟩
    try (have N9 := Lib.hid (Blk.below C9.out hb2 C9.out.lt); clear C9; have C9 := N9; clear N9)
    have N_ := Lib.hid (bl_then (w := W3) (by repeat (first | exact HR.out | refine bl_drewN ?_ _ | refine bl_drew ?_ | refine bl_alloc ?_ _)) hb2)
    clear hb2 HR
    have HR := N_
    clear N_
    refine hK.out _ _ ?_ (fun hHeld => ?_)
    · first | go_keep | exact ⟨(HR.out.cell (World.block_lt_of_cell? W3 _ KX0.out)).trans KX0.out, (HR.out.cell (World.block_lt_of_cell? W3 _ KX1.out)).trans KX1.out⟩
    clear hK K
    try simp only [Act.put, List.setIfInBounds_toArray, List.set_cons_zero, List.set_cons_succ]
    refine wpAnyH_take (i := 3) (oi := { dst := some 14, op := Op.binOp BinOp.add 9 (Operand.const (Value.string { data := #[73] })) (Operand.tmp 13) 9, type := 9, pos := "ref.go:21", after := #[{ on := 2, ground := Ground.data }], guard := none }) (v := ?_) rfl (by kernel_rfl) (by kernel_rfl) (by kernel_rfl) (fun _ _ _ h => h) (Or.inl ⟨by rfl, ?_⟩) (by assumption) ?_
    rotate_left
    · intro w_ hSw
      (try dsimp only at hSw)
      go_simp
      first | done | with_reducible rfl
    try simp only [Act.put, List.setIfInBounds_toArray, List.set_cons_zero, List.set_cons_succ]
    refine wpAnyH_ready (rs := [6, 9]) (by kernel_rfl) (by simp) ?_
    refine AllReadyH.cons (o := { dst := some 17, op := Op.call { callee := Callee.value (Operand.func 27), args := #[Operand.tmp 16], argTypes := #[9] }, type := 9, pos := "ref.go:21", after := #[{ on := 5, ground := Ground.data }, { on := 2, ground := Ground.chain }], guard := none }) rfl (fun K hK => ?_) (AllReadyH.cons (o := { dst := some 4, op := Op.alloc 53, type := 0, pos := "ref.go:21", after := #[], guard := none }) rfl (fun K hK => ?_) (AllReadyH.nil))
    · skip
      go_simp
      go_at_call 27
      refine (refText_any s (by omega) _).mono ?_
      rintro e w2 ⟨rfl, hb2⟩
      try (have N9 := Lib.hid (Blk.below C9.out hb2 C9.out.lt); clear C9; have C9 := N9; clear N9)
      have N_ := Lib.hid (bl_then (w := W3) (by repeat (first | exact HR.out | refine bl_drewN ?_ _ | refine bl_drew ?_ | refine bl_alloc ?_ _)) hb2)
      clear hb2 HR
      have HR := N_
      clear N_
      refine hK.out _ _ ?_ (fun hHeld => ?_)
      · first | go_keep | exact ⟨(HR.out.cell (World.block_lt_of_cell? W3 _ KX0.out)).trans KX0.out, (HR.out.cell (World.block_lt_of_cell? W3 _ KX1.out)).trans KX1.out⟩
      clear hK K
      try simp only [Act.put, List.setIfInBounds_toArray, List.set_cons_zero, List.set_cons_succ]
      refine wpAnyH_take (i := 7) (oi := { dst := some 18, op := Op.binOp BinOp.add 9 (Operand.tmp 14) (Operand.tmp 17) 9, type := 9, pos := "ref.go:21", after := #[{ on := 3, ground := Ground.data }, { on := 6, ground := Ground.data }], guard := none }) (v := ?_) rfl (by kernel_rfl) (by kernel_rfl) (by kernel_rfl) (fun _ _ _ h => h) (Or.inl ⟨by rfl, ?_⟩) (by assumption) ?_
      rotate_left
      · intro w_ hSw
        (try dsimp only at hSw)
        go_simp
        first | done | with_reducible rfl
      try simp only [Act.put, List.setIfInBounds_toArray, List.set_cons_zero, List.set_cons_succ]
      refine wpAnyH_ready (rs := [8, 9]) (by kernel_rfl) (by simp) ?_
      refine AllReadyH.cons (o := { dst := some 19, op := Op.call { callee := Callee.value (Operand.func 26), args := #[Operand.tmp 18], argTypes := #[9] }, type := 53, pos := "ref.go:21", after := #[{ on := 7, ground := Ground.data }, { on := 6, ground := Ground.chain }], guard := none }) rfl (fun K hK => ?_) (AllReadyH.cons (o := { dst := some 4, op := Op.alloc 53, type := 0, pos := "ref.go:21", after := #[], guard := none }) rfl (fun K hK => ?_) (AllReadyH.nil))
      · skip
        go_simp
        go_at_call 26
        refine (refOf_any _ HI.out _).mono ?_
        rintro e w2 ⟨rfl, hb2⟩
        try (have N9 := Lib.hid (Blk.below C9.out hb2 C9.out.lt); clear C9; have C9 := N9; clear N9)
        have N_ := Lib.hid (bl_then (w := W3) (by repeat (first | exact HR.out | refine bl_drewN ?_ _ | refine bl_drew ?_ | refine bl_alloc ?_ _)) hb2)
        clear hb2 HR
        have HR := N_
        clear N_
        refine hK.out _ _ ?_ (fun hHeld => ?_)
        · first | go_keep | exact ⟨(HR.out.cell (World.block_lt_of_cell? W3 _ KX0.out)).trans KX0.out, (HR.out.cell (World.block_lt_of_cell? W3 _ KX1.out)).trans KX1.out⟩
        clear hK K
        try simp only 
        refine wpAnyH_ready (rs := [9]) (by kernel_rfl) (by simp) ?_
        refine AllReadyH.cons (o := { dst := some 4, op := Op.alloc 53, type := 0, pos := "ref.go:21", after := #[], guard := none }) rfl (fun K hK => ?_) AllReadyH.nil
        refine step_alloc rfl 53 rfl _ _ z32 ?_
        intro W9 g9 E_ B_ L_
        have C9 := Lib.hid B_
        have HG9 := Lib.hid (show W3.heap.size ≤ g9 by rw [E_]; exact Below.size (w := W3) (by repeat (first | exact HR.out | refine bl_drewN ?_ _ | refine bl_drew ?_ | refine bl_alloc ?_ _)))
        have N_ := Lib.hid (bl_then (w := W3) (by repeat (first | exact HR.out | refine bl_drewN ?_ _ | refine bl_drew ?_ | refine bl_alloc ?_ _)) L_)
        clear HR B_ L_ E_
        have HR := N_
        clear N_
        refine hK.out _ _ ?_ (fun hHeld => ?_)
        · first | go_keep | exact ⟨(HR.out.cell (World.block_lt_of_cell? W3 _ KX0.out)).trans KX0.out, (HR.out.cell (World.block_lt_of_cell? W3 _ KX1.out)).trans KX1.out⟩
        clear hK K
        try simp only [Act.put, List.setIfInBounds_toArray, List.set_cons_zero, List.set_cons_succ]
        refine wpAnyH_ready (rs := [10]) (by kernel_rfl) (by simp) ?_
        refine AllReadyH.cons (o := { dst := none, op := Op.store 53 (Operand.tmp 4) (Operand.tmp 19), type := 0, pos := "ref.go:21", after := #[{ on := 9, ground := Ground.data }, { on := 8, ground := Ground.data }, { on := 8, ground := Ground.chain }, { on := 0, ground := Ground.phase }, { on := 1, ground := Ground.phase }, { on := 2, ground := Ground.phase }, { on := 3, ground := Ground.phase }, { on := 4, ground := Ground.phase }, { on := 5, ground := Ground.phase }, { on := 6, ground := Ground.phase }, { on := 7, ground := Ground.phase }, { on := 8, ground := Ground.phase }, { on := 9, ground := Ground.phase }], guard := none }) rfl (fun K hK => ?_) AllReadyH.nil
        refine step_store rfl 53 _ _ rfl g9 (arrB 32 (shaB (iL k s))) rfl rfl 53 _ C9.out (by rw [arrB_size]; exact s32) (by rw [arrB_size, arrB_size]) (arrB_one _ _) ?_
        intro WF B_ G_ S_
        have CF := Lib.hid B_
        have HF : Hid (Below W3.heap.size W3 WF) := Lib.hid (bl_of_grown (by repeat (first | exact HR.out | refine bl_drewN ?_ _ | refine bl_drew ?_ | refine bl_alloc ?_ _)) G_ (zero_lt_of HG9.out rfl))
        clear B_ G_ S_ C9 HR
        refine hK.out _ _ ?_ (fun hHeld => ?_)
        · exact ⟨(HF.out.cell (World.block_lt_of_cell? W3 _ KX0.out)).trans KX0.out, (HF.out.cell (World.block_lt_of_cell? W3 _ KX1.out)).trans KX1.out⟩
        clear hK K
        try simp only [Act.put]
        refine wpAnyH_done (by kernel_rfl) ?_ _
        have y0 := (HF.out.cell (World.block_lt_of_cell? W3 _ KY0.out)).trans KY0.out
        have y1 := (HF.out.cell (World.block_lt_of_cell? W3 _ KY1.out)).trans KY1.out
        go_wp2
        rw [rit0 k s]
        go_loopw [5, 6] (fun x i w' => ∃ j : Nat, j ≤ 6 ∧ i = .int .i64 j ∧ x = .int .u64 (itN k s j) ∧ Hid (Drawn WF w')) (fun _ i _ => 6 - (intOf i).toNat)
        case atStart => exact ⟨0, by omega, rfl, rfl, Lib.hid (Drawn.refl WF)⟩
        case round =>
          obtain ⟨j, hj, rfl, rfl, hd⟩ := hrel
          by_cases hlt : j < 6
          · have i1 : (0 : Int) ≤ (j : Int) := by omega
            have i2 : (j : Int) < 6 := by omega
            have i3 : (j : Int) < 32 := by omega
            have z : Blk wr g9 53 (arrB 32 (shaB (iL k s))) := ((hd.out.below WF.heap.size).block g9 CF.out.lt).trans CF.out
            have z0 := (z.cell j).trans (arrB_get 32 (shaB (iL k s)) (by omega))
            have HS := Lib.hid (ritS k s j hlt)
            clear z
            go_wp2
            go_roundw
            case rel => exact ⟨j + 1, by omega, by go_num, by rw [HS.out], hd⟩
            case measure => simp [intOf]; omega
          · obtain rfl : j = 6 := by omega
            go_wp2
            go_ret
            exact ⟨rfl, bl_drawn (bl_then B0.out HF.out) hd.out⟩
      · skip
        refine step_alloc rfl 53 rfl _ _ z32 ?_
        intro W9 g9 E_ B_ L_
        have C9 := Lib.hid B_
        have HG9 := Lib.hid (show W3.heap.size ≤ g9 by rw [E_]; exact Below.size (w := W3) (by repeat (first | exact HR.out | refine bl_drewN ?_ _ | refine bl_drew ?_ | refine bl_alloc ?_ _)))
        have N_ := Lib.hid (bl_then (w := W3) (by repeat (first | exact HR.out | refine bl_drewN ?_ _ | refine bl_drew ?_ | refine bl_alloc ?_ _)) L_)
        clear HR B_ L_ E_
        have HR := N_
        clear N_
        refine hK.out _ _ ?_ (fun hHeld => ?_)
        · first | go_keep | exact ⟨(HR.out.cell (World.block_lt_of_cell? W3 _ KX0.out)).trans KX0.out, (HR.out.cell (World.block_lt_of_cell? W3 _ KX1.out)).trans KX1.out⟩
        clear hK K
        try simp only [Act.put, List.setIfInBounds_toArray, List.set_cons_zero, List.set_cons_succ]
        refine wpAnyH_ready (rs := [8]) (by kernel_rfl) (by simp) ?_
        refine AllReadyH.cons (o := { dst := some 19, op := Op.call { callee := Callee.value (Operand.func 26), args := #[Operand.tmp 18], argTypes := #[9] }, type := 53, pos := "ref.go:21", after := #[{ on := 7, ground := Ground.data }, { on := 6, ground := Ground.chain }], guard := none }) rfl (fun K hK => ?_) AllReadyH.nil
        go_simp
        go_at_call 26
        refine (refOf_any _ HI.out _).mono ?_
        rintro e w2 ⟨rfl, hb2⟩
        try (have N9 := Lib.hid (Blk.below C9.out hb2 C9.out.lt); clear C9; have C9 := N9; clear N9)
        have N_ := Lib.hid (bl_then (w := W3) (by repeat (first | exact HR.out | refine bl_drewN ?_ _ | refine bl_drew ?_ | refine bl_alloc ?_ _)) hb2)
        clear hb2 HR
        have HR := N_
        clear N_
        refine hK.out _ _ ?_ (fun hHeld => ?_)
        · first | go_keep | exact ⟨(HR.out.cell (World.block_lt_of_cell? W3 _ KX0.out)).trans KX0.out, (HR.out.cell (World.block_lt_of_cell? W3 _ KX1.out)).trans KX1.out⟩
        clear hK K
        try simp only 
        refine wpAnyH_ready (rs := [10]) (by kernel_rfl) (by simp) ?_
        refine AllReadyH.cons (o := { dst := none, op := Op.store 53 (Operand.tmp 4) (Operand.tmp 19), type := 0, pos := "ref.go:21", after := #[{ on := 9, ground := Ground.data }, { on := 8, ground := Ground.data }, { on := 8, ground := Ground.chain }, { on := 0, ground := Ground.phase }, { on := 1, ground := Ground.phase }, { on := 2, ground := Ground.phase }, { on := 3, ground := Ground.phase }, { on := 4, ground := Ground.phase }, { on := 5, ground := Ground.phase }, { on := 6, ground := Ground.phase }, { on := 7, ground := Ground.phase }, { on := 8, ground := Ground.phase }, { on := 9, ground := Ground.phase }], guard := none }) rfl (fun K hK => ?_) AllReadyH.nil
        refine step_store rfl 53 _ _ rfl g9 (arrB 32 (shaB (iL k s))) rfl rfl 53 _ C9.out (by rw [arrB_size]; exact s32) (by rw [arrB_size, arrB_size]) (arrB_one _ _) ?_
        intro WF B_ G_ S_
        have CF := Lib.hid B_
        have HF : Hid (Below W3.heap.size W3 WF) := Lib.hid (bl_of_grown (by repeat (first | exact HR.out | refine bl_drewN ?_ _ | refine bl_drew ?_ | refine bl_alloc ?_ _)) G_ (zero_lt_of HG9.out rfl))
        clear B_ G_ S_ C9 HR
        refine hK.out _ _ ?_ (fun hHeld => ?_)
        · exact ⟨(HF.out.cell (World.block_lt_of_cell? W3 _ KX0.out)).trans KX0.out, (HF.out.cell (World.block_lt_of_cell? W3 _ KX1.out)).trans KX1.out⟩
        clear hK K
        try simp only [Act.put]
        refine wpAnyH_done (by kernel_rfl) ?_ _
        have y0 := (HF.out.cell (World.block_lt_of_cell? W3 _ KY0.out)).trans KY0.out
        have y1 := (HF.out.cell (World.block_lt_of_cell? W3 _ KY1.out)).trans KY1.out
        go_wp2
        rw [rit0 k s]
        go_loopw [5, 6] (fun x i w' => ∃ j : Nat, j ≤ 6 ∧ i = .int .i64 j ∧ x = .int .u64 (itN k s j) ∧ Hid (Drawn WF w')) (fun _ i _ => 6 - (intOf i).toNat)
        case atStart => exact ⟨0, by omega, rfl, rfl, Lib.hid (Drawn.refl WF)⟩
        case round =>
          obtain ⟨j, hj, rfl, rfl, hd⟩ := hrel
          by_cases hlt : j < 6
          · have i1 : (0 : Int) ≤ (j : Int) := by omega
            have i2 : (j : Int) < 6 := by omega
            have i3 : (j : Int) < 32 := by omega
            have z : Blk wr g9 53 (arrB 32 (shaB (iL k s))) := ((hd.out.below WF.heap.size).block g9 CF.out.lt).trans CF.out
            have z0 := (z.cell j).trans (arrB_get 32 (shaB (iL k s)) (by omega))
            have HS := Lib.hid (ritS k s j hlt)
            clear z
            go_wp2
            go_roundw
            case rel => exact ⟨j + 1, by omega, by go_num, by rw [HS.out], hd⟩
            case measure => simp [intOf]; omega
          · obtain rfl : j = 6 := by omega
            go_wp2
            go_ret
            exact ⟨rfl, bl_drawn (bl_then B0.out HF.out) hd.out⟩
    · skip
      refine step_alloc rfl 53 rfl _ _ z32 ?_
      intro W9 g9 E_ B_ L_
      have C9 := Lib.hid B_
      have HG9 := Lib.hid (show W3.heap.size ≤ g9 by rw [E_]; exact Below.size (w := W3) (by repeat (first | exact HR.out | refine bl_drewN ?_ _ | refine bl_drew ?_ | refine bl_alloc ?_ _)))
      have N_ := Lib.hid (bl_then (w := W3) (by repeat (first | exact HR.out | refine bl_drewN ?_ _ | refine bl_drew ?_ | refine bl_alloc ?_ _)) L_)
      clear HR B_ L_ E_
      have HR := N_
      clear N_
      refine hK.out _ _ ?_ (fun hHeld => ?_)
      · first | go_keep | exact ⟨(HR.out.cell (World.block_lt_of_cell? W3 _ KX0.out)).trans KX0.out, (HR.out.cell (World.block_lt_of_cell? W3 _ KX1.out)).trans KX1.out⟩
      clear hK K
      try simp only [Act.put, List.setIfInBounds_toArray, List.set_cons_zero, List.set_cons_succ]
      refine wpAnyH_ready (rs := [6]) (by kernel_rfl) (by simp) ?_
      refine AllReadyH.cons (o := { dst := some 17, op := Op.call { callee := Callee.value (Operand.func 27), args := #[Operand.tmp 16], argTypes := #[9] }, type := 9, pos := "ref.go:21", after := #[{ on := 5, ground := Ground.data }, { on := 2, ground := Ground.chain }], guard := none }) rfl (fun K hK => ?_) AllReadyH.nil
      go_simp
      go_at_call 27
      refine (refText_any s (by omega) _).mono ?_
      rintro e w2 ⟨rfl, hb2⟩
      try (have N9 := Lib.hid (Blk.below C9.out hb2 C9.out.lt); clear C9; have C9 := N9; clear N9)
      have N_ := Lib.hid (bl_then (w := W3) (by repeat (first | exact HR.out | refine bl_drewN ?_ _ | refine bl_drew ?_ | refine bl_alloc ?_ _)) hb2)
      clear hb2 HR
      have HR := N_
      clear N_
      refine hK.out _ _ ?_ (fun hHeld => ?_)
      · first | go_keep | exact ⟨(HR.out.cell (World.block_lt_of_cell? W3 _ KX0.out)).trans KX0.out, (HR.out.cell (World.block_lt_of_cell? W3 _ KX1.out)).trans KX1.out⟩
      clear hK K
      try simp only [Act.put, List.setIfInBounds_toArray, List.set_cons_zero, List.set_cons_succ]
      refine wpAnyH_take (i := 7) (oi := { dst := some 18, op := Op.binOp BinOp.add 9 (Operand.tmp 14) (Operand.tmp 17) 9, type := 9, pos := "ref.go:21", after := #[{ on := 3, ground := Ground.data }, { on := 6, ground := Ground.data }], guard := none }) (v := ?_) rfl (by kernel_rfl) (by kernel_rfl) (by kernel_rfl) (fun _ _ _ h => h) (Or.inl ⟨by rfl, ?_⟩) (by assumption) ?_
      rotate_left
      · intro w_ hSw
        (try dsimp only at hSw)
        go_simp
        first | done | with_reducible rfl
      try simp only [Act.put, List.setIfInBounds_toArray, List.set_cons_zero, List.set_cons_succ]
      refine wpAnyH_ready (rs := [8]) (by kernel_rfl) (by simp) ?_
      refine AllReadyH.cons (o := { dst := some 19, op := Op.call { callee := Callee.value (Operand.func 26), args := #[Operand.tmp 18], argTypes := #[9] }, type := 53, pos := "ref.go:21", after := #[{ on := 7, ground := Ground.data }, { on := 6, ground := Ground.chain }], guard := none }) rfl (fun K hK => ?_) AllReadyH.nil
      go_simp
      go_at_call 26
      refine (refOf_any _ HI.out _).mono ?_
      rintro e w2 ⟨rfl, hb2⟩
      try (have N9 := Lib.hid (Blk.below C9.out hb2 C9.out.lt); clear C9; have C9 := N9; clear N9)
      have N_ := Lib.hid (bl_then (w := W3) (by repeat (first | exact HR.out | refine bl_drewN ?_ _ | refine bl_drew ?_ | refine bl_alloc ?_ _)) hb2)
      clear hb2 HR
      have HR := N_
      clear N_
      refine hK.out _ _ ?_ (fun hHeld => ?_)
      · first | go_keep | exact ⟨(HR.out.cell (World.block_lt_of_cell? W3 _ KX0.out)).trans KX0.out, (HR.out.cell (World.block_lt_of_cell? W3 _ KX1.out)).trans KX1.out⟩
      clear hK K
      try simp only 
      refine wpAnyH_ready (rs := [10]) (by kernel_rfl) (by simp) ?_
      refine AllReadyH.cons (o := { dst := none, op := Op.store 53 (Operand.tmp 4) (Operand.tmp 19), type := 0, pos := "ref.go:21", after := #[{ on := 9, ground := Ground.data }, { on := 8, ground := Ground.data }, { on := 8, ground := Ground.chain }, { on := 0, ground := Ground.phase }, { on := 1, ground := Ground.phase }, { on := 2, ground := Ground.phase }, { on := 3, ground := Ground.phase }, { on := 4, ground := Ground.phase }, { on := 5, ground := Ground.phase }, { on := 6, ground := Ground.phase }, { on := 7, ground := Ground.phase }, { on := 8, ground := Ground.phase }, { on := 9, ground := Ground.phase }], guard := none }) rfl (fun K hK => ?_) AllReadyH.nil
      refine step_store rfl 53 _ _ rfl g9 (arrB 32 (shaB (iL k s))) rfl rfl 53 _ C9.out (by rw [arrB_size]; exact s32) (by rw [arrB_size, arrB_size]) (arrB_one _ _) ?_
      intro WF B_ G_ S_
      have CF := Lib.hid B_
      have HF : Hid (Below W3.heap.size W3 WF) := Lib.hid (bl_of_grown (by repeat (first | exact HR.out | refine bl_drewN ?_ _ | refine bl_drew ?_ | refine bl_alloc ?_ _)) G_ (zero_lt_of HG9.out rfl))
      clear B_ G_ S_ C9 HR
      refine hK.out _ _ ?_ (fun hHeld => ?_)
      · exact ⟨(HF.out.cell (World.block_lt_of_cell? W3 _ KX0.out)).trans KX0.out, (HF.out.cell (World.block_lt_of_cell? W3 _ KX1.out)).trans KX1.out⟩
      clear hK K
      try simp only [Act.put]
      refine wpAnyH_done (by kernel_rfl) ?_ _
      have y0 := (HF.out.cell (World.block_lt_of_cell? W3 _ KY0.out)).trans KY0.out
      have y1 := (HF.out.cell (World.block_lt_of_cell? W3 _ KY1.out)).trans KY1.out
      go_wp2
      rw [rit0 k s]
      go_loopw [5, 6] (fun x i w' => ∃ j : Nat, j ≤ 6 ∧ i = .int .i64 j ∧ x = .int .u64 (itN k s j) ∧ Hid (Drawn WF w')) (fun _ i _ => 6 - (intOf i).toNat)
      case atStart => exact ⟨0, by omega, rfl, rfl, Lib.hid (Drawn.refl WF)⟩
      case round =>
        obtain ⟨j, hj, rfl, rfl, hd⟩ := hrel
        by_cases hlt : j < 6
        · have i1 : (0 : Int) ≤ (j : Int) := by omega
          have i2 : (j : Int) < 6 := by omega
          have i3 : (j : Int) < 32 := by omega
          have z : Blk wr g9 53 (arrB 32 (shaB (iL k s))) := ((hd.out.below WF.heap.size).block g9 CF.out.lt).trans CF.out
          have z0 := (z.cell j).trans (arrB_get 32 (shaB (iL k s)) (by omega))
          have HS := Lib.hid (ritS k s j hlt)
          clear z
          go_wp2
          go_roundw
          case rel => exact ⟨j + 1, by omega, by go_num, by rw [HS.out], hd⟩
          case measure => simp [intOf]; omega
        · obtain rfl : j = 6 := by omega
          go_wp2
          go_ret
          exact ⟨rfl, bl_drawn (bl_then B0.out HF.out) hd.out⟩
  · skip
    refine step_alloc rfl 53 rfl _ _ z32 ?_
    intro W9 g9 E_ B_ L_
    have C9 := Lib.hid B_
    have HG9 := Lib.hid (show W3.heap.size ≤ g9 by rw [E_]; exact Below.size (w := W3) (by repeat (first | exact HR.out | refine bl_drewN ?_ _ | refine bl_drew ?_ | refine bl_alloc ?_ _)))
    have N_ := Lib.hid (bl_then (w := W3) (by repeat (first | exact HR.out | refine bl_drewN ?_ _ | refine bl_drew ?_ | refine bl_alloc ?_ _)) L_)
    clear HR B_ L_ E_
    have HR := N_
    clear N_
    refine hK.out _ _ ?_ (fun hHeld => ?_)
    · first | go_keep | exact ⟨(HR.out.cell (World.block_lt_of_cell? W3 _ KX0.out)).trans KX0.out, (HR.out.cell (World.block_lt_of_cell? W3 _ KX1.out)).trans KX1.out⟩
    clear hK K
    try simp only [Act.put, List.setIfInBounds_toArray, List.set_cons_zero, List.set_cons_succ]
    refine wpAnyH_ready (rs := [2]) (by kernel_rfl) (by simp) ?_
    refine AllReadyH.cons (o := { dst := some 13, op := Op.call { callee := Callee.value (Operand.func 27), args := #[Operand.tmp 12], argTypes := #[9] }, type := 9, pos := "ref.go:21", after := #[{ on := 1, ground := Ground.data }], guard := none }) rfl (fun K hK => ?_) AllReadyH.nil
    go_simp
    go_at_call 27
    refine (refText_any k (by omega) _).mono ?_
    rintro e w2 ⟨rfl, hb2⟩
    try (have N9 := Lib.hid (Blk.below C9.out hb2 C9.out.lt); clear C9; have C9 := N9; clear N9)
    have N_ := Lib.hid (bl_then (w := W3) (by repeat (first | exact HR.out | refine bl_drewN ?_ _ | refine bl_drew ?_ | refine bl_alloc ?_ _)) hb2)
    clear hb2 HR
    have HR := N_
    clear N_
    refine hK.out _ _ ?_ (fun hHeld => ?_)
    · first | go_keep | exact ⟨(HR.out.cell (World.block_lt_of_cell? W3 _ KX0.out)).trans KX0.out, (HR.out.cell (World.block_lt_of_cell? W3 _ KX1.out)).trans KX1.out⟩
    clear hK K
    try simp only [Act.put, List.setIfInBounds_toArray, List.set_cons_zero, List.set_cons_succ]
    refine wpAnyH_take (i := 3) (oi := { dst := some 14, op := Op.binOp BinOp.add 9 (Operand.const (Value.string { data := #[73] })) (Operand.tmp 13) 9, type := 9, pos := "ref.go:21", after := #[{ on := 2, ground := Ground.data }], guard := none }) (v := ?_) rfl (by kernel_rfl) (by kernel_rfl) (by kernel_rfl) (fun _ _ _ h => h) (Or.inl ⟨by rfl, ?_⟩) (by assumption) ?_
    rotate_left
    · intro w_ hSw
      (try dsimp only at hSw)
      go_simp
      first | done | with_reducible rfl
    try simp only [Act.put, List.setIfInBounds_toArray, List.set_cons_zero, List.set_cons_succ]
    refine wpAnyH_ready (rs := [6]) (by kernel_rfl) (by simp) ?_
    refine AllReadyH.cons (o := { dst := some 17, op := Op.call { callee := Callee.value (Operand.func 27), args := #[Operand.tmp 16], argTypes := #[9] }, type := 9, pos := "ref.go:21", after := #[{ on := 5, ground := Ground.data }, { on := 2, ground := Ground.chain }], guard := none }) rfl (fun K hK => ?_) AllReadyH.nil
    go_simp
    go_at_call 27
    refine (refText_any s (by omega) _).mono ?_
    rintro e w2 ⟨rfl, hb2⟩
    try (have N9 := Lib.hid (Blk.below C9.out hb2 C9.out.lt); clear C9; have C9 := N9; clear N9)
    have N_ := Lib.hid (bl_then (w := W3) (by repeat (first | exact HR.out | refine bl_drewN ?_ _ | refine bl_drew ?_ | refine bl_alloc ?_ _)) hb2)
    clear hb2 HR
    have HR := N_
    clear N_
    refine hK.out _ _ ?_ (fun hHeld => ?_)
    · first | go_keep | exact ⟨(HR.out.cell (World.block_lt_of_cell? W3 _ KX0.out)).trans KX0.out, (HR.out.cell (World.block_lt_of_cell? W3 _ KX1.out)).trans KX1.out⟩
    clear hK K
    try simp only [Act.put, List.setIfInBounds_toArray, List.set_cons_zero, List.set_cons_succ]
    refine wpAnyH_take (i := 7) (oi := { dst := some 18, op := Op.binOp BinOp.add 9 (Operand.tmp 14) (Operand.tmp 17) 9, type := 9, pos := "ref.go:21", after := #[{ on := 3, ground := Ground.data }, { on := 6, ground := Ground.data }], guard := none }) (v := ?_) rfl (by kernel_rfl) (by kernel_rfl) (by kernel_rfl) (fun _ _ _ h => h) (Or.inl ⟨by rfl, ?_⟩) (by assumption) ?_
    rotate_left
    · intro w_ hSw
      (try dsimp only at hSw)
      go_simp
      first | done | with_reducible rfl
    try simp only [Act.put, List.setIfInBounds_toArray, List.set_cons_zero, List.set_cons_succ]
    refine wpAnyH_ready (rs := [8]) (by kernel_rfl) (by simp) ?_
    refine AllReadyH.cons (o := { dst := some 19, op := Op.call { callee := Callee.value (Operand.func 26), args := #[Operand.tmp 18], argTypes := #[9] }, type := 53, pos := "ref.go:21", after := #[{ on := 7, ground := Ground.data }, { on := 6, ground := Ground.chain }], guard := none }) rfl (fun K hK => ?_) AllReadyH.nil
    go_simp
    go_at_call 26
    refine (refOf_any _ HI.out _).mono ?_
    rintro e w2 ⟨rfl, hb2⟩
    try (have N9 := Lib.hid (Blk.below C9.out hb2 C9.out.lt); clear C9; have C9 := N9; clear N9)
    have N_ := Lib.hid (bl_then (w := W3) (by repeat (first | exact HR.out | refine bl_drewN ?_ _ | refine bl_drew ?_ | refine bl_alloc ?_ _)) hb2)
    clear hb2 HR
    have HR := N_
    clear N_
    refine hK.out _ _ ?_ (fun hHeld => ?_)
    · first | go_keep | exact ⟨(HR.out.cell (World.block_lt_of_cell? W3 _ KX0.out)).trans KX0.out, (HR.out.cell (World.block_lt_of_cell? W3 _ KX1.out)).trans KX1.out⟩
    clear hK K
    try simp only 
    refine wpAnyH_ready (rs := [10]) (by kernel_rfl) (by simp) ?_
    refine AllReadyH.cons (o := { dst := none, op := Op.store 53 (Operand.tmp 4) (Operand.tmp 19), type := 0, pos := "ref.go:21", after := #[{ on := 9, ground := Ground.data }, { on := 8, ground := Ground.data }, { on := 8, ground := Ground.chain }, { on := 0, ground := Ground.phase }, { on := 1, ground := Ground.phase }, { on := 2, ground := Ground.phase }, { on := 3, ground := Ground.phase }, { on := 4, ground := Ground.phase }, { on := 5, ground := Ground.phase }, { on := 6, ground := Ground.phase }, { on := 7, ground := Ground.phase }, { on := 8, ground := Ground.phase }, { on := 9, ground := Ground.phase }], guard := none }) rfl (fun K hK => ?_) AllReadyH.nil
    refine step_store rfl 53 _ _ rfl g9 (arrB 32 (shaB (iL k s))) rfl rfl 53 _ C9.out (by rw [arrB_size]; exact s32) (by rw [arrB_size, arrB_size]) (arrB_one _ _) ?_
    intro WF B_ G_ S_
    have CF := Lib.hid B_
    have HF : Hid (Below W3.heap.size W3 WF) := Lib.hid (bl_of_grown (by repeat (first | exact HR.out | refine bl_drewN ?_ _ | refine bl_drew ?_ | refine bl_alloc ?_ _)) G_ (zero_lt_of HG9.out rfl))
    clear B_ G_ S_ C9 HR
    refine hK.out _ _ ?_ (fun hHeld => ?_)
    · exact ⟨(HF.out.cell (World.block_lt_of_cell? W3 _ KX0.out)).trans KX0.out, (HF.out.cell (World.block_lt_of_cell? W3 _ KX1.out)).trans KX1.out⟩
    clear hK K
    try simp only [Act.put]
    refine wpAnyH_done (by kernel_rfl) ?_ _
    have y0 := (HF.out.cell (World.block_lt_of_cell? W3 _ KY0.out)).trans KY0.out
    have y1 := (HF.out.cell (World.block_lt_of_cell? W3 _ KY1.out)).trans KY1.out
    go_wp2
    rw [rit0 k s]
    go_loopw [5, 6] (fun x i w' => ∃ j : Nat, j ≤ 6 ∧ i = .int .i64 j ∧ x = .int .u64 (itN k s j) ∧ Hid (Drawn WF w')) (fun _ i _ => 6 - (intOf i).toNat)
    case atStart => exact ⟨0, by omega, rfl, rfl, Lib.hid (Drawn.refl WF)⟩
    case round =>
      obtain ⟨j, hj, rfl, rfl, hd⟩ := hrel
      by_cases hlt : j < 6
      · have i1 : (0 : Int) ≤ (j : Int) := by omega
        have i2 : (j : Int) < 6 := by omega
        have i3 : (j : Int) < 32 := by omega
        have z : Blk wr g9 53 (arrB 32 (shaB (iL k s))) := ((hd.out.below WF.heap.size).block g9 CF.out.lt).trans CF.out
        have z0 := (z.cell j).trans (arrB_get 32 (shaB (iL k s)) (by omega))
        have HS := Lib.hid (ritS k s j hlt)
        clear z
        go_wp2
        go_roundw
        case rel => exact ⟨j + 1, by omega, by go_num, by rw [HS.out], hd⟩
        case measure => simp [intOf]; omega
      · obtain rfl : j = 6 := by omega
        go_wp2
        go_ret
        exact ⟨rfl, bl_drawn (bl_then B0.out HF.out) hd.out⟩
end Go.Proofs.Ytkpckpglmiodbaa
