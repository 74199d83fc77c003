/- DERIVED. The words of a block: the document's text. -/
import Derived.Test.YtpklkjekkbpeoaaDigConst
import Derived.Test.YtpklkjekkbpeoaaDigRot
import Derived.Test.YtpklkjekkbpeoaaSegBase
namespace Go.Proofs.Ytpklkjekkbpeoaa
open Go.RowKit
set_option linter.unusedVariables false
set_option linter.unusedSimpArgs false
attribute [local go_sem high] w_add w_xor w_and w_or w_andNot w_not w_shl w_shr u32_byte u8_word

/-- n bytes from an address on. -/
def Byt (w : World) (ad : Addr) (n : Nat) (m : Nat → UInt8) : Prop := ∀ j, j < n → w.cell? (ad.add j) = some (.int .u8 (bv (m j)))
theorem Byt.keep {w w' : World} {ad : Addr} {n : Nat} {m : Nat → UInt8} (h : Byt w ad n m) (hb : Below w.heap.size w w') : Byt w' ad n m :=
  fun j hj => (hb.cell (World.block_lt_of_cell? w _ (h j hj))).trans (h j hj)
theorem grown_set' (w : World) (g i : Nat) (v : Value) : w.grownBy (w.setCell ⟨g, i, none⟩ v) (some g) :=
  ⟨rfl, rfl, rfl, by simp [World.setCell], fun k _ hk => Below.heap_setCell _ _ _ _ (fun e => hk (by simp [e]))⟩
theorem grown_drew {w w' : World} {r : Option Nat} (h : w.grownBy w' r) : w.grownBy w'.drew r := ⟨h.os, h.tape, h.output, h.size, h.block⟩
theorem grown_drewN {w w' : World} {r : Option Nat} (h : w.grownBy w' r) (n : Nat) : w.grownBy (w'.drewN n) r := ⟨h.os, h.tape, h.output, h.size, h.block⟩
theorem right_z (x : W32) (z : Int) (h0 : 0 ≤ z) (h1 : z ≤ 32) (w : World) :
    Calls Try.prog 75 #[.int .u32 (wv x), .int .i64 z] w fun e w' => e = .returned (.int .u32 (wv (rr x z.toNat))) ∧ Drawn w w' := by
  obtain ⟨n, rfl⟩ := Int.eq_ofNat_of_zero_le h0
  exact right_any x n (by omega) w
theorem rot_z (x : W32) (z : Int) (h0 : -31 ≤ z) (h1 : z ≤ -1) (w : World) :
    Calls Try.prog 98 #[.int .u32 (wv x), .int .i64 z] w fun e w' => e = .returned (.int .u32 (wv (rr x (-z).toNat))) ∧ w = w' := by
  obtain ⟨n, hn⟩ := Int.eq_ofNat_of_zero_le (show 0 ≤ -z by omega)
  obtain rfl : z = -(n : Int) := by omega
  rw [hn]
  exact rot_any x n (by omega) (by omega) w
set_option maxRecDepth 100000 in
set_option maxHeartbeats 12800000 in
theorem words_any (ad : Addr) (cap : Nat) (m : Nat → UInt8) (w : World) (hm : Byt w ad 64 m) :
    Calls Try.prog 74 #[.slice (some ad) 64 cap] w fun e w' => e = .returned (.agg (arrW 64 (sched m))) ∧ Below w.heap.size w w' := by
  have HM := Lib.hid hm
  clear hm
  go_enter Try.func74, Try.ntmps74
  go_wp2_with (first | (refine alloc_arr (w := w) rfl 117 rfl _ _ z64 ?_; intro W1 B1 L1 S1; have HS1 := Lib.hid S1; clear S1) | (refine alloc_arr (w := W1) rfl 117 rfl _ _ z64 ?_; intro W2 B2 L2 S2; have HS2 := Lib.hid S2; clear S2))
  have HB1 := Lib.hid (B1.below L2 (by have := HS1.out; omega))
  have HB2 := Lib.hid B2
  have HL := Lib.hid (bl_then L1 L2)
  clear B1 B2 L1 L2
  go_loopg [4] 64 (fun gk s4 wx => ∃ (i : Nat) (r : Nat → W32), i ≤ 64 ∧ gk = 64 - i ∧ s4 = .int .i64 i ∧ Hid (∀ j, j < i → r j = sched m j) ∧ Hid (Blk wx W1.heap.size 117 (arrW 64 r)) ∧ Hid (W2.grownBy wx (some W1.heap.size)))
  case atStart => exact ⟨0, fun _ => 0, by omega, rfl, rfl, Lib.hid (fun j h => absurd h (Nat.not_lt_zero _)), HB2, Lib.hid (grown_refl _ _)⟩
  case round =>
    obtain ⟨i, r, hi, rfl, rfl, hr, hb, hg⟩ := hrel
    have HBL := Lib.hid (bl_of_grown HL.out hg.out (fun b hb => by cases hb; have := HS1.out; omega))
    by_cases hlt : i < 64
    · have i0 : (0 : Int) ≤ (i : Int) := by omega
      have i1 : (i : Int) < 64 := by omega
      have f1 : wr.frozen? ⟨W1.heap.size, i, none⟩ = false := hb.out.frozen i
      have f0 : wr.cell? ⟨W1.heap.size, i, none⟩ = some (.int .u32 (wv (r i))) := (hb.out.cell i).trans (arrW_get _ _ hlt)
      by_cases h16 : i < 16
      · have q0 : decide ((i : Int) < 16) = true := decide_eq_true (by omega)
        obtain ⟨k0, hk0⟩ : ∃ k, k = 4 * i := ⟨_, rfl⟩
        obtain ⟨k1, hk1⟩ : ∃ k, k = 4 * i + 1 := ⟨_, rfl⟩
        obtain ⟨k2, hk2⟩ : ∃ k, k = 4 * i + 2 := ⟨_, rfl⟩
        obtain ⟨k3, hk3⟩ : ∃ k, k = 4 * i + 3 := ⟨_, rfl⟩
        have e0 : IntKind.i64.wrap (4 * (i : Int)) = (k0 : Int) := by rw [IntWalk.i64_in _ (by omega)]; omega
        have e1 : IntKind.i64.wrap ((k0 : Int) + 1) = (k1 : Int) := by rw [IntWalk.i64_in _ (by omega)]; omega
        have e2 : IntKind.i64.wrap ((k0 : Int) + 2) = (k2 : Int) := by rw [IntWalk.i64_in _ (by omega)]; omega
        have e3 : IntKind.i64.wrap ((k0 : Int) + 3) = (k3 : Int) := by rw [IntWalk.i64_in _ (by omega)]; omega
        have p0 : (0 : Int) ≤ (k0 : Int) := by omega
        have l0 : (k0 : Int) < 64 := by omega
        have p1 : (0 : Int) ≤ (k1 : Int) := by omega
        have l1 : (k1 : Int) < 64 := by omega
        have p2 : (0 : Int) ≤ (k2 : Int) := by omega
        have l2 : (k2 : Int) < 64 := by omega
        have p3 : (0 : Int) ≤ (k3 : Int) := by omega
        have l3 : (k3 : Int) < 64 := by omega
        have HMr := Lib.hid (HM.out.keep HBL.out)
        have c0 := HMr.out k0 (by omega)
        have c1 := HMr.out k1 (by omega)
        have c2 := HMr.out k2 (by omega)
        have c3 := HMr.out k3 (by omega)
        have hne : ∀ k, k < 64 → ad.block ≠ W1.heap.size := fun k hk => by
          have := World.block_lt_of_cell? w _ (HM.out k hk)
          rw [block_of_add] at this
          have := HS1.out
          omega
        have HK := Lib.hid (show ∀ v, ((fun w' => w'.cell? (ad.add k0) = some (.int .u8 (bv (m k0))) ∧ w'.cell? (ad.add k1) = some (.int .u8 (bv (m k1))) ∧ w'.cell? (ad.add k2) = some (.int .u8 (bv (m k2))) ∧ w'.cell? (ad.add k3) = some (.int .u8 (bv (m k3)))) : World → Prop) (wr.drew.setCell ⟨W1.heap.size, i, none⟩ v) from fun v => by
          have hf : ∀ k u, k < 64 → wr.cell? (ad.add k) = some u → (wr.drew.setCell ⟨W1.heap.size, i, none⟩ v).cell? (ad.add k) = some u := fun k u hk hc =>
            (World.cell?_setCell_other _ _ _ _ (fun e => hne k hk (by have := congrArg Addr.block e; rw [block_of_add] at this; exact this.symm))).trans hc
          exact ⟨hf _ _ (by omega) c0, hf _ _ (by omega) c1, hf _ _ (by omega) c2, hf _ _ (by omega) c3⟩)
        clear hne
        have HKK := Lib.hid (show k0 = 4 * i ∧ k1 = 4 * i + 1 ∧ k2 = 4 * i + 2 ∧ k3 = 4 * i + 3 from ⟨hk0, hk1, hk2, hk3⟩)
        clear hk0 hk1 hk2 hk3
        go_wp2
        refine wp_region_held_drew (S := fun w' => w'.cell? (ad.add k0) = some (.int .u8 (bv (m k0))) ∧ w'.cell? (ad.add k1) = some (.int .u8 (bv (m k1))) ∧ w'.cell? (ad.add k2) = some (.int .u8 (bv (m k2))) ∧ w'.cell? (ad.add k3) = some (.int .u8 (bv (m k3)))) (by kernel_rfl) ?_ (fun hHeld => ?_)
        · exact ⟨c0, c1, c2, c3⟩
        refine wpAnyH_take (i := 0) (oi := { dst := some 13, op := Op.move (Operand.tmp 4), type := 3, pos := "ref.go:44", after := #[], guard := none }) (v := ?_) rfl (by kernel_rfl) (by kernel_rfl) (by kernel_rfl) (fun _ _ _ h => h) (Or.inl ⟨by rfl, ?_⟩) (by assumption) ?_
        rotate_left
        · intro w_ hSw
          (try dsimp only at hSw)
          go_simp
          first | done | with_reducible rfl
        try simp only [Act.put, List.setIfInBounds_toArray, List.set_cons_zero, List.set_cons_succ]
        refine wpAnyH_take (i := 1) (oi := { dst := some 14, op := Op.move (Operand.tmp 0), type := 72, pos := "ref.go:44", after := #[], guard := none }) (v := ?_) rfl (by kernel_rfl) (by kernel_rfl) (by kernel_rfl) (fun _ _ _ h => h) (Or.inl ⟨by rfl, ?_⟩) (by assumption) ?_
        rotate_left
        · intro w_ hSw
          (try dsimp only at hSw)
          go_simp
          first | done | with_reducible rfl
        try simp only [Act.put, List.setIfInBounds_toArray, List.set_cons_zero, List.set_cons_succ]
        refine wpAnyH_take (i := 2) (oi := { dst := some 15, op := Op.move (Operand.tmp 4), type := 3, pos := "ref.go:44", after := #[], guard := none }) (v := ?_) rfl (by kernel_rfl) (by kernel_rfl) (by kernel_rfl) (fun _ _ _ h => h) (Or.inl ⟨by rfl, ?_⟩) (by assumption) ?_
        rotate_left
        · intro w_ hSw
          (try dsimp only at hSw)
          go_simp
          first | done | with_reducible rfl
        try simp only [Act.put, List.setIfInBounds_toArray, List.set_cons_zero, List.set_cons_succ]
        refine wpAnyH_take (i := 3) (oi := { dst := some 16, op := Op.binOp BinOp.mul 3 (Operand.const (Value.int IntKind.i64 4)) (Operand.tmp 15) 3, type := 3, pos := "ref.go:44", after := #[{ on := 2, ground := Ground.data }], guard := none }) (v := ?_) rfl (by kernel_rfl) (by kernel_rfl) (by kernel_rfl) (fun _ _ _ h => h) (Or.inl ⟨by rfl, ?_⟩) (by assumption) ?_
        rotate_left
        · intro w_ hSw
          (try dsimp only at hSw)
          go_simp
          first | done | with_reducible rfl
        try simp only [Act.put, List.setIfInBounds_toArray, List.set_cons_zero, List.set_cons_succ]
        refine wpAnyH_take (i := 4) (oi := { dst := some 17, op := Op.indexAddr 72 (Operand.tmp 14) (Operand.tmp 16), type := 0, pos := "ref.go:44", after := #[{ on := 1, ground := Ground.data }, { on := 3, ground := Ground.data }], guard := none }) (v := ?_) rfl (by kernel_rfl) (by kernel_rfl) (by kernel_rfl) (fun _ _ _ h => h) (Or.inl ⟨by rfl, ?_⟩) (by assumption) ?_
        rotate_left
        · intro w_ hSw
          (try dsimp only at hSw)
          go_simp
          first | done | with_reducible rfl
        try simp only [Act.put, List.setIfInBounds_toArray, List.set_cons_zero, List.set_cons_succ]
        refine wpAnyH_take (i := 5) (oi := { dst := some 18, op := Op.load 5 (Operand.tmp 17), type := 5, pos := "ref.go:44", after := #[{ on := 4, ground := Ground.data }], guard := none }) (v := ?_) rfl (by kernel_rfl) (by kernel_rfl) (by kernel_rfl) (fun _ _ _ h => h) (Or.inl ⟨by rfl, ?_⟩) (by assumption) ?_
        rotate_left
        · intro w_ hSw
          (try dsimp only at hSw)
          go_simp
          first | done | with_reducible rfl
        try simp only [Act.put, List.setIfInBounds_toArray, List.set_cons_zero, List.set_cons_succ]
        refine wpAnyH_take (i := 6) (oi := { dst := some 19, op := Op.convert 5 79 (Operand.tmp 18), type := 79, pos := "ref.go:44", after := #[{ on := 5, ground := Ground.data }], guard := none }) (v := ?_) rfl (by kernel_rfl) (by kernel_rfl) (by kernel_rfl) (fun _ _ _ h => h) (Or.inl ⟨by rfl, ?_⟩) (by assumption) ?_
        rotate_left
        · intro w_ hSw
          (try dsimp only at hSw)
          go_simp
          first | done | with_reducible rfl
        try simp only [Act.put, List.setIfInBounds_toArray, List.set_cons_zero, List.set_cons_succ]
        refine wpAnyH_take (i := 7) (oi := { dst := some 20, op := Op.binOp BinOp.shl 79 (Operand.tmp 19) (Operand.const (Value.int IntKind.u64 24)) 71, type := 79, pos := "ref.go:44", after := #[{ on := 6, ground := Ground.data }], guard := none }) (v := ?_) rfl (by kernel_rfl) (by kernel_rfl) (by kernel_rfl) (fun _ _ _ h => h) (Or.inl ⟨by rfl, ?_⟩) (by assumption) ?_
        rotate_left
        · intro w_ hSw
          (try dsimp only at hSw)
          go_simp
          first | done | with_reducible rfl
        try simp only [Act.put, List.setIfInBounds_toArray, List.set_cons_zero, List.set_cons_succ]
        refine wpAnyH_take (i := 8) (oi := { dst := some 21, op := Op.move (Operand.tmp 0), type := 72, pos := "ref.go:44", after := #[], guard := none }) (v := ?_) rfl (by kernel_rfl) (by kernel_rfl) (by kernel_rfl) (fun _ _ _ h => h) (Or.inl ⟨by rfl, ?_⟩) (by assumption) ?_
        rotate_left
        · intro w_ hSw
          (try dsimp only at hSw)
          go_simp
          first | done | with_reducible rfl
        try simp only [Act.put, List.setIfInBounds_toArray, List.set_cons_zero, List.set_cons_succ]
        refine wpAnyH_take (i := 9) (oi := { dst := some 22, op := Op.move (Operand.tmp 4), type := 3, pos := "ref.go:44", after := #[], guard := none }) (v := ?_) rfl (by kernel_rfl) (by kernel_rfl) (by kernel_rfl) (fun _ _ _ h => h) (Or.inl ⟨by rfl, ?_⟩) (by assumption) ?_
        rotate_left
        · intro w_ hSw
          (try dsimp only at hSw)
          go_simp
          first | done | with_reducible rfl
        try simp only [Act.put, List.setIfInBounds_toArray, List.set_cons_zero, List.set_cons_succ]
        refine wpAnyH_take (i := 10) (oi := { dst := some 23, op := Op.binOp BinOp.mul 3 (Operand.const (Value.int IntKind.i64 4)) (Operand.tmp 22) 3, type := 3, pos := "ref.go:44", after := #[{ on := 9, ground := Ground.data }], guard := none }) (v := ?_) rfl (by kernel_rfl) (by kernel_rfl) (by kernel_rfl) (fun _ _ _ h => h) (Or.inl ⟨by rfl, ?_⟩) (by assumption) ?_
        rotate_left
        · intro w_ hSw
          (try dsimp only at hSw)
          go_simp
          first | done | with_reducible rfl
        try simp only [Act.put, List.setIfInBounds_toArray, List.set_cons_zero, List.set_cons_succ]
        refine wpAnyH_take (i := 11) (oi := { dst := some 24, op := Op.binOp BinOp.add 3 (Operand.tmp 23) (Operand.const (Value.int IntKind.i64 1)) 3, type := 3, pos := "ref.go:44", after := #[{ on := 10, ground := Ground.data }], guard := none }) (v := ?_) rfl (by kernel_rfl) (by kernel_rfl) (by kernel_rfl) (fun _ _ _ h => h) (Or.inl ⟨by rfl, ?_⟩) (by assumption) ?_
        rotate_left
        · intro w_ hSw
          (try dsimp only at hSw)
          go_simp
          first | done | with_reducible rfl
        try simp only [Act.put, List.setIfInBounds_toArray, List.set_cons_zero, List.set_cons_succ]
        refine wpAnyH_take (i := 12) (oi := { dst := some 25, op := Op.indexAddr 72 (Operand.tmp 21) (Operand.tmp 24), type := 0, pos := "ref.go:44", after := #[{ on := 8, ground := Ground.data }, { on := 11, ground := Ground.data }], guard := none }) (v := ?_) rfl (by kernel_rfl) (by kernel_rfl) (by kernel_rfl) (fun _ _ _ h => h) (Or.inl ⟨by rfl, ?_⟩) (by assumption) ?_
        rotate_left
        · intro w_ hSw
          (try dsimp only at hSw)
          go_simp
          first | done | with_reducible rfl
        try simp only [Act.put, List.setIfInBounds_toArray, List.set_cons_zero, List.set_cons_succ]
        refine wpAnyH_take (i := 13) (oi := { dst := some 26, op := Op.load 5 (Operand.tmp 25), type := 5, pos := "ref.go:44", after := #[{ on := 12, ground := Ground.data }], guard := none }) (v := ?_) rfl (by kernel_rfl) (by kernel_rfl) (by kernel_rfl) (fun _ _ _ h => h) (Or.inl ⟨by rfl, ?_⟩) (by assumption) ?_
        rotate_left
        · intro w_ hSw
          (try dsimp only at hSw)
          go_simp
          first | done | with_reducible rfl
        try simp only [Act.put, List.setIfInBounds_toArray, List.set_cons_zero, List.set_cons_succ]
        refine wpAnyH_take (i := 14) (oi := { dst := some 27, op := Op.convert 5 79 (Operand.tmp 26), type := 79, pos := "ref.go:44", after := #[{ on := 13, ground := Ground.data }], guard := none }) (v := ?_) rfl (by kernel_rfl) (by kernel_rfl) (by kernel_rfl) (fun _ _ _ h => h) (Or.inl ⟨by rfl, ?_⟩) (by assumption) ?_
        rotate_left
        · intro w_ hSw
          (try dsimp only at hSw)
          go_simp
          first | done | with_reducible rfl
        try simp only [Act.put, List.setIfInBounds_toArray, List.set_cons_zero, List.set_cons_succ]
        refine wpAnyH_take (i := 15) (oi := { dst := some 28, op := Op.binOp BinOp.shl 79 (Operand.tmp 27) (Operand.const (Value.int IntKind.u64 16)) 71, type := 79, pos := "ref.go:44", after := #[{ on := 14, ground := Ground.data }], guard := none }) (v := ?_) rfl (by kernel_rfl) (by kernel_rfl) (by kernel_rfl) (fun _ _ _ h => h) (Or.inl ⟨by rfl, ?_⟩) (by assumption) ?_
        rotate_left
        · intro w_ hSw
          (try dsimp only at hSw)
          go_simp
          first | done | with_reducible rfl
        try simp only [Act.put, List.setIfInBounds_toArray, List.set_cons_zero, List.set_cons_succ]
        refine wpAnyH_take (i := 16) (oi := { dst := some 29, op := Op.binOp BinOp.add 79 (Operand.tmp 20) (Operand.tmp 28) 79, type := 79, pos := "ref.go:44", after := #[{ on := 7, ground := Ground.data }, { on := 15, ground := Ground.data }], guard := none }) (v := ?_) rfl (by kernel_rfl) (by kernel_rfl) (by kernel_rfl) (fun _ _ _ h => h) (Or.inl ⟨by rfl, ?_⟩) (by assumption) ?_
        rotate_left
        · intro w_ hSw
          (try dsimp only at hSw)
          go_simp
          first | done | with_reducible rfl
        try simp only [Act.put, List.setIfInBounds_toArray, List.set_cons_zero, List.set_cons_succ]
        refine wpAnyH_take (i := 17) (oi := { dst := some 30, op := Op.move (Operand.tmp 0), type := 72, pos := "ref.go:44", after := #[], guard := none }) (v := ?_) rfl (by kernel_rfl) (by kernel_rfl) (by kernel_rfl) (fun _ _ _ h => h) (Or.inl ⟨by rfl, ?_⟩) (by assumption) ?_
        rotate_left
        · intro w_ hSw
          (try dsimp only at hSw)
          go_simp
          first | done | with_reducible rfl
        try simp only [Act.put, List.setIfInBounds_toArray, List.set_cons_zero, List.set_cons_succ]
        refine wpAnyH_take (i := 18) (oi := { dst := some 31, op := Op.move (Operand.tmp 4), type := 3, pos := "ref.go:44", after := #[], guard := none }) (v := ?_) rfl (by kernel_rfl) (by kernel_rfl) (by kernel_rfl) (fun _ _ _ h => h) (Or.inl ⟨by rfl, ?_⟩) (by assumption) ?_
        rotate_left
        · intro w_ hSw
          (try dsimp only at hSw)
          go_simp
          first | done | with_reducible rfl
        try simp only [Act.put, List.setIfInBounds_toArray, List.set_cons_zero, List.set_cons_succ]
        refine wpAnyH_take (i := 19) (oi := { dst := some 32, op := Op.binOp BinOp.mul 3 (Operand.const (Value.int IntKind.i64 4)) (Operand.tmp 31) 3, type := 3, pos := "ref.go:44", after := #[{ on := 18, ground := Ground.data }], guard := none }) (v := ?_) rfl (by kernel_rfl) (by kernel_rfl) (by kernel_rfl) (fun _ _ _ h => h) (Or.inl ⟨by rfl, ?_⟩) (by assumption) ?_
        rotate_left
        · intro w_ hSw
          (try dsimp only at hSw)
          go_simp
          first | done | with_reducible rfl
        try simp only [Act.put, List.setIfInBounds_toArray, List.set_cons_zero, List.set_cons_succ]
        refine wpAnyH_take (i := 20) (oi := { dst := some 33, op := Op.binOp BinOp.add 3 (Operand.tmp 32) (Operand.const (Value.int IntKind.i64 2)) 3, type := 3, pos := "ref.go:44", after := #[{ on := 19, ground := Ground.data }], guard := none }) (v := ?_) rfl (by kernel_rfl) (by kernel_rfl) (by kernel_rfl) (fun _ _ _ h => h) (Or.inl ⟨by rfl, ?_⟩) (by assumption) ?_
        rotate_left
        · intro w_ hSw
          (try dsimp only at hSw)
          go_simp
          first | done | with_reducible rfl
        try simp only [Act.put, List.setIfInBounds_toArray, List.set_cons_zero, List.set_cons_succ]
        refine wpAnyH_take (i := 21) (oi := { dst := some 34, op := Op.indexAddr 72 (Operand.tmp 30) (Operand.tmp 33), type := 0, pos := "ref.go:44", after := #[{ on := 17, ground := Ground.data }, { on := 20, ground := Ground.data }], guard := none }) (v := ?_) rfl (by kernel_rfl) (by kernel_rfl) (by kernel_rfl) (fun _ _ _ h => h) (Or.inl ⟨by rfl, ?_⟩) (by assumption) ?_
        rotate_left
        · intro w_ hSw
          (try dsimp only at hSw)
          go_simp
          first | done | with_reducible rfl
        try simp only [Act.put, List.setIfInBounds_toArray, List.set_cons_zero, List.set_cons_succ]
        refine wpAnyH_take (i := 22) (oi := { dst := some 35, op := Op.load 5 (Operand.tmp 34), type := 5, pos := "ref.go:44", after := #[{ on := 21, ground := Ground.data }], guard := none }) (v := ?_) rfl (by kernel_rfl) (by kernel_rfl) (by kernel_rfl) (fun _ _ _ h => h) (Or.inl ⟨by rfl, ?_⟩) (by assumption) ?_
        rotate_left
        · intro w_ hSw
          (try dsimp only at hSw)
          go_simp
          first | done | with_reducible rfl
        try simp only [Act.put, List.setIfInBounds_toArray, List.set_cons_zero, List.set_cons_succ]
        refine wpAnyH_take (i := 23) (oi := { dst := some 36, op := Op.convert 5 79 (Operand.tmp 35), type := 79, pos := "ref.go:44", after := #[{ on := 22, ground := Ground.data }], guard := none }) (v := ?_) rfl (by kernel_rfl) (by kernel_rfl) (by kernel_rfl) (fun _ _ _ h => h) (Or.inl ⟨by rfl, ?_⟩) (by assumption) ?_
        rotate_left
        · intro w_ hSw
          (try dsimp only at hSw)
          go_simp
          first | done | with_reducible rfl
        try simp only [Act.put, List.setIfInBounds_toArray, List.set_cons_zero, List.set_cons_succ]
        refine wpAnyH_take (i := 24) (oi := { dst := some 37, op := Op.binOp BinOp.shl 79 (Operand.tmp 36) (Operand.const (Value.int IntKind.u64 8)) 71, type := 79, pos := "ref.go:44", after := #[{ on := 23, ground := Ground.data }], guard := none }) (v := ?_) rfl (by kernel_rfl) (by kernel_rfl) (by kernel_rfl) (fun _ _ _ h => h) (Or.inl ⟨by rfl, ?_⟩) (by assumption) ?_
        rotate_left
        · intro w_ hSw
          (try dsimp only at hSw)
          go_simp
          first | done | with_reducible rfl
        try simp only [Act.put, List.setIfInBounds_toArray, List.set_cons_zero, List.set_cons_succ]
        refine wpAnyH_take (i := 25) (oi := { dst := some 38, op := Op.binOp BinOp.add 79 (Operand.tmp 29) (Operand.tmp 37) 79, type := 79, pos := "ref.go:44", after := #[{ on := 16, ground := Ground.data }, { on := 24, ground := Ground.data }], guard := none }) (v := ?_) rfl (by kernel_rfl) (by kernel_rfl) (by kernel_rfl) (fun _ _ _ h => h) (Or.inl ⟨by rfl, ?_⟩) (by assumption) ?_
        rotate_left
        · intro w_ hSw
          (try dsimp only at hSw)
          go_simp
          first | done | with_reducible rfl
        try simp only [Act.put, List.setIfInBounds_toArray, List.set_cons_zero, List.set_cons_succ]
        refine wpAnyH_take (i := 26) (oi := { dst := some 39, op := Op.move (Operand.tmp 0), type := 72, pos := "ref.go:44", after := #[], guard := none }) (v := ?_) rfl (by kernel_rfl) (by kernel_rfl) (by kernel_rfl) (fun _ _ _ h => h) (Or.inl ⟨by rfl, ?_⟩) (by assumption) ?_
        rotate_left
        · intro w_ hSw
          (try dsimp only at hSw)
          go_simp
          first | done | with_reducible rfl
        try simp only [Act.put, List.setIfInBounds_toArray, List.set_cons_zero, List.set_cons_succ]
        refine wpAnyH_take (i := 27) (oi := { dst := some 40, op := Op.move (Operand.tmp 4), type := 3, pos := "ref.go:44", after := #[], guard := none }) (v := ?_) rfl (by kernel_rfl) (by kernel_rfl) (by kernel_rfl) (fun _ _ _ h => h) (Or.inl ⟨by rfl, ?_⟩) (by assumption) ?_
        rotate_left
        · intro w_ hSw
          (try dsimp only at hSw)
          go_simp
          first | done | with_reducible rfl
        try simp only [Act.put, List.setIfInBounds_toArray, List.set_cons_zero, List.set_cons_succ]
        refine wpAnyH_take (i := 28) (oi := { dst := some 41, op := Op.binOp BinOp.mul 3 (Operand.const (Value.int IntKind.i64 4)) (Operand.tmp 40) 3, type := 3, pos := "ref.go:44", after := #[{ on := 27, ground := Ground.data }], guard := none }) (v := ?_) rfl (by kernel_rfl) (by kernel_rfl) (by kernel_rfl) (fun _ _ _ h => h) (Or.inl ⟨by rfl, ?_⟩) (by assumption) ?_
        rotate_left
        · intro w_ hSw
          (try dsimp only at hSw)
          go_simp
          first | done | with_reducible rfl
        try simp only [Act.put, List.setIfInBounds_toArray, List.set_cons_zero, List.set_cons_succ]
        refine wpAnyH_take (i := 29) (oi := { dst := some 42, op := Op.binOp BinOp.add 3 (Operand.tmp 41) (Operand.const (Value.int IntKind.i64 3)) 3, type := 3, pos := "ref.go:44", after := #[{ on := 28, ground := Ground.data }], guard := none }) (v := ?_) rfl (by kernel_rfl) (by kernel_rfl) (by kernel_rfl) (fun _ _ _ h => h) (Or.inl ⟨by rfl, ?_⟩) (by assumption) ?_
        rotate_left
        · intro w_ hSw
          (try dsimp only at hSw)
          go_simp
          first | done | with_reducible rfl
        try simp only [Act.put, List.setIfInBounds_toArray, List.set_cons_zero, List.set_cons_succ]
        refine wpAnyH_take (i := 30) (oi := { dst := some 43, op := Op.indexAddr 72 (Operand.tmp 39) (Operand.tmp 42), type := 0, pos := "ref.go:44", after := #[{ on := 26, ground := Ground.data }, { on := 29, ground := Ground.data }], guard := none }) (v := ?_) rfl (by kernel_rfl) (by kernel_rfl) (by kernel_rfl) (fun _ _ _ h => h) (Or.inl ⟨by rfl, ?_⟩) (by assumption) ?_
        rotate_left
        · intro w_ hSw
          (try dsimp only at hSw)
          go_simp
          first | done | with_reducible rfl
        try simp only [Act.put, List.setIfInBounds_toArray, List.set_cons_zero, List.set_cons_succ]
        refine wpAnyH_take (i := 31) (oi := { dst := some 44, op := Op.load 5 (Operand.tmp 43), type := 5, pos := "ref.go:44", after := #[{ on := 30, ground := Ground.data }], guard := none }) (v := ?_) rfl (by kernel_rfl) (by kernel_rfl) (by kernel_rfl) (fun _ _ _ h => h) (Or.inl ⟨by rfl, ?_⟩) (by assumption) ?_
        rotate_left
        · intro w_ hSw
          (try dsimp only at hSw)
          go_simp
          first | done | with_reducible rfl
        try simp only [Act.put, List.setIfInBounds_toArray, List.set_cons_zero, List.set_cons_succ]
        refine wpAnyH_take (i := 32) (oi := { dst := some 45, op := Op.convert 5 79 (Operand.tmp 44), type := 79, pos := "ref.go:44", after := #[{ on := 31, ground := Ground.data }], guard := none }) (v := ?_) rfl (by kernel_rfl) (by kernel_rfl) (by kernel_rfl) (fun _ _ _ h => h) (Or.inl ⟨by rfl, ?_⟩) (by assumption) ?_
        rotate_left
        · intro w_ hSw
          (try dsimp only at hSw)
          go_simp
          first | done | with_reducible rfl
        try simp only [Act.put, List.setIfInBounds_toArray, List.set_cons_zero, List.set_cons_succ]
        refine wpAnyH_take (i := 33) (oi := { dst := some 46, op := Op.binOp BinOp.add 79 (Operand.tmp 38) (Operand.tmp 45) 79, type := 79, pos := "ref.go:44", after := #[{ on := 25, ground := Ground.data }, { on := 32, ground := Ground.data }], guard := none }) (v := ?_) rfl (by kernel_rfl) (by kernel_rfl) (by kernel_rfl) (fun _ _ _ h => h) (Or.inl ⟨by rfl, ?_⟩) (by assumption) ?_
        rotate_left
        · intro w_ hSw
          (try dsimp only at hSw)
          go_simp
          first | done | with_reducible rfl
        try simp only [Act.put, List.setIfInBounds_toArray, List.set_cons_zero, List.set_cons_succ]
        refine wpAnyH_take (i := 34) (oi := { dst := some 47, op := Op.indexAddr 117 (Operand.tmp 3) (Operand.tmp 13), type := 0, pos := "ref.go:44", after := #[{ on := 0, ground := Ground.data }, { on := 0, ground := Ground.phase }, { on := 1, ground := Ground.phase }, { on := 2, ground := Ground.phase }, { on := 3, ground := Ground.phase }, { on := 4, ground := Ground.phase }, { on := 5, ground := Ground.phase }, { on := 6, ground := Ground.phase }, { on := 7, ground := Ground.phase }, { on := 8, ground := Ground.phase }, { on := 9, ground := Ground.phase }, { on := 10, ground := Ground.phase }, { on := 11, ground := Ground.phase }, { on := 12, ground := Ground.phase }, { on := 13, ground := Ground.phase }, { on := 14, ground := Ground.phase }, { on := 15, ground := Ground.phase }, { on := 16, ground := Ground.phase }, { on := 17, ground := Ground.phase }, { on := 18, ground := Ground.phase }, { on := 19, ground := Ground.phase }, { on := 20, ground := Ground.phase }, { on := 21, ground := Ground.phase }, { on := 22, ground := Ground.phase }, { on := 23, ground := Ground.phase }, { on := 24, ground := Ground.phase }, { on := 25, ground := Ground.phase }, { on := 26, ground := Ground.phase }, { on := 27, ground := Ground.phase }, { on := 28, ground := Ground.phase }, { on := 29, ground := Ground.phase }, { on := 30, ground := Ground.phase }, { on := 31, ground := Ground.phase }, { on := 32, ground := Ground.phase }, { on := 33, ground := Ground.phase }], guard := none }) (v := ?_) rfl (by kernel_rfl) (by kernel_rfl) (by kernel_rfl) (fun _ _ _ h => h) (Or.inl ⟨by rfl, ?_⟩) (by assumption) ?_
        rotate_left
        · intro w_ hSw
          (try dsimp only at hSw)
          go_simp
          first | done | with_reducible rfl
        try simp only [Act.put, List.setIfInBounds_toArray, List.set_cons_zero, List.set_cons_succ]
        refine wpAnyH_ready (rs := [35]) (by kernel_rfl) (by simp) ?_
        refine AllReadyH.cons (o := { dst := none, op := Op.store 79 (Operand.tmp 47) (Operand.tmp 46), type := 0, pos := "ref.go:44", after := #[{ on := 34, ground := Ground.data }, { on := 33, ground := Ground.data }, { on := 0, ground := Ground.phase }, { on := 1, ground := Ground.phase }, { on := 2, ground := Ground.phase }, { on := 3, ground := Ground.phase }, { on := 4, ground := Ground.phase }, { on := 5, ground := Ground.phase }, { on := 6, ground := Ground.phase }, { on := 7, ground := Ground.phase }, { on := 8, ground := Ground.phase }, { on := 9, ground := Ground.phase }, { on := 10, ground := Ground.phase }, { on := 11, ground := Ground.phase }, { on := 12, ground := Ground.phase }, { on := 13, ground := Ground.phase }, { on := 14, ground := Ground.phase }, { on := 15, ground := Ground.phase }, { on := 16, ground := Ground.phase }, { on := 17, ground := Ground.phase }, { on := 18, ground := Ground.phase }, { on := 19, ground := Ground.phase }, { on := 20, ground := Ground.phase }, { on := 21, ground := Ground.phase }, { on := 22, ground := Ground.phase }, { on := 23, ground := Ground.phase }, { on := 24, ground := Ground.phase }, { on := 25, ground := Ground.phase }, { on := 26, ground := Ground.phase }, { on := 27, ground := Ground.phase }, { on := 28, ground := Ground.phase }, { on := 29, ground := Ground.phase }, { on := 30, ground := Ground.phase }, { on := 31, ground := Ground.phase }, { on := 32, ground := Ground.phase }, { on := 33, ground := Ground.phase }], guard := none }) rfl (fun K hK => ?_) AllReadyH.nil
        go_simp
        go_wp2_with fail
        refine hK.out _ _ ?_ (fun hHeld => ?_)
        · exact HK.out _
        clear hK K
        try simp only [Act.put, List.setIfInBounds_toArray, List.set_cons_zero, List.set_cons_succ]
        refine wpAnyH_done (by kernel_rfl) ?_ _
        go_wp2
        go_roundg (64 - (i + 1))
        case measure => omega
        case rel =>
          refine ⟨i + 1, fun j => if j = i then word m i else r j, by omega, rfl, by go_num, Lib.hid (fun j hj => ?_), Lib.hid ?_, Lib.hid (grown_step hg.out (grown_drew (grown_set' _ _ _ _)) (.inl rfl))⟩
          · by_cases hji : j = i
            · subst hji; show (if j = j then word m j else r j) = _; rw [if_pos rfl, sched_lo _ h16]
            · show (if j = i then word m i else r j) = _; rw [if_neg hji]; exact hr.out j (by omega)
          · have := (hb.out.drew).set_ i (.int .u32 (wv (word m i)))
            rw [arrW_set] at this
            obtain ⟨rfl, rfl, rfl, rfl⟩ := HKK.out
            exact this
      · have q0 : decide ((i : Int) < 16) = false := decide_eq_false (by omega)
        obtain ⟨k0, hk0⟩ : ∃ k, k = i - 16 := ⟨_, rfl⟩
        obtain ⟨k1, hk1⟩ : ∃ k, k = i - 15 := ⟨_, rfl⟩
        obtain ⟨k2, hk2⟩ : ∃ k, k = i - 2 := ⟨_, rfl⟩
        obtain ⟨k3, hk3⟩ : ∃ k, k = i - 7 := ⟨_, rfl⟩
        have e0 : IntKind.i64.wrap ((i : Int) - 16) = (k0 : Int) := by rw [IntWalk.i64_in _ (by omega)]; omega
        have e1 : IntKind.i64.wrap ((i : Int) - 15) = (k1 : Int) := by rw [IntWalk.i64_in _ (by omega)]; omega
        have e2 : IntKind.i64.wrap ((i : Int) - 2) = (k2 : Int) := by rw [IntWalk.i64_in _ (by omega)]; omega
        have e3 : IntKind.i64.wrap ((i : Int) - 7) = (k3 : Int) := by rw [IntWalk.i64_in _ (by omega)]; omega
        have p0 : (0 : Int) ≤ (k0 : Int) := by omega
        have l0 : (k0 : Int) < 64 := by omega
        have c0 : wr.cell? ⟨W1.heap.size, k0, none⟩ = some (.int .u32 (wv (r k0))) := (hb.out.cell k0).trans (arrW_get _ _ (by omega))
        have p1 : (0 : Int) ≤ (k1 : Int) := by omega
        have l1 : (k1 : Int) < 64 := by omega
        have c1 : wr.cell? ⟨W1.heap.size, k1, none⟩ = some (.int .u32 (wv (r k1))) := (hb.out.cell k1).trans (arrW_get _ _ (by omega))
        have p2 : (0 : Int) ≤ (k2 : Int) := by omega
        have l2 : (k2 : Int) < 64 := by omega
        have c2 : wr.cell? ⟨W1.heap.size, k2, none⟩ = some (.int .u32 (wv (r k2))) := (hb.out.cell k2).trans (arrW_get _ _ (by omega))
        have p3 : (0 : Int) ≤ (k3 : Int) := by omega
        have l3 : (k3 : Int) < 64 := by omega
        have c3 : wr.cell? ⟨W1.heap.size, k3, none⟩ = some (.int .u32 (wv (r k3))) := (hb.out.cell k3).trans (arrW_get _ _ (by omega))
        have HX := Lib.hid (show sched m i = r k0 + (rr (r k1) 7 ^^^ rr (r k1) 18 ^^^ r k1 >>> 3) + r k3 + (rr (r k2) 17 ^^^ rr (r k2) 19 ^^^ r k2 >>> 10) by
          rw [sched_hi m h16, ← hk0, ← hk1, ← hk2, ← hk3, hr.out k0 (by omega), hr.out k1 (by omega), hr.out k2 (by omega), hr.out k3 (by omega)]
          rfl)
        have HK := Lib.hid (show ∀ n v, ((fun w' => w'.cell? ⟨W1.heap.size, k0, none⟩ = some (.int .u32 (wv (r k0))) ∧ w'.cell? ⟨W1.heap.size, k3, none⟩ = some (.int .u32 (wv (r k3)))) : World → Prop) ((wr.drewN n).setCell ⟨W1.heap.size, i, none⟩ v) from fun n v =>
          ⟨(World.cell?_setCell_other _ _ _ _ (by simp <;> omega)).trans c0, (World.cell?_setCell_other _ _ _ _ (by simp <;> omega)).trans c3⟩)
        clear hk0 hk1 hk2 hk3
        have HR1 := Lib.hid (show ∀ j, j < i + 1 → (fun j => if j = i then sched m i else r j) j = sched m j from fun j hj => by
          by_cases hji : j = i
          · subst hji; show (if j = j then sched m j else r j) = _; rw [if_pos rfl]
          · show (if j = i then sched m i else r j) = _; rw [if_neg hji]; exact hr.out j (by omega))
        have HB3 := Lib.hid (show ∀ n, Blk ((wr.setCell ⟨W1.heap.size, i, none⟩ (.int .u32 (wv (r k0 + (rr (r k1) 7 ^^^ rr (r k1) 18 ^^^ r k1 >>> 3) + r k3 + (rr (r k2) 17 ^^^ rr (r k2) 19 ^^^ r k2 >>> 10))))).drewN n) W1.heap.size 117 (arrW 64 (fun j => if j = i then sched m i else r j)) from fun n => by
          rw [← HX.out]
          have := hb.out.set_ i (.int .u32 (wv (sched m i)))
          rw [arrW_set] at this
          exact this.drewN n)
        go_wp2
        go_region_held3 (fun w' => w'.cell? ⟨W1.heap.size, k0, none⟩ = some (.int .u32 (wv (r k0))) ∧ w'.cell? ⟨W1.heap.size, k3, none⟩ = some (.int .u32 (wv (r k3)))) (first | go_keep | trivial | exact HK.out _ _) ((go_at_call 75; refine (right_z _ _ (by decide) (by decide) _).mono ?_; rintro e w5 ⟨rfl, n5, rfl⟩))
        all_goals (go_wp2; go_roundg (64 - (i + 1)))
        all_goals first
          | omega
          | exact ⟨i + 1, fun j => if j = i then sched m i else r j, by omega, rfl, by go_num, HR1, Lib.hid (HB3.out _), Lib.hid (grown_step hg.out (grown_drewN (grown_set' _ _ _ _) _) (.inl rfl))⟩
    · obtain rfl : i = 64 := by omega
      have HA := Lib.hid (arrW_congr 64 r (sched m) hr.out)
      have HB := Lib.hid hb.out
      rw [HA.out] at HB
      have HB0 := Lib.hid (HB1.out.grown hg.out (fun e => by have := HS1.out; injection e with e; omega))
      clear hb hr hg
      go_wp2_with (first
        | (refine load_arr rfl 117 _ rfl W1.heap.size rfl _ _ _ _ HB.out Try.underlying117 (by rw [arrW_size]; exact s64) ?_)
        | (refine store_arr rfl 117 _ _ rfl w.heap.size (arrW 64 (sched m)) rfl rfl _ _ HB0.out (by rw [arrW_size]; exact s64) (by rw [arrW_size, arrW_size]) (arrW_one _ _) ?_; intro W5 B5 G5 S5))
      (try simp only [Exit.inBlock, Exit.then])
      refine bodyPost_ret (results_cell_row rfl _ _ w.heap.size _ (arrW 64 (sched m)) (0, 0) _ rfl B5 Try.underlying117 rfl (by rw [arrW_size]; exact s64)) rfl ?_
      exact ⟨rfl, bl_of_grown HBL.out G5 (fun b hb => by cases hb; exact Nat.le_refl _)⟩
end Go.Proofs.Ytpklkjekkbpeoaa
