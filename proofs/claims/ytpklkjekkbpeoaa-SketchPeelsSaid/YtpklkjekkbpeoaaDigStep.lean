/- DERIVED. What a block makes of a state: the program's step. -/
import Derived.Test.YtpklkjekkbpeoaaDigMade
namespace Go.Proofs.Ytpklkjekkbpeoaa
open Go.RowKit
set_option linter.unusedVariables false
set_option linter.unusedSimpArgs false
attribute [local go_sem high] w_add w_xor w_and w_or w_andNot w_not w_shl w_shr u32_byte u8_word
attribute [local irreducible] arrW arrB kc wpList Code.wp

theorem z16 : (Try.prog.info? 142).map (fun i => (i.zero, i.size)) = some (some (.agg (arrW 16 fun _ => 0)), 16) := by
  unfold arrW
  kernel_rfl
def Idx (i q0 q1 q9 q14 : Nat) : Prop := (q0 < 16 ∧ q1 < 16 ∧ q9 < 16 ∧ q14 < 16) ∧ (q0 = i % 16 ∧ q0 = (i - 16) % 16 ∧ q1 = (i - 15) % 16 ∧ q9 = (i - 7) % 16 ∧ q14 = (i - 2) % 16) ∧ q9 ≠ q0
theorem ring_idx (i : Nat) (h16 : ¬ i < 16) (hlt : i < 64) : ∃ k1 k9 k14 q0 q1 q9 q14 : Nat,
    (IntKind.i64.wrap ((i : Int) + 1) = (k1 : Int) ∧ IntKind.i64.wrap ((i : Int) + 9) = (k9 : Int) ∧ IntKind.i64.wrap ((i : Int) + 14) = (k14 : Int)) ∧
    (Int.tmod (i : Int) 16 = (q0 : Int) ∧ Int.tmod (k1 : Int) 16 = (q1 : Int) ∧ Int.tmod (k9 : Int) 16 = (q9 : Int) ∧ Int.tmod (k14 : Int) 16 = (q14 : Int)) ∧
    ((0 : Int) ≤ (q0 : Int) ∧ (0 : Int) ≤ (q1 : Int) ∧ (0 : Int) ≤ (q9 : Int) ∧ (0 : Int) ≤ (q14 : Int)) ∧ ((q0 : Int) < 16 ∧ (q1 : Int) < 16 ∧ (q9 : Int) < 16 ∧ (q14 : Int) < 16) ∧ Hid (Idx i q0 q1 q9 q14) := by
  have nn : ∀ z : Nat, Int.tmod (z : Int) 16 = ((z % 16 : Nat) : Int) := fun z => by rw [Int.tmod_eq_emod_of_nonneg (by omega)]; omega
  refine ⟨i + 1, i + 9, i + 14, i % 16, (i + 1) % 16, (i + 9) % 16, (i + 14) % 16, ⟨?_, ?_, ?_⟩, ⟨nn _, nn _, nn _, nn _⟩, ⟨by omega, by omega, by omega, by omega⟩, ⟨by omega, by omega, by omega, by omega⟩, ?_⟩
  · rw [IntWalk.i64_in _ (by omega)]; omega
  · rw [IntWalk.i64_in _ (by omega)]; omega
  · rw [IntWalk.i64_in _ (by omega)]; omega
  · exact ⟨⟨by omega, by omega, by omega, by omega⟩, ⟨rfl, by omega, by omega, by omega, by omega⟩, by omega⟩
def Ring (m : Nat → UInt8) (r : Nat → W32) (N : Nat) : Prop := ∀ d, d < N → N ≤ d + 16 → r (d % 16) = sched m d
theorem Ring.first {m : Nat → UInt8} {r : Nat → W32} (h : ∀ j, j < 16 → r j = sched m j) : Ring m r 16 := fun d hd _ => by
  rw [Nat.mod_eq_of_lt hd]; exact h d hd
theorem Ring.next {m : Nat → UInt8} {r : Nat → W32} {i : Nat} (h : Ring m r i) (h16 : 16 ≤ i) (x : W32) (hx : x = sched m i) : Ring m (fun j => if j = i % 16 then x else r j) (i + 1) := fun d hd hd2 => by
  by_cases hdi : d = i
  · subst hdi; simp [hx]
  · have hne : ¬ d % 16 = i % 16 := by omega
    simp only [hne, if_false]
    exact h d (by omega) (by omega)
theorem ring_vals {m : Nat → UInt8} {q : Nat → W32} {i q0 q1 q9 q14 : Nat} (h : Ring m q (max i 16)) (hx : Idx i q0 q1 q9 q14) (h16 : ¬ i < 16) :
    q q0 = sched m (i - 16) ∧ q q1 = sched m (i - 15) ∧ q q9 = sched m (i - 7) ∧ q q14 = sched m (i - 2) := by
  obtain ⟨_, ⟨_, h0, h1, h9, h14⟩, _⟩ := hx
  rw [show max i 16 = i by omega] at h
  refine ⟨?_, ?_, ?_, ?_⟩
  · rw [h0]; exact h (i - 16) (by omega) (by omega)
  · rw [h1]; exact h (i - 15) (by omega) (by omega)
  · rw [h9]; exact h (i - 7) (by omega) (by omega)
  · rw [h14]; exact h (i - 2) (by omega) (by omega)
theorem ring_next' {m : Nat → UInt8} {q : Nat → W32} {i q0 q1 q9 q14 : Nat} (h : Ring m q (max i 16)) (hx : Idx i q0 q1 q9 q14) (h16 : ¬ i < 16) : Ring m (fun j => if j = q0 then sched m i else q j) (max (i + 1) 16) := by
  obtain ⟨_, ⟨h0, _⟩, _⟩ := hx
  subst h0
  rw [show max i 16 = i by omega] at h
  rw [show max (i + 1) 16 = i + 1 by omega]
  exact Ring.next h (by omega) _ rfl
theorem ring_now {m : Nat → UInt8} {p : Nat → W32} {i : Nat} (h : Ring m p (max (i + 1) 16)) : p (i % 16) = sched m i := h i (by omega) (by omega)
theorem idx0 (i : Nat) : ∃ q0 : Nat, Int.tmod (i : Int) 16 = (q0 : Int) ∧ (0 : Int) ≤ (q0 : Int) ∧ (q0 : Int) < 16 ∧ Hid (q0 = i % 16 ∧ q0 < 16) :=
  ⟨i % 16, by rw [Int.tmod_eq_emod_of_nonneg (by omega)]; omega, by omega, by omega, rfl, by omega⟩
theorem src7 {w : World} {g : Nat} {t : TypeId} {F : Nat → W32} (h : Blk w g t (arrW 8 F)) : ∀ j v, (arrW 7 F).toList[j]? = some v → w.cell? ((⟨g, 0, none⟩ : Addr).add j) = some v := fun j v hv => by
  have hj : j < 7 := by
    have := (List.getElem?_eq_some_iff.1 hv).1
    rwa [Array.length_toList, arrW_size] at this
  rw [Array.getElem?_toList, arrW_get _ _ hj] at hv
  rw [add_plain, h.cell j, arrW_get _ _ (by omega), hv]
theorem shifted (F : Nat → W32) (t u k w : W32) (ht : t = tOf F k w) (hu : u = uOf F) : arrW 8 (fun j => if j = 0 then t + u else if j = 4 then F 3 + t else F (j - 1)) = arrW 8 (rnd F k w) := by
  subst ht hu
  rfl
theorem ring_cells {w : World} {g i q0 q1 q9 q14 : Nat} {t : TypeId} {q : Nat → W32} (h : Blk w g t (arrW 16 q)) (hx : Idx i q0 q1 q9 q14) :
    w.cell? ⟨g, q0, none⟩ = some (.int .u32 (wv (q q0))) ∧ w.cell? ⟨g, q1, none⟩ = some (.int .u32 (wv (q q1))) ∧ w.cell? ⟨g, q9, none⟩ = some (.int .u32 (wv (q q9))) ∧ w.cell? ⟨g, q14, none⟩ = some (.int .u32 (wv (q q14))) := by
  obtain ⟨⟨a, b, c, d⟩, _⟩ := hx
  exact ⟨(h.cell _).trans (arrW_get _ _ a), (h.cell _).trans (arrW_get _ _ b), (h.cell _).trans (arrW_get _ _ c), (h.cell _).trans (arrW_get _ _ d)⟩
theorem ring_sum {m : Nat → UInt8} {q : Nat → W32} {i q0 q1 q9 q14 : Nat} (h : q q0 = sched m (i - 16) ∧ q q1 = sched m (i - 15) ∧ q q9 = sched m (i - 7) ∧ q q14 = sched m (i - 2)) (h16 : ¬ i < 16) :
    q q0 + sigA (q q1) + (q q9 + (rr (q q14) 17 ^^^ rr (q q14) 19 ^^^ q q14 >>> 10)) = sched m i := by
  rw [sched_hi m h16, ← h.1, ← h.2.1, ← h.2.2.1, ← h.2.2.2, ← BitVec.add_assoc]
  rfl
theorem quiet_off {P : Program} {f : FuncId} {args : Array Value} {w : World} {a n : Nat} {v : Value}
    (h : Calls P f args (w.drewN (a + n)) fun e w' => e = .returned v ∧ w.drewN (a + n) = w') : Calls P f args (w.drewN (a + n)) fun e w'' => e = .returned v ∧ ∃ m, w'' = w.drewN (a + m) :=
  h.mono fun _ _ ⟨he, hm⟩ => ⟨he, n, hm.symm⟩

theorem grown_of_drew {w w' : World} {r : Option Nat} (h : w.drew.grownBy w' r) : w.grownBy w' r := ⟨h.os, h.tape, h.output, h.size, h.block⟩
theorem arrShift (F : Nat → W32) : ((arrW 8 F).toList.take 1 ++ ((arrW 7 F).toList ++ (arrW 8 F).toList.drop (1 + (arrW 7 F).toList.length))).toArray = arrW 8 (fun q => F (q - 1)) := by
  unfold arrW
  rfl
theorem copy_shift {w : World} {g : Nat} {F : Nat → W32} (hb : Blk w g 99 (arrW 8 F)) :
    ∃ fW : Nat → World, ∀ n, (Builtin.copy_ #[144, 144] 3 #[.slice (some ⟨g, 1, none⟩) 7 7, .slice (some ⟨g, 0, none⟩) 7 8]).run Try.prog (w.drewN n) = .ok (goInt 7) (fW n) ∧ Blk (fW n) g 99 (arrW 8 (fun q => F (q - 1))) ∧ w.grownBy (fW n) (some g) := by
  refine ⟨fun n => (w.drewN n).setRow g (arrW 8 (fun q => F (q - 1))), fun n => ?_⟩
  have hl : (arrW 7 F).toList.length = 7 := by rw [Array.length_toList, arrW_size]
  have hrun := run_copy_row (P := Try.prog) (w.drewN n) 144 144 3 79 g 1 7 7 ⟨g, 0, none⟩ 7 8 (arrW 8 F) 99 (arrW 7 F).toList Try.underlying144 (by kernel_rfl) hb (by rw [hl]; rfl) (src7 hb) (by rw [hl, arrW_size]; decide) (fun v hv => Array.all_eq_true_iff_forall_mem.1 (arrW_one 7 F) v (by simpa using hv))
  rw [List.append_assoc, arrShift, hl] at hrun
  refine ⟨hrun, setRow_heap _ g (arrW 8 F) _ _ (0, 0) hb, ⟨rfl, rfl, rfl, by simp [World.setRow], fun k _ hk => ?_⟩⟩
  simp only [World.setRow, Array.getElem?_modify]
  rw [if_neg (fun e => hk (by rw [e]))]
  rfl
set_option maxRecDepth 100000 in
set_option maxHeartbeats 25600000 in
theorem step_any (f : Nat → W32) (ad : Addr) (m : Nat → UInt8) (w : World) (hm : Byt w ad 64 m) :
    Calls Try.prog 90 #[.agg (arrW 8 f), .pointer (some ad)] w fun e w' => e = .returned (.agg (arrW 8 (madeF f m))) ∧ Below w.heap.size w w' := by
  have HM := Lib.hid hm
  clear hm
  go_enter Try.func90, Try.ntmps90
  go_wp2_with (first
    | (refine box_arr (w := w) rfl 99 _ rfl (arrW 8 f) rfl ?_; intro Wa B_ L_ S_; have BWa := Lib.hid B_; have LWa := Lib.hid L_; have SWa := Lib.hid S_; clear B_ L_ S_)
    | (refine alloc_arr (w := Wa) rfl 99 rfl _ _ z8 ?_; intro Wb B_ L_ S_; have BWb := Lib.hid B_; have LWb := Lib.hid L_; have SWb := Lib.hid S_; clear B_ L_ S_)
    | (refine alloc_arr (w := Wb) rfl 142 rfl _ _ z16 ?_; intro Wc B_ L_ S_; have BWc := Lib.hid B_; have LWc := Lib.hid L_; have SWc := Lib.hid S_; clear B_ L_ S_))
  go_loopg [16] 16 (fun gk s16 wx => ∃ (i : Nat) (r : Nat → W32), i ≤ 16 ∧ gk = 16 - i ∧ s16 = .int .i64 i ∧ Hid (∀ j, j < i → r j = sched m j) ∧ Hid (Blk wx Wb.heap.size 142 (arrW 16 r)) ∧ Hid (Wc.grownBy wx (some Wb.heap.size)))
  case atStart => exact ⟨0, fun _ => 0, by omega, rfl, rfl, Lib.hid (fun j h => absurd h (Nat.not_lt_zero _)), BWc, Lib.hid (grown_refl _ _)⟩
  case round =>
    obtain ⟨i, r, hi, rfl, rfl, hr, hb, hg⟩ := hrel
    have HBL := Lib.hid (bl_of_grown (bl_then (bl_then LWa.out LWb.out) LWc.out) hg.out (zero_lt_of (by have := SWa.out; have := SWb.out; omega) rfl))
    by_cases hlt : i < 16
    · have i0 : (0 : Int) ≤ (i : Int) := by omega
      have i1 : (i : Int) < 16 := by omega
      have f1 : wr.frozen? ⟨Wb.heap.size, i, none⟩ = false := hb.out.frozen i
      have f0 : wr.cell? ⟨Wb.heap.size, i, none⟩ = some (.int .u32 (wv (r i))) := (hb.out.cell i).trans (arrW_get _ _ hlt)
      obtain ⟨k0, hk0⟩ : ∃ k, k = 4 * i := ⟨_, rfl⟩
      obtain ⟨k1, hk1⟩ : ∃ k, k = 4 * i + 1 := ⟨_, rfl⟩
      obtain ⟨k2, hk2⟩ : ∃ k, k = 4 * i + 2 := ⟨_, rfl⟩
      obtain ⟨k3, hk3⟩ : ∃ k, k = 4 * i + 3 := ⟨_, rfl⟩
      have e0 : IntKind.i64.wrap (4 * (i : Int)) = (k0 : Int) := by rw [IntWalk.i64_in _ (by omega)]; omega
      have e1 : IntKind.i64.wrap ((k0 : Int) + 1) = (k1 : Int) := by rw [IntWalk.i64_in _ (by omega)]; omega
      have e2 : IntKind.i64.wrap ((k0 : Int) + 2) = (k2 : Int) := by rw [IntWalk.i64_in _ (by omega)]; omega
      have e3 : IntKind.i64.wrap ((k0 : Int) + 3) = (k3 : Int) := by rw [IntWalk.i64_in _ (by omega)]; omega
      have p0 : (0 : Int) ≤ (k0 : Int) := by omega
      have l0 : (k0 : Int) < 64 := by omega
      have p1 : (0 : Int) ≤ (k1 : Int) := by omega
      have l1 : (k1 : Int) < 64 := by omega
      have p2 : (0 : Int) ≤ (k2 : Int) := by omega
      have l2 : (k2 : Int) < 64 := by omega
      have p3 : (0 : Int) ≤ (k3 : Int) := by omega
      have l3 : (k3 : Int) < 64 := by omega
      have HMr := Lib.hid (HM.out.keep HBL.out)
      have c0 := HMr.out k0 (by omega)
      have c1 := HMr.out k1 (by omega)
      have c2 := HMr.out k2 (by omega)
      have c3 := HMr.out k3 (by omega)
      have hne : ∀ k, k < 64 → ad.block ≠ Wb.heap.size := fun k hk => by
        have := World.block_lt_of_cell? w _ (HM.out k hk)
        rw [block_of_add] at this
        have := SWa.out
        have := SWb.out
        omega
      have HK := Lib.hid (show ∀ v, ((fun w' => w'.cell? (ad.add k0) = some (.int .u8 (bv (m k0))) ∧ w'.cell? (ad.add k1) = some (.int .u8 (bv (m k1))) ∧ w'.cell? (ad.add k2) = some (.int .u8 (bv (m k2))) ∧ w'.cell? (ad.add k3) = some (.int .u8 (bv (m k3)))) : World → Prop) (wr.drew.setCell ⟨Wb.heap.size, i, none⟩ v) from fun v => by
        have hf : ∀ k u, k < 64 → wr.cell? (ad.add k) = some u → (wr.drew.setCell ⟨Wb.heap.size, i, none⟩ v).cell? (ad.add k) = some u := fun k u hk hc =>
          (World.cell?_setCell_other _ _ _ _ (fun e => hne k hk (by have := congrArg Addr.block e; rw [block_of_add] at this; exact this.symm))).trans hc
        exact ⟨hf _ _ (by omega) c0, hf _ _ (by omega) c1, hf _ _ (by omega) c2, hf _ _ (by omega) c3⟩)
      have HKK := Lib.hid (show k0 = 4 * i ∧ k1 = 4 * i + 1 ∧ k2 = 4 * i + 2 ∧ k3 = 4 * i + 3 from ⟨hk0, hk1, hk2, hk3⟩)
      clear hne hk0 hk1 hk2 hk3
      go_wp2
      refine wp_region_held_drew (S := fun w' => w'.cell? (ad.add k0) = some (.int .u8 (bv (m k0))) ∧ w'.cell? (ad.add k1) = some (.int .u8 (bv (m k1))) ∧ w'.cell? (ad.add k2) = some (.int .u8 (bv (m k2))) ∧ w'.cell? (ad.add k3) = some (.int .u8 (bv (m k3)))) (by kernel_rfl) ?_ (fun hHeld => ?_)
      · exact ⟨c0, c1, c2, c3⟩
      refine wpAnyH_take (i := 0) (oi := { dst := some 19, op := Op.move (Operand.tmp 6), type := 3, pos := "digest.go:110", after := #[], guard := none }) (v := ?_) rfl (by kernel_rfl) (by kernel_rfl) (by kernel_rfl) (fun _ _ _ h => h) (Or.inl ⟨by rfl, ?_⟩) (by assumption) ?_
      rotate_left
      · intro w_ hSw
        (try dsimp only at hSw)
        go_simp
        first | done | with_reducible rfl
      try simp only [Act.put, List.setIfInBounds_toArray, List.set_cons_zero, List.set_cons_succ]
      refine wpAnyH_take (i := 1) (oi := { dst := some 20, op := Op.move (Operand.tmp 1), type := 134, pos := "digest.go:110", after := #[], guard := none }) (v := ?_) rfl (by kernel_rfl) (by kernel_rfl) (by kernel_rfl) (fun _ _ _ h => h) (Or.inl ⟨by rfl, ?_⟩) (by assumption) ?_
      rotate_left
      · intro w_ hSw
        (try dsimp only at hSw)
        go_simp
        first | done | with_reducible rfl
      try simp only [Act.put, List.setIfInBounds_toArray, List.set_cons_zero, List.set_cons_succ]
      refine wpAnyH_take (i := 2) (oi := { dst := some 21, op := Op.move (Operand.tmp 6), type := 3, pos := "digest.go:110", after := #[], guard := none }) (v := ?_) rfl (by kernel_rfl) (by kernel_rfl) (by kernel_rfl) (fun _ _ _ h => h) (Or.inl ⟨by rfl, ?_⟩) (by assumption) ?_
      rotate_left
      · intro w_ hSw
        (try dsimp only at hSw)
        go_simp
        first | done | with_reducible rfl
      try simp only [Act.put, List.setIfInBounds_toArray, List.set_cons_zero, List.set_cons_succ]
      refine wpAnyH_take (i := 3) (oi := { dst := some 22, op := Op.binOp BinOp.mul 3 (Operand.const (Value.int IntKind.i64 4)) (Operand.tmp 21) 3, type := 3, pos := "digest.go:110", after := #[{ on := 2, ground := Ground.data }], guard := none }) (v := ?_) rfl (by kernel_rfl) (by kernel_rfl) (by kernel_rfl) (fun _ _ _ h => h) (Or.inl ⟨by rfl, ?_⟩) (by assumption) ?_
      rotate_left
      · intro w_ hSw
        (try dsimp only at hSw)
        go_simp
        first | done | with_reducible rfl
      try simp only [Act.put, List.setIfInBounds_toArray, List.set_cons_zero, List.set_cons_succ]
      refine wpAnyH_take (i := 4) (oi := { dst := some 23, op := Op.nilCheck (Operand.tmp 20), type := 0, pos := "digest.go:110", after := #[{ on := 1, ground := Ground.data }], guard := none }) (v := ?_) rfl (by kernel_rfl) (by kernel_rfl) (by kernel_rfl) (fun _ _ _ h => h) (Or.inl ⟨by rfl, ?_⟩) (by assumption) ?_
      rotate_left
      · intro w_ hSw
        (try dsimp only at hSw)
        go_simp
        first | done | with_reducible rfl
      try simp only [Act.put, List.setIfInBounds_toArray, List.set_cons_zero, List.set_cons_succ]
      refine wpAnyH_take (i := 5) (oi := { dst := some 24, op := Op.indexAddr 113 (Operand.tmp 23) (Operand.tmp 22), type := 0, pos := "digest.go:110", after := #[{ on := 4, ground := Ground.data }, { on := 3, ground := Ground.data }], guard := none }) (v := ?_) rfl (by kernel_rfl) (by kernel_rfl) (by kernel_rfl) (fun _ _ _ h => h) (Or.inl ⟨by rfl, ?_⟩) (by assumption) ?_
      rotate_left
      · intro w_ hSw
        (try dsimp only at hSw)
        go_simp
        first | done | with_reducible rfl
      try simp only [Act.put, List.setIfInBounds_toArray, List.set_cons_zero, List.set_cons_succ]
      refine wpAnyH_take (i := 6) (oi := { dst := some 25, op := Op.load 5 (Operand.tmp 24), type := 5, pos := "digest.go:110", after := #[{ on := 5, ground := Ground.data }], guard := none }) (v := ?_) rfl (by kernel_rfl) (by kernel_rfl) (by kernel_rfl) (fun _ _ _ h => h) (Or.inl ⟨by rfl, ?_⟩) (by assumption) ?_
      rotate_left
      · intro w_ hSw
        (try dsimp only at hSw)
        go_simp
        first | done | with_reducible rfl
      try simp only [Act.put, List.setIfInBounds_toArray, List.set_cons_zero, List.set_cons_succ]
      refine wpAnyH_take (i := 7) (oi := { dst := some 26, op := Op.convert 5 79 (Operand.tmp 25), type := 79, pos := "digest.go:110", after := #[{ on := 6, ground := Ground.data }], guard := none }) (v := ?_) rfl (by kernel_rfl) (by kernel_rfl) (by kernel_rfl) (fun _ _ _ h => h) (Or.inl ⟨by rfl, ?_⟩) (by assumption) ?_
      rotate_left
      · intro w_ hSw
        (try dsimp only at hSw)
        go_simp
        first | done | with_reducible rfl
      try simp only [Act.put, List.setIfInBounds_toArray, List.set_cons_zero, List.set_cons_succ]
      refine wpAnyH_take (i := 8) (oi := { dst := some 27, op := Op.binOp BinOp.shl 79 (Operand.tmp 26) (Operand.const (Value.int IntKind.u64 24)) 71, type := 79, pos := "digest.go:110", after := #[{ on := 7, ground := Ground.data }], guard := none }) (v := ?_) rfl (by kernel_rfl) (by kernel_rfl) (by kernel_rfl) (fun _ _ _ h => h) (Or.inl ⟨by rfl, ?_⟩) (by assumption) ?_
      rotate_left
      · intro w_ hSw
        (try dsimp only at hSw)
        go_simp
        first | done | with_reducible rfl
      try simp only [Act.put, List.setIfInBounds_toArray, List.set_cons_zero, List.set_cons_succ]
      refine wpAnyH_take (i := 9) (oi := { dst := some 28, op := Op.move (Operand.tmp 1), type := 134, pos := "digest.go:110", after := #[], guard := none }) (v := ?_) rfl (by kernel_rfl) (by kernel_rfl) (by kernel_rfl) (fun _ _ _ h => h) (Or.inl ⟨by rfl, ?_⟩) (by assumption) ?_
      rotate_left
      · intro w_ hSw
        (try dsimp only at hSw)
        go_simp
        first | done | with_reducible rfl
      try simp only [Act.put, List.setIfInBounds_toArray, List.set_cons_zero, List.set_cons_succ]
      refine wpAnyH_take (i := 10) (oi := { dst := some 29, op := Op.move (Operand.tmp 6), type := 3, pos := "digest.go:110", after := #[], guard := none }) (v := ?_) rfl (by kernel_rfl) (by kernel_rfl) (by kernel_rfl) (fun _ _ _ h => h) (Or.inl ⟨by rfl, ?_⟩) (by assumption) ?_
      rotate_left
      · intro w_ hSw
        (try dsimp only at hSw)
        go_simp
        first | done | with_reducible rfl
      try simp only [Act.put, List.setIfInBounds_toArray, List.set_cons_zero, List.set_cons_succ]
      refine wpAnyH_take (i := 11) (oi := { dst := some 30, op := Op.binOp BinOp.mul 3 (Operand.const (Value.int IntKind.i64 4)) (Operand.tmp 29) 3, type := 3, pos := "digest.go:110", after := #[{ on := 10, ground := Ground.data }], guard := none }) (v := ?_) rfl (by kernel_rfl) (by kernel_rfl) (by kernel_rfl) (fun _ _ _ h => h) (Or.inl ⟨by rfl, ?_⟩) (by assumption) ?_
      rotate_left
      · intro w_ hSw
        (try dsimp only at hSw)
        go_simp
        first | done | with_reducible rfl
      try simp only [Act.put, List.setIfInBounds_toArray, List.set_cons_zero, List.set_cons_succ]
      refine wpAnyH_take (i := 12) (oi := { dst := some 31, op := Op.binOp BinOp.add 3 (Operand.tmp 30) (Operand.const (Value.int IntKind.i64 1)) 3, type := 3, pos := "digest.go:110", after := #[{ on := 11, ground := Ground.data }], guard := none }) (v := ?_) rfl (by kernel_rfl) (by kernel_rfl) (by kernel_rfl) (fun _ _ _ h => h) (Or.inl ⟨by rfl, ?_⟩) (by assumption) ?_
      rotate_left
      · intro w_ hSw
        (try dsimp only at hSw)
        go_simp
        first | done | with_reducible rfl
      try simp only [Act.put, List.setIfInBounds_toArray, List.set_cons_zero, List.set_cons_succ]
      refine wpAnyH_take (i := 13) (oi := { dst := some 32, op := Op.nilCheck (Operand.tmp 28), type := 0, pos := "digest.go:110", after := #[{ on := 9, ground := Ground.data }], guard := none }) (v := ?_) rfl (by kernel_rfl) (by kernel_rfl) (by kernel_rfl) (fun _ _ _ h => h) (Or.inl ⟨by rfl, ?_⟩) (by assumption) ?_
      rotate_left
      · intro w_ hSw
        (try dsimp only at hSw)
        go_simp
        first | done | with_reducible rfl
      try simp only [Act.put, List.setIfInBounds_toArray, List.set_cons_zero, List.set_cons_succ]
      refine wpAnyH_take (i := 14) (oi := { dst := some 33, op := Op.indexAddr 113 (Operand.tmp 32) (Operand.tmp 31), type := 0, pos := "digest.go:110", after := #[{ on := 13, ground := Ground.data }, { on := 12, ground := Ground.data }], guard := none }) (v := ?_) rfl (by kernel_rfl) (by kernel_rfl) (by kernel_rfl) (fun _ _ _ h => h) (Or.inl ⟨by rfl, ?_⟩) (by assumption) ?_
      rotate_left
      · intro w_ hSw
        (try dsimp only at hSw)
        go_simp
        first | done | with_reducible rfl
      try simp only [Act.put, List.setIfInBounds_toArray, List.set_cons_zero, List.set_cons_succ]
      refine wpAnyH_take (i := 15) (oi := { dst := some 34, op := Op.load 5 (Operand.tmp 33), type := 5, pos := "digest.go:110", after := #[{ on := 14, ground := Ground.data }], guard := none }) (v := ?_) rfl (by kernel_rfl) (by kernel_rfl) (by kernel_rfl) (fun _ _ _ h => h) (Or.inl ⟨by rfl, ?_⟩) (by assumption) ?_
      rotate_left
      · intro w_ hSw
        (try dsimp only at hSw)
        go_simp
        first | done | with_reducible rfl
      try simp only [Act.put, List.setIfInBounds_toArray, List.set_cons_zero, List.set_cons_succ]
      refine wpAnyH_take (i := 16) (oi := { dst := some 35, op := Op.convert 5 79 (Operand.tmp 34), type := 79, pos := "digest.go:110", after := #[{ on := 15, ground := Ground.data }], guard := none }) (v := ?_) rfl (by kernel_rfl) (by kernel_rfl) (by kernel_rfl) (fun _ _ _ h => h) (Or.inl ⟨by rfl, ?_⟩) (by assumption) ?_
      rotate_left
      · intro w_ hSw
        (try dsimp only at hSw)
        go_simp
        first | done | with_reducible rfl
      try simp only [Act.put, List.setIfInBounds_toArray, List.set_cons_zero, List.set_cons_succ]
      refine wpAnyH_take (i := 17) (oi := { dst := some 36, op := Op.binOp BinOp.shl 79 (Operand.tmp 35) (Operand.const (Value.int IntKind.u64 16)) 71, type := 79, pos := "digest.go:110", after := #[{ on := 16, ground := Ground.data }], guard := none }) (v := ?_) rfl (by kernel_rfl) (by kernel_rfl) (by kernel_rfl) (fun _ _ _ h => h) (Or.inl ⟨by rfl, ?_⟩) (by assumption) ?_
      rotate_left
      · intro w_ hSw
        (try dsimp only at hSw)
        go_simp
        first | done | with_reducible rfl
      try simp only [Act.put, List.setIfInBounds_toArray, List.set_cons_zero, List.set_cons_succ]
      refine wpAnyH_take (i := 18) (oi := { dst := some 37, op := Op.binOp BinOp.or 79 (Operand.tmp 27) (Operand.tmp 36) 79, type := 79, pos := "digest.go:110", after := #[{ on := 8, ground := Ground.data }, { on := 17, ground := Ground.data }], guard := none }) (v := ?_) rfl (by kernel_rfl) (by kernel_rfl) (by kernel_rfl) (fun _ _ _ h => h) (Or.inl ⟨by rfl, ?_⟩) (by assumption) ?_
      rotate_left
      · intro w_ hSw
        (try dsimp only at hSw)
        go_simp
        first | done | with_reducible rfl
      try simp only [Act.put, List.setIfInBounds_toArray, List.set_cons_zero, List.set_cons_succ]
      refine wpAnyH_take (i := 19) (oi := { dst := some 38, op := Op.move (Operand.tmp 1), type := 134, pos := "digest.go:110", after := #[], guard := none }) (v := ?_) rfl (by kernel_rfl) (by kernel_rfl) (by kernel_rfl) (fun _ _ _ h => h) (Or.inl ⟨by rfl, ?_⟩) (by assumption) ?_
      rotate_left
      · intro w_ hSw
        (try dsimp only at hSw)
        go_simp
        first | done | with_reducible rfl
      try simp only [Act.put, List.setIfInBounds_toArray, List.set_cons_zero, List.set_cons_succ]
      refine wpAnyH_take (i := 20) (oi := { dst := some 39, op := Op.move (Operand.tmp 6), type := 3, pos := "digest.go:110", after := #[], guard := none }) (v := ?_) rfl (by kernel_rfl) (by kernel_rfl) (by kernel_rfl) (fun _ _ _ h => h) (Or.inl ⟨by rfl, ?_⟩) (by assumption) ?_
      rotate_left
      · intro w_ hSw
        (try dsimp only at hSw)
        go_simp
        first | done | with_reducible rfl
      try simp only [Act.put, List.setIfInBounds_toArray, List.set_cons_zero, List.set_cons_succ]
      refine wpAnyH_take (i := 21) (oi := { dst := some 40, op := Op.binOp BinOp.mul 3 (Operand.const (Value.int IntKind.i64 4)) (Operand.tmp 39) 3, type := 3, pos := "digest.go:110", after := #[{ on := 20, ground := Ground.data }], guard := none }) (v := ?_) rfl (by kernel_rfl) (by kernel_rfl) (by kernel_rfl) (fun _ _ _ h => h) (Or.inl ⟨by rfl, ?_⟩) (by assumption) ?_
      rotate_left
      · intro w_ hSw
        (try dsimp only at hSw)
        go_simp
        first | done | with_reducible rfl
      try simp only [Act.put, List.setIfInBounds_toArray, List.set_cons_zero, List.set_cons_succ]
      refine wpAnyH_take (i := 22) (oi := { dst := some 41, op := Op.binOp BinOp.add 3 (Operand.tmp 40) (Operand.const (Value.int IntKind.i64 2)) 3, type := 3, pos := "digest.go:110", after := #[{ on := 21, ground := Ground.data }], guard := none }) (v := ?_) rfl (by kernel_rfl) (by kernel_rfl) (by kernel_rfl) (fun _ _ _ h => h) (Or.inl ⟨by rfl, ?_⟩) (by assumption) ?_
      rotate_left
      · intro w_ hSw
        (try dsimp only at hSw)
        go_simp
        first | done | with_reducible rfl
      try simp only [Act.put, List.setIfInBounds_toArray, List.set_cons_zero, List.set_cons_succ]
      refine wpAnyH_take (i := 23) (oi := { dst := some 42, op := Op.nilCheck (Operand.tmp 38), type := 0, pos := "digest.go:110", after := #[{ on := 19, ground := Ground.data }], guard := none }) (v := ?_) rfl (by kernel_rfl) (by kernel_rfl) (by kernel_rfl) (fun _ _ _ h => h) (Or.inl ⟨by rfl, ?_⟩) (by assumption) ?_
      rotate_left
      · intro w_ hSw
        (try dsimp only at hSw)
        go_simp
        first | done | with_reducible rfl
      try simp only [Act.put, List.setIfInBounds_toArray, List.set_cons_zero, List.set_cons_succ]
      refine wpAnyH_take (i := 24) (oi := { dst := some 43, op := Op.indexAddr 113 (Operand.tmp 42) (Operand.tmp 41), type := 0, pos := "digest.go:110", after := #[{ on := 23, ground := Ground.data }, { on := 22, ground := Ground.data }], guard := none }) (v := ?_) rfl (by kernel_rfl) (by kernel_rfl) (by kernel_rfl) (fun _ _ _ h => h) (Or.inl ⟨by rfl, ?_⟩) (by assumption) ?_
      rotate_left
      · intro w_ hSw
        (try dsimp only at hSw)
        go_simp
        first | done | with_reducible rfl
      try simp only [Act.put, List.setIfInBounds_toArray, List.set_cons_zero, List.set_cons_succ]
      refine wpAnyH_take (i := 25) (oi := { dst := some 44, op := Op.load 5 (Operand.tmp 43), type := 5, pos := "digest.go:110", after := #[{ on := 24, ground := Ground.data }], guard := none }) (v := ?_) rfl (by kernel_rfl) (by kernel_rfl) (by kernel_rfl) (fun _ _ _ h => h) (Or.inl ⟨by rfl, ?_⟩) (by assumption) ?_
      rotate_left
      · intro w_ hSw
        (try dsimp only at hSw)
        go_simp
        first | done | with_reducible rfl
      try simp only [Act.put, List.setIfInBounds_toArray, List.set_cons_zero, List.set_cons_succ]
      refine wpAnyH_take (i := 26) (oi := { dst := some 45, op := Op.convert 5 79 (Operand.tmp 44), type := 79, pos := "digest.go:110", after := #[{ on := 25, ground := Ground.data }], guard := none }) (v := ?_) rfl (by kernel_rfl) (by kernel_rfl) (by kernel_rfl) (fun _ _ _ h => h) (Or.inl ⟨by rfl, ?_⟩) (by assumption) ?_
      rotate_left
      · intro w_ hSw
        (try dsimp only at hSw)
        go_simp
        first | done | with_reducible rfl
      try simp only [Act.put, List.setIfInBounds_toArray, List.set_cons_zero, List.set_cons_succ]
      refine wpAnyH_take (i := 27) (oi := { dst := some 46, op := Op.binOp BinOp.shl 79 (Operand.tmp 45) (Operand.const (Value.int IntKind.u64 8)) 71, type := 79, pos := "digest.go:110", after := #[{ on := 26, ground := Ground.data }], guard := none }) (v := ?_) rfl (by kernel_rfl) (by kernel_rfl) (by kernel_rfl) (fun _ _ _ h => h) (Or.inl ⟨by rfl, ?_⟩) (by assumption) ?_
      rotate_left
      · intro w_ hSw
        (try dsimp only at hSw)
        go_simp
        first | done | with_reducible rfl
      try simp only [Act.put, List.setIfInBounds_toArray, List.set_cons_zero, List.set_cons_succ]
      refine wpAnyH_take (i := 28) (oi := { dst := some 47, op := Op.binOp BinOp.or 79 (Operand.tmp 37) (Operand.tmp 46) 79, type := 79, pos := "digest.go:110", after := #[{ on := 18, ground := Ground.data }, { on := 27, ground := Ground.data }], guard := none }) (v := ?_) rfl (by kernel_rfl) (by kernel_rfl) (by kernel_rfl) (fun _ _ _ h => h) (Or.inl ⟨by rfl, ?_⟩) (by assumption) ?_
      rotate_left
      · intro w_ hSw
        (try dsimp only at hSw)
        go_simp
        first | done | with_reducible rfl
      try simp only [Act.put, List.setIfInBounds_toArray, List.set_cons_zero, List.set_cons_succ]
      refine wpAnyH_take (i := 29) (oi := { dst := some 48, op := Op.move (Operand.tmp 1), type := 134, pos := "digest.go:110", after := #[], guard := none }) (v := ?_) rfl (by kernel_rfl) (by kernel_rfl) (by kernel_rfl) (fun _ _ _ h => h) (Or.inl ⟨by rfl, ?_⟩) (by assumption) ?_
      rotate_left
      · intro w_ hSw
        (try dsimp only at hSw)
        go_simp
        first | done | with_reducible rfl
      try simp only [Act.put, List.setIfInBounds_toArray, List.set_cons_zero, List.set_cons_succ]
      refine wpAnyH_take (i := 30) (oi := { dst := some 49, op := Op.move (Operand.tmp 6), type := 3, pos := "digest.go:110", after := #[], guard := none }) (v := ?_) rfl (by kernel_rfl) (by kernel_rfl) (by kernel_rfl) (fun _ _ _ h => h) (Or.inl ⟨by rfl, ?_⟩) (by assumption) ?_
      rotate_left
      · intro w_ hSw
        (try dsimp only at hSw)
        go_simp
        first | done | with_reducible rfl
      try simp only [Act.put, List.setIfInBounds_toArray, List.set_cons_zero, List.set_cons_succ]
      refine wpAnyH_take (i := 31) (oi := { dst := some 50, op := Op.binOp BinOp.mul 3 (Operand.const (Value.int IntKind.i64 4)) (Operand.tmp 49) 3, type := 3, pos := "digest.go:110", after := #[{ on := 30, ground := Ground.data }], guard := none }) (v := ?_) rfl (by kernel_rfl) (by kernel_rfl) (by kernel_rfl) (fun _ _ _ h => h) (Or.inl ⟨by rfl, ?_⟩) (by assumption) ?_
      rotate_left
      · intro w_ hSw
        (try dsimp only at hSw)
        go_simp
        first | done | with_reducible rfl
      try simp only [Act.put, List.setIfInBounds_toArray, List.set_cons_zero, List.set_cons_succ]
      refine wpAnyH_take (i := 32) (oi := { dst := some 51, op := Op.binOp BinOp.add 3 (Operand.tmp 50) (Operand.const (Value.int IntKind.i64 3)) 3, type := 3, pos := "digest.go:110", after := #[{ on := 31, ground := Ground.data }], guard := none }) (v := ?_) rfl (by kernel_rfl) (by kernel_rfl) (by kernel_rfl) (fun _ _ _ h => h) (Or.inl ⟨by rfl, ?_⟩) (by assumption) ?_
      rotate_left
      · intro w_ hSw
        (try dsimp only at hSw)
        go_simp
        first | done | with_reducible rfl
      try simp only [Act.put, List.setIfInBounds_toArray, List.set_cons_zero, List.set_cons_succ]
      refine wpAnyH_take (i := 33) (oi := { dst := some 52, op := Op.nilCheck (Operand.tmp 48), type := 0, pos := "digest.go:110", after := #[{ on := 29, ground := Ground.data }], guard := none }) (v := ?_) rfl (by kernel_rfl) (by kernel_rfl) (by kernel_rfl) (fun _ _ _ h => h) (Or.inl ⟨by rfl, ?_⟩) (by assumption) ?_
      rotate_left
      · intro w_ hSw
        (try dsimp only at hSw)
        go_simp
        first | done | with_reducible rfl
      try simp only [Act.put, List.setIfInBounds_toArray, List.set_cons_zero, List.set_cons_succ]
      refine wpAnyH_take (i := 34) (oi := { dst := some 53, op := Op.indexAddr 113 (Operand.tmp 52) (Operand.tmp 51), type := 0, pos := "digest.go:110", after := #[{ on := 33, ground := Ground.data }, { on := 32, ground := Ground.data }], guard := none }) (v := ?_) rfl (by kernel_rfl) (by kernel_rfl) (by kernel_rfl) (fun _ _ _ h => h) (Or.inl ⟨by rfl, ?_⟩) (by assumption) ?_
      rotate_left
      · intro w_ hSw
        (try dsimp only at hSw)
        go_simp
        first | done | with_reducible rfl
      try simp only [Act.put, List.setIfInBounds_toArray, List.set_cons_zero, List.set_cons_succ]
      refine wpAnyH_take (i := 35) (oi := { dst := some 54, op := Op.load 5 (Operand.tmp 53), type := 5, pos := "digest.go:110", after := #[{ on := 34, ground := Ground.data }], guard := none }) (v := ?_) rfl (by kernel_rfl) (by kernel_rfl) (by kernel_rfl) (fun _ _ _ h => h) (Or.inl ⟨by rfl, ?_⟩) (by assumption) ?_
      rotate_left
      · intro w_ hSw
        (try dsimp only at hSw)
        go_simp
        first | done | with_reducible rfl
      try simp only [Act.put, List.setIfInBounds_toArray, List.set_cons_zero, List.set_cons_succ]
      refine wpAnyH_take (i := 36) (oi := { dst := some 55, op := Op.convert 5 79 (Operand.tmp 54), type := 79, pos := "digest.go:110", after := #[{ on := 35, ground := Ground.data }], guard := none }) (v := ?_) rfl (by kernel_rfl) (by kernel_rfl) (by kernel_rfl) (fun _ _ _ h => h) (Or.inl ⟨by rfl, ?_⟩) (by assumption) ?_
      rotate_left
      · intro w_ hSw
        (try dsimp only at hSw)
        go_simp
        first | done | with_reducible rfl
      try simp only [Act.put, List.setIfInBounds_toArray, List.set_cons_zero, List.set_cons_succ]
      refine wpAnyH_take (i := 37) (oi := { dst := some 56, op := Op.binOp BinOp.or 79 (Operand.tmp 47) (Operand.tmp 55) 79, type := 79, pos := "digest.go:110", after := #[{ on := 28, ground := Ground.data }, { on := 36, ground := Ground.data }], guard := none }) (v := ?_) rfl (by kernel_rfl) (by kernel_rfl) (by kernel_rfl) (fun _ _ _ h => h) (Or.inl ⟨by rfl, ?_⟩) (by assumption) ?_
      rotate_left
      · intro w_ hSw
        (try dsimp only at hSw)
        go_simp
        first | done | with_reducible rfl
      try simp only [Act.put, List.setIfInBounds_toArray, List.set_cons_zero, List.set_cons_succ]
      refine wpAnyH_take (i := 38) (oi := { dst := some 57, op := Op.indexAddr 142 (Operand.tmp 5) (Operand.tmp 19), type := 0, pos := "digest.go:110", after := #[{ on := 0, ground := Ground.data }, { on := 0, ground := Ground.phase }, { on := 1, ground := Ground.phase }, { on := 2, ground := Ground.phase }, { on := 3, ground := Ground.phase }, { on := 4, ground := Ground.phase }, { on := 5, ground := Ground.phase }, { on := 6, ground := Ground.phase }, { on := 7, ground := Ground.phase }, { on := 8, ground := Ground.phase }, { on := 9, ground := Ground.phase }, { on := 10, ground := Ground.phase }, { on := 11, ground := Ground.phase }, { on := 12, ground := Ground.phase }, { on := 13, ground := Ground.phase }, { on := 14, ground := Ground.phase }, { on := 15, ground := Ground.phase }, { on := 16, ground := Ground.phase }, { on := 17, ground := Ground.phase }, { on := 18, ground := Ground.phase }, { on := 19, ground := Ground.phase }, { on := 20, ground := Ground.phase }, { on := 21, ground := Ground.phase }, { on := 22, ground := Ground.phase }, { on := 23, ground := Ground.phase }, { on := 24, ground := Ground.phase }, { on := 25, ground := Ground.phase }, { on := 26, ground := Ground.phase }, { on := 27, ground := Ground.phase }, { on := 28, ground := Ground.phase }, { on := 29, ground := Ground.phase }, { on := 30, ground := Ground.phase }, { on := 31, ground := Ground.phase }, { on := 32, ground := Ground.phase }, { on := 33, ground := Ground.phase }, { on := 34, ground := Ground.phase }, { on := 35, ground := Ground.phase }, { on := 36, ground := Ground.phase }, { on := 37, ground := Ground.phase }], guard := none }) (v := ?_) rfl (by kernel_rfl) (by kernel_rfl) (by kernel_rfl) (fun _ _ _ h => h) (Or.inl ⟨by rfl, ?_⟩) (by assumption) ?_
      rotate_left
      · intro w_ hSw
        (try dsimp only at hSw)
        go_simp
        first | done | with_reducible rfl
      try simp only [Act.put, List.setIfInBounds_toArray, List.set_cons_zero, List.set_cons_succ]
      refine wpAnyH_ready (rs := [39]) (by kernel_rfl) (by simp) ?_
      refine AllReadyH.cons (o := { dst := none, op := Op.store 79 (Operand.tmp 57) (Operand.tmp 56), type := 0, pos := "digest.go:110", after := #[{ on := 38, ground := Ground.data }, { on := 37, ground := Ground.data }, { on := 0, ground := Ground.phase }, { on := 1, ground := Ground.phase }, { on := 2, ground := Ground.phase }, { on := 3, ground := Ground.phase }, { on := 4, ground := Ground.phase }, { on := 5, ground := Ground.phase }, { on := 6, ground := Ground.phase }, { on := 7, ground := Ground.phase }, { on := 8, ground := Ground.phase }, { on := 9, ground := Ground.phase }, { on := 10, ground := Ground.phase }, { on := 11, ground := Ground.phase }, { on := 12, ground := Ground.phase }, { on := 13, ground := Ground.phase }, { on := 14, ground := Ground.phase }, { on := 15, ground := Ground.phase }, { on := 16, ground := Ground.phase }, { on := 17, ground := Ground.phase }, { on := 18, ground := Ground.phase }, { on := 19, ground := Ground.phase }, { on := 20, ground := Ground.phase }, { on := 21, ground := Ground.phase }, { on := 22, ground := Ground.phase }, { on := 23, ground := Ground.phase }, { on := 24, ground := Ground.phase }, { on := 25, ground := Ground.phase }, { on := 26, ground := Ground.phase }, { on := 27, ground := Ground.phase }, { on := 28, ground := Ground.phase }, { on := 29, ground := Ground.phase }, { on := 30, ground := Ground.phase }, { on := 31, ground := Ground.phase }, { on := 32, ground := Ground.phase }, { on := 33, ground := Ground.phase }, { on := 34, ground := Ground.phase }, { on := 35, ground := Ground.phase }, { on := 36, ground := Ground.phase }, { on := 37, ground := Ground.phase }], guard := none }) rfl (fun K hK => ?_) AllReadyH.nil
      go_simp
      go_wp2_with fail
      refine hK.out _ _ ?_ (fun hHeld => ?_)
      · exact HK.out _
      clear hK K
      try simp only [Act.put, List.setIfInBounds_toArray, List.set_cons_zero, List.set_cons_succ]
      refine wpAnyH_done (by kernel_rfl) ?_ _
      go_wp2
      go_roundg (16 - (i + 1))
      case measure => omega
      case rel =>
        refine ⟨i + 1, fun j => if j = i then word m i else r j, by omega, rfl, by go_num, Lib.hid (fun j hj => ?_), Lib.hid ?_, Lib.hid (grown_step hg.out (grown_drew (grown_set' _ _ _ _)) (.inl rfl))⟩
        · by_cases hji : j = i
          · subst hji; show (if j = j then word m j else r j) = _; rw [if_pos rfl, sched_lo _ hlt]
          · show (if j = i then word m i else r j) = _; rw [if_neg hji]; exact hr.out j (by omega)
        · have := (hb.out.drew).set_ i (.int .u32 (wv (word m i)))
          rw [arrW_set, show word m i = _ from (or_add (m (4 * i)) (m (4 * i + 1)) (m (4 * i + 2)) (m (4 * i + 3))).symm] at this
          obtain ⟨rfl, rfl, rfl, rfl⟩ := HKK.out
          simp only [show word m i = _ from (or_add (m (4 * i)) (m (4 * i + 1)) (m (4 * i + 2)) (m (4 * i + 3))).symm]
          exact this
    · obtain rfl : i = 16 := by omega
      have HRG := Lib.hid (Ring.first hr.out)
      have a1 := SWa.out
      have a2 := SWb.out
      have a3 := SWc.out
      have a4 := hg.out.size
      have n1 : ∀ g, g < Wb.heap.size → some g ≠ some Wb.heap.size := fun g h e => by injection e with e; omega
      have HS1 := Lib.hid (show w.heap.size + 1 = Wa.heap.size ∧ Wa.heap.size + 1 = Wb.heap.size ∧ Wb.heap.size < wr.heap.size from ⟨by omega, by omega, by omega⟩)
      have HA := Lib.hid (((BWa.out.below LWb.out (by omega)).below LWc.out (by omega)).grown hg.out (n1 _ (by omega)))
      have HR := Lib.hid ((BWb.out.below LWc.out (by omega)).grown hg.out (n1 _ (by omega)))
      have HV := hb
      clear a1 a2 a3 a4 n1 hr hg hb hi hlt BWa LWa SWa BWb LWb SWb BWc LWc SWc HM
      go_wp2_with (first
        | (go_at_call 97; refine (cubes_any wr).mono ?_; rintro e Wd ⟨rfl, L_⟩; have LWd := Lib.hid L_; clear L_)
        | (refine alloc_arr (w := Wd) rfl 117 rfl _ _ z64 ?_; intro We B_ L_ S_; have BWe := Lib.hid B_; have LWe := Lib.hid L_; have SWe := Lib.hid S_; clear B_ L_ S_)
        | (refine store_arr (w := We) rfl 117 _ _ rfl Wd.heap.size (arrW 64 kc) rfl rfl _ _ BWe.out (by rw [arrW_size]; exact s64) (by rw [arrW_size, arrW_size]) (arrW_one _ _) ?_; intro Wf B_ G_ S_; have BWf := Lib.hid B_; have GWf := Lib.hid G_; have SWf := Lib.hid S_; clear B_ G_ S_)
        | (refine load_arr (w := Wf) rfl 99 _ rfl w.heap.size rfl 99 (arrW 8 f) _ _ (((HA.out.below LWd.out (by have := HS1.out; omega)).below LWe.out (by have := HS1.out; have := LWd.out.size; omega)).grown GWf.out (by intro e; injection e with e; have := HS1.out; have := LWd.out.size; omega)) Try.underlying99 (by rw [arrW_size]; exact s8) ?_)
        | (refine alloc_arr (w := Wf) rfl 99 rfl _ _ z8 ?_; intro Wg B_ L_ S_; have BWg := Lib.hid B_; have LWg := Lib.hid L_; have SWg := Lib.hid S_; clear B_ L_ S_)
        | (refine store_arr (w := Wg) rfl 99 _ _ rfl Wf.heap.size (arrW 8 f) rfl rfl _ _ BWg.out (by rw [arrW_size]; exact s8) (by rw [arrW_size, arrW_size]) (arrW_one _ _) ?_; intro Wh B_ G_ S_; have BWh := Lib.hid B_; have GWh := Lib.hid G_; have SWh := Lib.hid S_; clear B_ G_ S_))
      obtain ⟨HS, LW, HA2, HR2, HV2, HK⟩ : Hid (w.heap.size + 1 = Wa.heap.size ∧ Wa.heap.size + 1 = Wb.heap.size ∧ Wb.heap.size < Wd.heap.size ∧ Wd.heap.size < Wf.heap.size) ∧ Hid (Below w.heap.size w Wh) ∧ Hid (Blk Wh w.heap.size 99 (arrW 8 f)) ∧ Hid (Blk Wh Wa.heap.size 99 (arrW 8 fun _ => 0)) ∧ Hid (Blk Wh Wb.heap.size 142 (arrW 16 r)) ∧ Hid (Blk Wh Wd.heap.size 117 (arrW 64 kc)) := by
        have a0 := HS1.out; have a1 := LWd.out.size; have a2 := SWe.out; have a3 := SWf.out; have a4 := SWg.out; have a5 := SWh.out
        have n1 : ∀ g, g < Wd.heap.size → some g ≠ some Wd.heap.size := fun g h e => by injection e with e; omega
        have n2 : ∀ g, g < Wf.heap.size → some g ≠ some Wf.heap.size := fun g h e => by injection e with e; omega
        refine ⟨Lib.hid ⟨by omega, by omega, by omega, by omega⟩, Lib.hid ?_, Lib.hid ?_, Lib.hid ?_, Lib.hid ?_, Lib.hid ?_⟩
        · exact bl_of_grown (bl_then (bl_of_grown (bl_then (bl_then HBL.out LWd.out) LWe.out) GWf.out (zero_lt_of (by omega) rfl)) LWg.out) GWh.out (zero_lt_of (by omega) rfl)
        · exact ((((HA.out.below LWd.out (by omega)).below LWe.out (by omega)).grown GWf.out (n1 _ (by omega))).below LWg.out (by omega)).grown GWh.out (n2 _ (by omega))
        · exact ((((HR.out.below LWd.out (by omega)).below LWe.out (by omega)).grown GWf.out (n1 _ (by omega))).below LWg.out (by omega)).grown GWh.out (n2 _ (by omega))
        · exact ((((HV.out.below LWd.out (by omega)).below LWe.out (by omega)).grown GWf.out (n1 _ (by omega))).below LWg.out (by omega)).grown GWh.out (n2 _ (by omega))
        · exact (BWf.out.below LWg.out (by omega)).grown GWh.out (n2 _ (by omega))
      clear HA HR HV HS1 HBL LWd BWe LWe SWe BWf GWf SWf BWg LWg SWg GWh SWh
      go_loopg [61] 64 (fun gk s61 wx => ∃ (i : Nat) (r : Nat → W32), i ≤ 64 ∧ gk = 64 - i ∧ s61 = .int .i64 i ∧ Hid (Ring m r (max i 16)) ∧ Hid (Blk wx Wb.heap.size 142 (arrW 16 r)) ∧ Hid (Blk wx Wf.heap.size 99 (arrW 8 (rounds f (sched m) i))) ∧
        Hid (Blk wx w.heap.size 99 (arrW 8 f)) ∧ Hid (Blk wx Wa.heap.size 99 (arrW 8 fun _ => 0)) ∧ Hid (Blk wx Wd.heap.size 117 (arrW 64 kc)) ∧ Hid (Below w.heap.size w wx))
      case atStart => exact ⟨0, r, by omega, rfl, rfl, HRG, HV2, BWh, HA2, HR2, HK, LW⟩
      case round =>
        clear HA2 HR2 HV2 HK LW BWh HRG
        obtain ⟨i, q, hi, rfl, rfl, HRG, HV, HSS, HA, HR, HK, HL⟩ := hrel
        by_cases hlt : i < 64
        · have i0 : (0 : Int) ≤ (i : Int) := by omega
          have i1 : (i : Int) < 64 := by omega
          have HR1 := Lib.hid (show rounds f (sched m) (i + 1) = rnd (rounds f (sched m) i) (kc i) (sched m i) from rfl)
          obtain ⟨F, hF⟩ : ∃ F, F = rounds f (sched m) i := ⟨_, rfl⟩
          rw [← hF] at HSS HR1
          clear hF
          have ck : wr.cell? ⟨Wd.heap.size, i, none⟩ = some (.int .u32 (wv (kc i))) := (HK.out.cell i).trans (arrW_get _ _ hlt)
          go_wp2
          go_quiet (fail)
          clear ck
          go_upto_if 68 with fail
          go_cut [61, 9, 10] from 62 to 189 (fun s61 s9 s10 wx => s61 = .int .i64 i ∧ s9 = .int .i64 i ∧ s10 = .int .u32 (wv (kc i)) ∧ ∃ p, Hid (Blk wx Wb.heap.size 142 (arrW 16 p)) ∧ Hid (Ring m p (max (i + 1) 16)) ∧ Hid (wr.grownBy wx (some Wb.heap.size)))
          case first =>
            by_cases h16 : i < 16
            · have q0 : decide (16 ≤ (i : Int)) = false := decide_eq_false (by omega)
              go_wp2_with fail
              go_meet
              case rel => exact ⟨rfl, rfl, rfl, q, Lib.hid (HV.out.drewN _), by rw [show max (i + 1) 16 = max i 16 by omega]; exact HRG, Lib.hid (grown_drewN (grown_refl _ _) _)⟩
            · have q0 : decide (16 ≤ (i : Int)) = true := decide_eq_true (by omega)
              obtain ⟨k1, k9, k14, q0, q1, q9, q14, ⟨e1, e9, e14⟩, ⟨t0, t1, t9, t14⟩, ⟨p0, p1, p9, p14⟩, ⟨l0, l1, l9, l14⟩, HX⟩ := ring_idx i h16 hlt
              have HW := Lib.hid (ring_vals HRG.out HX.out h16)
              obtain ⟨c0, c1, c9, c14⟩ := ring_cells HV.out HX.out
              have f0 : wr.frozen? ⟨Wb.heap.size, q0, none⟩ = false := HV.out.frozen q0
              go_wp2
              go_quiet (fail)
              go_wp2
              have HB14 := Lib.hid (show ∀ n, Blk ((wr.drewN n).setCell ⟨Wb.heap.size, q0, none⟩ (.int .u32 (wv (q q0 + (rr (q q1) 7 ^^^ rr (q q1) 18 ^^^ q q1 >>> 3))))) Wb.heap.size 142 (arrW 16 (fun j => if j = q0 then q q0 + sigA (q q1) else q j)) from fun n => by
                have := (HV.out.drewN n).set_ q0 (.int .u32 (wv (q q0 + sigA (q q1))))
                rw [arrW_set] at this
                exact this)
              have HG14 := Lib.hid (grown_set' wr Wb.heap.size q0 (.int .u32 (wv (q q0 + (rr (q q1) 7 ^^^ rr (q q1) 18 ^^^ q q1 >>> 3)))))
              go_cut [11] from 62 to 189 (fun s11 wx => s11 = .int .u32 (wv (q q1)) ∧ Hid (Blk wx Wb.heap.size 142 (arrW 16 (fun j => if j = q0 then q q0 + sigA (q q1) else q j))) ∧ Hid (wr.grownBy wx (some Wb.heap.size)))
              case first =>
                refine wp_region_held_drew (S := fun _ => True) (by kernel_rfl) ?_ (fun hHeld => ?_)
                · trivial
                refine wpAnyH_take (i := 0) (oi := { dst := some 79, op := Op.move (Operand.tmp 9), type := 3, pos := "digest.go:117", after := #[], guard := none }) (v := ?_) rfl (by kernel_rfl) (by kernel_rfl) (by kernel_rfl) (fun _ _ _ h => h) (Or.inl ⟨by rfl, ?_⟩) (by assumption) ?_
                rotate_left
                · intro w_ hSw
                  (try dsimp only at hSw)
                  go_simp
                  first | done | with_reducible rfl
                try simp only [Act.put, List.setIfInBounds_toArray, List.set_cons_zero, List.set_cons_succ]
                refine wpAnyH_take (i := 1) (oi := { dst := some 80, op := Op.binOp BinOp.rem 3 (Operand.tmp 79) (Operand.const (Value.int IntKind.i64 16)) 3, type := 3, pos := "digest.go:117", after := #[{ on := 0, ground := Ground.data }], guard := none }) (v := ?_) rfl (by kernel_rfl) (by kernel_rfl) (by kernel_rfl) (fun _ _ _ h => h) (Or.inl ⟨by rfl, ?_⟩) (by assumption) ?_
                rotate_left
                · intro w_ hSw
                  (try dsimp only at hSw)
                  go_simp
                  first | done | with_reducible rfl
                try simp only [Act.put, List.setIfInBounds_toArray, List.set_cons_zero, List.set_cons_succ]
                refine wpAnyH_take (i := 2) (oi := { dst := some 81, op := Op.indexAddr 142 (Operand.tmp 5) (Operand.tmp 80), type := 0, pos := "digest.go:117", after := #[{ on := 1, ground := Ground.data }], guard := none }) (v := ?_) rfl (by kernel_rfl) (by kernel_rfl) (by kernel_rfl) (fun _ _ _ h => h) (Or.inl ⟨by rfl, ?_⟩) (by assumption) ?_
                rotate_left
                · intro w_ hSw
                  (try dsimp only at hSw)
                  go_simp
                  first | done | with_reducible rfl
                try simp only [Act.put, List.setIfInBounds_toArray, List.set_cons_zero, List.set_cons_succ]
                refine wpAnyH_take (i := 4) (oi := { dst := some 83, op := Op.move (Operand.tmp 11), type := 79, pos := "digest.go:117", after := #[], guard := none }) (v := ?_) rfl (by kernel_rfl) (by kernel_rfl) (by kernel_rfl) (fun _ _ _ h => h) (Or.inl ⟨by rfl, ?_⟩) (by assumption) ?_
                rotate_left
                · intro w_ hSw
                  (try dsimp only at hSw)
                  go_simp
                  first | done | with_reducible rfl
                try simp only [Act.put, List.setIfInBounds_toArray, List.set_cons_zero, List.set_cons_succ]
                refine wpAnyH_take (i := 6) (oi := { dst := some 85, op := Op.move (Operand.tmp 11), type := 79, pos := "digest.go:117", after := #[], guard := none }) (v := ?_) rfl (by kernel_rfl) (by kernel_rfl) (by kernel_rfl) (fun _ _ _ h => h) (Or.inl ⟨by rfl, ?_⟩) (by assumption) ?_
                rotate_left
                · intro w_ hSw
                  (try dsimp only at hSw)
                  go_simp
                  first | done | with_reducible rfl
                try simp only [Act.put, List.setIfInBounds_toArray, List.set_cons_zero, List.set_cons_succ]
                refine wpAnyH_take (i := 9) (oi := { dst := some 88, op := Op.move (Operand.tmp 11), type := 79, pos := "digest.go:117", after := #[], guard := none }) (v := ?_) rfl (by kernel_rfl) (by kernel_rfl) (by kernel_rfl) (fun _ _ _ h => h) (Or.inl ⟨by rfl, ?_⟩) (by assumption) ?_
                rotate_left
                · intro w_ hSw
                  (try dsimp only at hSw)
                  go_simp
                  first | done | with_reducible rfl
                try simp only [Act.put, List.setIfInBounds_toArray, List.set_cons_zero, List.set_cons_succ]
                refine wpAnyH_take (i := 10) (oi := { dst := some 89, op := Op.binOp BinOp.shr 79 (Operand.tmp 88) (Operand.const (Value.int IntKind.u64 3)) 71, type := 79, pos := "digest.go:117", after := #[{ on := 9, ground := Ground.data }], guard := none }) (v := ?_) rfl (by kernel_rfl) (by kernel_rfl) (by kernel_rfl) (fun _ _ _ h => h) (Or.inl ⟨by rfl, ?_⟩) (by assumption) ?_
                rotate_left
                · intro w_ hSw
                  (try dsimp only at hSw)
                  go_simp
                  first | done | with_reducible rfl
                try simp only [Act.put, List.setIfInBounds_toArray, List.set_cons_zero, List.set_cons_succ]
                refine wpAnyH_ready (rs := [3, 5]) (by kernel_rfl) (by simp) ?_
                refine AllReadyH.cons (o := { dst := some 82, op := Op.load 79 (Operand.tmp 81), type := 79, pos := "digest.go:117", after := #[{ on := 2, ground := Ground.data }], guard := none }) rfl (fun K hK => ?_) (AllReadyH.cons (o := { dst := some 84, op := Op.call { callee := Callee.value (Operand.func 98), args := #[Operand.tmp 83, Operand.const (Value.int IntKind.i64 (-7))], argTypes := #[79, 3] }, type := 79, pos := "digest.go:117", after := #[{ on := 4, ground := Ground.data }], guard := none }) rfl (fun K hK => ?_) (AllReadyH.nil))
                · skip
                  go_simp
                  skip
                  refine hK.out _ _ ?_ (fun hHeld => ?_)
                  · trivial
                  clear hK K
                  try simp only [Act.put, List.setIfInBounds_toArray, List.set_cons_zero, List.set_cons_succ]
                  refine wpAnyH_ready (rs := [5]) (by kernel_rfl) (by simp) ?_
                  refine AllReadyH.cons (o := { dst := some 84, op := Op.call { callee := Callee.value (Operand.func 98), args := #[Operand.tmp 83, Operand.const (Value.int IntKind.i64 (-7))], argTypes := #[79, 3] }, type := 79, pos := "digest.go:117", after := #[{ on := 4, ground := Ground.data }], guard := none }) rfl (fun K hK => ?_) AllReadyH.nil
                  go_simp
                  refine (rot_z _ _ (by decide) (by decide) _).mono ?_
                  rintro e w5 ⟨rfl, rfl⟩
                  go_wp2_with fail
                  refine hK.out _ _ ?_ (fun hHeld => ?_)
                  · trivial
                  clear hK K
                  try simp only [Act.put, List.setIfInBounds_toArray, List.set_cons_zero, List.set_cons_succ]
                  refine wpAnyH_ready (rs := [7]) (by kernel_rfl) (by simp) ?_
                  refine AllReadyH.cons (o := { dst := some 86, op := Op.call { callee := Callee.value (Operand.func 98), args := #[Operand.tmp 85, Operand.const (Value.int IntKind.i64 (-18))], argTypes := #[79, 3] }, type := 79, pos := "digest.go:117", after := #[{ on := 6, ground := Ground.data }, { on := 5, ground := Ground.chain }], guard := none }) rfl (fun K hK => ?_) AllReadyH.nil
                  go_simp
                  refine (rot_z _ _ (by decide) (by decide) _).mono ?_
                  rintro e w5 ⟨rfl, rfl⟩
                  go_wp2_with fail
                  refine hK.out _ _ ?_ (fun hHeld => ?_)
                  · trivial
                  clear hK K
                  try simp only [Act.put, List.setIfInBounds_toArray, List.set_cons_zero, List.set_cons_succ]
                  refine wpAnyH_take (i := 8) (oi := { dst := some 87, op := Op.binOp BinOp.xor 79 (Operand.tmp 84) (Operand.tmp 86) 79, type := 79, pos := "digest.go:117", after := #[{ on := 5, ground := Ground.data }, { on := 7, ground := Ground.data }], guard := none }) (v := ?_) rfl (by kernel_rfl) (by kernel_rfl) (by kernel_rfl) (fun _ _ _ h => h) (Or.inl ⟨by rfl, ?_⟩) (by assumption) ?_
                  rotate_left
                  · intro w_ hSw
                    (try dsimp only at hSw)
                    go_simp
                    first | done | with_reducible rfl
                  try simp only [Act.put, List.setIfInBounds_toArray, List.set_cons_zero, List.set_cons_succ]
                  refine wpAnyH_take (i := 11) (oi := { dst := some 90, op := Op.binOp BinOp.xor 79 (Operand.tmp 87) (Operand.tmp 89) 79, type := 79, pos := "digest.go:117", after := #[{ on := 8, ground := Ground.data }, { on := 10, ground := Ground.data }], guard := none }) (v := ?_) rfl (by kernel_rfl) (by kernel_rfl) (by kernel_rfl) (fun _ _ _ h => h) (Or.inl ⟨by rfl, ?_⟩) (by assumption) ?_
                  rotate_left
                  · intro w_ hSw
                    (try dsimp only at hSw)
                    go_simp
                    first | done | with_reducible rfl
                  try simp only [Act.put, List.setIfInBounds_toArray, List.set_cons_zero, List.set_cons_succ]
                  refine wpAnyH_take (i := 12) (oi := { dst := some 91, op := Op.binOp BinOp.add 79 (Operand.tmp 82) (Operand.tmp 90) 79, type := 79, pos := "digest.go:117", after := #[{ on := 3, ground := Ground.data }, { on := 11, ground := Ground.data }], guard := none }) (v := ?_) rfl (by kernel_rfl) (by kernel_rfl) (by kernel_rfl) (fun _ _ _ h => h) (Or.inl ⟨by rfl, ?_⟩) (by assumption) ?_
                  rotate_left
                  · intro w_ hSw
                    (try dsimp only at hSw)
                    go_simp
                    first | done | with_reducible rfl
                  try simp only [Act.put, List.setIfInBounds_toArray, List.set_cons_zero, List.set_cons_succ]
                  refine wpAnyH_take (i := 13) (oi := { dst := some 92, op := Op.indexAddr 142 (Operand.tmp 5) (Operand.tmp 80), type := 0, pos := "digest.go:117", after := #[{ on := 1, ground := Ground.data }, { on := 0, ground := Ground.phase }, { on := 1, ground := Ground.phase }, { on := 2, ground := Ground.phase }, { on := 3, ground := Ground.phase }, { on := 4, ground := Ground.phase }, { on := 5, ground := Ground.phase }, { on := 6, ground := Ground.phase }, { on := 7, ground := Ground.phase }, { on := 8, ground := Ground.phase }, { on := 9, ground := Ground.phase }, { on := 10, ground := Ground.phase }, { on := 11, ground := Ground.phase }, { on := 12, ground := Ground.phase }], guard := none }) (v := ?_) rfl (by kernel_rfl) (by kernel_rfl) (by kernel_rfl) (fun _ _ _ h => h) (Or.inl ⟨by rfl, ?_⟩) (by assumption) ?_
                  rotate_left
                  · intro w_ hSw
                    (try dsimp only at hSw)
                    go_simp
                    first | done | with_reducible rfl
                  try simp only [Act.put, List.setIfInBounds_toArray, List.set_cons_zero, List.set_cons_succ]
                  refine wpAnyH_ready (rs := [14]) (by kernel_rfl) (by simp) ?_
                  refine AllReadyH.cons (o := { dst := none, op := Op.store 79 (Operand.tmp 92) (Operand.tmp 91), type := 0, pos := "digest.go:117", after := #[{ on := 13, ground := Ground.data }, { on := 12, ground := Ground.data }, { on := 7, ground := Ground.chain }, { on := 0, ground := Ground.phase }, { on := 1, ground := Ground.phase }, { on := 2, ground := Ground.phase }, { on := 3, ground := Ground.phase }, { on := 4, ground := Ground.phase }, { on := 5, ground := Ground.phase }, { on := 6, ground := Ground.phase }, { on := 7, ground := Ground.phase }, { on := 8, ground := Ground.phase }, { on := 9, ground := Ground.phase }, { on := 10, ground := Ground.phase }, { on := 11, ground := Ground.phase }, { on := 12, ground := Ground.phase }], guard := none }) rfl (fun K hK => ?_) AllReadyH.nil
                  go_simp
                  go_wp2_with fail
                  refine hK.out _ _ ?_ (fun hHeld => ?_)
                  · trivial
                  clear hK K
                  try simp only [Act.put, List.setIfInBounds_toArray, List.set_cons_zero, List.set_cons_succ]
                  refine wpAnyH_done (by kernel_rfl) ?_ _
                  go_wp2_with fail
                  go_meet
                  exact ⟨rfl, Lib.hid (HB14.out 0), Lib.hid ⟨HG14.out.os, HG14.out.tape, HG14.out.output, HG14.out.size, HG14.out.block⟩⟩
                · skip
                  go_simp
                  refine (rot_z _ _ (by decide) (by decide) _).mono ?_
                  rintro e w5 ⟨rfl, rfl⟩
                  go_wp2_with fail
                  refine hK.out _ _ ?_ (fun hHeld => ?_)
                  · trivial
                  clear hK K
                  try simp only [Act.put, List.setIfInBounds_toArray, List.set_cons_zero, List.set_cons_succ]
                  refine wpAnyH_ready (rs := [3, 7]) (by kernel_rfl) (by simp) ?_
                  refine AllReadyH.cons (o := { dst := some 82, op := Op.load 79 (Operand.tmp 81), type := 79, pos := "digest.go:117", after := #[{ on := 2, ground := Ground.data }], guard := none }) rfl (fun K hK => ?_) (AllReadyH.cons (o := { dst := some 86, op := Op.call { callee := Callee.value (Operand.func 98), args := #[Operand.tmp 85, Operand.const (Value.int IntKind.i64 (-18))], argTypes := #[79, 3] }, type := 79, pos := "digest.go:117", after := #[{ on := 6, ground := Ground.data }, { on := 5, ground := Ground.chain }], guard := none }) rfl (fun K hK => ?_) (AllReadyH.nil))
                  · skip
                    go_simp
                    skip
                    refine hK.out _ _ ?_ (fun hHeld => ?_)
                    · trivial
                    clear hK K
                    try simp only [Act.put, List.setIfInBounds_toArray, List.set_cons_zero, List.set_cons_succ]
                    refine wpAnyH_ready (rs := [7]) (by kernel_rfl) (by simp) ?_
                    refine AllReadyH.cons (o := { dst := some 86, op := Op.call { callee := Callee.value (Operand.func 98), args := #[Operand.tmp 85, Operand.const (Value.int IntKind.i64 (-18))], argTypes := #[79, 3] }, type := 79, pos := "digest.go:117", after := #[{ on := 6, ground := Ground.data }, { on := 5, ground := Ground.chain }], guard := none }) rfl (fun K hK => ?_) AllReadyH.nil
                    go_simp
                    refine (rot_z _ _ (by decide) (by decide) _).mono ?_
                    rintro e w5 ⟨rfl, rfl⟩
                    go_wp2_with fail
                    refine hK.out _ _ ?_ (fun hHeld => ?_)
                    · trivial
                    clear hK K
                    try simp only [Act.put, List.setIfInBounds_toArray, List.set_cons_zero, List.set_cons_succ]
                    refine wpAnyH_take (i := 8) (oi := { dst := some 87, op := Op.binOp BinOp.xor 79 (Operand.tmp 84) (Operand.tmp 86) 79, type := 79, pos := "digest.go:117", after := #[{ on := 5, ground := Ground.data }, { on := 7, ground := Ground.data }], guard := none }) (v := ?_) rfl (by kernel_rfl) (by kernel_rfl) (by kernel_rfl) (fun _ _ _ h => h) (Or.inl ⟨by rfl, ?_⟩) (by assumption) ?_
                    rotate_left
                    · intro w_ hSw
                      (try dsimp only at hSw)
                      go_simp
                      first | done | with_reducible rfl
                    try simp only [Act.put, List.setIfInBounds_toArray, List.set_cons_zero, List.set_cons_succ]
                    refine wpAnyH_take (i := 11) (oi := { dst := some 90, op := Op.binOp BinOp.xor 79 (Operand.tmp 87) (Operand.tmp 89) 79, type := 79, pos := "digest.go:117", after := #[{ on := 8, ground := Ground.data }, { on := 10, ground := Ground.data }], guard := none }) (v := ?_) rfl (by kernel_rfl) (by kernel_rfl) (by kernel_rfl) (fun _ _ _ h => h) (Or.inl ⟨by rfl, ?_⟩) (by assumption) ?_
                    rotate_left
                    · intro w_ hSw
                      (try dsimp only at hSw)
                      go_simp
                      first | done | with_reducible rfl
                    try simp only [Act.put, List.setIfInBounds_toArray, List.set_cons_zero, List.set_cons_succ]
                    refine wpAnyH_take (i := 12) (oi := { dst := some 91, op := Op.binOp BinOp.add 79 (Operand.tmp 82) (Operand.tmp 90) 79, type := 79, pos := "digest.go:117", after := #[{ on := 3, ground := Ground.data }, { on := 11, ground := Ground.data }], guard := none }) (v := ?_) rfl (by kernel_rfl) (by kernel_rfl) (by kernel_rfl) (fun _ _ _ h => h) (Or.inl ⟨by rfl, ?_⟩) (by assumption) ?_
                    rotate_left
                    · intro w_ hSw
                      (try dsimp only at hSw)
                      go_simp
                      first | done | with_reducible rfl
                    try simp only [Act.put, List.setIfInBounds_toArray, List.set_cons_zero, List.set_cons_succ]
                    refine wpAnyH_take (i := 13) (oi := { dst := some 92, op := Op.indexAddr 142 (Operand.tmp 5) (Operand.tmp 80), type := 0, pos := "digest.go:117", after := #[{ on := 1, ground := Ground.data }, { on := 0, ground := Ground.phase }, { on := 1, ground := Ground.phase }, { on := 2, ground := Ground.phase }, { on := 3, ground := Ground.phase }, { on := 4, ground := Ground.phase }, { on := 5, ground := Ground.phase }, { on := 6, ground := Ground.phase }, { on := 7, ground := Ground.phase }, { on := 8, ground := Ground.phase }, { on := 9, ground := Ground.phase }, { on := 10, ground := Ground.phase }, { on := 11, ground := Ground.phase }, { on := 12, ground := Ground.phase }], guard := none }) (v := ?_) rfl (by kernel_rfl) (by kernel_rfl) (by kernel_rfl) (fun _ _ _ h => h) (Or.inl ⟨by rfl, ?_⟩) (by assumption) ?_
                    rotate_left
                    · intro w_ hSw
                      (try dsimp only at hSw)
                      go_simp
                      first | done | with_reducible rfl
                    try simp only [Act.put, List.setIfInBounds_toArray, List.set_cons_zero, List.set_cons_succ]
                    refine wpAnyH_ready (rs := [14]) (by kernel_rfl) (by simp) ?_
                    refine AllReadyH.cons (o := { dst := none, op := Op.store 79 (Operand.tmp 92) (Operand.tmp 91), type := 0, pos := "digest.go:117", after := #[{ on := 13, ground := Ground.data }, { on := 12, ground := Ground.data }, { on := 7, ground := Ground.chain }, { on := 0, ground := Ground.phase }, { on := 1, ground := Ground.phase }, { on := 2, ground := Ground.phase }, { on := 3, ground := Ground.phase }, { on := 4, ground := Ground.phase }, { on := 5, ground := Ground.phase }, { on := 6, ground := Ground.phase }, { on := 7, ground := Ground.phase }, { on := 8, ground := Ground.phase }, { on := 9, ground := Ground.phase }, { on := 10, ground := Ground.phase }, { on := 11, ground := Ground.phase }, { on := 12, ground := Ground.phase }], guard := none }) rfl (fun K hK => ?_) AllReadyH.nil
                    go_simp
                    go_wp2_with fail
                    refine hK.out _ _ ?_ (fun hHeld => ?_)
                    · trivial
                    clear hK K
                    try simp only [Act.put, List.setIfInBounds_toArray, List.set_cons_zero, List.set_cons_succ]
                    refine wpAnyH_done (by kernel_rfl) ?_ _
                    go_wp2_with fail
                    go_meet
                    exact ⟨rfl, Lib.hid (HB14.out 0), Lib.hid ⟨HG14.out.os, HG14.out.tape, HG14.out.output, HG14.out.size, HG14.out.block⟩⟩
                  · skip
                    go_simp
                    refine (rot_z _ _ (by decide) (by decide) _).mono ?_
                    rintro e w5 ⟨rfl, rfl⟩
                    go_wp2_with fail
                    refine hK.out _ _ ?_ (fun hHeld => ?_)
                    · trivial
                    clear hK K
                    try simp only [Act.put, List.setIfInBounds_toArray, List.set_cons_zero, List.set_cons_succ]
                    refine wpAnyH_take (i := 8) (oi := { dst := some 87, op := Op.binOp BinOp.xor 79 (Operand.tmp 84) (Operand.tmp 86) 79, type := 79, pos := "digest.go:117", after := #[{ on := 5, ground := Ground.data }, { on := 7, ground := Ground.data }], guard := none }) (v := ?_) rfl (by kernel_rfl) (by kernel_rfl) (by kernel_rfl) (fun _ _ _ h => h) (Or.inl ⟨by rfl, ?_⟩) (by assumption) ?_
                    rotate_left
                    · intro w_ hSw
                      (try dsimp only at hSw)
                      go_simp
                      first | done | with_reducible rfl
                    try simp only [Act.put, List.setIfInBounds_toArray, List.set_cons_zero, List.set_cons_succ]
                    refine wpAnyH_take (i := 11) (oi := { dst := some 90, op := Op.binOp BinOp.xor 79 (Operand.tmp 87) (Operand.tmp 89) 79, type := 79, pos := "digest.go:117", after := #[{ on := 8, ground := Ground.data }, { on := 10, ground := Ground.data }], guard := none }) (v := ?_) rfl (by kernel_rfl) (by kernel_rfl) (by kernel_rfl) (fun _ _ _ h => h) (Or.inl ⟨by rfl, ?_⟩) (by assumption) ?_
                    rotate_left
                    · intro w_ hSw
                      (try dsimp only at hSw)
                      go_simp
                      first | done | with_reducible rfl
                    try simp only [Act.put, List.setIfInBounds_toArray, List.set_cons_zero, List.set_cons_succ]
                    refine wpAnyH_ready (rs := [3]) (by kernel_rfl) (by simp) ?_
                    refine AllReadyH.cons (o := { dst := some 82, op := Op.load 79 (Operand.tmp 81), type := 79, pos := "digest.go:117", after := #[{ on := 2, ground := Ground.data }], guard := none }) rfl (fun K hK => ?_) AllReadyH.nil
                    go_simp
                    skip
                    refine hK.out _ _ ?_ (fun hHeld => ?_)
                    · trivial
                    clear hK K
                    try simp only [Act.put, List.setIfInBounds_toArray, List.set_cons_zero, List.set_cons_succ]
                    refine wpAnyH_take (i := 12) (oi := { dst := some 91, op := Op.binOp BinOp.add 79 (Operand.tmp 82) (Operand.tmp 90) 79, type := 79, pos := "digest.go:117", after := #[{ on := 3, ground := Ground.data }, { on := 11, ground := Ground.data }], guard := none }) (v := ?_) rfl (by kernel_rfl) (by kernel_rfl) (by kernel_rfl) (fun _ _ _ h => h) (Or.inl ⟨by rfl, ?_⟩) (by assumption) ?_
                    rotate_left
                    · intro w_ hSw
                      (try dsimp only at hSw)
                      go_simp
                      first | done | with_reducible rfl
                    try simp only [Act.put, List.setIfInBounds_toArray, List.set_cons_zero, List.set_cons_succ]
                    refine wpAnyH_take (i := 13) (oi := { dst := some 92, op := Op.indexAddr 142 (Operand.tmp 5) (Operand.tmp 80), type := 0, pos := "digest.go:117", after := #[{ on := 1, ground := Ground.data }, { on := 0, ground := Ground.phase }, { on := 1, ground := Ground.phase }, { on := 2, ground := Ground.phase }, { on := 3, ground := Ground.phase }, { on := 4, ground := Ground.phase }, { on := 5, ground := Ground.phase }, { on := 6, ground := Ground.phase }, { on := 7, ground := Ground.phase }, { on := 8, ground := Ground.phase }, { on := 9, ground := Ground.phase }, { on := 10, ground := Ground.phase }, { on := 11, ground := Ground.phase }, { on := 12, ground := Ground.phase }], guard := none }) (v := ?_) rfl (by kernel_rfl) (by kernel_rfl) (by kernel_rfl) (fun _ _ _ h => h) (Or.inl ⟨by rfl, ?_⟩) (by assumption) ?_
                    rotate_left
                    · intro w_ hSw
                      (try dsimp only at hSw)
                      go_simp
                      first | done | with_reducible rfl
                    try simp only [Act.put, List.setIfInBounds_toArray, List.set_cons_zero, List.set_cons_succ]
                    refine wpAnyH_ready (rs := [14]) (by kernel_rfl) (by simp) ?_
                    refine AllReadyH.cons (o := { dst := none, op := Op.store 79 (Operand.tmp 92) (Operand.tmp 91), type := 0, pos := "digest.go:117", after := #[{ on := 13, ground := Ground.data }, { on := 12, ground := Ground.data }, { on := 7, ground := Ground.chain }, { on := 0, ground := Ground.phase }, { on := 1, ground := Ground.phase }, { on := 2, ground := Ground.phase }, { on := 3, ground := Ground.phase }, { on := 4, ground := Ground.phase }, { on := 5, ground := Ground.phase }, { on := 6, ground := Ground.phase }, { on := 7, ground := Ground.phase }, { on := 8, ground := Ground.phase }, { on := 9, ground := Ground.phase }, { on := 10, ground := Ground.phase }, { on := 11, ground := Ground.phase }, { on := 12, ground := Ground.phase }], guard := none }) rfl (fun K hK => ?_) AllReadyH.nil
                    go_simp
                    go_wp2_with fail
                    refine hK.out _ _ ?_ (fun hHeld => ?_)
                    · trivial
                    clear hK K
                    try simp only [Act.put, List.setIfInBounds_toArray, List.set_cons_zero, List.set_cons_succ]
                    refine wpAnyH_done (by kernel_rfl) ?_ _
                    go_wp2_with fail
                    go_meet
                    exact ⟨rfl, Lib.hid (HB14.out 0), Lib.hid ⟨HG14.out.os, HG14.out.tape, HG14.out.output, HG14.out.size, HG14.out.block⟩⟩
              case rest =>
                obtain ⟨rfl, HV4, HG4⟩ := hcut
                have d0 : wc.cell? ⟨Wb.heap.size, q0, none⟩ = some (.int .u32 (wv (q q0 + sigA (q q1)))) := by
                  rw [HV4.out.cell q0, arrW_get _ _ HX.out.1.1, if_pos rfl]
                have d9 : wc.cell? ⟨Wb.heap.size, q9, none⟩ = some (.int .u32 (wv (q q9))) := by
                  rw [HV4.out.cell q9, arrW_get _ _ HX.out.1.2.2.1, if_neg HX.out.2.2]
                have g0 : wc.frozen? ⟨Wb.heap.size, q0, none⟩ = false := HV4.out.frozen q0
                have HB15 := Lib.hid (show ∀ n, Blk ((wc.drewN n).setCell ⟨Wb.heap.size, q0, none⟩ (.int .u32 (wv (q q0 + sigA (q q1) + (q q9 + (rr (q q14) 17 ^^^ rr (q q14) 19 ^^^ q q14 >>> 10)))))) Wb.heap.size 142 (arrW 16 (fun j => if j = q0 then sched m i else q j)) from fun n => by
                  have := (HV4.out.drewN n).set_ q0 (.int .u32 (wv (q q0 + sigA (q q1) + (q q9 + (rr (q q14) 17 ^^^ rr (q q14) 19 ^^^ q q14 >>> 10)))))
                  rw [arrW_set, ring_sum HW.out h16] at this
                  rw [ring_sum HW.out h16]
                  rw [arrW_congr 16 (fun j => if j = q0 then sched m i else q j) (fun j => if j = q0 then sched m i else if j = q0 then q q0 + sigA (q q1) else q j) (fun j _ => by by_cases h : j = q0 <;> simp [h])]
                  exact this)
                have HG15 := Lib.hid (grown_set' wc Wb.heap.size q0 (.int .u32 (wv (q q0 + sigA (q q1) + (q q9 + (rr (q q14) 17 ^^^ rr (q q14) 19 ^^^ q q14 >>> 10))))))
                have HK15 := Lib.hid (show ∀ v, (wc.setCell ⟨Wb.heap.size, q0, none⟩ v).cell? ⟨Wb.heap.size, q9, none⟩ = some (.int .u32 (wv (q q9))) from fun v =>
                  (World.cell?_setCell_other _ _ _ _ (fun e => HX.out.2.2 (congrArg Addr.off e).symm)).trans d9)
                clear c0 c1 c9 c14 f0
                go_wp2
                refine wp_region_held_drew (S := fun w' => w'.cell? ⟨Wb.heap.size, q9, none⟩ = some (.int .u32 (wv (q q9)))) (by kernel_rfl) ?_ (fun hHeld => ?_)
                · exact d9
                refine wpAnyH_take (i := 0) (oi := { dst := some 93, op := Op.move (Operand.tmp 9), type := 3, pos := "digest.go:118", after := #[], guard := none }) (v := ?_) rfl (by kernel_rfl) (by kernel_rfl) (by kernel_rfl) (fun _ _ _ h => h) (Or.inl ⟨by rfl, ?_⟩) (by assumption) ?_
                rotate_left
                · intro w_ hSw
                  (try dsimp only at hSw)
                  go_simp
                  first | done | with_reducible rfl
                try simp only [Act.put, List.setIfInBounds_toArray, List.set_cons_zero, List.set_cons_succ]
                refine wpAnyH_take (i := 1) (oi := { dst := some 94, op := Op.binOp BinOp.rem 3 (Operand.tmp 93) (Operand.const (Value.int IntKind.i64 16)) 3, type := 3, pos := "digest.go:118", after := #[{ on := 0, ground := Ground.data }], guard := none }) (v := ?_) rfl (by kernel_rfl) (by kernel_rfl) (by kernel_rfl) (fun _ _ _ h => h) (Or.inl ⟨by rfl, ?_⟩) (by assumption) ?_
                rotate_left
                · intro w_ hSw
                  (try dsimp only at hSw)
                  go_simp
                  first | done | with_reducible rfl
                try simp only [Act.put, List.setIfInBounds_toArray, List.set_cons_zero, List.set_cons_succ]
                refine wpAnyH_take (i := 2) (oi := { dst := some 95, op := Op.indexAddr 142 (Operand.tmp 5) (Operand.tmp 94), type := 0, pos := "digest.go:118", after := #[{ on := 1, ground := Ground.data }], guard := none }) (v := ?_) rfl (by kernel_rfl) (by kernel_rfl) (by kernel_rfl) (fun _ _ _ h => h) (Or.inl ⟨by rfl, ?_⟩) (by assumption) ?_
                rotate_left
                · intro w_ hSw
                  (try dsimp only at hSw)
                  go_simp
                  first | done | with_reducible rfl
                try simp only [Act.put, List.setIfInBounds_toArray, List.set_cons_zero, List.set_cons_succ]
                refine wpAnyH_take (i := 4) (oi := { dst := some 97, op := Op.move (Operand.tmp 9), type := 3, pos := "digest.go:118", after := #[], guard := none }) (v := ?_) rfl (by kernel_rfl) (by kernel_rfl) (by kernel_rfl) (fun _ _ _ h => h) (Or.inl ⟨by rfl, ?_⟩) (by assumption) ?_
                rotate_left
                · intro w_ hSw
                  (try dsimp only at hSw)
                  go_simp
                  first | done | with_reducible rfl
                try simp only [Act.put, List.setIfInBounds_toArray, List.set_cons_zero, List.set_cons_succ]
                refine wpAnyH_take (i := 5) (oi := { dst := some 98, op := Op.binOp BinOp.add 3 (Operand.tmp 97) (Operand.const (Value.int IntKind.i64 9)) 3, type := 3, pos := "digest.go:118", after := #[{ on := 4, ground := Ground.data }], guard := none }) (v := ?_) rfl (by kernel_rfl) (by kernel_rfl) (by kernel_rfl) (fun _ _ _ h => h) (Or.inl ⟨by rfl, ?_⟩) (by assumption) ?_
                rotate_left
                · intro w_ hSw
                  (try dsimp only at hSw)
                  go_simp
                  first | done | with_reducible rfl
                try simp only [Act.put, List.setIfInBounds_toArray, List.set_cons_zero, List.set_cons_succ]
                refine wpAnyH_take (i := 6) (oi := { dst := some 99, op := Op.binOp BinOp.rem 3 (Operand.tmp 98) (Operand.const (Value.int IntKind.i64 16)) 3, type := 3, pos := "digest.go:118", after := #[{ on := 5, ground := Ground.data }], guard := none }) (v := ?_) rfl (by kernel_rfl) (by kernel_rfl) (by kernel_rfl) (fun _ _ _ h => h) (Or.inl ⟨by rfl, ?_⟩) (by assumption) ?_
                rotate_left
                · intro w_ hSw
                  (try dsimp only at hSw)
                  go_simp
                  first | done | with_reducible rfl
                try simp only [Act.put, List.setIfInBounds_toArray, List.set_cons_zero, List.set_cons_succ]
                refine wpAnyH_take (i := 7) (oi := { dst := some 100, op := Op.indexAddr 142 (Operand.tmp 5) (Operand.tmp 99), type := 0, pos := "digest.go:118", after := #[{ on := 6, ground := Ground.data }], guard := none }) (v := ?_) rfl (by kernel_rfl) (by kernel_rfl) (by kernel_rfl) (fun _ _ _ h => h) (Or.inl ⟨by rfl, ?_⟩) (by assumption) ?_
                rotate_left
                · intro w_ hSw
                  (try dsimp only at hSw)
                  go_simp
                  first | done | with_reducible rfl
                try simp only [Act.put, List.setIfInBounds_toArray, List.set_cons_zero, List.set_cons_succ]
                refine wpAnyH_take (i := 8) (oi := { dst := some 101, op := Op.load 79 (Operand.tmp 100), type := 79, pos := "digest.go:118", after := #[{ on := 7, ground := Ground.data }], guard := none }) (v := ?_) rfl (by kernel_rfl) (by kernel_rfl) (by kernel_rfl) (fun _ _ _ h => h) (Or.inl ⟨by rfl, ?_⟩) (by assumption) ?_
                rotate_left
                · intro w_ hSw
                  (try dsimp only at hSw)
                  go_simp
                  first | done | with_reducible rfl
                try simp only [Act.put, List.setIfInBounds_toArray, List.set_cons_zero, List.set_cons_succ]
                refine wpAnyH_take (i := 9) (oi := { dst := some 102, op := Op.move (Operand.tmp 12), type := 79, pos := "digest.go:118", after := #[], guard := none }) (v := ?_) rfl (by kernel_rfl) (by kernel_rfl) (by kernel_rfl) (fun _ _ _ h => h) (Or.inl ⟨by rfl, ?_⟩) (by assumption) ?_
                rotate_left
                · intro w_ hSw
                  (try dsimp only at hSw)
                  go_simp
                  first | done | with_reducible rfl
                try simp only [Act.put, List.setIfInBounds_toArray, List.set_cons_zero, List.set_cons_succ]
                refine wpAnyH_take (i := 11) (oi := { dst := some 104, op := Op.move (Operand.tmp 12), type := 79, pos := "digest.go:118", after := #[], guard := none }) (v := ?_) rfl (by kernel_rfl) (by kernel_rfl) (by kernel_rfl) (fun _ _ _ h => h) (Or.inl ⟨by rfl, ?_⟩) (by assumption) ?_
                rotate_left
                · intro w_ hSw
                  (try dsimp only at hSw)
                  go_simp
                  first | done | with_reducible rfl
                try simp only [Act.put, List.setIfInBounds_toArray, List.set_cons_zero, List.set_cons_succ]
                refine wpAnyH_take (i := 14) (oi := { dst := some 107, op := Op.move (Operand.tmp 12), type := 79, pos := "digest.go:118", after := #[], guard := none }) (v := ?_) rfl (by kernel_rfl) (by kernel_rfl) (by kernel_rfl) (fun _ _ _ h => h) (Or.inl ⟨by rfl, ?_⟩) (by assumption) ?_
                rotate_left
                · intro w_ hSw
                  (try dsimp only at hSw)
                  go_simp
                  first | done | with_reducible rfl
                try simp only [Act.put, List.setIfInBounds_toArray, List.set_cons_zero, List.set_cons_succ]
                refine wpAnyH_take (i := 15) (oi := { dst := some 108, op := Op.binOp BinOp.shr 79 (Operand.tmp 107) (Operand.const (Value.int IntKind.u64 10)) 71, type := 79, pos := "digest.go:118", after := #[{ on := 14, ground := Ground.data }], guard := none }) (v := ?_) rfl (by kernel_rfl) (by kernel_rfl) (by kernel_rfl) (fun _ _ _ h => h) (Or.inl ⟨by rfl, ?_⟩) (by assumption) ?_
                rotate_left
                · intro w_ hSw
                  (try dsimp only at hSw)
                  go_simp
                  first | done | with_reducible rfl
                try simp only [Act.put, List.setIfInBounds_toArray, List.set_cons_zero, List.set_cons_succ]
                refine wpAnyH_ready (rs := [3, 10]) (by kernel_rfl) (by simp) ?_
                refine AllReadyH.cons (o := { dst := some 96, op := Op.load 79 (Operand.tmp 95), type := 79, pos := "digest.go:118", after := #[{ on := 2, ground := Ground.data }], guard := none }) rfl (fun K hK => ?_) (AllReadyH.cons (o := { dst := some 103, op := Op.call { callee := Callee.value (Operand.func 98), args := #[Operand.tmp 102, Operand.const (Value.int IntKind.i64 (-17))], argTypes := #[79, 3] }, type := 79, pos := "digest.go:118", after := #[{ on := 9, ground := Ground.data }], guard := none }) rfl (fun K hK => ?_) (AllReadyH.nil))
                · skip
                  go_simp
                  skip
                  refine hK.out _ _ ?_ (fun hHeld => ?_)
                  · first | exact d9 | exact HK15.out _
                  clear hK K
                  try simp only [Act.put, List.setIfInBounds_toArray, List.set_cons_zero, List.set_cons_succ]
                  refine wpAnyH_ready (rs := [10]) (by kernel_rfl) (by simp) ?_
                  refine AllReadyH.cons (o := { dst := some 103, op := Op.call { callee := Callee.value (Operand.func 98), args := #[Operand.tmp 102, Operand.const (Value.int IntKind.i64 (-17))], argTypes := #[79, 3] }, type := 79, pos := "digest.go:118", after := #[{ on := 9, ground := Ground.data }], guard := none }) rfl (fun K hK => ?_) AllReadyH.nil
                  go_simp
                  refine (rot_z _ _ (by decide) (by decide) _).mono ?_
                  rintro e w5 ⟨rfl, rfl⟩
                  go_wp2_with fail
                  refine hK.out _ _ ?_ (fun hHeld => ?_)
                  · first | exact d9 | exact HK15.out _
                  clear hK K
                  try simp only [Act.put, List.setIfInBounds_toArray, List.set_cons_zero, List.set_cons_succ]
                  refine wpAnyH_ready (rs := [12]) (by kernel_rfl) (by simp) ?_
                  refine AllReadyH.cons (o := { dst := some 105, op := Op.call { callee := Callee.value (Operand.func 98), args := #[Operand.tmp 104, Operand.const (Value.int IntKind.i64 (-19))], argTypes := #[79, 3] }, type := 79, pos := "digest.go:118", after := #[{ on := 11, ground := Ground.data }, { on := 10, ground := Ground.chain }], guard := none }) rfl (fun K hK => ?_) AllReadyH.nil
                  go_simp
                  refine (rot_z _ _ (by decide) (by decide) _).mono ?_
                  rintro e w5 ⟨rfl, rfl⟩
                  go_wp2_with fail
                  refine hK.out _ _ ?_ (fun hHeld => ?_)
                  · first | exact d9 | exact HK15.out _
                  clear hK K
                  try simp only [Act.put, List.setIfInBounds_toArray, List.set_cons_zero, List.set_cons_succ]
                  refine wpAnyH_take (i := 13) (oi := { dst := some 106, op := Op.binOp BinOp.xor 79 (Operand.tmp 103) (Operand.tmp 105) 79, type := 79, pos := "digest.go:118", after := #[{ on := 10, ground := Ground.data }, { on := 12, ground := Ground.data }], guard := none }) (v := ?_) rfl (by kernel_rfl) (by kernel_rfl) (by kernel_rfl) (fun _ _ _ h => h) (Or.inl ⟨by rfl, ?_⟩) (by assumption) ?_
                  rotate_left
                  · intro w_ hSw
                    (try dsimp only at hSw)
                    go_simp
                    first | done | with_reducible rfl
                  try simp only [Act.put, List.setIfInBounds_toArray, List.set_cons_zero, List.set_cons_succ]
                  refine wpAnyH_take (i := 16) (oi := { dst := some 109, op := Op.binOp BinOp.xor 79 (Operand.tmp 106) (Operand.tmp 108) 79, type := 79, pos := "digest.go:118", after := #[{ on := 13, ground := Ground.data }, { on := 15, ground := Ground.data }], guard := none }) (v := ?_) rfl (by kernel_rfl) (by kernel_rfl) (by kernel_rfl) (fun _ _ _ h => h) (Or.inl ⟨by rfl, ?_⟩) (by assumption) ?_
                  rotate_left
                  · intro w_ hSw
                    (try dsimp only at hSw)
                    go_simp
                    first | done | with_reducible rfl
                  try simp only [Act.put, List.setIfInBounds_toArray, List.set_cons_zero, List.set_cons_succ]
                  refine wpAnyH_take (i := 17) (oi := { dst := some 110, op := Op.binOp BinOp.add 79 (Operand.tmp 101) (Operand.tmp 109) 79, type := 79, pos := "digest.go:118", after := #[{ on := 8, ground := Ground.data }, { on := 16, ground := Ground.data }], guard := none }) (v := ?_) rfl (by kernel_rfl) (by kernel_rfl) (by kernel_rfl) (fun _ _ _ h => h) (Or.inl ⟨by rfl, ?_⟩) (by assumption) ?_
                  rotate_left
                  · intro w_ hSw
                    (try dsimp only at hSw)
                    go_simp
                    first | done | with_reducible rfl
                  try simp only [Act.put, List.setIfInBounds_toArray, List.set_cons_zero, List.set_cons_succ]
                  refine wpAnyH_take (i := 18) (oi := { dst := some 111, op := Op.binOp BinOp.add 79 (Operand.tmp 96) (Operand.tmp 110) 79, type := 79, pos := "digest.go:118", after := #[{ on := 3, ground := Ground.data }, { on := 17, ground := Ground.data }], guard := none }) (v := ?_) rfl (by kernel_rfl) (by kernel_rfl) (by kernel_rfl) (fun _ _ _ h => h) (Or.inl ⟨by rfl, ?_⟩) (by assumption) ?_
                  rotate_left
                  · intro w_ hSw
                    (try dsimp only at hSw)
                    go_simp
                    first | done | with_reducible rfl
                  try simp only [Act.put, List.setIfInBounds_toArray, List.set_cons_zero, List.set_cons_succ]
                  refine wpAnyH_take (i := 19) (oi := { dst := some 112, op := Op.indexAddr 142 (Operand.tmp 5) (Operand.tmp 94), type := 0, pos := "digest.go:118", after := #[{ on := 1, ground := Ground.data }, { on := 0, ground := Ground.phase }, { on := 1, ground := Ground.phase }, { on := 2, ground := Ground.phase }, { on := 3, ground := Ground.phase }, { on := 4, ground := Ground.phase }, { on := 5, ground := Ground.phase }, { on := 6, ground := Ground.phase }, { on := 7, ground := Ground.phase }, { on := 8, ground := Ground.phase }, { on := 9, ground := Ground.phase }, { on := 10, ground := Ground.phase }, { on := 11, ground := Ground.phase }, { on := 12, ground := Ground.phase }, { on := 13, ground := Ground.phase }, { on := 14, ground := Ground.phase }, { on := 15, ground := Ground.phase }, { on := 16, ground := Ground.phase }, { on := 17, ground := Ground.phase }, { on := 18, ground := Ground.phase }], guard := none }) (v := ?_) rfl (by kernel_rfl) (by kernel_rfl) (by kernel_rfl) (fun _ _ _ h => h) (Or.inl ⟨by rfl, ?_⟩) (by assumption) ?_
                  rotate_left
                  · intro w_ hSw
                    (try dsimp only at hSw)
                    go_simp
                    first | done | with_reducible rfl
                  try simp only [Act.put, List.setIfInBounds_toArray, List.set_cons_zero, List.set_cons_succ]
                  refine wpAnyH_ready (rs := [20]) (by kernel_rfl) (by simp) ?_
                  refine AllReadyH.cons (o := { dst := none, op := Op.store 79 (Operand.tmp 112) (Operand.tmp 111), type := 0, pos := "digest.go:118", after := #[{ on := 19, ground := Ground.data }, { on := 18, ground := Ground.data }, { on := 12, ground := Ground.chain }, { on := 0, ground := Ground.phase }, { on := 1, ground := Ground.phase }, { on := 2, ground := Ground.phase }, { on := 3, ground := Ground.phase }, { on := 4, ground := Ground.phase }, { on := 5, ground := Ground.phase }, { on := 6, ground := Ground.phase }, { on := 7, ground := Ground.phase }, { on := 8, ground := Ground.phase }, { on := 9, ground := Ground.phase }, { on := 10, ground := Ground.phase }, { on := 11, ground := Ground.phase }, { on := 12, ground := Ground.phase }, { on := 13, ground := Ground.phase }, { on := 14, ground := Ground.phase }, { on := 15, ground := Ground.phase }, { on := 16, ground := Ground.phase }, { on := 17, ground := Ground.phase }, { on := 18, ground := Ground.phase }], guard := none }) rfl (fun K hK => ?_) AllReadyH.nil
                  go_simp
                  go_wp2_with fail
                  refine hK.out _ _ ?_ (fun hHeld => ?_)
                  · first | exact d9 | exact HK15.out _
                  clear hK K
                  try simp only [Act.put, List.setIfInBounds_toArray, List.set_cons_zero, List.set_cons_succ]
                  refine wpAnyH_done (by kernel_rfl) ?_ _
                  go_wp2_with fail
                  go_meet
                  exact ⟨rfl, rfl, rfl, _, Lib.hid (HB15.out 0), Lib.hid (ring_next' HRG.out HX.out h16), Lib.hid (grown_step HG4.out ⟨HG15.out.os, HG15.out.tape, HG15.out.output, HG15.out.size, HG15.out.block⟩ (.inl rfl))⟩
                · skip
                  go_simp
                  refine (rot_z _ _ (by decide) (by decide) _).mono ?_
                  rintro e w5 ⟨rfl, rfl⟩
                  go_wp2_with fail
                  refine hK.out _ _ ?_ (fun hHeld => ?_)
                  · first | exact d9 | exact HK15.out _
                  clear hK K
                  try simp only [Act.put, List.setIfInBounds_toArray, List.set_cons_zero, List.set_cons_succ]
                  refine wpAnyH_ready (rs := [3, 12]) (by kernel_rfl) (by simp) ?_
                  refine AllReadyH.cons (o := { dst := some 96, op := Op.load 79 (Operand.tmp 95), type := 79, pos := "digest.go:118", after := #[{ on := 2, ground := Ground.data }], guard := none }) rfl (fun K hK => ?_) (AllReadyH.cons (o := { dst := some 105, op := Op.call { callee := Callee.value (Operand.func 98), args := #[Operand.tmp 104, Operand.const (Value.int IntKind.i64 (-19))], argTypes := #[79, 3] }, type := 79, pos := "digest.go:118", after := #[{ on := 11, ground := Ground.data }, { on := 10, ground := Ground.chain }], guard := none }) rfl (fun K hK => ?_) (AllReadyH.nil))
                  · skip
                    go_simp
                    skip
                    refine hK.out _ _ ?_ (fun hHeld => ?_)
                    · first | exact d9 | exact HK15.out _
                    clear hK K
                    try simp only [Act.put, List.setIfInBounds_toArray, List.set_cons_zero, List.set_cons_succ]
                    refine wpAnyH_ready (rs := [12]) (by kernel_rfl) (by simp) ?_
                    refine AllReadyH.cons (o := { dst := some 105, op := Op.call { callee := Callee.value (Operand.func 98), args := #[Operand.tmp 104, Operand.const (Value.int IntKind.i64 (-19))], argTypes := #[79, 3] }, type := 79, pos := "digest.go:118", after := #[{ on := 11, ground := Ground.data }, { on := 10, ground := Ground.chain }], guard := none }) rfl (fun K hK => ?_) AllReadyH.nil
                    go_simp
                    refine (rot_z _ _ (by decide) (by decide) _).mono ?_
                    rintro e w5 ⟨rfl, rfl⟩
                    go_wp2_with fail
                    refine hK.out _ _ ?_ (fun hHeld => ?_)
                    · first | exact d9 | exact HK15.out _
                    clear hK K
                    try simp only [Act.put, List.setIfInBounds_toArray, List.set_cons_zero, List.set_cons_succ]
                    refine wpAnyH_take (i := 13) (oi := { dst := some 106, op := Op.binOp BinOp.xor 79 (Operand.tmp 103) (Operand.tmp 105) 79, type := 79, pos := "digest.go:118", after := #[{ on := 10, ground := Ground.data }, { on := 12, ground := Ground.data }], guard := none }) (v := ?_) rfl (by kernel_rfl) (by kernel_rfl) (by kernel_rfl) (fun _ _ _ h => h) (Or.inl ⟨by rfl, ?_⟩) (by assumption) ?_
                    rotate_left
                    · intro w_ hSw
                      (try dsimp only at hSw)
                      go_simp
                      first | done | with_reducible rfl
                    try simp only [Act.put, List.setIfInBounds_toArray, List.set_cons_zero, List.set_cons_succ]
                    refine wpAnyH_take (i := 16) (oi := { dst := some 109, op := Op.binOp BinOp.xor 79 (Operand.tmp 106) (Operand.tmp 108) 79, type := 79, pos := "digest.go:118", after := #[{ on := 13, ground := Ground.data }, { on := 15, ground := Ground.data }], guard := none }) (v := ?_) rfl (by kernel_rfl) (by kernel_rfl) (by kernel_rfl) (fun _ _ _ h => h) (Or.inl ⟨by rfl, ?_⟩) (by assumption) ?_
                    rotate_left
                    · intro w_ hSw
                      (try dsimp only at hSw)
                      go_simp
                      first | done | with_reducible rfl
                    try simp only [Act.put, List.setIfInBounds_toArray, List.set_cons_zero, List.set_cons_succ]
                    refine wpAnyH_take (i := 17) (oi := { dst := some 110, op := Op.binOp BinOp.add 79 (Operand.tmp 101) (Operand.tmp 109) 79, type := 79, pos := "digest.go:118", after := #[{ on := 8, ground := Ground.data }, { on := 16, ground := Ground.data }], guard := none }) (v := ?_) rfl (by kernel_rfl) (by kernel_rfl) (by kernel_rfl) (fun _ _ _ h => h) (Or.inl ⟨by rfl, ?_⟩) (by assumption) ?_
                    rotate_left
                    · intro w_ hSw
                      (try dsimp only at hSw)
                      go_simp
                      first | done | with_reducible rfl
                    try simp only [Act.put, List.setIfInBounds_toArray, List.set_cons_zero, List.set_cons_succ]
                    refine wpAnyH_take (i := 18) (oi := { dst := some 111, op := Op.binOp BinOp.add 79 (Operand.tmp 96) (Operand.tmp 110) 79, type := 79, pos := "digest.go:118", after := #[{ on := 3, ground := Ground.data }, { on := 17, ground := Ground.data }], guard := none }) (v := ?_) rfl (by kernel_rfl) (by kernel_rfl) (by kernel_rfl) (fun _ _ _ h => h) (Or.inl ⟨by rfl, ?_⟩) (by assumption) ?_
                    rotate_left
                    · intro w_ hSw
                      (try dsimp only at hSw)
                      go_simp
                      first | done | with_reducible rfl
                    try simp only [Act.put, List.setIfInBounds_toArray, List.set_cons_zero, List.set_cons_succ]
                    refine wpAnyH_take (i := 19) (oi := { dst := some 112, op := Op.indexAddr 142 (Operand.tmp 5) (Operand.tmp 94), type := 0, pos := "digest.go:118", after := #[{ on := 1, ground := Ground.data }, { on := 0, ground := Ground.phase }, { on := 1, ground := Ground.phase }, { on := 2, ground := Ground.phase }, { on := 3, ground := Ground.phase }, { on := 4, ground := Ground.phase }, { on := 5, ground := Ground.phase }, { on := 6, ground := Ground.phase }, { on := 7, ground := Ground.phase }, { on := 8, ground := Ground.phase }, { on := 9, ground := Ground.phase }, { on := 10, ground := Ground.phase }, { on := 11, ground := Ground.phase }, { on := 12, ground := Ground.phase }, { on := 13, ground := Ground.phase }, { on := 14, ground := Ground.phase }, { on := 15, ground := Ground.phase }, { on := 16, ground := Ground.phase }, { on := 17, ground := Ground.phase }, { on := 18, ground := Ground.phase }], guard := none }) (v := ?_) rfl (by kernel_rfl) (by kernel_rfl) (by kernel_rfl) (fun _ _ _ h => h) (Or.inl ⟨by rfl, ?_⟩) (by assumption) ?_
                    rotate_left
                    · intro w_ hSw
                      (try dsimp only at hSw)
                      go_simp
                      first | done | with_reducible rfl
                    try simp only [Act.put, List.setIfInBounds_toArray, List.set_cons_zero, List.set_cons_succ]
                    refine wpAnyH_ready (rs := [20]) (by kernel_rfl) (by simp) ?_
                    refine AllReadyH.cons (o := { dst := none, op := Op.store 79 (Operand.tmp 112) (Operand.tmp 111), type := 0, pos := "digest.go:118", after := #[{ on := 19, ground := Ground.data }, { on := 18, ground := Ground.data }, { on := 12, ground := Ground.chain }, { on := 0, ground := Ground.phase }, { on := 1, ground := Ground.phase }, { on := 2, ground := Ground.phase }, { on := 3, ground := Ground.phase }, { on := 4, ground := Ground.phase }, { on := 5, ground := Ground.phase }, { on := 6, ground := Ground.phase }, { on := 7, ground := Ground.phase }, { on := 8, ground := Ground.phase }, { on := 9, ground := Ground.phase }, { on := 10, ground := Ground.phase }, { on := 11, ground := Ground.phase }, { on := 12, ground := Ground.phase }, { on := 13, ground := Ground.phase }, { on := 14, ground := Ground.phase }, { on := 15, ground := Ground.phase }, { on := 16, ground := Ground.phase }, { on := 17, ground := Ground.phase }, { on := 18, ground := Ground.phase }], guard := none }) rfl (fun K hK => ?_) AllReadyH.nil
                    go_simp
                    go_wp2_with fail
                    refine hK.out _ _ ?_ (fun hHeld => ?_)
                    · first | exact d9 | exact HK15.out _
                    clear hK K
                    try simp only [Act.put, List.setIfInBounds_toArray, List.set_cons_zero, List.set_cons_succ]
                    refine wpAnyH_done (by kernel_rfl) ?_ _
                    go_wp2_with fail
                    go_meet
                    exact ⟨rfl, rfl, rfl, _, Lib.hid (HB15.out 0), Lib.hid (ring_next' HRG.out HX.out h16), Lib.hid (grown_step HG4.out ⟨HG15.out.os, HG15.out.tape, HG15.out.output, HG15.out.size, HG15.out.block⟩ (.inl rfl))⟩
                  · skip
                    go_simp
                    refine (rot_z _ _ (by decide) (by decide) _).mono ?_
                    rintro e w5 ⟨rfl, rfl⟩
                    go_wp2_with fail
                    refine hK.out _ _ ?_ (fun hHeld => ?_)
                    · first | exact d9 | exact HK15.out _
                    clear hK K
                    try simp only [Act.put, List.setIfInBounds_toArray, List.set_cons_zero, List.set_cons_succ]
                    refine wpAnyH_take (i := 13) (oi := { dst := some 106, op := Op.binOp BinOp.xor 79 (Operand.tmp 103) (Operand.tmp 105) 79, type := 79, pos := "digest.go:118", after := #[{ on := 10, ground := Ground.data }, { on := 12, ground := Ground.data }], guard := none }) (v := ?_) rfl (by kernel_rfl) (by kernel_rfl) (by kernel_rfl) (fun _ _ _ h => h) (Or.inl ⟨by rfl, ?_⟩) (by assumption) ?_
                    rotate_left
                    · intro w_ hSw
                      (try dsimp only at hSw)
                      go_simp
                      first | done | with_reducible rfl
                    try simp only [Act.put, List.setIfInBounds_toArray, List.set_cons_zero, List.set_cons_succ]
                    refine wpAnyH_take (i := 16) (oi := { dst := some 109, op := Op.binOp BinOp.xor 79 (Operand.tmp 106) (Operand.tmp 108) 79, type := 79, pos := "digest.go:118", after := #[{ on := 13, ground := Ground.data }, { on := 15, ground := Ground.data }], guard := none }) (v := ?_) rfl (by kernel_rfl) (by kernel_rfl) (by kernel_rfl) (fun _ _ _ h => h) (Or.inl ⟨by rfl, ?_⟩) (by assumption) ?_
                    rotate_left
                    · intro w_ hSw
                      (try dsimp only at hSw)
                      go_simp
                      first | done | with_reducible rfl
                    try simp only [Act.put, List.setIfInBounds_toArray, List.set_cons_zero, List.set_cons_succ]
                    refine wpAnyH_take (i := 17) (oi := { dst := some 110, op := Op.binOp BinOp.add 79 (Operand.tmp 101) (Operand.tmp 109) 79, type := 79, pos := "digest.go:118", after := #[{ on := 8, ground := Ground.data }, { on := 16, ground := Ground.data }], guard := none }) (v := ?_) rfl (by kernel_rfl) (by kernel_rfl) (by kernel_rfl) (fun _ _ _ h => h) (Or.inl ⟨by rfl, ?_⟩) (by assumption) ?_
                    rotate_left
                    · intro w_ hSw
                      (try dsimp only at hSw)
                      go_simp
                      first | done | with_reducible rfl
                    try simp only [Act.put, List.setIfInBounds_toArray, List.set_cons_zero, List.set_cons_succ]
                    refine wpAnyH_ready (rs := [3]) (by kernel_rfl) (by simp) ?_
                    refine AllReadyH.cons (o := { dst := some 96, op := Op.load 79 (Operand.tmp 95), type := 79, pos := "digest.go:118", after := #[{ on := 2, ground := Ground.data }], guard := none }) rfl (fun K hK => ?_) AllReadyH.nil
                    go_simp
                    skip
                    refine hK.out _ _ ?_ (fun hHeld => ?_)
                    · first | exact d9 | exact HK15.out _
                    clear hK K
                    try simp only [Act.put, List.setIfInBounds_toArray, List.set_cons_zero, List.set_cons_succ]
                    refine wpAnyH_take (i := 18) (oi := { dst := some 111, op := Op.binOp BinOp.add 79 (Operand.tmp 96) (Operand.tmp 110) 79, type := 79, pos := "digest.go:118", after := #[{ on := 3, ground := Ground.data }, { on := 17, ground := Ground.data }], guard := none }) (v := ?_) rfl (by kernel_rfl) (by kernel_rfl) (by kernel_rfl) (fun _ _ _ h => h) (Or.inl ⟨by rfl, ?_⟩) (by assumption) ?_
                    rotate_left
                    · intro w_ hSw
                      (try dsimp only at hSw)
                      go_simp
                      first | done | with_reducible rfl
                    try simp only [Act.put, List.setIfInBounds_toArray, List.set_cons_zero, List.set_cons_succ]
                    refine wpAnyH_take (i := 19) (oi := { dst := some 112, op := Op.indexAddr 142 (Operand.tmp 5) (Operand.tmp 94), type := 0, pos := "digest.go:118", after := #[{ on := 1, ground := Ground.data }, { on := 0, ground := Ground.phase }, { on := 1, ground := Ground.phase }, { on := 2, ground := Ground.phase }, { on := 3, ground := Ground.phase }, { on := 4, ground := Ground.phase }, { on := 5, ground := Ground.phase }, { on := 6, ground := Ground.phase }, { on := 7, ground := Ground.phase }, { on := 8, ground := Ground.phase }, { on := 9, ground := Ground.phase }, { on := 10, ground := Ground.phase }, { on := 11, ground := Ground.phase }, { on := 12, ground := Ground.phase }, { on := 13, ground := Ground.phase }, { on := 14, ground := Ground.phase }, { on := 15, ground := Ground.phase }, { on := 16, ground := Ground.phase }, { on := 17, ground := Ground.phase }, { on := 18, ground := Ground.phase }], guard := none }) (v := ?_) rfl (by kernel_rfl) (by kernel_rfl) (by kernel_rfl) (fun _ _ _ h => h) (Or.inl ⟨by rfl, ?_⟩) (by assumption) ?_
                    rotate_left
                    · intro w_ hSw
                      (try dsimp only at hSw)
                      go_simp
                      first | done | with_reducible rfl
                    try simp only [Act.put, List.setIfInBounds_toArray, List.set_cons_zero, List.set_cons_succ]
                    refine wpAnyH_ready (rs := [20]) (by kernel_rfl) (by simp) ?_
                    refine AllReadyH.cons (o := { dst := none, op := Op.store 79 (Operand.tmp 112) (Operand.tmp 111), type := 0, pos := "digest.go:118", after := #[{ on := 19, ground := Ground.data }, { on := 18, ground := Ground.data }, { on := 12, ground := Ground.chain }, { on := 0, ground := Ground.phase }, { on := 1, ground := Ground.phase }, { on := 2, ground := Ground.phase }, { on := 3, ground := Ground.phase }, { on := 4, ground := Ground.phase }, { on := 5, ground := Ground.phase }, { on := 6, ground := Ground.phase }, { on := 7, ground := Ground.phase }, { on := 8, ground := Ground.phase }, { on := 9, ground := Ground.phase }, { on := 10, ground := Ground.phase }, { on := 11, ground := Ground.phase }, { on := 12, ground := Ground.phase }, { on := 13, ground := Ground.phase }, { on := 14, ground := Ground.phase }, { on := 15, ground := Ground.phase }, { on := 16, ground := Ground.phase }, { on := 17, ground := Ground.phase }, { on := 18, ground := Ground.phase }], guard := none }) rfl (fun K hK => ?_) AllReadyH.nil
                    go_simp
                    go_wp2_with fail
                    refine hK.out _ _ ?_ (fun hHeld => ?_)
                    · first | exact d9 | exact HK15.out _
                    clear hK K
                    try simp only [Act.put, List.setIfInBounds_toArray, List.set_cons_zero, List.set_cons_succ]
                    refine wpAnyH_done (by kernel_rfl) ?_ _
                    go_wp2_with fail
                    go_meet
                    exact ⟨rfl, rfl, rfl, _, Lib.hid (HB15.out 0), Lib.hid (ring_next' HRG.out HX.out h16), Lib.hid (grown_step HG4.out ⟨HG15.out.os, HG15.out.tape, HG15.out.output, HG15.out.size, HG15.out.block⟩ (.inl rfl))⟩
          case rest =>
            obtain ⟨rfl, rfl, rfl, p, HV5, HRG5, HG5⟩ := hcut
            obtain ⟨q0, t0, p0, l0, HQ⟩ := idx0 i
            obtain ⟨W_, hW_⟩ : ∃ W_, W_ = sched m i := ⟨_, rfl⟩
            rw [← hW_] at HR1
            have cV : wc.cell? ⟨Wb.heap.size, q0, none⟩ = some (.int .u32 (wv W_)) := by
              rw [HV5.out.cell q0, arrW_get _ _ HQ.out.2, HQ.out.1, ring_now HRG5.out, hW_]
            clear hW_
            have n3 := HS.out
            have HS6 := Lib.hid (HSS.out.grown HG5.out (fun e => by injection e with e; omega))
            have HA6 := Lib.hid (HA.out.grown HG5.out (fun e => by injection e with e; omega))
            have HR6 := Lib.hid (HR.out.grown HG5.out (fun e => by injection e with e; omega))
            have HK6 := Lib.hid (HK.out.grown HG5.out (fun e => by injection e with e; omega))
            have HL6 := Lib.hid (bl_of_grown HL.out HG5.out (zero_lt_of (by omega) rfl))
            clear n3 HSS HA HR HK HL HG5 HV HRG
            have c0 : wc.cell? ⟨Wf.heap.size, 0, none⟩ = some (.int .u32 (wv (F 0))) := (HS6.out.cell 0).trans (arrW_get _ _ (by decide))
            have c1 : wc.cell? ⟨Wf.heap.size, 1, none⟩ = some (.int .u32 (wv (F 1))) := (HS6.out.cell 1).trans (arrW_get _ _ (by decide))
            have c2 : wc.cell? ⟨Wf.heap.size, 2, none⟩ = some (.int .u32 (wv (F 2))) := (HS6.out.cell 2).trans (arrW_get _ _ (by decide))
            have c3 : wc.cell? ⟨Wf.heap.size, 3, none⟩ = some (.int .u32 (wv (F 3))) := (HS6.out.cell 3).trans (arrW_get _ _ (by decide))
            have c4 : wc.cell? ⟨Wf.heap.size, 4, none⟩ = some (.int .u32 (wv (F 4))) := (HS6.out.cell 4).trans (arrW_get _ _ (by decide))
            have c5 : wc.cell? ⟨Wf.heap.size, 5, none⟩ = some (.int .u32 (wv (F 5))) := (HS6.out.cell 5).trans (arrW_get _ _ (by decide))
            have c6 : wc.cell? ⟨Wf.heap.size, 6, none⟩ = some (.int .u32 (wv (F 6))) := (HS6.out.cell 6).trans (arrW_get _ _ (by decide))
            have c7 : wc.cell? ⟨Wf.heap.size, 7, none⟩ = some (.int .u32 (wv (F 7))) := (HS6.out.cell 7).trans (arrW_get _ _ (by decide))
            go_wp2
            go_quiet (fail)
            go_wp2
            go_quiet (exact quiet_off (rot_z _ _ (by decide) (by decide) _))
            go_wp2
            go_quiet (exact quiet_off (rot_z _ _ (by decide) (by decide) _))
            clear c0 c1 c2 c3 c4 c5 c6 c7 cV
            go_wp2
            obtain ⟨fW, hfW⟩ : ∃ fW : Nat → World, ∀ n, (Builtin.copy_ #[144, 144] 3 #[.slice (some ⟨Wf.heap.size, 1, none⟩) 7 7, .slice (some ⟨Wf.heap.size, 0, none⟩) 7 8]).run Try.prog (wc.drewN n) = .ok (goInt 7) (fW n) ∧ Blk (fW n) Wf.heap.size 99 (arrW 8 (fun q => F (q - 1))) ∧ wc.grownBy (fW n) (some Wf.heap.size) := copy_shift HS6.out
            have HFW := Lib.hid (fun n => (hfW n).2)
            have hcp := fun n => (hfW n).1
            clear hfW
            have c0 : ∀ n, (fW n).cell? ⟨Wf.heap.size, 0, none⟩ = some (.int .u32 (wv (F (0 - 1)))) := fun n => ((HFW.out n).1.cell 0).trans (arrW_get _ _ (by decide))
            have c4 : ∀ n, (fW n).cell? ⟨Wf.heap.size, 4, none⟩ = some (.int .u32 (wv (F 3))) := fun n => ((HFW.out n).1.cell 4).trans (arrW_get _ _ (by decide))
            have f0 : ∀ n, (fW n).frozen? ⟨Wf.heap.size, 0, none⟩ = false := fun n => (HFW.out n).1.frozen 0
            have f4 : ∀ n, (fW n).frozen? ⟨Wf.heap.size, 4, none⟩ = false := fun n => (HFW.out n).1.frozen 4
            clear HS6
            have HALL := Lib.hid (show ∀ n, Hid (Blk (((fW n).setCell ⟨Wf.heap.size, 4, none⟩ (.int .u32 (wv (F 3 + (F 7 + kc i + W_ + (F 4 &&& F 5 ||| F 6 &&& ~~~(F 4)) + (rr (F 4) 6 ^^^ rr (F 4) 11 ^^^ rr (F 4) 25)))))).setCell ⟨Wf.heap.size, 0, none⟩ (.int .u32 (wv ((F 7 + kc i + W_ + (F 4 &&& F 5 ||| F 6 &&& ~~~(F 4)) + (rr (F 4) 6 ^^^ rr (F 4) 11 ^^^ rr (F 4) 25)) + ((F 0 &&& F 1 ||| F 0 &&& F 2 ||| F 1 &&& F 2) + (rr (F 0) 2 ^^^ rr (F 0) 13 ^^^ rr (F 0) 22)))))) Wb.heap.size 142 (arrW 16 p)) ∧ Hid (Blk (((fW n).setCell ⟨Wf.heap.size, 4, none⟩ (.int .u32 (wv (F 3 + (F 7 + kc i + W_ + (F 4 &&& F 5 ||| F 6 &&& ~~~(F 4)) + (rr (F 4) 6 ^^^ rr (F 4) 11 ^^^ rr (F 4) 25)))))).setCell ⟨Wf.heap.size, 0, none⟩ (.int .u32 (wv ((F 7 + kc i + W_ + (F 4 &&& F 5 ||| F 6 &&& ~~~(F 4)) + (rr (F 4) 6 ^^^ rr (F 4) 11 ^^^ rr (F 4) 25)) + ((F 0 &&& F 1 ||| F 0 &&& F 2 ||| F 1 &&& F 2) + (rr (F 0) 2 ^^^ rr (F 0) 13 ^^^ rr (F 0) 22)))))) Wf.heap.size 99 (arrW 8 (rounds f (sched m) (i + 1)))) ∧ Hid (Blk (((fW n).setCell ⟨Wf.heap.size, 4, none⟩ (.int .u32 (wv (F 3 + (F 7 + kc i + W_ + (F 4 &&& F 5 ||| F 6 &&& ~~~(F 4)) + (rr (F 4) 6 ^^^ rr (F 4) 11 ^^^ rr (F 4) 25)))))).setCell ⟨Wf.heap.size, 0, none⟩ (.int .u32 (wv ((F 7 + kc i + W_ + (F 4 &&& F 5 ||| F 6 &&& ~~~(F 4)) + (rr (F 4) 6 ^^^ rr (F 4) 11 ^^^ rr (F 4) 25)) + ((F 0 &&& F 1 ||| F 0 &&& F 2 ||| F 1 &&& F 2) + (rr (F 0) 2 ^^^ rr (F 0) 13 ^^^ rr (F 0) 22)))))) w.heap.size 99 (arrW 8 f)) ∧ Hid (Blk (((fW n).setCell ⟨Wf.heap.size, 4, none⟩ (.int .u32 (wv (F 3 + (F 7 + kc i + W_ + (F 4 &&& F 5 ||| F 6 &&& ~~~(F 4)) + (rr (F 4) 6 ^^^ rr (F 4) 11 ^^^ rr (F 4) 25)))))).setCell ⟨Wf.heap.size, 0, none⟩ (.int .u32 (wv ((F 7 + kc i + W_ + (F 4 &&& F 5 ||| F 6 &&& ~~~(F 4)) + (rr (F 4) 6 ^^^ rr (F 4) 11 ^^^ rr (F 4) 25)) + ((F 0 &&& F 1 ||| F 0 &&& F 2 ||| F 1 &&& F 2) + (rr (F 0) 2 ^^^ rr (F 0) 13 ^^^ rr (F 0) 22)))))) Wa.heap.size 99 (arrW 8 fun _ => 0)) ∧ Hid (Blk (((fW n).setCell ⟨Wf.heap.size, 4, none⟩ (.int .u32 (wv (F 3 + (F 7 + kc i + W_ + (F 4 &&& F 5 ||| F 6 &&& ~~~(F 4)) + (rr (F 4) 6 ^^^ rr (F 4) 11 ^^^ rr (F 4) 25)))))).setCell ⟨Wf.heap.size, 0, none⟩ (.int .u32 (wv ((F 7 + kc i + W_ + (F 4 &&& F 5 ||| F 6 &&& ~~~(F 4)) + (rr (F 4) 6 ^^^ rr (F 4) 11 ^^^ rr (F 4) 25)) + ((F 0 &&& F 1 ||| F 0 &&& F 2 ||| F 1 &&& F 2) + (rr (F 0) 2 ^^^ rr (F 0) 13 ^^^ rr (F 0) 22)))))) Wd.heap.size 117 (arrW 64 kc)) ∧ Hid (Below w.heap.size w (((fW n).setCell ⟨Wf.heap.size, 4, none⟩ (.int .u32 (wv (F 3 + (F 7 + kc i + W_ + (F 4 &&& F 5 ||| F 6 &&& ~~~(F 4)) + (rr (F 4) 6 ^^^ rr (F 4) 11 ^^^ rr (F 4) 25)))))).setCell ⟨Wf.heap.size, 0, none⟩ (.int .u32 (wv ((F 7 + kc i + W_ + (F 4 &&& F 5 ||| F 6 &&& ~~~(F 4)) + (rr (F 4) 6 ^^^ rr (F 4) 11 ^^^ rr (F 4) 25)) + ((F 0 &&& F 1 ||| F 0 &&& F 2 ||| F 1 &&& F 2) + (rr (F 0) 2 ^^^ rr (F 0) 13 ^^^ rr (F 0) 22))))))) from fun n => by
              have n3 := HS.out
              have hg := grown_step (grown_step (HFW.out n).2 (grown_set' _ Wf.heap.size 4 (.int .u32 (wv (F 3 + (F 7 + kc i + W_ + (F 4 &&& F 5 ||| F 6 &&& ~~~(F 4)) + (rr (F 4) 6 ^^^ rr (F 4) 11 ^^^ rr (F 4) 25)))))) (.inl rfl)) (grown_set' _ Wf.heap.size 0 (.int .u32 (wv ((F 7 + kc i + W_ + (F 4 &&& F 5 ||| F 6 &&& ~~~(F 4)) + (rr (F 4) 6 ^^^ rr (F 4) 11 ^^^ rr (F 4) 25)) + ((F 0 &&& F 1 ||| F 0 &&& F 2 ||| F 1 &&& F 2) + (rr (F 0) 2 ^^^ rr (F 0) 13 ^^^ rr (F 0) 22)))))) (.inl rfl)
              refine ⟨Lib.hid (HV5.out.grown hg (fun e => by injection e with e; omega)), Lib.hid ?_, Lib.hid (HA6.out.grown hg (fun e => by injection e with e; omega)), Lib.hid (HR6.out.grown hg (fun e => by injection e with e; omega)), Lib.hid (HK6.out.grown hg (fun e => by injection e with e; omega)), Lib.hid (bl_of_grown HL6.out hg (zero_lt_of (by omega) rfl))⟩
              have := ((HFW.out n).1.set_ 4 (.int .u32 (wv (F 3 + (F 7 + kc i + W_ + (F 4 &&& F 5 ||| F 6 &&& ~~~(F 4)) + (rr (F 4) 6 ^^^ rr (F 4) 11 ^^^ rr (F 4) 25)))))).set_ 0 (.int .u32 (wv ((F 7 + kc i + W_ + (F 4 &&& F 5 ||| F 6 &&& ~~~(F 4)) + (rr (F 4) 6 ^^^ rr (F 4) 11 ^^^ rr (F 4) 25)) + ((F 0 &&& F 1 ||| F 0 &&& F 2 ||| F 1 &&& F 2) + (rr (F 0) 2 ^^^ rr (F 0) 13 ^^^ rr (F 0) 22)))))
              rw [arrW_set, arrW_set, shifted F _ _ (kc i) W_ (tOf_eq F (kc i) W_) (uOf_eq F)] at this
              rw [HR1.out]
              exact this)
            clear HFW HV5 HA6 HR6 HK6 HL6 HR1
            go_region
            go_wp2
            go_roundg (64 - (i + 1))
            case measure => omega
            case rel => exact ⟨i + 1, p, by omega, rfl, by go_num, HRG5, (HALL.out _).1, (HALL.out _).2.1, (HALL.out _).2.2.1, (HALL.out _).2.2.2.1, (HALL.out _).2.2.2.2.1, (HALL.out _).2.2.2.2.2⟩
        · obtain rfl : i = 64 := by omega
          obtain ⟨R, hR⟩ : ∃ R, R = rounds f (sched m) 64 := ⟨_, rfl⟩
          have HRR := Lib.hid hR
          rw [← hR] at HSS
          clear hR
          have HA2 := HA
          have HR2 := HR
          have LW := HL
          clear HA HR HL HK HV HRG
          go_wp2
          go_loopg [190] 8 (fun gk s190 wx => ∃ j : Nat, j ≤ 8 ∧ gk = 8 - j ∧ s190 = .int .i64 j ∧ Hid (Blk wx Wf.heap.size 99 (arrW 8 (fun q => if q < j then R q + f q else R q))) ∧ Hid (wr.grownBy wx (some Wf.heap.size)))
          case atStart => exact ⟨0, by omega, rfl, rfl, Lib.hid (by rw [arrW_congr 8 (fun q => if q < 0 then R q + f q else R q) R (fun q hq => by simp)]; exact HSS.out), Lib.hid (grown_refl _ _)⟩
          case round =>
            obtain ⟨j, hj, rfl, rfl, hb2, hg2⟩ := hrel
            by_cases hlt2 : j < 8
            · have j0 : (0 : Int) ≤ (j : Int) := by omega
              have j1 : (j : Int) < 8 := by omega
              have c0 : wr.cell? ⟨Wf.heap.size, j, none⟩ = some (.int .u32 (wv (R j))) := by
                rw [hb2.out.cell j, arrW_get _ _ hlt2, if_neg (Nat.lt_irrefl j)]
              have c1 : wr.cell? ⟨w.heap.size, j, none⟩ = some (.int .u32 (wv (f j))) := by
                rw [(HA2.out.grown hg2.out (fun e => by have := HS.out; injection e with e; omega)).cell j, arrW_get _ _ hlt2]
              have f0 : wr.frozen? ⟨Wf.heap.size, j, none⟩ = false := hb2.out.frozen j
              have HB3 := Lib.hid (show ∀ n, Blk ((wr.setCell ⟨Wf.heap.size, j, none⟩ (.int .u32 (wv (R j + f j)))).drewN n) Wf.heap.size 99 (arrW 8 (fun q => if q < j + 1 then R q + f q else R q)) from fun n => by
                have := hb2.out.set_ j (.int .u32 (wv (R j + f j)))
                rw [arrW_set] at this
                rw [arrW_congr 8 (fun q => if q < j + 1 then R q + f q else R q) (fun q => if q = j then R j + f j else if q < j then R q + f q else R q) (fun q hq => by
                  by_cases h1 : q = j
                  · subst h1; simp
                  · by_cases h2 : q < j
                    · simp [h1, h2, show q < j + 1 by omega]
                    · simp [h1, h2, show ¬ q < j + 1 by omega])]
                exact this.drewN n)
              go_wp2
              go_region
              go_wp2
              go_roundg (8 - (j + 1))
              case measure => omega
              case rel => exact ⟨j + 1, by omega, rfl, by go_num, Lib.hid (HB3.out 1), Lib.hid (grown_step hg2.out (grown_drewN (grown_set' _ _ _ _) 1) (.inl rfl))⟩
            · obtain rfl : j = 8 := by omega
              have HM := Lib.hid (arrW_congr 8 (fun q => if q < 8 then R q + f q else R q) (madeF f m) (fun q hq => by simp only [hq, if_true]; rw [HRR.out]; rfl))
              have HB := Lib.hid hb2.out
              rw [HM.out] at HB
              have HR3 := Lib.hid (HR2.out.grown hg2.out (fun e => by have := HS.out; injection e with e; omega))
              have LW2 := Lib.hid (bl_of_grown LW.out hg2.out (zero_lt_of (by have := HS.out; omega) rfl))
              clear hb2 hg2 hj hlt2 HRR
              go_wp2_with (first
                | (refine load_arr rfl 99 _ rfl Wf.heap.size rfl _ _ _ _ HB.out Try.underlying99 (by rw [arrW_size]; exact s8) ?_)
                | (refine store_arr rfl 99 _ _ rfl Wa.heap.size (arrW 8 (madeF f m)) rfl rfl _ _ HR3.out (by rw [arrW_size]; exact s8) (by rw [arrW_size, arrW_size]) (arrW_one _ _) ?_; intro W9 B_ G_ S_; have B9 := Lib.hid B_; have G9 := Lib.hid G_; clear B_ G_ S_))
              (try simp only [Exit.inBlock, Exit.then])
              refine bodyPost_ret (results_cell_row rfl _ _ Wa.heap.size _ (arrW 8 (madeF f m)) (0, 0) _ rfl B9.out Try.underlying99 rfl (by rw [arrW_size]; exact s8)) rfl ?_
              exact ⟨rfl, bl_of_grown LW2.out G9.out (zero_lt_of (by have := HS.out; omega) rfl)⟩
end Go.Proofs.Ytpklkjekkbpeoaa
