/- DERIVED. The digest of a text: the program's Sum, Of. -/
import Derived.Test.YtpklkjekkbpeoaaDigFill2
import Derived.Test.YtpklkjekkbpeoaaDigOf
import Derived.Test.YtpklkjekkbpeoaaDigRef
namespace Go.Proofs.Ytpklkjekkbpeoaa
open Go.RowKit
set_option linter.unusedVariables false
set_option linter.unusedSimpArgs false
attribute [local go_sem high] w_shl w_shr u32_byte u8_word
attribute [local irreducible] arrW arrB hashC wpList Code.wp

theorem index_arr (f : Nat → W32) (i : Nat) (hi : i < 8) (W : World) : (Instr.index 99 (.agg (arrW 8 f)) (.int .i64 (i : Int))).run Try.prog W = .ok (.int .u32 (wv (f i))) W := by
  have hs : (Try.prog.info? 79).map (·.size) = some 1 := by kernel_rfl
  have hg := arrW_get 8 f hi
  have h0 : (0 : Int) ≤ (i : Int) := by omega
  cases hq : Try.prog.info? 79 with
  | none => simp [hq] at hs
  | some x =>
    have hx : x.size = 1 := by simpa [hq] using hs
    simp [Instr.index, asIntOf, run_underlying Try.underlying99, run_underlying Try.underlying79, sizeOf, typeInfo, hq, hx, part, isAgg, hg, h0, hi]
theorem outs_next (Z : Nat → W32) (i : Nat) (F : Nat → UInt8) (h : ∀ j, j < 4 * i → F j = outB Z j) :
    ∀ j, j < 4 * (i + 1) → (fun j => if j = 4 * i + 3 then wByte (Z i) else if j = 4 * i + 2 then wByte (Z i >>> 8) else if j = 4 * i + 1 then wByte (Z i >>> 16) else if j = 4 * i then wByte (Z i >>> 24) else F j) j = outB Z j := fun j hj => by
  show (if j = 4 * i + 3 then wByte (Z i) else if j = 4 * i + 2 then wByte (Z i >>> 8) else if j = 4 * i + 1 then wByte (Z i >>> 16) else if j = 4 * i then wByte (Z i >>> 24) else F j) = _
  by_cases h3 : j = 4 * i + 3
  · rw [if_pos h3, outB, h3, show (4 * i + 3) / 4 = i by omega, show 24 - 8 * ((4 * i + 3) % 4) = 0 by omega]; simp
  · rw [if_neg h3]
    by_cases h2 : j = 4 * i + 2
    · rw [if_pos h2, outB, h2, show (4 * i + 2) / 4 = i by omega, show 24 - 8 * ((4 * i + 2) % 4) = 8 by omega]
    · rw [if_neg h2]
      by_cases h1 : j = 4 * i + 1
      · rw [if_pos h1, outB, h1, show (4 * i + 1) / 4 = i by omega, show 24 - 8 * ((4 * i + 1) % 4) = 16 by omega]
      · rw [if_neg h1]
        by_cases h0 : j = 4 * i
        · rw [if_pos h0, outB, h0, show (4 * i) / 4 = i by omega, show 24 - 8 * ((4 * i) % 4) = 24 by omega]
        · rw [if_neg h0]; exact h j (by omega)
theorem outs_idx (i : Nat) (hi : i < 8) : ∃ k0 k1 k2 k3 : Nat, IntKind.i64.wrap (4 * (i : Int)) = (k0 : Int) ∧ IntKind.i64.wrap ((k0 : Int) + 1) = (k1 : Int) ∧ IntKind.i64.wrap ((k0 : Int) + 2) = (k2 : Int) ∧ IntKind.i64.wrap ((k0 : Int) + 3) = (k3 : Int) ∧
    ((0 : Int) ≤ (k0 : Int) ∧ (0 : Int) ≤ (k1 : Int) ∧ (0 : Int) ≤ (k2 : Int) ∧ (0 : Int) ≤ (k3 : Int)) ∧ ((k0 : Int) < 32 ∧ (k1 : Int) < 32 ∧ (k2 : Int) < 32 ∧ (k3 : Int) < 32) ∧ Hid ((k0 = 4 * i ∧ k1 = 4 * i + 1 ∧ k2 = 4 * i + 2 ∧ k3 = 4 * i + 3) ∧ k0 < 32 ∧ k1 < 32 ∧ k2 < 32 ∧ k3 < 32) := by
  refine ⟨4 * i, 4 * i + 1, 4 * i + 2, 4 * i + 3, ?_, ?_, ?_, ?_, ⟨by omega, by omega, by omega, by omega⟩, ⟨by omega, by omega, by omega, by omega⟩, ⟨rfl, rfl, rfl, rfl⟩, by omega, by omega, by omega, by omega⟩
  · rw [IntWalk.i64_in _ (by omega)]; omega
  · rw [IntWalk.i64_in _ (by omega)]; omega
  · rw [IntWalk.i64_in _ (by omega)]; omega
  · rw [IntWalk.i64_in _ (by omega)]; omega
set_option maxRecDepth 100000 in
set_option maxHeartbeats 12800000 in
theorem sum_any (gH held : Nat) (st : Nat → W32) (rest : Nat → UInt8) (l : List UInt8) (w : World) (hH : Blk w gH 115 (hashC st rest held l.length)) (hA : Abs st rest held l) (hl : l.length ≤ 140737488355328) :
    Calls Try.prog 53 #[.pointer (some ⟨gH, 0, none⟩)] w fun e w' => e = .returned (.agg (arrB 32 (shaB l))) ∧ Below w.heap.size w w' := by
  have HH := Lib.hid hH
  have HA := Lib.hid hA
  clear hH hA
  have cn : w.cell? ⟨gH, 73, none⟩ = some (.int .u64 l.length) := (HH.out.cell 73).trans (hashC_n _ _ _ _)
  go_enter Try.func53, Try.ntmps53
  clear cn
  go_wp2_with (first
    | (refine alloc_arr (w := w) rfl 64 rfl _ _ z32 ?_; intro W1 B_ L_ S_; have BW1 := Lib.hid B_; have LW1 := Lib.hid L_; have SW1 := Lib.hid S_; clear B_ L_ S_)
    | (refine alloc_arr (w := W1) rfl 64 rfl _ _ z32 ?_; intro W2 B_ L_ S_; have BW2 := Lib.hid B_; have LW2 := Lib.hid L_; have SW2 := Lib.hid S_; clear B_ L_ S_)
    | (refine wpList_load_row (w := W2) rfl 115 _ rfl gH rfl 115 (hashC st rest held l.length) (0, 0) _ ((HH.out.below LW1.out HH.out.lt).below LW2.out (by have := HH.out.lt; have := SW1.out; omega)) Try.underlying115 rfl (by rw [hashC_size]; exact s74) ?_)
    | (refine alloc_arr (w := W2) rfl 115 rfl _ _ z74 ?_; intro W3 B_ L_ S_; have BW3 := Lib.hid B_; have LW3 := Lib.hid L_; have SW3 := Lib.hid S_; clear B_ L_ S_)
    | (refine store_arr (w := W3) rfl 115 _ _ rfl W2.heap.size (hashC st rest held l.length) rfl rfl _ _ BW3.out (by rw [hashC_size]; exact s74) (by rw [hashC_size, hashC_size]) (hashC_one _ _ _ _) ?_; intro W4 B_ G_ S_; have B4 := Lib.hid B_; have G4 := Lib.hid G_; have S4 := Lib.hid S_; clear B_ G_ S_; have HH4 := Lib.hid ((((HH.out.below LW1.out HH.out.lt).below LW2.out (by have := HH.out.lt; have := SW1.out; omega)).below LW3.out (by have := HH.out.lt; have := SW1.out; have := SW2.out; omega)).grown G4.out (fun e => by injection e with e; have := HH.out.lt; have := SW1.out; have := SW2.out; omega)); have cn4 := (HH4.out.cell 73).trans (hashC_n _ _ _ _))
    | (go_at_call 72; refine (fill_any l.length (by omega) W4).mono ?_; rintro e W5 ⟨gF, rfl, H_, B_, L_⟩; have HF := Lib.hid H_; have B5 := Lib.hid B_; have L5 := Lib.hid L_; clear H_ B_ L_ cn4))
  have hfl := fillL_length l.length
  have hzl := zeros_lt l.length
  have a1 := SW1.out
  have a2 := SW2.out
  have a3 := SW3.out
  have a4 := S4.out
  have a5 := L5.out.size
  refine (write_any W2.heap.size gF 0 (fillL l.length).length (fillL l.length).length held l.length st rest (fun j => (fillL l.length).getD j 0) l W5 (B4.out.below L5.out (by omega)) HA.out (fun j hj => by rw [add_plain, B5.out.cell j, arrB_get _ _ hj]) (fun _ => by have := HF.out; omega) (Nat.le_refl _) (by omega) (by omega)).mono ?_
  rintro e W6 ⟨rfl, ⟨Z, rest', held', hA6, hB6⟩, hG6⟩
  rw [range_list] at hA6
  have HZ := Lib.hid (show ∀ j, outB Z j = shaB l j from fun j => by rw [shaB, fullL, ← hA6.1])
  have HE := Lib.hid hB6
  have HS := Lib.hid (show w.heap.size < W1.heap.size ∧ W1.heap.size < W2.heap.size ∧ W2.heap.size < W6.heap.size from ⟨by omega, by omega, by have := hG6.size; omega⟩)
  have HR := Lib.hid (((((BW1.out.below LW2.out (by omega)).below LW3.out (by omega)).grown G4.out (fun e => by injection e with e; omega)).below L5.out (by omega)).grown hG6 (fun e => by injection e with e; omega))
  have HO := Lib.hid ((((BW2.out.below LW3.out (by omega)).grown G4.out (fun e => by injection e with e; omega)).below L5.out (by omega)).grown hG6 (fun e => by injection e with e; omega))
  have HL := Lib.hid (bl_of_grown (bl_then (bl_of_grown (bl_then (bl_then LW1.out LW2.out) LW3.out) G4.out (zero_lt_of (by omega) rfl)) L5.out) hG6 (zero_lt_of (by omega) rfl))
  clear hfl hzl a1 a2 a3 a4 a5 hA6 hB6 hG6 BW1 LW1 SW1 BW2 LW2 SW2 BW3 LW3 SW3 B4 G4 S4 HH4 HF B5 L5 HH HA
  go_wp2_with (refine load_part rfl 99 _ rfl W2.heap.size 0 rfl (arrW 8 Z) _ _ (hash_state HE.out) Try.underlying99 (by rw [arrW_size]; exact s8) ?_)
  clear HE
  go_loopg [21] 8 (fun gk s21 wx => ∃ (i : Nat) (F : Nat → UInt8), i ≤ 8 ∧ gk = 8 - i ∧ s21 = .int .i64 i ∧ Hid (∀ j, j < 4 * i → F j = outB Z j) ∧ Hid (Blk wx W1.heap.size 64 (arrB 32 F)) ∧ Hid (Blk wx w.heap.size 64 (arrB 32 fun _ => 0)) ∧ Hid (Below w.heap.size w wx))
  case atStart => exact ⟨0, fun _ => 0, by omega, rfl, rfl, Lib.hid (fun j h => absurd h (by omega)), HO, HR, HL⟩
  case round =>
    clear HO HR HL
    obtain ⟨i, F, hi, rfl, rfl, hF, HO, HR, HL⟩ := hrel
    by_cases hlt : i < 8
    · have i0 : (0 : Int) ≤ (i : Int) := by omega
      have i1 : (i : Int) < 8 := by omega
      obtain ⟨k0, k1, k2, k3, e0, e1, e2, e3, ⟨p0, p1, p2, p3⟩, ⟨l0, l1, l2, l3⟩, HK⟩ := outs_idx i hlt
      have hix := index_arr Z i hlt
      have c0 : ∀ k, k < 32 → wr.cell? ⟨W1.heap.size, k, none⟩ = some (.int .u8 (bv (F k))) := fun k hk => (HO.out.cell k).trans (arrB_get 32 F hk)
      have d0 := c0 k0 HK.out.2.1
      have d1 := c0 k1 HK.out.2.2.1
      have d2 := c0 k2 HK.out.2.2.2.1
      have d3 := c0 k3 HK.out.2.2.2.2
      have f0 := HO.out.frozen k0
      have f1 := HO.out.frozen k1
      have f2 := HO.out.frozen k2
      have f3 := HO.out.frozen k3
      have n1 : ¬ k0 = k1 := by have := HK.out.1; omega
      have n2 : ¬ k0 = k2 := by have := HK.out.1; omega
      have n3 : ¬ k0 = k3 := by have := HK.out.1; omega
      have n4 : ¬ k1 = k2 := by have := HK.out.1; omega
      have n5 : ¬ k1 = k3 := by have := HK.out.1; omega
      have n6 : ¬ k2 = k3 := by have := HK.out.1; omega
      clear c0
      go_wp2
      go_roundg (8 - (i + 1))
      case measure => omega
      case rel =>
        have hb := (((HO.out.set_ k0 (.int .u8 (bv (wByte (Z i >>> 24))))).set_ k1 (.int .u8 (bv (wByte (Z i >>> 16))))).set_ k2 (.int .u8 (bv (wByte (Z i >>> 8))))).set_ k3 (.int .u8 (bv (wByte (Z i))))
        rw [arrB_set, arrB_set, arrB_set, arrB_set] at hb
        have hgr := grown_step (grown_step (grown_step (grown_set' wr W1.heap.size k0 (.int .u8 (bv (wByte (Z i >>> 24))))) (grown_set' _ W1.heap.size k1 (.int .u8 (bv (wByte (Z i >>> 16))))) (.inl rfl)) (grown_set' _ W1.heap.size k2 (.int .u8 (bv (wByte (Z i >>> 8))))) (.inl rfl)) (grown_set' _ W1.heap.size k3 (.int .u8 (bv (wByte (Z i))))) (.inl rfl)
        have hs := HS.out
        refine ⟨i + 1, _, by omega, rfl, by go_num, Lib.hid ?_, Lib.hid hb, Lib.hid (HR.out.grown hgr (fun e => by injection e with e; omega)), Lib.hid (bl_of_grown HL.out hgr (zero_lt_of (by omega) rfl))⟩
        obtain ⟨⟨rfl, rfl, rfl, rfl⟩, _⟩ := HK.out
        exact outs_next Z i F hF.out
    · obtain rfl : i = 8 := by omega
      have HE := Lib.hid (arrB_congr 32 F (shaB l) (fun q hq => (hF.out q (by omega)).trans (HZ.out q)))
      have HB := Lib.hid HO.out
      rw [HE.out] at HB
      clear HO hF HZ
      go_wp2_with (first
        | (refine load_arr rfl 64 _ rfl W1.heap.size rfl _ _ _ _ HB.out Try.underlying64 (by rw [arrB_size]; exact s32) ?_)
        | (refine store_arr rfl 64 _ _ rfl w.heap.size (arrB 32 (shaB l)) rfl rfl _ _ HR.out (by rw [arrB_size]; exact s32) (by rw [arrB_size, arrB_size]) (arrB_one _ _) ?_; intro W9 B_ G_ S_; have B9 := Lib.hid B_; have G9 := Lib.hid G_; clear B_ G_ S_))
      (try simp only [Exit.inBlock, Exit.then])
      refine bodyPost_ret (results_cell_row rfl _ _ w.heap.size _ (arrB 32 (shaB l)) (0, 0) _ rfl B9.out Try.underlying64 rfl (by rw [arrB_size]; exact s32)) rfl ?_
      exact ⟨rfl, bl_of_grown HL.out G9.out (zero_lt_of (Nat.le_refl _) rfl)⟩

set_option maxRecDepth 100000 in
set_option maxHeartbeats 12800000 in
theorem of_any (s : ByteArray) (hs : s.size ≤ 70368744177664) (w : World) :
    Calls Try.prog 31 #[.string s] w fun e w' => e = .returned (.agg (arrB 32 (shaB s.data.toList))) ∧ Below w.heap.size w w' := by
  have hlen : s.data.toList.length = s.size := by rw [Array.length_toList]; rfl
  have HLN := Lib.hid hlen
  clear hlen
  go_enter Try.func31, Try.ntmps31
  go_wp2_with (first
    | (refine alloc_arr (w := w) rfl 64 rfl _ _ z32 ?_; intro W1 B_ L_ S_; have BW1 := Lib.hid B_; have LW1 := Lib.hid L_; have SW1 := Lib.hid S_; clear B_ L_ S_)
    | (go_at_call 51; refine (new_any W1).mono ?_; rintro e W2 ⟨gH, rfl, H_, B_, L_⟩; have H2 := Lib.hid H_; have B2 := Lib.hid B_; have L2 := Lib.hid L_; clear H_ B_ L_)
    | (go_at_call 52; refine (text_any gH 0 0 h0 (fun _ => 0) [] s W2 B2.out (Abs.nil _) hs (by omega)).mono ?_; rintro e W3 ⟨rfl, ⟨st, rest, held, A_, B_⟩, G_⟩; rw [List.nil_append] at A_; rw [Nat.zero_add, ← HLN.out] at B_; have A3 := Lib.hid A_; have B3 := Lib.hid B_; have G3 := Lib.hid G_; clear A_ B_ G_)
    | (go_at_call 53; refine (sum_any gH held st rest s.data.toList W3 B3.out A3.out (by rw [HLN.out]; omega)).mono ?_; rintro e W4 ⟨rfl, L_⟩; have L4 := Lib.hid L_; clear L_; have HR := Lib.hid (((BW1.out.below L2.out (by have := SW1.out; omega)).grown G3.out (fun e => by injection e with e; have := H2.out; have := SW1.out; omega)).below L4.out (by have := G3.out.size; have := L2.out.size; have := SW1.out; omega)))
    | (refine store_arr rfl 64 _ _ rfl w.heap.size (arrB 32 (shaB s.data.toList)) rfl rfl _ _ HR.out (by rw [arrB_size]; exact s32) (by rw [arrB_size, arrB_size]) (arrB_one _ _) ?_; intro W9 B_ G_ S_; have B9 := Lib.hid B_; have G9 := Lib.hid G_; clear B_ G_ S_))
  (try simp only [Exit.inBlock, Exit.then])
  refine bodyPost_ret (results_cell_row rfl _ _ w.heap.size _ (arrB 32 (shaB s.data.toList)) (0, 0) _ rfl B9.out Try.underlying64 rfl (by rw [arrB_size]; exact s32)) rfl ?_
  exact ⟨rfl, bl_of_grown (bl_then (bl_of_grown (bl_then LW1.out L2.out) G3.out (zero_lt_of (by have := H2.out; have := SW1.out; omega) rfl)) L4.out) G9.out (zero_lt_of (Nat.le_refl _) rfl)⟩
end Go.Proofs.Ytpklkjekkbpeoaa
