/- DERIVED. What stands behind a text of so many bytes: the document's Fill. -/
import Derived.Test.YtpklkjekkbpeoaaDigSha
import Derived.Test.YtpklkjekkbpeoaaGRow
import Derived.Test.YtpklkjekkbpeoaaSegMem
import Derived.Laws.Tables
import Derived.Deep.WholeRow
import Derived.Deep.MidRow
import Derived.Great.BuildSlice
import Derived.Deep.LoopGhost
import Derived.Deep.Cut
import Derived.Deep.CutRange
namespace Go.Proofs.Ytpklkjekkbpeoaa
open Go.RowKit
set_option linter.unusedVariables false
set_option linter.unusedSimpArgs false
attribute [local irreducible] wpList Code.wp

def bytK : GR.Kind UInt8 where
  e := 5
  s := 1
  b := 1
  enc := fun x => [.int .u8 (bv x)]
  len := fun _ => rfl
  one := fun x u hu => by
    simp only [List.mem_cons, List.not_mem_nil, or_false] at hu
    subst hu
    rfl
  hs := by omega
  hb := by omega
theorem byte_info : (Try.prog.info? 5).map (fun i => (i.zero, i.size, i.bytes)) = some (some (.int .u8 0), 1, 1) := by kernel_rfl
theorem byt_lit (w : World) (x : UInt8) : GR.Own bytK (w.alloc (.cells #[.int .u8 (bv x)] 5)) w.heap.size (.slice (some ⟨w.heap.size, 0, none⟩) 1 1) [x] :=
  World.ownsRow_lit (base := w.heap.size) (e := 5) (size := 1) w #[.int .u8 (bv x)] 1 (Nat.le_refl _) (by simp [maxLen]) rfl
theorem u64_small {n : Nat} (h : n < 18446744073709551616) : IntKind.u64.wrap (n : Int) = (n : Int) := by
  simp only [IntKind.wrap, IntKind.bits, IntKind.signed, Bool.false_and, Bool.false_eq_true, if_false]
  omega
theorem u64_mod (n : Nat) : IntKind.u64.wrap (n : Int) = ((n % 18446744073709551616 : Nat) : Int) := by
  simp only [IntKind.wrap, IntKind.bits, IntKind.signed, Bool.false_and, Bool.false_eq_true, if_false]
  omega
theorem fill_idx (n L : Nat) (hL : L ≤ 65) : ∃ r s q d : Nat, Int.tmod (n : Int) 64 = (r : Int) ∧ IntKind.u64.wrap (L : Int) = (L : Int) ∧ IntKind.u64.wrap ((r : Int) + (L : Int)) = (s : Int) ∧ IntKind.u64.wrap ((s : Int) + 8) = (q : Int) ∧ Int.tmod (q : Int) 64 = (d : Int) ∧
    Hid (d = (n % 64 + L + 8) % 64) := by
  refine ⟨n % 64, n % 64 + L, n % 64 + L + 8, (n % 64 + L + 8) % 64, ?_, u64_small (by omega), ?_, ?_, ?_, rfl⟩
  · rw [Int.tmod_eq_emod_of_nonneg (by omega)]; omega
  · have := u64_small (n := n % 64 + L) (by omega)
    rw [← this]; congr 1
  · have := u64_small (n := n % 64 + L + 8) (by omega)
    rw [← this]; congr 1
  · rw [Int.tmod_eq_emod_of_nonneg (by omega)]; omega
theorem be_idx (v i : Nat) (hi : i < 8) : ∃ k h : Nat, IntKind.i64.wrap (8 * (i : Int)) = (k : Int) ∧ IntKind.i64.wrap (56 - (k : Int)) = (h : Int) ∧ (0 : Int) ≤ (h : Int) ∧ (h : Int) ≤ 64 ∧
    IntKind.u8.wrap ((v : Int) / 2 ^ h) = bv (beB v i) := by
  refine ⟨8 * i, 56 - 8 * i, ?_, ?_, by omega, by omega, ?_⟩
  · rw [IntWalk.i64_in _ (by omega)]; omega
  · rw [IntWalk.i64_in _ (by omega)]; omega
  · have h2 : ((v : Int) / 2 ^ (56 - 8 * i)) = ((v / 2 ^ (56 - 8 * i) : Nat) : Int) := by rw [Int.natCast_ediv, Int.natCast_pow]; rfl
    rw [h2, bv, beB, UInt8.toNat_ofNat']
    simp only [IntKind.wrap, IntKind.bits, IntKind.signed, Bool.false_and, Bool.false_eq_true, if_false]
    omega
set_option maxRecDepth 100000 in
set_option maxHeartbeats 6400000 in
theorem refFill_any (n : Nat) (w : World) :
    Calls Try.prog 56 #[.int .u64 n] w fun e w' => ∃ v, e = .returned v ∧ GR.Own bytK w' w.heap.size v (fillL n) ∧ Below w.heap.size w w' := by
  obtain ⟨i0, hi0, hz0, hz1, hz2⟩ := info_parts byte_info
  have HO := Lib.hid (byt_lit w 128)
  have HB := Lib.hid (bl_alloc (Below.refl w.heap.size w) (.cells #[.int .u8 (bv 128)] 5))
  have hc : (128 : Int) = bv 128 := rfl
  go_enter Try.func56, Try.ntmps56
  go_wp2
  go_loopg [3] (zeros n) (fun gk s3 wx => ∃ (L : Nat) (A : Option Addr) (c : Nat), L ≤ zeros n + 1 ∧ gk = zeros n + 1 - L ∧ s3 = .slice A L c ∧ Hid (1 ≤ L) ∧ Hid (GR.Own bytK wx w.heap.size (.slice A L c) (128 :: List.replicate (L - 1) 0)) ∧ Hid (Below w.heap.size w wx))
  case atStart => exact ⟨1, _, 1, by omega, by omega, rfl, Lib.hid (Nat.le_refl _), HO, HB⟩
  case round =>
    clear HO HB hc
    obtain ⟨L, A, c, hL, rfl, rfl, h1L, ho, hb⟩ := hrel
    have hz64 := zeros_lt n
    obtain ⟨r, s, q, d, e0, e1, e2, e3, e4, hd⟩ := fill_idx n L (by omega)
    by_cases hd0 : d = 0
    · have HZ := Lib.hid (show L = zeros n + 1 by
        have h2 := h1L.out
        rcases Nat.lt_or_ge L (zeros n + 1) with h | h
        · have h3 := zeros_not (n := n) (z := L - 1) (by omega)
          rw [show 1 + (L - 1) = L by omega] at h3
          exact absurd (hd.out.symm.trans hd0) h3
        · omega)
      have b0 : ((d : Int) != 0) = false := by rw [hd0]; rfl
      clear hd0 hd hz64
      have HLz := Lib.hid (show 128 :: List.replicate (L - 1) (0 : UInt8) = 128 :: List.replicate (zeros n) 0 by rw [HZ.out, Nat.add_sub_cancel])
      rw [HLz.out] at ho
      have HL1 := Lib.hid (show L ≤ 64 from by have := HZ.out; have := zeros_lt n; omega)
      obtain ⟨V, hV⟩ : ∃ V, V = 8 * n % 18446744073709551616 := ⟨_, rfl⟩
      have ev : IntKind.u64.wrap (8 * (n : Int)) = (V : Int) := by
        rw [hV, ← u64_mod]; rfl
      have HV := Lib.hid hV
      have HW := Lib.hid (show wr = wr from rfl)
      clear hV hL
      go_wp2
      go_loopg [3, 5] 8 (fun gk s3 s5 wx => ∃ (i M : Nat) (A : Option Addr) (c : Nat), i ≤ 8 ∧ gk = 8 - i ∧ s5 = .int .i64 i ∧ s3 = .slice A M c ∧ Hid (M = L + i) ∧ Hid (GR.Own bytK wx w.heap.size (.slice A M c) (128 :: List.replicate (zeros n) 0 ++ (List.range i).map (beB V))) ∧ Hid (Below w.heap.size w wx))
      case atStart => exact ⟨0, L, A, c, by omega, rfl, rfl, rfl, Lib.hid rfl, Lib.hid (by simpa using ho.out), hb⟩
      case round =>
        clear ho hb HW HLz
        obtain ⟨i, M, A, c, hi, rfl, rfl, rfl, hM, ho, hb⟩ := hrel
        by_cases hlt : i < 8
        · have i0 : (0 : Int) ≤ (i : Int) := by omega
          have i1 : (i : Int) < 8 := by omega
          obtain ⟨k, h, f0, f1, f2, f3, f4⟩ := be_idx V i hlt
          have hlen : ((128 :: List.replicate (zeros n) (0 : UInt8) ++ (List.range i).map (beB V)).length + 1) * 1 ≤ 140737488355328 := by
            have := zeros_lt n
            simp
            omega
          have HLN := Lib.hid hlen
          clear hlen
          go_wp2_with (at_builtin; refine GR.app_one (K := bytK) rfl (.tmp 25) (.tmp 32) _ rfl Try.underlying72 hi0 hz0 hz1 hz2 rfl w.heap.size (.slice A M c) (128 :: List.replicate (zeros n) 0 ++ (List.range i).map (beB V)) (beB V i) rfl ho.out rfl HLN.out hb.out.size ?_; intro v9 w9 ho9 hg9 hat9)
          obtain ⟨A9, c9, e9, hc9, -⟩ := ho9.rd' (by rw [List.length_append]; exact HLN.out)
          have HL9 := Lib.hid (show (128 :: List.replicate (zeros n) (0 : UInt8) ++ (List.range i).map (beB V) ++ [beB V i]).length = M + 1 ∧ 128 :: List.replicate (zeros n) (0 : UInt8) ++ (List.range i).map (beB V) ++ [beB V i] = 128 :: List.replicate (zeros n) (0 : UInt8) ++ (List.range (i + 1)).map (beB V) by
            have := hM.out
            have := HZ.out
            refine ⟨by simp; omega, ?_⟩
            rw [List.range_succ, List.map_append, List.append_assoc]
            rfl)
          rw [HL9.out.1] at e9
          subst e9
          rw [HL9.out.2] at ho9
          have HO9 := Lib.hid ho9
          have HB9 := Lib.hid (bl_of_grown hb.out hg9 (fun b hb => (ho.out.lt b hb).1))
          have HM9 := Lib.hid (show M + 1 = L + (i + 1) by have := hM.out; omega)
          clear ho9 hg9 hat9
          go_wp2
          go_roundg (8 - (i + 1))
          case measure => omega
          case rel => exact ⟨i + 1, M + 1, A9, c9, by omega, rfl, by go_num, rfl, HM9, HO9, HB9⟩
        · obtain rfl : i = 8 := by omega
          have HF := Lib.hid (show 128 :: List.replicate (zeros n) (0 : UInt8) ++ (List.range 8).map (beB V) = fillL n by rw [HV.out]; rfl)
          rw [HF.out] at ho
          go_wp2
          go_ret
          exact ⟨_, rfl, ho.out, hb.out⟩
    · have b0 : ((d : Int) != 0) = true := by simp; omega
      have hne : L < zeros n + 1 := by
        have h2 := h1L.out
        rcases Nat.lt_or_ge L (zeros n + 1) with h | h
        · exact h
        · have h3 := zeros_is (n := n) (z := L - 1) (by omega)
          rw [show 1 + (L - 1) = L by omega] at h3
          exact absurd (hd.out.trans h3) hd0
      clear hd0 hd
      go_wp2_with (at_builtin; refine GR.app_one (K := bytK) rfl (.tmp 16) (.tmp 17) _ rfl Try.underlying72 hi0 hz0 hz1 hz2 rfl w.heap.size (.slice A L c) (128 :: List.replicate (L - 1) 0) (0 : UInt8) rfl ho.out rfl (by have := h1L.out; show ((128 :: List.replicate (L - 1) (0 : UInt8)).length + 1) * 1 ≤ _; simp; omega) hb.out.size ?_; intro v9 w9 ho9 hg9 hat9)
      obtain ⟨A9, c9, e9, hc9, -⟩ := ho9.rd' (by have := h1L.out; show (128 :: List.replicate (L - 1) (0 : UInt8) ++ [0]).length * 1 ≤ _; simp; omega)
      have HL9 := Lib.hid (show (128 :: List.replicate (L - 1) (0 : UInt8) ++ [0]).length = L + 1 ∧ 128 :: List.replicate (L - 1) (0 : UInt8) ++ [0] = 128 :: List.replicate (L + 1 - 1) 0 by
        have := h1L.out
        refine ⟨by simp; omega, ?_⟩
        rw [List.cons_append, show List.replicate (L - 1) (0 : UInt8) ++ [0] = List.replicate (L - 1 + 1) 0 from (List.replicate_succ' ..).symm, show L - 1 + 1 = L + 1 - 1 by omega])
      rw [HL9.out.1] at e9
      subst e9
      rw [HL9.out.2] at ho9
      have HO9 := Lib.hid ho9
      have HB9 := Lib.hid (bl_of_grown hb.out hg9 (fun b hb => (ho.out.lt b hb).1))
      clear ho9 hg9 hat9
      go_wp2
      go_roundg (zeros n + 1 - (L + 1))
      case measure => omega
      case rel => exact ⟨L + 1, A9, c9, by omega, rfl, rfl, Lib.hid (by omega), HO9, HB9⟩
end Go.Proofs.Ytpklkjekkbpeoaa
