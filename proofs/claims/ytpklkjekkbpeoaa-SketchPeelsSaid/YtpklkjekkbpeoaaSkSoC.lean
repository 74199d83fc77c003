/- DERIVED. The library's sort: an insertion sort that gives up. The library's sort: how the parts make up the whole. The library's sort: the recursion. The library's Sort over a row of at most 256 items. (Several texts in one: SkPins, SkFin, SkPdq, SkSortW.) -/
import Derived.Test.YtpklkjekkbpeoaaSkSoA
import Derived.Deep.CutBlock
import Derived.Test.YtpklkjekkbpeoaaSkSoB
import Derived.Sort.AssemblyPlain
import Derived.Test.YtpklkjekkbpeoaaSkSort
namespace Go.Proofs.Ytpklkjekkbpeoaa
open Go.RowKit
set_option linter.unusedVariables false
set_option linter.unusedSimpArgs false
attribute [local irreducible] mixN

theorem scan_stop {b i : Nat} {d : Array It} (h : ¬ i < b ∨ ltI d[i]! d[i - 1]! = true) : Sort.scanSorted ltI d b i = i := by
  unfold Sort.scanSorted
  rw [if_neg]
  rcases h with h | h <;> simp [h]
theorem scan_go {b i : Nat} {d : Array It} (h : i < b) (hl : ltI d[i]! d[i - 1]! = false) : Sort.scanSorted ltI d b i = Sort.scanSorted ltI d b (i + 1) := by
  conv => lhs; unfold Sort.scanSorted
  rw [if_pos (by simp [h, hl])]
theorem sdn_stop {q : Nat} {d : Array It} (hl : ltI d[q + 1]! d[q]! = false) : Sort.shiftDown ltI (q + 1) d = d := by
  unfold Sort.shiftDown; rw [hl]; rfl
theorem sdn_go {q : Nat} {d : Array It} (hl : ltI d[q + 1]! d[q]! = true) : Sort.shiftDown ltI (q + 1) d = Sort.shiftDown ltI q (Sort.swp d (q + 1) q) := by
  conv => lhs; unfold Sort.shiftDown
  rw [hl]; rfl
theorem sup_stop {b j : Nat} {d : Array It} (h : ¬ j < b ∨ ltI d[j]! d[j - 1]! = false) : Sort.shiftUp ltI b j d = d := by
  unfold Sort.shiftUp
  rcases h with h | h
  · rw [if_neg h]
  · rw [h]; simp
theorem sup_go {b j : Nat} {d : Array It} (h : j < b) (hl : ltI d[j]! d[j - 1]! = true) : Sort.shiftUp ltI b j d = Sort.shiftUp ltI b (j + 1) (Sort.swp d j (j - 1)) := by
  conv => lhs; unfold Sort.shiftUp
  rw [if_pos h, hl]; rfl
theorem pi_end {a b s i i2 : Nat} {d : Array It} (h : Sort.scanSorted ltI d b i = i2) (hb : i2 = b) : Sort.partialIns ltI a b (s + 1) i d = (d, true) := by
  unfold Sort.partialIns; simp only [h, hb, if_true]
theorem pi_few {a b s i i2 : Nat} {d : Array It} (h : Sort.scanSorted ltI d b i = i2) (hb : ¬ i2 = b) (hf : b - a < 50) : Sort.partialIns ltI a b (s + 1) i d = (d, false) := by
  unfold Sort.partialIns; simp only [h, if_neg hb, if_pos hf]
theorem pi_next {a b s i i2 : Nat} {d d1 d2 : Array It} (h : Sort.scanSorted ltI d b i = i2) (hb : ¬ i2 = b) (hf : ¬ b - a < 50) (h1 : d1 = if i2 - a ≥ 2 then Sort.shiftDown ltI (i2 - 1) (Sort.swp d i2 (i2 - 1)) else Sort.swp d i2 (i2 - 1)) (h2 : d2 = if b - i2 ≥ 2 then Sort.shiftUp ltI b (i2 + 1) d1 else d1) :
    Sort.partialIns ltI a b (s + 1) i d = Sort.partialIns ltI a b s i2 d2 := by
  conv => lhs; unfold Sort.partialIns
  simp only [h, if_neg hb, if_neg hf]
  rw [h2, h1]
set_option maxRecDepth 100000 in
set_option maxHeartbeats 51200000 in
theorem partial_any (B c cap a b : Nat) (d : Array It) (hab : a < b) (hb : b ≤ d.size) (w : World) (h : Arr w B c cap d) :
    Calls Try.prog 83 #[.slice (some ⟨c, 0, none⟩) d.size cap, .int .i64 (a : Int), .int .i64 (b : Int)] w fun e w' => e = .returned (.bool (Sort.partialInsertionSort ltI d a b).2) ∧ Arr w' B c cap (Sort.partialInsertionSort ltI d a b).1 ∧ w.grownBy w' (some c) := by
  have hs := h.s
  have H := Lib.hid h
  clear h
  obtain ⟨n, hn⟩ : ∃ n, n = d.size := ⟨_, rfl⟩
  rw [← hn] at hb hs ⊢
  have HN := Lib.hid hn
  clear hn
  obtain ⟨sa, hsa⟩ : ∃ sa, sa = a + 1 := ⟨_, rfl⟩
  have e2 : (a : Int) + 1 = (sa : Int) := by omega
  obtain ⟨PR, hPR⟩ : ∃ PR, PR = Sort.partialInsertionSort ltI d a b := ⟨_, rfl⟩
  rw [← hPR]
  have HP := Lib.hid (show Sort.partialIns ltI a b (5 - 0) sa d = PR by rw [hsa]; exact hPR.symm)
  have hsb : a < sa ∧ sa ≤ b := by omega
  clear hsa hPR
  go_enter Try.func83, Try.ntmps83
  go_wp2_with fail
  clear e2
  go_loopw [7, 8] (fun u v w' => ∃ (t i : Nat) (d1 : Array It), t ≤ 5 ∧ a < i ∧ i ≤ b ∧ u = .int .i64 (i : Int) ∧ v = .int .i64 (t : Int) ∧ Hid (d1.size = n) ∧ Hid (Sort.partialIns ltI a b (5 - t) i d1 = PR) ∧ Hid (Arr w' B c cap d1) ∧ Hid (w.grownBy w' (some c))) (fun _ v _ => 5 - (intOf v).toNat)
  case atStart => exact ⟨0, sa, d, Nat.zero_le _, hsb.1, hsb.2, rfl, rfl, Lib.hid HN.out.symm, HP, H, Lib.hid (GR.grown_of_bl (Below.refl _ _) _)⟩
  case round =>
    obtain ⟨W0, hw_⟩ : ∃ x : World, x = wr := ⟨_, rfl⟩
    subst hw_
    obtain ⟨t, i, d1, ht, hai, hib, rfl, rfl, sz, hq, ar, gg⟩ := hrel
    by_cases ht5 : t < 5
    · have k0 : (t : Int) < 5 := by omega
      obtain ⟨s, hs5⟩ : ∃ s, 5 - t = s + 1 := ⟨4 - t, by omega⟩
      have HS5 := Lib.hid hs5
      have HQ := Lib.hid (show Sort.partialIns ltI a b (s + 1) i d1 = PR by rw [← hs5]; exact hq.out)
      clear hs5 hq
      go_upto_block 2 with fail
      go_cut [7] from 17 to 34 (fun u wx => ∃ i2 : Nat, a < i2 ∧ i2 ≤ b ∧ u = .int .i64 (i2 : Int) ∧ Hid (Sort.scanSorted ltI d1 b i = i2) ∧ Hid (Arr wx B c cap d1) ∧ Hid (w.grownBy wx (some c)))
      case first =>
        go_wp2_with fail
        go_loopw [7] (fun u w' => ∃ i2 : Nat, a < i2 ∧ i2 ≤ b ∧ u = .int .i64 (i2 : Int) ∧ Hid (Sort.scanSorted ltI d1 b i = Sort.scanSorted ltI d1 b i2) ∧ Hid (Arr w' B c cap d1) ∧ Hid (w.grownBy w' (some c))) (fun u _ => b - (intOf u).toNat)
        case atStart => exact ⟨i, hai, hib, rfl, Lib.hid rfl, ar, gg⟩
        case round =>
          obtain ⟨W1, hw_⟩ : ∃ x : World, x = wr := ⟨_, rfl⟩
          subst hw_
          obtain ⟨i2, h1, h2, rfl, hsc, ar1, gg1⟩ := hrel
          by_cases hlt : i2 < b
          · have k1 : (i2 : Int) < (b : Int) := by omega
            have k2 : decide ((i2 : Int) < (b : Int)) = true := decide_eq_true k1
            obtain ⟨z, hz⟩ : ∃ z, z = i2 - 1 := ⟨_, rfl⟩
            have e3 : (i2 : Int) - 1 = (z : Int) := by omega
            have q0 : (0 : Int) ≤ (i2 : Int) := by omega
            have q1 : (i2 : Int) < (n : Int) := by omega
            have q2 : (0 : Int) ≤ (z : Int) := by omega
            have q3 : (z : Int) < (n : Int) := by omega
            obtain ⟨a0, _⟩ := ar1.out.at_ i2 (by rw [sz.out]; omega)
            obtain ⟨a1, _⟩ := ar1.out.at_ z (by rw [sz.out]; omega)
            obtain ⟨x, hx⟩ : ∃ x, x = d1[i2]! := ⟨_, rfl⟩
            obtain ⟨y, hy⟩ : ∃ y, y = d1[z]! := ⟨_, rfl⟩
            rw [← hx] at a0
            rw [← hy] at a1
            have HX := Lib.hid (show d1[i2]! = x ∧ d1[i2 - 1]! = y from ⟨hx.symm, by rw [← hz]; exact hy.symm⟩)
            clear hx hy hz
            have o0 := over_cell a0
            have o1 := over_cell a1
            rcases hl : ltI x y with _ | _
            · have hless := less_any x y
              rw [hl] at hless
              have HLT := Lib.hid hl
              clear hl
              go_upto_region 5 with fail
              refine over_region (W := W1) (by kernel_rfl) (by kernel_rfl) (by repeat (first | exact Below.refl _ _ | refine bl_drewN ?_ _ | refine bl_drew ?_ | refine bl_alloc ?_ _)) ?_
              repeat (go_big_quiet_step (exact over_same (hless _)))
              refine wpQuiet_nil ?_
              intro _ hx_
              obtain ⟨x_, hx_⟩ := hx_
              subst hx_
              obtain ⟨w3, hb3⟩ := x_
              dsimp only
              have ar3 := Lib.hid (ar1.out.below hb3)
              have gg3 := Lib.hid (gr_bl gg1.out hb3)
              clear hb3 o0 o1 a0 a1 hless e3
              go_wp2
              go_roundw
              case rel => exact ⟨i2 + 1, by omega, by omega, by go_num, Lib.hid (hsc.out.trans (scan_go hlt (by rw [HX.out.1, HX.out.2]; exact HLT.out))), ar3, gg3⟩
              case measure => simp [intOf]; omega
            · have hless := less_any x y
              rw [hl] at hless
              have HLT := Lib.hid hl
              clear hl
              go_upto_region 5 with fail
              refine over_region (W := W1) (by kernel_rfl) (by kernel_rfl) (by repeat (first | exact Below.refl _ _ | refine bl_drewN ?_ _ | refine bl_drew ?_ | refine bl_alloc ?_ _)) ?_
              repeat (go_big_quiet_step (exact over_same (hless _)))
              refine wpQuiet_nil ?_
              intro _ hx_
              obtain ⟨x_, hx_⟩ := hx_
              subst hx_
              obtain ⟨w3, hb3⟩ := x_
              dsimp only
              have ar3 := Lib.hid (ar1.out.below hb3)
              have gg3 := Lib.hid (gr_bl gg1.out hb3)
              clear hb3 o0 o1 a0 a1 hless e3
              go_wp2
              go_meet
              case rel => exact ⟨i2, h1, h2, rfl, Lib.hid (hsc.out.trans (scan_stop (.inr (by rw [HX.out.1, HX.out.2]; exact HLT.out)))), ar3, gg3⟩
          · have k2 : decide ((i2 : Int) < (b : Int)) = false := decide_eq_false (by omega)
            go_upto_region 5 with fail
            refine over_region (W := W1) (by kernel_rfl) (by kernel_rfl) (by repeat (first | exact Below.refl _ _ | refine bl_drewN ?_ _ | refine bl_drew ?_ | refine bl_alloc ?_ _)) ?_
            repeat (go_big_quiet_step (fail))
            refine wpQuiet_nil ?_
            intro _ hx_
            obtain ⟨x_, hx_⟩ := hx_
            subst hx_
            obtain ⟨w3, hb3⟩ := x_
            dsimp only
            have ar3 := Lib.hid (ar1.out.below hb3)
            have gg3 := Lib.hid (gr_bl gg1.out hb3)
            clear hb3
            go_wp2
            go_meet
            case rel => exact ⟨i2, h1, h2, rfl, Lib.hid (hsc.out.trans (scan_stop (.inl hlt))), ar3, gg3⟩
      case rest =>
        obtain ⟨i2, h1, h2, rfl, hsc, ar1, gg1⟩ := hcut
        obtain ⟨W1, hw_⟩ : ∃ x : World, x = wc := ⟨_, rfl⟩
        subst hw_
        by_cases hib2 : i2 = b
        · have HR := Lib.hid (show PR = (d1, true) from HQ.out.symm.trans (pi_end hsc.out hib2))
          subst hib2
          go_wp2
          go_ret
          have e9 := HR.out
          refine ⟨ret_bool ?_, ?_, gg1.out⟩
          · rw [e9]
          · rw [e9]; exact ar1.out
        · have k1 : ¬ (i2 : Int) = (b : Int) := by omega
          have k1b : ((i2 : Int) == (b : Int)) = false := by simpa using k1
          obtain ⟨l, hl⟩ : ∃ l, l = b - a := ⟨_, rfl⟩
          have e4 : (b : Int) - (a : Int) = (l : Int) := by omega
          by_cases h50 : l < 50
          · have HR := Lib.hid (show PR = (d1, false) from HQ.out.symm.trans (pi_few hsc.out hib2 (by omega)))
            have k2 : (l : Int) < 50 := by omega
            clear hl
            go_wp2
            go_ret
            have e9 := HR.out
            refine ⟨ret_bool ?_, ?_, gg1.out⟩
            · rw [e9]
            · rw [e9]; exact ar1.out
          · have k2 : ¬ (l : Int) < 50 := by omega
            have hi2b : i2 < b := by omega
            have HIB := Lib.hid (show ¬ i2 = b ∧ ¬ b - a < 50 from ⟨hib2, by omega⟩)
            obtain ⟨z, hz⟩ : ∃ z, z = i2 - 1 := ⟨_, rfl⟩
            have e3 : (i2 : Int) - 1 = (z : Int) := by omega
            have q0 : (0 : Int) ≤ (i2 : Int) := by omega
            have q1 : (i2 : Int) < (n : Int) := by omega
            have q2 : (0 : Int) ≤ (z : Int) := by omega
            have q3 : (z : Int) < (n : Int) := by omega
            have ne1 : i2 ≠ z := by omega
            have ne2 : z ≠ i2 := by omega
            obtain ⟨a0, f0⟩ := ar1.out.at_ i2 (by rw [sz.out]; omega)
            obtain ⟨a1, f1⟩ := ar1.out.at_ z (by rw [sz.out]; omega)
            obtain ⟨x, hx⟩ : ∃ x, x = d1[i2]! := ⟨_, rfl⟩
            obtain ⟨y, hy⟩ : ∃ y, y = d1[z]! := ⟨_, rfl⟩
            rw [← hx] at a0
            rw [← hy] at a1
            have hsw := ar1.out.swp i2 z
            rw [← hx, ← hy] at hsw
            have HZ := Lib.hid hz
            have HL := Lib.hid hl
            clear hx hy hz hl hib2 h50
            go_upto_region 11 with fail
            go_region
            obtain ⟨W2, hw2⟩ : ∃ W2, W2 = ((W1.setCell ⟨c, i2, none⟩ (.int .u64 (y.toNat : Int))).setCell ⟨c, z, none⟩ (.int .u64 (x.toNat : Int))).drew := ⟨_, rfl⟩
            rw [← hw2]
            obtain ⟨D0, hD0⟩ : ∃ D0, D0 = Sort.swp d1 i2 z := ⟨_, rfl⟩
            have A2 := Lib.hid (show Arr W2 B c cap D0 from by rw [hw2, hD0]; exact hsw.drew)
            have G2 := Lib.hid (show w.grownBy W2 (some c) from by rw [hw2]; exact gr_then gg1.out (gr_drew (grown_set2 W1 c i2 z _ _)))
            have S2 := Lib.hid (show D0.size = n from by rw [hD0, Sort.size_swp]; exact sz.out)
            have HD0 := Lib.hid (show D0 = Sort.swp d1 i2 (i2 - 1) from by rw [hD0, HZ.out])
            clear hsw a0 a1 f0 f1 hw2 hD0 k1 k1b k2 e4
            obtain ⟨m1, hm1⟩ : ∃ m1, m1 = i2 - a := ⟨_, rfl⟩
            have e5 : (i2 : Int) - (a : Int) = (m1 : Int) := by omega
            have HM1 := Lib.hid hm1
            have hzn : z < n := by omega
            clear hm1
            obtain ⟨bb, hbb⟩ : ∃ bb : Bool, decide ((2 : Int) ≤ (m1 : Int)) = bb := ⟨_, rfl⟩
            go_upto_if 61 with fail
            clear e5
            go_cut [9] from 62 to 94 (fun u wx => ∃ D1 : Array It, Hid (D1 = if i2 - a ≥ 2 then Sort.shiftDown ltI (i2 - 1) D0 else D0) ∧ Hid (D1.size = n) ∧ Hid (Arr wx B c cap D1) ∧ Hid (w.grownBy wx (some c)))
            case first =>
              have HBB := Lib.hid hbb
              clear hbb
              rcases bb with _ | _
              rotate_left
              · have h2m : 2 ≤ m1 := by have := of_decide_eq_true HBB.out; omega
                have HM := Lib.hid (show i2 - a ≥ 2 by rw [← HM1.out]; exact h2m)
                go_wp2_with fail
                go_loopw [9] (fun u w' => ∃ (q : Nat) (D' : Array It), q ≤ z ∧ u = .int .i64 (q : Int) ∧ Hid (Sort.shiftDown ltI q D' = Sort.shiftDown ltI (i2 - 1) D0) ∧ Hid (D'.size = n) ∧ Hid (Arr w' B c cap D') ∧ Hid (w.grownBy w' (some c))) (fun u _ => (intOf u).toNat)
                case atStart => exact ⟨z, D0, Nat.le_refl _, rfl, Lib.hid (by rw [HZ.out]), S2, A2, G2⟩
                case round =>
                  clear q0 q1 q2 q3 e3
                  obtain ⟨W3, hw_⟩ : ∃ x : World, x = wr := ⟨_, rfl⟩
                  subst hw_
                  obtain ⟨q, D', hqz, rfl, hsh, sz3, ar3, gg3⟩ := hrel
                  by_cases hq1 : 1 ≤ q
                  · have k1 : (1 : Int) ≤ (q : Int) := by omega
                    have k2 : decide ((1 : Int) ≤ (q : Int)) = true := decide_eq_true k1
                    obtain ⟨r, hr⟩ : ∃ r, r + 1 = q := ⟨q - 1, by omega⟩
                    have e6 : (q : Int) - 1 = (r : Int) := by omega
                    have q0 : (0 : Int) ≤ (q : Int) := by omega
                    have q1 : (q : Int) < (n : Int) := by omega
                    have q2 : (0 : Int) ≤ (r : Int) := by omega
                    have q3 : (r : Int) < (n : Int) := by omega
                    have ne3 : q ≠ r := by omega
                    have ne4 : r ≠ q := by omega
                    obtain ⟨a0, f0⟩ := ar3.out.at_ q (by rw [sz3.out]; omega)
                    obtain ⟨a1, f1⟩ := ar3.out.at_ r (by rw [sz3.out]; omega)
                    obtain ⟨x3, hx⟩ : ∃ x3, x3 = D'[q]! := ⟨_, rfl⟩
                    obtain ⟨y3, hy⟩ : ∃ y3, y3 = D'[r]! := ⟨_, rfl⟩
                    rw [← hx] at a0
                    rw [← hy] at a1
                    have HX := Lib.hid (show D'[q]! = x3 ∧ D'[r]! = y3 from ⟨hx.symm, hy.symm⟩)
                    have HRQ := Lib.hid hr
                    clear hx hy hr
                    have o0 := over_cell a0
                    have o1 := over_cell a1
                    rcases hl : ltI x3 y3 with _ | _
                    · have hless := less_any x3 y3
                      rw [hl] at hless
                      have HLT := Lib.hid hl
                      clear hl
                      go_upto_region 16 with fail
                      refine over_region (W := W3) (by kernel_rfl) (by kernel_rfl) (by repeat (first | exact Below.refl _ _ | refine bl_drewN ?_ _ | refine bl_drew ?_ | refine bl_alloc ?_ _)) ?_
                      repeat (go_big_quiet_step (exact over_same (hless _)))
                      refine wpQuiet_nil ?_
                      intro _ hx_
                      obtain ⟨x_, hx_⟩ := hx_
                      subst hx_
                      obtain ⟨w4, hb4⟩ := x_
                      dsimp only
                      have ar4 := Lib.hid (ar3.out.below hb4)
                      have gg4 := Lib.hid (gr_bl gg3.out hb4)
                      clear hb4 o0 o1 a0 a1 f0 f1 hless e6
                      go_wp2
                      go_meet
                      case rel => exact ⟨D', Lib.hid (by
                        rw [if_pos HM.out, ← hsh.out, ← HRQ.out, sdn_stop (by rw [HRQ.out, HX.out.1, HX.out.2]; exact HLT.out)]), sz3, ar4, gg4⟩
                    · have hless := less_any x3 y3
                      rw [hl] at hless
                      have HLT := Lib.hid hl
                      clear hl
                      go_upto_region 16 with fail
                      refine over_region (W := W3) (by kernel_rfl) (by kernel_rfl) (by repeat (first | exact Below.refl _ _ | refine bl_drewN ?_ _ | refine bl_drew ?_ | refine bl_alloc ?_ _)) ?_
                      repeat (go_big_quiet_step (exact over_same (hless _)))
                      refine wpQuiet_nil ?_
                      intro _ hx_
                      obtain ⟨x_, hx_⟩ := hx_
                      subst hx_
                      obtain ⟨w4, hb4⟩ := x_
                      dsimp only
                      have ar4 := Lib.hid (ar3.out.below hb4)
                      have gg4 := Lib.hid (gr_bl gg3.out hb4)
                      obtain ⟨b0, g0⟩ := ar4.out.at_ q (by rw [sz3.out]; omega)
                      obtain ⟨b1, g1⟩ := ar4.out.at_ r (by rw [sz3.out]; have := HRQ.out; omega)
                      rw [HX.out.1] at b0
                      rw [HX.out.2] at b1
                      have hsw := ar4.out.swp q r
                      rw [HX.out.1, HX.out.2] at hsw
                      have AS := Lib.hid hsw.drew
                      have GS := Lib.hid (gr_then gg4.out (gr_drew (grown_set2 w4 c q r (.int .u64 (y3.toNat : Int)) (.int .u64 (x3.toNat : Int)))))
                      clear hb4 o0 o1 a0 a1 f0 f1 hless hsw
                      go_upto_region 17 with fail
                      go_region
                      clear b0 b1 g0 g1
                      go_wp2
                      go_roundw
                      case rel => exact ⟨r, _, by have := HRQ.out; omega, by first | rfl | go_num, Lib.hid ((show Sort.shiftDown ltI r (Sort.swp D' q r) = Sort.shiftDown ltI q D' from by
                        have h := HRQ.out
                        have e := sdn_go (q := r) (d := D') (by rw [h, HX.out.1, HX.out.2]; exact HLT.out)
                        rw [h] at e
                        exact e.symm).trans hsh.out), Lib.hid (by rw [Sort.size_swp]; exact sz3.out), AS, GS⟩
                      case measure => (have := HRQ.out; simp [intOf]; omega)
                  · have k2 : decide ((1 : Int) ≤ (q : Int)) = false := decide_eq_false (by omega)
                    have k1 : ¬ (1 : Int) ≤ (q : Int) := by omega
                    obtain rfl : q = 0 := by omega
                    go_wp2
                    go_meet
                    case rel => exact ⟨D', Lib.hid (by rw [if_pos HM.out, ← hsh.out]; rfl), sz3, ar3, gg3⟩
              · have h2m : ¬ 2 ≤ m1 := by have := of_decide_eq_false HBB.out; omega
                have HM := Lib.hid (show ¬ i2 - a ≥ 2 by rw [← HM1.out]; exact h2m)
                go_wp2
                go_meet
                case rel => exact ⟨D0, Lib.hid (by rw [if_neg HM.out]), S2, A2, G2⟩
            case rest =>
              clear hbb
              obtain ⟨D1, HD1, S3, A3, G3⟩ := hcut
              obtain ⟨W4, hw_⟩ : ∃ x : World, x = wc := ⟨_, rfl⟩
              subst hw_
              clear A2 G2 S2 q0 q1 q2 q3
              obtain ⟨m2, hm2⟩ : ∃ m2, m2 = b - i2 := ⟨_, rfl⟩
              have e5 : (b : Int) - (i2 : Int) = (m2 : Int) := by omega
              clear e3
              have HM2 := Lib.hid hm2
              clear hm2
              have HN2 : ∀ D2 : Array It, D2 = (if b - i2 ≥ 2 then Sort.shiftUp ltI b (i2 + 1) D1 else D1) → Hid (Sort.partialIns ltI a b (5 - (t + 1)) i2 D2 = PR) := by
                intro D2 HD2
                have hs4 : 5 - (t + 1) = s := by have := HS5.out; omega
                have hd1 : D1 = if i2 - a ≥ 2 then Sort.shiftDown ltI (i2 - 1) (Sort.swp d1 i2 (i2 - 1)) else Sort.swp d1 i2 (i2 - 1) := by rw [← HD0.out]; exact HD1.out
                exact Lib.hid (by rw [hs4, ← HQ.out, pi_next hsc.out HIB.out.1 HIB.out.2 hd1 HD2])
              go_upto_if 98 with fail
              clear e5
              by_cases h2m : 2 ≤ m2
              · have k1 : (2 : Int) ≤ (m2 : Int) := by omega
                have k2 : decide ((2 : Int) ≤ (m2 : Int)) = true := decide_eq_true k1
                have HM := Lib.hid (show b - i2 ≥ 2 by rw [← HM2.out]; exact h2m)
                obtain ⟨i3, hi3⟩ : ∃ i3, i3 = i2 + 1 := ⟨_, rfl⟩
                have e7 : (i2 : Int) + 1 = (i3 : Int) := by omega
                have hi3b : i3 ≤ b ∧ 1 ≤ i3 := by omega
                have HI3 := Lib.hid hi3
                clear hi3
                go_wp2_with fail
                clear e7
                go_loopw [10] (fun u w' => ∃ (q : Nat) (D' : Array It), 1 ≤ q ∧ q ≤ b ∧ u = .int .i64 (q : Int) ∧ Hid (Sort.shiftUp ltI b q D' = Sort.shiftUp ltI b (i2 + 1) D1) ∧ Hid (D'.size = n) ∧ Hid (Arr w' B c cap D') ∧ Hid (w.grownBy w' (some c))) (fun u _ => b - (intOf u).toNat)
                case atStart => exact ⟨i3, D1, hi3b.2, hi3b.1, rfl, Lib.hid (by rw [HI3.out]), S3, A3, G3⟩
                case round =>
                  clear k1 k2
                  obtain ⟨W3, hw_⟩ : ∃ x : World, x = wr := ⟨_, rfl⟩
                  subst hw_
                  obtain ⟨q, D', hq1, hqb, rfl, hsh, sz3, ar3, gg3⟩ := hrel
                  by_cases hlt : q < b
                  · have k1 : (q : Int) < (b : Int) := by omega
                    have k2 : decide ((q : Int) < (b : Int)) = true := decide_eq_true k1
                    obtain ⟨r, hr⟩ : ∃ r, r = q - 1 := ⟨_, rfl⟩
                    have e6 : (q : Int) - 1 = (r : Int) := by omega
                    have q0 : (0 : Int) ≤ (q : Int) := by omega
                    have q1 : (q : Int) < (n : Int) := by omega
                    have q2 : (0 : Int) ≤ (r : Int) := by omega
                    have q3 : (r : Int) < (n : Int) := by omega
                    have ne3 : q ≠ r := by omega
                    have ne4 : r ≠ q := by omega
                    obtain ⟨a0, f0⟩ := ar3.out.at_ q (by rw [sz3.out]; omega)
                    obtain ⟨a1, f1⟩ := ar3.out.at_ r (by rw [sz3.out]; omega)
                    obtain ⟨x3, hx⟩ : ∃ x3, x3 = D'[q]! := ⟨_, rfl⟩
                    obtain ⟨y3, hy⟩ : ∃ y3, y3 = D'[r]! := ⟨_, rfl⟩
                    rw [← hx] at a0
                    rw [← hy] at a1
                    have HX := Lib.hid (show D'[q]! = x3 ∧ D'[r]! = y3 from ⟨hx.symm, hy.symm⟩)
                    have HRQ := Lib.hid hr
                    clear hx hy hr
                    have o0 := over_cell a0
                    have o1 := over_cell a1
                    rcases hl : ltI x3 y3 with _ | _
                    · have hless := less_any x3 y3
                      rw [hl] at hless
                      have HLT := Lib.hid hl
                      clear hl
                      go_upto_region 22 with fail
                      refine over_region (W := W3) (by kernel_rfl) (by kernel_rfl) (by repeat (first | exact Below.refl _ _ | refine bl_drewN ?_ _ | refine bl_drew ?_ | refine bl_alloc ?_ _)) ?_
                      repeat (go_big_quiet_step (exact over_same (hless _)))
                      refine wpQuiet_nil ?_
                      intro _ hx_
                      obtain ⟨x_, hx_⟩ := hx_
                      subst hx_
                      obtain ⟨w4, hb4⟩ := x_
                      dsimp only
                      have ar4 := Lib.hid (ar3.out.below hb4)
                      have gg4 := Lib.hid (gr_bl gg3.out hb4)
                      clear hb4 o0 o1 a0 a1 f0 f1 hless e6
                      go_wp2
                      have HN3 := HN2 D' (by
                        rw [if_pos HM.out, ← hsh.out, sup_stop (.inr (by rw [← HRQ.out, HX.out.1, HX.out.2]; exact HLT.out))])
                      go_roundw
                      case rel => exact ⟨t + 1, i2, D', by omega, h1, h2, rfl, by go_num, sz3, HN3, ar4, gg4⟩
                      case measure => (clear HN2 HN3; simp [intOf]; omega)
                    · have hless := less_any x3 y3
                      rw [hl] at hless
                      have HLT := Lib.hid hl
                      clear hl
                      go_upto_region 22 with fail
                      refine over_region (W := W3) (by kernel_rfl) (by kernel_rfl) (by repeat (first | exact Below.refl _ _ | refine bl_drewN ?_ _ | refine bl_drew ?_ | refine bl_alloc ?_ _)) ?_
                      repeat (go_big_quiet_step (exact over_same (hless _)))
                      refine wpQuiet_nil ?_
                      intro _ hx_
                      obtain ⟨x_, hx_⟩ := hx_
                      subst hx_
                      obtain ⟨w4, hb4⟩ := x_
                      dsimp only
                      have ar4 := Lib.hid (ar3.out.below hb4)
                      have gg4 := Lib.hid (gr_bl gg3.out hb4)
                      obtain ⟨b0, g0⟩ := ar4.out.at_ q (by rw [sz3.out]; omega)
                      obtain ⟨b1, g1⟩ := ar4.out.at_ r (by rw [sz3.out]; have := HRQ.out; omega)
                      rw [HX.out.1] at b0
                      rw [HX.out.2] at b1
                      have hsw := ar4.out.swp q r
                      rw [HX.out.1, HX.out.2] at hsw
                      have AS := Lib.hid hsw.drew
                      have GS := Lib.hid (gr_then gg4.out (gr_drew (grown_set2 w4 c q r (.int .u64 (y3.toNat : Int)) (.int .u64 (x3.toNat : Int)))))
                      clear hb4 o0 o1 a0 a1 f0 f1 hless hsw
                      go_upto_region 23 with fail
                      go_region
                      clear b0 b1 g0 g1 e6
                      go_wp2
                      go_roundw
                      case rel => exact ⟨q + 1, _, by omega, by omega, by go_num, Lib.hid ((show Sort.shiftUp ltI b (q + 1) (Sort.swp D' q r) = Sort.shiftUp ltI b q D' from by
                        have e := sup_go (j := q) (d := D') hlt (by rw [← HRQ.out, HX.out.1, HX.out.2]; exact HLT.out)
                        rw [← HRQ.out] at e
                        exact e.symm).trans hsh.out), Lib.hid (by rw [Sort.size_swp]; exact sz3.out), AS, GS⟩
                      case measure => simp [intOf]; omega
                  · have k2 : decide ((q : Int) < (b : Int)) = false := decide_eq_false (by omega)
                    have k1 : ¬ (q : Int) < (b : Int) := by omega
                    go_wp2
                    have HN3 := HN2 D' (by rw [if_pos HM.out, ← hsh.out, sup_stop (.inl hlt)])
                    go_roundw
                    case rel => exact ⟨t + 1, i2, D', by omega, h1, h2, rfl, by go_num, sz3, HN3, ar3, gg3⟩
                    case measure => (clear HN2 HN3; simp [intOf]; omega)
              · have k1 : ¬ (2 : Int) ≤ (m2 : Int) := by omega
                have k2 : decide ((2 : Int) ≤ (m2 : Int)) = false := decide_eq_false k1
                have HM := Lib.hid (show ¬ b - i2 ≥ 2 by rw [← HM2.out]; exact h2m)
                go_wp2
                have HN3 := HN2 D1 (by rw [if_neg HM.out])
                go_roundw
                case rel => exact ⟨t + 1, i2, D1, by omega, h1, h2, rfl, by go_num, S3, HN3, A3, G3⟩
                case measure => (clear HN2 HN3; simp [intOf]; omega)
    · obtain rfl : t = 5 := by omega
      have HR := Lib.hid (show PR = (d1, false) from hq.out.symm)
      go_wp2
      go_ret
      have e9 := HR.out
      refine ⟨ret_bool ?_, ?_, gg.out⟩
      · rw [e9]
      · rw [e9]; exact ar.out
end Go.Proofs.Ytpklkjekkbpeoaa

namespace Go.Proofs.Ytpklkjekkbpeoaa
open Go.RowKit
set_option linter.unusedVariables false
set_option linter.unusedSimpArgs false
attribute [local irreducible] mixN

theorem ltI_t {x y : It} : ltI x y = true ↔ x.toNat < y.toNat := by simp [ltI]
theorem ltI_f {x y : It} : ltI x y = false ↔ y.toNat ≤ x.toNat := by simp [ltI]
/-- d' is d with [a, b) sorted. -/
def Fin2 (a b : Nat) (d d' : Array It) : Prop := Sort.PermIn a b d d' ∧ Sort.SortedIn ltI a b d'
theorem fin_ins {a b : Nat} {d : Array It} (h : a ≤ b) (hb : b ≤ d.size) : Fin2 a b d (Sort.insertionSort ltI d a b) := Sort.insertionSort_holds ltI_swo d a b h hb
theorem fin_heap {a b : Nat} {d : Array It} (h : a ≤ b) (hb : b ≤ d.size) : Fin2 a b d (Sort.heapSort ltI d a b) := Sort.heapSort_holds ltI_swo d a b h hb
theorem fin_perm {a b : Nat} {d d1 d2 : Array It} (h : Sort.PermIn a b d d1) (k : Fin2 a b d1 d2) : Fin2 a b d d2 := ⟨Sort.permIn_trans _ _ _ _ _ h k.1, k.2⟩
theorem fin_trivial {a b : Nat} {d : Array It} (h : b ≤ a) : Fin2 a b d d := ⟨Sort.permIn_refl _ _ _, fun i j _ _ _ => by omega⟩
theorem below_nat {a b : Nat} {d : Array It} (h : Sort.Below ltI a b d) (ha : 0 < a) (i : Nat) (h1 : a ≤ i) (h2 : i < b) : d[a - 1]!.toNat ≤ d[i]!.toNat := by
  rcases h with h | h
  · omega
  · exact ltI_f.1 (h i h1 h2)
theorem eq_round {a b m p : Nat} {d d1 : Array It} (hB : Sort.Below ltI a b d) (ha : 0 < a) (hb : b ≤ d.size) (hp : a ≤ p) (hp2 : p < b) (hnl : ltI d[a - 1]! d[p]! = false) (h : Equaled a b m p d d1) :
    Sort.Below ltI m b d1 ∧ ∀ R, Fin2 m b d1 R → Fin2 a b d R := by
  have am := h.am
  have mb := h.mb
  have hs : d1.size = d.size := h.pm.1
  have h1 : d[p]!.toNat ≤ d[a - 1]!.toNat := ltI_f.1 hnl
  have lo : ∀ t, a ≤ t → t < m → d1[t]!.toNat ≤ d[p]!.toNat := fun t x y => ltI_f.1 (h.lo t x y)
  have hi : ∀ t, m ≤ t → t < b → d[p]!.toNat < d1[t]!.toNat := fun t x y => ltI_t.1 (h.hi t x y)
  have ge : ∀ t, a ≤ t → t < b → d[a - 1]!.toNat ≤ d1[t]!.toNat := Sort.permIn_all d d1 a b (fun x => d[a - 1]!.toNat ≤ x.toNat) hb h.pm (fun i x y => below_nat hB ha i x y)
  refine ⟨.inr fun i x y => ltI_f.2 ?_, fun R hR => ⟨Sort.permIn_trans _ _ _ _ _ h.pm (Sort.permIn_mono _ _ m b a b (by omega) (Nat.le_refl _) (by omega) hR.1), fun i j x y z => ltI_f.2 ?_⟩⟩
  · have e1 := lo (m - 1) (by omega) (by omega)
    have e2 := hi i x y
    omega
  · have eq : ∀ t, t < m → R[t]! = d1[t]! := fun t x => hR.1.2.1 t (.inl x)
    by_cases hj : j < m
    · rw [eq i (by omega), eq j hj]
      have e1 := lo i x (by omega)
      have e2 := ge j (by omega) z
      omega
    · by_cases him : i < m
      · have e2 := Sort.permIn_all d1 R m b (fun x => d[p]!.toNat < x.toNat) (by omega) hR.1 hi j (by omega) z
        have e1 := lo i x him
        rw [eq i him]
        exact Nat.le_trans e1 (Nat.le_of_lt e2)
      · exact ltI_f.1 (hR.2 i j (by omega) y z)
theorem part_glue {a b m : Nat} {d d1 R : Array It} (h : Parted a b m d d1) (hb : b ≤ d.size) (hP : Sort.PermIn a b d1 R) (hm : R[m]! = d1[m]!) (hL : Sort.SortedIn ltI a m R) (hR : Sort.SortedIn ltI (m + 1) b R)
    (lo : ∀ t, a ≤ t → t < m → ltI R[t]! d1[m]! = true) (hi : ∀ t, m + 1 ≤ t → t < b → ltI R[t]! d1[m]! = false) : Fin2 a b d R :=
  ⟨Sort.permIn_trans _ _ _ _ _ h.p hP, Sort.sorted_glue ltI_swo hL hR (fun t x y => by rw [hm]; exact lo t x y) (fun t x y => by rw [hm]; exact hi t (by omega) y)⟩
theorem part_left {a b m : Nat} {d d1 L : Array It} (hb : b ≤ d.size) (h : Parted a b m d d1) (k : Fin2 a m d1 L) :
    Sort.Below ltI (m + 1) b L ∧ ∀ R, Fin2 (m + 1) b L R → Fin2 a b d R := by
  have am := h.am
  have mb := h.mb
  have hs : d1.size = d.size := h.p.1
  have hsL : L.size = d1.size := k.1.1
  have eL : ∀ t, m ≤ t → L[t]! = d1[t]! := fun t x => k.1.2.1 t (.inr x)
  refine ⟨.inr fun i x y => ?_, fun R hR => ?_⟩
  · rw [Nat.add_sub_cancel, eL i (by omega), eL m (Nat.le_refl _)]
    exact h.hi i (by omega) y
  · have eR : ∀ t, t < m + 1 → R[t]! = L[t]! := fun t x => hR.1.2.1 t (.inl x)
    refine part_glue h hb (Sort.permIn_trans _ _ _ _ _ (Sort.permIn_mono _ _ a m a b (Nat.le_refl _) (by omega) (by omega) k.1) (Sort.permIn_mono _ _ (m + 1) b a b (by omega) (Nat.le_refl _) (by omega) hR.1)) ?_ (k.2.congr fun i x y => eR i (by omega)) hR.2 (fun t x y => ?_) ?_
    · rw [eR m (by omega), eL m (Nat.le_refl _)]
    · rw [eR t (by omega)]
      exact Sort.permIn_all d1 L a m (fun x => ltI x d1[m]! = true) (by omega) k.1 h.lo t x y
    · exact Sort.permIn_all L R (m + 1) b (fun x => ltI x d1[m]! = false) (by omega) hR.1 (fun t x y => by rw [eL t (by omega)]; exact h.hi t (by omega) y)
theorem part_right {a b m : Nat} {d d1 L : Array It} (hB : Sort.Below ltI a b d) (hb : b ≤ d.size) (h : Parted a b m d d1) (k : Fin2 (m + 1) b d1 L) :
    Sort.Below ltI a m L ∧ ∀ R, Fin2 a m L R → Fin2 a b d R := by
  have am := h.am
  have mb := h.mb
  have hs : d1.size = d.size := h.p.1
  have hsL : L.size = d1.size := k.1.1
  have eL : ∀ t, t < m + 1 → L[t]! = d1[t]! := fun t x => k.1.2.1 t (.inl x)
  refine ⟨?_, fun R hR => ?_⟩
  · rcases (hB.perm hb h.p).mono (b' := m) (by omega) with h0 | h0
    · exact .inl h0
    · refine .inr fun i x y => ?_
      rw [eL i (by omega), eL (a - 1) (by omega)]
      exact h0 i x y
  · have eR : ∀ t, m ≤ t → R[t]! = L[t]! := fun t x => hR.1.2.1 t (.inr x)
    refine part_glue h hb (Sort.permIn_trans _ _ _ _ _ (Sort.permIn_mono _ _ (m + 1) b a b (by omega) (Nat.le_refl _) (by omega) k.1) (Sort.permIn_mono _ _ a m a b (Nat.le_refl _) (by omega) (by omega) hR.1)) ?_ hR.2 (k.2.congr fun i x y => eR i (by omega)) ?_ (fun t x y => ?_)
    · rw [eR m (Nat.le_refl _), eL m (by omega)]
    · exact Sort.permIn_all L R a m (fun x => ltI x d1[m]! = true) (by omega) hR.1 (fun t x y => by rw [eL t (by omega)]; exact h.lo t x y)
    · rw [eR t (by omega)]
      exact Sort.permIn_all d1 L (m + 1) b (fun x => ltI x d1[m]! = false) (by omega) k.1 (fun t x y => h.hi t (by omega) y) t x y
theorem below_part {a b m : Nat} {d d1 : Array It} (hB : Sort.Below ltI a b d) (hb : b ≤ d.size) (h : Parted a b m d d1) : Sort.Below ltI a m d1 ∧ Sort.Below ltI (m + 1) b d1 :=
  ⟨(hB.perm hb h.p).mono (by have := h.mb; omega), .inr fun i x y => by rw [Nat.add_sub_cancel]; exact h.hi i (by omega) y⟩
theorem pins_perm {a b : Nat} {d : Array It} (h : a < b) (hb : b ≤ d.size) (hB : Sort.Below ltI a b d) : Sort.PermIn a b d (Sort.partialInsertionSort ltI d a b).1 := (Sort.partialInsertionSort_holds ltI_swo d a b h hb hB).1
theorem pins_fin {a b : Nat} {d : Array It} (h : a < b) (hb : b ≤ d.size) (hB : Sort.Below ltI a b d) (ht : (Sort.partialInsertionSort ltI d a b).2 = true) : Fin2 a b d (Sort.partialInsertionSort ltI d a b).1 :=
  ⟨pins_perm h hb hB, (Sort.partialInsertionSort_holds ltI_swo d a b h hb hB).2 ht⟩
end Go.Proofs.Ytpklkjekkbpeoaa

namespace Go.Proofs.Ytpklkjekkbpeoaa
open Go.RowKit
set_option linter.unusedVariables false
set_option linter.unusedSimpArgs false
attribute [local irreducible] mixN

/-- What the recursion does at a part of at most k items. -/
def PdqOk (B c cap k : Nat) : Prop := ∀ (a b lim : Nat) (d : Array It) (w : World), b - a ≤ k → a ≤ b → b ≤ d.size → lim ≤ 64 → Sort.Below ltI a b d → Arr w B c cap d →
  Calls Try.prog 63 #[.slice (some ⟨c, 0, none⟩) d.size cap, .int .i64 (a : Int), .int .i64 (b : Int), .int .i64 (lim : Int)] w fun e w' => e = .returned (.tuple #[]) ∧ (∃ d', Arr w' B c cap d' ∧ Fin2 a b d d') ∧ w.grownBy w' (some c)
/-- The round's letters. -/
structure Rnd (w w1 : World) (B c cap n a b a1 b1 : Nat) (d d1 : Array It) : Prop where
  s : d1.size = n
  bl_ : Sort.Below ltI a1 b1 d1
  f : ∀ R, Fin2 a1 b1 d1 R → Fin2 a b d R
  ar : Arr w1 B c cap d1
  g : w.grownBy w1 (some c)
theorem Rnd.perm {w w1 w2 : World} {B c cap n a b a1 b1 : Nat} {d d1 d2 : Array It} (h : Rnd w w1 B c cap n a b a1 b1 d d1) (hb : b1 ≤ n) (hp : Sort.PermIn a1 b1 d1 d2) (ha : Arr w2 B c cap d2) (hg : w1.grownBy w2 (some c)) : Rnd w w2 B c cap n a b a1 b1 d d2 :=
  ⟨hp.1.trans h.s, h.bl_.perm (by rw [h.s]; exact hb) hp, fun R hR => h.f R (fin_perm hp hR), ha, gr_then h.g hg⟩
theorem Rnd.bl {w w1 w2 : World} {B c cap n a b a1 b1 : Nat} {d d1 : Array It} (h : Rnd w w1 B c cap n a b a1 b1 d d1) (hg : Below w1.heap.size w1 w2) : Rnd w w2 B c cap n a b a1 b1 d d1 :=
  ⟨h.s, h.bl_, h.f, h.ar.below hg, gr_bl h.g hg⟩
theorem Rnd.bl' {w w1 w2 : World} {B c cap n a b a1 b1 : Nat} {d d1 : Array It} (h : Rnd w w1 B c cap n a b a1 b1 d d1) (ha : Arr w2 B c cap d1) (hg : Below w1.heap.size w1 w2) : Rnd w w2 B c cap n a b a1 b1 d d1 :=
  ⟨h.s, h.bl_, h.f, ha, gr_bl h.g hg⟩
theorem Rnd.eq {w w1 w2 : World} {B c cap n a b a1 b1 m p : Nat} {d d1 d2 : Array It} (h : Rnd w w1 B c cap n a b a1 b1 d d1) (ha : 0 < a1) (hb : b1 ≤ n) (hp : a1 ≤ p) (hp2 : p < b1) (hnl : ltI d1[a1 - 1]! d1[p]! = false) (he : Equaled a1 b1 m p d1 d2) (har : Arr w2 B c cap d2) (hg : w1.grownBy w2 (some c)) :
    Rnd w w2 B c cap n a b m b1 d d2 := by
  have hr := eq_round h.bl_ ha (by rw [h.s]; exact hb) hp hp2 hnl he
  exact ⟨he.pm.1.trans h.s, hr.1, fun R hR => h.f R (hr.2 R hR), har, gr_then h.g hg⟩
theorem Rnd.left {w w1 w2 w3 : World} {B c cap n a b a1 b1 m : Nat} {d d1 d2 d3 : Array It} (h : Rnd w w1 B c cap n a b a1 b1 d d1) (hb : b1 ≤ n) (hp : Parted a1 b1 m d1 d2) (hg : w1.grownBy w2 (some c)) (hk : Fin2 a1 m d2 d3) (har : Arr w3 B c cap d3) (hg2 : w2.grownBy w3 (some c)) :
    Rnd w w3 B c cap n a b (m + 1) b1 d d3 := by
  have hr := part_left (by rw [h.s]; exact hb) hp hk
  exact ⟨(hk.1.1.trans hp.p.1).trans h.s, hr.1, fun R hR => h.f R (hr.2 R hR), har, gr_then h.g (gr_then hg hg2)⟩
theorem Rnd.right {w w1 w2 w3 : World} {B c cap n a b a1 b1 m : Nat} {d d1 d2 d3 : Array It} (h : Rnd w w1 B c cap n a b a1 b1 d d1) (hb : b1 ≤ n) (hp : Parted a1 b1 m d1 d2) (hg : w1.grownBy w2 (some c)) (hk : Fin2 (m + 1) b1 d2 d3) (har : Arr w3 B c cap d3) (hg2 : w2.grownBy w3 (some c)) :
    Rnd w w3 B c cap n a b a1 m d d3 := by
  have hr := part_right h.bl_ (by rw [h.s]; exact hb) hp hk
  exact ⟨(hk.1.1.trans hp.p.1).trans h.s, hr.1, fun R hR => h.f R (hr.2 R hR), har, gr_then h.g (gr_then hg hg2)⟩
set_option maxRecDepth 100000 in
set_option maxHeartbeats 51200000 in
theorem pdq_step (B c cap k : Nat) (ih : ∀ k' < k, PdqOk B c cap k') : PdqOk B c cap k := by
  intro a b lim d w hk hab hb hlim hB h
  have hs := h.s
  have HIH := Lib.hid ih
  clear ih
  obtain ⟨n, hn⟩ : ∃ n, n = d.size := ⟨_, rfl⟩
  rw [← hn] at hb hs ⊢
  have HR0 := Lib.hid (show Rnd w w B c cap n a b a b d d from ⟨hn.symm, hB, fun R hR => hR, h, GR.grown_of_bl (Below.refl _ _) _⟩)
  clear h hB hn
  have HAB := Lib.hid hab
  clear hab
  go_enter Try.func63, Try.ntmps63
  go_wp2_with fail
  go_loopw [1, 2, 3, 8, 9] (fun s1 s2 s3 s8 s9 w' => ∃ (a1 b1 l1 : Nat) (t8 t9 : Bool) (d1 : Array It), a ≤ a1 ∧ a1 ≤ b1 ∧ b1 ≤ b ∧ l1 ≤ 64 ∧ s1 = .int .i64 (a1 : Int) ∧ s2 = .int .i64 (b1 : Int) ∧ s3 = .int .i64 (l1 : Int) ∧ s8 = .bool t8 ∧ s9 = .bool t9 ∧ Hid (Rnd w w' B c cap n a b a1 b1 d d1)) (fun s1 s2 _ _ _ _ => (intOf s2).toNat - (intOf s1).toNat)
  case atStart => exact ⟨a, b, lim, true, true, d, Nat.le_refl _, HAB.out, Nat.le_refl _, hlim, rfl, rfl, rfl, rfl, rfl, HR0⟩
  case round =>
    obtain ⟨W0, hw_⟩ : ∃ x : World, x = wr := ⟨_, rfl⟩
    subst hw_
    clear HR0
    obtain ⟨a1, b1, l1, t8, t9, d1, ha1, hab1, hb1, hl1, rfl, rfl, rfl, rfl, rfl, R1⟩ := hrel
    obtain ⟨L, hL⟩ : ∃ L, L = b1 - a1 := ⟨_, rfl⟩
    have e1 : (b1 : Int) - (a1 : Int) = (L : Int) := by omega
    have HL := Lib.hid hL
    clear hL
    by_cases h12 : L ≤ 12
    · have k1 : (L : Int) ≤ 12 := by omega
      have h1 := insertion_any B c cap a1 b1 d1 hab1 (by rw [R1.out.s]; omega) W0 R1.out.ar
      rw [R1.out.s] at h1
      go_wp2_with fail
      refine (h1).mono ?_
      rintro e w2 ⟨rfl, ar2, s2, g2⟩
      have AR := Lib.hid ar2
      have GG := Lib.hid (gr_then R1.out.g g2)
      clear ar2 g2 h1 s2
      go_wp2
      first | go_end0 | refine bodyPost_ret (results_none rfl _ _ _) rfl ?_
      exact ⟨rfl, ⟨_, AR.out, R1.out.f _ (fin_ins hab1 (by rw [R1.out.s]; omega))⟩, GG.out⟩
    · have k1 : ¬ (L : Int) ≤ 12 := by omega
      have hab2 : a1 + 12 < b1 := by have := HL.out; omega
      by_cases h0 : l1 = 0
      · subst h0
        have h1 := heap_any B c cap a1 b1 d1 (by omega) (by rw [R1.out.s]; omega) W0 R1.out.ar
        rw [R1.out.s] at h1
        go_wp2_with fail
        refine (h1).mono ?_
        rintro e w2 ⟨rfl, ar2, s2, g2⟩
        have AR := Lib.hid ar2
        have GG := Lib.hid (gr_then R1.out.g g2)
        clear ar2 g2 h1 s2
        go_wp2
        first | go_end0 | refine bodyPost_ret (results_none rfl _ _ _) rfl ?_
        exact ⟨rfl, ⟨_, AR.out, R1.out.f _ (fin_heap hab1 (by rw [R1.out.s]; omega))⟩, GG.out⟩
      · have k2 : ((l1 : Int) == 0) = false := by simpa using h0
        have k3 : decide ((l1 : Int) = 0) = false := by simpa using h0
        go_upto_if 35 with fail
        go_cut [3] from 36 to 41 (fun u wx => ∃ (l2 : Nat) (d2 : Array It), l2 ≤ 64 ∧ u = .int .i64 (l2 : Int) ∧ Hid (Rnd w wx B c cap n a b a1 b1 d d2))
        case first =>
          rcases t8 with _ | _
          · obtain ⟨z, hz⟩ : ∃ z, z + 1 = l1 := ⟨l1 - 1, by omega⟩
            have e2 : (l1 : Int) - 1 = (z : Int) := by omega
            have hz64 : z ≤ 64 := by omega
            clear hz
            have h1 := break_any B c cap a1 b1 d1 hab2 (by rw [R1.out.s]; omega) W0 R1.out.ar
            rw [R1.out.s] at h1
            go_wp2_with fail
            refine (h1).mono ?_
            rintro e w2 ⟨rfl, ⟨d2, ar2, p2⟩, g2⟩
            have R2 := Lib.hid (R1.out.perm (by omega) p2 ar2 g2)
            clear ar2 g2 p2 h1
            go_wp2
            go_meet
            case rel => exact ⟨z, d2, hz64, by first | rfl | go_num, R2⟩
          · go_wp2
            go_meet
            case rel => exact ⟨l1, d1, hl1, rfl, R1⟩
        case rest =>
          obtain ⟨W1, hw_⟩ : ∃ x : World, x = wc := ⟨_, rfl⟩
          subst hw_
          clear k2 k3 R1 h0
          obtain ⟨l2, d2, hl2, rfl, R2⟩ := hcut
          have h1 := pivot_any B c cap a1 b1 d2 hab2 (by rw [R2.out.s]; omega) W1 R2.out.ar
          rw [R2.out.s] at h1
          go_wp2_with fail
          refine (h1).mono ?_
          rintro e w2 ⟨⟨p, t, rfl, hp1, hp2, ht⟩, ar2, g2⟩
          have R3 := Lib.hid (R2.out.bl' ar2 g2)
          have HT := Lib.hid ht
          clear h1 ar2 g2 R2 ht
          obtain ⟨bb, hbb⟩ : ∃ bb : Bool, (t == 2) = bb := ⟨_, rfl⟩
          go_upto_if 50 with fail
          go_cut [11, 12] from 51 to 60 (fun u v wx => ∃ (p : Nat) (t : Int) (d3 : Array It), a1 ≤ p ∧ p < b1 ∧ u = .int .i64 (p : Int) ∧ v = .int .i64 t ∧ Hid (t = 0 ∨ t = 1 ∨ t = 2) ∧ Hid (Rnd w wx B c cap n a b a1 b1 d d3))
          case first =>
            have HBB := Lib.hid hbb
            clear hbb
            rcases bb with _ | _
            · go_wp2
              go_meet
              case rel => exact ⟨p, t, d2, hp1, hp2, rfl, rfl, HT, R3⟩
            · have h1 := reverse_any B c cap a1 b1 d2 (by omega) (by rw [R3.out.s]; omega) w2 R3.out.ar
              rw [R3.out.s] at h1
              obtain ⟨y1, hy1⟩ : ∃ y, y = b1 - 1 := ⟨_, rfl⟩
              obtain ⟨y2, hy2⟩ : ∃ y, y = p - a1 := ⟨_, rfl⟩
              obtain ⟨y3, hy3⟩ : ∃ y, y = y1 - y2 := ⟨_, rfl⟩
              have e3 : (b1 : Int) - 1 = (y1 : Int) := by omega
              have e4 : (p : Int) - (a1 : Int) = (y2 : Int) := by omega
              have e5 : (y1 : Int) - (y2 : Int) = (y3 : Int) := by omega
              have hyy : a1 ≤ y3 ∧ y3 < b1 ∧ y1 ≤ 256 ∧ y2 ≤ 256 := by omega
              clear hy1 hy2 hy3
              go_wp2_with fail
              refine (h1).mono ?_
              rintro e w3 ⟨rfl, ⟨d3, ar3, p3⟩, g3⟩
              have R4 := Lib.hid (R3.out.perm (by omega) p3 ar3 g3)
              clear ar3 g3 p3 h1
              go_wp2
              go_meet
              case rel => exact ⟨y3, 1, d3, hyy.1, hyy.2.1, by first | rfl | go_num, rfl, Lib.hid (.inr (.inl rfl)), R4⟩
          case rest =>
            obtain ⟨W2, hw_⟩ : ∃ x : World, x = wc := ⟨_, rfl⟩
            subst hw_
            clear hbb HT R3 hp1 hp2
            obtain ⟨p3, t3, d3, hp1, hp2, rfl, rfl, HT, R3⟩ := hcut
            go_upto_region 15 with fail
            go_cut [68] from 61 to 67 (fun u wx => ∃ t68 : Bool, u = .bool t68 ∧ W2 = wx)
            case first =>
              rcases t8 with _ | _
              · go_wp2
                go_meet
                case rel => exact ⟨_, rfl, rfl⟩
              · rcases t9 with _ | _
                · go_wp2
                  go_meet
                  case rel => exact ⟨_, rfl, rfl⟩
                · go_wp2
                  go_meet
                  case rel => exact ⟨_, rfl, rfl⟩
            case rest =>
              obtain ⟨t68, rfl, rfl⟩ := hcut
              go_upto_if 68 with fail
              go_cut [11] from 69 to 72 (fun u wx => u = .int .i64 (p3 : Int) ∧ ∃ d4 : Array It, Hid (Rnd w wx B c cap n a b a1 b1 d d4))
              case first =>
                rcases t68 with _ | _
                · go_wp2
                  go_meet
                  case rel => exact ⟨rfl, d3, R3⟩
                · have hp := pins_perm (a := a1) (b := b1) (by omega) (by rw [R3.out.s]; omega) R3.out.bl_
                  have hf := pins_fin (a := a1) (b := b1) (by omega) (by rw [R3.out.s]; omega) R3.out.bl_
                  have h1 := partial_any B c cap a1 b1 d3 (by omega) (by rw [R3.out.s]; omega) W2 R3.out.ar
                  rw [R3.out.s] at h1
                  obtain ⟨PR, hPR⟩ : ∃ PR, PR = Sort.partialInsertionSort ltI d3 a1 b1 := ⟨_, rfl⟩
                  rw [← hPR] at h1 hp hf
                  obtain ⟨D4, pb⟩ := PR
                  dsimp only at h1 hp hf
                  have HP := Lib.hid hp
                  have HFI := Lib.hid hf
                  clear hPR hp hf
                  rcases pb with _ | _
                  · have HP_ := HP
                    go_wp2_with fail
                    refine (h1).mono ?_
                    rintro e w3 ⟨rfl, ar3, g3⟩
                    have R4 := Lib.hid (R3.out.perm (by omega) HP.out ar3 g3)
                    clear ar3 g3 h1
                    go_wp2
                    go_meet
                    case rel => exact ⟨rfl, D4, R4⟩
                  · have HP_ := HP
                    go_wp2_with fail
                    refine (h1).mono ?_
                    rintro e w3 ⟨rfl, ar3, g3⟩
                    have AR := Lib.hid ar3
                    have GG := Lib.hid (gr_then R3.out.g g3)
                    clear ar3 g3 h1
                    go_wp2
                    first | go_end0 | refine bodyPost_ret (results_none rfl _ _ _) rfl ?_
                    exact ⟨rfl, ⟨_, AR.out, R3.out.f _ (HFI.out (by trivial))⟩, GG.out⟩
              case rest =>
                obtain ⟨W3, hw_⟩ : ∃ x : World, x = wc := ⟨_, rfl⟩
                subst hw_
                clear R3 HT
                obtain ⟨rfl, d4, R4⟩ := hcut
                go_upto_region 17 with fail
                go_cut [87] from 73 to 86 (fun u wx => ∃ t87 : Bool, u = .bool t87 ∧ Hid (t87 = true → 0 < a1 ∧ ltI d4[a1 - 1]! d4[p3]! = false) ∧ Hid (Rnd w wx B c cap n a b a1 b1 d d4))
                case first =>
                  by_cases hz : 0 < a1
                  · obtain ⟨q, hq⟩ : ∃ q, q = a1 - 1 := ⟨_, rfl⟩
                    have e2 : (a1 : Int) - 1 = (q : Int) := by omega
                    have k2 : (0 : Int) < (a1 : Int) := by omega
                    have k3 : decide ((0 : Int) < (a1 : Int)) = true := decide_eq_true k2
                    have k4 : decide (0 < a1) = true := decide_eq_true hz
                    have q0 : (0 : Int) ≤ (q : Int) := by omega
                    have q1 : (q : Int) < (n : Int) := by omega
                    have q2 : (0 : Int) ≤ (p3 : Int) := by omega
                    have q3 : (p3 : Int) < (n : Int) := by omega
                    obtain ⟨c0, _⟩ := R4.out.ar.at_ q (by rw [R4.out.s]; omega)
                    obtain ⟨c1, _⟩ := R4.out.ar.at_ p3 (by rw [R4.out.s]; omega)
                    obtain ⟨x, hx⟩ : ∃ x, x = d4[q]! := ⟨_, rfl⟩
                    obtain ⟨y, hy⟩ : ∃ y, y = d4[p3]! := ⟨_, rfl⟩
                    rw [← hx] at c0
                    rw [← hy] at c1
                    have HX := Lib.hid (show d4[a1 - 1]! = x ∧ d4[p3]! = y from ⟨by rw [← hq]; exact hx.symm, hy.symm⟩)
                    clear hx hy hq
                    have o0 := over_cell c0
                    have o1 := over_cell c1
                    rcases hl : ltI x y with _ | _
                    · have hless := less_any x y
                      rw [hl] at hless
                      have HLT := Lib.hid hl
                      clear hl
                      refine over_region (W := W3) (by kernel_rfl) (by kernel_rfl) (by repeat (first | exact Below.refl _ _ | refine bl_drewN ?_ _ | refine bl_drew ?_ | refine bl_alloc ?_ _)) ?_
                      repeat (go_big_quiet_step (exact over_same (hless _)))
                      refine wpQuiet_nil ?_
                      intro _ hx_
                      obtain ⟨x_, hx_⟩ := hx_
                      subst hx_
                      obtain ⟨w3, hb3⟩ := x_
                      dsimp only
                      have R5 := Lib.hid (R4.out.bl hb3)
                      clear hb3 o0 o1 c0 c1 hless
                      go_wp2
                      go_meet
                      case rel => exact ⟨true, rfl, Lib.hid (fun _ => ⟨hz, by rw [HX.out.1, HX.out.2]; exact HLT.out⟩), R5⟩
                    · have hless := less_any x y
                      rw [hl] at hless
                      clear hl
                      refine over_region (W := W3) (by kernel_rfl) (by kernel_rfl) (by repeat (first | exact Below.refl _ _ | refine bl_drewN ?_ _ | refine bl_drew ?_ | refine bl_alloc ?_ _)) ?_
                      repeat (go_big_quiet_step (exact over_same (hless _)))
                      refine wpQuiet_nil ?_
                      intro _ hx_
                      obtain ⟨x_, hx_⟩ := hx_
                      subst hx_
                      obtain ⟨w3, hb3⟩ := x_
                      dsimp only
                      have R5 := Lib.hid (R4.out.bl hb3)
                      clear hb3 o0 o1 c0 c1 hless
                      go_wp2
                      go_meet
                      case rel => exact ⟨false, rfl, Lib.hid (fun h => by cases h), R5⟩
                  · have k2 : ¬ (0 : Int) < (a1 : Int) := by omega
                    have k3 : decide ((0 : Int) < (a1 : Int)) = false := decide_eq_false k2
                    have k4 : decide (0 < a1) = false := decide_eq_false hz
                    refine over_region (W := W3) (by kernel_rfl) (by kernel_rfl) (by repeat (first | exact Below.refl _ _ | refine bl_drewN ?_ _ | refine bl_drew ?_ | refine bl_alloc ?_ _)) ?_
                    repeat (go_big_quiet_step (fail))
                    refine wpQuiet_nil ?_
                    intro _ hx_
                    obtain ⟨x_, hx_⟩ := hx_
                    subst hx_
                    obtain ⟨w3, hb3⟩ := x_
                    dsimp only
                    have R5 := Lib.hid (R4.out.bl hb3)
                    clear hb3
                    go_wp2
                    go_meet
                    case rel => exact ⟨false, rfl, Lib.hid (fun h => by cases h), R5⟩
                case rest =>
                  obtain ⟨W4, hw_⟩ : ∃ x : World, x = wc := ⟨_, rfl⟩
                  subst hw_
                  clear R4
                  obtain ⟨t87, rfl, HQ, R5⟩ := hcut
                  rcases t87 with _ | _
                  · have h1 := part_any B c cap a1 b1 p3 d4 hp1 hp2 (by rw [R5.out.s]; omega) W4 R5.out.ar
                    rw [R5.out.s] at h1
                    go_wp2_with fail
                    refine (h1).mono ?_
                    rintro e w5 ⟨⟨m, t5, rfl, d5, ar5, pt5⟩, g5⟩
                    have hm1 := pt5.am
                    have hm2 := pt5.mb
                    have hbp := below_part R5.out.bl_ (by rw [R5.out.s]; omega) pt5
                    have sz5 := pt5.p.1.trans R5.out.s
                    have XB := Lib.hid hbp
                    have XS := Lib.hid sz5
                    have XA := Lib.hid ar5
                    have XP := Lib.hid pt5
                    have XG := Lib.hid g5
                    clear h1 ar5 pt5 g5 hbp sz5
                    obtain ⟨LL, hLL⟩ : ∃ LL, LL = m - a1 := ⟨_, rfl⟩
                    obtain ⟨RL, hRL⟩ : ∃ RL, RL = b1 - m := ⟨_, rfl⟩
                    obtain ⟨m9, hm9⟩ : ∃ m9, m9 = m + 1 := ⟨_, rfl⟩
                    have e2 : (m : Int) - (a1 : Int) = (LL : Int) := by omega
                    have e3 : (b1 : Int) - (m : Int) = (RL : Int) := by omega
                    have e4 : (m : Int) + 1 = (m9 : Int) := by omega
                    have HLL := Lib.hid (show LL = m - a1 ∧ RL = b1 - m ∧ m9 = m + 1 from ⟨hLL, hRL, hm9⟩)
                    clear hLL hRL hm9
                    by_cases hlr : LL < RL
                    · have k2 : (LL : Int) < (RL : Int) := by omega
                      have h2 := HIH.out (m - a1) (by have := HL.out; omega) a1 m l2 d5 w5 (Nat.le_refl _) hm1 (by rw [XS.out]; omega) hl2 XB.out.1 XA.out
                      rw [XS.out] at h2
                      go_wp2_with fail
                      refine (h2).mono ?_
                      rintro e w6 ⟨rfl, ⟨d6, ar6, f6⟩, g6⟩
                      have R6 := Lib.hid (R5.out.left (by omega) XP.out XG.out f6 ar6 g6)
                      rw [← HLL.out.2.2] at R6
                      clear h2 ar6 f6 g6
                      go_wp2
                      go_roundw
                      case rel => exact ⟨m9, b1, l2, _, t5, d6, by have := HLL.out; omega, by have := HLL.out; omega, hb1, hl2, by first | rfl | go_num, rfl, rfl, rfl, rfl, R6⟩
                      case measure => (have := HLL.out; simp [intOf]; omega)
                    · have k2 : ¬ (LL : Int) < (RL : Int) := by omega
                      have h2 := HIH.out (b1 - m9) (by have := HL.out; have := HLL.out; omega) m9 b1 l2 d5 w5 (Nat.le_refl _) (by have := HLL.out; omega) (by rw [XS.out]; omega) hl2 (by rw [HLL.out.2.2]; exact XB.out.2) XA.out
                      rw [XS.out] at h2
                      go_wp2_with fail
                      refine (h2).mono ?_
                      rintro e w6 ⟨rfl, ⟨d6, ar6, f6⟩, g6⟩
                      have R6 := Lib.hid (R5.out.right (by omega) XP.out XG.out (by rw [← HLL.out.2.2]; exact f6) ar6 g6)
                      clear h2 ar6 f6 g6
                      go_wp2
                      go_roundw
                      case rel => exact ⟨a1, m, l2, _, t5, d6, ha1, hm1, by omega, hl2, rfl, by first | rfl | go_num, rfl, rfl, rfl, R6⟩
                      case measure => (simp [intOf]; omega)
                  · have hq := HQ.out rfl
                    have h1 := equal_any B c cap a1 b1 p3 d4 hp1 hp2 (by rw [R5.out.s]; omega) W4 R5.out.ar
                    rw [R5.out.s] at h1
                    have HQ2 := Lib.hid hq
                    clear hq
                    go_wp2_with fail
                    refine (h1).mono ?_
                    rintro e w5 ⟨⟨m, rfl, d5, ar5, he5⟩, g5⟩
                    have hm1 := he5.am
                    have hm2 := he5.mb
                    have R6 := Lib.hid (R5.out.eq HQ2.out.1 (by omega) hp1 hp2 HQ2.out.2 he5 ar5 g5)
                    clear h1 ar5 he5 g5
                    go_wp2
                    go_roundw
                    case rel => exact ⟨m, b1, l2, t8, t9, d5, by omega, hm2, hb1, hl2, by first | rfl | go_num, rfl, rfl, rfl, rfl, R6⟩
                    case measure => (simp [intOf]; omega)
end Go.Proofs.Ytpklkjekkbpeoaa

namespace Go.Proofs.Ytpklkjekkbpeoaa
open Go.RowKit
set_option linter.unusedVariables false
set_option linter.unusedSimpArgs false
attribute [local irreducible] mixN

/-- The items in order. -/
def srt (m : List It) : List It := m.mergeSort fun x y => !ltI y x
theorem pdq_any (B c cap k : Nat) : PdqOk B c cap k := by
  induction k using Nat.strongRecOn with
  | ind k ih => exact pdq_step B c cap k ih
set_option maxRecDepth 100000 in
set_option maxHeartbeats 3200000 in
theorem sort_arr (B c cap : Nat) (d : Array It) (w : World) (h : Arr w B c cap d) :
    Calls Try.prog 41 #[.slice (some ⟨c, 0, none⟩) d.size cap] w fun e w' => e = .returned (.tuple #[]) ∧ (∃ d', Arr w' B c cap d' ∧ Fin2 0 d.size d d') ∧ w.grownBy w' (some c) := by
  have hs := h.s
  have hp := pdq_any B c cap d.size 0 d.size (Lib.bitLen d.size) d w (by omega) (Nat.zero_le _) (Nat.le_refl _) (by have := len_small d.size (by omega); omega) (.inl rfl) h
  clear h
  have hl : IntKind.u64.wrap (d.size : Int) = (d.size : Int) := IntWalk.u64_in _ (by omega)
  have hlen := Try.bits_Len (d.size : Int) w (by omega) (by omega)
  rw [Int.toNat_natCast] at hlen
  obtain ⟨bl, hbl⟩ : ∃ bl, bl = Lib.bitLen d.size := ⟨_, rfl⟩
  rw [← hbl] at hp hlen
  clear hbl
  obtain ⟨n, hn⟩ : ∃ n, n = d.size := ⟨_, rfl⟩
  rw [← hn] at hl hs hp hlen ⊢
  clear hn
  go_enter Try.func41, Try.ntmps41
  go_wp2_with (first | (go_at_call 64; refine (hlen).mono ?_; rintro e w1 ⟨rfl, rfl⟩) | (go_at_call 63; refine (hp).mono ?_; rintro e w1 ⟨rfl, h2, h3⟩))
  go_end0
  exact ⟨rfl, h2, h3⟩
theorem ltI_eq (x y : It) (h1 : ltI x y = false) (h2 : ltI y x = false) : x = y := by
  rw [ltI_f] at h1 h2
  exact BitVec.eq_of_toNat_eq (by omega)
theorem srt_length (m : List It) : (srt m).length = m.length := List.length_mergeSort _
theorem srt_perm (m : List It) : (srt m).Perm m := List.mergeSort_perm _ _
theorem sort_any (m : List It) (hm : m.length ≤ 256) : SortOk m (srt m) := by
  intro w B A c ho
  rcases ho.2 with ⟨hv, h0⟩ | ⟨g, cap, cur, hv, hB, hg, h1, h2, h3, h4⟩
  · obtain rfl : m = [] := List.length_eq_zero_iff.1 h0
    have := sort_small [] (by simp) w B A c ho
    have e : srt [] = [] := by unfold srt; simp
    rw [e]
    exact this
  · injection hv with e1 e2 e3
    subst e1 e3
    have ha : Arr w B g c m.toArray := ⟨by simpa using ho, by simpa using hm⟩
    have h := sort_arr B g c m.toArray w ha
    rw [List.size_toArray] at h
    refine h.mono ?_
    rintro e w' ⟨rfl, ⟨d', ar, fn⟩, gg⟩
    have hs : d'.size = m.length := by have := fn.1.1; simpa using this
    have hu := Sort.sorted_unique_holds ltI_swo ltI_eq m.toArray d' (by simpa using fn.1) (by simpa using fn.2)
    refine ⟨rfl, ?_, gg⟩
    have ho' := ar.o
    rw [hu, hs] at ho'
    exact ho'
end Go.Proofs.Ytpklkjekkbpeoaa
