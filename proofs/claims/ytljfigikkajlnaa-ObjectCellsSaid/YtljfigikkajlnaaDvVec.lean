/- DERIVED. May dots be a vector: both texts; Same of dots. -/
import Derived.Test.YtljfigikkajlnaaDvCmp
namespace Go.Proofs.Ytljfigikkajlnaa
open Go.RowKit
set_option linter.unusedVariables false
set_option linter.unusedSimpArgs false

theorem vec_long {l : List Dot} (h : 64 < l.length) : vecB l = false := by unfold vecB; simp; omega
theorem vec_fail {l : List Dot} {k : Nat} (h : chainB dOk ltA (l.take k) = false) : vecB l = false := by unfold vecB; rw [chain_false _ _ _ _ h]; rfl
theorem vec_full {l : List Dot} (h : chainB dOk ltA (l.take l.length) = true) : vecB l = decide (l.length ≤ 64) := by rw [List.take_length] at h; unfold vecB; rw [h]; rfl

set_option maxRecDepth 100000 in
set_option maxHeartbeats 1600000 in
theorem vecValid_any (A : Option Addr) (c : Nat) (l : List Dot) (w : World) (hr : GR.Rd dotK w A l) (hn : ∀ d ∈ l, 0 ≤ d.n) :
    Calls Try.prog 82 #[.slice A l.length c] w fun e w' => e = .returned (.bool (vecB l)) ∧ Below w.heap.size w w' := by
  have hmax : l.length * 16 ≤ 140737488355328 := hr.max
  have HR := Lib.hid hr
  have HN := Lib.hid hn
  clear hr hn
  go_enter Try.func82, Try.ntmps82
  go_wp2
  go_loopw [7] (fun i w' => ∃ k : Nat, k ≤ l.length ∧ i = .int .i64 k ∧ Hid (chainB dOk ltA (l.take k) = true) ∧ Hid (Below w.heap.size w w')) (fun i _ => l.length - (intOf i).toNat)
  case atStart => exact ⟨0, Nat.zero_le _, rfl, Lib.hid (chain_zero _ _ _), Lib.hid (Below.refl _ _)⟩
  case round =>
    obtain ⟨k, hk, rfl, hok, hw⟩ := hrel
    have HR1 := Lib.hid (HR.out.below hw.out)
    by_cases hlt : k < l.length
    · have i0 : (0 : Int) ≤ (k : Int) := by omega
      have i1 : (k : Int) < (l.length : Int) := by omega
      have n0 := HN.out l[k] (List.getElem_mem hlt)
      by_cases hD : dOk l[k] = true
      · have hD1 : 1 ≤ l[k].n ∧ l[k].n ≤ 1099511627776 := by simpa [dOk] using hD
        have t1 : (l[k].n == 0) = false := by simp; omega
        have t2 : decide (1099511627776 < l[k].n) = false := by simp; omega
        rcases k with _ | m
        · have HV := Lib.hid (show chainB dOk ltA (l.take 1) = true by rw [chain_one _ _ _ hlt]; exact hD)
          obtain ⟨ad, rfl, hb0, c0, c1⟩ := dot_head HR1.out hlt
          clear hD hD1
          go_wp2
          go_quiet (fail)
          go_wp2
          go_roundw
          case rel => exact ⟨1, by omega, rfl, HV, Lib.hid (bl_then hw.out (by repeat (first | exact Below.refl _ _ | refine bl_drewN ?_ _ | refine bl_drew ?_ | refine bl_alloc ?_ _)))⟩
          case measure => simp [intOf]; omega
        · replace i0 : (0 : Int) ≤ (m : Int) + 1 := by omega
          replace i1 : (m : Int) + 1 < (l.length : Int) := by omega
          have i2 : (0 : Int) ≤ (m : Int) := by omega
          have i3 : (m : Int) < (l.length : Int) := by omega
          obtain ⟨ad, e0, hb0, c0, c1⟩ := dot_at HR1.out (m + 1) hlt
          subst e0
          obtain ⟨ad', e0, hb1, d0, d1⟩ := dot_at HR1.out m (by omega)
          cases e0
          have hs := chain_succ dOk ltA l (m + 1) (by omega) hlt
          simp only [Nat.add_sub_cancel, hok.out, hD, Bool.true_and] at hs
          by_cases hL : l[m].a < l[m + 1].a
          · have HV := Lib.hid (show chainB dOk ltA (l.take (m + 1 + 1)) = true by rw [hs]; simp [ltA, hL])
            have t3 : decide (l[m + 1].a ≤ l[m].a) = false := by simp; omega
            clear hs hL hD hD1
            go_wp2
            go_quiet (fail)
            go_wp2
            go_roundw
            case rel => exact ⟨m + 2, by omega, by go_num, HV, Lib.hid (bl_then hw.out (by repeat (first | exact Below.refl _ _ | refine bl_drewN ?_ _ | refine bl_drew ?_ | refine bl_alloc ?_ _)))⟩
            case measure => simp [intOf]; omega
          · have HV := Lib.hid (vec_fail (l := l) (k := m + 1 + 1) (by rw [hs]; simp [ltA, hL]))
            have t3 : decide (l[m + 1].a ≤ l[m].a) = true := by simp; omega
            clear hs hL hD hD1
            go_wp2
            go_quiet (fail)
            go_wp2
            go_ret
            exact ⟨ret_bool HV.out.symm, bl_then hw.out (by repeat (first | exact Below.refl _ _ | refine bl_drewN ?_ _ | refine bl_drew ?_ | refine bl_alloc ?_ _))⟩
      · have HV := Lib.hid (vec_fail (l := l) (k := k + 1) (by
          rcases k with _ | m
          · rw [chain_one _ _ _ hlt]; simpa using hD
          · rw [chain_succ _ _ _ _ (by omega) hlt]; simp [hD]))
        have hD1 : l[k].n = 0 ∨ 1099511627776 < l[k].n := by
          simp only [dOk, Bool.and_eq_true, decide_eq_true_eq] at hD; omega
        obtain ⟨ad, rfl, hb0, c0, c1⟩ := dot_at HR1.out k hlt
        clear hD
        rcases hD1 with h | h
        · have t1 : (l[k].n == 0) = true := by simpa using h
          clear h
          go_wp2
          go_quiet (fail)
          go_wp2
          go_ret
          exact ⟨ret_bool HV.out.symm, bl_then hw.out (by repeat (first | exact Below.refl _ _ | refine bl_drewN ?_ _ | refine bl_drew ?_ | refine bl_alloc ?_ _))⟩
        · have t1 : (l[k].n == 0) = false := by simp; omega
          have t2 : decide (1099511627776 < l[k].n) = true := by simpa using h
          clear h
          go_wp2
          go_quiet (fail)
          go_wp2
          go_ret
          exact ⟨ret_bool HV.out.symm, bl_then hw.out (by repeat (first | exact Below.refl _ _ | refine bl_drewN ?_ _ | refine bl_drew ?_ | refine bl_alloc ?_ _))⟩
    · obtain rfl : k = l.length := by omega
      have HV := Lib.hid (vec_full hok.out)
      go_wp2
      go_ret
      exact ⟨ret_bool (by rw [HV.out]; simp; omega), hw.out⟩
end Go.Proofs.Ytljfigikkajlnaa
