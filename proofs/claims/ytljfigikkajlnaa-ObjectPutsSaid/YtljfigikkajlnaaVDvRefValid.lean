/- DERIVED. May a state be: the document's text. -/
import Derived.Test.YtljfigikkajlnaaVDvValid
namespace Go.Proofs.Ytljfigikkajlnaa
open Go.RowKit
set_option linter.unusedVariables false
set_option linter.unusedSimpArgs false
set_option maxRecDepth 100000 in
set_option maxHeartbeats 12800000 in
theorem refSta_any (A B : Option Addr) (c d : Nat) (a : List Dot) (l : List Sib) (w : World) (ha : GR.Rd dotK w A a) (hl : GR.Rd sibK w B l) (na : ∀ d ∈ a, 0 ≤ d.n) (nl : ∀ x ∈ l, 0 ≤ x.d.n) :
    Calls Try.prog 68 #[.agg #[.slice A a.length c, .slice B l.length d]] w fun e w' => e = .returned (.bool (staB a l)) ∧ Below w.heap.size w w' := by
  have hml : l.length * 40 ≤ 140737488355328 := hl.max
  have HA := Lib.hid ha
  have HL := Lib.hid hl
  have NA := Lib.hid na
  have NL := Lib.hid nl
  clear ha hl na nl
  have L0 := Lib.hid ((Below.refl w.heap.size w).alloc (Nat.le_refl _) (.cells #[.slice A a.length c, .slice B l.length d] 25))
  have X0 := Lib.hid (GR.Blk.new w 25 #[.slice A a.length c, .slice B l.length d])
  by_cases hv : vecB a = true
  · by_cases h64 : l.length ≤ 64
    · have g0 : decide (64 < (l.length : Int)) = false := by simp; omega
      have g1 : decide (64 < l.length) = false := by simp; omega
      have HVV := Lib.hid hv
      go_enter Try.func68, Try.ntmps68
      go_wp2_with fail
      refine (refVec_any _ _ _ _ (HA.out.below L0.out) NA.out).mono ?_
      rintro e w1 ⟨rfl, hd1⟩
      rw [hv]
      have hb1 := hd1.below (w.alloc (.cells #[.slice A a.length c, .slice B l.length d] 25)).heap.size
      clear hd1
      clear hv
      have L1 := Lib.hid (bl_then L0.out hb1)
      have X1 := Lib.hid (X0.out.below hb1 X0.out.lt)
      have s0 : w1.cell? ⟨w.heap.size, 0, none⟩ = some (.slice A a.length c) := X1.out.cell 0
      have s1 : w1.cell? ⟨w.heap.size, 1, none⟩ = some (.slice B l.length d) := X1.out.cell 1
      clear hb1
      go_wp2
      clear s0 s1
      go_loopw [3] (fun i w' => ∃ k : Nat, k ≤ l.length ∧ i = .int .i64 k ∧ Hid (chainB (sOk a) ltS (l.take k) = true) ∧ Hid (Below w1.heap.size w1 w')) (fun i _ => l.length - (intOf i).toNat)
      case atStart => exact ⟨0, Nat.zero_le _, rfl, Lib.hid (chain_zero _ _ _), Lib.hid (Below.refl _ _)⟩
      case round =>
        obtain ⟨k, hk, rfl, hok, hw⟩ := hrel
        have X2 := X1.out.below hw.out X1.out.lt
        have s0 : wr.cell? ⟨w.heap.size, 0, none⟩ = some (.slice A a.length c) := X2.cell 0
        have s1 : wr.cell? ⟨w.heap.size, 1, none⟩ = some (.slice B l.length d) := X2.cell 1
        have hws : w.heap.size < wr.heap.size := X2.lt
        have HWR := Lib.hid (bl_then L1.out hw.out)
        clear X2
        by_cases hlt : k < l.length
        · have i0 : (0 : Int) ≤ (k : Int) := by omega
          have i1 : (k : Int) < (l.length : Int) := by omega
          have hnx : 0 ≤ l[k].d.n := NL.out _ (List.getElem_mem hlt)
          obtain ⟨ad, eB, hb0, x0, x1, x2, x3⟩ := sib_at (HL.out.below HWR.out) k hlt
          subst eB
          go_wp2
          clear x0 x1 x2 x3
          obtain ⟨W3, hW3⟩ : ∃ W3 : World, W3 = wr.alloc (.cells #[.int .u32 l[k].d.a, .int .u64 l[k].d.n, .bool l[k].gone, .string l[k].v] 67) := ⟨_, rfl⟩
          rw [← hW3]
          have hbW : Below wr.heap.size wr W3 := by rw [hW3]; exact (Below.refl _ _).alloc (Nat.le_refl _) _
          have hX3 : GR.Blk W3 wr.heap.size 67 #[.int .u32 l[k].d.a, .int .u64 l[k].d.n, .bool l[k].gone, .string l[k].v] := by rw [hW3]; exact GR.Blk.new _ _ _
          have HW3 := Lib.hid (bl_then HWR.out hbW)
          have HWB := Lib.hid (bl_then hw.out hbW)
          have HA3 := Lib.hid (HA.out.below HW3.out)
          have HLW := Lib.hid (HL.out.below HW3.out)
          have ks0 := over_cell ((hbW.cell hws).trans s0)
          have ks1 := over_cell ((hbW.cell hws).trans s1)
          have kx0 := over_cell (W := W3) (p := ⟨wr.heap.size, 0, none⟩) (v := .int .u32 l[k].d.a) (hX3.cell 0)
          have kx1 := over_cell (W := W3) (p := ⟨wr.heap.size, 1, none⟩) (v := .int .u64 l[k].d.n) (hX3.cell 1)
          have kx2 := over_cell (W := W3) (p := ⟨wr.heap.size, 2, none⟩) (v := .bool l[k].gone) (hX3.cell 2)
          have kx3 := over_cell (W := W3) (p := ⟨wr.heap.size, 3, none⟩) (v := .string l[k].v) (hX3.cell 3)
          clear hW3 hbW hX3 s0 s1 hws
          rcases k with _ | m
          ·
            by_cases hcv : cov a l[0].d = true
            · have HCV := Lib.hid hcv
              clear hcv
              refine over_region (W := W3) (by kernel_rfl) (by kernel_rfl) (by repeat (first | exact Below.refl _ _ | refine bl_drewN ?_ _ | refine bl_drew ?_ | refine bl_alloc ?_ _)) ?_
              repeat (go_big_quiet_step (((go_at_call 80; exact over_of (refCovers_is A c a l[0].d _ HCV.out _ (HA3.out.below (Over.h _)) NA.out)))))
              refine wpQuiet_nil ?_
              intro _ hx_
              obtain ⟨x_, hx_⟩ := hx_
              subst hx_
              obtain ⟨w5, hb5⟩ := x_
              dsimp only
              replace kx2 : w5.cell? ⟨wr.heap.size, 2, none⟩ = some (.bool l[0].gone) := kx2 ⟨w5, hb5⟩
              replace kx3 : w5.cell? ⟨wr.heap.size, 3, none⟩ = some (.string l[0].v) := kx3 ⟨w5, hb5⟩
              by_cases hsz : l[0].v.size ≤ 40
              · have z0 : decide ((40 : Int) < (l[0].v.size : Int)) = false := by simp; omega
                have z1 : decide (40 < l[0].v.size) = false := by simp; omega
                cases hg : l[0].gone with
                | true =>
                  rw [hg] at kx2
                  by_cases hv0 : l[0].v.size = 0
                  · have e0 := (empty_str hv0).1
                    have e1 := (empty_str hv0).2
                    have HV := Lib.hid (show chainB (sOk a) ltS (l.take (1)) = true by
                      rw [chain_one _ _ _ hlt]; simp [sOk, HCV.out, hsz, hg, hv0])
                    clear hsz hg hv0
                    go_wp2
                    go_roundw
                    case rel => exact ⟨1, by omega, rfl, HV, Lib.hid (bl_then HWB.out hb5)⟩
                    case measure => simp [intOf]; omega
                  · have e0 := (nonempty_str hv0).1
                    have e1 := (nonempty_str hv0).2
                    have HV := Lib.hid (sta_bad (a := a) hlt (by simp [sOk, HCV.out, hg, hv0]))
                    clear hsz hg hv0
                    go_wp2
                    go_ret
                    exact ⟨ret_bool HV.out.symm, bl_then HW3.out hb5⟩
                | false =>
                  rw [hg] at kx2
                  have HV := Lib.hid (show chainB (sOk a) ltS (l.take (1)) = true by
                    rw [chain_one _ _ _ hlt]; simp [sOk, HCV.out, hsz, hg])
                  clear hsz hg
                  go_wp2
                  go_roundw
                  case rel => exact ⟨1, by omega, rfl, HV, Lib.hid (bl_then HWB.out hb5)⟩
                  case measure => simp [intOf]; omega
              · have z0 : decide ((40 : Int) < (l[0].v.size : Int)) = true := by simp; omega
                have z1 : decide (40 < l[0].v.size) = true := by simp; omega
                have HV := Lib.hid (sta_bad (a := a) hlt (by simp [sOk, hsz]))
                clear hsz
                go_wp2
                go_ret
                exact ⟨ret_bool HV.out.symm, bl_then HW3.out hb5⟩
            · have hcv' : cov a l[0].d = false := by simpa using hcv
              have HCV := Lib.hid hcv'
              have HV := Lib.hid (sta_bad (a := a) hlt (by simp [sOk, hcv']))
              clear hcv hcv'
              refine over_region (W := W3) (by kernel_rfl) (by kernel_rfl) (by repeat (first | exact Below.refl _ _ | refine bl_drewN ?_ _ | refine bl_drew ?_ | refine bl_alloc ?_ _)) ?_
              repeat (go_big_quiet_step (((go_at_call 80; exact over_of (refCovers_is A c a l[0].d _ HCV.out _ (HA3.out.below (Over.h _)) NA.out)))))
              refine wpQuiet_nil ?_
              intro _ hx_
              obtain ⟨x_, hx_⟩ := hx_
              subst hx_
              obtain ⟨w5, hb5⟩ := x_
              dsimp only
              go_wp2
              go_ret
              exact ⟨ret_bool HV.out.symm, bl_then HW3.out hb5⟩
          · obtain ⟨ad', eB, hb1, y0, y1, _, _⟩ := sib_at HLW.out m (by omega)
            cases eB
            have ky0 := over_cell y0
            have ky1 := over_cell y1
            have i2 : (0 : Int) ≤ (m : Int) := by omega
            have i3 : (m : Int) < (l.length : Int) := by omega
            have i4 : (m : Int) + 1 < (l.length : Int) := by omega
            clear y0 y1
            by_cases hL : ltD l[m].d l[m + 1].d = true
            · have HLT := Lib.hid hL
              have HCD := Lib.hid hL
              clear hL
              by_cases hcv : cov a l[m + 1].d = true
              · have HCV := Lib.hid hcv
                clear hcv
                refine over_region (W := W3) (by kernel_rfl) (by kernel_rfl) (by repeat (first | exact Below.refl _ _ | refine bl_drewN ?_ _ | refine bl_drew ?_ | refine bl_alloc ?_ _)) ?_
                repeat (go_big_quiet_step (((first | (go_at_call 81; exact over_of (ahead_is l[m].d l[m + 1].d _ HCD.out _)) | (go_at_call 80; exact over_of (refCovers_is A c a l[m + 1].d _ HCV.out _ (HA3.out.below (Over.h _)) NA.out))))))
                refine wpQuiet_nil ?_
                intro _ hx_
                obtain ⟨x_, hx_⟩ := hx_
                subst hx_
                obtain ⟨w5, hb5⟩ := x_
                dsimp only
                replace kx2 : w5.cell? ⟨wr.heap.size, 2, none⟩ = some (.bool l[m + 1].gone) := kx2 ⟨w5, hb5⟩
                replace kx3 : w5.cell? ⟨wr.heap.size, 3, none⟩ = some (.string l[m + 1].v) := kx3 ⟨w5, hb5⟩
                by_cases hsz : l[m + 1].v.size ≤ 40
                · have z0 : decide ((40 : Int) < (l[m + 1].v.size : Int)) = false := by simp; omega
                  have z1 : decide (40 < l[m + 1].v.size) = false := by simp; omega
                  cases hg : l[m + 1].gone with
                  | true =>
                    rw [hg] at kx2
                    by_cases hv0 : l[m + 1].v.size = 0
                    · have e0 := (empty_str hv0).1
                      have e1 := (empty_str hv0).2
                      have HV := Lib.hid (show chainB (sOk a) ltS (l.take (m + 1 + 1)) = true by
                        rw [chain_succ _ _ _ _ (by omega) hlt]; simp [sOk, HCV.out, hsz, hg, hv0, ltS, hok.out, HLT.out])
                      clear hsz hg hv0
                      go_wp2
                      go_roundw
                      case rel => exact ⟨m + 1 + 1, by omega, by go_num, HV, Lib.hid (bl_then HWB.out hb5)⟩
                      case measure => simp [intOf]; omega
                    · have e0 := (nonempty_str hv0).1
                      have e1 := (nonempty_str hv0).2
                      have HV := Lib.hid (sta_bad (a := a) hlt (by simp [sOk, HCV.out, hg, hv0]))
                      clear hsz hg hv0
                      go_wp2
                      go_ret
                      exact ⟨ret_bool HV.out.symm, bl_then HW3.out hb5⟩
                  | false =>
                    rw [hg] at kx2
                    have HV := Lib.hid (show chainB (sOk a) ltS (l.take (m + 1 + 1)) = true by
                      rw [chain_succ _ _ _ _ (by omega) hlt]; simp [sOk, HCV.out, hsz, hg, ltS, hok.out, HLT.out])
                    clear hsz hg
                    go_wp2
                    go_roundw
                    case rel => exact ⟨m + 1 + 1, by omega, by go_num, HV, Lib.hid (bl_then HWB.out hb5)⟩
                    case measure => simp [intOf]; omega
                · have z0 : decide ((40 : Int) < (l[m + 1].v.size : Int)) = true := by simp; omega
                  have z1 : decide (40 < l[m + 1].v.size) = true := by simp; omega
                  have HV := Lib.hid (sta_bad (a := a) hlt (by simp [sOk, hsz]))
                  clear hsz
                  go_wp2
                  go_ret
                  exact ⟨ret_bool HV.out.symm, bl_then HW3.out hb5⟩
              · have hcv' : cov a l[m + 1].d = false := by simpa using hcv
                have HCV := Lib.hid hcv'
                have HV := Lib.hid (sta_bad (a := a) hlt (by simp [sOk, hcv']))
                clear hcv hcv'
                refine over_region (W := W3) (by kernel_rfl) (by kernel_rfl) (by repeat (first | exact Below.refl _ _ | refine bl_drewN ?_ _ | refine bl_drew ?_ | refine bl_alloc ?_ _)) ?_
                repeat (go_big_quiet_step (((first | (go_at_call 81; exact over_of (ahead_is l[m].d l[m + 1].d _ HCD.out _)) | (go_at_call 80; exact over_of (refCovers_is A c a l[m + 1].d _ HCV.out _ (HA3.out.below (Over.h _)) NA.out))))))
                refine wpQuiet_nil ?_
                intro _ hx_
                obtain ⟨x_, hx_⟩ := hx_
                subst hx_
                obtain ⟨w5, hb5⟩ := x_
                dsimp only
                go_wp2
                go_ret
                exact ⟨ret_bool HV.out.symm, bl_then HW3.out hb5⟩
            · have HV := Lib.hid (show staB a l = false from sta_fail (k := m + 1 + 1) (by rw [chain_succ _ _ _ _ (by omega) hlt]; simp [ltS, hL]))
              have hL' : ltD l[m].d l[m + 1].d = false := by simpa using hL
              have HCD := Lib.hid hL'
              clear hL hL'
              refine over_region (W := W3) (by kernel_rfl) (by kernel_rfl) (by repeat (first | exact Below.refl _ _ | refine bl_drewN ?_ _ | refine bl_drew ?_ | refine bl_alloc ?_ _)) ?_
              repeat (go_big_quiet_step (((go_at_call 81; exact over_of (ahead_is l[m].d l[m + 1].d _ HCD.out _)))))
              refine wpQuiet_nil ?_
              intro _ hx_
              obtain ⟨x_, hx_⟩ := hx_
              subst hx_
              obtain ⟨w5, hb5⟩ := x_
              dsimp only
              go_wp2
              go_ret
              exact ⟨ret_bool HV.out.symm, bl_then HW3.out hb5⟩
        · obtain rfl : k = l.length := by omega
          have HV := Lib.hid (sta_full HVV.out h64 hok.out)
          go_wp2
          go_ret
          exact ⟨ret_bool HV.out.symm, HWR.out⟩
    · have HV := Lib.hid (sta_long (a := a) (l := l) (by omega))
      have g0 : decide (64 < (l.length : Int)) = true := by simp; omega
      have g1 : decide (64 < l.length) = true := by simp; omega
      clear h64
      go_enter Try.func68, Try.ntmps68
      go_wp2_with fail
      refine (refVec_any _ _ _ _ (HA.out.below L0.out) NA.out).mono ?_
      rintro e w1 ⟨rfl, hd1⟩
      rw [hv]
      have hb1 := hd1.below (w.alloc (.cells #[.slice A a.length c, .slice B l.length d] 25)).heap.size
      clear hd1
      have L1 := Lib.hid (bl_then L0.out hb1)
      have X1 := X0.out.below hb1 X0.out.lt
      have s1 : w1.cell? ⟨w.heap.size, 1, none⟩ = some (.slice B l.length d) := X1.cell 1
      clear hb1 X1
      go_wp2
      go_ret
      exact ⟨ret_bool HV.out.symm, L1.out⟩
  · have hv' : vecB a = false := by simpa using hv
    have HV := Lib.hid (sta_vec (l := l) hv')
    clear hv
    go_enter Try.func68, Try.ntmps68
    go_wp2_with fail
    refine (refVec_any _ _ _ _ (HA.out.below L0.out) NA.out).mono ?_
    rintro e w1 ⟨rfl, hd1⟩
    rw [hv']
    have hb1 := hd1.below (w.alloc (.cells #[.slice A a.length c, .slice B l.length d] 25)).heap.size
    clear hd1
    have L1 := Lib.hid (bl_then L0.out hb1)
    have X1 := X0.out.below hb1 X0.out.lt
    have s1 : w1.cell? ⟨w.heap.size, 1, none⟩ = some (.slice B l.length d) := X1.cell 1
    clear hb1 X1
    go_wp2
    go_ret
    exact ⟨ret_bool HV.out.symm, L1.out⟩
end Go.Proofs.Ytljfigikkajlnaa
