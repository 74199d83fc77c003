/- DERIVED. May a state be: the program's text. -/
import Derived.Test.YtljfigikkajlnaaVDvCount
import Derived.Test.YtljfigikkajlnaaVm6
namespace Go.Proofs.Ytljfigikkajlnaa
open Go.RowKit
set_option linter.unusedVariables false
set_option linter.unusedSimpArgs false
theorem ahead_any (x y : Dot) (w : World) : Calls Try.prog 81 #[.agg #[.int .u32 x.a, .int .u64 x.n], .agg #[.int .u32 y.a, .int .u64 y.n]] w fun e w' => e = .returned (.bool (ltD x y)) ∧ Below w.heap.size w w' := by
  have HL : Hid (ltD x y = (decide (x.a < y.a) || (decide (x.a = y.a) && decide (x.n < y.n)))) := Lib.hid rfl
  rcases Int.lt_trichotomy x.a y.a with h | h | h
  · have t1 : decide (x.a < y.a) = true := by simpa using h
    have HV := Lib.hid (show ltD x y = true by rw [HL.out]; simp [h])
    clear h
    go_enter Try.func81, Try.ntmps81
    go_wp2
    go_ret
    exact ⟨ret_bool HV.out.symm, (by repeat (first | exact Below.refl _ _ | refine bl_drewN ?_ _ | refine bl_drew ?_ | refine bl_alloc ?_ _))⟩
  · have t1 : decide (x.a < y.a) = false := by simp; omega
    have t2 : (x.a == y.a) = true := by simpa using h
    have HV := Lib.hid (show ltD x y = decide (x.n < y.n) by rw [HL.out]; simp [h])
    clear h
    go_enter Try.func81, Try.ntmps81
    go_wp2
    go_ret
    exact ⟨ret_bool HV.out.symm, (by repeat (first | exact Below.refl _ _ | refine bl_drewN ?_ _ | refine bl_drew ?_ | refine bl_alloc ?_ _))⟩
  · have t1 : decide (x.a < y.a) = false := by simp; omega
    have t2 : (x.a == y.a) = false := by simp; omega
    have HV := Lib.hid (show ltD x y = false by
      have h1 : ¬ x.a < y.a := by omega
      have h2 : ¬ x.a = y.a := by omega
      rw [HL.out]; simp [h1, h2])
    clear h
    go_enter Try.func81, Try.ntmps81
    go_wp2
    go_ret
    exact ⟨ret_bool HV.out.symm, (by repeat (first | exact Below.refl _ _ | refine bl_drewN ?_ _ | refine bl_drew ?_ | refine bl_alloc ?_ _))⟩
theorem order_is (x y : Dot) (r : Int) (h : cmpD x y = r) (w : World) : Calls Try.prog 75 #[.agg #[.int .u32 x.a, .int .u64 x.n], .agg #[.int .u32 y.a, .int .u64 y.n]] w fun e w' => e = .returned (.int .i64 r) ∧ Below w.heap.size w w' := by
  subst h; exact order_any x y w
theorem ahead_is (x y : Dot) (r : Bool) (h : ltD x y = r) (w : World) : Calls Try.prog 81 #[.agg #[.int .u32 x.a, .int .u64 x.n], .agg #[.int .u32 y.a, .int .u64 y.n]] w fun e w' => e = .returned (.bool r) ∧ Below w.heap.size w w' := by
  subst h; exact ahead_any x y w
theorem covers_is (A : Option Addr) (c : Nat) (l : List Dot) (d : Dot) (r : Bool) (h : cov l d = r) (w : World) (hr : GR.Rd dotK w A l) (hn : ∀ d ∈ l, 0 ≤ d.n) (hd : 0 ≤ d.n) :
    Calls Try.prog 76 #[.slice A l.length c, .agg #[.int .u32 d.a, .int .u64 d.n]] w fun e w' => e = .returned (.bool r) ∧ Below w.heap.size w w' := by
  subst h; exact covers_any A c l d w hr hn hd
theorem refCovers_is (A : Option Addr) (c : Nat) (l : List Dot) (d : Dot) (r : Bool) (h : cov l d = r) (w : World) (hr : GR.Rd dotK w A l) (hn : ∀ d ∈ l, 0 ≤ d.n) :
    Calls Try.prog 80 #[.slice A l.length c, .agg #[.int .u32 d.a, .int .u64 d.n]] w fun e w' => e = .returned (.bool r) ∧ Below w.heap.size w w' := by
  subst h; exact refCovers_any A c l d w hr hn
theorem sta_long {a : List Dot} {l : List Sib} (h : 64 < l.length) : staB a l = false := by unfold staB; simp; omega
theorem sta_vec {a : List Dot} {l : List Sib} (h : vecB a = false) : staB a l = false := by unfold staB; rw [h]; rfl
theorem sta_fail {a : List Dot} {l : List Sib} {k : Nat} (h : chainB (sOk a) ltS (l.take k) = false) : staB a l = false := by unfold staB; rw [chain_false _ _ _ _ h]; simp
theorem sta_full {a : List Dot} {l : List Sib} (hv : vecB a = true) (hl : l.length ≤ 64) (h : chainB (sOk a) ltS (l.take l.length) = true) : staB a l = true := by
  rw [List.take_length] at h; unfold staB; rw [hv, h]; simpa using hl
theorem sta_bad {a : List Dot} {l : List Sib} {k : Nat} (hk : k < l.length) (h : sOk a l[k] = false) : staB a l = false := by
  refine sta_fail (k := k + 1) ?_
  rcases k with _ | m
  · rw [chain_one _ _ _ hk]; exact h
  · rw [chain_succ _ _ _ _ (by omega) hk]; simp [h]
theorem nonempty_str {b : ByteArray} (h : b.size ≠ 0) : b.toList.isEmpty = false ∧ (!b.toList.isEmpty) = true := by
  have : b.toList ≠ [] := by
    rw [ByteArray.toList_eq]; intro e; apply h
    show b.data.size = 0
    rw [← Array.length_toList, e]; rfl
  constructor <;> simp [this]
theorem empty_str {b : ByteArray} (h : b.size = 0) : b.toList.isEmpty = true ∧ (!b.toList.isEmpty) = false := by
  have : b.toList = [] := by
    rw [ByteArray.toList_eq]; exact List.eq_nil_of_length_eq_zero h
  constructor <;> simp [this]
set_option maxRecDepth 100000 in
set_option maxHeartbeats 12800000 in
theorem dvvValid_any (A B : Option Addr) (c d : Nat) (a : List Dot) (l : List Sib) (w : World) (ha : GR.Rd dotK w A a) (hl : GR.Rd sibK w B l) (na : ∀ d ∈ a, 0 ≤ d.n) (nl : ∀ x ∈ l, 0 ≤ x.d.n) :
    Calls Try.prog 73 #[.agg #[.slice A a.length c, .slice B l.length d]] w fun e w' => e = .returned (.bool (staB a l)) ∧ Below w.heap.size w w' := by
  have hml : l.length * 40 ≤ 140737488355328 := hl.max
  have HA := Lib.hid ha
  have HL := Lib.hid hl
  have NA := Lib.hid na
  have NL := Lib.hid nl
  clear ha hl na nl
  have L0 := Lib.hid ((Below.refl w.heap.size w).alloc (Nat.le_refl _) (.cells #[.slice A a.length c, .slice B l.length d] 25))
  have X0 := Lib.hid (GR.Blk.new w 25 #[.slice A a.length c, .slice B l.length d])
  by_cases hv : vecB a = true
  · by_cases h64 : l.length ≤ 64
    · have g0 : decide (64 < (l.length : Int)) = false := by simp; omega
      have g1 : decide (64 < l.length) = false := by simp; omega
      have HVV := Lib.hid hv
      go_enter Try.func73, Try.ntmps73
      go_wp2_with fail
      refine (vecValid_any _ _ _ _ (HA.out.below L0.out) NA.out).mono ?_
      rintro e w1 ⟨rfl, hb1⟩
      rw [hv]
      clear hv
      have L1 := Lib.hid (bl_then L0.out hb1)
      have X1 := Lib.hid (X0.out.below hb1 X0.out.lt)
      have s0 : w1.cell? ⟨w.heap.size, 0, none⟩ = some (.slice A a.length c) := X1.out.cell 0
      have s1 : w1.cell? ⟨w.heap.size, 1, none⟩ = some (.slice B l.length d) := X1.out.cell 1
      clear hb1
      go_wp2
      clear s0 s1
      go_loopw [18] (fun i w' => ∃ k : Nat, k ≤ l.length ∧ i = .int .i64 k ∧ Hid (chainB (sOk a) ltS (l.take k) = true) ∧ Hid (Below w1.heap.size w1 w')) (fun i _ => l.length - (intOf i).toNat)
      case atStart => exact ⟨0, Nat.zero_le _, rfl, Lib.hid (chain_zero _ _ _), Lib.hid (Below.refl _ _)⟩
      case round =>
        obtain ⟨k, hk, rfl, hok, hw⟩ := hrel
        have X2 := X1.out.below hw.out X1.out.lt
        have s0 : wr.cell? ⟨w.heap.size, 0, none⟩ = some (.slice A a.length c) := X2.cell 0
        have s1 : wr.cell? ⟨w.heap.size, 1, none⟩ = some (.slice B l.length d) := X2.cell 1
        have hws : w.heap.size < wr.heap.size := X2.lt
        have HWR := Lib.hid (bl_then L1.out hw.out)
        clear X2
        by_cases hlt : k < l.length
        · have i0 : (0 : Int) ≤ (k : Int) := by omega
          have i1 : (k : Int) < (l.length : Int) := by omega
          have hnx : 0 ≤ l[k].d.n := NL.out _ (List.getElem_mem hlt)
          obtain ⟨ad, eB, hb0, x0, x1, x2, x3⟩ := sib_at (HL.out.below HWR.out) k hlt
          subst eB
          go_wp2
          clear x0 x1 x2 x3
          obtain ⟨W3, hW3⟩ : ∃ W3 : World, W3 = wr.alloc (.cells #[.int .u32 l[k].d.a, .int .u64 l[k].d.n, .bool l[k].gone, .string l[k].v] 67) := ⟨_, rfl⟩
          rw [← hW3]
          have hbW : Below wr.heap.size wr W3 := by rw [hW3]; exact (Below.refl _ _).alloc (Nat.le_refl _) _
          have hX3 : GR.Blk W3 wr.heap.size 67 #[.int .u32 l[k].d.a, .int .u64 l[k].d.n, .bool l[k].gone, .string l[k].v] := by rw [hW3]; exact GR.Blk.new _ _ _
          have HW3 := Lib.hid (bl_then HWR.out hbW)
          have HWB := Lib.hid (bl_then hw.out hbW)
          have HA3 := Lib.hid (HA.out.below HW3.out)
          have HLW := Lib.hid (HL.out.below HW3.out)
          have ks0 := over_cell ((hbW.cell hws).trans s0)
          have ks1 := over_cell ((hbW.cell hws).trans s1)
          have kx0 := over_cell (W := W3) (p := ⟨wr.heap.size, 0, none⟩) (v := .int .u32 l[k].d.a) (hX3.cell 0)
          have kx1 := over_cell (W := W3) (p := ⟨wr.heap.size, 1, none⟩) (v := .int .u64 l[k].d.n) (hX3.cell 1)
          have kx2 := over_cell (W := W3) (p := ⟨wr.heap.size, 2, none⟩) (v := .bool l[k].gone) (hX3.cell 2)
          have kx3 := over_cell (W := W3) (p := ⟨wr.heap.size, 3, none⟩) (v := .string l[k].v) (hX3.cell 3)
          clear hW3 hbW hX3 s0 s1 hws
          rcases k with _ | m
          ·
            by_cases hcv : cov a l[0].d = true
            · have HCV := Lib.hid hcv
              clear hcv
              by_cases hsz : l[0].v.size ≤ 40
              · have z0 : decide ((40 : Int) < (l[0].v.size : Int)) = false := by simp; omega
                have z1 : decide (40 < l[0].v.size) = false := by simp; omega
                cases hg : l[0].gone with
                | true =>
                  rw [hg] at kx2
                  by_cases hv0 : l[0].v.size = 0
                  · have e0 := (empty_str hv0).1
                    have e1 := (empty_str hv0).2
                    have HV := Lib.hid (show chainB (sOk a) ltS (l.take (1)) = true by
                      rw [chain_one _ _ _ hlt]; simp [sOk, HCV.out, hsz, hg, hv0])
                    clear hsz hg hv0
                    refine over_region (W := W3) (by kernel_rfl) (by kernel_rfl) (by repeat (first | exact Below.refl _ _ | refine bl_drewN ?_ _ | refine bl_drew ?_ | refine bl_alloc ?_ _)) ?_
                    repeat (go_big_quiet_step (((go_at_call 76; exact over_of (covers_is A c a l[0].d _ HCV.out _ (HA3.out.below (Over.h _)) NA.out hnx)))))
                    refine wpQuiet_nil ?_
                    intro _ hx_
                    obtain ⟨x_, hx_⟩ := hx_
                    subst hx_
                    obtain ⟨w5, hb5⟩ := x_
                    dsimp only
                    go_wp2
                    go_roundw
                    case rel => exact ⟨1, by omega, rfl, HV, Lib.hid (bl_then HWB.out hb5)⟩
                    case measure => simp [intOf]; omega
                  · have e0 := (nonempty_str hv0).1
                    have e1 := (nonempty_str hv0).2
                    have HV := Lib.hid (sta_bad (a := a) hlt (by simp [sOk, HCV.out, hg, hv0]))
                    clear hsz hg hv0
                    refine over_region (W := W3) (by kernel_rfl) (by kernel_rfl) (by repeat (first | exact Below.refl _ _ | refine bl_drewN ?_ _ | refine bl_drew ?_ | refine bl_alloc ?_ _)) ?_
                    repeat (go_big_quiet_step (((go_at_call 76; exact over_of (covers_is A c a l[0].d _ HCV.out _ (HA3.out.below (Over.h _)) NA.out hnx)))))
                    refine wpQuiet_nil ?_
                    intro _ hx_
                    obtain ⟨x_, hx_⟩ := hx_
                    subst hx_
                    obtain ⟨w5, hb5⟩ := x_
                    dsimp only
                    go_wp2
                    go_ret
                    exact ⟨ret_bool HV.out.symm, bl_then HW3.out hb5⟩
                | false =>
                  rw [hg] at kx2
                  have HV := Lib.hid (show chainB (sOk a) ltS (l.take (1)) = true by
                    rw [chain_one _ _ _ hlt]; simp [sOk, HCV.out, hsz, hg])
                  clear hsz hg
                  refine over_region (W := W3) (by kernel_rfl) (by kernel_rfl) (by repeat (first | exact Below.refl _ _ | refine bl_drewN ?_ _ | refine bl_drew ?_ | refine bl_alloc ?_ _)) ?_
                  repeat (go_big_quiet_step (((go_at_call 76; exact over_of (covers_is A c a l[0].d _ HCV.out _ (HA3.out.below (Over.h _)) NA.out hnx)))))
                  refine wpQuiet_nil ?_
                  intro _ hx_
                  obtain ⟨x_, hx_⟩ := hx_
                  subst hx_
                  obtain ⟨w5, hb5⟩ := x_
                  dsimp only
                  go_wp2
                  go_roundw
                  case rel => exact ⟨1, by omega, rfl, HV, Lib.hid (bl_then HWB.out hb5)⟩
                  case measure => simp [intOf]; omega
              · have z0 : decide ((40 : Int) < (l[0].v.size : Int)) = true := by simp; omega
                have z1 : decide (40 < l[0].v.size) = true := by simp; omega
                have HV := Lib.hid (sta_bad (a := a) hlt (by simp [sOk, hsz]))
                clear hsz
                refine over_region (W := W3) (by kernel_rfl) (by kernel_rfl) (by repeat (first | exact Below.refl _ _ | refine bl_drewN ?_ _ | refine bl_drew ?_ | refine bl_alloc ?_ _)) ?_
                repeat (go_big_quiet_step (((go_at_call 76; exact over_of (covers_is A c a l[0].d _ HCV.out _ (HA3.out.below (Over.h _)) NA.out hnx)))))
                refine wpQuiet_nil ?_
                intro _ hx_
                obtain ⟨x_, hx_⟩ := hx_
                subst hx_
                obtain ⟨w5, hb5⟩ := x_
                dsimp only
                go_wp2
                go_ret
                exact ⟨ret_bool HV.out.symm, bl_then HW3.out hb5⟩
            · have hcv' : cov a l[0].d = false := by simpa using hcv
              have HCV := Lib.hid hcv'
              have HV := Lib.hid (sta_bad (a := a) hlt (by simp [sOk, hcv']))
              clear hcv hcv'
              refine over_region (W := W3) (by kernel_rfl) (by kernel_rfl) (by repeat (first | exact Below.refl _ _ | refine bl_drewN ?_ _ | refine bl_drew ?_ | refine bl_alloc ?_ _)) ?_
              repeat (go_big_quiet_step (((go_at_call 76; exact over_of (covers_is A c a l[0].d _ HCV.out _ (HA3.out.below (Over.h _)) NA.out hnx)))))
              refine wpQuiet_nil ?_
              intro _ hx_
              obtain ⟨x_, hx_⟩ := hx_
              subst hx_
              obtain ⟨w5, hb5⟩ := x_
              dsimp only
              go_wp2
              go_ret
              exact ⟨ret_bool HV.out.symm, bl_then HW3.out hb5⟩
          · obtain ⟨ad', eB, hb1, y0, y1, _, _⟩ := sib_at HLW.out m (by omega)
            cases eB
            have ky0 := over_cell y0
            have ky1 := over_cell y1
            have i2 : (0 : Int) ≤ (m : Int) := by omega
            have i3 : (m : Int) < (l.length : Int) := by omega
            have i4 : (m : Int) + 1 < (l.length : Int) := by omega
            clear y0 y1
            by_cases hL : ltD l[m].d l[m + 1].d = true
            · have HLT := Lib.hid hL
              have HCD := Lib.hid (cmpD_lt hL)
              clear hL
              by_cases hcv : cov a l[m + 1].d = true
              · have HCV := Lib.hid hcv
                clear hcv
                by_cases hsz : l[m + 1].v.size ≤ 40
                · have z0 : decide ((40 : Int) < (l[m + 1].v.size : Int)) = false := by simp; omega
                  have z1 : decide (40 < l[m + 1].v.size) = false := by simp; omega
                  cases hg : l[m + 1].gone with
                  | true =>
                    rw [hg] at kx2
                    by_cases hv0 : l[m + 1].v.size = 0
                    · have e0 := (empty_str hv0).1
                      have e1 := (empty_str hv0).2
                      have HV := Lib.hid (show chainB (sOk a) ltS (l.take (m + 1 + 1)) = true by
                        rw [chain_succ _ _ _ _ (by omega) hlt]; simp [sOk, HCV.out, hsz, hg, hv0, ltS, hok.out, HLT.out])
                      clear hsz hg hv0
                      refine over_region (W := W3) (by kernel_rfl) (by kernel_rfl) (by repeat (first | exact Below.refl _ _ | refine bl_drewN ?_ _ | refine bl_drew ?_ | refine bl_alloc ?_ _)) ?_
                      repeat (go_big_quiet_step (((first | (go_at_call 75; exact over_of (order_is l[m].d l[m + 1].d _ HCD.out _)) | (go_at_call 76; exact over_of (covers_is A c a l[m + 1].d _ HCV.out _ (HA3.out.below (Over.h _)) NA.out hnx))))))
                      refine wpQuiet_nil ?_
                      intro _ hx_
                      obtain ⟨x_, hx_⟩ := hx_
                      subst hx_
                      obtain ⟨w5, hb5⟩ := x_
                      dsimp only
                      go_wp2
                      go_roundw
                      case rel => exact ⟨m + 1 + 1, by omega, by go_num, HV, Lib.hid (bl_then HWB.out hb5)⟩
                      case measure => simp [intOf]; omega
                    · have e0 := (nonempty_str hv0).1
                      have e1 := (nonempty_str hv0).2
                      have HV := Lib.hid (sta_bad (a := a) hlt (by simp [sOk, HCV.out, hg, hv0]))
                      clear hsz hg hv0
                      refine over_region (W := W3) (by kernel_rfl) (by kernel_rfl) (by repeat (first | exact Below.refl _ _ | refine bl_drewN ?_ _ | refine bl_drew ?_ | refine bl_alloc ?_ _)) ?_
                      repeat (go_big_quiet_step (((first | (go_at_call 75; exact over_of (order_is l[m].d l[m + 1].d _ HCD.out _)) | (go_at_call 76; exact over_of (covers_is A c a l[m + 1].d _ HCV.out _ (HA3.out.below (Over.h _)) NA.out hnx))))))
                      refine wpQuiet_nil ?_
                      intro _ hx_
                      obtain ⟨x_, hx_⟩ := hx_
                      subst hx_
                      obtain ⟨w5, hb5⟩ := x_
                      dsimp only
                      go_wp2
                      go_ret
                      exact ⟨ret_bool HV.out.symm, bl_then HW3.out hb5⟩
                  | false =>
                    rw [hg] at kx2
                    have HV := Lib.hid (show chainB (sOk a) ltS (l.take (m + 1 + 1)) = true by
                      rw [chain_succ _ _ _ _ (by omega) hlt]; simp [sOk, HCV.out, hsz, hg, ltS, hok.out, HLT.out])
                    clear hsz hg
                    refine over_region (W := W3) (by kernel_rfl) (by kernel_rfl) (by repeat (first | exact Below.refl _ _ | refine bl_drewN ?_ _ | refine bl_drew ?_ | refine bl_alloc ?_ _)) ?_
                    repeat (go_big_quiet_step (((first | (go_at_call 75; exact over_of (order_is l[m].d l[m + 1].d _ HCD.out _)) | (go_at_call 76; exact over_of (covers_is A c a l[m + 1].d _ HCV.out _ (HA3.out.below (Over.h _)) NA.out hnx))))))
                    refine wpQuiet_nil ?_
                    intro _ hx_
                    obtain ⟨x_, hx_⟩ := hx_
                    subst hx_
                    obtain ⟨w5, hb5⟩ := x_
                    dsimp only
                    go_wp2
                    go_roundw
                    case rel => exact ⟨m + 1 + 1, by omega, by go_num, HV, Lib.hid (bl_then HWB.out hb5)⟩
                    case measure => simp [intOf]; omega
                · have z0 : decide ((40 : Int) < (l[m + 1].v.size : Int)) = true := by simp; omega
                  have z1 : decide (40 < l[m + 1].v.size) = true := by simp; omega
                  have HV := Lib.hid (sta_bad (a := a) hlt (by simp [sOk, hsz]))
                  clear hsz
                  refine over_region (W := W3) (by kernel_rfl) (by kernel_rfl) (by repeat (first | exact Below.refl _ _ | refine bl_drewN ?_ _ | refine bl_drew ?_ | refine bl_alloc ?_ _)) ?_
                  repeat (go_big_quiet_step (((first | (go_at_call 75; exact over_of (order_is l[m].d l[m + 1].d _ HCD.out _)) | (go_at_call 76; exact over_of (covers_is A c a l[m + 1].d _ HCV.out _ (HA3.out.below (Over.h _)) NA.out hnx))))))
                  refine wpQuiet_nil ?_
                  intro _ hx_
                  obtain ⟨x_, hx_⟩ := hx_
                  subst hx_
                  obtain ⟨w5, hb5⟩ := x_
                  dsimp only
                  go_wp2
                  go_ret
                  exact ⟨ret_bool HV.out.symm, bl_then HW3.out hb5⟩
              · have hcv' : cov a l[m + 1].d = false := by simpa using hcv
                have HCV := Lib.hid hcv'
                have HV := Lib.hid (sta_bad (a := a) hlt (by simp [sOk, hcv']))
                clear hcv hcv'
                refine over_region (W := W3) (by kernel_rfl) (by kernel_rfl) (by repeat (first | exact Below.refl _ _ | refine bl_drewN ?_ _ | refine bl_drew ?_ | refine bl_alloc ?_ _)) ?_
                repeat (go_big_quiet_step (((first | (go_at_call 75; exact over_of (order_is l[m].d l[m + 1].d _ HCD.out _)) | (go_at_call 76; exact over_of (covers_is A c a l[m + 1].d _ HCV.out _ (HA3.out.below (Over.h _)) NA.out hnx))))))
                refine wpQuiet_nil ?_
                intro _ hx_
                obtain ⟨x_, hx_⟩ := hx_
                subst hx_
                obtain ⟨w5, hb5⟩ := x_
                dsimp only
                go_wp2
                go_ret
                exact ⟨ret_bool HV.out.symm, bl_then HW3.out hb5⟩
            · have HV := Lib.hid (show staB a l = false from sta_fail (k := m + 1 + 1) (by rw [chain_succ _ _ _ _ (by omega) hlt]; simp [ltS, hL]))
              have hcd : cmpD l[m].d l[m + 1].d = 0 ∨ cmpD l[m].d l[m + 1].d = 1 := by
                rcases ltD_tri l[m].d l[m + 1].d with ⟨h, _⟩ | h | ⟨h, _, _⟩
                · exact absurd h hL
                · left; rw [h]; exact cmpD_self _
                · right; exact cmpD_gt h
              clear hL
              rcases hcd with hcd | hcd
              all_goals
                have HCD := Lib.hid hcd
                clear hcd
                refine over_region (W := W3) (by kernel_rfl) (by kernel_rfl) (by repeat (first | exact Below.refl _ _ | refine bl_drewN ?_ _ | refine bl_drew ?_ | refine bl_alloc ?_ _)) ?_
                repeat (go_big_quiet_step (((go_at_call 75; exact over_of (order_is l[m].d l[m + 1].d _ HCD.out _)))))
                refine wpQuiet_nil ?_
                intro _ hx_
                obtain ⟨x_, hx_⟩ := hx_
                subst hx_
                obtain ⟨w5, hb5⟩ := x_
                dsimp only
                go_wp2
                go_ret
                exact ⟨ret_bool HV.out.symm, bl_then HW3.out hb5⟩
        · obtain rfl : k = l.length := by omega
          have HV := Lib.hid (sta_full HVV.out h64 hok.out)
          go_wp2
          go_ret
          exact ⟨ret_bool HV.out.symm, HWR.out⟩
    · have HV := Lib.hid (sta_long (a := a) (l := l) (by omega))
      have g0 : decide (64 < (l.length : Int)) = true := by simp; omega
      have g1 : decide (64 < l.length) = true := by simp; omega
      clear h64
      go_enter Try.func73, Try.ntmps73
      go_wp2_with fail
      refine (vecValid_any _ _ _ _ (HA.out.below L0.out) NA.out).mono ?_
      rintro e w1 ⟨rfl, hb1⟩
      rw [hv]
      have L1 := Lib.hid (bl_then L0.out hb1)
      have X1 := X0.out.below hb1 X0.out.lt
      have s1 : w1.cell? ⟨w.heap.size, 1, none⟩ = some (.slice B l.length d) := X1.cell 1
      clear hb1 X1
      go_wp2
      go_ret
      exact ⟨ret_bool HV.out.symm, L1.out⟩
  · have hv' : vecB a = false := by simpa using hv
    have HV := Lib.hid (sta_vec (l := l) hv')
    clear hv
    go_enter Try.func73, Try.ntmps73
    go_wp2_with fail
    refine (vecValid_any _ _ _ _ (HA.out.below L0.out) NA.out).mono ?_
    rintro e w1 ⟨rfl, hb1⟩
    rw [hv']
    have L1 := Lib.hid (bl_then L0.out hb1)
    have X1 := X0.out.below hb1 X0.out.lt
    have s1 : w1.cell? ⟨w.heap.size, 1, none⟩ = some (.slice B l.length d) := X1.cell 1
    clear hb1 X1
    go_wp2
    go_ret
    exact ⟨ret_bool HV.out.symm, L1.out⟩
end Go.Proofs.Ytljfigikkajlnaa
