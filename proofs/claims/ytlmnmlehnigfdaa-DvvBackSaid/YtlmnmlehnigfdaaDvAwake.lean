/- DERIVED. The statements' own helper awake: two puts side by side, and one upon both. -/
import Derived.Test.YtlmnmlehnigfdaaDvBelow
import Derived.Test.YtlmnmlehnigfdaaDvLat2
import Derived.Test.YtlmnmlehnigfdaaDvPut
import Derived.Test.YtlmnmlehnigfdaaDvVals2
namespace Go.Proofs.Ytlmnmlehnigfdaa
open Go.RowKit Go.Proofs.YtlmnmlehnigfdaaW.PrintWords
set_option linter.unusedVariables false
set_option linter.unusedSimpArgs false
attribute [local go_sem high] eqD

theorem aw1 : putE [] [] [] 1 (⟨#[120]⟩ : ByteArray) false = 0 ∧ putA [] [] [] 1 (⟨#[120]⟩ : ByteArray) false = [⟨1, 1⟩] ∧ putL [] [] [] 1 (⟨#[120]⟩ : ByteArray) false = [⟨⟨1, 1⟩, false, ⟨#[120]⟩⟩] ∧ putD [] [] [] 1 (⟨#[120]⟩ : ByteArray) false = ⟨1, 1⟩ := by
  simp [putE, putA, putL, putD, putN, putDot, putX, staB, vecB, chainB, dOk, ltA, cnt, look, vmax, insS, keepS, valB, cov, sOk, ltS, ltD, ByteArray.size, Nat.max_def]
theorem aw2 : putE [] [] [] 2 (⟨#[121]⟩ : ByteArray) false = 0 ∧ putA [] [] [] 2 (⟨#[121]⟩ : ByteArray) false = [⟨2, 1⟩] ∧ putL [] [] [] 2 (⟨#[121]⟩ : ByteArray) false = [⟨⟨2, 1⟩, false, ⟨#[121]⟩⟩] ∧ putD [] [] [] 2 (⟨#[121]⟩ : ByteArray) false = ⟨2, 1⟩ := by
  simp [putE, putA, putL, putD, putN, putDot, putX, staB, vecB, chainB, dOk, ltA, cnt, look, vmax, insS, keepS, valB, cov, sOk, ltS, ltD, ByteArray.size, Nat.max_def]
theorem aw3 : joinE [⟨1, 1⟩] [⟨⟨1, 1⟩, false, ⟨#[120]⟩⟩] [⟨2, 1⟩] [⟨⟨2, 1⟩, false, ⟨#[121]⟩⟩] = 0 ∧ joinA [⟨1, 1⟩] [⟨⟨1, 1⟩, false, ⟨#[120]⟩⟩] [⟨2, 1⟩] [⟨⟨2, 1⟩, false, ⟨#[121]⟩⟩] = [⟨1, 1⟩, ⟨2, 1⟩] ∧ joinL [⟨1, 1⟩] [⟨⟨1, 1⟩, false, ⟨#[120]⟩⟩] [⟨2, 1⟩] [⟨⟨2, 1⟩, false, ⟨#[121]⟩⟩] = [⟨⟨1, 1⟩, false, ⟨#[120]⟩⟩, ⟨⟨2, 1⟩, false, ⟨#[121]⟩⟩] := by
  simp [joinE, joinA, joinL, staB, vecB, chainB, dOk, ltA, cnt, look, vmax, cov, sOk, ltS, ltD, sjoin, ByteArray.size]
theorem aw4 : putE [⟨1, 1⟩, ⟨2, 1⟩] [⟨⟨1, 1⟩, false, ⟨#[120]⟩⟩, ⟨⟨2, 1⟩, false, ⟨#[121]⟩⟩] [⟨1, 1⟩, ⟨2, 1⟩] 1 (⟨#[122]⟩ : ByteArray) false = 0 ∧ putA [⟨1, 1⟩, ⟨2, 1⟩] [⟨⟨1, 1⟩, false, ⟨#[120]⟩⟩, ⟨⟨2, 1⟩, false, ⟨#[121]⟩⟩] [⟨1, 1⟩, ⟨2, 1⟩] 1 (⟨#[122]⟩ : ByteArray) false = [⟨1, 2⟩, ⟨2, 1⟩] ∧ putL [⟨1, 1⟩, ⟨2, 1⟩] [⟨⟨1, 1⟩, false, ⟨#[120]⟩⟩, ⟨⟨2, 1⟩, false, ⟨#[121]⟩⟩] [⟨1, 1⟩, ⟨2, 1⟩] 1 (⟨#[122]⟩ : ByteArray) false = [⟨⟨1, 2⟩, false, ⟨#[122]⟩⟩] ∧ putD [⟨1, 1⟩, ⟨2, 1⟩] [⟨⟨1, 1⟩, false, ⟨#[120]⟩⟩, ⟨⟨2, 1⟩, false, ⟨#[121]⟩⟩] [⟨1, 1⟩, ⟨2, 1⟩] 1 (⟨#[122]⟩ : ByteArray) false = ⟨1, 2⟩ := by
  simp [putE, putA, putL, putD, putN, putDot, putX, staB, vecB, chainB, dOk, ltA, cnt, look, vmax, insS, keepS, valB, cov, sOk, ltS, ltD, ByteArray.size, Nat.max_def]
  rfl
theorem awc : staB [⟨1, 1⟩, ⟨2, 1⟩] [⟨⟨1, 1⟩, false, ⟨#[120]⟩⟩, ⟨⟨2, 1⟩, false, ⟨#[121]⟩⟩] := by simp [staB, vecB, chainB, dOk, ltA, cnt, look, cov, sOk, ltS, ltD, ByteArray.size, Nat.max_def]
theorem awo : staB [⟨1, 2⟩, ⟨2, 1⟩] [⟨⟨1, 2⟩, false, ⟨#[122]⟩⟩] := by simp [staB, vecB, chainB, dOk, ltA, cnt, look, cov, sOk, ltS, ltD, ByteArray.size, Nat.max_def]
theorem aw5 : valsA [⟨1, 1⟩, ⟨2, 1⟩] [⟨⟨1, 1⟩, false, ⟨#[120]⟩⟩, ⟨⟨2, 1⟩, false, ⟨#[121]⟩⟩] = [(⟨#[120]⟩ : ByteArray), (⟨#[121]⟩ : ByteArray)] := by
  rw [valsA, if_pos awc]
  have h : ltK (⟨#[120]⟩ : ByteArray) (⟨#[121]⟩ : ByteArray) = true := by decide +kernel
  simp [valsS, addV, hasV, insV, h]
theorem aw6 : valsA [⟨1, 2⟩, ⟨2, 1⟩] [⟨⟨1, 2⟩, false, ⟨#[122]⟩⟩] = [(⟨#[122]⟩ : ByteArray)] := by
  rw [valsA, if_pos awo]
  simp [valsS, addV, hasV, insV]
theorem aw7 : belS [⟨1, 1⟩] [⟨⟨1, 1⟩, false, ⟨#[120]⟩⟩] [⟨1, 1⟩, ⟨2, 1⟩] [⟨⟨1, 1⟩, false, ⟨#[120]⟩⟩, ⟨⟨2, 1⟩, false, ⟨#[121]⟩⟩] = true := by
  have := blj_left aw3.1
  rwa [aw3.2.1, aw3.2.2] at this
theorem aw8 : belS [⟨1, 1⟩, ⟨2, 1⟩] [⟨⟨1, 1⟩, false, ⟨#[120]⟩⟩, ⟨⟨2, 1⟩, false, ⟨#[121]⟩⟩] [⟨1, 1⟩] [⟨⟨1, 1⟩, false, ⟨#[120]⟩⟩] = false := by
  rw [bel_anti aw7]; simp [stEq]

set_option maxRecDepth 100000 in
set_option maxHeartbeats 12800000 in
theorem awake_any (w : World) : Calls Try.prog 34 #[] w fun e w' => e = .returned (.bool true) ∧ Below w.heap.size w w' := by
  go_enter Try.func34, Try.ntmps34
  go_wp2_with fail
  refine (dvvPut_any none none none 0 0 0 [] [] [] 1 (⟨#[120]⟩ : ByteArray) false w (GR.Rd.nil _ _ _) (GR.Rd.nil _ _ _) (GR.Rd.nil _ _ _) (Nat.le_refl _) (Nat.le_refl _) (fun d hd => by cases hd) (fun d hd => by cases hd) (fun d hd => by cases hd)).mono ?_
  rintro e w1 ⟨v1, v2, rfl, ho, hb⟩
  rw [aw1.1, aw1.2.2.2]
  rw [aw1.2.1, aw1.2.2.1] at ho
  obtain ⟨g1, k1, rfl, _, _⟩ := own_lit ho.d 1 rfl (by omega)
  obtain ⟨g2, k2, rfl, _, _⟩ := own_lit ho.s 1 rfl (by omega)
  have BB := Lib.hid hb
  have F1 := Lib.hid (HS.nil w1)
  have F2 := Lib.hid (F1.out.addO (ho))
  clear F1
  clear ho hb
  go_wp2_with fail
  obtain ⟨W2, hW2⟩ : ∃ W : World, W = ((w1).alloc (.cells #[.slice (some ⟨g1, 0, none⟩) 1 k1, .slice (some ⟨g2, 0, none⟩) 1 k2] 25)).alloc (.cells #[.int .u32 1, .int .u64 1] 32) := ⟨_, rfl⟩
  rw [← hW2]
  have LW2 : Hid (Below w1.heap.size w1 W2) := Lib.hid (by rw [hW2]; exact (by repeat (first | exact Below.refl _ _ | refine bl_drewN ?_ _ | refine bl_drew ?_ | refine bl_alloc ?_ _)))
  have XW20 : Hid (GR.Blk W2 (w1.heap.size) 25 #[.slice (some ⟨g1, 0, none⟩) 1 k1, .slice (some ⟨g2, 0, none⟩) 1 k2]) := Lib.hid (by rw [hW2]; exact (GR.Blk.new _ _ _).alloc _)
  have XW21 : Hid (GR.Blk W2 (w1.heap.size + 1) 32 #[.int .u32 1, .int .u64 1]) := Lib.hid (by rw [hW2]; exact new_at _ _ _ (by simp))
  clear hW2
  have F3 := Lib.hid (F2.out.below LW2.out)
  clear F2
  have F4 := Lib.hid (HS.addB F3.out (g := w1.heap.size) (t := 25) (cs := #[.slice (some ⟨g1, 0, none⟩) 1 k1, .slice (some ⟨g2, 0, none⟩) 1 k2]) (XW20.out))
  clear F3
  have F5 := Lib.hid (HS.addB F4.out (g := w1.heap.size + 1) (t := 32) (cs := #[.int .u32 1, .int .u64 1]) (XW21.out))
  clear F4
  replace BB := Lib.hid (bl_then BB.out LW2.out)
  refine (dvvPut_any none none none 0 0 0 [] [] [] 2 (⟨#[121]⟩ : ByteArray) false _ (GR.Rd.nil _ _ _) (GR.Rd.nil _ _ _) (GR.Rd.nil _ _ _) (Nat.le_refl _) (Nat.le_refl _) (fun d hd => by cases hd) (fun d hd => by cases hd) (fun d hd => by cases hd)).mono ?_
  rintro e w3 ⟨v1, v2, rfl, ho, hb⟩
  rw [aw2.1, aw2.2.2.2]
  rw [aw2.2.1, aw2.2.2.1] at ho
  obtain ⟨g3, k3, rfl, _, _⟩ := own_lit ho.d 1 rfl (by omega)
  obtain ⟨g4, k4, rfl, _, _⟩ := own_lit ho.s 1 rfl (by omega)
  have F6 := Lib.hid (F5.out.below hb)
  clear F5
  have F7 := Lib.hid (F6.out.addO (ho))
  clear F6
  replace BB := Lib.hid (bl_then BB.out hb)
  clear ho hb
  have pa_0 : w3.cell? ⟨w1.heap.size, 0, none⟩ = some (.slice (some ⟨g1, 0, none⟩) 1 k1) := (F7.out.blk 2 rfl).cell 0
  have pa_1 : w3.cell? ⟨w1.heap.size, 1, none⟩ = some (.slice (some ⟨g2, 0, none⟩) 1 k2) := (F7.out.blk 2 rfl).cell 1
  have pa_lt : w1.heap.size < w3.heap.size := (F7.out.blk 2 rfl).lt
  go_wp2_with fail
  obtain ⟨W4, hW4⟩ : ∃ W : World, W = ((w3).alloc (.cells #[.slice (some ⟨g3, 0, none⟩) 1 k3, .slice (some ⟨g4, 0, none⟩) 1 k4] 25)).alloc (.cells #[.int .u32 2, .int .u64 1] 32) := ⟨_, rfl⟩
  rw [← hW4]
  have LW4 : Hid (Below w3.heap.size w3 W4) := Lib.hid (by rw [hW4]; exact (by repeat (first | exact Below.refl _ _ | refine bl_drewN ?_ _ | refine bl_drew ?_ | refine bl_alloc ?_ _)))
  have XW40 : Hid (GR.Blk W4 (w3.heap.size) 25 #[.slice (some ⟨g3, 0, none⟩) 1 k3, .slice (some ⟨g4, 0, none⟩) 1 k4]) := Lib.hid (by rw [hW4]; exact (GR.Blk.new _ _ _).alloc _)
  have XW41 : Hid (GR.Blk W4 (w3.heap.size + 1) 32 #[.int .u32 2, .int .u64 1]) := Lib.hid (by rw [hW4]; exact new_at _ _ _ (by simp))
  clear hW4
  clear pa_0 pa_1 pa_lt
  have F8 := Lib.hid (F7.out.below LW4.out)
  clear F7
  have F9 := Lib.hid (HS.addB F8.out (g := w3.heap.size) (t := 25) (cs := #[.slice (some ⟨g3, 0, none⟩) 1 k3, .slice (some ⟨g4, 0, none⟩) 1 k4]) (XW40.out))
  clear F8
  have F10 := Lib.hid (HS.addB F9.out (g := w3.heap.size + 1) (t := 32) (cs := #[.int .u32 2, .int .u64 1]) (XW41.out))
  clear F9
  replace BB := Lib.hid (bl_then BB.out LW4.out)
  refine (join_at _ _ _ _ _ _ _ _ _ _ _ _ [⟨1, 1⟩] [⟨2, 1⟩] [⟨⟨1, 1⟩, false, ⟨#[120]⟩⟩] [⟨⟨2, 1⟩, false, ⟨#[121]⟩⟩] _ (GR.Own.rd ((F10.out.own 5 rfl).d) (by decide)).2.2 (GR.Own.rd ((F10.out.own 5 rfl).s) (by decide)).2.2 (GR.Own.rd ((F10.out.own 2 rfl).d) (by decide)).2.2 (GR.Own.rd ((F10.out.own 2 rfl).s) (by decide)).2.2 rfl rfl rfl rfl (GR.Own.rd ((F10.out.own 5 rfl).d) (by decide)).2.1 (GR.Own.rd ((F10.out.own 2 rfl).d) (by decide)).2.1 (by decide) (by decide) (by decide) (by decide)).mono ?_
  rintro e w5 ⟨v1, v2, rfl, ho, hb⟩
  rw [aw3.1]
  rw [aw3.2.1, aw3.2.2] at ho
  obtain ⟨g5, k5, rfl, _, _⟩ := own_lit ho.d 2 rfl (by omega)
  obtain ⟨g6, k6, rfl, _, _⟩ := own_lit ho.s 2 rfl (by omega)
  have F11 := Lib.hid (F10.out.below hb)
  clear F10
  have F12 := Lib.hid (F11.out.addO (ho))
  clear F11
  replace BB := Lib.hid (bl_then BB.out hb)
  clear ho hb
  go_wp2_with fail
  obtain ⟨W6, hW6⟩ : ∃ W : World, W = (w5).alloc (.cells #[.slice (some ⟨g5, 0, none⟩) 2 k5, .slice (some ⟨g6, 0, none⟩) 2 k6] 25) := ⟨_, rfl⟩
  rw [← hW6]
  have LW6 : Hid (Below w5.heap.size w5 W6) := Lib.hid (by rw [hW6]; exact (by repeat (first | exact Below.refl _ _ | refine bl_drewN ?_ _ | refine bl_drew ?_ | refine bl_alloc ?_ _)))
  have XW60 : Hid (GR.Blk W6 (w5.heap.size) 25 #[.slice (some ⟨g5, 0, none⟩) 2 k5, .slice (some ⟨g6, 0, none⟩) 2 k6]) := Lib.hid (by rw [hW6]; exact GR.Blk.new _ _ _)
  clear hW6
  have F13 := Lib.hid (F12.out.below LW6.out)
  clear F12
  have F14 := Lib.hid (HS.addB F13.out (g := w5.heap.size) (t := 25) (cs := #[.slice (some ⟨g5, 0, none⟩) 2 k5, .slice (some ⟨g6, 0, none⟩) 2 k6]) (XW60.out))
  clear F13
  replace BB := Lib.hid (bl_then BB.out LW6.out)
  refine (dvvPut_any (some ⟨g5, 0, none⟩) (some ⟨g6, 0, none⟩) (some ⟨g5, 0, none⟩) k5 k6 k5 [⟨1, 1⟩, ⟨2, 1⟩] [⟨⟨1, 1⟩, false, ⟨#[120]⟩⟩, ⟨⟨2, 1⟩, false, ⟨#[121]⟩⟩] [⟨1, 1⟩, ⟨2, 1⟩] 1 (⟨#[122]⟩ : ByteArray) false _ (GR.Own.rd ((F14.out.own 1 rfl).d) (by decide)).2.2 (GR.Own.rd ((F14.out.own 1 rfl).s) (by decide)).2.2 (GR.Own.rd ((F14.out.own 1 rfl).d) (by decide)).2.2 (GR.Own.rd ((F14.out.own 1 rfl).d) (by decide)).2.1 (GR.Own.rd ((F14.out.own 1 rfl).d) (by decide)).2.1 (by decide) (by decide) (by decide)).mono ?_
  rintro e w7 ⟨v1, v2, rfl, ho, hb⟩
  rw [aw4.1, aw4.2.2.2]
  rw [aw4.2.1, aw4.2.2.1] at ho
  obtain ⟨g7, k7, rfl, _, _⟩ := own_lit ho.d 2 rfl (by omega)
  obtain ⟨g8, k8, rfl, _, _⟩ := own_lit ho.s 1 rfl (by omega)
  have F15 := Lib.hid (F14.out.below hb)
  clear F14
  have F16 := Lib.hid (F15.out.addO (ho))
  clear F15
  replace BB := Lib.hid (bl_then BB.out hb)
  clear ho hb
  have pc_0 : w7.cell? ⟨w5.heap.size, 0, none⟩ = some (.slice (some ⟨g5, 0, none⟩) 2 k5) := (F16.out.blk 1 rfl).cell 0
  have pc_1 : w7.cell? ⟨w5.heap.size, 1, none⟩ = some (.slice (some ⟨g6, 0, none⟩) 2 k6) := (F16.out.blk 1 rfl).cell 1
  have pc_lt : w5.heap.size < w7.heap.size := (F16.out.blk 1 rfl).lt
  go_wp2_with fail
  obtain ⟨W8, hW8⟩ : ∃ W : World, W = ((w7).alloc (.cells #[.slice (some ⟨g7, 0, none⟩) 2 k7, .slice (some ⟨g8, 0, none⟩) 1 k8] 25)).alloc (.cells #[.int .u32 1, .int .u64 2] 32) := ⟨_, rfl⟩
  rw [← hW8]
  have LW8 : Hid (Below w7.heap.size w7 W8) := Lib.hid (by rw [hW8]; exact (by repeat (first | exact Below.refl _ _ | refine bl_drewN ?_ _ | refine bl_drew ?_ | refine bl_alloc ?_ _)))
  have XW80 : Hid (GR.Blk W8 (w7.heap.size) 25 #[.slice (some ⟨g7, 0, none⟩) 2 k7, .slice (some ⟨g8, 0, none⟩) 1 k8]) := Lib.hid (by rw [hW8]; exact (GR.Blk.new _ _ _).alloc _)
  have XW81 : Hid (GR.Blk W8 (w7.heap.size + 1) 32 #[.int .u32 1, .int .u64 2]) := Lib.hid (by rw [hW8]; exact new_at _ _ _ (by simp))
  clear hW8
  clear pc_0 pc_1 pc_lt
  have F17 := Lib.hid (F16.out.below LW8.out)
  clear F16
  have F18 := Lib.hid (HS.addB F17.out (g := w7.heap.size) (t := 25) (cs := #[.slice (some ⟨g7, 0, none⟩) 2 k7, .slice (some ⟨g8, 0, none⟩) 1 k8]) (XW80.out))
  clear F17
  have F19 := Lib.hid (HS.addB F18.out (g := w7.heap.size + 1) (t := 32) (cs := #[.int .u32 1, .int .u64 2]) (XW81.out))
  clear F18
  replace BB := Lib.hid (bl_then BB.out LW8.out)
  refine (dvvValues_any (some ⟨g5, 0, none⟩) (some ⟨g6, 0, none⟩) k5 k6 [⟨1, 1⟩, ⟨2, 1⟩] [⟨⟨1, 1⟩, false, ⟨#[120]⟩⟩, ⟨⟨2, 1⟩, false, ⟨#[121]⟩⟩] _ (GR.Own.rd ((F19.out.own 4 rfl).d) (by decide)).2.2 (GR.Own.rd ((F19.out.own 4 rfl).s) (by decide)).2.2 (by decide) (by decide)).mono ?_
  rintro e w9 ⟨v, rfl, ho, hb⟩
  rw [aw5] at ho
  obtain ⟨g9, k9, rfl, _, _⟩ := own_lit ho 2 rfl (by omega)
  have F20 := Lib.hid (F19.out.below hb)
  clear F19
  have F21 := Lib.hid (F20.out.addW (ho))
  clear F20
  replace BB := Lib.hid (bl_then BB.out hb)
  clear ho hb
  have po_0 : w9.cell? ⟨w7.heap.size, 0, none⟩ = some (.slice (some ⟨g7, 0, none⟩) 2 k7) := (F21.out.blk 2 rfl).cell 0
  have po_1 : w9.cell? ⟨w7.heap.size, 1, none⟩ = some (.slice (some ⟨g8, 0, none⟩) 1 k8) := (F21.out.blk 2 rfl).cell 1
  go_wp2_with fail
  clear po_0 po_1
  refine (dvvValues_any (some ⟨g7, 0, none⟩) (some ⟨g8, 0, none⟩) k7 k8 [⟨1, 2⟩, ⟨2, 1⟩] [⟨⟨1, 2⟩, false, ⟨#[122]⟩⟩] _ (GR.Own.rd ((F21.out.own 3 rfl).d) (by decide)).2.2 (GR.Own.rd ((F21.out.own 3 rfl).s) (by decide)).2.2 (by decide) (by decide)).mono ?_
  rintro e w10 ⟨v, rfl, ho, hb⟩
  rw [aw6] at ho
  obtain ⟨g10, k10, rfl, _, _⟩ := own_lit ho 1 rfl (by omega)
  have F22 := Lib.hid (F21.out.below hb)
  clear F21
  have F23 := Lib.hid (F22.out.addW (ho))
  clear F22
  replace BB := Lib.hid (bl_then BB.out hb)
  clear ho hb
  have pa_0 : w10.cell? ⟨w1.heap.size, 0, none⟩ = some (.slice (some ⟨g1, 0, none⟩) 1 k1) := (F23.out.blk 11 rfl).cell 0
  have pa_1 : w10.cell? ⟨w1.heap.size, 1, none⟩ = some (.slice (some ⟨g2, 0, none⟩) 1 k2) := (F23.out.blk 11 rfl).cell 1
  have pd_0 : w10.cell? ⟨w1.heap.size + 1, 0, none⟩ = some (.int .u32 1) := (F23.out.blk 10 rfl).cell 0
  have pd_1 : w10.cell? ⟨w1.heap.size + 1, 1, none⟩ = some (.int .u64 1) := (F23.out.blk 10 rfl).cell 1
  have pc_0 : w10.cell? ⟨w5.heap.size, 0, none⟩ = some (.slice (some ⟨g5, 0, none⟩) 2 k5) := (F23.out.blk 5 rfl).cell 0
  have pc_1 : w10.cell? ⟨w5.heap.size, 1, none⟩ = some (.slice (some ⟨g6, 0, none⟩) 2 k6) := (F23.out.blk 5 rfl).cell 1
  have l0 : w10.cell? ⟨g9, 0, none⟩ = some (.string (⟨#[120]⟩ : ByteArray)) := (GR.Own.cells (F23.out.ow 1 rfl) 0 (by decide) 0 _ rfl).1
  have l1 : w10.cell? ⟨g9, 1, none⟩ = some (.string (⟨#[121]⟩ : ByteArray)) := (GR.Own.cells (F23.out.ow 1 rfl) 1 (by decide) 0 _ rfl).1
  have m0 : w10.cell? ⟨g10, 0, none⟩ = some (.string (⟨#[122]⟩ : ByteArray)) := (GR.Own.cells (F23.out.ow 0 rfl) 0 (by decide) 0 _ rfl).1
  have q0 : dEq 1 1 1 1 = true := by simp [dEq]
  have q1 : ((⟨#[120]⟩ : ByteArray).toList == (⟨#[120]⟩ : ByteArray).toList) = true := by simp
  have q2 : ((⟨#[121]⟩ : ByteArray).toList == (⟨#[121]⟩ : ByteArray).toList) = true := by simp
  have q3 : ((⟨#[122]⟩ : ByteArray).toList == (⟨#[122]⟩ : ByteArray).toList) = true := by simp
  go_wp2_with fail
  clear pa_0 pa_1 pd_0 pd_1 pc_0 pc_1
  refine (dvvBelow_any _ _ _ _ _ _ _ _ [⟨1, 1⟩] [⟨1, 1⟩, ⟨2, 1⟩] [⟨⟨1, 1⟩, false, ⟨#[120]⟩⟩] [⟨⟨1, 1⟩, false, ⟨#[120]⟩⟩, ⟨⟨2, 1⟩, false, ⟨#[121]⟩⟩] _ (GR.Own.rd ((F23.out.own 12 rfl).d) (by decide)).2.2 (GR.Own.rd ((F23.out.own 12 rfl).s) (by decide)).2.2 (GR.Own.rd ((F23.out.own 6 rfl).d) (by decide)).2.2 (GR.Own.rd ((F23.out.own 6 rfl).s) (by decide)).2.2 (GR.Own.rd ((F23.out.own 12 rfl).d) (by decide)).2.1 (GR.Own.rd ((F23.out.own 6 rfl).d) (by decide)).2.1 (by decide) (by decide) (by decide) (by decide)).mono ?_
  rintro e w11 ⟨rfl, hb⟩
  rw [aw7]
  have F24 := Lib.hid (F23.out.below hb)
  clear F23
  replace BB := Lib.hid (bl_then BB.out hb)
  clear hb
  have pa_0 : w11.cell? ⟨w1.heap.size, 0, none⟩ = some (.slice (some ⟨g1, 0, none⟩) 1 k1) := (F24.out.blk 11 rfl).cell 0
  have pa_1 : w11.cell? ⟨w1.heap.size, 1, none⟩ = some (.slice (some ⟨g2, 0, none⟩) 1 k2) := (F24.out.blk 11 rfl).cell 1
  have pc_0 : w11.cell? ⟨w5.heap.size, 0, none⟩ = some (.slice (some ⟨g5, 0, none⟩) 2 k5) := (F24.out.blk 5 rfl).cell 0
  have pc_1 : w11.cell? ⟨w5.heap.size, 1, none⟩ = some (.slice (some ⟨g6, 0, none⟩) 2 k6) := (F24.out.blk 5 rfl).cell 1
  go_wp2_with fail
  clear pa_0 pa_1 pc_0 pc_1
  refine (dvvBelow_any _ _ _ _ _ _ _ _ [⟨1, 1⟩, ⟨2, 1⟩] [⟨1, 1⟩] [⟨⟨1, 1⟩, false, ⟨#[120]⟩⟩, ⟨⟨2, 1⟩, false, ⟨#[121]⟩⟩] [⟨⟨1, 1⟩, false, ⟨#[120]⟩⟩] _ (GR.Own.rd ((F24.out.own 6 rfl).d) (by decide)).2.2 (GR.Own.rd ((F24.out.own 6 rfl).s) (by decide)).2.2 (GR.Own.rd ((F24.out.own 12 rfl).d) (by decide)).2.2 (GR.Own.rd ((F24.out.own 12 rfl).s) (by decide)).2.2 (GR.Own.rd ((F24.out.own 6 rfl).d) (by decide)).2.1 (GR.Own.rd ((F24.out.own 12 rfl).d) (by decide)).2.1 (by decide) (by decide) (by decide) (by decide)).mono ?_
  rintro e w12 ⟨rfl, hb⟩
  rw [aw8]
  go_wp2
  go_ret
  exact ⟨rfl, bl_then BB.out hb⟩
end Go.Proofs.Ytlmnmlehnigfdaa
