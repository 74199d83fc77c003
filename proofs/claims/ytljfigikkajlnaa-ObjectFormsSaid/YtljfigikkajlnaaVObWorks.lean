/- DERIVED. The statements' own helper works: an object put, packed, found again. -/
import Derived.Test.YtljfigikkajlnaaVObForm
import Derived.Test.YtljfigikkajlnaaVObPut
import Derived.Test.YtljfigikkajlnaaVObSame
import Derived.Test.YtljfigikkajlnaaVm10
namespace Go.Proofs.Ytljfigikkajlnaa
open Go.RowKit Go.Lib Go.Proofs.YtljfigikkajlnaaW.PrintWords
set_option linter.unusedVariables false
set_option linter.unusedSimpArgs false
attribute [local go_sem high] eqD eqCell
def wkS : List Dot := [⟨1, 1⟩]
def wkL : List Sib := [⟨⟨1, 1⟩, false, ⟨#[120]⟩⟩]
def kA : ByteArray := ⟨#[97]⟩
def wkB : List UInt8 := [1, 1, 1, 1, 1, 1, 0, 1, 120]
theorem wk1 : putE [] [] [] 1 (⟨#[120]⟩ : ByteArray) false = 0 ∧ putA [] [] [] 1 (⟨#[120]⟩ : ByteArray) false = wkS ∧ putL [] [] [] 1 (⟨#[120]⟩ : ByteArray) false = wkL ∧ putD [] [] [] 1 (⟨#[120]⟩ : ByteArray) false = ⟨1, 1⟩ := by
  simp [wkS, wkL, putE, putA, putL, putD, putN, putDot, putX, staB, vecB, chainB, dOk, ltA, cnt, look, vmax, insS, keepS, valB, cov, sOk, ltS, ltD, ByteArray.size, Nat.max_def]
theorem wk_sta : staB wkS wkL = true := by simp [wkS, wkL, staB, vecB, chainB, dOk, ltA, cnt, look, cov, sOk, ltS, ltD, ByteArray.size, Nat.max_def]
theorem wk_key : keyB kA = true := by decide +kernel
theorem wk_enc0 : encS [] [] = [0, 0] := by simp [encS, vecU, uintU_small]
theorem wk_enc : encS wkS wkL = wkB := by
  simp [encS, vecU, wkS, wkL, dotU, sibU, goneU, textU, uintU_small, wkB, ByteArray.size]
theorem wk_chk0 : chkE kA [] [] = 0 := by
  rw [chkE, wk_key, show staB [] [] = true from by decide, wk_enc0]; rfl
theorem wk_chk : chkE kA wkS wkL = 0 := by
  rw [chkE, wk_key, wk_sta, wk_enc]; rfl
theorem wk_oput : oputE kA [] [] [] 1 (⟨#[120]⟩ : ByteArray) false = 0 := by
  rw [oputE, if_pos wk_chk0, if_pos wk1.1, wk1.2.1, wk1.2.2.1, wk_chk]
theorem wk_o : oputK kA [] [] [] 1 (⟨#[120]⟩ : ByteArray) false = kA ∧ oputA kA [] [] [] 1 (⟨#[120]⟩ : ByteArray) false = wkS ∧ oputL kA [] [] [] 1 (⟨#[120]⟩ : ByteArray) false = wkL ∧ oputD kA [] [] [] 1 (⟨#[120]⟩ : ByteArray) false = ⟨1, 1⟩ := by
  have h := oput_yes wk_oput
  exact ⟨h.2.1, h.2.2.2.1.trans wk1.2.1, h.2.2.2.2.trans wk1.2.2.1, h.2.2.1.trans wk1.2.2.2⟩
theorem wk_place : placeN kA = 2005 := by
  have h : placeI kA = 2005 := by rw [← ofI_pos (key := kA) wk_key]; exact of_a
  rw [placeN, h]; rfl
def kC : ByteArray := ⟨#[7, 213, 97]⟩
def vC : ByteArray := ⟨#[1, 1, 1, 1, 1, 1, 0, 1, 120]⟩
theorem wk_packK : packK kA = kC := by rw [packK, wk_place]; decide +kernel
theorem wk_packE : packE kA wkS wkL = 0 := by rw [packE, if_pos wk_chk]; rfl
theorem wk_pack : packC kA wkS wkL = (kC, vC) := by
  rw [packC, if_pos wk_packE, wk_packK, wk_enc]; rfl
theorem wk_str : StR wkS wkL := by
  refine ⟨fun d hd => ?_, fun x hx => ?_⟩
  · simp [wkS] at hd; subst hd; decide
  · simp [wkL] at hx; subst hx; decide
theorem wk_form : formB kA wkS wkL = ⟨#[79, 1, 97, 1, 1, 1, 1, 1, 1, 0, 1, 120]⟩ := by
  rw [formB, if_pos ⟨wk_chk, by decide⟩, wk_enc, textU, show kA.size = 1 from rfl, uintU_small (by omega)]; rfl
theorem wk_dec : decB vC.data.toList = true ∧ decA vC.data.toList = wkS ∧ decL vC.data.toList = wkL := by
  have h := enc_dec wk_sta (fun d hd => (wk_str.1 d hd).2) (fun x hx => (wk_str.2 x hx).2)
  rw [wk_enc] at h
  exact h
theorem wk_unp : unpB kC vC = true := by
  rw [unpB, wk_dec.1, wk_dec.2.1, wk_dec.2.2, show kd kC = kA from by decide +kernel, wk_packE, wk_packK]
  rfl
theorem wk_u : unpK kC vC = kA ∧ unpA kC vC = wkS ∧ unpL kC vC = wkL ∧ unpE kC vC = 0 := by
  have h := unp_yes wk_unp
  exact ⟨h.1.trans (by decide +kernel), h.2.1.trans wk_dec.2.1, h.2.2.1.trans wk_dec.2.2, h.2.2.2⟩
set_option maxRecDepth 100000 in
set_option maxHeartbeats 12800000 in
theorem works_any (w : World) : Calls Try.prog 24 #[] w fun e w' => e = .returned (.bool true) ∧ Below w.heap.size w w' := by
  have HS := Lib.hid wk_str
  have jS : wkS.length * 16 ≤ 140737488355328 := by decide
  have jL : wkL.length * 40 ≤ 140737488355328 := by decide
  go_enter Try.func24, Try.ntmps24
  go_wp2_with fail
  refine (oput_any kA none none none 0 0 0 [] [] [] 1 (⟨#[120]⟩ : ByteArray) false w (GR.Rd.nil _ _ _) (GR.Rd.nil _ _ _) (GR.Rd.nil _ _ _) (Nat.le_refl _) (Nat.le_refl _) ⟨fun d hd => (by cases hd), fun d hd => (by cases hd)⟩ (fun d hd => (by cases hd)) (by omega)).mono ?_
  rintro e w1 ⟨v1, v2, rfl, ho, hb⟩
  rw [wk_oput, wk_o.1, wk_o.2.2.2]
  rw [wk_o.2.1, wk_o.2.2.1] at ho
  obtain ⟨A1, n1, k1, rfl⟩ := own_slice ho.d jS
  obtain ⟨A2, n2, k2, rfl⟩ := own_slice ho.s jL
  obtain rfl : n1 = wkS.length := own_n' ho.d
  obtain rfl : n2 = wkL.length := own_n' ho.s
  have O1 := Lib.hid ho
  have B1 := Lib.hid hb
  clear ho hb
  go_wp2_with fail
  obtain ⟨W2, hW2⟩ : ∃ W2 : World, W2 = (w1.alloc (.cells #[.string kA, .slice A1 wkS.length k1, .slice A2 wkL.length k2] 27)).alloc (.cells #[.int .u32 1, .int .u64 1] 41) := ⟨_, rfl⟩
  rw [← hW2]
  have B2 := Lib.hid (show Below w1.heap.size w1 W2 by rw [hW2]; exact (by repeat (first | exact Below.refl _ _ | refine bl_drewN ?_ _ | refine bl_drew ?_ | refine bl_alloc ?_ _)))
  have XO : Hid (GR.Blk W2 w1.heap.size 27 #[.string kA, .slice A1 wkS.length k1, .slice A2 wkL.length k2]) := Lib.hid (by rw [hW2]; exact (GR.Blk.new _ _ _).alloc _)
  have XD : Hid (GR.Blk W2 (w1.heap.size + 1) 41 #[.int .u32 1, .int .u64 1]) := Lib.hid (by rw [hW2]; exact new_at _ _ _ (by simp))
  clear hW2
  have O2 := Lib.hid (O1.out.below B2.out)
  have C2 := Lib.hid (bl_then B1.out B2.out)
  refine (pack_any kA A1 A2 wkS.length k1 wkL.length k2 wkS wkL W2 (O2.out.d.rd jS).2.2 (O2.out.s.rd jL).2.2 rfl rfl HS.out).mono ?_
  rintro e w3 ⟨rfl, hb⟩
  rw [wk_pack, wk_packE]
  have B3 := Lib.hid (bl_then C2.out hb)
  have XO3 := Lib.hid (XO.out.below hb XO.out.lt)
  have XD3 := Lib.hid (XD.out.below hb XD.out.lt)
  have O3 := Lib.hid (O2.out.below hb)
  clear hb
  have hs1 : w1.heap.size < w3.heap.size := XO3.out.lt
  have hs2 : w1.heap.size + 1 < w3.heap.size := XD3.out.lt
  go_wp2_with fail
  obtain ⟨W4, hW4⟩ : ∃ W4 : World, W4 = w3.alloc (.cells #[.string kC, .string vC] 48) := ⟨_, rfl⟩
  rw [← hW4]
  have B4 := Lib.hid (show Below w3.heap.size w3 W4 by rw [hW4]; exact (by repeat (first | exact Below.refl _ _ | refine bl_drewN ?_ _ | refine bl_drew ?_ | refine bl_alloc ?_ _)))
  have XC : Hid (GR.Blk W4 w3.heap.size 48 #[.string kC, .string vC]) := Lib.hid (by rw [hW4]; exact GR.Blk.new _ _ _)
  clear hW4
  refine (unpack_any kC vC W4 (by decide) (by decide)).mono ?_
  rintro e w5 ⟨v1, v2, rfl, ho, hb⟩
  rw [wk_u.1, wk_u.2.2.2]
  rw [wk_u.2.1, wk_u.2.2.1] at ho
  obtain ⟨A3, n3, k3, rfl⟩ := own_slice ho.d jS
  obtain ⟨A4, n4, k4, rfl⟩ := own_slice ho.s jL
  obtain rfl : n3 = wkS.length := own_n' ho.d
  obtain rfl : n4 = wkL.length := own_n' ho.s
  have P5 := Lib.hid ho
  have B45 := Lib.hid (bl_then B4.out hb)
  have B5 := Lib.hid (bl_then B3.out B45.out)
  have XO5 := Lib.hid (XO3.out.below B45.out XO3.out.lt)
  have XD5 := Lib.hid (XD3.out.below B45.out XD3.out.lt)
  have XC5 := Lib.hid (XC.out.below hb XC.out.lt)
  have O5 := Lib.hid (O3.out.below B45.out)
  clear ho hb
  have hs3 : w1.heap.size < w5.heap.size := XO5.out.lt
  have hs4 : w1.heap.size + 1 < w5.heap.size := XD5.out.lt
  have hs5 : w3.heap.size < w5.heap.size := XC5.out.lt
  have x0 : w5.cell? ⟨w1.heap.size, 0, none⟩ = some (.string kA) := XO5.out.cell 0
  have x1 : w5.cell? ⟨w1.heap.size, 1, none⟩ = some (.slice A1 wkS.length k1) := XO5.out.cell 1
  have x2 : w5.cell? ⟨w1.heap.size, 2, none⟩ = some (.slice A2 wkL.length k2) := XO5.out.cell 2
  go_wp2_with fail
  clear x0 x1 x2
  obtain ⟨W6, hW6⟩ : ∃ W6 : World, W6 = w5.alloc (.cells #[.string kA, .slice A3 wkS.length k3, .slice A4 wkL.length k4] 27) := ⟨_, rfl⟩
  rw [← hW6]
  have B6 := Lib.hid (show Below w5.heap.size w5 W6 by rw [hW6]; exact (by repeat (first | exact Below.refl _ _ | refine bl_drewN ?_ _ | refine bl_drew ?_ | refine bl_alloc ?_ _)))
  have XP : Hid (GR.Blk W6 w5.heap.size 27 #[.string kA, .slice A3 wkS.length k3, .slice A4 wkL.length k4]) := Lib.hid (by rw [hW6]; exact GR.Blk.new _ _ _)
  clear hW6
  have O6 := Lib.hid (O5.out.below B6.out)
  refine (form_any kA A1 A2 wkS.length k1 wkL.length k2 wkS wkL W6 (O6.out.d.rd jS).2.2 (O6.out.s.rd jL).2.2 rfl rfl HS.out).mono ?_
  rintro e w7 ⟨rfl, hb⟩
  rw [wk_form, wk_chk]
  have B67 := Lib.hid (bl_then B6.out hb)
  have B7 := Lib.hid (bl_then B5.out B67.out)
  have XO7 := Lib.hid (XO5.out.below B67.out XO5.out.lt)
  have XD7 := Lib.hid (XD5.out.below B67.out XD5.out.lt)
  have XC7 := Lib.hid (XC5.out.below B67.out XC5.out.lt)
  have XP7 := Lib.hid (XP.out.below hb XP.out.lt)
  have O7 := Lib.hid (O5.out.below B67.out)
  have P7 := Lib.hid (P5.out.below B67.out)
  clear hb hs3 hs4 hs5 hs1 hs2
  have hs3 : w1.heap.size < w7.heap.size := XO7.out.lt
  have hs4 : w1.heap.size + 1 < w7.heap.size := XD7.out.lt
  have hs5 : w3.heap.size < w7.heap.size := XC7.out.lt
  have x0 : w7.cell? ⟨w1.heap.size, 0, none⟩ = some (.string kA) := XO7.out.cell 0
  have x1 : w7.cell? ⟨w1.heap.size, 1, none⟩ = some (.slice A1 wkS.length k1) := XO7.out.cell 1
  have x2 : w7.cell? ⟨w1.heap.size, 2, none⟩ = some (.slice A2 wkL.length k2) := XO7.out.cell 2
  have d0 : w7.cell? ⟨w1.heap.size + 1, 0, none⟩ = some (.int .u32 1) := XD7.out.cell 0
  have d1 : w7.cell? ⟨w1.heap.size + 1, 1, none⟩ = some (.int .u64 1) := XD7.out.cell 1
  have c0 : w7.cell? ⟨w3.heap.size, 0, none⟩ = some (.string kC) := XC7.out.cell 0
  have c1 : w7.cell? ⟨w3.heap.size, 1, none⟩ = some (.string vC) := XC7.out.cell 1
  have p0 : w7.cell? ⟨w5.heap.size, 0, none⟩ = some (.string kA) := XP7.out.cell 0
  have p1 : w7.cell? ⟨w5.heap.size, 1, none⟩ = some (.slice A3 wkS.length k3) := XP7.out.cell 1
  have p2 : w7.cell? ⟨w5.heap.size, 2, none⟩ = some (.slice A4 wkL.length k4) := XP7.out.cell 2
  go_wp2_with fail
  refine (lsame_any kA kA A1 A2 A3 A4 k1 k2 k3 k4 wkS.length wkL.length wkS.length wkL.length wkS wkS wkL wkL true w7 (O7.out.d.rd jS).2.2 (O7.out.s.rd jL).2.2 (P7.out.d.rd jS).2.2 (P7.out.s.rd jL).2.2 rfl rfl rfl rfl (by decide)).mono ?_
  rintro e w8 ⟨rfl, hb⟩
  have B8 := Lib.hid (bl_then B7.out hb)
  have XC8 := Lib.hid (XC7.out.below hb XC7.out.lt)
  clear x0 x1 x2 d0 d1 c0 c1 p0 p1 p2 hb hs3 hs4 hs5
  have c1 : w8.cell? ⟨w3.heap.size, 1, none⟩ = some (.string vC) := XC8.out.cell 1
  go_wp2
  rw [show (([79, 1, 97, 1, 1, 1, 1, 1, 1, 0, 1, 120] : List UInt8) == ((⟨#[79, 1, 97]⟩ : ByteArray) ++ (⟨#[1, 1, 1, 1, 1, 1, 0, 1, 120]⟩ : ByteArray)).toList) = true from by decide +kernel]
  exact bodyPost_ret (v := .bool true) (by simp [results, Try.results24, go_sem]) rfl ⟨rfl, B8.out⟩
end Go.Proofs.Ytljfigikkajlnaa
