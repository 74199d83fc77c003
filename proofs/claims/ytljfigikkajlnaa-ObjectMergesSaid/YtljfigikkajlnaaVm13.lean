/- DERIVED. The program's Form of an object. The statements' own helper works: an object put, packed, found again. -/
import Derived.Test.YtljfigikkajlnaaVObPrg
import Derived.Test.YtljfigikkajlnaaVObPut
import Derived.Test.YtljfigikkajlnaaVm11
import Derived.Test.YtljfigikkajlnaaVm12
namespace Go.Proofs.Ytljfigikkajlnaa
open Go.RowKit Go.Lib
set_option linter.unusedVariables false
set_option linter.unusedSimpArgs false
def formB (key : ByteArray) (a : List Dot) (l : List Sib) : ByteArray := if chkE key a l = 0 ∧ a.length ≠ 0 then ⟨([79] ++ textU key ++ encS a l).toArray⟩ else ⟨#[]⟩
set_option maxRecDepth 100000 in
set_option maxHeartbeats 6400000 in
theorem form1_any (o g : Nat) (key : ByteArray) (A C : Option Addr) (n c m d : Nat) (a : List Dot) (l : List Sib) (W : World) (hn : n = a.length) (hc : chkE key a l = 0)
 (bo : GR.Blk W o 27 #[.string key, .slice A n c, .slice C m d]) (bg : GR.Blk W g 9 #[.string ⟨#[]⟩]) :
 Calls Try.prog 63 #[.string ⟨(encS a l).toArray⟩, .pointer (some ⟨o, 0, none⟩), .pointer (some ⟨g, 0, none⟩)] W fun e w' => ∃ x, e = .returned (.int .i64 x) ∧ x = 0 ∧ GR.Blk w' g 9 #[.string (formB key a l)] ∧ Chg (fun k => k = g) W w' := by
 obtain ⟨k1, k2, k3⟩ := chk_cases hc
 have ksz := Lib.hid ((keyB_iff key).1 k1)
 have ul := Lib.hid (uintU_len10 (show key.size < 18446744073709551616 by have := ((keyB_iff key).1 k1).2; omega))
 have HNN := Lib.hid hn
 have HC := Lib.hid hc
 have o0 : W.cell? ⟨o, 0, none⟩ = some (.string key) := bo.cell 0
 have o1 : W.cell? ⟨o, 1, none⟩ = some (.slice A n c) := bo.cell 1
 have o2 : W.cell? ⟨o, 2, none⟩ = some (.slice C m d) := bo.cell 2
 have BO := Lib.hid bo
 have BG := Lib.hid bg
 have htl : (⟨(encS a l).toArray⟩ : ByteArray).data.toList = encS a l := by simp
 obtain ⟨t, ht⟩ : ∃ t : ByteArray, t = ⟨(encS a l).toArray⟩ := ⟨_, rfl⟩
 rw [← ht] at htl ⊢
 have HTL := Lib.hid htl
 have hts : t.size ≤ 280 := by
  have h8 : t.size = t.data.toList.length := rfl
  rw [h8, htl]; exact k3
 clear k1 k2 k3 hn hc bo bg ht htl
 go_enter Try.func63, Try.ntmps63
 go_wp2_with fail
 refine (absent_any A C n c m d _).mono ?_
 rintro e w1 ⟨rfl, hb⟩
 have B1 := Lib.hid hb
 have O1 := Lib.hid (BO.out.below hb BO.out.lt)
 have G1 := Lib.hid (BG.out.below hb BG.out.lt)
 clear hb o0 o1 o2
 by_cases h0 : n = 0
 · have HD := Lib.hid (show formB key a l = ⟨#[]⟩ by rw [formB, if_neg (by rintro ⟨_, h⟩; exact h (by rw [← HNN.out]; exact h0))])
   rw [decide_eq_true h0]
   clear h0
   go_wp2
   go_ret
   exact ⟨0, rfl, rfl, by rw [HD.out]; exact G1.out, chg_bl B1.out⟩
 · have HD := Lib.hid (show formB key a l = ⟨([79] ++ textU key ++ t.data.toList).toArray⟩ by rw [formB, if_pos ⟨HC.out, by rw [← HNN.out]; exact h0⟩, HTL.out])
   rw [decide_eq_false h0]
   clear h0
   go_wp2_with fail
   refine (newWriter_any _).mono ?_
   rintro e w3 ⟨rfl, hw3, hb⟩
   have W3 := Lib.hid hw3
   have B3 := Lib.hid hb
   clear hw3 hb
   go_wp2_with fail
   refine (byte_any w1.heap.size w1.heap.size _ 79 79 _ W3.out rfl (by simp)).mono ?_
   rintro e w4 ⟨rfl, hw4, hb⟩
   have W4 := Lib.hid hw4
   have B4 := Lib.hid (B3.out.trans hb)
   have O4 := Lib.hid (O1.out.below B4.out O1.out.lt)
   clear hw4 hb
   have o0 : w4.cell? ⟨o, 0, none⟩ = some (.string key) := O4.out.cell 0
   go_wp2_with fail
   clear o0
   refine (wtext_any w1.heap.size w1.heap.size _ key _ W4.out (by have := ksz.out.2; simp; omega)).mono ?_
   rintro e w5 ⟨rfl, hw5, hb, _⟩
   have W5 := Lib.hid hw5
   have B5 := Lib.hid (B4.out.trans hb)
   clear hw5 hb
   go_wp2_with fail
   refine (raw_any w1.heap.size w1.heap.size _ t _ W5.out (by
    have h1 := ksz.out.2
    have h2 := ul.out
    have h3 : key.data.toList.length = key.size := rfl
    simp only [textU, List.length_append, List.length_singleton, List.nil_append, h3]
    omega)).mono ?_
   rintro e w6 ⟨rfl, hw6, hb, _⟩
   have W6 := Lib.hid hw6
   have B6 := Lib.hid (B5.out.trans hb)
   clear hw6 hb
   go_wp2_with fail
   refine (told_any w1.heap.size w1.heap.size _ _ W6.out).mono ?_
   rintro e w7 ⟨rfl, rfl⟩
   have G6 := Lib.hid (G1.out.below B6.out G1.out.lt)
   have g0 : w6.cell? ⟨g, 0, none⟩ = some (.string ⟨#[]⟩) := G6.out.cell 0
   have f0 := G6.out.frozen 0
   go_wp2
   go_ret
   exact ⟨0, rfl, rfl, by rw [HD.out]; exact G6.out.set_ 0 _, (chg_bl (bl_then B1.out B6.out)).then (chg_set (S := fun k => k = g) 0 _ (.inl rfl))⟩
set_option maxRecDepth 100000 in
set_option maxHeartbeats 6400000 in
theorem form_any (key : ByteArray) (A C : Option Addr) (n c m d : Nat) (a : List Dot) (l : List Sib) (w : World) (ha : GR.Rd dotK w A a) (hl : GR.Rd sibK w C l) (hn : n = a.length) (hm : m = l.length) (hr : StR a l) :
 Calls Try.prog 30 #[.agg #[.string key, .slice A n c, .slice C m d]] w fun e w' => e = .returned (.tuple #[.string (formB key a l), .int .i64 (chkE key a l)]) ∧ Below w.heap.size w w' := by
 obtain ⟨X, hX⟩ : ∃ X, chkE key a l = X := ⟨_, rfl⟩
 obtain ⟨q, hq⟩ : ∃ q, formB key a l = q := ⟨_, rfl⟩
 rw [hX, hq]
 have HA := Lib.hid ha
 have HL := Lib.hid hl
 have HR := Lib.hid hr
 have HN := Lib.hid hn
 have HM := Lib.hid hm
 have HXX := Lib.hid hX
 have HQQ := Lib.hid hq
 clear ha hl hr hn hm hX hq
 go_enter Try.func30, Try.ntmps30
 go_wp2_with fail
 obtain ⟨W1, hW1⟩ : ∃ W1 : World, W1 = (w.alloc (.cells #[.string key, .slice A n c, .slice C m d] 27)).alloc (.cells #[.string ⟨#[]⟩] 9) := ⟨_, rfl⟩
 rw [← hW1]
 have LW : Hid (Below w.heap.size w W1) := Lib.hid (by rw [hW1]; exact (by repeat (first | exact Below.refl _ _ | refine bl_drewN ?_ _ | refine bl_drew ?_ | refine bl_alloc ?_ _)))
 have XO : Hid (GR.Blk W1 w.heap.size 27 #[.string key, .slice A n c, .slice C m d]) := Lib.hid (by rw [hW1]; exact (GR.Blk.new _ _ _).alloc _)
 have XC : Hid (GR.Blk W1 (w.heap.size + 1) 9 #[.string ⟨#[]⟩]) := Lib.hid (by rw [hW1]; exact new_at _ _ _ (by simp))
 clear hW1
 by_cases h1 : X = 0
 · have HX : Hid (chkE key a l = 0) := Lib.hid (by rw [HXX.out]; exact h1)
   subst h1
   refine (with_yes_form _ _ (fun x w' => x = 0 ∧ GR.Blk w' (w.heap.size + 1) 9 #[.string q] ∧ Chg (fun k => k = w.heap.size + 1) W1 w') key A C n c m d a l _ (HA.out.below LW.out) (HL.out.below LW.out) HN.out HM.out HR.out HX.out (fun W hb => ?_)).mono ?_
   · refine (form1_any w.heap.size (w.heap.size + 1) key A C n c m d a l W HN.out HX.out (XO.out.below hb XO.out.lt) (XC.out.below hb XC.out.lt)).mono ?_
     rintro e w' ⟨x, he, hx, hg, hc⟩
     rw [HQQ.out] at hg
     exact ⟨x, he, hx, hg, (chg_bl hb).then hc⟩
   · rintro e w2 ⟨x, rfl, rfl, hg, hc⟩
     have B2 := Lib.hid (LW.out.trans (hc.below LW.out.size (fun k e => by subst e; omega)))
     have g0 : w2.cell? ⟨w.heap.size + 1, 0, none⟩ = some (.string q) := hg.cell 0
     clear hg hc
     go_wp2
     go_ret2
     exact ⟨rfl, B2.out⟩
 · have hne : chkE key a l ≠ 0 := by rw [HXX.out]; exact h1
   have HQ0 : Hid (q = ⟨#[]⟩) := Lib.hid (by rw [← HQQ.out, formB, if_neg (fun h => hne h.1)])
   refine (with_no_form _ _ key A C n c m d a l _ (HA.out.below LW.out) (HL.out.below LW.out) HN.out HM.out HR.out hne).mono ?_
   rintro e w2 ⟨rfl, hb⟩
   rw [HXX.out]
   have G2 := Lib.hid (XC.out.below hb XC.out.lt)
   have B2 := Lib.hid (bl_then LW.out hb)
   clear hb h1 hne
   have g0 : w2.cell? ⟨w.heap.size + 1, 0, none⟩ = some (.string ⟨#[]⟩) := G2.out.cell 0
   go_wp2
   go_ret2
   exact ⟨by rw [HQ0.out]; rfl, B2.out⟩
end Go.Proofs.Ytljfigikkajlnaa
namespace Go.Proofs.Ytljfigikkajlnaa
open Go.RowKit Go.Lib Go.Proofs.YtljfigikkajlnaaW.PrintWords
set_option linter.unusedVariables false
set_option linter.unusedSimpArgs false
attribute [local go_sem high] eqD eqCell
def wkS : List Dot := [⟨1, 1⟩]
def wkL : List Sib := [⟨⟨1, 1⟩, false, ⟨#[120]⟩⟩]
def kA : ByteArray := ⟨#[97]⟩
def wkB : List UInt8 := [1, 1, 1, 1, 1, 1, 0, 1, 120]
theorem wk1 : putE [] [] [] 1 (⟨#[120]⟩ : ByteArray) false = 0 ∧ putA [] [] [] 1 (⟨#[120]⟩ : ByteArray) false = wkS ∧ putL [] [] [] 1 (⟨#[120]⟩ : ByteArray) false = wkL ∧ putD [] [] [] 1 (⟨#[120]⟩ : ByteArray) false = ⟨1, 1⟩ := by
 simp [wkS, wkL, putE, putA, putL, putD, putN, putDot, putX, staB, vecB, chainB, dOk, ltA, cnt, look, vmax, insS, keepS, valB, cov, sOk, ltS, ltD, ByteArray.size, Nat.max_def]
theorem wk_sta : staB wkS wkL = true := by simp [wkS, wkL, staB, vecB, chainB, dOk, ltA, cnt, look, cov, sOk, ltS, ltD, ByteArray.size, Nat.max_def]
theorem wk_key : keyB kA = true := by decide +kernel
theorem wk_enc0 : encS [] [] = [0, 0] := by simp [encS, vecU, uintU_small]
theorem wk_enc : encS wkS wkL = wkB := by
 simp [encS, vecU, wkS, wkL, dotU, sibU, goneU, textU, uintU_small, wkB, ByteArray.size]
theorem wk_chk0 : chkE kA [] [] = 0 := by
 rw [chkE, wk_key, show staB [] [] = true from by decide, wk_enc0]; rfl
theorem wk_chk : chkE kA wkS wkL = 0 := by
 rw [chkE, wk_key, wk_sta, wk_enc]; rfl
theorem wk_oput : oputE kA [] [] [] 1 (⟨#[120]⟩ : ByteArray) false = 0 := by
 rw [oputE, if_pos wk_chk0, if_pos wk1.1, wk1.2.1, wk1.2.2.1, wk_chk]
theorem wk_o : oputK kA [] [] [] 1 (⟨#[120]⟩ : ByteArray) false = kA ∧ oputA kA [] [] [] 1 (⟨#[120]⟩ : ByteArray) false = wkS ∧ oputL kA [] [] [] 1 (⟨#[120]⟩ : ByteArray) false = wkL ∧ oputD kA [] [] [] 1 (⟨#[120]⟩ : ByteArray) false = ⟨1, 1⟩ := by
 have h := oput_yes wk_oput
 exact ⟨h.2.1, h.2.2.2.1.trans wk1.2.1, h.2.2.2.2.trans wk1.2.2.1, h.2.2.1.trans wk1.2.2.2⟩
theorem wk_place : placeN kA = 2005 := by
 have h : placeI kA = 2005 := by rw [← ofI_pos (key := kA) wk_key]; exact of_a
 rw [placeN, h]; rfl
def kC : ByteArray := ⟨#[7, 213, 97]⟩
def vC : ByteArray := ⟨#[1, 1, 1, 1, 1, 1, 0, 1, 120]⟩
theorem wk_packK : packK kA = kC := by rw [packK, wk_place]; decide +kernel
theorem wk_packE : packE kA wkS wkL = 0 := by rw [packE, if_pos wk_chk]; rfl
theorem wk_pack : packC kA wkS wkL = (kC, vC) := by
 rw [packC, if_pos wk_packE, wk_packK, wk_enc]; rfl
theorem wk_str : StR wkS wkL := by
 refine ⟨fun d hd => ?_, fun x hx => ?_⟩
 · simp [wkS] at hd; subst hd; decide
 · simp [wkL] at hx; subst hx; decide
theorem wk_form : formB kA wkS wkL = ⟨#[79, 1, 97, 1, 1, 1, 1, 1, 1, 0, 1, 120]⟩ := by
 rw [formB, if_pos ⟨wk_chk, by decide⟩, wk_enc, textU, show kA.size = 1 from rfl, uintU_small (by omega)]; rfl
theorem wk_dec : decB vC.data.toList = true ∧ decA vC.data.toList = wkS ∧ decL vC.data.toList = wkL := by
 have h := enc_dec wk_sta (fun d hd => (wk_str.1 d hd).2) (fun x hx => (wk_str.2 x hx).2)
 rw [wk_enc] at h
 exact h
theorem wk_unp : unpB kC vC = true := by
 rw [unpB, wk_dec.1, wk_dec.2.1, wk_dec.2.2, show kd kC = kA from by decide +kernel, wk_packE, wk_packK]
 rfl
theorem wk_u : unpK kC vC = kA ∧ unpA kC vC = wkS ∧ unpL kC vC = wkL ∧ unpE kC vC = 0 := by
 have h := unp_yes wk_unp
 exact ⟨h.1.trans (by decide +kernel), h.2.1.trans wk_dec.2.1, h.2.2.1.trans wk_dec.2.2, h.2.2.2⟩
set_option maxRecDepth 100000 in
set_option maxHeartbeats 12800000 in
theorem works_any (w : World) : Calls Try.prog 24 #[] w fun e w' => e = .returned (.bool true) ∧ Below w.heap.size w w' := by
 have HS := Lib.hid wk_str
 have jS : wkS.length * 16 ≤ 140737488355328 := by decide
 have jL : wkL.length * 40 ≤ 140737488355328 := by decide
 go_enter Try.func24, Try.ntmps24
 go_wp2_with fail
 refine (oput_any kA none none none 0 0 0 [] [] [] 1 (⟨#[120]⟩ : ByteArray) false w (GR.Rd.nil _ _ _) (GR.Rd.nil _ _ _) (GR.Rd.nil _ _ _) (Nat.le_refl _) (Nat.le_refl _) ⟨fun d hd => (by cases hd), fun d hd => (by cases hd)⟩ (fun d hd => (by cases hd)) (by omega)).mono ?_
 rintro e w1 ⟨v1, v2, rfl, ho, hb⟩
 rw [wk_oput, wk_o.1, wk_o.2.2.2]
 rw [wk_o.2.1, wk_o.2.2.1] at ho
 obtain ⟨A1, n1, k1, rfl⟩ := own_slice ho.d jS
 obtain ⟨A2, n2, k2, rfl⟩ := own_slice ho.s jL
 obtain rfl : n1 = wkS.length := own_n' ho.d
 obtain rfl : n2 = wkL.length := own_n' ho.s
 have O1 := Lib.hid ho
 have B1 := Lib.hid hb
 clear ho hb
 go_wp2_with fail
 obtain ⟨W2, hW2⟩ : ∃ W2 : World, W2 = (w1.alloc (.cells #[.string kA, .slice A1 wkS.length k1, .slice A2 wkL.length k2] 27)).alloc (.cells #[.int .u32 1, .int .u64 1] 41) := ⟨_, rfl⟩
 rw [← hW2]
 have B2 := Lib.hid (show Below w1.heap.size w1 W2 by rw [hW2]; exact (by repeat (first | exact Below.refl _ _ | refine bl_drewN ?_ _ | refine bl_drew ?_ | refine bl_alloc ?_ _)))
 have XO : Hid (GR.Blk W2 w1.heap.size 27 #[.string kA, .slice A1 wkS.length k1, .slice A2 wkL.length k2]) := Lib.hid (by rw [hW2]; exact (GR.Blk.new _ _ _).alloc _)
 have XD : Hid (GR.Blk W2 (w1.heap.size + 1) 41 #[.int .u32 1, .int .u64 1]) := Lib.hid (by rw [hW2]; exact new_at _ _ _ (by simp))
 clear hW2
 have O2 := Lib.hid (O1.out.below B2.out)
 have C2 := Lib.hid (bl_then B1.out B2.out)
 refine (pack_any kA A1 A2 wkS.length k1 wkL.length k2 wkS wkL W2 (O2.out.d.rd jS).2.2 (O2.out.s.rd jL).2.2 rfl rfl HS.out).mono ?_
 rintro e w3 ⟨rfl, hb⟩
 rw [wk_pack, wk_packE]
 have B3 := Lib.hid (bl_then C2.out hb)
 have XO3 := Lib.hid (XO.out.below hb XO.out.lt)
 have XD3 := Lib.hid (XD.out.below hb XD.out.lt)
 have O3 := Lib.hid (O2.out.below hb)
 clear hb
 have hs1 : w1.heap.size < w3.heap.size := XO3.out.lt
 have hs2 : w1.heap.size + 1 < w3.heap.size := XD3.out.lt
 go_wp2_with fail
 obtain ⟨W4, hW4⟩ : ∃ W4 : World, W4 = w3.alloc (.cells #[.string kC, .string vC] 48) := ⟨_, rfl⟩
 rw [← hW4]
 have B4 := Lib.hid (show Below w3.heap.size w3 W4 by rw [hW4]; exact (by repeat (first | exact Below.refl _ _ | refine bl_drewN ?_ _ | refine bl_drew ?_ | refine bl_alloc ?_ _)))
 have XC : Hid (GR.Blk W4 w3.heap.size 48 #[.string kC, .string vC]) := Lib.hid (by rw [hW4]; exact GR.Blk.new _ _ _)
 clear hW4
 refine (unpack_any kC vC W4 (by decide) (by decide)).mono ?_
 rintro e w5 ⟨v1, v2, rfl, ho, hb⟩
 rw [wk_u.1, wk_u.2.2.2]
 rw [wk_u.2.1, wk_u.2.2.1] at ho
 obtain ⟨A3, n3, k3, rfl⟩ := own_slice ho.d jS
 obtain ⟨A4, n4, k4, rfl⟩ := own_slice ho.s jL
 obtain rfl : n3 = wkS.length := own_n' ho.d
 obtain rfl : n4 = wkL.length := own_n' ho.s
 have P5 := Lib.hid ho
 have B45 := Lib.hid (bl_then B4.out hb)
 have B5 := Lib.hid (bl_then B3.out B45.out)
 have XO5 := Lib.hid (XO3.out.below B45.out XO3.out.lt)
 have XD5 := Lib.hid (XD3.out.below B45.out XD3.out.lt)
 have XC5 := Lib.hid (XC.out.below hb XC.out.lt)
 have O5 := Lib.hid (O3.out.below B45.out)
 clear ho hb
 have hs3 : w1.heap.size < w5.heap.size := XO5.out.lt
 have hs4 : w1.heap.size + 1 < w5.heap.size := XD5.out.lt
 have hs5 : w3.heap.size < w5.heap.size := XC5.out.lt
 have x0 : w5.cell? ⟨w1.heap.size, 0, none⟩ = some (.string kA) := XO5.out.cell 0
 have x1 : w5.cell? ⟨w1.heap.size, 1, none⟩ = some (.slice A1 wkS.length k1) := XO5.out.cell 1
 have x2 : w5.cell? ⟨w1.heap.size, 2, none⟩ = some (.slice A2 wkL.length k2) := XO5.out.cell 2
 go_wp2_with fail
 clear x0 x1 x2
 obtain ⟨W6, hW6⟩ : ∃ W6 : World, W6 = w5.alloc (.cells #[.string kA, .slice A3 wkS.length k3, .slice A4 wkL.length k4] 27) := ⟨_, rfl⟩
 rw [← hW6]
 have B6 := Lib.hid (show Below w5.heap.size w5 W6 by rw [hW6]; exact (by repeat (first | exact Below.refl _ _ | refine bl_drewN ?_ _ | refine bl_drew ?_ | refine bl_alloc ?_ _)))
 have XP : Hid (GR.Blk W6 w5.heap.size 27 #[.string kA, .slice A3 wkS.length k3, .slice A4 wkL.length k4]) := Lib.hid (by rw [hW6]; exact GR.Blk.new _ _ _)
 clear hW6
 have O6 := Lib.hid (O5.out.below B6.out)
 refine (form_any kA A1 A2 wkS.length k1 wkL.length k2 wkS wkL W6 (O6.out.d.rd jS).2.2 (O6.out.s.rd jL).2.2 rfl rfl HS.out).mono ?_
 rintro e w7 ⟨rfl, hb⟩
 rw [wk_form, wk_chk]
 have B67 := Lib.hid (bl_then B6.out hb)
 have B7 := Lib.hid (bl_then B5.out B67.out)
 have XO7 := Lib.hid (XO5.out.below B67.out XO5.out.lt)
 have XD7 := Lib.hid (XD5.out.below B67.out XD5.out.lt)
 have XC7 := Lib.hid (XC5.out.below B67.out XC5.out.lt)
 have XP7 := Lib.hid (XP.out.below hb XP.out.lt)
 have O7 := Lib.hid (O5.out.below B67.out)
 have P7 := Lib.hid (P5.out.below B67.out)
 clear hb hs3 hs4 hs5 hs1 hs2
 have hs3 : w1.heap.size < w7.heap.size := XO7.out.lt
 have hs4 : w1.heap.size + 1 < w7.heap.size := XD7.out.lt
 have hs5 : w3.heap.size < w7.heap.size := XC7.out.lt
 have x0 : w7.cell? ⟨w1.heap.size, 0, none⟩ = some (.string kA) := XO7.out.cell 0
 have x1 : w7.cell? ⟨w1.heap.size, 1, none⟩ = some (.slice A1 wkS.length k1) := XO7.out.cell 1
 have x2 : w7.cell? ⟨w1.heap.size, 2, none⟩ = some (.slice A2 wkL.length k2) := XO7.out.cell 2
 have d0 : w7.cell? ⟨w1.heap.size + 1, 0, none⟩ = some (.int .u32 1) := XD7.out.cell 0
 have d1 : w7.cell? ⟨w1.heap.size + 1, 1, none⟩ = some (.int .u64 1) := XD7.out.cell 1
 have c0 : w7.cell? ⟨w3.heap.size, 0, none⟩ = some (.string kC) := XC7.out.cell 0
 have c1 : w7.cell? ⟨w3.heap.size, 1, none⟩ = some (.string vC) := XC7.out.cell 1
 have p0 : w7.cell? ⟨w5.heap.size, 0, none⟩ = some (.string kA) := XP7.out.cell 0
 have p1 : w7.cell? ⟨w5.heap.size, 1, none⟩ = some (.slice A3 wkS.length k3) := XP7.out.cell 1
 have p2 : w7.cell? ⟨w5.heap.size, 2, none⟩ = some (.slice A4 wkL.length k4) := XP7.out.cell 2
 go_wp2_with fail
 refine (lsame_any kA kA A1 A2 A3 A4 k1 k2 k3 k4 wkS.length wkL.length wkS.length wkL.length wkS wkS wkL wkL true w7 (O7.out.d.rd jS).2.2 (O7.out.s.rd jL).2.2 (P7.out.d.rd jS).2.2 (P7.out.s.rd jL).2.2 rfl rfl rfl rfl (by decide)).mono ?_
 rintro e w8 ⟨rfl, hb⟩
 have B8 := Lib.hid (bl_then B7.out hb)
 have XC8 := Lib.hid (XC7.out.below hb XC7.out.lt)
 clear x0 x1 x2 d0 d1 c0 c1 p0 p1 p2 hb hs3 hs4 hs5
 have c1 : w8.cell? ⟨w3.heap.size, 1, none⟩ = some (.string vC) := XC8.out.cell 1
 go_wp2
 rw [show (([79, 1, 97, 1, 1, 1, 1, 1, 1, 0, 1, 120] : List UInt8) == ((⟨#[79, 1, 97]⟩ : ByteArray) ++ (⟨#[1, 1, 1, 1, 1, 1, 0, 1, 120]⟩ : ByteArray)).toList) = true from by decide +kernel]
 exact bodyPost_ret (v := .bool true) (by simp [results, Try.results24, go_sem]) rfl ⟨rfl, B8.out⟩
end Go.Proofs.Ytljfigikkajlnaa
