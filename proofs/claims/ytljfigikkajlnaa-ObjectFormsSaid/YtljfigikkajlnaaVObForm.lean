/- DERIVED. The program's Form of an object. -/
import Derived.Test.YtljfigikkajlnaaVObPrg
namespace Go.Proofs.Ytljfigikkajlnaa
open Go.RowKit Go.Lib
set_option linter.unusedVariables false
set_option linter.unusedSimpArgs false
def formB (key : ByteArray) (a : List Dot) (l : List Sib) : ByteArray := if chkE key a l = 0 ∧ a.length ≠ 0 then ⟨([79] ++ textU key ++ encS a l).toArray⟩ else ⟨#[]⟩
set_option maxRecDepth 100000 in
set_option maxHeartbeats 6400000 in
theorem form1_any (o g : Nat) (key : ByteArray) (A C : Option Addr) (n c m d : Nat) (a : List Dot) (l : List Sib) (W : World) (hn : n = a.length) (hc : chkE key a l = 0)
    (bo : GR.Blk W o 27 #[.string key, .slice A n c, .slice C m d]) (bg : GR.Blk W g 9 #[.string ⟨#[]⟩]) :
    Calls Try.prog 63 #[.string ⟨(encS a l).toArray⟩, .pointer (some ⟨o, 0, none⟩), .pointer (some ⟨g, 0, none⟩)] W fun e w' => ∃ x, e = .returned (.int .i64 x) ∧ x = 0 ∧ GR.Blk w' g 9 #[.string (formB key a l)] ∧ Chg (fun k => k = g) W w' := by
  obtain ⟨k1, k2, k3⟩ := chk_cases hc
  have ksz := Lib.hid ((keyB_iff key).1 k1)
  have ul := Lib.hid (uintU_len10 (show key.size < 18446744073709551616 by have := ((keyB_iff key).1 k1).2; omega))
  have HNN := Lib.hid hn
  have HC := Lib.hid hc
  have o0 : W.cell? ⟨o, 0, none⟩ = some (.string key) := bo.cell 0
  have o1 : W.cell? ⟨o, 1, none⟩ = some (.slice A n c) := bo.cell 1
  have o2 : W.cell? ⟨o, 2, none⟩ = some (.slice C m d) := bo.cell 2
  have BO := Lib.hid bo
  have BG := Lib.hid bg
  have htl : (⟨(encS a l).toArray⟩ : ByteArray).data.toList = encS a l := by simp
  obtain ⟨t, ht⟩ : ∃ t : ByteArray, t = ⟨(encS a l).toArray⟩ := ⟨_, rfl⟩
  rw [← ht] at htl ⊢
  have HTL := Lib.hid htl
  have hts : t.size ≤ 280 := by
    have h8 : t.size = t.data.toList.length := rfl
    rw [h8, htl]; exact k3
  clear k1 k2 k3 hn hc bo bg ht htl
  go_enter Try.func63, Try.ntmps63
  go_wp2_with fail
  refine (absent_any A C n c m d _).mono ?_
  rintro e w1 ⟨rfl, hb⟩
  have B1 := Lib.hid hb
  have O1 := Lib.hid (BO.out.below hb BO.out.lt)
  have G1 := Lib.hid (BG.out.below hb BG.out.lt)
  clear hb o0 o1 o2
  by_cases h0 : n = 0
  · have HD := Lib.hid (show formB key a l = ⟨#[]⟩ by rw [formB, if_neg (by rintro ⟨_, h⟩; exact h (by rw [← HNN.out]; exact h0))])
    rw [decide_eq_true h0]
    clear h0
    go_wp2
    go_ret
    exact ⟨0, rfl, rfl, by rw [HD.out]; exact G1.out, chg_bl B1.out⟩
  · have HD := Lib.hid (show formB key a l = ⟨([79] ++ textU key ++ t.data.toList).toArray⟩ by rw [formB, if_pos ⟨HC.out, by rw [← HNN.out]; exact h0⟩, HTL.out])
    rw [decide_eq_false h0]
    clear h0
    go_wp2_with fail
    refine (newWriter_any _).mono ?_
    rintro e w3 ⟨rfl, hw3, hb⟩
    have W3 := Lib.hid hw3
    have B3 := Lib.hid hb
    clear hw3 hb
    go_wp2_with fail
    refine (byte_any w1.heap.size w1.heap.size _ 79 79 _ W3.out rfl (by simp)).mono ?_
    rintro e w4 ⟨rfl, hw4, hb⟩
    have W4 := Lib.hid hw4
    have B4 := Lib.hid (B3.out.trans hb)
    have O4 := Lib.hid (O1.out.below B4.out O1.out.lt)
    clear hw4 hb
    have o0 : w4.cell? ⟨o, 0, none⟩ = some (.string key) := O4.out.cell 0
    go_wp2_with fail
    clear o0
    refine (wtext_any w1.heap.size w1.heap.size _ key _ W4.out (by have := ksz.out.2; simp; omega)).mono ?_
    rintro e w5 ⟨rfl, hw5, hb, _⟩
    have W5 := Lib.hid hw5
    have B5 := Lib.hid (B4.out.trans hb)
    clear hw5 hb
    go_wp2_with fail
    refine (raw_any w1.heap.size w1.heap.size _ t _ W5.out (by
      have h1 := ksz.out.2
      have h2 := ul.out
      have h3 : key.data.toList.length = key.size := rfl
      simp only [textU, List.length_append, List.length_singleton, List.nil_append, h3]
      omega)).mono ?_
    rintro e w6 ⟨rfl, hw6, hb, _⟩
    have W6 := Lib.hid hw6
    have B6 := Lib.hid (B5.out.trans hb)
    clear hw6 hb
    go_wp2_with fail
    refine (told_any w1.heap.size w1.heap.size _ _ W6.out).mono ?_
    rintro e w7 ⟨rfl, rfl⟩
    have G6 := Lib.hid (G1.out.below B6.out G1.out.lt)
    have g0 : w6.cell? ⟨g, 0, none⟩ = some (.string ⟨#[]⟩) := G6.out.cell 0
    have f0 := G6.out.frozen 0
    go_wp2
    go_ret
    exact ⟨0, rfl, rfl, by rw [HD.out]; exact G6.out.set_ 0 _, (chg_bl (bl_then B1.out B6.out)).then (chg_set (S := fun k => k = g) 0 _ (.inl rfl))⟩
set_option maxRecDepth 100000 in
set_option maxHeartbeats 6400000 in
theorem form_any (key : ByteArray) (A C : Option Addr) (n c m d : Nat) (a : List Dot) (l : List Sib) (w : World) (ha : GR.Rd dotK w A a) (hl : GR.Rd sibK w C l) (hn : n = a.length) (hm : m = l.length) (hr : StR a l) :
    Calls Try.prog 30 #[.agg #[.string key, .slice A n c, .slice C m d]] w fun e w' => e = .returned (.tuple #[.string (formB key a l), .int .i64 (chkE key a l)]) ∧ Below w.heap.size w w' := by
  obtain ⟨X, hX⟩ : ∃ X, chkE key a l = X := ⟨_, rfl⟩
  obtain ⟨q, hq⟩ : ∃ q, formB key a l = q := ⟨_, rfl⟩
  rw [hX, hq]
  have HA := Lib.hid ha
  have HL := Lib.hid hl
  have HR := Lib.hid hr
  have HN := Lib.hid hn
  have HM := Lib.hid hm
  have HXX := Lib.hid hX
  have HQQ := Lib.hid hq
  clear ha hl hr hn hm hX hq
  go_enter Try.func30, Try.ntmps30
  go_wp2_with fail
  obtain ⟨W1, hW1⟩ : ∃ W1 : World, W1 = (w.alloc (.cells #[.string key, .slice A n c, .slice C m d] 27)).alloc (.cells #[.string ⟨#[]⟩] 9) := ⟨_, rfl⟩
  rw [← hW1]
  have LW : Hid (Below w.heap.size w W1) := Lib.hid (by rw [hW1]; exact (by repeat (first | exact Below.refl _ _ | refine bl_drewN ?_ _ | refine bl_drew ?_ | refine bl_alloc ?_ _)))
  have XO : Hid (GR.Blk W1 w.heap.size 27 #[.string key, .slice A n c, .slice C m d]) := Lib.hid (by rw [hW1]; exact (GR.Blk.new _ _ _).alloc _)
  have XC : Hid (GR.Blk W1 (w.heap.size + 1) 9 #[.string ⟨#[]⟩]) := Lib.hid (by rw [hW1]; exact new_at _ _ _ (by simp))
  clear hW1
  by_cases h1 : X = 0
  · have HX : Hid (chkE key a l = 0) := Lib.hid (by rw [HXX.out]; exact h1)
    subst h1
    refine (with_yes_form _ _ (fun x w' => x = 0 ∧ GR.Blk w' (w.heap.size + 1) 9 #[.string q] ∧ Chg (fun k => k = w.heap.size + 1) W1 w') key A C n c m d a l _ (HA.out.below LW.out) (HL.out.below LW.out) HN.out HM.out HR.out HX.out (fun W hb => ?_)).mono ?_
    · refine (form1_any w.heap.size (w.heap.size + 1) key A C n c m d a l W HN.out HX.out (XO.out.below hb XO.out.lt) (XC.out.below hb XC.out.lt)).mono ?_
      rintro e w' ⟨x, he, hx, hg, hc⟩
      rw [HQQ.out] at hg
      exact ⟨x, he, hx, hg, (chg_bl hb).then hc⟩
    · rintro e w2 ⟨x, rfl, rfl, hg, hc⟩
      have B2 := Lib.hid (LW.out.trans (hc.below LW.out.size (fun k e => by subst e; omega)))
      have g0 : w2.cell? ⟨w.heap.size + 1, 0, none⟩ = some (.string q) := hg.cell 0
      clear hg hc
      go_wp2
      go_ret2
      exact ⟨rfl, B2.out⟩
  · have hne : chkE key a l ≠ 0 := by rw [HXX.out]; exact h1
    have HQ0 : Hid (q = ⟨#[]⟩) := Lib.hid (by rw [← HQQ.out, formB, if_neg (fun h => hne h.1)])
    refine (with_no_form _ _ key A C n c m d a l _ (HA.out.below LW.out) (HL.out.below LW.out) HN.out HM.out HR.out hne).mono ?_
    rintro e w2 ⟨rfl, hb⟩
    rw [HXX.out]
    have G2 := Lib.hid (XC.out.below hb XC.out.lt)
    have B2 := Lib.hid (bl_then LW.out hb)
    clear hb h1 hne
    have g0 : w2.cell? ⟨w.heap.size + 1, 0, none⟩ = some (.string ⟨#[]⟩) := G2.out.cell 0
    go_wp2
    go_ret2
    exact ⟨by rw [HQ0.out]; rfl, B2.out⟩
end Go.Proofs.Ytljfigikkajlnaa
