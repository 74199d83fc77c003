/- DERIVED. ObjectForms: the walk of the law. -/
import Derived.Test.YtljfigikkajlnaaVm12
import Derived.Deep.Cut
import Derived.Deep.CutRange
import Derived.Laws.Strings3
namespace Go.Proofs.Ytljfigikkajlnaa
open Go.RowKit Go.Lib Go.Proofs.YtljfigikkajlnaaW.PrintWords
set_option linter.unusedVariables false
set_option linter.unusedSimpArgs false
attribute [local go_sem high] eqD eqCell
theorem form_emp {k f : ByteArray} {a : List Dot} {l : List Sib} (h : formB k a l = f) (hc : chkE k a l = 0) : (f.toList == []) = decide (a.length = 0) := by
  by_cases h0 : a.length = 0
  · have e := (form_nil k a l).2 (fun e => e.2 h0)
    rw [← h, e, decide_eq_true h0, Lib.toList_data]; rfl
  · have e : formB k a l ≠ ⟨#[]⟩ := fun e => (form_nil k a l).1 e ⟨hc, h0⟩
    rw [decide_eq_false h0, beq_eq_false_iff_ne]
    intro e2
    refine e (h.trans (ByteArray.ext (Array.toList_inj.1 ?_)))
    rw [← Lib.toList_data, e2]
theorem wd_cases (wd : Int) : (wdB wd = true ∧ cutE wd = 0 ∧ 1 ≤ wd ∧ wd ≤ 32) ∨ (wdB wd = false ∧ cutE wd = 1 ∧ (wd < 1 ∨ 1 ≤ wd ∧ 32 < wd)) := by
  cases h : wdB wd with
  | true =>
    have h1 := h
    simp only [wdB, Bool.and_eq_true, decide_eq_true_eq] at h1
    exact .inl ⟨rfl, by simp [cutE, h], h1.1, h1.2⟩
  | false =>
    have h1 := h
    simp [wdB] at h1
    exact .inr ⟨rfl, by simp [cutE, h], by omega⟩
theorem osumq {key : ByteArray} {A C : Option Addr} {n c m d : Nat} {a : List Dot} {l : List Sib} {w : World} (t : ByteArray) (x wd : Int) (ha : GR.Rd dotK w A a) (hl : GR.Rd sibK w C l) (hn : n = a.length) (hm : m = l.length) (hr : StR a l) (ht : osumT key a l wd = t) (hx : osumE key a l wd = x) :
    Calls Try.prog 31 #[.agg #[.string key, .slice A n c, .slice C m d], .int .i64 wd] w fun e w' => e = .returned (.tuple #[.string t, .int .i64 x]) ∧ Below w.heap.size w w' := by
  have h := osum_any key A C n c m d a l wd w ha hl hn hm hr
  rw [ht, hx] at h
  exact h
theorem sum_two {key s t : ByteArray} {a : List Dot} {l : List Sib} {one two : Int} (hs : osumT key a l one = s) (ht : osumT key a l two = t) (hc : chkE key a l = 0) (h0 : a.length ≠ 0) (h1 : wdB one = true) (h2 : wdB two = true) :
    (s.size : Int) = one ∧ (t.size : Int) = two ∧ ∀ n : Int, (0 ≤ n ∧ n ≤ one ∧ n ≤ two) → s.extract 0 n.toNat = t.extract 0 n.toNat := by
  obtain ⟨j, rfl, _, _⟩ := wdB_pos h1
  obtain ⟨k, rfl, _, _⟩ := wdB_pos h2
  rw [osumT, if_pos ⟨hc, h0⟩] at hs ht
  refine ⟨by rw [← hs, cut_len h1], by rw [← ht, cut_len h2], fun n hn => ?_⟩
  rw [← hs, ← ht]
  exact cut_take h1 h2 (by omega) (by omega)
set_option maxRecDepth 100000 in
set_option maxHeartbeats 25600000 in
theorem forms_walk (ka kb : ByteArray) (A B C D : Option Addr) (c1 c2 c3 c4 : Nat) (a b : List Dot) (l m : List Sib) (one two : Int) (w : World) (ha : GR.Rd dotK w A a) (hl : GR.Rd sibK w B l) (hb : GR.Rd dotK w C b) (hm : GR.Rd sibK w D m)
    (sa : a.length * 16 ≤ 140737488351232) (sl : l.length * 40 ≤ 140737488351232) (sb : b.length * 16 ≤ 140737488351232) (sm : m.length * 40 ≤ 140737488351232) (hr1 : StR a l) (hr2 : StR b m) :
    Calls Try.prog 8 #[.agg #[.string ka, .slice A a.length c1, .slice B l.length c2], .agg #[.string kb, .slice C b.length c3, .slice D m.length c4], .int .i64 one, .int .i64 two] w fun e w' => e = .returned (.bool true) ∧ Below w.heap.size w w' := by
  obtain ⟨fx, hfx⟩ : ∃ y, formB ka a l = y := ⟨_, rfl⟩
  obtain ⟨fy, hfy⟩ : ∃ y, formB kb b m = y := ⟨_, rfl⟩
  obtain ⟨X, hX⟩ : ∃ y, chkE ka a l = y := ⟨_, rfl⟩
  obtain ⟨Y, hY⟩ : ∃ y, chkE kb b m = y := ⟨_, rfl⟩
  obtain ⟨s1, hs1⟩ : ∃ y, osumT ka a l one = y := ⟨_, rfl⟩
  obtain ⟨t1, ht1⟩ : ∃ y, osumT ka a l two = y := ⟨_, rfl⟩
  obtain ⟨g1, hg1⟩ : ∃ y, osumE ka a l one = y := ⟨_, rfl⟩
  obtain ⟨g2, hg2⟩ : ∃ y, osumE ka a l two = y := ⟨_, rfl⟩
  obtain ⟨r, hr⟩ : ∃ y, (decide (ka = kb) && stEq a l b m) = y := ⟨_, rfl⟩
  have HA := Lib.hid ha
  have HL := Lib.hid hl
  have HB := Lib.hid hb
  have HM := Lib.hid hm
  have HR1 := Lib.hid hr1
  have HR2 := Lib.hid hr2
  have HFX := Lib.hid hfx
  have HFY := Lib.hid hfy
  have HXX := Lib.hid hX
  have HYY := Lib.hid hY
  have HS1 := Lib.hid hs1
  have HT1 := Lib.hid ht1
  have HG1 := Lib.hid hg1
  have HG2 := Lib.hid hg2
  have HRR := Lib.hid hr
  clear ha hl hb hm hr1 hr2 hfx hfy hX hY hs1 ht1 hg1 hg2 hr
  go_enter Try.func8, Try.ntmps8
  go_wp2_with fail
  obtain ⟨Z1, hZ1⟩ : ∃ W : World, W = (w.alloc (.cells #[.string ka, .slice A a.length c1, .slice B l.length c2] 27)).alloc (.cells #[.string kb, .slice C b.length c3, .slice D m.length c4] 27) := ⟨_, rfl⟩
  rw [← hZ1]
  have LL : Hid (Below w.heap.size w Z1) := Lib.hid (by rw [hZ1]; exact (by repeat (first | exact Below.refl _ _ | refine bl_drewN ?_ _ | refine bl_drew ?_ | refine bl_alloc ?_ _)))
  have X_pa : Hid (GR.Blk Z1 (w.heap.size) 27 #[.string ka, .slice A a.length c1, .slice B l.length c2]) := Lib.hid (by rw [hZ1]; exact (GR.Blk.new _ _ _).alloc _)
  have X_pb : Hid (GR.Blk Z1 (w.heap.size + 1) 27 #[.string kb, .slice C b.length c3, .slice D m.length c4]) := Lib.hid (by rw [hZ1]; exact new_at _ _ _ (by simp))
  clear hZ1
  have F1 := Lib.hid (HS.nil Z1)
  have F2 := Lib.hid (HS.addB F1.out (g := w.heap.size) (t := 27) (cs := #[.string ka, .slice A a.length c1, .slice B l.length c2]) (X_pa.out))
  clear F1
  have F3 := Lib.hid (HS.addB F2.out (g := w.heap.size + 1) (t := 27) (cs := #[.string kb, .slice C b.length c3, .slice D m.length c4]) (X_pb.out))
  clear F2
  clear X_pa X_pb
  have F4 := Lib.hid (F3.out.addR (HA.out.below LL.out))
  clear F3
  have F5 := Lib.hid (F4.out.addR (HL.out.below LL.out))
  clear F4
  have F6 := Lib.hid (F5.out.addR (HB.out.below LL.out))
  clear F5
  have F7 := Lib.hid (F6.out.addR (HM.out.below LL.out))
  clear F6
  have BB := LL
  clear LL
  refine (works_any _).mono ?_
  rintro e u2 ⟨rfl, hb⟩
  have F8 := Lib.hid (F7.out.below hb)
  clear F7
  replace BB := Lib.hid (bl_then BB.out hb)
  clear hb
  have pa_0 : u2.cell? ⟨w.heap.size, 0, none⟩ = some (.string ka) := (F8.out.blk 5 rfl).cell 0
  have pa_1 : u2.cell? ⟨w.heap.size, 1, none⟩ = some (.slice A a.length c1) := (F8.out.blk 5 rfl).cell 1
  have pa_2 : u2.cell? ⟨w.heap.size, 2, none⟩ = some (.slice B l.length c2) := (F8.out.blk 5 rfl).cell 2
  have pb_0 : u2.cell? ⟨w.heap.size + 1, 0, none⟩ = some (.string kb) := (F8.out.blk 4 rfl).cell 0
  have pb_1 : u2.cell? ⟨w.heap.size + 1, 1, none⟩ = some (.slice C b.length c3) := (F8.out.blk 4 rfl).cell 1
  have pb_2 : u2.cell? ⟨w.heap.size + 1, 2, none⟩ = some (.slice D m.length c4) := (F8.out.blk 4 rfl).cell 2
  have pa_lt : w.heap.size < u2.heap.size := (F8.out.blk 5 rfl).lt
  have pb_lt : w.heap.size + 1 < u2.heap.size := (F8.out.blk 4 rfl).lt
  go_wp2_with fail
  clear pa_0 pa_1 pa_2 pa_lt pb_0 pb_1 pb_2 pb_lt
  refine (twinR_any ka A B c1 c2 a l _ (F8.out.rd 3 rfl) (F8.out.rd 2 rfl) sa sl).mono ?_
  rintro e u3 ⟨U1, V1, u1, v1, rfl, hra, hrl, _, _, hb⟩
  have F9 := Lib.hid (F8.out.below hb)
  clear F8
  have F10 := Lib.hid (F9.out.addR (hra))
  clear F9
  have F11 := Lib.hid (F10.out.addR (hrl))
  clear F10
  replace BB := Lib.hid (bl_then BB.out hb)
  clear hb
  clear hra hrl
  go_wp2_with fail
  refine (formq fx X (F11.out.rd 1 rfl) (F11.out.rd 0 rfl) rfl rfl HR1.out HFX.out HXX.out).mono ?_
  rintro e u4 ⟨rfl, hb⟩
  have F12 := Lib.hid (F11.out.below hb)
  clear F11
  replace BB := Lib.hid (bl_then BB.out hb)
  clear hb
  have pa_0 : u4.cell? ⟨w.heap.size, 0, none⟩ = some (.string ka) := (F12.out.blk 7 rfl).cell 0
  have pa_1 : u4.cell? ⟨w.heap.size, 1, none⟩ = some (.slice A a.length c1) := (F12.out.blk 7 rfl).cell 1
  have pa_2 : u4.cell? ⟨w.heap.size, 2, none⟩ = some (.slice B l.length c2) := (F12.out.blk 7 rfl).cell 2
  have pb_0 : u4.cell? ⟨w.heap.size + 1, 0, none⟩ = some (.string kb) := (F12.out.blk 6 rfl).cell 0
  have pb_1 : u4.cell? ⟨w.heap.size + 1, 1, none⟩ = some (.slice C b.length c3) := (F12.out.blk 6 rfl).cell 1
  have pb_2 : u4.cell? ⟨w.heap.size + 1, 2, none⟩ = some (.slice D m.length c4) := (F12.out.blk 6 rfl).cell 2
  have pa_lt : w.heap.size < u4.heap.size := (F12.out.blk 7 rfl).lt
  have pb_lt : w.heap.size + 1 < u4.heap.size := (F12.out.blk 6 rfl).lt
  go_wp2_with fail
  clear pa_0 pa_1 pa_2 pa_lt pb_0 pb_1 pb_2 pb_lt
  refine (twinR_any kb C D c3 c4 b m _ (F12.out.rd 3 rfl) (F12.out.rd 2 rfl) sb sm).mono ?_
  rintro e u5 ⟨U2, V2, u2, v2, rfl, hra, hrl, _, _, hb⟩
  have F13 := Lib.hid (F12.out.below hb)
  clear F12
  have F14 := Lib.hid (F13.out.addR (hra))
  clear F13
  have F15 := Lib.hid (F14.out.addR (hrl))
  clear F14
  replace BB := Lib.hid (bl_then BB.out hb)
  clear hb
  clear hra hrl
  go_wp2_with fail
  refine (formq fy Y (F15.out.rd 1 rfl) (F15.out.rd 0 rfl) rfl rfl HR2.out HFY.out HYY.out).mono ?_
  rintro e u6 ⟨rfl, hb⟩
  have F16 := Lib.hid (F15.out.below hb)
  clear F15
  replace BB := Lib.hid (bl_then BB.out hb)
  clear hb
  have pa_0 : u6.cell? ⟨w.heap.size, 0, none⟩ = some (.string ka) := (F16.out.blk 9 rfl).cell 0
  have pa_1 : u6.cell? ⟨w.heap.size, 1, none⟩ = some (.slice A a.length c1) := (F16.out.blk 9 rfl).cell 1
  have pa_2 : u6.cell? ⟨w.heap.size, 2, none⟩ = some (.slice B l.length c2) := (F16.out.blk 9 rfl).cell 2
  have pb_0 : u6.cell? ⟨w.heap.size + 1, 0, none⟩ = some (.string kb) := (F16.out.blk 8 rfl).cell 0
  have pb_1 : u6.cell? ⟨w.heap.size + 1, 1, none⟩ = some (.slice C b.length c3) := (F16.out.blk 8 rfl).cell 1
  have pb_2 : u6.cell? ⟨w.heap.size + 1, 2, none⟩ = some (.slice D m.length c4) := (F16.out.blk 8 rfl).cell 2
  have pa_lt : w.heap.size < u6.heap.size := (F16.out.blk 9 rfl).lt
  have pb_lt : w.heap.size + 1 < u6.heap.size := (F16.out.blk 8 rfl).lt
  go_wp2_with fail
  clear pa_0 pa_1 pa_2 pa_lt pb_0 pb_1 pb_2 pb_lt
  refine (twinR_any ka A B c1 c2 a l _ (F16.out.rd 7 rfl) (F16.out.rd 6 rfl) sa sl).mono ?_
  rintro e u7 ⟨U3, V3, u3, v3, rfl, hra, hrl, _, _, hb⟩
  have F17 := Lib.hid (F16.out.below hb)
  clear F16
  have F18 := Lib.hid (F17.out.addR (hra))
  clear F17
  have F19 := Lib.hid (F18.out.addR (hrl))
  clear F18
  replace BB := Lib.hid (bl_then BB.out hb)
  clear hb
  clear hra hrl
  go_wp2_with fail
  refine (checkq X (F19.out.rd 1 rfl) (F19.out.rd 0 rfl) rfl rfl HR1.out HXX.out).mono ?_
  rintro e u8 ⟨rfl, hb⟩
  have F20 := Lib.hid (F19.out.below hb)
  clear F19
  replace BB := Lib.hid (bl_then BB.out hb)
  clear hb
  have nx : (X != X) = false := by simp
  have ny : (Y != Y) = false := by simp
  have pa_0 : u8.cell? ⟨w.heap.size, 0, none⟩ = some (.string ka) := (F20.out.blk 11 rfl).cell 0
  have pa_1 : u8.cell? ⟨w.heap.size, 1, none⟩ = some (.slice A a.length c1) := (F20.out.blk 11 rfl).cell 1
  have pa_2 : u8.cell? ⟨w.heap.size, 2, none⟩ = some (.slice B l.length c2) := (F20.out.blk 11 rfl).cell 2
  have pb_0 : u8.cell? ⟨w.heap.size + 1, 0, none⟩ = some (.string kb) := (F20.out.blk 10 rfl).cell 0
  have pb_1 : u8.cell? ⟨w.heap.size + 1, 1, none⟩ = some (.slice C b.length c3) := (F20.out.blk 10 rfl).cell 1
  have pb_2 : u8.cell? ⟨w.heap.size + 1, 2, none⟩ = some (.slice D m.length c4) := (F20.out.blk 10 rfl).cell 2
  have pa_lt : w.heap.size < u8.heap.size := (F20.out.blk 11 rfl).lt
  have pb_lt : w.heap.size + 1 < u8.heap.size := (F20.out.blk 10 rfl).lt
  go_wp2_with fail
  clear pa_0 pa_1 pa_2 pa_lt pb_0 pb_1 pb_2 pb_lt
  refine (twinR_any kb C D c3 c4 b m _ (F20.out.rd 7 rfl) (F20.out.rd 6 rfl) sb sm).mono ?_
  rintro e u9 ⟨U4, V4, u4, v4, rfl, hra, hrl, _, _, hb⟩
  have F21 := Lib.hid (F20.out.below hb)
  clear F20
  have F22 := Lib.hid (F21.out.addR (hra))
  clear F21
  have F23 := Lib.hid (F22.out.addR (hrl))
  clear F22
  replace BB := Lib.hid (bl_then BB.out hb)
  clear hb
  clear hra hrl
  go_wp2_with fail
  refine (checkq Y (F23.out.rd 1 rfl) (F23.out.rd 0 rfl) rfl rfl HR2.out HYY.out).mono ?_
  rintro e u10 ⟨rfl, hb⟩
  have F24 := Lib.hid (F23.out.below hb)
  clear F23
  replace BB := Lib.hid (bl_then BB.out hb)
  clear hb
  by_cases hx0 : X = 0
  · have HX0 := Lib.hid (HXX.out.trans hx0)
    have i1 : (X != 0) = false := by simpa using hx0
    have i2 : (X == 0) = true := by simpa using hx0
    have i3 : decide (X = 0) = true := decide_eq_true hx0
    clear hx0
    by_cases hy0 : Y = 0
    · have HY0 := Lib.hid (HYY.out.trans hy0)
      have j1 : (Y != 0) = false := by simpa using hy0
      have j3 : decide (Y = 0) = true := decide_eq_true hy0
      clear hy0
      have HY8 := Lib.hid (form_emp HFY.out HY0.out)
      by_cases ha0 : a.length = 0
      · have HA0 := Lib.hid ha0
        have HE := form_emp HFX.out HX0.out
        have w1 : (fx.toList == []) = true := by rw [HE]; exact decide_eq_true ha0
        have w1b : (fx.toList != []) = false := by rw [bne, w1]; rfl
        have w2 : ((a.length : Int) == 0) = true := by rw [ha0]; rfl
        have w2b : decide ((a.length : Int) = 0) = true := decide_eq_true (by omega)
        clear ha0 HE
        go_upto_region 9 with fail
        go_cut [97] from 56 (fun s1 wx => s1 = .bool false ∧ Hid (Below u10.heap.size u10 wx))
        case first =>
          as_aux_lemma =>
            have K0 : Hid (u10.cell? ⟨w.heap.size, 0, none⟩ = some (.string ka)) := Lib.hid ((F24.out.blk 13 rfl).cell 0)
            have K1 : Hid (u10.cell? ⟨w.heap.size, 1, none⟩ = some (.slice A a.length c1)) := Lib.hid ((F24.out.blk 13 rfl).cell 1)
            have K2 : Hid (u10.cell? ⟨w.heap.size, 2, none⟩ = some (.slice B l.length c2)) := Lib.hid ((F24.out.blk 13 rfl).cell 2)
            have pa_lt : w.heap.size < u10.heap.size := (F24.out.blk 13 rfl).lt
            have K3 : Hid (u10.cell? ⟨w.heap.size + 1, 0, none⟩ = some (.string kb)) := Lib.hid ((F24.out.blk 12 rfl).cell 0)
            have K4 : Hid (u10.cell? ⟨w.heap.size + 1, 1, none⟩ = some (.slice C b.length c3)) := Lib.hid ((F24.out.blk 12 rfl).cell 1)
            have K5 : Hid (u10.cell? ⟨w.heap.size + 1, 2, none⟩ = some (.slice D m.length c4)) := Lib.hid ((F24.out.blk 12 rfl).cell 2)
            have pb_lt : w.heap.size + 1 < u10.heap.size := (F24.out.blk 12 rfl).lt
            have DD_33 := Lib.hid (F24.out.rd 11 rfl)
            have DL_33 := Lib.hid (F24.out.rd 10 rfl)
            have DD_35 := Lib.hid (F24.out.rd 9 rfl)
            have DL_35 := Lib.hid (F24.out.rd 8 rfl)
            have D_a := Lib.hid (F24.out.rd 11 rfl)
            have D_l := Lib.hid (F24.out.rd 10 rfl)
            have D_b := Lib.hid (F24.out.rd 9 rfl)
            have D_m := Lib.hid (F24.out.rd 8 rfl)
            have HR := Lib.hid (Below.refl u10.heap.size u10)
            by_cases hb0 : b.length = 0
            · have y1 : (fy.toList == []) = true := by rw [HY8.out]; exact decide_eq_true hb0
              have y2 : ((b.length : Int) == 0) = true := by rw [hb0]; rfl
              have y3 : decide ((b.length : Int) = 0) = true := decide_eq_true (by omega)
              clear hb0
              refine wp_region_held_drew (S := fun w' => w'.cell? ⟨w.heap.size, 0, none⟩ = some (.string ka) ∧ w'.cell? ⟨w.heap.size, 1, none⟩ = some (.slice A a.length c1) ∧ w'.cell? ⟨w.heap.size, 2, none⟩ = some (.slice B l.length c2) ∧ w'.cell? ⟨w.heap.size + 1, 0, none⟩ = some (.string kb) ∧ w'.cell? ⟨w.heap.size + 1, 1, none⟩ = some (.slice C b.length c3) ∧ w'.cell? ⟨w.heap.size + 1, 2, none⟩ = some (.slice D m.length c4)) (by kernel_rfl) ?_ (fun hHeld => ?_)
              · exact ⟨K0.out, K1.out, K2.out, K3.out, K4.out, K5.out⟩
              refine wpAnyH_take (i := 0) (oi := { dst := some 56, op := Op.move (Operand.tmp 9), type := 9, pos := "outright.go:55", after := #[], guard := none }) (v := ?_) rfl (by kernel_rfl) (by kernel_rfl) (by kernel_rfl) (fun _ _ _ h => h) (Or.inl ⟨by rfl, ?_⟩) (by assumption) ?_
              rotate_left
              · intro w_ hSw
                (try dsimp only at hSw)
                go_simp
                first | done | with_reducible rfl
              try simp only [Act.put, List.setIfInBounds_toArray, List.set_cons_zero, List.set_cons_succ]
              refine wpAnyH_take (i := 1) (oi := { dst := some 57, op := Op.binOp BinOp.eql 9 (Operand.tmp 56) (Operand.const (Value.string { data := #[] })) 9, type := 4, pos := "outright.go:55", after := #[{ on := 0, ground := Ground.data }], guard := none }) (v := ?_) rfl (by kernel_rfl) (by kernel_rfl) (by kernel_rfl) (fun _ _ _ h => h) (Or.inl ⟨by rfl, ?_⟩) (by assumption) ?_
              rotate_left
              · intro w_ hSw
                (try dsimp only at hSw)
                go_simp
                first | done | with_reducible rfl
              try simp only [Act.put, List.setIfInBounds_toArray, List.set_cons_zero, List.set_cons_succ]
              refine wpAnyH_take (i := 2) (oi := { dst := some 58, op := Op.fieldAddr 27 (Operand.tmp 4) 1, type := 0, pos := "outright.go:55", after := #[], guard := none }) (v := ?_) rfl (by kernel_rfl) (by kernel_rfl) (by kernel_rfl) (fun _ _ _ h => h) (Or.inl ⟨by rfl, ?_⟩) (by assumption) ?_
              rotate_left
              · intro w_ hSw
                (try dsimp only at hSw)
                go_simp
                first | done | with_reducible rfl
              try simp only [Act.put, List.setIfInBounds_toArray, List.set_cons_zero, List.set_cons_succ]
              refine wpAnyH_take (i := 3) (oi := { dst := some 59, op := Op.fieldAddr 25 (Operand.tmp 58) 0, type := 0, pos := "outright.go:55", after := #[{ on := 2, ground := Ground.data }], guard := none }) (v := ?_) rfl (by kernel_rfl) (by kernel_rfl) (by kernel_rfl) (fun _ _ _ h => h) (Or.inl ⟨by rfl, ?_⟩) (by assumption) ?_
              rotate_left
              · intro w_ hSw
                (try dsimp only at hSw)
                go_simp
                first | done | with_reducible rfl
              try simp only [Act.put, List.setIfInBounds_toArray, List.set_cons_zero, List.set_cons_succ]
              refine wpAnyH_take (i := 4) (oi := { dst := some 60, op := Op.load 22 (Operand.tmp 59), type := 22, pos := "outright.go:55", after := #[{ on := 3, ground := Ground.data }], guard := none }) (v := ?_) rfl (by kernel_rfl) (by kernel_rfl) (by kernel_rfl) (fun _ _ _ h => h) (Or.inl ⟨by rfl, ?_⟩) (by assumption) ?_
              rotate_left
              · intro w_ hSw
                (try dsimp only at hSw)
                go_simp
                first | done | with_reducible rfl
              try simp only [Act.put, List.setIfInBounds_toArray, List.set_cons_zero, List.set_cons_succ]
              refine wpAnyH_take (i := 5) (oi := { dst := some 61, op := Op.call { callee := Callee.builtin Builtin.len, args := #[Operand.tmp 60], argTypes := #[22] }, type := 3, pos := "outright.go:55", after := #[{ on := 4, ground := Ground.data }], guard := none }) (v := ?_) rfl (by kernel_rfl) (by kernel_rfl) (by kernel_rfl) (fun _ _ _ h => h) (Or.inl ⟨by rfl, ?_⟩) (by assumption) ?_
              rotate_left
              · intro w_ hSw
                (try dsimp only at hSw)
                go_simp
                first | done | with_reducible rfl
              try simp only [Act.put, List.setIfInBounds_toArray, List.set_cons_zero, List.set_cons_succ]
              refine wpAnyH_take (i := 6) (oi := { dst := some 62, op := Op.binOp BinOp.eql 3 (Operand.tmp 61) (Operand.const (Value.int IntKind.i64 0)) 3, type := 4, pos := "outright.go:55", after := #[{ on := 5, ground := Ground.data }], guard := none }) (v := ?_) rfl (by kernel_rfl) (by kernel_rfl) (by kernel_rfl) (fun _ _ _ h => h) (Or.inl ⟨by rfl, ?_⟩) (by assumption) ?_
              rotate_left
              · intro w_ hSw
                (try dsimp only at hSw)
                go_simp
                first | done | with_reducible rfl
              try simp only [Act.put, List.setIfInBounds_toArray, List.set_cons_zero, List.set_cons_succ]
              refine wpAnyH_take (i := 7) (oi := { dst := some 63, op := Op.binOp BinOp.neq 4 (Operand.tmp 57) (Operand.tmp 62) 4, type := 4, pos := "outright.go:55", after := #[{ on := 1, ground := Ground.data }, { on := 6, ground := Ground.data }], guard := none }) (v := ?_) rfl (by kernel_rfl) (by kernel_rfl) (by kernel_rfl) (fun _ _ _ h => h) (Or.inl ⟨by rfl, ?_⟩) (by assumption) ?_
              rotate_left
              · intro w_ hSw
                (try dsimp only at hSw)
                go_simp
                first | done | with_reducible rfl
              try simp only [Act.put, List.setIfInBounds_toArray, List.set_cons_zero, List.set_cons_succ]
              refine wpAnyH_take (i := 8) (oi := { dst := some 64, op := Op.move (Operand.tmp 63), type := 4, pos := "outright.go:55", after := #[{ on := 7, ground := Ground.data }], guard := none }) (v := ?_) rfl (by kernel_rfl) (by kernel_rfl) (by kernel_rfl) (fun _ _ _ h => h) (Or.inl ⟨by rfl, ?_⟩) (by assumption) ?_
              rotate_left
              · intro w_ hSw
                (try dsimp only at hSw)
                go_simp
                first | done | with_reducible rfl
              try simp only [Act.put, List.setIfInBounds_toArray, List.set_cons_zero, List.set_cons_succ]
              refine wpAnyH_take (i := 9) (oi := { dst := some 65, op := Op.move (Operand.tmp 11), type := 9, pos := "outright.go:55", after := #[{ on := 8, ground := Ground.guard }], guard := some (8, false) }) (v := ?_) rfl (by kernel_rfl) (by kernel_rfl) (by kernel_rfl) (fun _ _ _ h => h) (Or.inl ⟨by rfl, ?_⟩) (by assumption) ?_
              rotate_left
              · intro w_ hSw
                (try dsimp only at hSw)
                go_simp
                first | done | with_reducible rfl
              try simp only [Act.put, List.setIfInBounds_toArray, List.set_cons_zero, List.set_cons_succ]
              refine wpAnyH_take (i := 10) (oi := { dst := some 66, op := Op.binOp BinOp.eql 9 (Operand.tmp 65) (Operand.const (Value.string { data := #[] })) 9, type := 4, pos := "outright.go:55", after := #[{ on := 9, ground := Ground.data }, { on := 8, ground := Ground.guard }], guard := some (8, false) }) (v := ?_) rfl (by kernel_rfl) (by kernel_rfl) (by kernel_rfl) (fun _ _ _ h => h) (Or.inl ⟨by rfl, ?_⟩) (by assumption) ?_
              rotate_left
              · intro w_ hSw
                (try dsimp only at hSw)
                go_simp
                first | done | with_reducible rfl
              try simp only [Act.put, List.setIfInBounds_toArray, List.set_cons_zero, List.set_cons_succ]
              refine wpAnyH_take (i := 11) (oi := { dst := some 67, op := Op.fieldAddr 27 (Operand.tmp 5) 1, type := 0, pos := "outright.go:55", after := #[{ on := 8, ground := Ground.guard }], guard := some (8, false) }) (v := ?_) rfl (by kernel_rfl) (by kernel_rfl) (by kernel_rfl) (fun _ _ _ h => h) (Or.inl ⟨by rfl, ?_⟩) (by assumption) ?_
              rotate_left
              · intro w_ hSw
                (try dsimp only at hSw)
                go_simp
                first | done | with_reducible rfl
              try simp only [Act.put, List.setIfInBounds_toArray, List.set_cons_zero, List.set_cons_succ]
              refine wpAnyH_take (i := 12) (oi := { dst := some 68, op := Op.fieldAddr 25 (Operand.tmp 67) 0, type := 0, pos := "outright.go:55", after := #[{ on := 11, ground := Ground.data }, { on := 8, ground := Ground.guard }], guard := some (8, false) }) (v := ?_) rfl (by kernel_rfl) (by kernel_rfl) (by kernel_rfl) (fun _ _ _ h => h) (Or.inl ⟨by rfl, ?_⟩) (by assumption) ?_
              rotate_left
              · intro w_ hSw
                (try dsimp only at hSw)
                go_simp
                first | done | with_reducible rfl
              try simp only [Act.put, List.setIfInBounds_toArray, List.set_cons_zero, List.set_cons_succ]
              refine wpAnyH_take (i := 13) (oi := { dst := some 69, op := Op.load 22 (Operand.tmp 68), type := 22, pos := "outright.go:55", after := #[{ on := 12, ground := Ground.data }, { on := 8, ground := Ground.guard }], guard := some (8, false) }) (v := ?_) rfl (by kernel_rfl) (by kernel_rfl) (by kernel_rfl) (fun _ _ _ h => h) (Or.inl ⟨by rfl, ?_⟩) (by assumption) ?_
              rotate_left
              · intro w_ hSw
                (try dsimp only at hSw)
                go_simp
                first | done | with_reducible rfl
              try simp only [Act.put, List.setIfInBounds_toArray, List.set_cons_zero, List.set_cons_succ]
              refine wpAnyH_take (i := 14) (oi := { dst := some 70, op := Op.call { callee := Callee.builtin Builtin.len, args := #[Operand.tmp 69], argTypes := #[22] }, type := 3, pos := "outright.go:55", after := #[{ on := 13, ground := Ground.data }, { on := 8, ground := Ground.guard }], guard := some (8, false) }) (v := ?_) rfl (by kernel_rfl) (by kernel_rfl) (by kernel_rfl) (fun _ _ _ h => h) (Or.inl ⟨by rfl, ?_⟩) (by assumption) ?_
              rotate_left
              · intro w_ hSw
                (try dsimp only at hSw)
                go_simp
                first | done | with_reducible rfl
              try simp only [Act.put, List.setIfInBounds_toArray, List.set_cons_zero, List.set_cons_succ]
              refine wpAnyH_take (i := 15) (oi := { dst := some 71, op := Op.binOp BinOp.eql 3 (Operand.tmp 70) (Operand.const (Value.int IntKind.i64 0)) 3, type := 4, pos := "outright.go:55", after := #[{ on := 14, ground := Ground.data }, { on := 8, ground := Ground.guard }], guard := some (8, false) }) (v := ?_) rfl (by kernel_rfl) (by kernel_rfl) (by kernel_rfl) (fun _ _ _ h => h) (Or.inl ⟨by rfl, ?_⟩) (by assumption) ?_
              rotate_left
              · intro w_ hSw
                (try dsimp only at hSw)
                go_simp
                first | done | with_reducible rfl
              try simp only [Act.put, List.setIfInBounds_toArray, List.set_cons_zero, List.set_cons_succ]
              refine wpAnyH_take (i := 16) (oi := { dst := some 72, op := Op.binOp BinOp.neq 4 (Operand.tmp 66) (Operand.tmp 71) 4, type := 4, pos := "outright.go:55", after := #[{ on := 10, ground := Ground.data }, { on := 15, ground := Ground.data }, { on := 8, ground := Ground.guard }], guard := some (8, false) }) (v := ?_) rfl (by kernel_rfl) (by kernel_rfl) (by kernel_rfl) (fun _ _ _ h => h) (Or.inl ⟨by rfl, ?_⟩) (by assumption) ?_
              rotate_left
              · intro w_ hSw
                (try dsimp only at hSw)
                go_simp
                first | done | with_reducible rfl
              try simp only [Act.put, List.setIfInBounds_toArray, List.set_cons_zero, List.set_cons_succ]
              refine wpAnyH_take (i := 17) (oi := { dst := some 73, op := Op.pick (Operand.tmp 64) (Operand.const (Value.bool true)) (Operand.tmp 72), type := 4, pos := "outright.go:55", after := #[{ on := 8, ground := Ground.data }, { on := 16, ground := Ground.data }], guard := none }) (v := ?_) rfl (by kernel_rfl) (by kernel_rfl) (by kernel_rfl) (fun _ _ _ h => h) (Or.inl ⟨by rfl, ?_⟩) (by assumption) ?_
              rotate_left
              · intro w_ hSw
                (try dsimp only at hSw)
                go_simp
                first | done | with_reducible rfl
              try simp only [Act.put, List.setIfInBounds_toArray, List.set_cons_zero, List.set_cons_succ]
              refine wpAnyH_take (i := 18) (oi := { dst := some 74, op := Op.move (Operand.tmp 73), type := 4, pos := "outright.go:55", after := #[{ on := 17, ground := Ground.data }, { on := 8, ground := Ground.chain }], guard := none }) (v := ?_) rfl (by kernel_rfl) (by kernel_rfl) (by kernel_rfl) (fun _ _ _ h => h) (Or.inl ⟨by rfl, ?_⟩) (by assumption) ?_
              rotate_left
              · intro w_ hSw
                (try dsimp only at hSw)
                go_simp
                first | done | with_reducible rfl
              try simp only [Act.put, List.setIfInBounds_toArray, List.set_cons_zero, List.set_cons_succ]
              refine wpAnyH_take (i := 19) (oi := { dst := some 75, op := Op.move (Operand.tmp 9), type := 9, pos := "outright.go:55", after := #[{ on := 18, ground := Ground.guard }], guard := some (18, false) }) (v := ?_) rfl (by kernel_rfl) (by kernel_rfl) (by kernel_rfl) (fun _ _ _ h => h) (Or.inl ⟨by rfl, ?_⟩) (by assumption) ?_
              rotate_left
              · intro w_ hSw
                (try dsimp only at hSw)
                go_simp
                first | done | with_reducible rfl
              try simp only [Act.put, List.setIfInBounds_toArray, List.set_cons_zero, List.set_cons_succ]
              refine wpAnyH_take (i := 20) (oi := { dst := some 76, op := Op.binOp BinOp.neq 9 (Operand.tmp 75) (Operand.const (Value.string { data := #[] })) 9, type := 4, pos := "outright.go:55", after := #[{ on := 19, ground := Ground.data }, { on := 18, ground := Ground.guard }], guard := some (18, false) }) (v := ?_) rfl (by kernel_rfl) (by kernel_rfl) (by kernel_rfl) (fun _ _ _ h => h) (Or.inl ⟨by rfl, ?_⟩) (by assumption) ?_
              rotate_left
              · intro w_ hSw
                (try dsimp only at hSw)
                go_simp
                first | done | with_reducible rfl
              try simp only [Act.put, List.setIfInBounds_toArray, List.set_cons_zero, List.set_cons_succ]
              refine wpAnyH_take (i := 21) (oi := { dst := some 77, op := Op.move (Operand.tmp 76), type := 4, pos := "outright.go:55", after := #[{ on := 20, ground := Ground.data }, { on := 18, ground := Ground.chain }, { on := 18, ground := Ground.guard }], guard := some (18, false) }) (v := ?_) rfl (by kernel_rfl) (by kernel_rfl) (by kernel_rfl) (fun _ _ _ h => h) (Or.inl ⟨by rfl, ?_⟩) (by assumption) ?_
              rotate_left
              · intro w_ hSw
                (try dsimp only at hSw)
                go_simp
                first | done | with_reducible rfl
              try simp only [Act.put, List.setIfInBounds_toArray, List.set_cons_zero, List.set_cons_succ]
              refine wpAnyH_take (i := 22) (oi := { dst := some 78, op := Op.move (Operand.tmp 9), type := 9, pos := "outright.go:55", after := #[{ on := 21, ground := Ground.guard }], guard := some (21, true) }) (v := undef) rfl (by kernel_rfl) (by kernel_rfl) (by kernel_rfl) (fun _ _ _ h => h) (Or.inr ⟨by rfl, rfl⟩) (by assumption) ?_
              try simp only [Act.put, List.setIfInBounds_toArray, List.set_cons_zero, List.set_cons_succ]
              refine wpAnyH_take (i := 23) (oi := { dst := some 79, op := Op.move (Operand.tmp 11), type := 9, pos := "outright.go:55", after := #[{ on := 21, ground := Ground.guard }], guard := some (21, true) }) (v := undef) rfl (by kernel_rfl) (by kernel_rfl) (by kernel_rfl) (fun _ _ _ h => h) (Or.inr ⟨by rfl, rfl⟩) (by assumption) ?_
              try simp only [Act.put, List.setIfInBounds_toArray, List.set_cons_zero, List.set_cons_succ]
              refine wpAnyH_take (i := 24) (oi := { dst := some 80, op := Op.binOp BinOp.eql 9 (Operand.tmp 78) (Operand.tmp 79) 9, type := 4, pos := "outright.go:55", after := #[{ on := 22, ground := Ground.data }, { on := 23, ground := Ground.data }, { on := 21, ground := Ground.guard }], guard := some (21, true) }) (v := undef) rfl (by kernel_rfl) (by kernel_rfl) (by kernel_rfl) (fun _ _ _ h => h) (Or.inr ⟨by rfl, rfl⟩) (by assumption) ?_
              try simp only [Act.put, List.setIfInBounds_toArray, List.set_cons_zero, List.set_cons_succ]
              refine wpAnyH_take (i := 25) (oi := { dst := some 81, op := Op.load 27 (Operand.tmp 4), type := 27, pos := "outright.go:55", after := #[{ on := 21, ground := Ground.guard }], guard := some (21, true) }) (v := undef) rfl (by kernel_rfl) (by kernel_rfl) (by kernel_rfl) (fun _ _ _ h => h) (Or.inr ⟨by rfl, rfl⟩) (by assumption) ?_
              try simp only [Act.put, List.setIfInBounds_toArray, List.set_cons_zero, List.set_cons_succ]
              refine wpAnyH_take (i := 26) (oi := { dst := some 82, op := Op.load 27 (Operand.tmp 5), type := 27, pos := "outright.go:55", after := #[{ on := 21, ground := Ground.guard }], guard := some (21, true) }) (v := undef) rfl (by kernel_rfl) (by kernel_rfl) (by kernel_rfl) (fun _ _ _ h => h) (Or.inr ⟨by rfl, rfl⟩) (by assumption) ?_
              try simp only [Act.put, List.setIfInBounds_toArray, List.set_cons_zero, List.set_cons_succ]
              refine wpAnyH_take (i := 27) (oi := { dst := some 83, op := Op.call { callee := Callee.value (Operand.func 19), args := #[Operand.tmp 81, Operand.tmp 82], argTypes := #[27, 27] }, type := 4, pos := "outright.go:55", after := #[{ on := 25, ground := Ground.data }, { on := 26, ground := Ground.data }, { on := 21, ground := Ground.chain }, { on := 21, ground := Ground.guard }], guard := some (21, true) }) (v := undef) rfl (by kernel_rfl) (by kernel_rfl) (by kernel_rfl) (fun _ _ _ h => h) (Or.inr ⟨by rfl, rfl⟩) (by assumption) ?_
              try simp only [Act.put, List.setIfInBounds_toArray, List.set_cons_zero, List.set_cons_succ]
              refine wpAnyH_take (i := 28) (oi := { dst := some 84, op := Op.binOp BinOp.neq 4 (Operand.tmp 80) (Operand.tmp 83) 4, type := 4, pos := "outright.go:55", after := #[{ on := 24, ground := Ground.data }, { on := 27, ground := Ground.data }, { on := 21, ground := Ground.guard }], guard := some (21, true) }) (v := undef) rfl (by kernel_rfl) (by kernel_rfl) (by kernel_rfl) (fun _ _ _ h => h) (Or.inr ⟨by rfl, rfl⟩) (by assumption) ?_
              try simp only [Act.put, List.setIfInBounds_toArray, List.set_cons_zero, List.set_cons_succ]
              refine wpAnyH_take (i := 29) (oi := { dst := some 85, op := Op.pick (Operand.tmp 77) (Operand.tmp 84) (Operand.const (Value.bool false)), type := 4, pos := "outright.go:55", after := #[{ on := 21, ground := Ground.data }, { on := 28, ground := Ground.data }, { on := 18, ground := Ground.guard }], guard := some (18, false) }) (v := ?_) rfl (by kernel_rfl) (by kernel_rfl) (by kernel_rfl) (fun _ _ _ h => h) (Or.inl ⟨by rfl, ?_⟩) (by assumption) ?_
              rotate_left
              · intro w_ hSw
                (try dsimp only at hSw)
                go_simp
                first | done | with_reducible rfl
              try simp only [Act.put, List.setIfInBounds_toArray, List.set_cons_zero, List.set_cons_succ]
              refine wpAnyH_take (i := 30) (oi := { dst := some 86, op := Op.pick (Operand.tmp 74) (Operand.const (Value.bool true)) (Operand.tmp 85), type := 4, pos := "outright.go:55", after := #[{ on := 18, ground := Ground.data }, { on := 29, ground := Ground.data }], guard := none }) (v := ?_) rfl (by kernel_rfl) (by kernel_rfl) (by kernel_rfl) (fun _ _ _ h => h) (Or.inl ⟨by rfl, ?_⟩) (by assumption) ?_
              rotate_left
              · intro w_ hSw
                (try dsimp only at hSw)
                go_simp
                first | done | with_reducible rfl
              try simp only [Act.put, List.setIfInBounds_toArray, List.set_cons_zero, List.set_cons_succ]
              refine wpAnyH_take (i := 31) (oi := { dst := some 87, op := Op.move (Operand.tmp 86), type := 4, pos := "outright.go:55", after := #[{ on := 30, ground := Ground.data }, { on := 27, ground := Ground.chain }], guard := none }) (v := ?_) rfl (by kernel_rfl) (by kernel_rfl) (by kernel_rfl) (fun _ _ _ h => h) (Or.inl ⟨by rfl, ?_⟩) (by assumption) ?_
              rotate_left
              · intro w_ hSw
                (try dsimp only at hSw)
                go_simp
                first | done | with_reducible rfl
              try simp only [Act.put, List.setIfInBounds_toArray, List.set_cons_zero, List.set_cons_succ]
              refine wpAnyH_take (i := 32) (oi := { dst := some 88, op := Op.load 27 (Operand.tmp 4), type := 27, pos := "outright.go:55", after := #[{ on := 31, ground := Ground.guard }], guard := some (31, false) }) (v := ?_) rfl (by kernel_rfl) (by kernel_rfl) (by kernel_rfl) (fun _ _ _ h => h) (Or.inl ⟨by rfl, ?_⟩) (by assumption) ?_
              rotate_left
              · intro w_ hSw
                (try dsimp only at hSw)
                go_simp
                first | done | with_reducible rfl
              try simp only [Act.put, List.setIfInBounds_toArray, List.set_cons_zero, List.set_cons_succ]
              refine wpAnyH_take (i := 34) (oi := { dst := some 90, op := Op.load 27 (Operand.tmp 5), type := 27, pos := "outright.go:55", after := #[{ on := 31, ground := Ground.guard }], guard := some (31, false) }) (v := ?_) rfl (by kernel_rfl) (by kernel_rfl) (by kernel_rfl) (fun _ _ _ h => h) (Or.inl ⟨by rfl, ?_⟩) (by assumption) ?_
              rotate_left
              · intro w_ hSw
                (try dsimp only at hSw)
                go_simp
                first | done | with_reducible rfl
              try simp only [Act.put, List.setIfInBounds_toArray, List.set_cons_zero, List.set_cons_succ]
              refine wpAnyH_take (i := 37) (oi := { dst := some 93, op := Op.load 27 (Operand.tmp 4), type := 27, pos := "outright.go:55", after := #[{ on := 31, ground := Ground.guard }], guard := some (31, false) }) (v := ?_) rfl (by kernel_rfl) (by kernel_rfl) (by kernel_rfl) (fun _ _ _ h => h) (Or.inl ⟨by rfl, ?_⟩) (by assumption) ?_
              rotate_left
              · intro w_ hSw
                (try dsimp only at hSw)
                go_simp
                first | done | with_reducible rfl
              try simp only [Act.put, List.setIfInBounds_toArray, List.set_cons_zero, List.set_cons_succ]
              refine wpAnyH_take (i := 38) (oi := { dst := some 94, op := Op.load 27 (Operand.tmp 5), type := 27, pos := "outright.go:55", after := #[{ on := 31, ground := Ground.guard }], guard := some (31, false) }) (v := ?_) rfl (by kernel_rfl) (by kernel_rfl) (by kernel_rfl) (fun _ _ _ h => h) (Or.inl ⟨by rfl, ?_⟩) (by assumption) ?_
              rotate_left
              · intro w_ hSw
                (try dsimp only at hSw)
                go_simp
                first | done | with_reducible rfl
              try simp only [Act.put, List.setIfInBounds_toArray, List.set_cons_zero, List.set_cons_succ]
              refine wpAnyH_ready (rs := [33]) (by kernel_rfl) (by simp) ?_
              refine AllReadyH.cons (o := { dst := some 89, op := Op.call { callee := Callee.value (Operand.func 10), args := #[Operand.tmp 88], argTypes := #[27] }, type := 27, pos := "outright.go:55", after := #[{ on := 32, ground := Ground.data }, { on := 31, ground := Ground.chain }, { on := 31, ground := Ground.guard }], guard := some (31, false) }) rfl (fun K hK => ?_) (AllReadyH.nil)
              go_simp
              go_at_call 10
              refine (twinR_any ka A B c1 c2 a l _ (GR.Rd.below DD_33.out (by repeat (first | exact HR.out | refine bl_drewN ?_ _ | refine bl_drew ?_ | refine bl_alloc ?_ _))) (GR.Rd.below DL_33.out (by repeat (first | exact HR.out | refine bl_drewN ?_ _ | refine bl_drew ?_ | refine bl_alloc ?_ _))) sa sl).mono ?_
              rintro e q9_33 ⟨A_33, B_33, c_33, d_33, rfl, hra, hrl, hc1, _, hb2⟩
              have TD_33 := Lib.hid hra
              have TL_33 := Lib.hid hrl
              have TC_33 := hc1
              clear hra hrl
              have hs_33 : u10.heap.size ≤ q9_33.heap.size := Below.size (bl_then (w := u10) (by repeat (first | exact HR.out | refine bl_drewN ?_ _ | refine bl_drew ?_ | refine bl_alloc ?_ _)) hb2)
              have N_ := Lib.hid (bl_then (w := u10) (by repeat (first | exact HR.out | refine bl_drewN ?_ _ | refine bl_drew ?_ | refine bl_alloc ?_ _)) hb2)
              clear hb2 HR
              have HR := N_
              clear N_
              refine hK.out _ _ ?_ (fun hHeld => ?_)
              · exact ⟨(Below.cell (p := ⟨w.heap.size, 0, none⟩) (by repeat (first | exact HR.out | refine bl_drewN ?_ _ | refine bl_drew ?_ | refine bl_alloc ?_ _)) (World.block_lt_of_cell? u10 _ K0.out)).trans K0.out, (Below.cell (p := ⟨w.heap.size, 1, none⟩) (by repeat (first | exact HR.out | refine bl_drewN ?_ _ | refine bl_drew ?_ | refine bl_alloc ?_ _)) (World.block_lt_of_cell? u10 _ K1.out)).trans K1.out, (Below.cell (p := ⟨w.heap.size, 2, none⟩) (by repeat (first | exact HR.out | refine bl_drewN ?_ _ | refine bl_drew ?_ | refine bl_alloc ?_ _)) (World.block_lt_of_cell? u10 _ K2.out)).trans K2.out, (Below.cell (p := ⟨w.heap.size + 1, 0, none⟩) (by repeat (first | exact HR.out | refine bl_drewN ?_ _ | refine bl_drew ?_ | refine bl_alloc ?_ _)) (World.block_lt_of_cell? u10 _ K3.out)).trans K3.out, (Below.cell (p := ⟨w.heap.size + 1, 1, none⟩) (by repeat (first | exact HR.out | refine bl_drewN ?_ _ | refine bl_drew ?_ | refine bl_alloc ?_ _)) (World.block_lt_of_cell? u10 _ K4.out)).trans K4.out, (Below.cell (p := ⟨w.heap.size + 1, 2, none⟩) (by repeat (first | exact HR.out | refine bl_drewN ?_ _ | refine bl_drew ?_ | refine bl_alloc ?_ _)) (World.block_lt_of_cell? u10 _ K5.out)).trans K5.out⟩
              clear hK K
              try simp only [Act.put, List.setIfInBounds_toArray, List.set_cons_zero, List.set_cons_succ]
              refine wpAnyH_ready (rs := [35]) (by kernel_rfl) (by simp) ?_
              refine AllReadyH.cons (o := { dst := some 91, op := Op.call { callee := Callee.value (Operand.func 10), args := #[Operand.tmp 90], argTypes := #[27] }, type := 27, pos := "outright.go:55", after := #[{ on := 34, ground := Ground.data }, { on := 33, ground := Ground.chain }, { on := 31, ground := Ground.guard }], guard := some (31, false) }) rfl (fun K hK => ?_) (AllReadyH.nil)
              go_simp
              go_at_call 10
              refine (twinR_any kb C D c3 c4 b m _ (GR.Rd.below DD_35.out (by repeat (first | exact HR.out | refine bl_drewN ?_ _ | refine bl_drew ?_ | refine bl_alloc ?_ _))) (GR.Rd.below DL_35.out (by repeat (first | exact HR.out | refine bl_drewN ?_ _ | refine bl_drew ?_ | refine bl_alloc ?_ _))) sb sm).mono ?_
              rintro e q9_35 ⟨A_35, B_35, c_35, d_35, rfl, hra, hrl, hc1, _, hb2⟩
              have T_ := Lib.hid (GR.Rd.below (GR.Rd.below (w := q9_33) TD_33.out (by repeat (first | exact Below.refl _ _ | refine bl_drewN ?_ _ | refine bl_drew ?_ | refine bl_alloc ?_ _))) hb2)
              clear TD_33
              have TD_33 := T_
              clear T_
              have T_ := Lib.hid (GR.Rd.below (GR.Rd.below (w := q9_33) TL_33.out (by repeat (first | exact Below.refl _ _ | refine bl_drewN ?_ _ | refine bl_drew ?_ | refine bl_alloc ?_ _))) hb2)
              clear TL_33
              have TL_33 := T_
              clear T_
              have TD_35 := Lib.hid hra
              have TL_35 := Lib.hid hrl
              have TC_35 := hc1
              clear hra hrl
              have hs_35 : u10.heap.size ≤ q9_35.heap.size := Below.size (bl_then (w := u10) (by repeat (first | exact HR.out | refine bl_drewN ?_ _ | refine bl_drew ?_ | refine bl_alloc ?_ _)) hb2)
              have N_ := Lib.hid (bl_then (w := u10) (by repeat (first | exact HR.out | refine bl_drewN ?_ _ | refine bl_drew ?_ | refine bl_alloc ?_ _)) hb2)
              clear hb2 HR
              have HR := N_
              clear N_
              refine hK.out _ _ ?_ (fun hHeld => ?_)
              · exact ⟨(Below.cell (p := ⟨w.heap.size, 0, none⟩) (by repeat (first | exact HR.out | refine bl_drewN ?_ _ | refine bl_drew ?_ | refine bl_alloc ?_ _)) (World.block_lt_of_cell? u10 _ K0.out)).trans K0.out, (Below.cell (p := ⟨w.heap.size, 1, none⟩) (by repeat (first | exact HR.out | refine bl_drewN ?_ _ | refine bl_drew ?_ | refine bl_alloc ?_ _)) (World.block_lt_of_cell? u10 _ K1.out)).trans K1.out, (Below.cell (p := ⟨w.heap.size, 2, none⟩) (by repeat (first | exact HR.out | refine bl_drewN ?_ _ | refine bl_drew ?_ | refine bl_alloc ?_ _)) (World.block_lt_of_cell? u10 _ K2.out)).trans K2.out, (Below.cell (p := ⟨w.heap.size + 1, 0, none⟩) (by repeat (first | exact HR.out | refine bl_drewN ?_ _ | refine bl_drew ?_ | refine bl_alloc ?_ _)) (World.block_lt_of_cell? u10 _ K3.out)).trans K3.out, (Below.cell (p := ⟨w.heap.size + 1, 1, none⟩) (by repeat (first | exact HR.out | refine bl_drewN ?_ _ | refine bl_drew ?_ | refine bl_alloc ?_ _)) (World.block_lt_of_cell? u10 _ K4.out)).trans K4.out, (Below.cell (p := ⟨w.heap.size + 1, 2, none⟩) (by repeat (first | exact HR.out | refine bl_drewN ?_ _ | refine bl_drew ?_ | refine bl_alloc ?_ _)) (World.block_lt_of_cell? u10 _ K5.out)).trans K5.out⟩
              clear hK K
              try simp only [Act.put, List.setIfInBounds_toArray, List.set_cons_zero, List.set_cons_succ]
              refine wpAnyH_ready (rs := [36]) (by kernel_rfl) (by simp) ?_
              refine AllReadyH.cons (o := { dst := some 92, op := Op.call { callee := Callee.value (Operand.func 28), args := #[Operand.tmp 89, Operand.tmp 91], argTypes := #[27, 27] }, type := 4, pos := "outright.go:55", after := #[{ on := 33, ground := Ground.data }, { on := 35, ground := Ground.data }, { on := 35, ground := Ground.chain }, { on := 31, ground := Ground.guard }], guard := some (31, false) }) rfl (fun K hK => ?_) (AllReadyH.nil)
              go_simp
              go_at_call 28
              refine (osameq r (GR.Rd.below (w := q9_35) TD_33.out (by repeat (first | exact Below.refl _ _ | refine bl_drewN ?_ _ | refine bl_drew ?_ | refine bl_alloc ?_ _))) (GR.Rd.below (w := q9_35) TL_33.out (by repeat (first | exact Below.refl _ _ | refine bl_drewN ?_ _ | refine bl_drew ?_ | refine bl_alloc ?_ _))) (GR.Rd.below (w := q9_35) TD_35.out (by repeat (first | exact Below.refl _ _ | refine bl_drewN ?_ _ | refine bl_drew ?_ | refine bl_alloc ?_ _))) (GR.Rd.below (w := q9_35) TL_35.out (by repeat (first | exact Below.refl _ _ | refine bl_drewN ?_ _ | refine bl_drew ?_ | refine bl_alloc ?_ _))) rfl rfl rfl rfl HRR.out).mono ?_
              rintro e q9_36 ⟨rfl, hb2⟩
              have T_ := Lib.hid (GR.Rd.below (GR.Rd.below (w := q9_35) TD_33.out (by repeat (first | exact Below.refl _ _ | refine bl_drewN ?_ _ | refine bl_drew ?_ | refine bl_alloc ?_ _))) hb2)
              clear TD_33
              have TD_33 := T_
              clear T_
              have T_ := Lib.hid (GR.Rd.below (GR.Rd.below (w := q9_35) TL_33.out (by repeat (first | exact Below.refl _ _ | refine bl_drewN ?_ _ | refine bl_drew ?_ | refine bl_alloc ?_ _))) hb2)
              clear TL_33
              have TL_33 := T_
              clear T_
              have T_ := Lib.hid (GR.Rd.below (GR.Rd.below (w := q9_35) TD_35.out (by repeat (first | exact Below.refl _ _ | refine bl_drewN ?_ _ | refine bl_drew ?_ | refine bl_alloc ?_ _))) hb2)
              clear TD_35
              have TD_35 := T_
              clear T_
              have T_ := Lib.hid (GR.Rd.below (GR.Rd.below (w := q9_35) TL_35.out (by repeat (first | exact Below.refl _ _ | refine bl_drewN ?_ _ | refine bl_drew ?_ | refine bl_alloc ?_ _))) hb2)
              clear TL_35
              have TL_35 := T_
              clear T_
              have hs_36 : u10.heap.size ≤ q9_36.heap.size := Below.size (bl_then (w := u10) (by repeat (first | exact HR.out | refine bl_drewN ?_ _ | refine bl_drew ?_ | refine bl_alloc ?_ _)) hb2)
              have N_ := Lib.hid (bl_then (w := u10) (by repeat (first | exact HR.out | refine bl_drewN ?_ _ | refine bl_drew ?_ | refine bl_alloc ?_ _)) hb2)
              clear hb2 HR
              have HR := N_
              clear N_
              refine hK.out _ _ ?_ (fun hHeld => ?_)
              · exact ⟨(Below.cell (p := ⟨w.heap.size, 0, none⟩) (by repeat (first | exact HR.out | refine bl_drewN ?_ _ | refine bl_drew ?_ | refine bl_alloc ?_ _)) (World.block_lt_of_cell? u10 _ K0.out)).trans K0.out, (Below.cell (p := ⟨w.heap.size, 1, none⟩) (by repeat (first | exact HR.out | refine bl_drewN ?_ _ | refine bl_drew ?_ | refine bl_alloc ?_ _)) (World.block_lt_of_cell? u10 _ K1.out)).trans K1.out, (Below.cell (p := ⟨w.heap.size, 2, none⟩) (by repeat (first | exact HR.out | refine bl_drewN ?_ _ | refine bl_drew ?_ | refine bl_alloc ?_ _)) (World.block_lt_of_cell? u10 _ K2.out)).trans K2.out, (Below.cell (p := ⟨w.heap.size + 1, 0, none⟩) (by repeat (first | exact HR.out | refine bl_drewN ?_ _ | refine bl_drew ?_ | refine bl_alloc ?_ _)) (World.block_lt_of_cell? u10 _ K3.out)).trans K3.out, (Below.cell (p := ⟨w.heap.size + 1, 1, none⟩) (by repeat (first | exact HR.out | refine bl_drewN ?_ _ | refine bl_drew ?_ | refine bl_alloc ?_ _)) (World.block_lt_of_cell? u10 _ K4.out)).trans K4.out, (Below.cell (p := ⟨w.heap.size + 1, 2, none⟩) (by repeat (first | exact HR.out | refine bl_drewN ?_ _ | refine bl_drew ?_ | refine bl_alloc ?_ _)) (World.block_lt_of_cell? u10 _ K5.out)).trans K5.out⟩
              clear hK K
              try simp only [Act.put, List.setIfInBounds_toArray, List.set_cons_zero, List.set_cons_succ]
              refine wpAnyH_ready (rs := [39]) (by kernel_rfl) (by simp) ?_
              refine AllReadyH.cons (o := { dst := some 95, op := Op.call { callee := Callee.value (Operand.func 19), args := #[Operand.tmp 93, Operand.tmp 94], argTypes := #[27, 27] }, type := 4, pos := "outright.go:55", after := #[{ on := 37, ground := Ground.data }, { on := 38, ground := Ground.data }, { on := 36, ground := Ground.chain }, { on := 31, ground := Ground.guard }], guard := some (31, false) }) rfl (fun K hK => ?_) (AllReadyH.nil)
              go_simp
              go_at_call 19
              refine (lsameq r (GR.Rd.below D_a.out (by repeat (first | exact HR.out | refine bl_drewN ?_ _ | refine bl_drew ?_ | refine bl_alloc ?_ _))) (GR.Rd.below D_l.out (by repeat (first | exact HR.out | refine bl_drewN ?_ _ | refine bl_drew ?_ | refine bl_alloc ?_ _))) (GR.Rd.below D_b.out (by repeat (first | exact HR.out | refine bl_drewN ?_ _ | refine bl_drew ?_ | refine bl_alloc ?_ _))) (GR.Rd.below D_m.out (by repeat (first | exact HR.out | refine bl_drewN ?_ _ | refine bl_drew ?_ | refine bl_alloc ?_ _))) rfl rfl rfl rfl HRR.out).mono ?_
              rintro e q9_39 ⟨rfl, hb2⟩
              have T_ := Lib.hid (GR.Rd.below (GR.Rd.below (w := q9_36) TD_33.out (by repeat (first | exact Below.refl _ _ | refine bl_drewN ?_ _ | refine bl_drew ?_ | refine bl_alloc ?_ _))) hb2)
              clear TD_33
              have TD_33 := T_
              clear T_
              have T_ := Lib.hid (GR.Rd.below (GR.Rd.below (w := q9_36) TL_33.out (by repeat (first | exact Below.refl _ _ | refine bl_drewN ?_ _ | refine bl_drew ?_ | refine bl_alloc ?_ _))) hb2)
              clear TL_33
              have TL_33 := T_
              clear T_
              have T_ := Lib.hid (GR.Rd.below (GR.Rd.below (w := q9_36) TD_35.out (by repeat (first | exact Below.refl _ _ | refine bl_drewN ?_ _ | refine bl_drew ?_ | refine bl_alloc ?_ _))) hb2)
              clear TD_35
              have TD_35 := T_
              clear T_
              have T_ := Lib.hid (GR.Rd.below (GR.Rd.below (w := q9_36) TL_35.out (by repeat (first | exact Below.refl _ _ | refine bl_drewN ?_ _ | refine bl_drew ?_ | refine bl_alloc ?_ _))) hb2)
              clear TL_35
              have TL_35 := T_
              clear T_
              have hs_39 : u10.heap.size ≤ q9_39.heap.size := Below.size (bl_then (w := u10) (by repeat (first | exact HR.out | refine bl_drewN ?_ _ | refine bl_drew ?_ | refine bl_alloc ?_ _)) hb2)
              have N_ := Lib.hid (bl_then (w := u10) (by repeat (first | exact HR.out | refine bl_drewN ?_ _ | refine bl_drew ?_ | refine bl_alloc ?_ _)) hb2)
              clear hb2 HR
              have HR := N_
              clear N_
              refine hK.out _ _ ?_ (fun hHeld => ?_)
              · exact ⟨(Below.cell (p := ⟨w.heap.size, 0, none⟩) (by repeat (first | exact HR.out | refine bl_drewN ?_ _ | refine bl_drew ?_ | refine bl_alloc ?_ _)) (World.block_lt_of_cell? u10 _ K0.out)).trans K0.out, (Below.cell (p := ⟨w.heap.size, 1, none⟩) (by repeat (first | exact HR.out | refine bl_drewN ?_ _ | refine bl_drew ?_ | refine bl_alloc ?_ _)) (World.block_lt_of_cell? u10 _ K1.out)).trans K1.out, (Below.cell (p := ⟨w.heap.size, 2, none⟩) (by repeat (first | exact HR.out | refine bl_drewN ?_ _ | refine bl_drew ?_ | refine bl_alloc ?_ _)) (World.block_lt_of_cell? u10 _ K2.out)).trans K2.out, (Below.cell (p := ⟨w.heap.size + 1, 0, none⟩) (by repeat (first | exact HR.out | refine bl_drewN ?_ _ | refine bl_drew ?_ | refine bl_alloc ?_ _)) (World.block_lt_of_cell? u10 _ K3.out)).trans K3.out, (Below.cell (p := ⟨w.heap.size + 1, 1, none⟩) (by repeat (first | exact HR.out | refine bl_drewN ?_ _ | refine bl_drew ?_ | refine bl_alloc ?_ _)) (World.block_lt_of_cell? u10 _ K4.out)).trans K4.out, (Below.cell (p := ⟨w.heap.size + 1, 2, none⟩) (by repeat (first | exact HR.out | refine bl_drewN ?_ _ | refine bl_drew ?_ | refine bl_alloc ?_ _)) (World.block_lt_of_cell? u10 _ K5.out)).trans K5.out⟩
              clear hK K
              try simp only [Act.put, List.setIfInBounds_toArray, List.set_cons_zero, List.set_cons_succ]
              refine wpAnyH_take (i := 40) (oi := { dst := some 96, op := Op.binOp BinOp.neq 4 (Operand.tmp 92) (Operand.tmp 95) 4, type := 4, pos := "outright.go:55", after := #[{ on := 36, ground := Ground.data }, { on := 39, ground := Ground.data }, { on := 31, ground := Ground.guard }], guard := some (31, false) }) (v := ?_) rfl (by kernel_rfl) (by kernel_rfl) (by kernel_rfl) (fun _ _ _ h => h) (Or.inl ⟨by rfl, ?_⟩) (by assumption) ?_
              rotate_left
              · intro w_ hSw
                (try dsimp only at hSw)
                go_simp
                first | done | with_reducible rfl
              try simp only [Act.put, List.setIfInBounds_toArray, List.set_cons_zero, List.set_cons_succ]
              refine wpAnyH_take (i := 41) (oi := { dst := some 97, op := Op.pick (Operand.tmp 87) (Operand.const (Value.bool true)) (Operand.tmp 96), type := 4, pos := "outright.go:55", after := #[{ on := 31, ground := Ground.data }, { on := 40, ground := Ground.data }], guard := none }) (v := ?_) rfl (by kernel_rfl) (by kernel_rfl) (by kernel_rfl) (fun _ _ _ h => h) (Or.inl ⟨by rfl, ?_⟩) (by assumption) ?_
              rotate_left
              · intro w_ hSw
                (try dsimp only at hSw)
                go_simp
                first | done | with_reducible rfl
              try simp only [Act.put, List.setIfInBounds_toArray, List.set_cons_zero, List.set_cons_succ]
              refine wpAnyH_done (by kernel_rfl) ?_ _
              go_wp2_with fail
              go_meet
              exact ⟨rfl, Lib.hid (by repeat (first | exact HR.out | refine bl_drewN ?_ _ | refine bl_drew ?_ | refine bl_alloc ?_ _))⟩
            · have y1 : (fy.toList == []) = false := by rw [HY8.out]; exact decide_eq_false hb0
              have y2 : ((b.length : Int) == 0) = false := by rw [beq_eq_false_iff_ne]; omega
              have y3 : decide ((b.length : Int) = 0) = false := decide_eq_false (by omega)
              clear hb0
              refine wp_region_held_drew (S := fun w' => w'.cell? ⟨w.heap.size, 0, none⟩ = some (.string ka) ∧ w'.cell? ⟨w.heap.size, 1, none⟩ = some (.slice A a.length c1) ∧ w'.cell? ⟨w.heap.size, 2, none⟩ = some (.slice B l.length c2) ∧ w'.cell? ⟨w.heap.size + 1, 0, none⟩ = some (.string kb) ∧ w'.cell? ⟨w.heap.size + 1, 1, none⟩ = some (.slice C b.length c3) ∧ w'.cell? ⟨w.heap.size + 1, 2, none⟩ = some (.slice D m.length c4)) (by kernel_rfl) ?_ (fun hHeld => ?_)
              · exact ⟨K0.out, K1.out, K2.out, K3.out, K4.out, K5.out⟩
              refine wpAnyH_take (i := 0) (oi := { dst := some 56, op := Op.move (Operand.tmp 9), type := 9, pos := "outright.go:55", after := #[], guard := none }) (v := ?_) rfl (by kernel_rfl) (by kernel_rfl) (by kernel_rfl) (fun _ _ _ h => h) (Or.inl ⟨by rfl, ?_⟩) (by assumption) ?_
              rotate_left
              · intro w_ hSw
                (try dsimp only at hSw)
                go_simp
                first | done | with_reducible rfl
              try simp only [Act.put, List.setIfInBounds_toArray, List.set_cons_zero, List.set_cons_succ]
              refine wpAnyH_take (i := 1) (oi := { dst := some 57, op := Op.binOp BinOp.eql 9 (Operand.tmp 56) (Operand.const (Value.string { data := #[] })) 9, type := 4, pos := "outright.go:55", after := #[{ on := 0, ground := Ground.data }], guard := none }) (v := ?_) rfl (by kernel_rfl) (by kernel_rfl) (by kernel_rfl) (fun _ _ _ h => h) (Or.inl ⟨by rfl, ?_⟩) (by assumption) ?_
              rotate_left
              · intro w_ hSw
                (try dsimp only at hSw)
                go_simp
                first | done | with_reducible rfl
              try simp only [Act.put, List.setIfInBounds_toArray, List.set_cons_zero, List.set_cons_succ]
              refine wpAnyH_take (i := 2) (oi := { dst := some 58, op := Op.fieldAddr 27 (Operand.tmp 4) 1, type := 0, pos := "outright.go:55", after := #[], guard := none }) (v := ?_) rfl (by kernel_rfl) (by kernel_rfl) (by kernel_rfl) (fun _ _ _ h => h) (Or.inl ⟨by rfl, ?_⟩) (by assumption) ?_
              rotate_left
              · intro w_ hSw
                (try dsimp only at hSw)
                go_simp
                first | done | with_reducible rfl
              try simp only [Act.put, List.setIfInBounds_toArray, List.set_cons_zero, List.set_cons_succ]
              refine wpAnyH_take (i := 3) (oi := { dst := some 59, op := Op.fieldAddr 25 (Operand.tmp 58) 0, type := 0, pos := "outright.go:55", after := #[{ on := 2, ground := Ground.data }], guard := none }) (v := ?_) rfl (by kernel_rfl) (by kernel_rfl) (by kernel_rfl) (fun _ _ _ h => h) (Or.inl ⟨by rfl, ?_⟩) (by assumption) ?_
              rotate_left
              · intro w_ hSw
                (try dsimp only at hSw)
                go_simp
                first | done | with_reducible rfl
              try simp only [Act.put, List.setIfInBounds_toArray, List.set_cons_zero, List.set_cons_succ]
              refine wpAnyH_take (i := 4) (oi := { dst := some 60, op := Op.load 22 (Operand.tmp 59), type := 22, pos := "outright.go:55", after := #[{ on := 3, ground := Ground.data }], guard := none }) (v := ?_) rfl (by kernel_rfl) (by kernel_rfl) (by kernel_rfl) (fun _ _ _ h => h) (Or.inl ⟨by rfl, ?_⟩) (by assumption) ?_
              rotate_left
              · intro w_ hSw
                (try dsimp only at hSw)
                go_simp
                first | done | with_reducible rfl
              try simp only [Act.put, List.setIfInBounds_toArray, List.set_cons_zero, List.set_cons_succ]
              refine wpAnyH_take (i := 5) (oi := { dst := some 61, op := Op.call { callee := Callee.builtin Builtin.len, args := #[Operand.tmp 60], argTypes := #[22] }, type := 3, pos := "outright.go:55", after := #[{ on := 4, ground := Ground.data }], guard := none }) (v := ?_) rfl (by kernel_rfl) (by kernel_rfl) (by kernel_rfl) (fun _ _ _ h => h) (Or.inl ⟨by rfl, ?_⟩) (by assumption) ?_
              rotate_left
              · intro w_ hSw
                (try dsimp only at hSw)
                go_simp
                first | done | with_reducible rfl
              try simp only [Act.put, List.setIfInBounds_toArray, List.set_cons_zero, List.set_cons_succ]
              refine wpAnyH_take (i := 6) (oi := { dst := some 62, op := Op.binOp BinOp.eql 3 (Operand.tmp 61) (Operand.const (Value.int IntKind.i64 0)) 3, type := 4, pos := "outright.go:55", after := #[{ on := 5, ground := Ground.data }], guard := none }) (v := ?_) rfl (by kernel_rfl) (by kernel_rfl) (by kernel_rfl) (fun _ _ _ h => h) (Or.inl ⟨by rfl, ?_⟩) (by assumption) ?_
              rotate_left
              · intro w_ hSw
                (try dsimp only at hSw)
                go_simp
                first | done | with_reducible rfl
              try simp only [Act.put, List.setIfInBounds_toArray, List.set_cons_zero, List.set_cons_succ]
              refine wpAnyH_take (i := 7) (oi := { dst := some 63, op := Op.binOp BinOp.neq 4 (Operand.tmp 57) (Operand.tmp 62) 4, type := 4, pos := "outright.go:55", after := #[{ on := 1, ground := Ground.data }, { on := 6, ground := Ground.data }], guard := none }) (v := ?_) rfl (by kernel_rfl) (by kernel_rfl) (by kernel_rfl) (fun _ _ _ h => h) (Or.inl ⟨by rfl, ?_⟩) (by assumption) ?_
              rotate_left
              · intro w_ hSw
                (try dsimp only at hSw)
                go_simp
                first | done | with_reducible rfl
              try simp only [Act.put, List.setIfInBounds_toArray, List.set_cons_zero, List.set_cons_succ]
              refine wpAnyH_take (i := 8) (oi := { dst := some 64, op := Op.move (Operand.tmp 63), type := 4, pos := "outright.go:55", after := #[{ on := 7, ground := Ground.data }], guard := none }) (v := ?_) rfl (by kernel_rfl) (by kernel_rfl) (by kernel_rfl) (fun _ _ _ h => h) (Or.inl ⟨by rfl, ?_⟩) (by assumption) ?_
              rotate_left
              · intro w_ hSw
                (try dsimp only at hSw)
                go_simp
                first | done | with_reducible rfl
              try simp only [Act.put, List.setIfInBounds_toArray, List.set_cons_zero, List.set_cons_succ]
              refine wpAnyH_take (i := 9) (oi := { dst := some 65, op := Op.move (Operand.tmp 11), type := 9, pos := "outright.go:55", after := #[{ on := 8, ground := Ground.guard }], guard := some (8, false) }) (v := ?_) rfl (by kernel_rfl) (by kernel_rfl) (by kernel_rfl) (fun _ _ _ h => h) (Or.inl ⟨by rfl, ?_⟩) (by assumption) ?_
              rotate_left
              · intro w_ hSw
                (try dsimp only at hSw)
                go_simp
                first | done | with_reducible rfl
              try simp only [Act.put, List.setIfInBounds_toArray, List.set_cons_zero, List.set_cons_succ]
              refine wpAnyH_take (i := 10) (oi := { dst := some 66, op := Op.binOp BinOp.eql 9 (Operand.tmp 65) (Operand.const (Value.string { data := #[] })) 9, type := 4, pos := "outright.go:55", after := #[{ on := 9, ground := Ground.data }, { on := 8, ground := Ground.guard }], guard := some (8, false) }) (v := ?_) rfl (by kernel_rfl) (by kernel_rfl) (by kernel_rfl) (fun _ _ _ h => h) (Or.inl ⟨by rfl, ?_⟩) (by assumption) ?_
              rotate_left
              · intro w_ hSw
                (try dsimp only at hSw)
                go_simp
                first | done | with_reducible rfl
              try simp only [Act.put, List.setIfInBounds_toArray, List.set_cons_zero, List.set_cons_succ]
              refine wpAnyH_take (i := 11) (oi := { dst := some 67, op := Op.fieldAddr 27 (Operand.tmp 5) 1, type := 0, pos := "outright.go:55", after := #[{ on := 8, ground := Ground.guard }], guard := some (8, false) }) (v := ?_) rfl (by kernel_rfl) (by kernel_rfl) (by kernel_rfl) (fun _ _ _ h => h) (Or.inl ⟨by rfl, ?_⟩) (by assumption) ?_
              rotate_left
              · intro w_ hSw
                (try dsimp only at hSw)
                go_simp
                first | done | with_reducible rfl
              try simp only [Act.put, List.setIfInBounds_toArray, List.set_cons_zero, List.set_cons_succ]
              refine wpAnyH_take (i := 12) (oi := { dst := some 68, op := Op.fieldAddr 25 (Operand.tmp 67) 0, type := 0, pos := "outright.go:55", after := #[{ on := 11, ground := Ground.data }, { on := 8, ground := Ground.guard }], guard := some (8, false) }) (v := ?_) rfl (by kernel_rfl) (by kernel_rfl) (by kernel_rfl) (fun _ _ _ h => h) (Or.inl ⟨by rfl, ?_⟩) (by assumption) ?_
              rotate_left
              · intro w_ hSw
                (try dsimp only at hSw)
                go_simp
                first | done | with_reducible rfl
              try simp only [Act.put, List.setIfInBounds_toArray, List.set_cons_zero, List.set_cons_succ]
              refine wpAnyH_take (i := 13) (oi := { dst := some 69, op := Op.load 22 (Operand.tmp 68), type := 22, pos := "outright.go:55", after := #[{ on := 12, ground := Ground.data }, { on := 8, ground := Ground.guard }], guard := some (8, false) }) (v := ?_) rfl (by kernel_rfl) (by kernel_rfl) (by kernel_rfl) (fun _ _ _ h => h) (Or.inl ⟨by rfl, ?_⟩) (by assumption) ?_
              rotate_left
              · intro w_ hSw
                (try dsimp only at hSw)
                go_simp
                first | done | with_reducible rfl
              try simp only [Act.put, List.setIfInBounds_toArray, List.set_cons_zero, List.set_cons_succ]
              refine wpAnyH_take (i := 14) (oi := { dst := some 70, op := Op.call { callee := Callee.builtin Builtin.len, args := #[Operand.tmp 69], argTypes := #[22] }, type := 3, pos := "outright.go:55", after := #[{ on := 13, ground := Ground.data }, { on := 8, ground := Ground.guard }], guard := some (8, false) }) (v := ?_) rfl (by kernel_rfl) (by kernel_rfl) (by kernel_rfl) (fun _ _ _ h => h) (Or.inl ⟨by rfl, ?_⟩) (by assumption) ?_
              rotate_left
              · intro w_ hSw
                (try dsimp only at hSw)
                go_simp
                first | done | with_reducible rfl
              try simp only [Act.put, List.setIfInBounds_toArray, List.set_cons_zero, List.set_cons_succ]
              refine wpAnyH_take (i := 15) (oi := { dst := some 71, op := Op.binOp BinOp.eql 3 (Operand.tmp 70) (Operand.const (Value.int IntKind.i64 0)) 3, type := 4, pos := "outright.go:55", after := #[{ on := 14, ground := Ground.data }, { on := 8, ground := Ground.guard }], guard := some (8, false) }) (v := ?_) rfl (by kernel_rfl) (by kernel_rfl) (by kernel_rfl) (fun _ _ _ h => h) (Or.inl ⟨by rfl, ?_⟩) (by assumption) ?_
              rotate_left
              · intro w_ hSw
                (try dsimp only at hSw)
                go_simp
                first | done | with_reducible rfl
              try simp only [Act.put, List.setIfInBounds_toArray, List.set_cons_zero, List.set_cons_succ]
              refine wpAnyH_take (i := 16) (oi := { dst := some 72, op := Op.binOp BinOp.neq 4 (Operand.tmp 66) (Operand.tmp 71) 4, type := 4, pos := "outright.go:55", after := #[{ on := 10, ground := Ground.data }, { on := 15, ground := Ground.data }, { on := 8, ground := Ground.guard }], guard := some (8, false) }) (v := ?_) rfl (by kernel_rfl) (by kernel_rfl) (by kernel_rfl) (fun _ _ _ h => h) (Or.inl ⟨by rfl, ?_⟩) (by assumption) ?_
              rotate_left
              · intro w_ hSw
                (try dsimp only at hSw)
                go_simp
                first | done | with_reducible rfl
              try simp only [Act.put, List.setIfInBounds_toArray, List.set_cons_zero, List.set_cons_succ]
              refine wpAnyH_take (i := 17) (oi := { dst := some 73, op := Op.pick (Operand.tmp 64) (Operand.const (Value.bool true)) (Operand.tmp 72), type := 4, pos := "outright.go:55", after := #[{ on := 8, ground := Ground.data }, { on := 16, ground := Ground.data }], guard := none }) (v := ?_) rfl (by kernel_rfl) (by kernel_rfl) (by kernel_rfl) (fun _ _ _ h => h) (Or.inl ⟨by rfl, ?_⟩) (by assumption) ?_
              rotate_left
              · intro w_ hSw
                (try dsimp only at hSw)
                go_simp
                first | done | with_reducible rfl
              try simp only [Act.put, List.setIfInBounds_toArray, List.set_cons_zero, List.set_cons_succ]
              refine wpAnyH_take (i := 18) (oi := { dst := some 74, op := Op.move (Operand.tmp 73), type := 4, pos := "outright.go:55", after := #[{ on := 17, ground := Ground.data }, { on := 8, ground := Ground.chain }], guard := none }) (v := ?_) rfl (by kernel_rfl) (by kernel_rfl) (by kernel_rfl) (fun _ _ _ h => h) (Or.inl ⟨by rfl, ?_⟩) (by assumption) ?_
              rotate_left
              · intro w_ hSw
                (try dsimp only at hSw)
                go_simp
                first | done | with_reducible rfl
              try simp only [Act.put, List.setIfInBounds_toArray, List.set_cons_zero, List.set_cons_succ]
              refine wpAnyH_take (i := 19) (oi := { dst := some 75, op := Op.move (Operand.tmp 9), type := 9, pos := "outright.go:55", after := #[{ on := 18, ground := Ground.guard }], guard := some (18, false) }) (v := ?_) rfl (by kernel_rfl) (by kernel_rfl) (by kernel_rfl) (fun _ _ _ h => h) (Or.inl ⟨by rfl, ?_⟩) (by assumption) ?_
              rotate_left
              · intro w_ hSw
                (try dsimp only at hSw)
                go_simp
                first | done | with_reducible rfl
              try simp only [Act.put, List.setIfInBounds_toArray, List.set_cons_zero, List.set_cons_succ]
              refine wpAnyH_take (i := 20) (oi := { dst := some 76, op := Op.binOp BinOp.neq 9 (Operand.tmp 75) (Operand.const (Value.string { data := #[] })) 9, type := 4, pos := "outright.go:55", after := #[{ on := 19, ground := Ground.data }, { on := 18, ground := Ground.guard }], guard := some (18, false) }) (v := ?_) rfl (by kernel_rfl) (by kernel_rfl) (by kernel_rfl) (fun _ _ _ h => h) (Or.inl ⟨by rfl, ?_⟩) (by assumption) ?_
              rotate_left
              · intro w_ hSw
                (try dsimp only at hSw)
                go_simp
                first | done | with_reducible rfl
              try simp only [Act.put, List.setIfInBounds_toArray, List.set_cons_zero, List.set_cons_succ]
              refine wpAnyH_take (i := 21) (oi := { dst := some 77, op := Op.move (Operand.tmp 76), type := 4, pos := "outright.go:55", after := #[{ on := 20, ground := Ground.data }, { on := 18, ground := Ground.chain }, { on := 18, ground := Ground.guard }], guard := some (18, false) }) (v := ?_) rfl (by kernel_rfl) (by kernel_rfl) (by kernel_rfl) (fun _ _ _ h => h) (Or.inl ⟨by rfl, ?_⟩) (by assumption) ?_
              rotate_left
              · intro w_ hSw
                (try dsimp only at hSw)
                go_simp
                first | done | with_reducible rfl
              try simp only [Act.put, List.setIfInBounds_toArray, List.set_cons_zero, List.set_cons_succ]
              refine wpAnyH_take (i := 22) (oi := { dst := some 78, op := Op.move (Operand.tmp 9), type := 9, pos := "outright.go:55", after := #[{ on := 21, ground := Ground.guard }], guard := some (21, true) }) (v := undef) rfl (by kernel_rfl) (by kernel_rfl) (by kernel_rfl) (fun _ _ _ h => h) (Or.inr ⟨by rfl, rfl⟩) (by assumption) ?_
              try simp only [Act.put, List.setIfInBounds_toArray, List.set_cons_zero, List.set_cons_succ]
              refine wpAnyH_take (i := 23) (oi := { dst := some 79, op := Op.move (Operand.tmp 11), type := 9, pos := "outright.go:55", after := #[{ on := 21, ground := Ground.guard }], guard := some (21, true) }) (v := undef) rfl (by kernel_rfl) (by kernel_rfl) (by kernel_rfl) (fun _ _ _ h => h) (Or.inr ⟨by rfl, rfl⟩) (by assumption) ?_
              try simp only [Act.put, List.setIfInBounds_toArray, List.set_cons_zero, List.set_cons_succ]
              refine wpAnyH_take (i := 24) (oi := { dst := some 80, op := Op.binOp BinOp.eql 9 (Operand.tmp 78) (Operand.tmp 79) 9, type := 4, pos := "outright.go:55", after := #[{ on := 22, ground := Ground.data }, { on := 23, ground := Ground.data }, { on := 21, ground := Ground.guard }], guard := some (21, true) }) (v := undef) rfl (by kernel_rfl) (by kernel_rfl) (by kernel_rfl) (fun _ _ _ h => h) (Or.inr ⟨by rfl, rfl⟩) (by assumption) ?_
              try simp only [Act.put, List.setIfInBounds_toArray, List.set_cons_zero, List.set_cons_succ]
              refine wpAnyH_take (i := 25) (oi := { dst := some 81, op := Op.load 27 (Operand.tmp 4), type := 27, pos := "outright.go:55", after := #[{ on := 21, ground := Ground.guard }], guard := some (21, true) }) (v := undef) rfl (by kernel_rfl) (by kernel_rfl) (by kernel_rfl) (fun _ _ _ h => h) (Or.inr ⟨by rfl, rfl⟩) (by assumption) ?_
              try simp only [Act.put, List.setIfInBounds_toArray, List.set_cons_zero, List.set_cons_succ]
              refine wpAnyH_take (i := 26) (oi := { dst := some 82, op := Op.load 27 (Operand.tmp 5), type := 27, pos := "outright.go:55", after := #[{ on := 21, ground := Ground.guard }], guard := some (21, true) }) (v := undef) rfl (by kernel_rfl) (by kernel_rfl) (by kernel_rfl) (fun _ _ _ h => h) (Or.inr ⟨by rfl, rfl⟩) (by assumption) ?_
              try simp only [Act.put, List.setIfInBounds_toArray, List.set_cons_zero, List.set_cons_succ]
              refine wpAnyH_take (i := 27) (oi := { dst := some 83, op := Op.call { callee := Callee.value (Operand.func 19), args := #[Operand.tmp 81, Operand.tmp 82], argTypes := #[27, 27] }, type := 4, pos := "outright.go:55", after := #[{ on := 25, ground := Ground.data }, { on := 26, ground := Ground.data }, { on := 21, ground := Ground.chain }, { on := 21, ground := Ground.guard }], guard := some (21, true) }) (v := undef) rfl (by kernel_rfl) (by kernel_rfl) (by kernel_rfl) (fun _ _ _ h => h) (Or.inr ⟨by rfl, rfl⟩) (by assumption) ?_
              try simp only [Act.put, List.setIfInBounds_toArray, List.set_cons_zero, List.set_cons_succ]
              refine wpAnyH_take (i := 28) (oi := { dst := some 84, op := Op.binOp BinOp.neq 4 (Operand.tmp 80) (Operand.tmp 83) 4, type := 4, pos := "outright.go:55", after := #[{ on := 24, ground := Ground.data }, { on := 27, ground := Ground.data }, { on := 21, ground := Ground.guard }], guard := some (21, true) }) (v := undef) rfl (by kernel_rfl) (by kernel_rfl) (by kernel_rfl) (fun _ _ _ h => h) (Or.inr ⟨by rfl, rfl⟩) (by assumption) ?_
              try simp only [Act.put, List.setIfInBounds_toArray, List.set_cons_zero, List.set_cons_succ]
              refine wpAnyH_take (i := 29) (oi := { dst := some 85, op := Op.pick (Operand.tmp 77) (Operand.tmp 84) (Operand.const (Value.bool false)), type := 4, pos := "outright.go:55", after := #[{ on := 21, ground := Ground.data }, { on := 28, ground := Ground.data }, { on := 18, ground := Ground.guard }], guard := some (18, false) }) (v := ?_) rfl (by kernel_rfl) (by kernel_rfl) (by kernel_rfl) (fun _ _ _ h => h) (Or.inl ⟨by rfl, ?_⟩) (by assumption) ?_
              rotate_left
              · intro w_ hSw
                (try dsimp only at hSw)
                go_simp
                first | done | with_reducible rfl
              try simp only [Act.put, List.setIfInBounds_toArray, List.set_cons_zero, List.set_cons_succ]
              refine wpAnyH_take (i := 30) (oi := { dst := some 86, op := Op.pick (Operand.tmp 74) (Operand.const (Value.bool true)) (Operand.tmp 85), type := 4, pos := "outright.go:55", after := #[{ on := 18, ground := Ground.data }, { on := 29, ground := Ground.data }], guard := none }) (v := ?_) rfl (by kernel_rfl) (by kernel_rfl) (by kernel_rfl) (fun _ _ _ h => h) (Or.inl ⟨by rfl, ?_⟩) (by assumption) ?_
              rotate_left
              · intro w_ hSw
                (try dsimp only at hSw)
                go_simp
                first | done | with_reducible rfl
              try simp only [Act.put, List.setIfInBounds_toArray, List.set_cons_zero, List.set_cons_succ]
              refine wpAnyH_take (i := 31) (oi := { dst := some 87, op := Op.move (Operand.tmp 86), type := 4, pos := "outright.go:55", after := #[{ on := 30, ground := Ground.data }, { on := 27, ground := Ground.chain }], guard := none }) (v := ?_) rfl (by kernel_rfl) (by kernel_rfl) (by kernel_rfl) (fun _ _ _ h => h) (Or.inl ⟨by rfl, ?_⟩) (by assumption) ?_
              rotate_left
              · intro w_ hSw
                (try dsimp only at hSw)
                go_simp
                first | done | with_reducible rfl
              try simp only [Act.put, List.setIfInBounds_toArray, List.set_cons_zero, List.set_cons_succ]
              refine wpAnyH_take (i := 32) (oi := { dst := some 88, op := Op.load 27 (Operand.tmp 4), type := 27, pos := "outright.go:55", after := #[{ on := 31, ground := Ground.guard }], guard := some (31, false) }) (v := ?_) rfl (by kernel_rfl) (by kernel_rfl) (by kernel_rfl) (fun _ _ _ h => h) (Or.inl ⟨by rfl, ?_⟩) (by assumption) ?_
              rotate_left
              · intro w_ hSw
                (try dsimp only at hSw)
                go_simp
                first | done | with_reducible rfl
              try simp only [Act.put, List.setIfInBounds_toArray, List.set_cons_zero, List.set_cons_succ]
              refine wpAnyH_take (i := 34) (oi := { dst := some 90, op := Op.load 27 (Operand.tmp 5), type := 27, pos := "outright.go:55", after := #[{ on := 31, ground := Ground.guard }], guard := some (31, false) }) (v := ?_) rfl (by kernel_rfl) (by kernel_rfl) (by kernel_rfl) (fun _ _ _ h => h) (Or.inl ⟨by rfl, ?_⟩) (by assumption) ?_
              rotate_left
              · intro w_ hSw
                (try dsimp only at hSw)
                go_simp
                first | done | with_reducible rfl
              try simp only [Act.put, List.setIfInBounds_toArray, List.set_cons_zero, List.set_cons_succ]
              refine wpAnyH_take (i := 37) (oi := { dst := some 93, op := Op.load 27 (Operand.tmp 4), type := 27, pos := "outright.go:55", after := #[{ on := 31, ground := Ground.guard }], guard := some (31, false) }) (v := ?_) rfl (by kernel_rfl) (by kernel_rfl) (by kernel_rfl) (fun _ _ _ h => h) (Or.inl ⟨by rfl, ?_⟩) (by assumption) ?_
              rotate_left
              · intro w_ hSw
                (try dsimp only at hSw)
                go_simp
                first | done | with_reducible rfl
              try simp only [Act.put, List.setIfInBounds_toArray, List.set_cons_zero, List.set_cons_succ]
              refine wpAnyH_take (i := 38) (oi := { dst := some 94, op := Op.load 27 (Operand.tmp 5), type := 27, pos := "outright.go:55", after := #[{ on := 31, ground := Ground.guard }], guard := some (31, false) }) (v := ?_) rfl (by kernel_rfl) (by kernel_rfl) (by kernel_rfl) (fun _ _ _ h => h) (Or.inl ⟨by rfl, ?_⟩) (by assumption) ?_
              rotate_left
              · intro w_ hSw
                (try dsimp only at hSw)
                go_simp
                first | done | with_reducible rfl
              try simp only [Act.put, List.setIfInBounds_toArray, List.set_cons_zero, List.set_cons_succ]
              refine wpAnyH_ready (rs := [33]) (by kernel_rfl) (by simp) ?_
              refine AllReadyH.cons (o := { dst := some 89, op := Op.call { callee := Callee.value (Operand.func 10), args := #[Operand.tmp 88], argTypes := #[27] }, type := 27, pos := "outright.go:55", after := #[{ on := 32, ground := Ground.data }, { on := 31, ground := Ground.chain }, { on := 31, ground := Ground.guard }], guard := some (31, false) }) rfl (fun K hK => ?_) (AllReadyH.nil)
              go_simp
              go_at_call 10
              refine (twinR_any ka A B c1 c2 a l _ (GR.Rd.below DD_33.out (by repeat (first | exact HR.out | refine bl_drewN ?_ _ | refine bl_drew ?_ | refine bl_alloc ?_ _))) (GR.Rd.below DL_33.out (by repeat (first | exact HR.out | refine bl_drewN ?_ _ | refine bl_drew ?_ | refine bl_alloc ?_ _))) sa sl).mono ?_
              rintro e q9_33 ⟨A_33, B_33, c_33, d_33, rfl, hra, hrl, hc1, _, hb2⟩
              have TD_33 := Lib.hid hra
              have TL_33 := Lib.hid hrl
              have TC_33 := hc1
              clear hra hrl
              have hs_33 : u10.heap.size ≤ q9_33.heap.size := Below.size (bl_then (w := u10) (by repeat (first | exact HR.out | refine bl_drewN ?_ _ | refine bl_drew ?_ | refine bl_alloc ?_ _)) hb2)
              have N_ := Lib.hid (bl_then (w := u10) (by repeat (first | exact HR.out | refine bl_drewN ?_ _ | refine bl_drew ?_ | refine bl_alloc ?_ _)) hb2)
              clear hb2 HR
              have HR := N_
              clear N_
              refine hK.out _ _ ?_ (fun hHeld => ?_)
              · exact ⟨(Below.cell (p := ⟨w.heap.size, 0, none⟩) (by repeat (first | exact HR.out | refine bl_drewN ?_ _ | refine bl_drew ?_ | refine bl_alloc ?_ _)) (World.block_lt_of_cell? u10 _ K0.out)).trans K0.out, (Below.cell (p := ⟨w.heap.size, 1, none⟩) (by repeat (first | exact HR.out | refine bl_drewN ?_ _ | refine bl_drew ?_ | refine bl_alloc ?_ _)) (World.block_lt_of_cell? u10 _ K1.out)).trans K1.out, (Below.cell (p := ⟨w.heap.size, 2, none⟩) (by repeat (first | exact HR.out | refine bl_drewN ?_ _ | refine bl_drew ?_ | refine bl_alloc ?_ _)) (World.block_lt_of_cell? u10 _ K2.out)).trans K2.out, (Below.cell (p := ⟨w.heap.size + 1, 0, none⟩) (by repeat (first | exact HR.out | refine bl_drewN ?_ _ | refine bl_drew ?_ | refine bl_alloc ?_ _)) (World.block_lt_of_cell? u10 _ K3.out)).trans K3.out, (Below.cell (p := ⟨w.heap.size + 1, 1, none⟩) (by repeat (first | exact HR.out | refine bl_drewN ?_ _ | refine bl_drew ?_ | refine bl_alloc ?_ _)) (World.block_lt_of_cell? u10 _ K4.out)).trans K4.out, (Below.cell (p := ⟨w.heap.size + 1, 2, none⟩) (by repeat (first | exact HR.out | refine bl_drewN ?_ _ | refine bl_drew ?_ | refine bl_alloc ?_ _)) (World.block_lt_of_cell? u10 _ K5.out)).trans K5.out⟩
              clear hK K
              try simp only [Act.put, List.setIfInBounds_toArray, List.set_cons_zero, List.set_cons_succ]
              refine wpAnyH_ready (rs := [35]) (by kernel_rfl) (by simp) ?_
              refine AllReadyH.cons (o := { dst := some 91, op := Op.call { callee := Callee.value (Operand.func 10), args := #[Operand.tmp 90], argTypes := #[27] }, type := 27, pos := "outright.go:55", after := #[{ on := 34, ground := Ground.data }, { on := 33, ground := Ground.chain }, { on := 31, ground := Ground.guard }], guard := some (31, false) }) rfl (fun K hK => ?_) (AllReadyH.nil)
              go_simp
              go_at_call 10
              refine (twinR_any kb C D c3 c4 b m _ (GR.Rd.below DD_35.out (by repeat (first | exact HR.out | refine bl_drewN ?_ _ | refine bl_drew ?_ | refine bl_alloc ?_ _))) (GR.Rd.below DL_35.out (by repeat (first | exact HR.out | refine bl_drewN ?_ _ | refine bl_drew ?_ | refine bl_alloc ?_ _))) sb sm).mono ?_
              rintro e q9_35 ⟨A_35, B_35, c_35, d_35, rfl, hra, hrl, hc1, _, hb2⟩
              have T_ := Lib.hid (GR.Rd.below (GR.Rd.below (w := q9_33) TD_33.out (by repeat (first | exact Below.refl _ _ | refine bl_drewN ?_ _ | refine bl_drew ?_ | refine bl_alloc ?_ _))) hb2)
              clear TD_33
              have TD_33 := T_
              clear T_
              have T_ := Lib.hid (GR.Rd.below (GR.Rd.below (w := q9_33) TL_33.out (by repeat (first | exact Below.refl _ _ | refine bl_drewN ?_ _ | refine bl_drew ?_ | refine bl_alloc ?_ _))) hb2)
              clear TL_33
              have TL_33 := T_
              clear T_
              have TD_35 := Lib.hid hra
              have TL_35 := Lib.hid hrl
              have TC_35 := hc1
              clear hra hrl
              have hs_35 : u10.heap.size ≤ q9_35.heap.size := Below.size (bl_then (w := u10) (by repeat (first | exact HR.out | refine bl_drewN ?_ _ | refine bl_drew ?_ | refine bl_alloc ?_ _)) hb2)
              have N_ := Lib.hid (bl_then (w := u10) (by repeat (first | exact HR.out | refine bl_drewN ?_ _ | refine bl_drew ?_ | refine bl_alloc ?_ _)) hb2)
              clear hb2 HR
              have HR := N_
              clear N_
              refine hK.out _ _ ?_ (fun hHeld => ?_)
              · exact ⟨(Below.cell (p := ⟨w.heap.size, 0, none⟩) (by repeat (first | exact HR.out | refine bl_drewN ?_ _ | refine bl_drew ?_ | refine bl_alloc ?_ _)) (World.block_lt_of_cell? u10 _ K0.out)).trans K0.out, (Below.cell (p := ⟨w.heap.size, 1, none⟩) (by repeat (first | exact HR.out | refine bl_drewN ?_ _ | refine bl_drew ?_ | refine bl_alloc ?_ _)) (World.block_lt_of_cell? u10 _ K1.out)).trans K1.out, (Below.cell (p := ⟨w.heap.size, 2, none⟩) (by repeat (first | exact HR.out | refine bl_drewN ?_ _ | refine bl_drew ?_ | refine bl_alloc ?_ _)) (World.block_lt_of_cell? u10 _ K2.out)).trans K2.out, (Below.cell (p := ⟨w.heap.size + 1, 0, none⟩) (by repeat (first | exact HR.out | refine bl_drewN ?_ _ | refine bl_drew ?_ | refine bl_alloc ?_ _)) (World.block_lt_of_cell? u10 _ K3.out)).trans K3.out, (Below.cell (p := ⟨w.heap.size + 1, 1, none⟩) (by repeat (first | exact HR.out | refine bl_drewN ?_ _ | refine bl_drew ?_ | refine bl_alloc ?_ _)) (World.block_lt_of_cell? u10 _ K4.out)).trans K4.out, (Below.cell (p := ⟨w.heap.size + 1, 2, none⟩) (by repeat (first | exact HR.out | refine bl_drewN ?_ _ | refine bl_drew ?_ | refine bl_alloc ?_ _)) (World.block_lt_of_cell? u10 _ K5.out)).trans K5.out⟩
              clear hK K
              try simp only [Act.put, List.setIfInBounds_toArray, List.set_cons_zero, List.set_cons_succ]
              refine wpAnyH_ready (rs := [36]) (by kernel_rfl) (by simp) ?_
              refine AllReadyH.cons (o := { dst := some 92, op := Op.call { callee := Callee.value (Operand.func 28), args := #[Operand.tmp 89, Operand.tmp 91], argTypes := #[27, 27] }, type := 4, pos := "outright.go:55", after := #[{ on := 33, ground := Ground.data }, { on := 35, ground := Ground.data }, { on := 35, ground := Ground.chain }, { on := 31, ground := Ground.guard }], guard := some (31, false) }) rfl (fun K hK => ?_) (AllReadyH.nil)
              go_simp
              go_at_call 28
              refine (osameq r (GR.Rd.below (w := q9_35) TD_33.out (by repeat (first | exact Below.refl _ _ | refine bl_drewN ?_ _ | refine bl_drew ?_ | refine bl_alloc ?_ _))) (GR.Rd.below (w := q9_35) TL_33.out (by repeat (first | exact Below.refl _ _ | refine bl_drewN ?_ _ | refine bl_drew ?_ | refine bl_alloc ?_ _))) (GR.Rd.below (w := q9_35) TD_35.out (by repeat (first | exact Below.refl _ _ | refine bl_drewN ?_ _ | refine bl_drew ?_ | refine bl_alloc ?_ _))) (GR.Rd.below (w := q9_35) TL_35.out (by repeat (first | exact Below.refl _ _ | refine bl_drewN ?_ _ | refine bl_drew ?_ | refine bl_alloc ?_ _))) rfl rfl rfl rfl HRR.out).mono ?_
              rintro e q9_36 ⟨rfl, hb2⟩
              have T_ := Lib.hid (GR.Rd.below (GR.Rd.below (w := q9_35) TD_33.out (by repeat (first | exact Below.refl _ _ | refine bl_drewN ?_ _ | refine bl_drew ?_ | refine bl_alloc ?_ _))) hb2)
              clear TD_33
              have TD_33 := T_
              clear T_
              have T_ := Lib.hid (GR.Rd.below (GR.Rd.below (w := q9_35) TL_33.out (by repeat (first | exact Below.refl _ _ | refine bl_drewN ?_ _ | refine bl_drew ?_ | refine bl_alloc ?_ _))) hb2)
              clear TL_33
              have TL_33 := T_
              clear T_
              have T_ := Lib.hid (GR.Rd.below (GR.Rd.below (w := q9_35) TD_35.out (by repeat (first | exact Below.refl _ _ | refine bl_drewN ?_ _ | refine bl_drew ?_ | refine bl_alloc ?_ _))) hb2)
              clear TD_35
              have TD_35 := T_
              clear T_
              have T_ := Lib.hid (GR.Rd.below (GR.Rd.below (w := q9_35) TL_35.out (by repeat (first | exact Below.refl _ _ | refine bl_drewN ?_ _ | refine bl_drew ?_ | refine bl_alloc ?_ _))) hb2)
              clear TL_35
              have TL_35 := T_
              clear T_
              have hs_36 : u10.heap.size ≤ q9_36.heap.size := Below.size (bl_then (w := u10) (by repeat (first | exact HR.out | refine bl_drewN ?_ _ | refine bl_drew ?_ | refine bl_alloc ?_ _)) hb2)
              have N_ := Lib.hid (bl_then (w := u10) (by repeat (first | exact HR.out | refine bl_drewN ?_ _ | refine bl_drew ?_ | refine bl_alloc ?_ _)) hb2)
              clear hb2 HR
              have HR := N_
              clear N_
              refine hK.out _ _ ?_ (fun hHeld => ?_)
              · exact ⟨(Below.cell (p := ⟨w.heap.size, 0, none⟩) (by repeat (first | exact HR.out | refine bl_drewN ?_ _ | refine bl_drew ?_ | refine bl_alloc ?_ _)) (World.block_lt_of_cell? u10 _ K0.out)).trans K0.out, (Below.cell (p := ⟨w.heap.size, 1, none⟩) (by repeat (first | exact HR.out | refine bl_drewN ?_ _ | refine bl_drew ?_ | refine bl_alloc ?_ _)) (World.block_lt_of_cell? u10 _ K1.out)).trans K1.out, (Below.cell (p := ⟨w.heap.size, 2, none⟩) (by repeat (first | exact HR.out | refine bl_drewN ?_ _ | refine bl_drew ?_ | refine bl_alloc ?_ _)) (World.block_lt_of_cell? u10 _ K2.out)).trans K2.out, (Below.cell (p := ⟨w.heap.size + 1, 0, none⟩) (by repeat (first | exact HR.out | refine bl_drewN ?_ _ | refine bl_drew ?_ | refine bl_alloc ?_ _)) (World.block_lt_of_cell? u10 _ K3.out)).trans K3.out, (Below.cell (p := ⟨w.heap.size + 1, 1, none⟩) (by repeat (first | exact HR.out | refine bl_drewN ?_ _ | refine bl_drew ?_ | refine bl_alloc ?_ _)) (World.block_lt_of_cell? u10 _ K4.out)).trans K4.out, (Below.cell (p := ⟨w.heap.size + 1, 2, none⟩) (by repeat (first | exact HR.out | refine bl_drewN ?_ _ | refine bl_drew ?_ | refine bl_alloc ?_ _)) (World.block_lt_of_cell? u10 _ K5.out)).trans K5.out⟩
              clear hK K
              try simp only [Act.put, List.setIfInBounds_toArray, List.set_cons_zero, List.set_cons_succ]
              refine wpAnyH_ready (rs := [39]) (by kernel_rfl) (by simp) ?_
              refine AllReadyH.cons (o := { dst := some 95, op := Op.call { callee := Callee.value (Operand.func 19), args := #[Operand.tmp 93, Operand.tmp 94], argTypes := #[27, 27] }, type := 4, pos := "outright.go:55", after := #[{ on := 37, ground := Ground.data }, { on := 38, ground := Ground.data }, { on := 36, ground := Ground.chain }, { on := 31, ground := Ground.guard }], guard := some (31, false) }) rfl (fun K hK => ?_) (AllReadyH.nil)
              go_simp
              go_at_call 19
              refine (lsameq r (GR.Rd.below D_a.out (by repeat (first | exact HR.out | refine bl_drewN ?_ _ | refine bl_drew ?_ | refine bl_alloc ?_ _))) (GR.Rd.below D_l.out (by repeat (first | exact HR.out | refine bl_drewN ?_ _ | refine bl_drew ?_ | refine bl_alloc ?_ _))) (GR.Rd.below D_b.out (by repeat (first | exact HR.out | refine bl_drewN ?_ _ | refine bl_drew ?_ | refine bl_alloc ?_ _))) (GR.Rd.below D_m.out (by repeat (first | exact HR.out | refine bl_drewN ?_ _ | refine bl_drew ?_ | refine bl_alloc ?_ _))) rfl rfl rfl rfl HRR.out).mono ?_
              rintro e q9_39 ⟨rfl, hb2⟩
              have T_ := Lib.hid (GR.Rd.below (GR.Rd.below (w := q9_36) TD_33.out (by repeat (first | exact Below.refl _ _ | refine bl_drewN ?_ _ | refine bl_drew ?_ | refine bl_alloc ?_ _))) hb2)
              clear TD_33
              have TD_33 := T_
              clear T_
              have T_ := Lib.hid (GR.Rd.below (GR.Rd.below (w := q9_36) TL_33.out (by repeat (first | exact Below.refl _ _ | refine bl_drewN ?_ _ | refine bl_drew ?_ | refine bl_alloc ?_ _))) hb2)
              clear TL_33
              have TL_33 := T_
              clear T_
              have T_ := Lib.hid (GR.Rd.below (GR.Rd.below (w := q9_36) TD_35.out (by repeat (first | exact Below.refl _ _ | refine bl_drewN ?_ _ | refine bl_drew ?_ | refine bl_alloc ?_ _))) hb2)
              clear TD_35
              have TD_35 := T_
              clear T_
              have T_ := Lib.hid (GR.Rd.below (GR.Rd.below (w := q9_36) TL_35.out (by repeat (first | exact Below.refl _ _ | refine bl_drewN ?_ _ | refine bl_drew ?_ | refine bl_alloc ?_ _))) hb2)
              clear TL_35
              have TL_35 := T_
              clear T_
              have hs_39 : u10.heap.size ≤ q9_39.heap.size := Below.size (bl_then (w := u10) (by repeat (first | exact HR.out | refine bl_drewN ?_ _ | refine bl_drew ?_ | refine bl_alloc ?_ _)) hb2)
              have N_ := Lib.hid (bl_then (w := u10) (by repeat (first | exact HR.out | refine bl_drewN ?_ _ | refine bl_drew ?_ | refine bl_alloc ?_ _)) hb2)
              clear hb2 HR
              have HR := N_
              clear N_
              refine hK.out _ _ ?_ (fun hHeld => ?_)
              · exact ⟨(Below.cell (p := ⟨w.heap.size, 0, none⟩) (by repeat (first | exact HR.out | refine bl_drewN ?_ _ | refine bl_drew ?_ | refine bl_alloc ?_ _)) (World.block_lt_of_cell? u10 _ K0.out)).trans K0.out, (Below.cell (p := ⟨w.heap.size, 1, none⟩) (by repeat (first | exact HR.out | refine bl_drewN ?_ _ | refine bl_drew ?_ | refine bl_alloc ?_ _)) (World.block_lt_of_cell? u10 _ K1.out)).trans K1.out, (Below.cell (p := ⟨w.heap.size, 2, none⟩) (by repeat (first | exact HR.out | refine bl_drewN ?_ _ | refine bl_drew ?_ | refine bl_alloc ?_ _)) (World.block_lt_of_cell? u10 _ K2.out)).trans K2.out, (Below.cell (p := ⟨w.heap.size + 1, 0, none⟩) (by repeat (first | exact HR.out | refine bl_drewN ?_ _ | refine bl_drew ?_ | refine bl_alloc ?_ _)) (World.block_lt_of_cell? u10 _ K3.out)).trans K3.out, (Below.cell (p := ⟨w.heap.size + 1, 1, none⟩) (by repeat (first | exact HR.out | refine bl_drewN ?_ _ | refine bl_drew ?_ | refine bl_alloc ?_ _)) (World.block_lt_of_cell? u10 _ K4.out)).trans K4.out, (Below.cell (p := ⟨w.heap.size + 1, 2, none⟩) (by repeat (first | exact HR.out | refine bl_drewN ?_ _ | refine bl_drew ?_ | refine bl_alloc ?_ _)) (World.block_lt_of_cell? u10 _ K5.out)).trans K5.out⟩
              clear hK K
              try simp only [Act.put, List.setIfInBounds_toArray, List.set_cons_zero, List.set_cons_succ]
              refine wpAnyH_take (i := 40) (oi := { dst := some 96, op := Op.binOp BinOp.neq 4 (Operand.tmp 92) (Operand.tmp 95) 4, type := 4, pos := "outright.go:55", after := #[{ on := 36, ground := Ground.data }, { on := 39, ground := Ground.data }, { on := 31, ground := Ground.guard }], guard := some (31, false) }) (v := ?_) rfl (by kernel_rfl) (by kernel_rfl) (by kernel_rfl) (fun _ _ _ h => h) (Or.inl ⟨by rfl, ?_⟩) (by assumption) ?_
              rotate_left
              · intro w_ hSw
                (try dsimp only at hSw)
                go_simp
                first | done | with_reducible rfl
              try simp only [Act.put, List.setIfInBounds_toArray, List.set_cons_zero, List.set_cons_succ]
              refine wpAnyH_take (i := 41) (oi := { dst := some 97, op := Op.pick (Operand.tmp 87) (Operand.const (Value.bool true)) (Operand.tmp 96), type := 4, pos := "outright.go:55", after := #[{ on := 31, ground := Ground.data }, { on := 40, ground := Ground.data }], guard := none }) (v := ?_) rfl (by kernel_rfl) (by kernel_rfl) (by kernel_rfl) (fun _ _ _ h => h) (Or.inl ⟨by rfl, ?_⟩) (by assumption) ?_
              rotate_left
              · intro w_ hSw
                (try dsimp only at hSw)
                go_simp
                first | done | with_reducible rfl
              try simp only [Act.put, List.setIfInBounds_toArray, List.set_cons_zero, List.set_cons_succ]
              refine wpAnyH_done (by kernel_rfl) ?_ _
              go_wp2_with fail
              go_meet
              exact ⟨rfl, Lib.hid (by repeat (first | exact HR.out | refine bl_drewN ?_ _ | refine bl_drew ?_ | refine bl_alloc ?_ _))⟩
        case rest =>
          obtain ⟨rfl, BC⟩ := hcut
          obtain ⟨m11, hw_⟩ : ∃ x : World, x = wc := ⟨_, rfl⟩
          subst hw_
          have F25 := Lib.hid (F24.out.below BC.out)
          clear F24
          replace BB := Lib.hid (bl_then BB.out BC.out)
          clear BC
          have pa_0 : m11.cell? ⟨w.heap.size, 0, none⟩ = some (.string ka) := (F25.out.blk 13 rfl).cell 0
          have pa_1 : m11.cell? ⟨w.heap.size, 1, none⟩ = some (.slice A a.length c1) := (F25.out.blk 13 rfl).cell 1
          have pa_2 : m11.cell? ⟨w.heap.size, 2, none⟩ = some (.slice B l.length c2) := (F25.out.blk 13 rfl).cell 2
          have pb_0 : m11.cell? ⟨w.heap.size + 1, 0, none⟩ = some (.string kb) := (F25.out.blk 12 rfl).cell 0
          have pb_1 : m11.cell? ⟨w.heap.size + 1, 1, none⟩ = some (.slice C b.length c3) := (F25.out.blk 12 rfl).cell 1
          have pb_2 : m11.cell? ⟨w.heap.size + 1, 2, none⟩ = some (.slice D m.length c4) := (F25.out.blk 12 rfl).cell 2
          have pa_lt : w.heap.size < m11.heap.size := (F25.out.blk 13 rfl).lt
          have pb_lt : w.heap.size + 1 < m11.heap.size := (F25.out.blk 12 rfl).lt
          go_wp2_with fail
          clear pa_0 pa_1 pa_2 pa_lt pb_0 pb_1 pb_2 pb_lt
          refine (twinR_any ka A B c1 c2 a l _ (F25.out.rd 11 rfl) (F25.out.rd 10 rfl) sa sl).mono ?_
          rintro e u12 ⟨U5, V5, u5, v5, rfl, hra, hrl, _, _, hb⟩
          have F26 := Lib.hid (F25.out.below hb)
          clear F25
          have F27 := Lib.hid (F26.out.addR (hra))
          clear F26
          have F28 := Lib.hid (F27.out.addR (hrl))
          clear F27
          replace BB := Lib.hid (bl_then BB.out hb)
          clear hb
          clear hra hrl
          go_wp2_with fail
          refine (osumq s1 g1 one (F28.out.rd 1 rfl) (F28.out.rd 0 rfl) rfl rfl HR1.out HS1.out HG1.out).mono ?_
          rintro e u13 ⟨rfl, hb⟩
          have F29 := Lib.hid (F28.out.below hb)
          clear F28
          replace BB := Lib.hid (bl_then BB.out hb)
          clear hb
          have pa_0 : u13.cell? ⟨w.heap.size, 0, none⟩ = some (.string ka) := (F29.out.blk 15 rfl).cell 0
          have pa_1 : u13.cell? ⟨w.heap.size, 1, none⟩ = some (.slice A a.length c1) := (F29.out.blk 15 rfl).cell 1
          have pa_2 : u13.cell? ⟨w.heap.size, 2, none⟩ = some (.slice B l.length c2) := (F29.out.blk 15 rfl).cell 2
          have pb_0 : u13.cell? ⟨w.heap.size + 1, 0, none⟩ = some (.string kb) := (F29.out.blk 14 rfl).cell 0
          have pb_1 : u13.cell? ⟨w.heap.size + 1, 1, none⟩ = some (.slice C b.length c3) := (F29.out.blk 14 rfl).cell 1
          have pb_2 : u13.cell? ⟨w.heap.size + 1, 2, none⟩ = some (.slice D m.length c4) := (F29.out.blk 14 rfl).cell 2
          have pa_lt : w.heap.size < u13.heap.size := (F29.out.blk 15 rfl).lt
          have pb_lt : w.heap.size + 1 < u13.heap.size := (F29.out.blk 14 rfl).lt
          go_wp2_with fail
          clear pa_0 pa_1 pa_2 pa_lt pb_0 pb_1 pb_2 pb_lt
          refine (twinR_any ka A B c1 c2 a l _ (F29.out.rd 13 rfl) (F29.out.rd 12 rfl) sa sl).mono ?_
          rintro e u14 ⟨U6, V6, u6, v6, rfl, hra, hrl, _, _, hb⟩
          have F30 := Lib.hid (F29.out.below hb)
          clear F29
          have F31 := Lib.hid (F30.out.addR (hra))
          clear F30
          have F32 := Lib.hid (F31.out.addR (hrl))
          clear F31
          replace BB := Lib.hid (bl_then BB.out hb)
          clear hb
          clear hra hrl
          go_wp2_with fail
          refine (osumq t1 g2 two (F32.out.rd 1 rfl) (F32.out.rd 0 rfl) rfl rfl HR1.out HT1.out HG2.out).mono ?_
          rintro e u15 ⟨rfl, hb⟩
          have F33 := Lib.hid (F32.out.below hb)
          clear F32
          replace BB := Lib.hid (bl_then BB.out hb)
          clear hb
          obtain rfl : g1 = cutE one := by rw [← HG1.out, osumE, if_pos HX0.out]
          obtain rfl : g2 = cutE two := by rw [← HG2.out, osumE, if_pos HX0.out]
          rcases wd_cases one with ⟨hwp, hep, lp1, lp2⟩ | ⟨hwp, hep, lp1 | ⟨lp1, lp2⟩⟩
          · have cp : cutE one = 0 := hep
            have ap1 : decide (1 ≤ one) = true := decide_eq_true lp1
            have ap2 : decide (one ≤ 32) = true := decide_eq_true lp2
            have HWP := Lib.hid hwp
            have LP1 := Lib.hid lp1
            have LP2 := Lib.hid lp2
            clear hwp hep lp1 lp2
            rcases wd_cases two with ⟨hwq, heq, lq1, lq2⟩ | ⟨hwq, heq, lq1 | ⟨lq1, lq2⟩⟩
            · have cq : cutE two = 0 := heq
              have aq1 : decide (1 ≤ two) = true := decide_eq_true lq1
              have aq2 : decide (two ≤ 32) = true := decide_eq_true lq2
              have HWQ := Lib.hid hwq
              have LQ1 := Lib.hid lq1
              have LQ2 := Lib.hid lq2
              clear hwq heq lq1 lq2
              obtain rfl : s1 = ⟨#[]⟩ := by rw [← HS1.out, List.eq_nil_of_length_eq_zero HA0.out, osum_no]
              obtain rfl : t1 = ⟨#[]⟩ := by rw [← HT1.out, List.eq_nil_of_length_eq_zero HA0.out, osum_no]
              have m1 : ((⟨#[]⟩ : ByteArray).toList == ([] : List UInt8)) = true := by rw [Lib.toList_data]; rfl
              go_wp2
              all_goals exact bodyPost_ret (v := .bool true) (by simp [results, Try.results8, go_sem]) rfl ⟨rfl, BB.out⟩
            · have cq : cutE two = 1 := heq
              have aq1 : decide (1 ≤ two) = false := decide_eq_false (by omega)
              have HWQ := Lib.hid hwq
              have LQ := Lib.hid lq1
              clear hwq heq lq1
              go_wp2
              all_goals exact bodyPost_ret (v := .bool true) (by simp [results, Try.results8, go_sem]) rfl ⟨rfl, BB.out⟩
            · have cq : cutE two = 1 := heq
              have aq1 : decide (1 ≤ two) = true := decide_eq_true lq1
              have aq2 : decide (two ≤ 32) = false := decide_eq_false (by omega)
              have HWQ := Lib.hid hwq
              have LQ1 := Lib.hid lq1
              have LQ2 := Lib.hid lq2
              clear hwq heq lq1 lq2
              go_wp2
              all_goals exact bodyPost_ret (v := .bool true) (by simp [results, Try.results8, go_sem]) rfl ⟨rfl, BB.out⟩
          · have cp : cutE one = 1 := hep
            have ap1 : decide (1 ≤ one) = false := decide_eq_false (by omega)
            have HWP := Lib.hid hwp
            have LP := Lib.hid lp1
            clear hwp hep lp1
            rcases wd_cases two with ⟨hwq, heq, lq1, lq2⟩ | ⟨hwq, heq, lq1 | ⟨lq1, lq2⟩⟩
            · have cq : cutE two = 0 := heq
              have aq1 : decide (1 ≤ two) = true := decide_eq_true lq1
              have aq2 : decide (two ≤ 32) = true := decide_eq_true lq2
              have HWQ := Lib.hid hwq
              have LQ1 := Lib.hid lq1
              have LQ2 := Lib.hid lq2
              clear hwq heq lq1 lq2
              go_wp2
              all_goals exact bodyPost_ret (v := .bool true) (by simp [results, Try.results8, go_sem]) rfl ⟨rfl, BB.out⟩
            · have cq : cutE two = 1 := heq
              have aq1 : decide (1 ≤ two) = false := decide_eq_false (by omega)
              have HWQ := Lib.hid hwq
              have LQ := Lib.hid lq1
              clear hwq heq lq1
              go_wp2
              all_goals exact bodyPost_ret (v := .bool true) (by simp [results, Try.results8, go_sem]) rfl ⟨rfl, BB.out⟩
            · have cq : cutE two = 1 := heq
              have aq1 : decide (1 ≤ two) = true := decide_eq_true lq1
              have aq2 : decide (two ≤ 32) = false := decide_eq_false (by omega)
              have HWQ := Lib.hid hwq
              have LQ1 := Lib.hid lq1
              have LQ2 := Lib.hid lq2
              clear hwq heq lq1 lq2
              go_wp2
              all_goals exact bodyPost_ret (v := .bool true) (by simp [results, Try.results8, go_sem]) rfl ⟨rfl, BB.out⟩
          · have cp : cutE one = 1 := hep
            have ap1 : decide (1 ≤ one) = true := decide_eq_true lp1
            have ap2 : decide (one ≤ 32) = false := decide_eq_false (by omega)
            have HWP := Lib.hid hwp
            have LP1 := Lib.hid lp1
            have LP2 := Lib.hid lp2
            clear hwp hep lp1 lp2
            rcases wd_cases two with ⟨hwq, heq, lq1, lq2⟩ | ⟨hwq, heq, lq1 | ⟨lq1, lq2⟩⟩
            · have cq : cutE two = 0 := heq
              have aq1 : decide (1 ≤ two) = true := decide_eq_true lq1
              have aq2 : decide (two ≤ 32) = true := decide_eq_true lq2
              have HWQ := Lib.hid hwq
              have LQ1 := Lib.hid lq1
              have LQ2 := Lib.hid lq2
              clear hwq heq lq1 lq2
              go_wp2
              all_goals exact bodyPost_ret (v := .bool true) (by simp [results, Try.results8, go_sem]) rfl ⟨rfl, BB.out⟩
            · have cq : cutE two = 1 := heq
              have aq1 : decide (1 ≤ two) = false := decide_eq_false (by omega)
              have HWQ := Lib.hid hwq
              have LQ := Lib.hid lq1
              clear hwq heq lq1
              go_wp2
              all_goals exact bodyPost_ret (v := .bool true) (by simp [results, Try.results8, go_sem]) rfl ⟨rfl, BB.out⟩
            · have cq : cutE two = 1 := heq
              have aq1 : decide (1 ≤ two) = true := decide_eq_true lq1
              have aq2 : decide (two ≤ 32) = false := decide_eq_false (by omega)
              have HWQ := Lib.hid hwq
              have LQ1 := Lib.hid lq1
              have LQ2 := Lib.hid lq2
              clear hwq heq lq1 lq2
              go_wp2
              all_goals exact bodyPost_ret (v := .bool true) (by simp [results, Try.results8, go_sem]) rfl ⟨rfl, BB.out⟩
      · have HA0 : Hid (a.length ≠ 0) := Lib.hid ha0
        have HE := form_emp HFX.out HX0.out
        have w1 : (fx.toList == []) = false := by rw [HE]; exact decide_eq_false ha0
        have w1b : (fx.toList != []) = true := by rw [bne, w1]; rfl
        have w2 : ((a.length : Int) == 0) = false := by rw [beq_eq_false_iff_ne]; omega
        have w2b : decide ((a.length : Int) = 0) = false := decide_eq_false (by omega)
        have w5 : (fx.toList == fy.toList) = r := by rw [← HFX.out, ← HFY.out, form_same HX0.out ha0 HY0.out HR1.out HR2.out, HRR.out]
        have w6 : (r != r) = false := by simp
        clear ha0 HE
        go_upto_region 9 with fail
        go_cut [97] from 56 (fun s1 wx => s1 = .bool false ∧ Hid (Below u10.heap.size u10 wx))
        case first =>
          as_aux_lemma =>
            have K0 : Hid (u10.cell? ⟨w.heap.size, 0, none⟩ = some (.string ka)) := Lib.hid ((F24.out.blk 13 rfl).cell 0)
            have K1 : Hid (u10.cell? ⟨w.heap.size, 1, none⟩ = some (.slice A a.length c1)) := Lib.hid ((F24.out.blk 13 rfl).cell 1)
            have K2 : Hid (u10.cell? ⟨w.heap.size, 2, none⟩ = some (.slice B l.length c2)) := Lib.hid ((F24.out.blk 13 rfl).cell 2)
            have pa_lt : w.heap.size < u10.heap.size := (F24.out.blk 13 rfl).lt
            have K3 : Hid (u10.cell? ⟨w.heap.size + 1, 0, none⟩ = some (.string kb)) := Lib.hid ((F24.out.blk 12 rfl).cell 0)
            have K4 : Hid (u10.cell? ⟨w.heap.size + 1, 1, none⟩ = some (.slice C b.length c3)) := Lib.hid ((F24.out.blk 12 rfl).cell 1)
            have K5 : Hid (u10.cell? ⟨w.heap.size + 1, 2, none⟩ = some (.slice D m.length c4)) := Lib.hid ((F24.out.blk 12 rfl).cell 2)
            have pb_lt : w.heap.size + 1 < u10.heap.size := (F24.out.blk 12 rfl).lt
            have DD_33 := Lib.hid (F24.out.rd 11 rfl)
            have DL_33 := Lib.hid (F24.out.rd 10 rfl)
            have DD_35 := Lib.hid (F24.out.rd 9 rfl)
            have DL_35 := Lib.hid (F24.out.rd 8 rfl)
            have D_a := Lib.hid (F24.out.rd 11 rfl)
            have D_l := Lib.hid (F24.out.rd 10 rfl)
            have D_b := Lib.hid (F24.out.rd 9 rfl)
            have D_m := Lib.hid (F24.out.rd 8 rfl)
            have HR := Lib.hid (Below.refl u10.heap.size u10)
            by_cases hb0 : b.length = 0
            · have y1 : (fy.toList == []) = true := by rw [HY8.out]; exact decide_eq_true hb0
              have y2 : ((b.length : Int) == 0) = true := by rw [hb0]; rfl
              have y3 : decide ((b.length : Int) = 0) = true := decide_eq_true (by omega)
              clear hb0
              refine wp_region_held_drew (S := fun w' => w'.cell? ⟨w.heap.size, 0, none⟩ = some (.string ka) ∧ w'.cell? ⟨w.heap.size, 1, none⟩ = some (.slice A a.length c1) ∧ w'.cell? ⟨w.heap.size, 2, none⟩ = some (.slice B l.length c2) ∧ w'.cell? ⟨w.heap.size + 1, 0, none⟩ = some (.string kb) ∧ w'.cell? ⟨w.heap.size + 1, 1, none⟩ = some (.slice C b.length c3) ∧ w'.cell? ⟨w.heap.size + 1, 2, none⟩ = some (.slice D m.length c4)) (by kernel_rfl) ?_ (fun hHeld => ?_)
              · exact ⟨K0.out, K1.out, K2.out, K3.out, K4.out, K5.out⟩
              refine wpAnyH_take (i := 0) (oi := { dst := some 56, op := Op.move (Operand.tmp 9), type := 9, pos := "outright.go:55", after := #[], guard := none }) (v := ?_) rfl (by kernel_rfl) (by kernel_rfl) (by kernel_rfl) (fun _ _ _ h => h) (Or.inl ⟨by rfl, ?_⟩) (by assumption) ?_
              rotate_left
              · intro w_ hSw
                (try dsimp only at hSw)
                go_simp
                first | done | with_reducible rfl
              try simp only [Act.put, List.setIfInBounds_toArray, List.set_cons_zero, List.set_cons_succ]
              refine wpAnyH_take (i := 1) (oi := { dst := some 57, op := Op.binOp BinOp.eql 9 (Operand.tmp 56) (Operand.const (Value.string { data := #[] })) 9, type := 4, pos := "outright.go:55", after := #[{ on := 0, ground := Ground.data }], guard := none }) (v := ?_) rfl (by kernel_rfl) (by kernel_rfl) (by kernel_rfl) (fun _ _ _ h => h) (Or.inl ⟨by rfl, ?_⟩) (by assumption) ?_
              rotate_left
              · intro w_ hSw
                (try dsimp only at hSw)
                go_simp
                first | done | with_reducible rfl
              try simp only [Act.put, List.setIfInBounds_toArray, List.set_cons_zero, List.set_cons_succ]
              refine wpAnyH_take (i := 2) (oi := { dst := some 58, op := Op.fieldAddr 27 (Operand.tmp 4) 1, type := 0, pos := "outright.go:55", after := #[], guard := none }) (v := ?_) rfl (by kernel_rfl) (by kernel_rfl) (by kernel_rfl) (fun _ _ _ h => h) (Or.inl ⟨by rfl, ?_⟩) (by assumption) ?_
              rotate_left
              · intro w_ hSw
                (try dsimp only at hSw)
                go_simp
                first | done | with_reducible rfl
              try simp only [Act.put, List.setIfInBounds_toArray, List.set_cons_zero, List.set_cons_succ]
              refine wpAnyH_take (i := 3) (oi := { dst := some 59, op := Op.fieldAddr 25 (Operand.tmp 58) 0, type := 0, pos := "outright.go:55", after := #[{ on := 2, ground := Ground.data }], guard := none }) (v := ?_) rfl (by kernel_rfl) (by kernel_rfl) (by kernel_rfl) (fun _ _ _ h => h) (Or.inl ⟨by rfl, ?_⟩) (by assumption) ?_
              rotate_left
              · intro w_ hSw
                (try dsimp only at hSw)
                go_simp
                first | done | with_reducible rfl
              try simp only [Act.put, List.setIfInBounds_toArray, List.set_cons_zero, List.set_cons_succ]
              refine wpAnyH_take (i := 4) (oi := { dst := some 60, op := Op.load 22 (Operand.tmp 59), type := 22, pos := "outright.go:55", after := #[{ on := 3, ground := Ground.data }], guard := none }) (v := ?_) rfl (by kernel_rfl) (by kernel_rfl) (by kernel_rfl) (fun _ _ _ h => h) (Or.inl ⟨by rfl, ?_⟩) (by assumption) ?_
              rotate_left
              · intro w_ hSw
                (try dsimp only at hSw)
                go_simp
                first | done | with_reducible rfl
              try simp only [Act.put, List.setIfInBounds_toArray, List.set_cons_zero, List.set_cons_succ]
              refine wpAnyH_take (i := 5) (oi := { dst := some 61, op := Op.call { callee := Callee.builtin Builtin.len, args := #[Operand.tmp 60], argTypes := #[22] }, type := 3, pos := "outright.go:55", after := #[{ on := 4, ground := Ground.data }], guard := none }) (v := ?_) rfl (by kernel_rfl) (by kernel_rfl) (by kernel_rfl) (fun _ _ _ h => h) (Or.inl ⟨by rfl, ?_⟩) (by assumption) ?_
              rotate_left
              · intro w_ hSw
                (try dsimp only at hSw)
                go_simp
                first | done | with_reducible rfl
              try simp only [Act.put, List.setIfInBounds_toArray, List.set_cons_zero, List.set_cons_succ]
              refine wpAnyH_take (i := 6) (oi := { dst := some 62, op := Op.binOp BinOp.eql 3 (Operand.tmp 61) (Operand.const (Value.int IntKind.i64 0)) 3, type := 4, pos := "outright.go:55", after := #[{ on := 5, ground := Ground.data }], guard := none }) (v := ?_) rfl (by kernel_rfl) (by kernel_rfl) (by kernel_rfl) (fun _ _ _ h => h) (Or.inl ⟨by rfl, ?_⟩) (by assumption) ?_
              rotate_left
              · intro w_ hSw
                (try dsimp only at hSw)
                go_simp
                first | done | with_reducible rfl
              try simp only [Act.put, List.setIfInBounds_toArray, List.set_cons_zero, List.set_cons_succ]
              refine wpAnyH_take (i := 7) (oi := { dst := some 63, op := Op.binOp BinOp.neq 4 (Operand.tmp 57) (Operand.tmp 62) 4, type := 4, pos := "outright.go:55", after := #[{ on := 1, ground := Ground.data }, { on := 6, ground := Ground.data }], guard := none }) (v := ?_) rfl (by kernel_rfl) (by kernel_rfl) (by kernel_rfl) (fun _ _ _ h => h) (Or.inl ⟨by rfl, ?_⟩) (by assumption) ?_
              rotate_left
              · intro w_ hSw
                (try dsimp only at hSw)
                go_simp
                first | done | with_reducible rfl
              try simp only [Act.put, List.setIfInBounds_toArray, List.set_cons_zero, List.set_cons_succ]
              refine wpAnyH_take (i := 8) (oi := { dst := some 64, op := Op.move (Operand.tmp 63), type := 4, pos := "outright.go:55", after := #[{ on := 7, ground := Ground.data }], guard := none }) (v := ?_) rfl (by kernel_rfl) (by kernel_rfl) (by kernel_rfl) (fun _ _ _ h => h) (Or.inl ⟨by rfl, ?_⟩) (by assumption) ?_
              rotate_left
              · intro w_ hSw
                (try dsimp only at hSw)
                go_simp
                first | done | with_reducible rfl
              try simp only [Act.put, List.setIfInBounds_toArray, List.set_cons_zero, List.set_cons_succ]
              refine wpAnyH_take (i := 9) (oi := { dst := some 65, op := Op.move (Operand.tmp 11), type := 9, pos := "outright.go:55", after := #[{ on := 8, ground := Ground.guard }], guard := some (8, false) }) (v := ?_) rfl (by kernel_rfl) (by kernel_rfl) (by kernel_rfl) (fun _ _ _ h => h) (Or.inl ⟨by rfl, ?_⟩) (by assumption) ?_
              rotate_left
              · intro w_ hSw
                (try dsimp only at hSw)
                go_simp
                first | done | with_reducible rfl
              try simp only [Act.put, List.setIfInBounds_toArray, List.set_cons_zero, List.set_cons_succ]
              refine wpAnyH_take (i := 10) (oi := { dst := some 66, op := Op.binOp BinOp.eql 9 (Operand.tmp 65) (Operand.const (Value.string { data := #[] })) 9, type := 4, pos := "outright.go:55", after := #[{ on := 9, ground := Ground.data }, { on := 8, ground := Ground.guard }], guard := some (8, false) }) (v := ?_) rfl (by kernel_rfl) (by kernel_rfl) (by kernel_rfl) (fun _ _ _ h => h) (Or.inl ⟨by rfl, ?_⟩) (by assumption) ?_
              rotate_left
              · intro w_ hSw
                (try dsimp only at hSw)
                go_simp
                first | done | with_reducible rfl
              try simp only [Act.put, List.setIfInBounds_toArray, List.set_cons_zero, List.set_cons_succ]
              refine wpAnyH_take (i := 11) (oi := { dst := some 67, op := Op.fieldAddr 27 (Operand.tmp 5) 1, type := 0, pos := "outright.go:55", after := #[{ on := 8, ground := Ground.guard }], guard := some (8, false) }) (v := ?_) rfl (by kernel_rfl) (by kernel_rfl) (by kernel_rfl) (fun _ _ _ h => h) (Or.inl ⟨by rfl, ?_⟩) (by assumption) ?_
              rotate_left
              · intro w_ hSw
                (try dsimp only at hSw)
                go_simp
                first | done | with_reducible rfl
              try simp only [Act.put, List.setIfInBounds_toArray, List.set_cons_zero, List.set_cons_succ]
              refine wpAnyH_take (i := 12) (oi := { dst := some 68, op := Op.fieldAddr 25 (Operand.tmp 67) 0, type := 0, pos := "outright.go:55", after := #[{ on := 11, ground := Ground.data }, { on := 8, ground := Ground.guard }], guard := some (8, false) }) (v := ?_) rfl (by kernel_rfl) (by kernel_rfl) (by kernel_rfl) (fun _ _ _ h => h) (Or.inl ⟨by rfl, ?_⟩) (by assumption) ?_
              rotate_left
              · intro w_ hSw
                (try dsimp only at hSw)
                go_simp
                first | done | with_reducible rfl
              try simp only [Act.put, List.setIfInBounds_toArray, List.set_cons_zero, List.set_cons_succ]
              refine wpAnyH_take (i := 13) (oi := { dst := some 69, op := Op.load 22 (Operand.tmp 68), type := 22, pos := "outright.go:55", after := #[{ on := 12, ground := Ground.data }, { on := 8, ground := Ground.guard }], guard := some (8, false) }) (v := ?_) rfl (by kernel_rfl) (by kernel_rfl) (by kernel_rfl) (fun _ _ _ h => h) (Or.inl ⟨by rfl, ?_⟩) (by assumption) ?_
              rotate_left
              · intro w_ hSw
                (try dsimp only at hSw)
                go_simp
                first | done | with_reducible rfl
              try simp only [Act.put, List.setIfInBounds_toArray, List.set_cons_zero, List.set_cons_succ]
              refine wpAnyH_take (i := 14) (oi := { dst := some 70, op := Op.call { callee := Callee.builtin Builtin.len, args := #[Operand.tmp 69], argTypes := #[22] }, type := 3, pos := "outright.go:55", after := #[{ on := 13, ground := Ground.data }, { on := 8, ground := Ground.guard }], guard := some (8, false) }) (v := ?_) rfl (by kernel_rfl) (by kernel_rfl) (by kernel_rfl) (fun _ _ _ h => h) (Or.inl ⟨by rfl, ?_⟩) (by assumption) ?_
              rotate_left
              · intro w_ hSw
                (try dsimp only at hSw)
                go_simp
                first | done | with_reducible rfl
              try simp only [Act.put, List.setIfInBounds_toArray, List.set_cons_zero, List.set_cons_succ]
              refine wpAnyH_take (i := 15) (oi := { dst := some 71, op := Op.binOp BinOp.eql 3 (Operand.tmp 70) (Operand.const (Value.int IntKind.i64 0)) 3, type := 4, pos := "outright.go:55", after := #[{ on := 14, ground := Ground.data }, { on := 8, ground := Ground.guard }], guard := some (8, false) }) (v := ?_) rfl (by kernel_rfl) (by kernel_rfl) (by kernel_rfl) (fun _ _ _ h => h) (Or.inl ⟨by rfl, ?_⟩) (by assumption) ?_
              rotate_left
              · intro w_ hSw
                (try dsimp only at hSw)
                go_simp
                first | done | with_reducible rfl
              try simp only [Act.put, List.setIfInBounds_toArray, List.set_cons_zero, List.set_cons_succ]
              refine wpAnyH_take (i := 16) (oi := { dst := some 72, op := Op.binOp BinOp.neq 4 (Operand.tmp 66) (Operand.tmp 71) 4, type := 4, pos := "outright.go:55", after := #[{ on := 10, ground := Ground.data }, { on := 15, ground := Ground.data }, { on := 8, ground := Ground.guard }], guard := some (8, false) }) (v := ?_) rfl (by kernel_rfl) (by kernel_rfl) (by kernel_rfl) (fun _ _ _ h => h) (Or.inl ⟨by rfl, ?_⟩) (by assumption) ?_
              rotate_left
              · intro w_ hSw
                (try dsimp only at hSw)
                go_simp
                first | done | with_reducible rfl
              try simp only [Act.put, List.setIfInBounds_toArray, List.set_cons_zero, List.set_cons_succ]
              refine wpAnyH_take (i := 17) (oi := { dst := some 73, op := Op.pick (Operand.tmp 64) (Operand.const (Value.bool true)) (Operand.tmp 72), type := 4, pos := "outright.go:55", after := #[{ on := 8, ground := Ground.data }, { on := 16, ground := Ground.data }], guard := none }) (v := ?_) rfl (by kernel_rfl) (by kernel_rfl) (by kernel_rfl) (fun _ _ _ h => h) (Or.inl ⟨by rfl, ?_⟩) (by assumption) ?_
              rotate_left
              · intro w_ hSw
                (try dsimp only at hSw)
                go_simp
                first | done | with_reducible rfl
              try simp only [Act.put, List.setIfInBounds_toArray, List.set_cons_zero, List.set_cons_succ]
              refine wpAnyH_take (i := 18) (oi := { dst := some 74, op := Op.move (Operand.tmp 73), type := 4, pos := "outright.go:55", after := #[{ on := 17, ground := Ground.data }, { on := 8, ground := Ground.chain }], guard := none }) (v := ?_) rfl (by kernel_rfl) (by kernel_rfl) (by kernel_rfl) (fun _ _ _ h => h) (Or.inl ⟨by rfl, ?_⟩) (by assumption) ?_
              rotate_left
              · intro w_ hSw
                (try dsimp only at hSw)
                go_simp
                first | done | with_reducible rfl
              try simp only [Act.put, List.setIfInBounds_toArray, List.set_cons_zero, List.set_cons_succ]
              refine wpAnyH_take (i := 19) (oi := { dst := some 75, op := Op.move (Operand.tmp 9), type := 9, pos := "outright.go:55", after := #[{ on := 18, ground := Ground.guard }], guard := some (18, false) }) (v := ?_) rfl (by kernel_rfl) (by kernel_rfl) (by kernel_rfl) (fun _ _ _ h => h) (Or.inl ⟨by rfl, ?_⟩) (by assumption) ?_
              rotate_left
              · intro w_ hSw
                (try dsimp only at hSw)
                go_simp
                first | done | with_reducible rfl
              try simp only [Act.put, List.setIfInBounds_toArray, List.set_cons_zero, List.set_cons_succ]
              refine wpAnyH_take (i := 20) (oi := { dst := some 76, op := Op.binOp BinOp.neq 9 (Operand.tmp 75) (Operand.const (Value.string { data := #[] })) 9, type := 4, pos := "outright.go:55", after := #[{ on := 19, ground := Ground.data }, { on := 18, ground := Ground.guard }], guard := some (18, false) }) (v := ?_) rfl (by kernel_rfl) (by kernel_rfl) (by kernel_rfl) (fun _ _ _ h => h) (Or.inl ⟨by rfl, ?_⟩) (by assumption) ?_
              rotate_left
              · intro w_ hSw
                (try dsimp only at hSw)
                go_simp
                first | done | with_reducible rfl
              try simp only [Act.put, List.setIfInBounds_toArray, List.set_cons_zero, List.set_cons_succ]
              refine wpAnyH_take (i := 21) (oi := { dst := some 77, op := Op.move (Operand.tmp 76), type := 4, pos := "outright.go:55", after := #[{ on := 20, ground := Ground.data }, { on := 18, ground := Ground.chain }, { on := 18, ground := Ground.guard }], guard := some (18, false) }) (v := ?_) rfl (by kernel_rfl) (by kernel_rfl) (by kernel_rfl) (fun _ _ _ h => h) (Or.inl ⟨by rfl, ?_⟩) (by assumption) ?_
              rotate_left
              · intro w_ hSw
                (try dsimp only at hSw)
                go_simp
                first | done | with_reducible rfl
              try simp only [Act.put, List.setIfInBounds_toArray, List.set_cons_zero, List.set_cons_succ]
              refine wpAnyH_take (i := 22) (oi := { dst := some 78, op := Op.move (Operand.tmp 9), type := 9, pos := "outright.go:55", after := #[{ on := 21, ground := Ground.guard }], guard := some (21, true) }) (v := ?_) rfl (by kernel_rfl) (by kernel_rfl) (by kernel_rfl) (fun _ _ _ h => h) (Or.inl ⟨by rfl, ?_⟩) (by assumption) ?_
              rotate_left
              · intro w_ hSw
                (try dsimp only at hSw)
                go_simp
                first | done | with_reducible rfl
              try simp only [Act.put, List.setIfInBounds_toArray, List.set_cons_zero, List.set_cons_succ]
              refine wpAnyH_take (i := 23) (oi := { dst := some 79, op := Op.move (Operand.tmp 11), type := 9, pos := "outright.go:55", after := #[{ on := 21, ground := Ground.guard }], guard := some (21, true) }) (v := ?_) rfl (by kernel_rfl) (by kernel_rfl) (by kernel_rfl) (fun _ _ _ h => h) (Or.inl ⟨by rfl, ?_⟩) (by assumption) ?_
              rotate_left
              · intro w_ hSw
                (try dsimp only at hSw)
                go_simp
                first | done | with_reducible rfl
              try simp only [Act.put, List.setIfInBounds_toArray, List.set_cons_zero, List.set_cons_succ]
              refine wpAnyH_take (i := 24) (oi := { dst := some 80, op := Op.binOp BinOp.eql 9 (Operand.tmp 78) (Operand.tmp 79) 9, type := 4, pos := "outright.go:55", after := #[{ on := 22, ground := Ground.data }, { on := 23, ground := Ground.data }, { on := 21, ground := Ground.guard }], guard := some (21, true) }) (v := ?_) rfl (by kernel_rfl) (by kernel_rfl) (by kernel_rfl) (fun _ _ _ h => h) (Or.inl ⟨by rfl, ?_⟩) (by assumption) ?_
              rotate_left
              · intro w_ hSw
                (try dsimp only at hSw)
                go_simp
                first | done | with_reducible rfl
              try simp only [Act.put, List.setIfInBounds_toArray, List.set_cons_zero, List.set_cons_succ]
              refine wpAnyH_take (i := 25) (oi := { dst := some 81, op := Op.load 27 (Operand.tmp 4), type := 27, pos := "outright.go:55", after := #[{ on := 21, ground := Ground.guard }], guard := some (21, true) }) (v := ?_) rfl (by kernel_rfl) (by kernel_rfl) (by kernel_rfl) (fun _ _ _ h => h) (Or.inl ⟨by rfl, ?_⟩) (by assumption) ?_
              rotate_left
              · intro w_ hSw
                (try dsimp only at hSw)
                go_simp
                first | done | with_reducible rfl
              try simp only [Act.put, List.setIfInBounds_toArray, List.set_cons_zero, List.set_cons_succ]
              refine wpAnyH_take (i := 26) (oi := { dst := some 82, op := Op.load 27 (Operand.tmp 5), type := 27, pos := "outright.go:55", after := #[{ on := 21, ground := Ground.guard }], guard := some (21, true) }) (v := ?_) rfl (by kernel_rfl) (by kernel_rfl) (by kernel_rfl) (fun _ _ _ h => h) (Or.inl ⟨by rfl, ?_⟩) (by assumption) ?_
              rotate_left
              · intro w_ hSw
                (try dsimp only at hSw)
                go_simp
                first | done | with_reducible rfl
              try simp only [Act.put, List.setIfInBounds_toArray, List.set_cons_zero, List.set_cons_succ]
              refine wpAnyH_ready (rs := [27]) (by kernel_rfl) (by simp) ?_
              refine AllReadyH.cons (o := { dst := some 83, op := Op.call { callee := Callee.value (Operand.func 19), args := #[Operand.tmp 81, Operand.tmp 82], argTypes := #[27, 27] }, type := 4, pos := "outright.go:55", after := #[{ on := 25, ground := Ground.data }, { on := 26, ground := Ground.data }, { on := 21, ground := Ground.chain }, { on := 21, ground := Ground.guard }], guard := some (21, true) }) rfl (fun K hK => ?_) (AllReadyH.nil)
              go_simp
              go_at_call 19
              refine (lsameq r (GR.Rd.below D_a.out (by repeat (first | exact HR.out | refine bl_drewN ?_ _ | refine bl_drew ?_ | refine bl_alloc ?_ _))) (GR.Rd.below D_l.out (by repeat (first | exact HR.out | refine bl_drewN ?_ _ | refine bl_drew ?_ | refine bl_alloc ?_ _))) (GR.Rd.below D_b.out (by repeat (first | exact HR.out | refine bl_drewN ?_ _ | refine bl_drew ?_ | refine bl_alloc ?_ _))) (GR.Rd.below D_m.out (by repeat (first | exact HR.out | refine bl_drewN ?_ _ | refine bl_drew ?_ | refine bl_alloc ?_ _))) rfl rfl rfl rfl HRR.out).mono ?_
              rintro e q9_27 ⟨rfl, hb2⟩
              have hs_27 : u10.heap.size ≤ q9_27.heap.size := Below.size (bl_then (w := u10) (by repeat (first | exact HR.out | refine bl_drewN ?_ _ | refine bl_drew ?_ | refine bl_alloc ?_ _)) hb2)
              have N_ := Lib.hid (bl_then (w := u10) (by repeat (first | exact HR.out | refine bl_drewN ?_ _ | refine bl_drew ?_ | refine bl_alloc ?_ _)) hb2)
              clear hb2 HR
              have HR := N_
              clear N_
              refine hK.out _ _ ?_ (fun hHeld => ?_)
              · exact ⟨(Below.cell (p := ⟨w.heap.size, 0, none⟩) (by repeat (first | exact HR.out | refine bl_drewN ?_ _ | refine bl_drew ?_ | refine bl_alloc ?_ _)) (World.block_lt_of_cell? u10 _ K0.out)).trans K0.out, (Below.cell (p := ⟨w.heap.size, 1, none⟩) (by repeat (first | exact HR.out | refine bl_drewN ?_ _ | refine bl_drew ?_ | refine bl_alloc ?_ _)) (World.block_lt_of_cell? u10 _ K1.out)).trans K1.out, (Below.cell (p := ⟨w.heap.size, 2, none⟩) (by repeat (first | exact HR.out | refine bl_drewN ?_ _ | refine bl_drew ?_ | refine bl_alloc ?_ _)) (World.block_lt_of_cell? u10 _ K2.out)).trans K2.out, (Below.cell (p := ⟨w.heap.size + 1, 0, none⟩) (by repeat (first | exact HR.out | refine bl_drewN ?_ _ | refine bl_drew ?_ | refine bl_alloc ?_ _)) (World.block_lt_of_cell? u10 _ K3.out)).trans K3.out, (Below.cell (p := ⟨w.heap.size + 1, 1, none⟩) (by repeat (first | exact HR.out | refine bl_drewN ?_ _ | refine bl_drew ?_ | refine bl_alloc ?_ _)) (World.block_lt_of_cell? u10 _ K4.out)).trans K4.out, (Below.cell (p := ⟨w.heap.size + 1, 2, none⟩) (by repeat (first | exact HR.out | refine bl_drewN ?_ _ | refine bl_drew ?_ | refine bl_alloc ?_ _)) (World.block_lt_of_cell? u10 _ K5.out)).trans K5.out⟩
              clear hK K
              try simp only [Act.put, List.setIfInBounds_toArray, List.set_cons_zero, List.set_cons_succ]
              refine wpAnyH_take (i := 28) (oi := { dst := some 84, op := Op.binOp BinOp.neq 4 (Operand.tmp 80) (Operand.tmp 83) 4, type := 4, pos := "outright.go:55", after := #[{ on := 24, ground := Ground.data }, { on := 27, ground := Ground.data }, { on := 21, ground := Ground.guard }], guard := some (21, true) }) (v := ?_) rfl (by kernel_rfl) (by kernel_rfl) (by kernel_rfl) (fun _ _ _ h => h) (Or.inl ⟨by rfl, ?_⟩) (by assumption) ?_
              rotate_left
              · intro w_ hSw
                (try dsimp only at hSw)
                go_simp
                first | done | with_reducible rfl
              try simp only [Act.put, List.setIfInBounds_toArray, List.set_cons_zero, List.set_cons_succ]
              refine wpAnyH_take (i := 29) (oi := { dst := some 85, op := Op.pick (Operand.tmp 77) (Operand.tmp 84) (Operand.const (Value.bool false)), type := 4, pos := "outright.go:55", after := #[{ on := 21, ground := Ground.data }, { on := 28, ground := Ground.data }, { on := 18, ground := Ground.guard }], guard := some (18, false) }) (v := ?_) rfl (by kernel_rfl) (by kernel_rfl) (by kernel_rfl) (fun _ _ _ h => h) (Or.inl ⟨by rfl, ?_⟩) (by assumption) ?_
              rotate_left
              · intro w_ hSw
                (try dsimp only at hSw)
                go_simp
                first | done | with_reducible rfl
              try simp only [Act.put, List.setIfInBounds_toArray, List.set_cons_zero, List.set_cons_succ]
              refine wpAnyH_take (i := 30) (oi := { dst := some 86, op := Op.pick (Operand.tmp 74) (Operand.const (Value.bool true)) (Operand.tmp 85), type := 4, pos := "outright.go:55", after := #[{ on := 18, ground := Ground.data }, { on := 29, ground := Ground.data }], guard := none }) (v := ?_) rfl (by kernel_rfl) (by kernel_rfl) (by kernel_rfl) (fun _ _ _ h => h) (Or.inl ⟨by rfl, ?_⟩) (by assumption) ?_
              rotate_left
              · intro w_ hSw
                (try dsimp only at hSw)
                go_simp
                first | done | with_reducible rfl
              try simp only [Act.put, List.setIfInBounds_toArray, List.set_cons_zero, List.set_cons_succ]
              refine wpAnyH_take (i := 31) (oi := { dst := some 87, op := Op.move (Operand.tmp 86), type := 4, pos := "outright.go:55", after := #[{ on := 30, ground := Ground.data }, { on := 27, ground := Ground.chain }], guard := none }) (v := ?_) rfl (by kernel_rfl) (by kernel_rfl) (by kernel_rfl) (fun _ _ _ h => h) (Or.inl ⟨by rfl, ?_⟩) (by assumption) ?_
              rotate_left
              · intro w_ hSw
                (try dsimp only at hSw)
                go_simp
                first | done | with_reducible rfl
              try simp only [Act.put, List.setIfInBounds_toArray, List.set_cons_zero, List.set_cons_succ]
              refine wpAnyH_take (i := 32) (oi := { dst := some 88, op := Op.load 27 (Operand.tmp 4), type := 27, pos := "outright.go:55", after := #[{ on := 31, ground := Ground.guard }], guard := some (31, false) }) (v := ?_) rfl (by kernel_rfl) (by kernel_rfl) (by kernel_rfl) (fun _ _ _ h => h) (Or.inl ⟨by rfl, ?_⟩) (by assumption) ?_
              rotate_left
              · intro w_ hSw
                (try dsimp only at hSw)
                go_simp
                first | done | with_reducible rfl
              try simp only [Act.put, List.setIfInBounds_toArray, List.set_cons_zero, List.set_cons_succ]
              refine wpAnyH_take (i := 34) (oi := { dst := some 90, op := Op.load 27 (Operand.tmp 5), type := 27, pos := "outright.go:55", after := #[{ on := 31, ground := Ground.guard }], guard := some (31, false) }) (v := ?_) rfl (by kernel_rfl) (by kernel_rfl) (by kernel_rfl) (fun _ _ _ h => h) (Or.inl ⟨by rfl, ?_⟩) (by assumption) ?_
              rotate_left
              · intro w_ hSw
                (try dsimp only at hSw)
                go_simp
                first | done | with_reducible rfl
              try simp only [Act.put, List.setIfInBounds_toArray, List.set_cons_zero, List.set_cons_succ]
              refine wpAnyH_take (i := 37) (oi := { dst := some 93, op := Op.load 27 (Operand.tmp 4), type := 27, pos := "outright.go:55", after := #[{ on := 31, ground := Ground.guard }], guard := some (31, false) }) (v := ?_) rfl (by kernel_rfl) (by kernel_rfl) (by kernel_rfl) (fun _ _ _ h => h) (Or.inl ⟨by rfl, ?_⟩) (by assumption) ?_
              rotate_left
              · intro w_ hSw
                (try dsimp only at hSw)
                go_simp
                first | done | with_reducible rfl
              try simp only [Act.put, List.setIfInBounds_toArray, List.set_cons_zero, List.set_cons_succ]
              refine wpAnyH_take (i := 38) (oi := { dst := some 94, op := Op.load 27 (Operand.tmp 5), type := 27, pos := "outright.go:55", after := #[{ on := 31, ground := Ground.guard }], guard := some (31, false) }) (v := ?_) rfl (by kernel_rfl) (by kernel_rfl) (by kernel_rfl) (fun _ _ _ h => h) (Or.inl ⟨by rfl, ?_⟩) (by assumption) ?_
              rotate_left
              · intro w_ hSw
                (try dsimp only at hSw)
                go_simp
                first | done | with_reducible rfl
              try simp only [Act.put, List.setIfInBounds_toArray, List.set_cons_zero, List.set_cons_succ]
              refine wpAnyH_ready (rs := [33]) (by kernel_rfl) (by simp) ?_
              refine AllReadyH.cons (o := { dst := some 89, op := Op.call { callee := Callee.value (Operand.func 10), args := #[Operand.tmp 88], argTypes := #[27] }, type := 27, pos := "outright.go:55", after := #[{ on := 32, ground := Ground.data }, { on := 31, ground := Ground.chain }, { on := 31, ground := Ground.guard }], guard := some (31, false) }) rfl (fun K hK => ?_) (AllReadyH.nil)
              go_simp
              go_at_call 10
              refine (twinR_any ka A B c1 c2 a l _ (GR.Rd.below DD_33.out (by repeat (first | exact HR.out | refine bl_drewN ?_ _ | refine bl_drew ?_ | refine bl_alloc ?_ _))) (GR.Rd.below DL_33.out (by repeat (first | exact HR.out | refine bl_drewN ?_ _ | refine bl_drew ?_ | refine bl_alloc ?_ _))) sa sl).mono ?_
              rintro e q9_33 ⟨A_33, B_33, c_33, d_33, rfl, hra, hrl, hc1, _, hb2⟩
              have TD_33 := Lib.hid hra
              have TL_33 := Lib.hid hrl
              have TC_33 := hc1
              clear hra hrl
              have hs_33 : u10.heap.size ≤ q9_33.heap.size := Below.size (bl_then (w := u10) (by repeat (first | exact HR.out | refine bl_drewN ?_ _ | refine bl_drew ?_ | refine bl_alloc ?_ _)) hb2)
              have N_ := Lib.hid (bl_then (w := u10) (by repeat (first | exact HR.out | refine bl_drewN ?_ _ | refine bl_drew ?_ | refine bl_alloc ?_ _)) hb2)
              clear hb2 HR
              have HR := N_
              clear N_
              refine hK.out _ _ ?_ (fun hHeld => ?_)
              · exact ⟨(Below.cell (p := ⟨w.heap.size, 0, none⟩) (by repeat (first | exact HR.out | refine bl_drewN ?_ _ | refine bl_drew ?_ | refine bl_alloc ?_ _)) (World.block_lt_of_cell? u10 _ K0.out)).trans K0.out, (Below.cell (p := ⟨w.heap.size, 1, none⟩) (by repeat (first | exact HR.out | refine bl_drewN ?_ _ | refine bl_drew ?_ | refine bl_alloc ?_ _)) (World.block_lt_of_cell? u10 _ K1.out)).trans K1.out, (Below.cell (p := ⟨w.heap.size, 2, none⟩) (by repeat (first | exact HR.out | refine bl_drewN ?_ _ | refine bl_drew ?_ | refine bl_alloc ?_ _)) (World.block_lt_of_cell? u10 _ K2.out)).trans K2.out, (Below.cell (p := ⟨w.heap.size + 1, 0, none⟩) (by repeat (first | exact HR.out | refine bl_drewN ?_ _ | refine bl_drew ?_ | refine bl_alloc ?_ _)) (World.block_lt_of_cell? u10 _ K3.out)).trans K3.out, (Below.cell (p := ⟨w.heap.size + 1, 1, none⟩) (by repeat (first | exact HR.out | refine bl_drewN ?_ _ | refine bl_drew ?_ | refine bl_alloc ?_ _)) (World.block_lt_of_cell? u10 _ K4.out)).trans K4.out, (Below.cell (p := ⟨w.heap.size + 1, 2, none⟩) (by repeat (first | exact HR.out | refine bl_drewN ?_ _ | refine bl_drew ?_ | refine bl_alloc ?_ _)) (World.block_lt_of_cell? u10 _ K5.out)).trans K5.out⟩
              clear hK K
              try simp only [Act.put, List.setIfInBounds_toArray, List.set_cons_zero, List.set_cons_succ]
              refine wpAnyH_ready (rs := [35]) (by kernel_rfl) (by simp) ?_
              refine AllReadyH.cons (o := { dst := some 91, op := Op.call { callee := Callee.value (Operand.func 10), args := #[Operand.tmp 90], argTypes := #[27] }, type := 27, pos := "outright.go:55", after := #[{ on := 34, ground := Ground.data }, { on := 33, ground := Ground.chain }, { on := 31, ground := Ground.guard }], guard := some (31, false) }) rfl (fun K hK => ?_) (AllReadyH.nil)
              go_simp
              go_at_call 10
              refine (twinR_any kb C D c3 c4 b m _ (GR.Rd.below DD_35.out (by repeat (first | exact HR.out | refine bl_drewN ?_ _ | refine bl_drew ?_ | refine bl_alloc ?_ _))) (GR.Rd.below DL_35.out (by repeat (first | exact HR.out | refine bl_drewN ?_ _ | refine bl_drew ?_ | refine bl_alloc ?_ _))) sb sm).mono ?_
              rintro e q9_35 ⟨A_35, B_35, c_35, d_35, rfl, hra, hrl, hc1, _, hb2⟩
              have T_ := Lib.hid (GR.Rd.below (GR.Rd.below (w := q9_33) TD_33.out (by repeat (first | exact Below.refl _ _ | refine bl_drewN ?_ _ | refine bl_drew ?_ | refine bl_alloc ?_ _))) hb2)
              clear TD_33
              have TD_33 := T_
              clear T_
              have T_ := Lib.hid (GR.Rd.below (GR.Rd.below (w := q9_33) TL_33.out (by repeat (first | exact Below.refl _ _ | refine bl_drewN ?_ _ | refine bl_drew ?_ | refine bl_alloc ?_ _))) hb2)
              clear TL_33
              have TL_33 := T_
              clear T_
              have TD_35 := Lib.hid hra
              have TL_35 := Lib.hid hrl
              have TC_35 := hc1
              clear hra hrl
              have hs_35 : u10.heap.size ≤ q9_35.heap.size := Below.size (bl_then (w := u10) (by repeat (first | exact HR.out | refine bl_drewN ?_ _ | refine bl_drew ?_ | refine bl_alloc ?_ _)) hb2)
              have N_ := Lib.hid (bl_then (w := u10) (by repeat (first | exact HR.out | refine bl_drewN ?_ _ | refine bl_drew ?_ | refine bl_alloc ?_ _)) hb2)
              clear hb2 HR
              have HR := N_
              clear N_
              refine hK.out _ _ ?_ (fun hHeld => ?_)
              · exact ⟨(Below.cell (p := ⟨w.heap.size, 0, none⟩) (by repeat (first | exact HR.out | refine bl_drewN ?_ _ | refine bl_drew ?_ | refine bl_alloc ?_ _)) (World.block_lt_of_cell? u10 _ K0.out)).trans K0.out, (Below.cell (p := ⟨w.heap.size, 1, none⟩) (by repeat (first | exact HR.out | refine bl_drewN ?_ _ | refine bl_drew ?_ | refine bl_alloc ?_ _)) (World.block_lt_of_cell? u10 _ K1.out)).trans K1.out, (Below.cell (p := ⟨w.heap.size, 2, none⟩) (by repeat (first | exact HR.out | refine bl_drewN ?_ _ | refine bl_drew ?_ | refine bl_alloc ?_ _)) (World.block_lt_of_cell? u10 _ K2.out)).trans K2.out, (Below.cell (p := ⟨w.heap.size + 1, 0, none⟩) (by repeat (first | exact HR.out | refine bl_drewN ?_ _ | refine bl_drew ?_ | refine bl_alloc ?_ _)) (World.block_lt_of_cell? u10 _ K3.out)).trans K3.out, (Below.cell (p := ⟨w.heap.size + 1, 1, none⟩) (by repeat (first | exact HR.out | refine bl_drewN ?_ _ | refine bl_drew ?_ | refine bl_alloc ?_ _)) (World.block_lt_of_cell? u10 _ K4.out)).trans K4.out, (Below.cell (p := ⟨w.heap.size + 1, 2, none⟩) (by repeat (first | exact HR.out | refine bl_drewN ?_ _ | refine bl_drew ?_ | refine bl_alloc ?_ _)) (World.block_lt_of_cell? u10 _ K5.out)).trans K5.out⟩
              clear hK K
              try simp only [Act.put, List.setIfInBounds_toArray, List.set_cons_zero, List.set_cons_succ]
              refine wpAnyH_ready (rs := [36]) (by kernel_rfl) (by simp) ?_
              refine AllReadyH.cons (o := { dst := some 92, op := Op.call { callee := Callee.value (Operand.func 28), args := #[Operand.tmp 89, Operand.tmp 91], argTypes := #[27, 27] }, type := 4, pos := "outright.go:55", after := #[{ on := 33, ground := Ground.data }, { on := 35, ground := Ground.data }, { on := 35, ground := Ground.chain }, { on := 31, ground := Ground.guard }], guard := some (31, false) }) rfl (fun K hK => ?_) (AllReadyH.nil)
              go_simp
              go_at_call 28
              refine (osameq r (GR.Rd.below (w := q9_35) TD_33.out (by repeat (first | exact Below.refl _ _ | refine bl_drewN ?_ _ | refine bl_drew ?_ | refine bl_alloc ?_ _))) (GR.Rd.below (w := q9_35) TL_33.out (by repeat (first | exact Below.refl _ _ | refine bl_drewN ?_ _ | refine bl_drew ?_ | refine bl_alloc ?_ _))) (GR.Rd.below (w := q9_35) TD_35.out (by repeat (first | exact Below.refl _ _ | refine bl_drewN ?_ _ | refine bl_drew ?_ | refine bl_alloc ?_ _))) (GR.Rd.below (w := q9_35) TL_35.out (by repeat (first | exact Below.refl _ _ | refine bl_drewN ?_ _ | refine bl_drew ?_ | refine bl_alloc ?_ _))) rfl rfl rfl rfl HRR.out).mono ?_
              rintro e q9_36 ⟨rfl, hb2⟩
              have T_ := Lib.hid (GR.Rd.below (GR.Rd.below (w := q9_35) TD_33.out (by repeat (first | exact Below.refl _ _ | refine bl_drewN ?_ _ | refine bl_drew ?_ | refine bl_alloc ?_ _))) hb2)
              clear TD_33
              have TD_33 := T_
              clear T_
              have T_ := Lib.hid (GR.Rd.below (GR.Rd.below (w := q9_35) TL_33.out (by repeat (first | exact Below.refl _ _ | refine bl_drewN ?_ _ | refine bl_drew ?_ | refine bl_alloc ?_ _))) hb2)
              clear TL_33
              have TL_33 := T_
              clear T_
              have T_ := Lib.hid (GR.Rd.below (GR.Rd.below (w := q9_35) TD_35.out (by repeat (first | exact Below.refl _ _ | refine bl_drewN ?_ _ | refine bl_drew ?_ | refine bl_alloc ?_ _))) hb2)
              clear TD_35
              have TD_35 := T_
              clear T_
              have T_ := Lib.hid (GR.Rd.below (GR.Rd.below (w := q9_35) TL_35.out (by repeat (first | exact Below.refl _ _ | refine bl_drewN ?_ _ | refine bl_drew ?_ | refine bl_alloc ?_ _))) hb2)
              clear TL_35
              have TL_35 := T_
              clear T_
              have hs_36 : u10.heap.size ≤ q9_36.heap.size := Below.size (bl_then (w := u10) (by repeat (first | exact HR.out | refine bl_drewN ?_ _ | refine bl_drew ?_ | refine bl_alloc ?_ _)) hb2)
              have N_ := Lib.hid (bl_then (w := u10) (by repeat (first | exact HR.out | refine bl_drewN ?_ _ | refine bl_drew ?_ | refine bl_alloc ?_ _)) hb2)
              clear hb2 HR
              have HR := N_
              clear N_
              refine hK.out _ _ ?_ (fun hHeld => ?_)
              · exact ⟨(Below.cell (p := ⟨w.heap.size, 0, none⟩) (by repeat (first | exact HR.out | refine bl_drewN ?_ _ | refine bl_drew ?_ | refine bl_alloc ?_ _)) (World.block_lt_of_cell? u10 _ K0.out)).trans K0.out, (Below.cell (p := ⟨w.heap.size, 1, none⟩) (by repeat (first | exact HR.out | refine bl_drewN ?_ _ | refine bl_drew ?_ | refine bl_alloc ?_ _)) (World.block_lt_of_cell? u10 _ K1.out)).trans K1.out, (Below.cell (p := ⟨w.heap.size, 2, none⟩) (by repeat (first | exact HR.out | refine bl_drewN ?_ _ | refine bl_drew ?_ | refine bl_alloc ?_ _)) (World.block_lt_of_cell? u10 _ K2.out)).trans K2.out, (Below.cell (p := ⟨w.heap.size + 1, 0, none⟩) (by repeat (first | exact HR.out | refine bl_drewN ?_ _ | refine bl_drew ?_ | refine bl_alloc ?_ _)) (World.block_lt_of_cell? u10 _ K3.out)).trans K3.out, (Below.cell (p := ⟨w.heap.size + 1, 1, none⟩) (by repeat (first | exact HR.out | refine bl_drewN ?_ _ | refine bl_drew ?_ | refine bl_alloc ?_ _)) (World.block_lt_of_cell? u10 _ K4.out)).trans K4.out, (Below.cell (p := ⟨w.heap.size + 1, 2, none⟩) (by repeat (first | exact HR.out | refine bl_drewN ?_ _ | refine bl_drew ?_ | refine bl_alloc ?_ _)) (World.block_lt_of_cell? u10 _ K5.out)).trans K5.out⟩
              clear hK K
              try simp only [Act.put, List.setIfInBounds_toArray, List.set_cons_zero, List.set_cons_succ]
              refine wpAnyH_ready (rs := [39]) (by kernel_rfl) (by simp) ?_
              refine AllReadyH.cons (o := { dst := some 95, op := Op.call { callee := Callee.value (Operand.func 19), args := #[Operand.tmp 93, Operand.tmp 94], argTypes := #[27, 27] }, type := 4, pos := "outright.go:55", after := #[{ on := 37, ground := Ground.data }, { on := 38, ground := Ground.data }, { on := 36, ground := Ground.chain }, { on := 31, ground := Ground.guard }], guard := some (31, false) }) rfl (fun K hK => ?_) (AllReadyH.nil)
              go_simp
              go_at_call 19
              refine (lsameq r (GR.Rd.below D_a.out (by repeat (first | exact HR.out | refine bl_drewN ?_ _ | refine bl_drew ?_ | refine bl_alloc ?_ _))) (GR.Rd.below D_l.out (by repeat (first | exact HR.out | refine bl_drewN ?_ _ | refine bl_drew ?_ | refine bl_alloc ?_ _))) (GR.Rd.below D_b.out (by repeat (first | exact HR.out | refine bl_drewN ?_ _ | refine bl_drew ?_ | refine bl_alloc ?_ _))) (GR.Rd.below D_m.out (by repeat (first | exact HR.out | refine bl_drewN ?_ _ | refine bl_drew ?_ | refine bl_alloc ?_ _))) rfl rfl rfl rfl HRR.out).mono ?_
              rintro e q9_39 ⟨rfl, hb2⟩
              have T_ := Lib.hid (GR.Rd.below (GR.Rd.below (w := q9_36) TD_33.out (by repeat (first | exact Below.refl _ _ | refine bl_drewN ?_ _ | refine bl_drew ?_ | refine bl_alloc ?_ _))) hb2)
              clear TD_33
              have TD_33 := T_
              clear T_
              have T_ := Lib.hid (GR.Rd.below (GR.Rd.below (w := q9_36) TL_33.out (by repeat (first | exact Below.refl _ _ | refine bl_drewN ?_ _ | refine bl_drew ?_ | refine bl_alloc ?_ _))) hb2)
              clear TL_33
              have TL_33 := T_
              clear T_
              have T_ := Lib.hid (GR.Rd.below (GR.Rd.below (w := q9_36) TD_35.out (by repeat (first | exact Below.refl _ _ | refine bl_drewN ?_ _ | refine bl_drew ?_ | refine bl_alloc ?_ _))) hb2)
              clear TD_35
              have TD_35 := T_
              clear T_
              have T_ := Lib.hid (GR.Rd.below (GR.Rd.below (w := q9_36) TL_35.out (by repeat (first | exact Below.refl _ _ | refine bl_drewN ?_ _ | refine bl_drew ?_ | refine bl_alloc ?_ _))) hb2)
              clear TL_35
              have TL_35 := T_
              clear T_
              have hs_39 : u10.heap.size ≤ q9_39.heap.size := Below.size (bl_then (w := u10) (by repeat (first | exact HR.out | refine bl_drewN ?_ _ | refine bl_drew ?_ | refine bl_alloc ?_ _)) hb2)
              have N_ := Lib.hid (bl_then (w := u10) (by repeat (first | exact HR.out | refine bl_drewN ?_ _ | refine bl_drew ?_ | refine bl_alloc ?_ _)) hb2)
              clear hb2 HR
              have HR := N_
              clear N_
              refine hK.out _ _ ?_ (fun hHeld => ?_)
              · exact ⟨(Below.cell (p := ⟨w.heap.size, 0, none⟩) (by repeat (first | exact HR.out | refine bl_drewN ?_ _ | refine bl_drew ?_ | refine bl_alloc ?_ _)) (World.block_lt_of_cell? u10 _ K0.out)).trans K0.out, (Below.cell (p := ⟨w.heap.size, 1, none⟩) (by repeat (first | exact HR.out | refine bl_drewN ?_ _ | refine bl_drew ?_ | refine bl_alloc ?_ _)) (World.block_lt_of_cell? u10 _ K1.out)).trans K1.out, (Below.cell (p := ⟨w.heap.size, 2, none⟩) (by repeat (first | exact HR.out | refine bl_drewN ?_ _ | refine bl_drew ?_ | refine bl_alloc ?_ _)) (World.block_lt_of_cell? u10 _ K2.out)).trans K2.out, (Below.cell (p := ⟨w.heap.size + 1, 0, none⟩) (by repeat (first | exact HR.out | refine bl_drewN ?_ _ | refine bl_drew ?_ | refine bl_alloc ?_ _)) (World.block_lt_of_cell? u10 _ K3.out)).trans K3.out, (Below.cell (p := ⟨w.heap.size + 1, 1, none⟩) (by repeat (first | exact HR.out | refine bl_drewN ?_ _ | refine bl_drew ?_ | refine bl_alloc ?_ _)) (World.block_lt_of_cell? u10 _ K4.out)).trans K4.out, (Below.cell (p := ⟨w.heap.size + 1, 2, none⟩) (by repeat (first | exact HR.out | refine bl_drewN ?_ _ | refine bl_drew ?_ | refine bl_alloc ?_ _)) (World.block_lt_of_cell? u10 _ K5.out)).trans K5.out⟩
              clear hK K
              try simp only [Act.put, List.setIfInBounds_toArray, List.set_cons_zero, List.set_cons_succ]
              refine wpAnyH_take (i := 40) (oi := { dst := some 96, op := Op.binOp BinOp.neq 4 (Operand.tmp 92) (Operand.tmp 95) 4, type := 4, pos := "outright.go:55", after := #[{ on := 36, ground := Ground.data }, { on := 39, ground := Ground.data }, { on := 31, ground := Ground.guard }], guard := some (31, false) }) (v := ?_) rfl (by kernel_rfl) (by kernel_rfl) (by kernel_rfl) (fun _ _ _ h => h) (Or.inl ⟨by rfl, ?_⟩) (by assumption) ?_
              rotate_left
              · intro w_ hSw
                (try dsimp only at hSw)
                go_simp
                first | done | with_reducible rfl
              try simp only [Act.put, List.setIfInBounds_toArray, List.set_cons_zero, List.set_cons_succ]
              refine wpAnyH_take (i := 41) (oi := { dst := some 97, op := Op.pick (Operand.tmp 87) (Operand.const (Value.bool true)) (Operand.tmp 96), type := 4, pos := "outright.go:55", after := #[{ on := 31, ground := Ground.data }, { on := 40, ground := Ground.data }], guard := none }) (v := ?_) rfl (by kernel_rfl) (by kernel_rfl) (by kernel_rfl) (fun _ _ _ h => h) (Or.inl ⟨by rfl, ?_⟩) (by assumption) ?_
              rotate_left
              · intro w_ hSw
                (try dsimp only at hSw)
                go_simp
                first | done | with_reducible rfl
              try simp only [Act.put, List.setIfInBounds_toArray, List.set_cons_zero, List.set_cons_succ]
              refine wpAnyH_done (by kernel_rfl) ?_ _
              go_wp2_with fail
              go_meet
              exact ⟨rfl, Lib.hid (by repeat (first | exact HR.out | refine bl_drewN ?_ _ | refine bl_drew ?_ | refine bl_alloc ?_ _))⟩
            · have y1 : (fy.toList == []) = false := by rw [HY8.out]; exact decide_eq_false hb0
              have y2 : ((b.length : Int) == 0) = false := by rw [beq_eq_false_iff_ne]; omega
              have y3 : decide ((b.length : Int) = 0) = false := decide_eq_false (by omega)
              clear hb0
              refine wp_region_held_drew (S := fun w' => w'.cell? ⟨w.heap.size, 0, none⟩ = some (.string ka) ∧ w'.cell? ⟨w.heap.size, 1, none⟩ = some (.slice A a.length c1) ∧ w'.cell? ⟨w.heap.size, 2, none⟩ = some (.slice B l.length c2) ∧ w'.cell? ⟨w.heap.size + 1, 0, none⟩ = some (.string kb) ∧ w'.cell? ⟨w.heap.size + 1, 1, none⟩ = some (.slice C b.length c3) ∧ w'.cell? ⟨w.heap.size + 1, 2, none⟩ = some (.slice D m.length c4)) (by kernel_rfl) ?_ (fun hHeld => ?_)
              · exact ⟨K0.out, K1.out, K2.out, K3.out, K4.out, K5.out⟩
              refine wpAnyH_take (i := 0) (oi := { dst := some 56, op := Op.move (Operand.tmp 9), type := 9, pos := "outright.go:55", after := #[], guard := none }) (v := ?_) rfl (by kernel_rfl) (by kernel_rfl) (by kernel_rfl) (fun _ _ _ h => h) (Or.inl ⟨by rfl, ?_⟩) (by assumption) ?_
              rotate_left
              · intro w_ hSw
                (try dsimp only at hSw)
                go_simp
                first | done | with_reducible rfl
              try simp only [Act.put, List.setIfInBounds_toArray, List.set_cons_zero, List.set_cons_succ]
              refine wpAnyH_take (i := 1) (oi := { dst := some 57, op := Op.binOp BinOp.eql 9 (Operand.tmp 56) (Operand.const (Value.string { data := #[] })) 9, type := 4, pos := "outright.go:55", after := #[{ on := 0, ground := Ground.data }], guard := none }) (v := ?_) rfl (by kernel_rfl) (by kernel_rfl) (by kernel_rfl) (fun _ _ _ h => h) (Or.inl ⟨by rfl, ?_⟩) (by assumption) ?_
              rotate_left
              · intro w_ hSw
                (try dsimp only at hSw)
                go_simp
                first | done | with_reducible rfl
              try simp only [Act.put, List.setIfInBounds_toArray, List.set_cons_zero, List.set_cons_succ]
              refine wpAnyH_take (i := 2) (oi := { dst := some 58, op := Op.fieldAddr 27 (Operand.tmp 4) 1, type := 0, pos := "outright.go:55", after := #[], guard := none }) (v := ?_) rfl (by kernel_rfl) (by kernel_rfl) (by kernel_rfl) (fun _ _ _ h => h) (Or.inl ⟨by rfl, ?_⟩) (by assumption) ?_
              rotate_left
              · intro w_ hSw
                (try dsimp only at hSw)
                go_simp
                first | done | with_reducible rfl
              try simp only [Act.put, List.setIfInBounds_toArray, List.set_cons_zero, List.set_cons_succ]
              refine wpAnyH_take (i := 3) (oi := { dst := some 59, op := Op.fieldAddr 25 (Operand.tmp 58) 0, type := 0, pos := "outright.go:55", after := #[{ on := 2, ground := Ground.data }], guard := none }) (v := ?_) rfl (by kernel_rfl) (by kernel_rfl) (by kernel_rfl) (fun _ _ _ h => h) (Or.inl ⟨by rfl, ?_⟩) (by assumption) ?_
              rotate_left
              · intro w_ hSw
                (try dsimp only at hSw)
                go_simp
                first | done | with_reducible rfl
              try simp only [Act.put, List.setIfInBounds_toArray, List.set_cons_zero, List.set_cons_succ]
              refine wpAnyH_take (i := 4) (oi := { dst := some 60, op := Op.load 22 (Operand.tmp 59), type := 22, pos := "outright.go:55", after := #[{ on := 3, ground := Ground.data }], guard := none }) (v := ?_) rfl (by kernel_rfl) (by kernel_rfl) (by kernel_rfl) (fun _ _ _ h => h) (Or.inl ⟨by rfl, ?_⟩) (by assumption) ?_
              rotate_left
              · intro w_ hSw
                (try dsimp only at hSw)
                go_simp
                first | done | with_reducible rfl
              try simp only [Act.put, List.setIfInBounds_toArray, List.set_cons_zero, List.set_cons_succ]
              refine wpAnyH_take (i := 5) (oi := { dst := some 61, op := Op.call { callee := Callee.builtin Builtin.len, args := #[Operand.tmp 60], argTypes := #[22] }, type := 3, pos := "outright.go:55", after := #[{ on := 4, ground := Ground.data }], guard := none }) (v := ?_) rfl (by kernel_rfl) (by kernel_rfl) (by kernel_rfl) (fun _ _ _ h => h) (Or.inl ⟨by rfl, ?_⟩) (by assumption) ?_
              rotate_left
              · intro w_ hSw
                (try dsimp only at hSw)
                go_simp
                first | done | with_reducible rfl
              try simp only [Act.put, List.setIfInBounds_toArray, List.set_cons_zero, List.set_cons_succ]
              refine wpAnyH_take (i := 6) (oi := { dst := some 62, op := Op.binOp BinOp.eql 3 (Operand.tmp 61) (Operand.const (Value.int IntKind.i64 0)) 3, type := 4, pos := "outright.go:55", after := #[{ on := 5, ground := Ground.data }], guard := none }) (v := ?_) rfl (by kernel_rfl) (by kernel_rfl) (by kernel_rfl) (fun _ _ _ h => h) (Or.inl ⟨by rfl, ?_⟩) (by assumption) ?_
              rotate_left
              · intro w_ hSw
                (try dsimp only at hSw)
                go_simp
                first | done | with_reducible rfl
              try simp only [Act.put, List.setIfInBounds_toArray, List.set_cons_zero, List.set_cons_succ]
              refine wpAnyH_take (i := 7) (oi := { dst := some 63, op := Op.binOp BinOp.neq 4 (Operand.tmp 57) (Operand.tmp 62) 4, type := 4, pos := "outright.go:55", after := #[{ on := 1, ground := Ground.data }, { on := 6, ground := Ground.data }], guard := none }) (v := ?_) rfl (by kernel_rfl) (by kernel_rfl) (by kernel_rfl) (fun _ _ _ h => h) (Or.inl ⟨by rfl, ?_⟩) (by assumption) ?_
              rotate_left
              · intro w_ hSw
                (try dsimp only at hSw)
                go_simp
                first | done | with_reducible rfl
              try simp only [Act.put, List.setIfInBounds_toArray, List.set_cons_zero, List.set_cons_succ]
              refine wpAnyH_take (i := 8) (oi := { dst := some 64, op := Op.move (Operand.tmp 63), type := 4, pos := "outright.go:55", after := #[{ on := 7, ground := Ground.data }], guard := none }) (v := ?_) rfl (by kernel_rfl) (by kernel_rfl) (by kernel_rfl) (fun _ _ _ h => h) (Or.inl ⟨by rfl, ?_⟩) (by assumption) ?_
              rotate_left
              · intro w_ hSw
                (try dsimp only at hSw)
                go_simp
                first | done | with_reducible rfl
              try simp only [Act.put, List.setIfInBounds_toArray, List.set_cons_zero, List.set_cons_succ]
              refine wpAnyH_take (i := 9) (oi := { dst := some 65, op := Op.move (Operand.tmp 11), type := 9, pos := "outright.go:55", after := #[{ on := 8, ground := Ground.guard }], guard := some (8, false) }) (v := ?_) rfl (by kernel_rfl) (by kernel_rfl) (by kernel_rfl) (fun _ _ _ h => h) (Or.inl ⟨by rfl, ?_⟩) (by assumption) ?_
              rotate_left
              · intro w_ hSw
                (try dsimp only at hSw)
                go_simp
                first | done | with_reducible rfl
              try simp only [Act.put, List.setIfInBounds_toArray, List.set_cons_zero, List.set_cons_succ]
              refine wpAnyH_take (i := 10) (oi := { dst := some 66, op := Op.binOp BinOp.eql 9 (Operand.tmp 65) (Operand.const (Value.string { data := #[] })) 9, type := 4, pos := "outright.go:55", after := #[{ on := 9, ground := Ground.data }, { on := 8, ground := Ground.guard }], guard := some (8, false) }) (v := ?_) rfl (by kernel_rfl) (by kernel_rfl) (by kernel_rfl) (fun _ _ _ h => h) (Or.inl ⟨by rfl, ?_⟩) (by assumption) ?_
              rotate_left
              · intro w_ hSw
                (try dsimp only at hSw)
                go_simp
                first | done | with_reducible rfl
              try simp only [Act.put, List.setIfInBounds_toArray, List.set_cons_zero, List.set_cons_succ]
              refine wpAnyH_take (i := 11) (oi := { dst := some 67, op := Op.fieldAddr 27 (Operand.tmp 5) 1, type := 0, pos := "outright.go:55", after := #[{ on := 8, ground := Ground.guard }], guard := some (8, false) }) (v := ?_) rfl (by kernel_rfl) (by kernel_rfl) (by kernel_rfl) (fun _ _ _ h => h) (Or.inl ⟨by rfl, ?_⟩) (by assumption) ?_
              rotate_left
              · intro w_ hSw
                (try dsimp only at hSw)
                go_simp
                first | done | with_reducible rfl
              try simp only [Act.put, List.setIfInBounds_toArray, List.set_cons_zero, List.set_cons_succ]
              refine wpAnyH_take (i := 12) (oi := { dst := some 68, op := Op.fieldAddr 25 (Operand.tmp 67) 0, type := 0, pos := "outright.go:55", after := #[{ on := 11, ground := Ground.data }, { on := 8, ground := Ground.guard }], guard := some (8, false) }) (v := ?_) rfl (by kernel_rfl) (by kernel_rfl) (by kernel_rfl) (fun _ _ _ h => h) (Or.inl ⟨by rfl, ?_⟩) (by assumption) ?_
              rotate_left
              · intro w_ hSw
                (try dsimp only at hSw)
                go_simp
                first | done | with_reducible rfl
              try simp only [Act.put, List.setIfInBounds_toArray, List.set_cons_zero, List.set_cons_succ]
              refine wpAnyH_take (i := 13) (oi := { dst := some 69, op := Op.load 22 (Operand.tmp 68), type := 22, pos := "outright.go:55", after := #[{ on := 12, ground := Ground.data }, { on := 8, ground := Ground.guard }], guard := some (8, false) }) (v := ?_) rfl (by kernel_rfl) (by kernel_rfl) (by kernel_rfl) (fun _ _ _ h => h) (Or.inl ⟨by rfl, ?_⟩) (by assumption) ?_
              rotate_left
              · intro w_ hSw
                (try dsimp only at hSw)
                go_simp
                first | done | with_reducible rfl
              try simp only [Act.put, List.setIfInBounds_toArray, List.set_cons_zero, List.set_cons_succ]
              refine wpAnyH_take (i := 14) (oi := { dst := some 70, op := Op.call { callee := Callee.builtin Builtin.len, args := #[Operand.tmp 69], argTypes := #[22] }, type := 3, pos := "outright.go:55", after := #[{ on := 13, ground := Ground.data }, { on := 8, ground := Ground.guard }], guard := some (8, false) }) (v := ?_) rfl (by kernel_rfl) (by kernel_rfl) (by kernel_rfl) (fun _ _ _ h => h) (Or.inl ⟨by rfl, ?_⟩) (by assumption) ?_
              rotate_left
              · intro w_ hSw
                (try dsimp only at hSw)
                go_simp
                first | done | with_reducible rfl
              try simp only [Act.put, List.setIfInBounds_toArray, List.set_cons_zero, List.set_cons_succ]
              refine wpAnyH_take (i := 15) (oi := { dst := some 71, op := Op.binOp BinOp.eql 3 (Operand.tmp 70) (Operand.const (Value.int IntKind.i64 0)) 3, type := 4, pos := "outright.go:55", after := #[{ on := 14, ground := Ground.data }, { on := 8, ground := Ground.guard }], guard := some (8, false) }) (v := ?_) rfl (by kernel_rfl) (by kernel_rfl) (by kernel_rfl) (fun _ _ _ h => h) (Or.inl ⟨by rfl, ?_⟩) (by assumption) ?_
              rotate_left
              · intro w_ hSw
                (try dsimp only at hSw)
                go_simp
                first | done | with_reducible rfl
              try simp only [Act.put, List.setIfInBounds_toArray, List.set_cons_zero, List.set_cons_succ]
              refine wpAnyH_take (i := 16) (oi := { dst := some 72, op := Op.binOp BinOp.neq 4 (Operand.tmp 66) (Operand.tmp 71) 4, type := 4, pos := "outright.go:55", after := #[{ on := 10, ground := Ground.data }, { on := 15, ground := Ground.data }, { on := 8, ground := Ground.guard }], guard := some (8, false) }) (v := ?_) rfl (by kernel_rfl) (by kernel_rfl) (by kernel_rfl) (fun _ _ _ h => h) (Or.inl ⟨by rfl, ?_⟩) (by assumption) ?_
              rotate_left
              · intro w_ hSw
                (try dsimp only at hSw)
                go_simp
                first | done | with_reducible rfl
              try simp only [Act.put, List.setIfInBounds_toArray, List.set_cons_zero, List.set_cons_succ]
              refine wpAnyH_take (i := 17) (oi := { dst := some 73, op := Op.pick (Operand.tmp 64) (Operand.const (Value.bool true)) (Operand.tmp 72), type := 4, pos := "outright.go:55", after := #[{ on := 8, ground := Ground.data }, { on := 16, ground := Ground.data }], guard := none }) (v := ?_) rfl (by kernel_rfl) (by kernel_rfl) (by kernel_rfl) (fun _ _ _ h => h) (Or.inl ⟨by rfl, ?_⟩) (by assumption) ?_
              rotate_left
              · intro w_ hSw
                (try dsimp only at hSw)
                go_simp
                first | done | with_reducible rfl
              try simp only [Act.put, List.setIfInBounds_toArray, List.set_cons_zero, List.set_cons_succ]
              refine wpAnyH_take (i := 18) (oi := { dst := some 74, op := Op.move (Operand.tmp 73), type := 4, pos := "outright.go:55", after := #[{ on := 17, ground := Ground.data }, { on := 8, ground := Ground.chain }], guard := none }) (v := ?_) rfl (by kernel_rfl) (by kernel_rfl) (by kernel_rfl) (fun _ _ _ h => h) (Or.inl ⟨by rfl, ?_⟩) (by assumption) ?_
              rotate_left
              · intro w_ hSw
                (try dsimp only at hSw)
                go_simp
                first | done | with_reducible rfl
              try simp only [Act.put, List.setIfInBounds_toArray, List.set_cons_zero, List.set_cons_succ]
              refine wpAnyH_take (i := 19) (oi := { dst := some 75, op := Op.move (Operand.tmp 9), type := 9, pos := "outright.go:55", after := #[{ on := 18, ground := Ground.guard }], guard := some (18, false) }) (v := ?_) rfl (by kernel_rfl) (by kernel_rfl) (by kernel_rfl) (fun _ _ _ h => h) (Or.inl ⟨by rfl, ?_⟩) (by assumption) ?_
              rotate_left
              · intro w_ hSw
                (try dsimp only at hSw)
                go_simp
                first | done | with_reducible rfl
              try simp only [Act.put, List.setIfInBounds_toArray, List.set_cons_zero, List.set_cons_succ]
              refine wpAnyH_take (i := 20) (oi := { dst := some 76, op := Op.binOp BinOp.neq 9 (Operand.tmp 75) (Operand.const (Value.string { data := #[] })) 9, type := 4, pos := "outright.go:55", after := #[{ on := 19, ground := Ground.data }, { on := 18, ground := Ground.guard }], guard := some (18, false) }) (v := ?_) rfl (by kernel_rfl) (by kernel_rfl) (by kernel_rfl) (fun _ _ _ h => h) (Or.inl ⟨by rfl, ?_⟩) (by assumption) ?_
              rotate_left
              · intro w_ hSw
                (try dsimp only at hSw)
                go_simp
                first | done | with_reducible rfl
              try simp only [Act.put, List.setIfInBounds_toArray, List.set_cons_zero, List.set_cons_succ]
              refine wpAnyH_take (i := 21) (oi := { dst := some 77, op := Op.move (Operand.tmp 76), type := 4, pos := "outright.go:55", after := #[{ on := 20, ground := Ground.data }, { on := 18, ground := Ground.chain }, { on := 18, ground := Ground.guard }], guard := some (18, false) }) (v := ?_) rfl (by kernel_rfl) (by kernel_rfl) (by kernel_rfl) (fun _ _ _ h => h) (Or.inl ⟨by rfl, ?_⟩) (by assumption) ?_
              rotate_left
              · intro w_ hSw
                (try dsimp only at hSw)
                go_simp
                first | done | with_reducible rfl
              try simp only [Act.put, List.setIfInBounds_toArray, List.set_cons_zero, List.set_cons_succ]
              refine wpAnyH_take (i := 22) (oi := { dst := some 78, op := Op.move (Operand.tmp 9), type := 9, pos := "outright.go:55", after := #[{ on := 21, ground := Ground.guard }], guard := some (21, true) }) (v := ?_) rfl (by kernel_rfl) (by kernel_rfl) (by kernel_rfl) (fun _ _ _ h => h) (Or.inl ⟨by rfl, ?_⟩) (by assumption) ?_
              rotate_left
              · intro w_ hSw
                (try dsimp only at hSw)
                go_simp
                first | done | with_reducible rfl
              try simp only [Act.put, List.setIfInBounds_toArray, List.set_cons_zero, List.set_cons_succ]
              refine wpAnyH_take (i := 23) (oi := { dst := some 79, op := Op.move (Operand.tmp 11), type := 9, pos := "outright.go:55", after := #[{ on := 21, ground := Ground.guard }], guard := some (21, true) }) (v := ?_) rfl (by kernel_rfl) (by kernel_rfl) (by kernel_rfl) (fun _ _ _ h => h) (Or.inl ⟨by rfl, ?_⟩) (by assumption) ?_
              rotate_left
              · intro w_ hSw
                (try dsimp only at hSw)
                go_simp
                first | done | with_reducible rfl
              try simp only [Act.put, List.setIfInBounds_toArray, List.set_cons_zero, List.set_cons_succ]
              refine wpAnyH_take (i := 24) (oi := { dst := some 80, op := Op.binOp BinOp.eql 9 (Operand.tmp 78) (Operand.tmp 79) 9, type := 4, pos := "outright.go:55", after := #[{ on := 22, ground := Ground.data }, { on := 23, ground := Ground.data }, { on := 21, ground := Ground.guard }], guard := some (21, true) }) (v := ?_) rfl (by kernel_rfl) (by kernel_rfl) (by kernel_rfl) (fun _ _ _ h => h) (Or.inl ⟨by rfl, ?_⟩) (by assumption) ?_
              rotate_left
              · intro w_ hSw
                (try dsimp only at hSw)
                go_simp
                first | done | with_reducible rfl
              try simp only [Act.put, List.setIfInBounds_toArray, List.set_cons_zero, List.set_cons_succ]
              refine wpAnyH_take (i := 25) (oi := { dst := some 81, op := Op.load 27 (Operand.tmp 4), type := 27, pos := "outright.go:55", after := #[{ on := 21, ground := Ground.guard }], guard := some (21, true) }) (v := ?_) rfl (by kernel_rfl) (by kernel_rfl) (by kernel_rfl) (fun _ _ _ h => h) (Or.inl ⟨by rfl, ?_⟩) (by assumption) ?_
              rotate_left
              · intro w_ hSw
                (try dsimp only at hSw)
                go_simp
                first | done | with_reducible rfl
              try simp only [Act.put, List.setIfInBounds_toArray, List.set_cons_zero, List.set_cons_succ]
              refine wpAnyH_take (i := 26) (oi := { dst := some 82, op := Op.load 27 (Operand.tmp 5), type := 27, pos := "outright.go:55", after := #[{ on := 21, ground := Ground.guard }], guard := some (21, true) }) (v := ?_) rfl (by kernel_rfl) (by kernel_rfl) (by kernel_rfl) (fun _ _ _ h => h) (Or.inl ⟨by rfl, ?_⟩) (by assumption) ?_
              rotate_left
              · intro w_ hSw
                (try dsimp only at hSw)
                go_simp
                first | done | with_reducible rfl
              try simp only [Act.put, List.setIfInBounds_toArray, List.set_cons_zero, List.set_cons_succ]
              refine wpAnyH_ready (rs := [27]) (by kernel_rfl) (by simp) ?_
              refine AllReadyH.cons (o := { dst := some 83, op := Op.call { callee := Callee.value (Operand.func 19), args := #[Operand.tmp 81, Operand.tmp 82], argTypes := #[27, 27] }, type := 4, pos := "outright.go:55", after := #[{ on := 25, ground := Ground.data }, { on := 26, ground := Ground.data }, { on := 21, ground := Ground.chain }, { on := 21, ground := Ground.guard }], guard := some (21, true) }) rfl (fun K hK => ?_) (AllReadyH.nil)
              go_simp
              go_at_call 19
              refine (lsameq r (GR.Rd.below D_a.out (by repeat (first | exact HR.out | refine bl_drewN ?_ _ | refine bl_drew ?_ | refine bl_alloc ?_ _))) (GR.Rd.below D_l.out (by repeat (first | exact HR.out | refine bl_drewN ?_ _ | refine bl_drew ?_ | refine bl_alloc ?_ _))) (GR.Rd.below D_b.out (by repeat (first | exact HR.out | refine bl_drewN ?_ _ | refine bl_drew ?_ | refine bl_alloc ?_ _))) (GR.Rd.below D_m.out (by repeat (first | exact HR.out | refine bl_drewN ?_ _ | refine bl_drew ?_ | refine bl_alloc ?_ _))) rfl rfl rfl rfl HRR.out).mono ?_
              rintro e q9_27 ⟨rfl, hb2⟩
              have hs_27 : u10.heap.size ≤ q9_27.heap.size := Below.size (bl_then (w := u10) (by repeat (first | exact HR.out | refine bl_drewN ?_ _ | refine bl_drew ?_ | refine bl_alloc ?_ _)) hb2)
              have N_ := Lib.hid (bl_then (w := u10) (by repeat (first | exact HR.out | refine bl_drewN ?_ _ | refine bl_drew ?_ | refine bl_alloc ?_ _)) hb2)
              clear hb2 HR
              have HR := N_
              clear N_
              refine hK.out _ _ ?_ (fun hHeld => ?_)
              · exact ⟨(Below.cell (p := ⟨w.heap.size, 0, none⟩) (by repeat (first | exact HR.out | refine bl_drewN ?_ _ | refine bl_drew ?_ | refine bl_alloc ?_ _)) (World.block_lt_of_cell? u10 _ K0.out)).trans K0.out, (Below.cell (p := ⟨w.heap.size, 1, none⟩) (by repeat (first | exact HR.out | refine bl_drewN ?_ _ | refine bl_drew ?_ | refine bl_alloc ?_ _)) (World.block_lt_of_cell? u10 _ K1.out)).trans K1.out, (Below.cell (p := ⟨w.heap.size, 2, none⟩) (by repeat (first | exact HR.out | refine bl_drewN ?_ _ | refine bl_drew ?_ | refine bl_alloc ?_ _)) (World.block_lt_of_cell? u10 _ K2.out)).trans K2.out, (Below.cell (p := ⟨w.heap.size + 1, 0, none⟩) (by repeat (first | exact HR.out | refine bl_drewN ?_ _ | refine bl_drew ?_ | refine bl_alloc ?_ _)) (World.block_lt_of_cell? u10 _ K3.out)).trans K3.out, (Below.cell (p := ⟨w.heap.size + 1, 1, none⟩) (by repeat (first | exact HR.out | refine bl_drewN ?_ _ | refine bl_drew ?_ | refine bl_alloc ?_ _)) (World.block_lt_of_cell? u10 _ K4.out)).trans K4.out, (Below.cell (p := ⟨w.heap.size + 1, 2, none⟩) (by repeat (first | exact HR.out | refine bl_drewN ?_ _ | refine bl_drew ?_ | refine bl_alloc ?_ _)) (World.block_lt_of_cell? u10 _ K5.out)).trans K5.out⟩
              clear hK K
              try simp only [Act.put, List.setIfInBounds_toArray, List.set_cons_zero, List.set_cons_succ]
              refine wpAnyH_take (i := 28) (oi := { dst := some 84, op := Op.binOp BinOp.neq 4 (Operand.tmp 80) (Operand.tmp 83) 4, type := 4, pos := "outright.go:55", after := #[{ on := 24, ground := Ground.data }, { on := 27, ground := Ground.data }, { on := 21, ground := Ground.guard }], guard := some (21, true) }) (v := ?_) rfl (by kernel_rfl) (by kernel_rfl) (by kernel_rfl) (fun _ _ _ h => h) (Or.inl ⟨by rfl, ?_⟩) (by assumption) ?_
              rotate_left
              · intro w_ hSw
                (try dsimp only at hSw)
                go_simp
                first | done | with_reducible rfl
              try simp only [Act.put, List.setIfInBounds_toArray, List.set_cons_zero, List.set_cons_succ]
              refine wpAnyH_take (i := 29) (oi := { dst := some 85, op := Op.pick (Operand.tmp 77) (Operand.tmp 84) (Operand.const (Value.bool false)), type := 4, pos := "outright.go:55", after := #[{ on := 21, ground := Ground.data }, { on := 28, ground := Ground.data }, { on := 18, ground := Ground.guard }], guard := some (18, false) }) (v := ?_) rfl (by kernel_rfl) (by kernel_rfl) (by kernel_rfl) (fun _ _ _ h => h) (Or.inl ⟨by rfl, ?_⟩) (by assumption) ?_
              rotate_left
              · intro w_ hSw
                (try dsimp only at hSw)
                go_simp
                first | done | with_reducible rfl
              try simp only [Act.put, List.setIfInBounds_toArray, List.set_cons_zero, List.set_cons_succ]
              refine wpAnyH_take (i := 30) (oi := { dst := some 86, op := Op.pick (Operand.tmp 74) (Operand.const (Value.bool true)) (Operand.tmp 85), type := 4, pos := "outright.go:55", after := #[{ on := 18, ground := Ground.data }, { on := 29, ground := Ground.data }], guard := none }) (v := ?_) rfl (by kernel_rfl) (by kernel_rfl) (by kernel_rfl) (fun _ _ _ h => h) (Or.inl ⟨by rfl, ?_⟩) (by assumption) ?_
              rotate_left
              · intro w_ hSw
                (try dsimp only at hSw)
                go_simp
                first | done | with_reducible rfl
              try simp only [Act.put, List.setIfInBounds_toArray, List.set_cons_zero, List.set_cons_succ]
              refine wpAnyH_take (i := 31) (oi := { dst := some 87, op := Op.move (Operand.tmp 86), type := 4, pos := "outright.go:55", after := #[{ on := 30, ground := Ground.data }, { on := 27, ground := Ground.chain }], guard := none }) (v := ?_) rfl (by kernel_rfl) (by kernel_rfl) (by kernel_rfl) (fun _ _ _ h => h) (Or.inl ⟨by rfl, ?_⟩) (by assumption) ?_
              rotate_left
              · intro w_ hSw
                (try dsimp only at hSw)
                go_simp
                first | done | with_reducible rfl
              try simp only [Act.put, List.setIfInBounds_toArray, List.set_cons_zero, List.set_cons_succ]
              refine wpAnyH_take (i := 32) (oi := { dst := some 88, op := Op.load 27 (Operand.tmp 4), type := 27, pos := "outright.go:55", after := #[{ on := 31, ground := Ground.guard }], guard := some (31, false) }) (v := ?_) rfl (by kernel_rfl) (by kernel_rfl) (by kernel_rfl) (fun _ _ _ h => h) (Or.inl ⟨by rfl, ?_⟩) (by assumption) ?_
              rotate_left
              · intro w_ hSw
                (try dsimp only at hSw)
                go_simp
                first | done | with_reducible rfl
              try simp only [Act.put, List.setIfInBounds_toArray, List.set_cons_zero, List.set_cons_succ]
              refine wpAnyH_take (i := 34) (oi := { dst := some 90, op := Op.load 27 (Operand.tmp 5), type := 27, pos := "outright.go:55", after := #[{ on := 31, ground := Ground.guard }], guard := some (31, false) }) (v := ?_) rfl (by kernel_rfl) (by kernel_rfl) (by kernel_rfl) (fun _ _ _ h => h) (Or.inl ⟨by rfl, ?_⟩) (by assumption) ?_
              rotate_left
              · intro w_ hSw
                (try dsimp only at hSw)
                go_simp
                first | done | with_reducible rfl
              try simp only [Act.put, List.setIfInBounds_toArray, List.set_cons_zero, List.set_cons_succ]
              refine wpAnyH_take (i := 37) (oi := { dst := some 93, op := Op.load 27 (Operand.tmp 4), type := 27, pos := "outright.go:55", after := #[{ on := 31, ground := Ground.guard }], guard := some (31, false) }) (v := ?_) rfl (by kernel_rfl) (by kernel_rfl) (by kernel_rfl) (fun _ _ _ h => h) (Or.inl ⟨by rfl, ?_⟩) (by assumption) ?_
              rotate_left
              · intro w_ hSw
                (try dsimp only at hSw)
                go_simp
                first | done | with_reducible rfl
              try simp only [Act.put, List.setIfInBounds_toArray, List.set_cons_zero, List.set_cons_succ]
              refine wpAnyH_take (i := 38) (oi := { dst := some 94, op := Op.load 27 (Operand.tmp 5), type := 27, pos := "outright.go:55", after := #[{ on := 31, ground := Ground.guard }], guard := some (31, false) }) (v := ?_) rfl (by kernel_rfl) (by kernel_rfl) (by kernel_rfl) (fun _ _ _ h => h) (Or.inl ⟨by rfl, ?_⟩) (by assumption) ?_
              rotate_left
              · intro w_ hSw
                (try dsimp only at hSw)
                go_simp
                first | done | with_reducible rfl
              try simp only [Act.put, List.setIfInBounds_toArray, List.set_cons_zero, List.set_cons_succ]
              refine wpAnyH_ready (rs := [33]) (by kernel_rfl) (by simp) ?_
              refine AllReadyH.cons (o := { dst := some 89, op := Op.call { callee := Callee.value (Operand.func 10), args := #[Operand.tmp 88], argTypes := #[27] }, type := 27, pos := "outright.go:55", after := #[{ on := 32, ground := Ground.data }, { on := 31, ground := Ground.chain }, { on := 31, ground := Ground.guard }], guard := some (31, false) }) rfl (fun K hK => ?_) (AllReadyH.nil)
              go_simp
              go_at_call 10
              refine (twinR_any ka A B c1 c2 a l _ (GR.Rd.below DD_33.out (by repeat (first | exact HR.out | refine bl_drewN ?_ _ | refine bl_drew ?_ | refine bl_alloc ?_ _))) (GR.Rd.below DL_33.out (by repeat (first | exact HR.out | refine bl_drewN ?_ _ | refine bl_drew ?_ | refine bl_alloc ?_ _))) sa sl).mono ?_
              rintro e q9_33 ⟨A_33, B_33, c_33, d_33, rfl, hra, hrl, hc1, _, hb2⟩
              have TD_33 := Lib.hid hra
              have TL_33 := Lib.hid hrl
              have TC_33 := hc1
              clear hra hrl
              have hs_33 : u10.heap.size ≤ q9_33.heap.size := Below.size (bl_then (w := u10) (by repeat (first | exact HR.out | refine bl_drewN ?_ _ | refine bl_drew ?_ | refine bl_alloc ?_ _)) hb2)
              have N_ := Lib.hid (bl_then (w := u10) (by repeat (first | exact HR.out | refine bl_drewN ?_ _ | refine bl_drew ?_ | refine bl_alloc ?_ _)) hb2)
              clear hb2 HR
              have HR := N_
              clear N_
              refine hK.out _ _ ?_ (fun hHeld => ?_)
              · exact ⟨(Below.cell (p := ⟨w.heap.size, 0, none⟩) (by repeat (first | exact HR.out | refine bl_drewN ?_ _ | refine bl_drew ?_ | refine bl_alloc ?_ _)) (World.block_lt_of_cell? u10 _ K0.out)).trans K0.out, (Below.cell (p := ⟨w.heap.size, 1, none⟩) (by repeat (first | exact HR.out | refine bl_drewN ?_ _ | refine bl_drew ?_ | refine bl_alloc ?_ _)) (World.block_lt_of_cell? u10 _ K1.out)).trans K1.out, (Below.cell (p := ⟨w.heap.size, 2, none⟩) (by repeat (first | exact HR.out | refine bl_drewN ?_ _ | refine bl_drew ?_ | refine bl_alloc ?_ _)) (World.block_lt_of_cell? u10 _ K2.out)).trans K2.out, (Below.cell (p := ⟨w.heap.size + 1, 0, none⟩) (by repeat (first | exact HR.out | refine bl_drewN ?_ _ | refine bl_drew ?_ | refine bl_alloc ?_ _)) (World.block_lt_of_cell? u10 _ K3.out)).trans K3.out, (Below.cell (p := ⟨w.heap.size + 1, 1, none⟩) (by repeat (first | exact HR.out | refine bl_drewN ?_ _ | refine bl_drew ?_ | refine bl_alloc ?_ _)) (World.block_lt_of_cell? u10 _ K4.out)).trans K4.out, (Below.cell (p := ⟨w.heap.size + 1, 2, none⟩) (by repeat (first | exact HR.out | refine bl_drewN ?_ _ | refine bl_drew ?_ | refine bl_alloc ?_ _)) (World.block_lt_of_cell? u10 _ K5.out)).trans K5.out⟩
              clear hK K
              try simp only [Act.put, List.setIfInBounds_toArray, List.set_cons_zero, List.set_cons_succ]
              refine wpAnyH_ready (rs := [35]) (by kernel_rfl) (by simp) ?_
              refine AllReadyH.cons (o := { dst := some 91, op := Op.call { callee := Callee.value (Operand.func 10), args := #[Operand.tmp 90], argTypes := #[27] }, type := 27, pos := "outright.go:55", after := #[{ on := 34, ground := Ground.data }, { on := 33, ground := Ground.chain }, { on := 31, ground := Ground.guard }], guard := some (31, false) }) rfl (fun K hK => ?_) (AllReadyH.nil)
              go_simp
              go_at_call 10
              refine (twinR_any kb C D c3 c4 b m _ (GR.Rd.below DD_35.out (by repeat (first | exact HR.out | refine bl_drewN ?_ _ | refine bl_drew ?_ | refine bl_alloc ?_ _))) (GR.Rd.below DL_35.out (by repeat (first | exact HR.out | refine bl_drewN ?_ _ | refine bl_drew ?_ | refine bl_alloc ?_ _))) sb sm).mono ?_
              rintro e q9_35 ⟨A_35, B_35, c_35, d_35, rfl, hra, hrl, hc1, _, hb2⟩
              have T_ := Lib.hid (GR.Rd.below (GR.Rd.below (w := q9_33) TD_33.out (by repeat (first | exact Below.refl _ _ | refine bl_drewN ?_ _ | refine bl_drew ?_ | refine bl_alloc ?_ _))) hb2)
              clear TD_33
              have TD_33 := T_
              clear T_
              have T_ := Lib.hid (GR.Rd.below (GR.Rd.below (w := q9_33) TL_33.out (by repeat (first | exact Below.refl _ _ | refine bl_drewN ?_ _ | refine bl_drew ?_ | refine bl_alloc ?_ _))) hb2)
              clear TL_33
              have TL_33 := T_
              clear T_
              have TD_35 := Lib.hid hra
              have TL_35 := Lib.hid hrl
              have TC_35 := hc1
              clear hra hrl
              have hs_35 : u10.heap.size ≤ q9_35.heap.size := Below.size (bl_then (w := u10) (by repeat (first | exact HR.out | refine bl_drewN ?_ _ | refine bl_drew ?_ | refine bl_alloc ?_ _)) hb2)
              have N_ := Lib.hid (bl_then (w := u10) (by repeat (first | exact HR.out | refine bl_drewN ?_ _ | refine bl_drew ?_ | refine bl_alloc ?_ _)) hb2)
              clear hb2 HR
              have HR := N_
              clear N_
              refine hK.out _ _ ?_ (fun hHeld => ?_)
              · exact ⟨(Below.cell (p := ⟨w.heap.size, 0, none⟩) (by repeat (first | exact HR.out | refine bl_drewN ?_ _ | refine bl_drew ?_ | refine bl_alloc ?_ _)) (World.block_lt_of_cell? u10 _ K0.out)).trans K0.out, (Below.cell (p := ⟨w.heap.size, 1, none⟩) (by repeat (first | exact HR.out | refine bl_drewN ?_ _ | refine bl_drew ?_ | refine bl_alloc ?_ _)) (World.block_lt_of_cell? u10 _ K1.out)).trans K1.out, (Below.cell (p := ⟨w.heap.size, 2, none⟩) (by repeat (first | exact HR.out | refine bl_drewN ?_ _ | refine bl_drew ?_ | refine bl_alloc ?_ _)) (World.block_lt_of_cell? u10 _ K2.out)).trans K2.out, (Below.cell (p := ⟨w.heap.size + 1, 0, none⟩) (by repeat (first | exact HR.out | refine bl_drewN ?_ _ | refine bl_drew ?_ | refine bl_alloc ?_ _)) (World.block_lt_of_cell? u10 _ K3.out)).trans K3.out, (Below.cell (p := ⟨w.heap.size + 1, 1, none⟩) (by repeat (first | exact HR.out | refine bl_drewN ?_ _ | refine bl_drew ?_ | refine bl_alloc ?_ _)) (World.block_lt_of_cell? u10 _ K4.out)).trans K4.out, (Below.cell (p := ⟨w.heap.size + 1, 2, none⟩) (by repeat (first | exact HR.out | refine bl_drewN ?_ _ | refine bl_drew ?_ | refine bl_alloc ?_ _)) (World.block_lt_of_cell? u10 _ K5.out)).trans K5.out⟩
              clear hK K
              try simp only [Act.put, List.setIfInBounds_toArray, List.set_cons_zero, List.set_cons_succ]
              refine wpAnyH_ready (rs := [36]) (by kernel_rfl) (by simp) ?_
              refine AllReadyH.cons (o := { dst := some 92, op := Op.call { callee := Callee.value (Operand.func 28), args := #[Operand.tmp 89, Operand.tmp 91], argTypes := #[27, 27] }, type := 4, pos := "outright.go:55", after := #[{ on := 33, ground := Ground.data }, { on := 35, ground := Ground.data }, { on := 35, ground := Ground.chain }, { on := 31, ground := Ground.guard }], guard := some (31, false) }) rfl (fun K hK => ?_) (AllReadyH.nil)
              go_simp
              go_at_call 28
              refine (osameq r (GR.Rd.below (w := q9_35) TD_33.out (by repeat (first | exact Below.refl _ _ | refine bl_drewN ?_ _ | refine bl_drew ?_ | refine bl_alloc ?_ _))) (GR.Rd.below (w := q9_35) TL_33.out (by repeat (first | exact Below.refl _ _ | refine bl_drewN ?_ _ | refine bl_drew ?_ | refine bl_alloc ?_ _))) (GR.Rd.below (w := q9_35) TD_35.out (by repeat (first | exact Below.refl _ _ | refine bl_drewN ?_ _ | refine bl_drew ?_ | refine bl_alloc ?_ _))) (GR.Rd.below (w := q9_35) TL_35.out (by repeat (first | exact Below.refl _ _ | refine bl_drewN ?_ _ | refine bl_drew ?_ | refine bl_alloc ?_ _))) rfl rfl rfl rfl HRR.out).mono ?_
              rintro e q9_36 ⟨rfl, hb2⟩
              have T_ := Lib.hid (GR.Rd.below (GR.Rd.below (w := q9_35) TD_33.out (by repeat (first | exact Below.refl _ _ | refine bl_drewN ?_ _ | refine bl_drew ?_ | refine bl_alloc ?_ _))) hb2)
              clear TD_33
              have TD_33 := T_
              clear T_
              have T_ := Lib.hid (GR.Rd.below (GR.Rd.below (w := q9_35) TL_33.out (by repeat (first | exact Below.refl _ _ | refine bl_drewN ?_ _ | refine bl_drew ?_ | refine bl_alloc ?_ _))) hb2)
              clear TL_33
              have TL_33 := T_
              clear T_
              have T_ := Lib.hid (GR.Rd.below (GR.Rd.below (w := q9_35) TD_35.out (by repeat (first | exact Below.refl _ _ | refine bl_drewN ?_ _ | refine bl_drew ?_ | refine bl_alloc ?_ _))) hb2)
              clear TD_35
              have TD_35 := T_
              clear T_
              have T_ := Lib.hid (GR.Rd.below (GR.Rd.below (w := q9_35) TL_35.out (by repeat (first | exact Below.refl _ _ | refine bl_drewN ?_ _ | refine bl_drew ?_ | refine bl_alloc ?_ _))) hb2)
              clear TL_35
              have TL_35 := T_
              clear T_
              have hs_36 : u10.heap.size ≤ q9_36.heap.size := Below.size (bl_then (w := u10) (by repeat (first | exact HR.out | refine bl_drewN ?_ _ | refine bl_drew ?_ | refine bl_alloc ?_ _)) hb2)
              have N_ := Lib.hid (bl_then (w := u10) (by repeat (first | exact HR.out | refine bl_drewN ?_ _ | refine bl_drew ?_ | refine bl_alloc ?_ _)) hb2)
              clear hb2 HR
              have HR := N_
              clear N_
              refine hK.out _ _ ?_ (fun hHeld => ?_)
              · exact ⟨(Below.cell (p := ⟨w.heap.size, 0, none⟩) (by repeat (first | exact HR.out | refine bl_drewN ?_ _ | refine bl_drew ?_ | refine bl_alloc ?_ _)) (World.block_lt_of_cell? u10 _ K0.out)).trans K0.out, (Below.cell (p := ⟨w.heap.size, 1, none⟩) (by repeat (first | exact HR.out | refine bl_drewN ?_ _ | refine bl_drew ?_ | refine bl_alloc ?_ _)) (World.block_lt_of_cell? u10 _ K1.out)).trans K1.out, (Below.cell (p := ⟨w.heap.size, 2, none⟩) (by repeat (first | exact HR.out | refine bl_drewN ?_ _ | refine bl_drew ?_ | refine bl_alloc ?_ _)) (World.block_lt_of_cell? u10 _ K2.out)).trans K2.out, (Below.cell (p := ⟨w.heap.size + 1, 0, none⟩) (by repeat (first | exact HR.out | refine bl_drewN ?_ _ | refine bl_drew ?_ | refine bl_alloc ?_ _)) (World.block_lt_of_cell? u10 _ K3.out)).trans K3.out, (Below.cell (p := ⟨w.heap.size + 1, 1, none⟩) (by repeat (first | exact HR.out | refine bl_drewN ?_ _ | refine bl_drew ?_ | refine bl_alloc ?_ _)) (World.block_lt_of_cell? u10 _ K4.out)).trans K4.out, (Below.cell (p := ⟨w.heap.size + 1, 2, none⟩) (by repeat (first | exact HR.out | refine bl_drewN ?_ _ | refine bl_drew ?_ | refine bl_alloc ?_ _)) (World.block_lt_of_cell? u10 _ K5.out)).trans K5.out⟩
              clear hK K
              try simp only [Act.put, List.setIfInBounds_toArray, List.set_cons_zero, List.set_cons_succ]
              refine wpAnyH_ready (rs := [39]) (by kernel_rfl) (by simp) ?_
              refine AllReadyH.cons (o := { dst := some 95, op := Op.call { callee := Callee.value (Operand.func 19), args := #[Operand.tmp 93, Operand.tmp 94], argTypes := #[27, 27] }, type := 4, pos := "outright.go:55", after := #[{ on := 37, ground := Ground.data }, { on := 38, ground := Ground.data }, { on := 36, ground := Ground.chain }, { on := 31, ground := Ground.guard }], guard := some (31, false) }) rfl (fun K hK => ?_) (AllReadyH.nil)
              go_simp
              go_at_call 19
              refine (lsameq r (GR.Rd.below D_a.out (by repeat (first | exact HR.out | refine bl_drewN ?_ _ | refine bl_drew ?_ | refine bl_alloc ?_ _))) (GR.Rd.below D_l.out (by repeat (first | exact HR.out | refine bl_drewN ?_ _ | refine bl_drew ?_ | refine bl_alloc ?_ _))) (GR.Rd.below D_b.out (by repeat (first | exact HR.out | refine bl_drewN ?_ _ | refine bl_drew ?_ | refine bl_alloc ?_ _))) (GR.Rd.below D_m.out (by repeat (first | exact HR.out | refine bl_drewN ?_ _ | refine bl_drew ?_ | refine bl_alloc ?_ _))) rfl rfl rfl rfl HRR.out).mono ?_
              rintro e q9_39 ⟨rfl, hb2⟩
              have T_ := Lib.hid (GR.Rd.below (GR.Rd.below (w := q9_36) TD_33.out (by repeat (first | exact Below.refl _ _ | refine bl_drewN ?_ _ | refine bl_drew ?_ | refine bl_alloc ?_ _))) hb2)
              clear TD_33
              have TD_33 := T_
              clear T_
              have T_ := Lib.hid (GR.Rd.below (GR.Rd.below (w := q9_36) TL_33.out (by repeat (first | exact Below.refl _ _ | refine bl_drewN ?_ _ | refine bl_drew ?_ | refine bl_alloc ?_ _))) hb2)
              clear TL_33
              have TL_33 := T_
              clear T_
              have T_ := Lib.hid (GR.Rd.below (GR.Rd.below (w := q9_36) TD_35.out (by repeat (first | exact Below.refl _ _ | refine bl_drewN ?_ _ | refine bl_drew ?_ | refine bl_alloc ?_ _))) hb2)
              clear TD_35
              have TD_35 := T_
              clear T_
              have T_ := Lib.hid (GR.Rd.below (GR.Rd.below (w := q9_36) TL_35.out (by repeat (first | exact Below.refl _ _ | refine bl_drewN ?_ _ | refine bl_drew ?_ | refine bl_alloc ?_ _))) hb2)
              clear TL_35
              have TL_35 := T_
              clear T_
              have hs_39 : u10.heap.size ≤ q9_39.heap.size := Below.size (bl_then (w := u10) (by repeat (first | exact HR.out | refine bl_drewN ?_ _ | refine bl_drew ?_ | refine bl_alloc ?_ _)) hb2)
              have N_ := Lib.hid (bl_then (w := u10) (by repeat (first | exact HR.out | refine bl_drewN ?_ _ | refine bl_drew ?_ | refine bl_alloc ?_ _)) hb2)
              clear hb2 HR
              have HR := N_
              clear N_
              refine hK.out _ _ ?_ (fun hHeld => ?_)
              · exact ⟨(Below.cell (p := ⟨w.heap.size, 0, none⟩) (by repeat (first | exact HR.out | refine bl_drewN ?_ _ | refine bl_drew ?_ | refine bl_alloc ?_ _)) (World.block_lt_of_cell? u10 _ K0.out)).trans K0.out, (Below.cell (p := ⟨w.heap.size, 1, none⟩) (by repeat (first | exact HR.out | refine bl_drewN ?_ _ | refine bl_drew ?_ | refine bl_alloc ?_ _)) (World.block_lt_of_cell? u10 _ K1.out)).trans K1.out, (Below.cell (p := ⟨w.heap.size, 2, none⟩) (by repeat (first | exact HR.out | refine bl_drewN ?_ _ | refine bl_drew ?_ | refine bl_alloc ?_ _)) (World.block_lt_of_cell? u10 _ K2.out)).trans K2.out, (Below.cell (p := ⟨w.heap.size + 1, 0, none⟩) (by repeat (first | exact HR.out | refine bl_drewN ?_ _ | refine bl_drew ?_ | refine bl_alloc ?_ _)) (World.block_lt_of_cell? u10 _ K3.out)).trans K3.out, (Below.cell (p := ⟨w.heap.size + 1, 1, none⟩) (by repeat (first | exact HR.out | refine bl_drewN ?_ _ | refine bl_drew ?_ | refine bl_alloc ?_ _)) (World.block_lt_of_cell? u10 _ K4.out)).trans K4.out, (Below.cell (p := ⟨w.heap.size + 1, 2, none⟩) (by repeat (first | exact HR.out | refine bl_drewN ?_ _ | refine bl_drew ?_ | refine bl_alloc ?_ _)) (World.block_lt_of_cell? u10 _ K5.out)).trans K5.out⟩
              clear hK K
              try simp only [Act.put, List.setIfInBounds_toArray, List.set_cons_zero, List.set_cons_succ]
              refine wpAnyH_take (i := 40) (oi := { dst := some 96, op := Op.binOp BinOp.neq 4 (Operand.tmp 92) (Operand.tmp 95) 4, type := 4, pos := "outright.go:55", after := #[{ on := 36, ground := Ground.data }, { on := 39, ground := Ground.data }, { on := 31, ground := Ground.guard }], guard := some (31, false) }) (v := ?_) rfl (by kernel_rfl) (by kernel_rfl) (by kernel_rfl) (fun _ _ _ h => h) (Or.inl ⟨by rfl, ?_⟩) (by assumption) ?_
              rotate_left
              · intro w_ hSw
                (try dsimp only at hSw)
                go_simp
                first | done | with_reducible rfl
              try simp only [Act.put, List.setIfInBounds_toArray, List.set_cons_zero, List.set_cons_succ]
              refine wpAnyH_take (i := 41) (oi := { dst := some 97, op := Op.pick (Operand.tmp 87) (Operand.const (Value.bool true)) (Operand.tmp 96), type := 4, pos := "outright.go:55", after := #[{ on := 31, ground := Ground.data }, { on := 40, ground := Ground.data }], guard := none }) (v := ?_) rfl (by kernel_rfl) (by kernel_rfl) (by kernel_rfl) (fun _ _ _ h => h) (Or.inl ⟨by rfl, ?_⟩) (by assumption) ?_
              rotate_left
              · intro w_ hSw
                (try dsimp only at hSw)
                go_simp
                first | done | with_reducible rfl
              try simp only [Act.put, List.setIfInBounds_toArray, List.set_cons_zero, List.set_cons_succ]
              refine wpAnyH_done (by kernel_rfl) ?_ _
              go_wp2_with fail
              go_meet
              exact ⟨rfl, Lib.hid (by repeat (first | exact HR.out | refine bl_drewN ?_ _ | refine bl_drew ?_ | refine bl_alloc ?_ _))⟩
        case rest =>
          obtain ⟨rfl, BC⟩ := hcut
          obtain ⟨m16, hw_⟩ : ∃ x : World, x = wc := ⟨_, rfl⟩
          subst hw_
          have F34 := Lib.hid (F24.out.below BC.out)
          clear F24
          replace BB := Lib.hid (bl_then BB.out BC.out)
          clear BC
          have pa_0 : m16.cell? ⟨w.heap.size, 0, none⟩ = some (.string ka) := (F34.out.blk 13 rfl).cell 0
          have pa_1 : m16.cell? ⟨w.heap.size, 1, none⟩ = some (.slice A a.length c1) := (F34.out.blk 13 rfl).cell 1
          have pa_2 : m16.cell? ⟨w.heap.size, 2, none⟩ = some (.slice B l.length c2) := (F34.out.blk 13 rfl).cell 2
          have pb_0 : m16.cell? ⟨w.heap.size + 1, 0, none⟩ = some (.string kb) := (F34.out.blk 12 rfl).cell 0
          have pb_1 : m16.cell? ⟨w.heap.size + 1, 1, none⟩ = some (.slice C b.length c3) := (F34.out.blk 12 rfl).cell 1
          have pb_2 : m16.cell? ⟨w.heap.size + 1, 2, none⟩ = some (.slice D m.length c4) := (F34.out.blk 12 rfl).cell 2
          have pa_lt : w.heap.size < m16.heap.size := (F34.out.blk 13 rfl).lt
          have pb_lt : w.heap.size + 1 < m16.heap.size := (F34.out.blk 12 rfl).lt
          go_wp2_with fail
          clear pa_0 pa_1 pa_2 pa_lt pb_0 pb_1 pb_2 pb_lt
          refine (twinR_any ka A B c1 c2 a l _ (F34.out.rd 11 rfl) (F34.out.rd 10 rfl) sa sl).mono ?_
          rintro e u17 ⟨U7, V7, u7, v7, rfl, hra, hrl, _, _, hb⟩
          have F35 := Lib.hid (F34.out.below hb)
          clear F34
          have F36 := Lib.hid (F35.out.addR (hra))
          clear F35
          have F37 := Lib.hid (F36.out.addR (hrl))
          clear F36
          replace BB := Lib.hid (bl_then BB.out hb)
          clear hb
          clear hra hrl
          go_wp2_with fail
          refine (osumq s1 g1 one (F37.out.rd 1 rfl) (F37.out.rd 0 rfl) rfl rfl HR1.out HS1.out HG1.out).mono ?_
          rintro e u18 ⟨rfl, hb⟩
          have F38 := Lib.hid (F37.out.below hb)
          clear F37
          replace BB := Lib.hid (bl_then BB.out hb)
          clear hb
          have pa_0 : u18.cell? ⟨w.heap.size, 0, none⟩ = some (.string ka) := (F38.out.blk 15 rfl).cell 0
          have pa_1 : u18.cell? ⟨w.heap.size, 1, none⟩ = some (.slice A a.length c1) := (F38.out.blk 15 rfl).cell 1
          have pa_2 : u18.cell? ⟨w.heap.size, 2, none⟩ = some (.slice B l.length c2) := (F38.out.blk 15 rfl).cell 2
          have pb_0 : u18.cell? ⟨w.heap.size + 1, 0, none⟩ = some (.string kb) := (F38.out.blk 14 rfl).cell 0
          have pb_1 : u18.cell? ⟨w.heap.size + 1, 1, none⟩ = some (.slice C b.length c3) := (F38.out.blk 14 rfl).cell 1
          have pb_2 : u18.cell? ⟨w.heap.size + 1, 2, none⟩ = some (.slice D m.length c4) := (F38.out.blk 14 rfl).cell 2
          have pa_lt : w.heap.size < u18.heap.size := (F38.out.blk 15 rfl).lt
          have pb_lt : w.heap.size + 1 < u18.heap.size := (F38.out.blk 14 rfl).lt
          go_wp2_with fail
          clear pa_0 pa_1 pa_2 pa_lt pb_0 pb_1 pb_2 pb_lt
          refine (twinR_any ka A B c1 c2 a l _ (F38.out.rd 13 rfl) (F38.out.rd 12 rfl) sa sl).mono ?_
          rintro e u19 ⟨U8, V8, u8, v8, rfl, hra, hrl, _, _, hb⟩
          have F39 := Lib.hid (F38.out.below hb)
          clear F38
          have F40 := Lib.hid (F39.out.addR (hra))
          clear F39
          have F41 := Lib.hid (F40.out.addR (hrl))
          clear F40
          replace BB := Lib.hid (bl_then BB.out hb)
          clear hb
          clear hra hrl
          go_wp2_with fail
          refine (osumq t1 g2 two (F41.out.rd 1 rfl) (F41.out.rd 0 rfl) rfl rfl HR1.out HT1.out HG2.out).mono ?_
          rintro e u20 ⟨rfl, hb⟩
          have F42 := Lib.hid (F41.out.below hb)
          clear F41
          replace BB := Lib.hid (bl_then BB.out hb)
          clear hb
          obtain rfl : g1 = cutE one := by rw [← HG1.out, osumE, if_pos HX0.out]
          obtain rfl : g2 = cutE two := by rw [← HG2.out, osumE, if_pos HX0.out]
          rcases wd_cases one with ⟨hwp, hep, lp1, lp2⟩ | ⟨hwp, hep, lp1 | ⟨lp1, lp2⟩⟩
          · have cp : cutE one = 0 := hep
            have ap1 : decide (1 ≤ one) = true := decide_eq_true lp1
            have ap2 : decide (one ≤ 32) = true := decide_eq_true lp2
            have HWP := Lib.hid hwp
            have LP1 := Lib.hid lp1
            have LP2 := Lib.hid lp2
            clear hwp hep lp1 lp2
            rcases wd_cases two with ⟨hwq, heq, lq1, lq2⟩ | ⟨hwq, heq, lq1 | ⟨lq1, lq2⟩⟩
            · have cq : cutE two = 0 := heq
              have aq1 : decide (1 ≤ two) = true := decide_eq_true lq1
              have aq2 : decide (two ≤ 32) = true := decide_eq_true lq2
              have HWQ := Lib.hid hwq
              have LQ1 := Lib.hid lq1
              have LQ2 := Lib.hid lq2
              clear hwq heq lq1 lq2
              have HV := sum_two HS1.out HT1.out HX0.out HA0.out HWP.out HWQ.out
              obtain ⟨z1, z2, z3⟩ := HV
              have z4 : ((s1.size : Int) == one) = true := by simpa using z1
              have z5 : ((t1.size : Int) == two) = true := by simpa using z2
              by_cases hlt : two < one
              · have d0 : decide (two < one) = true := decide_eq_true hlt
                have HN : Hid ((0 : Int) ≤ two ∧ two ≤ one ∧ two ≤ two) := Lib.hid (by have := LP1.out; have := LQ1.out; omega)
                obtain ⟨P, hP⟩ : ∃ P, s1.extract 0 (two).toNat = P := ⟨_, rfl⟩
                have y1 : ∀ W, (Instr.slice 9 (.string s1) none (some (.int .i64 two)) none).run Try.prog W = .ok (.string P) W := fun W => by
                  rw [run_slice_string_to_if W _ _ _ _ Try.underlying9, if_pos ⟨HN.out.1, by rw [z1]; exact HN.out.2.1⟩, hP]
                have y2 : ∀ W, (Instr.slice 9 (.string t1) none (some (.int .i64 two)) none).run Try.prog W = .ok (.string P) W := fun W => by
                  rw [run_slice_string_to_if W _ _ _ _ Try.underlying9, if_pos ⟨HN.out.1, by rw [z2]; exact HN.out.2.2⟩, ← z3 two HN.out, hP]
                have y3 : (P.toList == P.toList) = true := by simp
                clear z3 hP
                go_upto_region 20 with fail
                clear hlt
                have HR := Lib.hid (Below.refl u20.heap.size u20)
                refine wp_region_held_drew (S := fun w' => True) (by kernel_rfl) ?_ (fun hHeld => ?_)
                · trivial
                refine wpAnyH_take (i := 0) (oi := { dst := some 157, op := Op.move (Operand.tmp 13), type := 9, pos := "outright.go:70", after := #[], guard := none }) (v := ?_) rfl (by kernel_rfl) (by kernel_rfl) (by kernel_rfl) (fun _ _ _ h => h) (Or.inl ⟨by rfl, ?_⟩) (by assumption) ?_
                rotate_left
                · intro w_ hSw
                  (try dsimp only at hSw)
                  go_simp
                  first | done | with_reducible rfl
                try simp only [Act.put, List.setIfInBounds_toArray, List.set_cons_zero, List.set_cons_succ]
                refine wpAnyH_take (i := 1) (oi := { dst := some 158, op := Op.call { callee := Callee.builtin Builtin.len, args := #[Operand.tmp 157], argTypes := #[9] }, type := 3, pos := "outright.go:70", after := #[{ on := 0, ground := Ground.data }], guard := none }) (v := ?_) rfl (by kernel_rfl) (by kernel_rfl) (by kernel_rfl) (fun _ _ _ h => h) (Or.inl ⟨by rfl, ?_⟩) (by assumption) ?_
                rotate_left
                · intro w_ hSw
                  (try dsimp only at hSw)
                  go_simp
                  first | done | with_reducible rfl
                try simp only [Act.put, List.setIfInBounds_toArray, List.set_cons_zero, List.set_cons_succ]
                refine wpAnyH_take (i := 2) (oi := { dst := some 159, op := Op.move (Operand.tmp 2), type := 3, pos := "outright.go:70", after := #[], guard := none }) (v := ?_) rfl (by kernel_rfl) (by kernel_rfl) (by kernel_rfl) (fun _ _ _ h => h) (Or.inl ⟨by rfl, ?_⟩) (by assumption) ?_
                rotate_left
                · intro w_ hSw
                  (try dsimp only at hSw)
                  go_simp
                  first | done | with_reducible rfl
                try simp only [Act.put, List.setIfInBounds_toArray, List.set_cons_zero, List.set_cons_succ]
                refine wpAnyH_take (i := 3) (oi := { dst := some 160, op := Op.binOp BinOp.eql 3 (Operand.tmp 158) (Operand.tmp 159) 3, type := 4, pos := "outright.go:70", after := #[{ on := 1, ground := Ground.data }, { on := 2, ground := Ground.data }], guard := none }) (v := ?_) rfl (by kernel_rfl) (by kernel_rfl) (by kernel_rfl) (fun _ _ _ h => h) (Or.inl ⟨by rfl, ?_⟩) (by assumption) ?_
                rotate_left
                · intro w_ hSw
                  (try dsimp only at hSw)
                  go_simp
                  first | done | with_reducible rfl
                try simp only [Act.put, List.setIfInBounds_toArray, List.set_cons_zero, List.set_cons_succ]
                refine wpAnyH_take (i := 4) (oi := { dst := some 161, op := Op.move (Operand.tmp 160), type := 4, pos := "outright.go:70", after := #[{ on := 3, ground := Ground.data }], guard := none }) (v := ?_) rfl (by kernel_rfl) (by kernel_rfl) (by kernel_rfl) (fun _ _ _ h => h) (Or.inl ⟨by rfl, ?_⟩) (by assumption) ?_
                rotate_left
                · intro w_ hSw
                  (try dsimp only at hSw)
                  go_simp
                  first | done | with_reducible rfl
                try simp only [Act.put, List.setIfInBounds_toArray, List.set_cons_zero, List.set_cons_succ]
                refine wpAnyH_take (i := 5) (oi := { dst := some 162, op := Op.move (Operand.tmp 15), type := 9, pos := "outright.go:70", after := #[{ on := 4, ground := Ground.guard }], guard := some (4, true) }) (v := ?_) rfl (by kernel_rfl) (by kernel_rfl) (by kernel_rfl) (fun _ _ _ h => h) (Or.inl ⟨by rfl, ?_⟩) (by assumption) ?_
                rotate_left
                · intro w_ hSw
                  (try dsimp only at hSw)
                  go_simp
                  first | done | with_reducible rfl
                try simp only [Act.put, List.setIfInBounds_toArray, List.set_cons_zero, List.set_cons_succ]
                refine wpAnyH_take (i := 6) (oi := { dst := some 163, op := Op.call { callee := Callee.builtin Builtin.len, args := #[Operand.tmp 162], argTypes := #[9] }, type := 3, pos := "outright.go:70", after := #[{ on := 5, ground := Ground.data }, { on := 4, ground := Ground.guard }], guard := some (4, true) }) (v := ?_) rfl (by kernel_rfl) (by kernel_rfl) (by kernel_rfl) (fun _ _ _ h => h) (Or.inl ⟨by rfl, ?_⟩) (by assumption) ?_
                rotate_left
                · intro w_ hSw
                  (try dsimp only at hSw)
                  go_simp
                  first | done | with_reducible rfl
                try simp only [Act.put, List.setIfInBounds_toArray, List.set_cons_zero, List.set_cons_succ]
                refine wpAnyH_take (i := 7) (oi := { dst := some 164, op := Op.move (Operand.tmp 3), type := 3, pos := "outright.go:70", after := #[{ on := 4, ground := Ground.guard }], guard := some (4, true) }) (v := ?_) rfl (by kernel_rfl) (by kernel_rfl) (by kernel_rfl) (fun _ _ _ h => h) (Or.inl ⟨by rfl, ?_⟩) (by assumption) ?_
                rotate_left
                · intro w_ hSw
                  (try dsimp only at hSw)
                  go_simp
                  first | done | with_reducible rfl
                try simp only [Act.put, List.setIfInBounds_toArray, List.set_cons_zero, List.set_cons_succ]
                refine wpAnyH_take (i := 8) (oi := { dst := some 165, op := Op.binOp BinOp.eql 3 (Operand.tmp 163) (Operand.tmp 164) 3, type := 4, pos := "outright.go:70", after := #[{ on := 6, ground := Ground.data }, { on := 7, ground := Ground.data }, { on := 4, ground := Ground.guard }], guard := some (4, true) }) (v := ?_) rfl (by kernel_rfl) (by kernel_rfl) (by kernel_rfl) (fun _ _ _ h => h) (Or.inl ⟨by rfl, ?_⟩) (by assumption) ?_
                rotate_left
                · intro w_ hSw
                  (try dsimp only at hSw)
                  go_simp
                  first | done | with_reducible rfl
                try simp only [Act.put, List.setIfInBounds_toArray, List.set_cons_zero, List.set_cons_succ]
                refine wpAnyH_take (i := 9) (oi := { dst := some 166, op := Op.pick (Operand.tmp 161) (Operand.tmp 165) (Operand.const (Value.bool false)), type := 4, pos := "outright.go:70", after := #[{ on := 4, ground := Ground.data }, { on := 8, ground := Ground.data }], guard := none }) (v := ?_) rfl (by kernel_rfl) (by kernel_rfl) (by kernel_rfl) (fun _ _ _ h => h) (Or.inl ⟨by rfl, ?_⟩) (by assumption) ?_
                rotate_left
                · intro w_ hSw
                  (try dsimp only at hSw)
                  go_simp
                  first | done | with_reducible rfl
                try simp only [Act.put, List.setIfInBounds_toArray, List.set_cons_zero, List.set_cons_succ]
                refine wpAnyH_take (i := 10) (oi := { dst := some 167, op := Op.move (Operand.tmp 166), type := 4, pos := "outright.go:70", after := #[{ on := 9, ground := Ground.data }, { on := 4, ground := Ground.chain }], guard := none }) (v := ?_) rfl (by kernel_rfl) (by kernel_rfl) (by kernel_rfl) (fun _ _ _ h => h) (Or.inl ⟨by rfl, ?_⟩) (by assumption) ?_
                rotate_left
                · intro w_ hSw
                  (try dsimp only at hSw)
                  go_simp
                  first | done | with_reducible rfl
                try simp only [Act.put, List.setIfInBounds_toArray, List.set_cons_zero, List.set_cons_succ]
                refine wpAnyH_take (i := 11) (oi := { dst := some 168, op := Op.move (Operand.tmp 13), type := 9, pos := "outright.go:70", after := #[{ on := 10, ground := Ground.guard }], guard := some (10, true) }) (v := ?_) rfl (by kernel_rfl) (by kernel_rfl) (by kernel_rfl) (fun _ _ _ h => h) (Or.inl ⟨by rfl, ?_⟩) (by assumption) ?_
                rotate_left
                · intro w_ hSw
                  (try dsimp only at hSw)
                  go_simp
                  first | done | with_reducible rfl
                try simp only [Act.put, List.setIfInBounds_toArray, List.set_cons_zero, List.set_cons_succ]
                refine wpAnyH_take (i := 12) (oi := { dst := some 169, op := Op.move (Operand.tmp 17), type := 3, pos := "outright.go:70", after := #[{ on := 10, ground := Ground.guard }], guard := some (10, true) }) (v := ?_) rfl (by kernel_rfl) (by kernel_rfl) (by kernel_rfl) (fun _ _ _ h => h) (Or.inl ⟨by rfl, ?_⟩) (by assumption) ?_
                rotate_left
                · intro w_ hSw
                  (try dsimp only at hSw)
                  go_simp
                  first | done | with_reducible rfl
                try simp only [Act.put, List.setIfInBounds_toArray, List.set_cons_zero, List.set_cons_succ]
                refine wpAnyH_take (i := 13) (oi := { dst := some 170, op := Op.slice 9 (Operand.tmp 168) none (some (Operand.tmp 169)) none, type := 9, pos := "outright.go:70", after := #[{ on := 11, ground := Ground.data }, { on := 12, ground := Ground.data }, { on := 10, ground := Ground.guard }], guard := some (10, true) }) (v := ?_) rfl (by kernel_rfl) (by kernel_rfl) (by kernel_rfl) (fun _ _ _ h => h) (Or.inl ⟨by rfl, ?_⟩) (by assumption) ?_
                rotate_left
                · intro w_ hSw
                  (try dsimp only at hSw)
                  go_simp
                  first | done | with_reducible rfl
                try simp only [Act.put, List.setIfInBounds_toArray, List.set_cons_zero, List.set_cons_succ]
                refine wpAnyH_take (i := 14) (oi := { dst := some 171, op := Op.move (Operand.tmp 15), type := 9, pos := "outright.go:70", after := #[{ on := 10, ground := Ground.guard }], guard := some (10, true) }) (v := ?_) rfl (by kernel_rfl) (by kernel_rfl) (by kernel_rfl) (fun _ _ _ h => h) (Or.inl ⟨by rfl, ?_⟩) (by assumption) ?_
                rotate_left
                · intro w_ hSw
                  (try dsimp only at hSw)
                  go_simp
                  first | done | with_reducible rfl
                try simp only [Act.put, List.setIfInBounds_toArray, List.set_cons_zero, List.set_cons_succ]
                refine wpAnyH_take (i := 15) (oi := { dst := some 172, op := Op.move (Operand.tmp 17), type := 3, pos := "outright.go:70", after := #[{ on := 10, ground := Ground.guard }], guard := some (10, true) }) (v := ?_) rfl (by kernel_rfl) (by kernel_rfl) (by kernel_rfl) (fun _ _ _ h => h) (Or.inl ⟨by rfl, ?_⟩) (by assumption) ?_
                rotate_left
                · intro w_ hSw
                  (try dsimp only at hSw)
                  go_simp
                  first | done | with_reducible rfl
                try simp only [Act.put, List.setIfInBounds_toArray, List.set_cons_zero, List.set_cons_succ]
                refine wpAnyH_take (i := 16) (oi := { dst := some 173, op := Op.slice 9 (Operand.tmp 171) none (some (Operand.tmp 172)) none, type := 9, pos := "outright.go:70", after := #[{ on := 14, ground := Ground.data }, { on := 15, ground := Ground.data }, { on := 10, ground := Ground.guard }], guard := some (10, true) }) (v := ?_) rfl (by kernel_rfl) (by kernel_rfl) (by kernel_rfl) (fun _ _ _ h => h) (Or.inl ⟨by rfl, ?_⟩) (by assumption) ?_
                rotate_left
                · intro w_ hSw
                  (try dsimp only at hSw)
                  go_simp
                  first | done | with_reducible rfl
                try simp only [Act.put, List.setIfInBounds_toArray, List.set_cons_zero, List.set_cons_succ]
                refine wpAnyH_take (i := 17) (oi := { dst := some 174, op := Op.binOp BinOp.eql 9 (Operand.tmp 170) (Operand.tmp 173) 9, type := 4, pos := "outright.go:70", after := #[{ on := 13, ground := Ground.data }, { on := 16, ground := Ground.data }, { on := 10, ground := Ground.guard }], guard := some (10, true) }) (v := ?_) rfl (by kernel_rfl) (by kernel_rfl) (by kernel_rfl) (fun _ _ _ h => h) (Or.inl ⟨by rfl, ?_⟩) (by assumption) ?_
                rotate_left
                · intro w_ hSw
                  (try dsimp only at hSw)
                  go_simp
                  first | done | with_reducible rfl
                try simp only [Act.put, List.setIfInBounds_toArray, List.set_cons_zero, List.set_cons_succ]
                refine wpAnyH_take (i := 18) (oi := { dst := some 175, op := Op.pick (Operand.tmp 167) (Operand.tmp 174) (Operand.const (Value.bool false)), type := 4, pos := "outright.go:70", after := #[{ on := 10, ground := Ground.data }, { on := 17, ground := Ground.data }], guard := none }) (v := ?_) rfl (by kernel_rfl) (by kernel_rfl) (by kernel_rfl) (fun _ _ _ h => h) (Or.inl ⟨by rfl, ?_⟩) (by assumption) ?_
                rotate_left
                · intro w_ hSw
                  (try dsimp only at hSw)
                  go_simp
                  first | done | with_reducible rfl
                try simp only [Act.put, List.setIfInBounds_toArray, List.set_cons_zero, List.set_cons_succ]
                refine wpAnyH_take (i := 19) (oi := { dst := some 8, op := Op.assign (Operand.tmp 175), type := 4, pos := "outright.go:70", after := #[{ on := 18, ground := Ground.data }, { on := 10, ground := Ground.chain }, { on := 0, ground := Ground.phase }, { on := 1, ground := Ground.phase }, { on := 2, ground := Ground.phase }, { on := 3, ground := Ground.phase }, { on := 4, ground := Ground.phase }, { on := 5, ground := Ground.phase }, { on := 6, ground := Ground.phase }, { on := 7, ground := Ground.phase }, { on := 8, ground := Ground.phase }, { on := 9, ground := Ground.phase }, { on := 10, ground := Ground.phase }, { on := 11, ground := Ground.phase }, { on := 12, ground := Ground.phase }, { on := 13, ground := Ground.phase }, { on := 14, ground := Ground.phase }, { on := 15, ground := Ground.phase }, { on := 16, ground := Ground.phase }, { on := 17, ground := Ground.phase }, { on := 18, ground := Ground.phase }], guard := none }) (v := ?_) rfl (by kernel_rfl) (by kernel_rfl) (by kernel_rfl) (fun _ _ _ h => h) (Or.inl ⟨by rfl, ?_⟩) (by assumption) ?_
                rotate_left
                · intro w_ hSw
                  (try dsimp only at hSw)
                  go_simp
                  first | done | with_reducible rfl
                try simp only [Act.put, List.setIfInBounds_toArray, List.set_cons_zero, List.set_cons_succ]
                refine wpAnyH_done (by kernel_rfl) ?_ _
                go_wp2
                exact bodyPost_ret (v := .bool true) (by simp [results, Try.results8, go_sem]) rfl ⟨rfl, (by repeat (first | exact BB.out | refine bl_drewN ?_ _ | refine bl_drew ?_ | refine bl_alloc ?_ _))⟩
              · have d0 : decide (two < one) = false := decide_eq_false hlt
                have HN : Hid ((0 : Int) ≤ one ∧ one ≤ one ∧ one ≤ two) := Lib.hid (by have := LP1.out; have := LQ1.out; omega)
                obtain ⟨P, hP⟩ : ∃ P, s1.extract 0 (one).toNat = P := ⟨_, rfl⟩
                have y1 : ∀ W, (Instr.slice 9 (.string s1) none (some (.int .i64 one)) none).run Try.prog W = .ok (.string P) W := fun W => by
                  rw [run_slice_string_to_if W _ _ _ _ Try.underlying9, if_pos ⟨HN.out.1, by rw [z1]; exact HN.out.2.1⟩, hP]
                have y2 : ∀ W, (Instr.slice 9 (.string t1) none (some (.int .i64 one)) none).run Try.prog W = .ok (.string P) W := fun W => by
                  rw [run_slice_string_to_if W _ _ _ _ Try.underlying9, if_pos ⟨HN.out.1, by rw [z2]; exact HN.out.2.2⟩, ← z3 one HN.out, hP]
                have y3 : (P.toList == P.toList) = true := by simp
                clear z3 hP
                go_upto_region 20 with fail
                clear hlt
                have HR := Lib.hid (Below.refl u20.heap.size u20)
                refine wp_region_held_drew (S := fun w' => True) (by kernel_rfl) ?_ (fun hHeld => ?_)
                · trivial
                refine wpAnyH_take (i := 0) (oi := { dst := some 157, op := Op.move (Operand.tmp 13), type := 9, pos := "outright.go:70", after := #[], guard := none }) (v := ?_) rfl (by kernel_rfl) (by kernel_rfl) (by kernel_rfl) (fun _ _ _ h => h) (Or.inl ⟨by rfl, ?_⟩) (by assumption) ?_
                rotate_left
                · intro w_ hSw
                  (try dsimp only at hSw)
                  go_simp
                  first | done | with_reducible rfl
                try simp only [Act.put, List.setIfInBounds_toArray, List.set_cons_zero, List.set_cons_succ]
                refine wpAnyH_take (i := 1) (oi := { dst := some 158, op := Op.call { callee := Callee.builtin Builtin.len, args := #[Operand.tmp 157], argTypes := #[9] }, type := 3, pos := "outright.go:70", after := #[{ on := 0, ground := Ground.data }], guard := none }) (v := ?_) rfl (by kernel_rfl) (by kernel_rfl) (by kernel_rfl) (fun _ _ _ h => h) (Or.inl ⟨by rfl, ?_⟩) (by assumption) ?_
                rotate_left
                · intro w_ hSw
                  (try dsimp only at hSw)
                  go_simp
                  first | done | with_reducible rfl
                try simp only [Act.put, List.setIfInBounds_toArray, List.set_cons_zero, List.set_cons_succ]
                refine wpAnyH_take (i := 2) (oi := { dst := some 159, op := Op.move (Operand.tmp 2), type := 3, pos := "outright.go:70", after := #[], guard := none }) (v := ?_) rfl (by kernel_rfl) (by kernel_rfl) (by kernel_rfl) (fun _ _ _ h => h) (Or.inl ⟨by rfl, ?_⟩) (by assumption) ?_
                rotate_left
                · intro w_ hSw
                  (try dsimp only at hSw)
                  go_simp
                  first | done | with_reducible rfl
                try simp only [Act.put, List.setIfInBounds_toArray, List.set_cons_zero, List.set_cons_succ]
                refine wpAnyH_take (i := 3) (oi := { dst := some 160, op := Op.binOp BinOp.eql 3 (Operand.tmp 158) (Operand.tmp 159) 3, type := 4, pos := "outright.go:70", after := #[{ on := 1, ground := Ground.data }, { on := 2, ground := Ground.data }], guard := none }) (v := ?_) rfl (by kernel_rfl) (by kernel_rfl) (by kernel_rfl) (fun _ _ _ h => h) (Or.inl ⟨by rfl, ?_⟩) (by assumption) ?_
                rotate_left
                · intro w_ hSw
                  (try dsimp only at hSw)
                  go_simp
                  first | done | with_reducible rfl
                try simp only [Act.put, List.setIfInBounds_toArray, List.set_cons_zero, List.set_cons_succ]
                refine wpAnyH_take (i := 4) (oi := { dst := some 161, op := Op.move (Operand.tmp 160), type := 4, pos := "outright.go:70", after := #[{ on := 3, ground := Ground.data }], guard := none }) (v := ?_) rfl (by kernel_rfl) (by kernel_rfl) (by kernel_rfl) (fun _ _ _ h => h) (Or.inl ⟨by rfl, ?_⟩) (by assumption) ?_
                rotate_left
                · intro w_ hSw
                  (try dsimp only at hSw)
                  go_simp
                  first | done | with_reducible rfl
                try simp only [Act.put, List.setIfInBounds_toArray, List.set_cons_zero, List.set_cons_succ]
                refine wpAnyH_take (i := 5) (oi := { dst := some 162, op := Op.move (Operand.tmp 15), type := 9, pos := "outright.go:70", after := #[{ on := 4, ground := Ground.guard }], guard := some (4, true) }) (v := ?_) rfl (by kernel_rfl) (by kernel_rfl) (by kernel_rfl) (fun _ _ _ h => h) (Or.inl ⟨by rfl, ?_⟩) (by assumption) ?_
                rotate_left
                · intro w_ hSw
                  (try dsimp only at hSw)
                  go_simp
                  first | done | with_reducible rfl
                try simp only [Act.put, List.setIfInBounds_toArray, List.set_cons_zero, List.set_cons_succ]
                refine wpAnyH_take (i := 6) (oi := { dst := some 163, op := Op.call { callee := Callee.builtin Builtin.len, args := #[Operand.tmp 162], argTypes := #[9] }, type := 3, pos := "outright.go:70", after := #[{ on := 5, ground := Ground.data }, { on := 4, ground := Ground.guard }], guard := some (4, true) }) (v := ?_) rfl (by kernel_rfl) (by kernel_rfl) (by kernel_rfl) (fun _ _ _ h => h) (Or.inl ⟨by rfl, ?_⟩) (by assumption) ?_
                rotate_left
                · intro w_ hSw
                  (try dsimp only at hSw)
                  go_simp
                  first | done | with_reducible rfl
                try simp only [Act.put, List.setIfInBounds_toArray, List.set_cons_zero, List.set_cons_succ]
                refine wpAnyH_take (i := 7) (oi := { dst := some 164, op := Op.move (Operand.tmp 3), type := 3, pos := "outright.go:70", after := #[{ on := 4, ground := Ground.guard }], guard := some (4, true) }) (v := ?_) rfl (by kernel_rfl) (by kernel_rfl) (by kernel_rfl) (fun _ _ _ h => h) (Or.inl ⟨by rfl, ?_⟩) (by assumption) ?_
                rotate_left
                · intro w_ hSw
                  (try dsimp only at hSw)
                  go_simp
                  first | done | with_reducible rfl
                try simp only [Act.put, List.setIfInBounds_toArray, List.set_cons_zero, List.set_cons_succ]
                refine wpAnyH_take (i := 8) (oi := { dst := some 165, op := Op.binOp BinOp.eql 3 (Operand.tmp 163) (Operand.tmp 164) 3, type := 4, pos := "outright.go:70", after := #[{ on := 6, ground := Ground.data }, { on := 7, ground := Ground.data }, { on := 4, ground := Ground.guard }], guard := some (4, true) }) (v := ?_) rfl (by kernel_rfl) (by kernel_rfl) (by kernel_rfl) (fun _ _ _ h => h) (Or.inl ⟨by rfl, ?_⟩) (by assumption) ?_
                rotate_left
                · intro w_ hSw
                  (try dsimp only at hSw)
                  go_simp
                  first | done | with_reducible rfl
                try simp only [Act.put, List.setIfInBounds_toArray, List.set_cons_zero, List.set_cons_succ]
                refine wpAnyH_take (i := 9) (oi := { dst := some 166, op := Op.pick (Operand.tmp 161) (Operand.tmp 165) (Operand.const (Value.bool false)), type := 4, pos := "outright.go:70", after := #[{ on := 4, ground := Ground.data }, { on := 8, ground := Ground.data }], guard := none }) (v := ?_) rfl (by kernel_rfl) (by kernel_rfl) (by kernel_rfl) (fun _ _ _ h => h) (Or.inl ⟨by rfl, ?_⟩) (by assumption) ?_
                rotate_left
                · intro w_ hSw
                  (try dsimp only at hSw)
                  go_simp
                  first | done | with_reducible rfl
                try simp only [Act.put, List.setIfInBounds_toArray, List.set_cons_zero, List.set_cons_succ]
                refine wpAnyH_take (i := 10) (oi := { dst := some 167, op := Op.move (Operand.tmp 166), type := 4, pos := "outright.go:70", after := #[{ on := 9, ground := Ground.data }, { on := 4, ground := Ground.chain }], guard := none }) (v := ?_) rfl (by kernel_rfl) (by kernel_rfl) (by kernel_rfl) (fun _ _ _ h => h) (Or.inl ⟨by rfl, ?_⟩) (by assumption) ?_
                rotate_left
                · intro w_ hSw
                  (try dsimp only at hSw)
                  go_simp
                  first | done | with_reducible rfl
                try simp only [Act.put, List.setIfInBounds_toArray, List.set_cons_zero, List.set_cons_succ]
                refine wpAnyH_take (i := 11) (oi := { dst := some 168, op := Op.move (Operand.tmp 13), type := 9, pos := "outright.go:70", after := #[{ on := 10, ground := Ground.guard }], guard := some (10, true) }) (v := ?_) rfl (by kernel_rfl) (by kernel_rfl) (by kernel_rfl) (fun _ _ _ h => h) (Or.inl ⟨by rfl, ?_⟩) (by assumption) ?_
                rotate_left
                · intro w_ hSw
                  (try dsimp only at hSw)
                  go_simp
                  first | done | with_reducible rfl
                try simp only [Act.put, List.setIfInBounds_toArray, List.set_cons_zero, List.set_cons_succ]
                refine wpAnyH_take (i := 12) (oi := { dst := some 169, op := Op.move (Operand.tmp 17), type := 3, pos := "outright.go:70", after := #[{ on := 10, ground := Ground.guard }], guard := some (10, true) }) (v := ?_) rfl (by kernel_rfl) (by kernel_rfl) (by kernel_rfl) (fun _ _ _ h => h) (Or.inl ⟨by rfl, ?_⟩) (by assumption) ?_
                rotate_left
                · intro w_ hSw
                  (try dsimp only at hSw)
                  go_simp
                  first | done | with_reducible rfl
                try simp only [Act.put, List.setIfInBounds_toArray, List.set_cons_zero, List.set_cons_succ]
                refine wpAnyH_take (i := 13) (oi := { dst := some 170, op := Op.slice 9 (Operand.tmp 168) none (some (Operand.tmp 169)) none, type := 9, pos := "outright.go:70", after := #[{ on := 11, ground := Ground.data }, { on := 12, ground := Ground.data }, { on := 10, ground := Ground.guard }], guard := some (10, true) }) (v := ?_) rfl (by kernel_rfl) (by kernel_rfl) (by kernel_rfl) (fun _ _ _ h => h) (Or.inl ⟨by rfl, ?_⟩) (by assumption) ?_
                rotate_left
                · intro w_ hSw
                  (try dsimp only at hSw)
                  go_simp
                  first | done | with_reducible rfl
                try simp only [Act.put, List.setIfInBounds_toArray, List.set_cons_zero, List.set_cons_succ]
                refine wpAnyH_take (i := 14) (oi := { dst := some 171, op := Op.move (Operand.tmp 15), type := 9, pos := "outright.go:70", after := #[{ on := 10, ground := Ground.guard }], guard := some (10, true) }) (v := ?_) rfl (by kernel_rfl) (by kernel_rfl) (by kernel_rfl) (fun _ _ _ h => h) (Or.inl ⟨by rfl, ?_⟩) (by assumption) ?_
                rotate_left
                · intro w_ hSw
                  (try dsimp only at hSw)
                  go_simp
                  first | done | with_reducible rfl
                try simp only [Act.put, List.setIfInBounds_toArray, List.set_cons_zero, List.set_cons_succ]
                refine wpAnyH_take (i := 15) (oi := { dst := some 172, op := Op.move (Operand.tmp 17), type := 3, pos := "outright.go:70", after := #[{ on := 10, ground := Ground.guard }], guard := some (10, true) }) (v := ?_) rfl (by kernel_rfl) (by kernel_rfl) (by kernel_rfl) (fun _ _ _ h => h) (Or.inl ⟨by rfl, ?_⟩) (by assumption) ?_
                rotate_left
                · intro w_ hSw
                  (try dsimp only at hSw)
                  go_simp
                  first | done | with_reducible rfl
                try simp only [Act.put, List.setIfInBounds_toArray, List.set_cons_zero, List.set_cons_succ]
                refine wpAnyH_take (i := 16) (oi := { dst := some 173, op := Op.slice 9 (Operand.tmp 171) none (some (Operand.tmp 172)) none, type := 9, pos := "outright.go:70", after := #[{ on := 14, ground := Ground.data }, { on := 15, ground := Ground.data }, { on := 10, ground := Ground.guard }], guard := some (10, true) }) (v := ?_) rfl (by kernel_rfl) (by kernel_rfl) (by kernel_rfl) (fun _ _ _ h => h) (Or.inl ⟨by rfl, ?_⟩) (by assumption) ?_
                rotate_left
                · intro w_ hSw
                  (try dsimp only at hSw)
                  go_simp
                  first | done | with_reducible rfl
                try simp only [Act.put, List.setIfInBounds_toArray, List.set_cons_zero, List.set_cons_succ]
                refine wpAnyH_take (i := 17) (oi := { dst := some 174, op := Op.binOp BinOp.eql 9 (Operand.tmp 170) (Operand.tmp 173) 9, type := 4, pos := "outright.go:70", after := #[{ on := 13, ground := Ground.data }, { on := 16, ground := Ground.data }, { on := 10, ground := Ground.guard }], guard := some (10, true) }) (v := ?_) rfl (by kernel_rfl) (by kernel_rfl) (by kernel_rfl) (fun _ _ _ h => h) (Or.inl ⟨by rfl, ?_⟩) (by assumption) ?_
                rotate_left
                · intro w_ hSw
                  (try dsimp only at hSw)
                  go_simp
                  first | done | with_reducible rfl
                try simp only [Act.put, List.setIfInBounds_toArray, List.set_cons_zero, List.set_cons_succ]
                refine wpAnyH_take (i := 18) (oi := { dst := some 175, op := Op.pick (Operand.tmp 167) (Operand.tmp 174) (Operand.const (Value.bool false)), type := 4, pos := "outright.go:70", after := #[{ on := 10, ground := Ground.data }, { on := 17, ground := Ground.data }], guard := none }) (v := ?_) rfl (by kernel_rfl) (by kernel_rfl) (by kernel_rfl) (fun _ _ _ h => h) (Or.inl ⟨by rfl, ?_⟩) (by assumption) ?_
                rotate_left
                · intro w_ hSw
                  (try dsimp only at hSw)
                  go_simp
                  first | done | with_reducible rfl
                try simp only [Act.put, List.setIfInBounds_toArray, List.set_cons_zero, List.set_cons_succ]
                refine wpAnyH_take (i := 19) (oi := { dst := some 8, op := Op.assign (Operand.tmp 175), type := 4, pos := "outright.go:70", after := #[{ on := 18, ground := Ground.data }, { on := 10, ground := Ground.chain }, { on := 0, ground := Ground.phase }, { on := 1, ground := Ground.phase }, { on := 2, ground := Ground.phase }, { on := 3, ground := Ground.phase }, { on := 4, ground := Ground.phase }, { on := 5, ground := Ground.phase }, { on := 6, ground := Ground.phase }, { on := 7, ground := Ground.phase }, { on := 8, ground := Ground.phase }, { on := 9, ground := Ground.phase }, { on := 10, ground := Ground.phase }, { on := 11, ground := Ground.phase }, { on := 12, ground := Ground.phase }, { on := 13, ground := Ground.phase }, { on := 14, ground := Ground.phase }, { on := 15, ground := Ground.phase }, { on := 16, ground := Ground.phase }, { on := 17, ground := Ground.phase }, { on := 18, ground := Ground.phase }], guard := none }) (v := ?_) rfl (by kernel_rfl) (by kernel_rfl) (by kernel_rfl) (fun _ _ _ h => h) (Or.inl ⟨by rfl, ?_⟩) (by assumption) ?_
                rotate_left
                · intro w_ hSw
                  (try dsimp only at hSw)
                  go_simp
                  first | done | with_reducible rfl
                try simp only [Act.put, List.setIfInBounds_toArray, List.set_cons_zero, List.set_cons_succ]
                refine wpAnyH_done (by kernel_rfl) ?_ _
                go_wp2
                exact bodyPost_ret (v := .bool true) (by simp [results, Try.results8, go_sem]) rfl ⟨rfl, (by repeat (first | exact BB.out | refine bl_drewN ?_ _ | refine bl_drew ?_ | refine bl_alloc ?_ _))⟩
            · have cq : cutE two = 1 := heq
              have aq1 : decide (1 ≤ two) = false := decide_eq_false (by omega)
              have HWQ := Lib.hid hwq
              have LQ := Lib.hid lq1
              clear hwq heq lq1
              go_wp2
              all_goals exact bodyPost_ret (v := .bool true) (by simp [results, Try.results8, go_sem]) rfl ⟨rfl, BB.out⟩
            · have cq : cutE two = 1 := heq
              have aq1 : decide (1 ≤ two) = true := decide_eq_true lq1
              have aq2 : decide (two ≤ 32) = false := decide_eq_false (by omega)
              have HWQ := Lib.hid hwq
              have LQ1 := Lib.hid lq1
              have LQ2 := Lib.hid lq2
              clear hwq heq lq1 lq2
              go_wp2
              all_goals exact bodyPost_ret (v := .bool true) (by simp [results, Try.results8, go_sem]) rfl ⟨rfl, BB.out⟩
          · have cp : cutE one = 1 := hep
            have ap1 : decide (1 ≤ one) = false := decide_eq_false (by omega)
            have HWP := Lib.hid hwp
            have LP := Lib.hid lp1
            clear hwp hep lp1
            rcases wd_cases two with ⟨hwq, heq, lq1, lq2⟩ | ⟨hwq, heq, lq1 | ⟨lq1, lq2⟩⟩
            · have cq : cutE two = 0 := heq
              have aq1 : decide (1 ≤ two) = true := decide_eq_true lq1
              have aq2 : decide (two ≤ 32) = true := decide_eq_true lq2
              have HWQ := Lib.hid hwq
              have LQ1 := Lib.hid lq1
              have LQ2 := Lib.hid lq2
              clear hwq heq lq1 lq2
              go_wp2
              all_goals exact bodyPost_ret (v := .bool true) (by simp [results, Try.results8, go_sem]) rfl ⟨rfl, BB.out⟩
            · have cq : cutE two = 1 := heq
              have aq1 : decide (1 ≤ two) = false := decide_eq_false (by omega)
              have HWQ := Lib.hid hwq
              have LQ := Lib.hid lq1
              clear hwq heq lq1
              go_wp2
              all_goals exact bodyPost_ret (v := .bool true) (by simp [results, Try.results8, go_sem]) rfl ⟨rfl, BB.out⟩
            · have cq : cutE two = 1 := heq
              have aq1 : decide (1 ≤ two) = true := decide_eq_true lq1
              have aq2 : decide (two ≤ 32) = false := decide_eq_false (by omega)
              have HWQ := Lib.hid hwq
              have LQ1 := Lib.hid lq1
              have LQ2 := Lib.hid lq2
              clear hwq heq lq1 lq2
              go_wp2
              all_goals exact bodyPost_ret (v := .bool true) (by simp [results, Try.results8, go_sem]) rfl ⟨rfl, BB.out⟩
          · have cp : cutE one = 1 := hep
            have ap1 : decide (1 ≤ one) = true := decide_eq_true lp1
            have ap2 : decide (one ≤ 32) = false := decide_eq_false (by omega)
            have HWP := Lib.hid hwp
            have LP1 := Lib.hid lp1
            have LP2 := Lib.hid lp2
            clear hwp hep lp1 lp2
            rcases wd_cases two with ⟨hwq, heq, lq1, lq2⟩ | ⟨hwq, heq, lq1 | ⟨lq1, lq2⟩⟩
            · have cq : cutE two = 0 := heq
              have aq1 : decide (1 ≤ two) = true := decide_eq_true lq1
              have aq2 : decide (two ≤ 32) = true := decide_eq_true lq2
              have HWQ := Lib.hid hwq
              have LQ1 := Lib.hid lq1
              have LQ2 := Lib.hid lq2
              clear hwq heq lq1 lq2
              go_wp2
              all_goals exact bodyPost_ret (v := .bool true) (by simp [results, Try.results8, go_sem]) rfl ⟨rfl, BB.out⟩
            · have cq : cutE two = 1 := heq
              have aq1 : decide (1 ≤ two) = false := decide_eq_false (by omega)
              have HWQ := Lib.hid hwq
              have LQ := Lib.hid lq1
              clear hwq heq lq1
              go_wp2
              all_goals exact bodyPost_ret (v := .bool true) (by simp [results, Try.results8, go_sem]) rfl ⟨rfl, BB.out⟩
            · have cq : cutE two = 1 := heq
              have aq1 : decide (1 ≤ two) = true := decide_eq_true lq1
              have aq2 : decide (two ≤ 32) = false := decide_eq_false (by omega)
              have HWQ := Lib.hid hwq
              have LQ1 := Lib.hid lq1
              have LQ2 := Lib.hid lq2
              clear hwq heq lq1 lq2
              go_wp2
              all_goals exact bodyPost_ret (v := .bool true) (by simp [results, Try.results8, go_sem]) rfl ⟨rfl, BB.out⟩
    · have j1 : (Y != 0) = true := by simpa using hy0
      have j3 : decide (Y = 0) = false := decide_eq_false hy0
      clear hy0
      go_wp2
      all_goals exact bodyPost_ret (v := .bool true) (by simp [results, Try.results8, go_sem]) rfl ⟨rfl, BB.out⟩
  · have w1 : (fx.toList == []) = true := by
      rw [← HFX.out, (form_nil ka a l).2 (fun h => hx0 (HXX.out.symm.trans h.1)), Lib.toList_data]; rfl
    have i1 : (X != 0) = true := by simpa using hx0
    have i2 : (X == 0) = false := by simpa using hx0
    have i3 : decide (X = 0) = false := decide_eq_false hx0
    clear hx0
    go_wp2
    all_goals exact bodyPost_ret (v := .bool true) (by simp [results, Try.results8, go_sem]) rfl ⟨rfl, BB.out⟩
end Go.Proofs.Ytljfigikkajlnaa
