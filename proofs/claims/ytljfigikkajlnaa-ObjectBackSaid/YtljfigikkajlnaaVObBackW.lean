/- DERIVED. ObjectBack: the walk of the law. -/
import Derived.Test.YtljfigikkajlnaaVm6
import Derived.Test.YtljfigikkajlnaaVObAux
namespace Go.Proofs.Ytljfigikkajlnaa
open Go.RowKit Go.Lib Go.Proofs.YtljfigikkajlnaaW.PrintWords
set_option linter.unusedVariables false
set_option linter.unusedSimpArgs false
attribute [local go_sem high] eqD eqCell
theorem back_byte {k p1 : ByteArray} {n0 : Int} (h : p1 = prefS n0.toNat ++ k) (hn : 0 ≤ n0 ∧ n0 ≤ 4095) : ∃ b0 b1 : Int, (0 ≤ b0 ∧ b0 ≤ 15) ∧ (0 ≤ b1 ∧ b1 ≤ 255) ∧ b0 * 256 + b1 = n0 ∧
    (∀ W, (Instr.index 9 (.string p1) (.int .i64 0)).run Try.prog W = .ok (.int .u8 b0) W) ∧ (∀ W, (Instr.index 9 (.string p1) (.int .i64 1)).run Try.prog W = .ok (.int .u8 b1) W) ∧
    ∀ W, (Instr.slice 9 (.string p1) (some (.int .i64 2)) none none).run Try.prog W = .ok (.string k) W := by
  have hz : p1.size = 2 + k.size := by rw [h, ByteArray.size_append, prefS_size]
  have hl : p1.data.toList = UInt8.ofNat (n0.toNat / 256) :: UInt8.ofNat (n0.toNat % 256) :: k.data.toList := by rw [h, ByteArray.data_append, Array.toList_append, pre_bytes]; rfl
  have h0 : p1.data.toList[0]? = some (UInt8.ofNat (n0.toNat / 256)) := by rw [hl]; rfl
  have h1 : p1.data.toList[1]? = some (UInt8.ofNat (n0.toNat % 256)) := by rw [hl]; rfl
  rw [Lib.data_getElem? p1 0 (by omega)] at h0
  rw [Lib.data_getElem? p1 1 (by omega)] at h1
  have e0 := Option.some.inj h0
  have e1 := Option.some.inj h1
  refine ⟨((n0.toNat / 256 : Nat) : Int), ((n0.toNat % 256 : Nat) : Int), by omega, by omega, by omega, fun W => ?_, fun W => ?_, fun W => ?_⟩
  · rw [run_index_string W _ _ _ _ Try.underlying9, dif_pos ⟨by omega, by omega⟩]
    show Result.ok (Value.int .u8 ((p1[0]'(by omega)).toNat : Nat)) W = _
    rw [e0, UInt8.toNat_ofNat', Nat.mod_eq_of_lt (by omega)]
  · rw [run_index_string W _ _ _ _ Try.underlying9, dif_pos ⟨by omega, by omega⟩]
    show Result.ok (Value.int .u8 ((p1[1]'(by omega)).toNat : Nat)) W = _
    rw [e1, UInt8.toNat_ofNat', Nat.mod_eq_of_lt (by omega)]
  · have hx : p1.extract 2 p1.size = k := by
      apply ByteArray.ext
      apply Array.toList_inj.1
      rw [extract_to_end, hl]; rfl
    have hj : (2 : Int) ≤ (p1.size : Int) := by omega
    simp [Instr.slice, Instr.sliceBounds, Instr.sliceBound, asIntOf, run_underlying Try.underlying9, hj, hx]
theorem back_110 {k : ByteArray} {a : List Dot} {l : List Sib} (h : packE k a l = 110) (hc : chkE k a l = 0) : a.length = 0 := by
  rw [packE, if_pos hc] at h
  by_cases hb : absB a l = true
  · simp only [absB, Bool.and_eq_true, decide_eq_true_eq] at hb
    exact hb.1
  · rw [if_neg hb] at h; exact absurd h (by decide)
theorem back_other {k : ByteArray} {a : List Dot} {l : List Sib} {x : Int} (h : packE k a l = x) (h0 : x ≠ 0) (h1 : x ≠ 110) : chkE k a l = x := by
  by_cases hc : chkE k a l = 0
  · rw [packE, if_pos hc] at h
    split at h
    · exact absurd h.symm h1
    · exact absurd h.symm h0
  · rw [packE, if_neg hc] at h; exact h
theorem osame_self (k : ByteArray) (a : List Dot) (l : List Sib) : (decide (k = k) && stEq a l a l) = true := by simp [stEq]
theorem unp_lens (k v : ByteArray) : (unpA k v).length ≤ 64 ∧ (unpL k v).length ≤ 64 := by
  have h := dec_lens v.data.toList
  unfold unpA unpL
  split
  · exact h
  · simp
theorem unp_cases (k v : ByteArray) {uk : ByteArray} {P : List Dot} {Q : List Sib} {ue : Int} (h0 : unpK k v = uk) (h1 : unpA k v = P) (h2 : unpL k v = Q) (h3 : unpE k v = ue) :
    (ue = 0 ∧ packE uk P Q = 0 ∧ packC uk P Q = (k, v) ∧ chkE uk P Q = 0 ∧ StR P Q) ∨ (ue = 4 ∧ uk = ⟨#[]⟩ ∧ P = [] ∧ Q = []) := by
  subst h0 h1 h2 h3
  cases hb : unpB k v with
  | true =>
    obtain ⟨e1, e2, e3, e4⟩ := unp_yes hb
    rw [e1, e2, e3, e4]
    simp only [unpB, Bool.and_eq_true, decide_eq_true_eq] at hb
    obtain ⟨⟨⟨b1, b2⟩, b3⟩, b4⟩ := hb
    have b5 := dec_enc v.data.toList b2
    refine .inl ⟨rfl, b3, ?_, ?_, dec_str _⟩
    · rw [packC, if_pos b3, b4, b5.2]
    · unfold packE at b3
      by_cases hc : chkE (kd k) (decA v.data.toList) (decL v.data.toList) = 0
      · exact hc
      · rw [if_neg hc] at b3; exact absurd b3 hc
  | false =>
    obtain ⟨e1, e2, e3, e4⟩ := unp_no hb
    exact .inr ⟨e4, e1, e2, e3⟩
theorem back_yes {k p1 p2 : ByteArray} {a : List Dot} {l : List Sib} {n0 n1 : Int} (hx : packE k a l = 0) (hp : packC k a l = (p1, p2)) (h0 : plN k = n0) (h1 : plE k = n1) (hr : StR a l) :
    n1 = 0 ∧ unpK p1 p2 = k ∧ unpA p1 p2 = a ∧ unpL p1 p2 = l ∧ unpE p1 p2 = 0 ∧ p1.size + p2.size ≤ 320 ∧ p1.size = 2 + k.size ∧ kd p1 = k ∧ (0 ≤ n0 ∧ n0 ≤ 4095) ∧ p1 = prefS n0.toNat ++ k := by
  have hc : chkE k a l = 0 := by
    unfold packE at hx
    by_cases hc : chkE k a l = 0
    · exact hc
    · rw [if_neg hc] at hx; exact absurd hx hc
  obtain ⟨c1, c2, c3⟩ := chk_cases hc
  rw [packC, if_pos hx] at hp
  obtain ⟨rfl, rfl⟩ := Prod.mk.inj hp
  have hd := enc_dec c2 (fun d hd => (hr.1 d hd).2) (fun x hx => (hr.2 x hx).2)
  have hk := (keyB_iff _).1 c1
  have hz : (packK k).size = 2 + k.size := by rw [packK, ByteArray.size_append, prefS_size]
  have hkd : kd (packK k) = k := by
    apply ByteArray.ext
    apply Array.toList_inj.1
    rw [kdL, packK, ByteArray.data_append, Array.toList_append, pre_bytes]
    rfl
  have hu : unpB (packK k) ⟨(encS a l).toArray⟩ = true := by
    simp only [unpB, Bool.and_eq_true, decide_eq_true_eq]
    rw [hkd, hd.1, hd.2.1, hd.2.2]
    exact ⟨⟨⟨by omega, rfl⟩, hx⟩, rfl⟩
  obtain ⟨e1, e2, e3, e4⟩ := unp_yes hu
  have hn : n0 = placeI k := by rw [← h0, plN, if_pos c1]
  have hl := placeN_lt k
  refine ⟨by rw [← h1, plE, if_pos c1], e1.trans hkd, e2.trans hd.2.1, e3.trans hd.2.2, e4, ?_, hz, hkd, ?_, ?_⟩
  · rw [hz]
    have : (⟨(encS a l).toArray⟩ : ByteArray).size = (encS a l).length := by simp [ByteArray.size]
    omega
  · omega
  · rw [hn, ← hl.2]; rfl
set_option maxRecDepth 100000 in
set_option maxHeartbeats 25600000 in
theorem back_walk (ko ck cv : ByteArray) (A B : Option Addr) (c d : Nat) (a : List Dot) (l : List Sib) (w : World) (ha : GR.Rd dotK w A a) (hl : GR.Rd sibK w B l)
    (sa : a.length * 16 ≤ 140737488351232) (sl : l.length * 40 ≤ 140737488351232) (hr : StR a l) (sk : ck.size ≤ 140737488355328) (sv : cv.size ≤ 140737488355328) :
    Calls Try.prog 7 #[.agg #[.string ko, .slice A a.length c, .slice B l.length d], .agg #[.string ck, .string cv]] w fun e w' => e = .returned (.bool true) ∧ Below w.heap.size w w' := by
  obtain ⟨⟨p1, p2⟩, hp⟩ : ∃ p, packC ko a l = p := ⟨_, rfl⟩
  obtain ⟨x, hx⟩ : ∃ x, packE ko a l = x := ⟨_, rfl⟩
  obtain ⟨P, hP⟩ : ∃ P, unpA ck cv = P := ⟨_, rfl⟩
  obtain ⟨Q, hQ⟩ : ∃ Q, unpL ck cv = Q := ⟨_, rfl⟩
  obtain ⟨uk, huk⟩ : ∃ y, unpK ck cv = y := ⟨_, rfl⟩
  obtain ⟨ue, hue⟩ : ∃ y, unpE ck cv = y := ⟨_, rfl⟩
  obtain ⟨n0, hn0⟩ : ∃ y, plN ko = y := ⟨_, rfl⟩
  obtain ⟨n1, hn1⟩ : ∃ y, plE ko = y := ⟨_, rfl⟩
  have HUL := Lib.hid (unp_lens ck cv)
  rw [hP, hQ] at HUL
  have jb1 : P.length * 16 ≤ 140737488355328 := by have := HUL.out.1; omega
  have jb2 : Q.length * 40 ≤ 140737488355328 := by have := HUL.out.2; omega
  have ja1 : a.length * 16 ≤ 140737488355328 := by omega
  have ja2 : l.length * 40 ≤ 140737488355328 := by omega
  have HA := Lib.hid ha
  have HL := Lib.hid hl
  have HR := Lib.hid hr
  have HP := Lib.hid hp
  have HX := Lib.hid hx
  have HPP := Lib.hid hP
  have HQQ := Lib.hid hQ
  have HUK := Lib.hid huk
  have HUE := Lib.hid hue
  have HN0 := Lib.hid hn0
  have HN1 := Lib.hid hn1
  clear ha hl hr hp hx hP hQ huk hue hn0 hn1
  go_enter Try.func7, Try.ntmps7
  go_wp2_with fail
  obtain ⟨Z1, hZ1⟩ : ∃ W : World, W = (w.alloc (.cells #[.string ko, .slice A a.length c, .slice B l.length d] 27)).alloc (.cells #[.string ck, .string cv] 48) := ⟨_, rfl⟩
  rw [← hZ1]
  have LL : Hid (Below w.heap.size w Z1) := Lib.hid (by rw [hZ1]; exact (by repeat (first | exact Below.refl _ _ | refine bl_drewN ?_ _ | refine bl_drew ?_ | refine bl_alloc ?_ _)))
  have X_po : Hid (GR.Blk Z1 (w.heap.size) 27 #[.string ko, .slice A a.length c, .slice B l.length d]) := Lib.hid (by rw [hZ1]; exact (GR.Blk.new _ _ _).alloc _)
  have X_pc : Hid (GR.Blk Z1 (w.heap.size + 1) 48 #[.string ck, .string cv]) := Lib.hid (by rw [hZ1]; exact new_at _ _ _ (by simp))
  clear hZ1
  have F1 := Lib.hid (HS.nil Z1)
  have F2 := Lib.hid (HS.addB F1.out (g := w.heap.size) (t := 27) (cs := #[.string ko, .slice A a.length c, .slice B l.length d]) (X_po.out))
  clear F1
  have F3 := Lib.hid (HS.addB F2.out (g := w.heap.size + 1) (t := 48) (cs := #[.string ck, .string cv]) (X_pc.out))
  clear F2
  clear X_po X_pc
  have F4 := Lib.hid (F3.out.addR (HA.out.below LL.out))
  clear F3
  have F5 := Lib.hid (F4.out.addR (HL.out.below LL.out))
  clear F4
  have BB := LL
  clear LL
  refine (works_any _).mono ?_
  rintro e u2 ⟨rfl, hb⟩
  have F6 := Lib.hid (F5.out.below hb)
  clear F5
  replace BB := Lib.hid (bl_then BB.out hb)
  clear hb
  have po_0 : u2.cell? ⟨w.heap.size, 0, none⟩ = some (.string ko) := (F6.out.blk 3 rfl).cell 0
  have po_1 : u2.cell? ⟨w.heap.size, 1, none⟩ = some (.slice A a.length c) := (F6.out.blk 3 rfl).cell 1
  have po_2 : u2.cell? ⟨w.heap.size, 2, none⟩ = some (.slice B l.length d) := (F6.out.blk 3 rfl).cell 2
  have po_lt : w.heap.size < u2.heap.size := (F6.out.blk 3 rfl).lt
  go_wp2_with fail
  clear po_0 po_1 po_2 po_lt
  refine (twinR_any ko A B c d a l _ (F6.out.rd 1 rfl) (F6.out.rd 0 rfl) sa sl).mono ?_
  rintro e u3 ⟨T11, T21, t11, t21, rfl, hra, hrl, _, _, hb⟩
  have F7 := Lib.hid (F6.out.below hb)
  clear F6
  have F8 := Lib.hid (F7.out.addR (hra))
  clear F7
  have F9 := Lib.hid (F8.out.addR (hrl))
  clear F8
  replace BB := Lib.hid (bl_then BB.out hb)
  clear hb
  clear hra hrl
  go_wp2_with fail
  refine (packq p1 p2 x (F9.out.rd 1 rfl) (F9.out.rd 0 rfl) rfl rfl HR.out HP.out HX.out).mono ?_
  rintro e u4 ⟨rfl, hb⟩
  have F10 := Lib.hid (F9.out.below hb)
  clear F9
  replace BB := Lib.hid (bl_then BB.out hb)
  clear hb
  by_cases hx0 : x = 0
  · subst hx0
    obtain ⟨g1, g2, g3, g4, g5, g6, g7, g8, g9, g10⟩ := back_yes HX.out HP.out HN0.out HN1.out HR.out
    subst g1
    have G2 := Lib.hid g2
    have G3 := Lib.hid g3
    have G4 := Lib.hid g4
    have G5 := Lib.hid g5
    have G6 := Lib.hid g6
    have G7 := Lib.hid g7
    have G8 := Lib.hid g8
    have G9 := Lib.hid g9
    have G10 := Lib.hid g10
    clear g2 g3 g4 g5 g6 g7 g8 g9 g10
    have po_0 : u4.cell? ⟨w.heap.size, 0, none⟩ = some (.string ko) := (F10.out.blk 5 rfl).cell 0
    have po_1 : u4.cell? ⟨w.heap.size, 1, none⟩ = some (.slice A a.length c) := (F10.out.blk 5 rfl).cell 1
    have po_2 : u4.cell? ⟨w.heap.size, 2, none⟩ = some (.slice B l.length d) := (F10.out.blk 5 rfl).cell 2
    have po_lt : w.heap.size < u4.heap.size := (F10.out.blk 5 rfl).lt
    go_wp2_with fail
    clear po_0 po_1 po_2 po_lt
    obtain ⟨Z5, hZ5⟩ : ∃ W : World, W = u4.alloc (.cells #[.string p1, .string p2] 48) := ⟨_, rfl⟩
    rw [← hZ5]
    have LL : Hid (Below u4.heap.size u4 Z5) := Lib.hid (by rw [hZ5]; exact (by repeat (first | exact Below.refl _ _ | refine bl_drewN ?_ _ | refine bl_drew ?_ | refine bl_alloc ?_ _)))
    have X_pd : Hid (GR.Blk Z5 (u4.heap.size) 48 #[.string p1, .string p2]) := Lib.hid (by rw [hZ5]; exact GR.Blk.new _ _ _)
    clear hZ5
    have F11 := Lib.hid (F10.out.below LL.out)
    clear F10
    have F12 := Lib.hid (HS.addB F11.out (g := u4.heap.size) (t := 48) (cs := #[.string p1, .string p2]) (X_pd.out))
    clear F11
    clear X_pd
    replace BB := Lib.hid (bl_then BB.out LL.out)
    clear LL
    refine (unpq p1 p2 ko a l 0 (by have := G6.out; omega) (by have := G6.out; omega) G2.out G3.out G4.out G5.out ja1 ja2).mono ?_
    rintro e u6 ⟨U3, U4, v3, v4, rfl, hra, hrl, hb⟩
    have F13 := Lib.hid (F12.out.below hb)
    clear F12
    have F14 := Lib.hid (F13.out.addR (hra))
    clear F13
    have F15 := Lib.hid (F14.out.addR (hrl))
    clear F14
    replace BB := Lib.hid (bl_then BB.out hb)
    clear hb
    clear hra hrl
    have po_0 : u6.cell? ⟨w.heap.size, 0, none⟩ = some (.string ko) := (F15.out.blk 8 rfl).cell 0
    have po_1 : u6.cell? ⟨w.heap.size, 1, none⟩ = some (.slice A a.length c) := (F15.out.blk 8 rfl).cell 1
    have po_2 : u6.cell? ⟨w.heap.size, 2, none⟩ = some (.slice B l.length d) := (F15.out.blk 8 rfl).cell 2
    have pd_0 : u6.cell? ⟨u4.heap.size, 0, none⟩ = some (.string p1) := (F15.out.blk 2 rfl).cell 0
    have pd_1 : u6.cell? ⟨u4.heap.size, 1, none⟩ = some (.string p2) := (F15.out.blk 2 rfl).cell 1
    have po_lt : w.heap.size < u6.heap.size := (F15.out.blk 8 rfl).lt
    have pd_lt : u4.heap.size < u6.heap.size := (F15.out.blk 2 rfl).lt
    go_wp2_with fail
    clear po_0 po_1 po_2 po_lt pd_0 pd_1 pd_lt
    obtain ⟨Z7, hZ7⟩ : ∃ W : World, W = u6.alloc (.cells #[.string ko, .slice U3 a.length v3, .slice U4 l.length v4] 27) := ⟨_, rfl⟩
    rw [← hZ7]
    have LL : Hid (Below u6.heap.size u6 Z7) := Lib.hid (by rw [hZ7]; exact (by repeat (first | exact Below.refl _ _ | refine bl_drewN ?_ _ | refine bl_drew ?_ | refine bl_alloc ?_ _)))
    have X_pp : Hid (GR.Blk Z7 (u6.heap.size) 27 #[.string ko, .slice U3 a.length v3, .slice U4 l.length v4]) := Lib.hid (by rw [hZ7]; exact GR.Blk.new _ _ _)
    clear hZ7
    have F16 := Lib.hid (F15.out.below LL.out)
    clear F15
    have F17 := Lib.hid (HS.addB F16.out (g := u6.heap.size) (t := 27) (cs := #[.string ko, .slice U3 a.length v3, .slice U4 l.length v4]) (X_pp.out))
    clear F16
    clear X_pp
    replace BB := Lib.hid (bl_then BB.out LL.out)
    clear LL
    refine (placeq n0 0 HN0.out HN1.out).mono ?_
    rintro e u8 ⟨rfl, hb⟩
    have F18 := Lib.hid (F17.out.below hb)
    clear F17
    replace BB := Lib.hid (bl_then BB.out hb)
    clear hb
    have z1 : ((p1.size : Int) == 2 + (ko.size : Int)) = true := by have := G7.out; simp; omega
    have z2 : decide (320 < (p1.size : Int) + (p2.size : Int)) = false := by have := G6.out; simp; omega
    obtain ⟨b0, b1, hb0, hb1, hb2, y1, y2, y3⟩ := back_byte G10.out G9.out
    have m1 : IntKind.i64.wrap ((p1.size : Int) + (p2.size : Int)) = (p1.size : Int) + (p2.size : Int) := IntWalk.i64_in _ (by have := G6.out; omega)
    have m2 : IntKind.i64.wrap (2 + (ko.size : Int)) = 2 + (ko.size : Int) := IntWalk.i64_in _ (by have := G7.out; have := G6.out; omega)
    have m3 : IntKind.i64.wrap (b0 * 256) = b0 * 256 := IntWalk.i64_in _ (by omega)
    have m4 : IntKind.i64.wrap (b0 * 256 + b1) = n0 := (IntWalk.i64_in _ (by omega)).trans hb2
    have m5 : IntKind.i64.wrap b0 = b0 := IntWalk.i64_in _ (by omega)
    have m6 : IntKind.i64.wrap b1 = b1 := IntWalk.i64_in _ (by omega)
    have m7 : ((p1.size : Int) != 2 + (ko.size : Int)) = false := by have := G7.out; simp; omega
    have m8 : (p1.size != 2 + ko.size) = false := by have := G7.out; simp; omega
    clear hb0 hb1 hb2
    have z3 : decide (n0 < 0) = false := by have := G9.out.1; simp; omega
    have z4 : decide (4095 < n0) = false := by have := G9.out.2; simp; omega
    go_upto_region 7 with fail
    have K0 : Hid (u8.cell? ⟨w.heap.size, 0, none⟩ = some (.string ko)) := Lib.hid ((F18.out.blk 9 rfl).cell 0)
    have K1 : Hid (u8.cell? ⟨w.heap.size, 1, none⟩ = some (.slice A a.length c)) := Lib.hid ((F18.out.blk 9 rfl).cell 1)
    have K2 : Hid (u8.cell? ⟨w.heap.size, 2, none⟩ = some (.slice B l.length d)) := Lib.hid ((F18.out.blk 9 rfl).cell 2)
    have K3 : Hid (u8.cell? ⟨u6.heap.size, 0, none⟩ = some (.string ko)) := Lib.hid ((F18.out.blk 0 rfl).cell 0)
    have K4 : Hid (u8.cell? ⟨u6.heap.size, 1, none⟩ = some (.slice U3 a.length v3)) := Lib.hid ((F18.out.blk 0 rfl).cell 1)
    have K5 : Hid (u8.cell? ⟨u6.heap.size, 2, none⟩ = some (.slice U4 l.length v4)) := Lib.hid ((F18.out.blk 0 rfl).cell 2)
    have K6 : Hid (u8.cell? ⟨u4.heap.size, 0, none⟩ = some (.string p1)) := Lib.hid ((F18.out.blk 3 rfl).cell 0)
    have K7 : Hid (u8.cell? ⟨u4.heap.size, 1, none⟩ = some (.string p2)) := Lib.hid ((F18.out.blk 3 rfl).cell 1)
    have D_da := Lib.hid (F18.out.rd 2 rfl)
    have D_dl := Lib.hid (F18.out.rd 1 rfl)
    have D_ra := Lib.hid (F18.out.rd 7 rfl)
    have D_rl := Lib.hid (F18.out.rd 6 rfl)
    have po_lt : w.heap.size < u8.heap.size := (F18.out.blk 9 rfl).lt
    have pp_lt : u6.heap.size < u8.heap.size := (F18.out.blk 0 rfl).lt
    have pd_lt : u4.heap.size < u8.heap.size := (F18.out.blk 3 rfl).lt
    have HR := Lib.hid (Below.refl u8.heap.size u8)
    refine wp_region_held_drew (S := fun w' => w'.cell? ⟨w.heap.size, 0, none⟩ = some (.string ko) ∧ w'.cell? ⟨w.heap.size, 1, none⟩ = some (.slice A a.length c) ∧ w'.cell? ⟨w.heap.size, 2, none⟩ = some (.slice B l.length d) ∧ w'.cell? ⟨u6.heap.size, 0, none⟩ = some (.string ko) ∧ w'.cell? ⟨u6.heap.size, 1, none⟩ = some (.slice U3 a.length v3) ∧ w'.cell? ⟨u6.heap.size, 2, none⟩ = some (.slice U4 l.length v4) ∧ w'.cell? ⟨u4.heap.size, 0, none⟩ = some (.string p1) ∧ w'.cell? ⟨u4.heap.size, 1, none⟩ = some (.string p2)) (by kernel_rfl) ?_ (fun hHeld => ?_)
    · exact ⟨K0.out, K1.out, K2.out, K3.out, K4.out, K5.out, K6.out, K7.out⟩
    refine wpAnyH_take (i := 0) (oi := { dst := some 36, op := Op.move (Operand.tmp 8), type := 33, pos := "outright.go:28", after := #[], guard := none }) (v := ?_) rfl (by kernel_rfl) (by kernel_rfl) (by kernel_rfl) (fun _ _ _ h => h) (Or.inl ⟨by rfl, ?_⟩) (by assumption) ?_
    rotate_left
    · intro w_ hSw
      (try dsimp only at hSw)
      go_simp
      first | done | with_reducible rfl
    try simp only [Act.put, List.setIfInBounds_toArray, List.set_cons_zero, List.set_cons_succ]
    refine wpAnyH_take (i := 1) (oi := { dst := some 37, op := Op.binOp BinOp.neq 33 (Operand.tmp 36) (Operand.const (Value.int IntKind.i64 0)) 33, type := 4, pos := "outright.go:28", after := #[{ on := 0, ground := Ground.data }], guard := none }) (v := ?_) rfl (by kernel_rfl) (by kernel_rfl) (by kernel_rfl) (fun _ _ _ h => h) (Or.inl ⟨by rfl, ?_⟩) (by assumption) ?_
    rotate_left
    · intro w_ hSw
      (try dsimp only at hSw)
      go_simp
      first | done | with_reducible rfl
    try simp only [Act.put, List.setIfInBounds_toArray, List.set_cons_zero, List.set_cons_succ]
    refine wpAnyH_take (i := 2) (oi := { dst := some 38, op := Op.move (Operand.tmp 37), type := 4, pos := "outright.go:28", after := #[{ on := 1, ground := Ground.data }], guard := none }) (v := ?_) rfl (by kernel_rfl) (by kernel_rfl) (by kernel_rfl) (fun _ _ _ h => h) (Or.inl ⟨by rfl, ?_⟩) (by assumption) ?_
    rotate_left
    · intro w_ hSw
      (try dsimp only at hSw)
      go_simp
      first | done | with_reducible rfl
    try simp only [Act.put, List.setIfInBounds_toArray, List.set_cons_zero, List.set_cons_succ]
    refine wpAnyH_take (i := 3) (oi := { dst := some 39, op := Op.move (Operand.tmp 10), type := 33, pos := "outright.go:28", after := #[{ on := 2, ground := Ground.guard }], guard := some (2, false) }) (v := ?_) rfl (by kernel_rfl) (by kernel_rfl) (by kernel_rfl) (fun _ _ _ h => h) (Or.inl ⟨by rfl, ?_⟩) (by assumption) ?_
    rotate_left
    · intro w_ hSw
      (try dsimp only at hSw)
      go_simp
      first | done | with_reducible rfl
    try simp only [Act.put, List.setIfInBounds_toArray, List.set_cons_zero, List.set_cons_succ]
    refine wpAnyH_take (i := 4) (oi := { dst := some 40, op := Op.binOp BinOp.neq 33 (Operand.tmp 39) (Operand.const (Value.int IntKind.i64 0)) 33, type := 4, pos := "outright.go:28", after := #[{ on := 3, ground := Ground.data }, { on := 2, ground := Ground.guard }], guard := some (2, false) }) (v := ?_) rfl (by kernel_rfl) (by kernel_rfl) (by kernel_rfl) (fun _ _ _ h => h) (Or.inl ⟨by rfl, ?_⟩) (by assumption) ?_
    rotate_left
    · intro w_ hSw
      (try dsimp only at hSw)
      go_simp
      first | done | with_reducible rfl
    try simp only [Act.put, List.setIfInBounds_toArray, List.set_cons_zero, List.set_cons_succ]
    refine wpAnyH_take (i := 5) (oi := { dst := some 41, op := Op.pick (Operand.tmp 38) (Operand.const (Value.bool true)) (Operand.tmp 40), type := 4, pos := "outright.go:28", after := #[{ on := 2, ground := Ground.data }, { on := 4, ground := Ground.data }], guard := none }) (v := ?_) rfl (by kernel_rfl) (by kernel_rfl) (by kernel_rfl) (fun _ _ _ h => h) (Or.inl ⟨by rfl, ?_⟩) (by assumption) ?_
    rotate_left
    · intro w_ hSw
      (try dsimp only at hSw)
      go_simp
      first | done | with_reducible rfl
    try simp only [Act.put, List.setIfInBounds_toArray, List.set_cons_zero, List.set_cons_succ]
    refine wpAnyH_take (i := 6) (oi := { dst := some 42, op := Op.move (Operand.tmp 41), type := 4, pos := "outright.go:28", after := #[{ on := 5, ground := Ground.data }, { on := 2, ground := Ground.chain }], guard := none }) (v := ?_) rfl (by kernel_rfl) (by kernel_rfl) (by kernel_rfl) (fun _ _ _ h => h) (Or.inl ⟨by rfl, ?_⟩) (by assumption) ?_
    rotate_left
    · intro w_ hSw
      (try dsimp only at hSw)
      go_simp
      first | done | with_reducible rfl
    try simp only [Act.put, List.setIfInBounds_toArray, List.set_cons_zero, List.set_cons_succ]
    refine wpAnyH_take (i := 7) (oi := { dst := some 43, op := Op.load 27 (Operand.tmp 7), type := 27, pos := "outright.go:28", after := #[{ on := 6, ground := Ground.guard }], guard := some (6, false) }) (v := ?_) rfl (by kernel_rfl) (by kernel_rfl) (by kernel_rfl) (fun _ _ _ h => h) (Or.inl ⟨by rfl, ?_⟩) (by assumption) ?_
    rotate_left
    · intro w_ hSw
      (try dsimp only at hSw)
      go_simp
      first | done | with_reducible rfl
    try simp only [Act.put, List.setIfInBounds_toArray, List.set_cons_zero, List.set_cons_succ]
    refine wpAnyH_take (i := 8) (oi := { dst := some 44, op := Op.load 27 (Operand.tmp 2), type := 27, pos := "outright.go:28", after := #[{ on := 6, ground := Ground.guard }], guard := some (6, false) }) (v := ?_) rfl (by kernel_rfl) (by kernel_rfl) (by kernel_rfl) (fun _ _ _ h => h) (Or.inl ⟨by rfl, ?_⟩) (by assumption) ?_
    rotate_left
    · intro w_ hSw
      (try dsimp only at hSw)
      go_simp
      first | done | with_reducible rfl
    try simp only [Act.put, List.setIfInBounds_toArray, List.set_cons_zero, List.set_cons_succ]
    refine wpAnyH_ready (rs := [9]) (by kernel_rfl) (by simp) ?_
    refine AllReadyH.cons (o := { dst := some 45, op := Op.call { callee := Callee.value (Operand.func 19), args := #[Operand.tmp 43, Operand.tmp 44], argTypes := #[27, 27] }, type := 4, pos := "outright.go:28", after := #[{ on := 7, ground := Ground.data }, { on := 8, ground := Ground.data }, { on := 6, ground := Ground.chain }, { on := 6, ground := Ground.guard }], guard := some (6, false) }) rfl (fun K hK => ?_) (AllReadyH.nil)
    go_simp
    go_at_call 19
    refine (lsameq true (GR.Rd.below D_da.out (by repeat (first | exact HR.out | refine bl_drewN ?_ _ | refine bl_drew ?_ | refine bl_alloc ?_ _))) (GR.Rd.below D_dl.out (by repeat (first | exact HR.out | refine bl_drewN ?_ _ | refine bl_drew ?_ | refine bl_alloc ?_ _))) (GR.Rd.below D_ra.out (by repeat (first | exact HR.out | refine bl_drewN ?_ _ | refine bl_drew ?_ | refine bl_alloc ?_ _))) (GR.Rd.below D_rl.out (by repeat (first | exact HR.out | refine bl_drewN ?_ _ | refine bl_drew ?_ | refine bl_alloc ?_ _))) rfl rfl rfl rfl (osame_self _ _ _)).mono ?_
    rintro e wa ⟨rfl, hb2⟩
    have N_ := Lib.hid (bl_then (w := u8) (by repeat (first | exact HR.out | refine bl_drewN ?_ _ | refine bl_drew ?_ | refine bl_alloc ?_ _)) hb2)
    clear hb2 HR
    have HR := N_
    clear N_
    refine hK.out _ _ ?_ (fun hHeld => ?_)
    · exact ⟨(Below.cell (p := ⟨w.heap.size, 0, none⟩) (by repeat (first | exact HR.out | refine bl_drewN ?_ _ | refine bl_drew ?_ | refine bl_alloc ?_ _)) (World.block_lt_of_cell? u8 _ K0.out)).trans K0.out, (Below.cell (p := ⟨w.heap.size, 1, none⟩) (by repeat (first | exact HR.out | refine bl_drewN ?_ _ | refine bl_drew ?_ | refine bl_alloc ?_ _)) (World.block_lt_of_cell? u8 _ K1.out)).trans K1.out, (Below.cell (p := ⟨w.heap.size, 2, none⟩) (by repeat (first | exact HR.out | refine bl_drewN ?_ _ | refine bl_drew ?_ | refine bl_alloc ?_ _)) (World.block_lt_of_cell? u8 _ K2.out)).trans K2.out, (Below.cell (p := ⟨u6.heap.size, 0, none⟩) (by repeat (first | exact HR.out | refine bl_drewN ?_ _ | refine bl_drew ?_ | refine bl_alloc ?_ _)) (World.block_lt_of_cell? u8 _ K3.out)).trans K3.out, (Below.cell (p := ⟨u6.heap.size, 1, none⟩) (by repeat (first | exact HR.out | refine bl_drewN ?_ _ | refine bl_drew ?_ | refine bl_alloc ?_ _)) (World.block_lt_of_cell? u8 _ K4.out)).trans K4.out, (Below.cell (p := ⟨u6.heap.size, 2, none⟩) (by repeat (first | exact HR.out | refine bl_drewN ?_ _ | refine bl_drew ?_ | refine bl_alloc ?_ _)) (World.block_lt_of_cell? u8 _ K5.out)).trans K5.out, (Below.cell (p := ⟨u4.heap.size, 0, none⟩) (by repeat (first | exact HR.out | refine bl_drewN ?_ _ | refine bl_drew ?_ | refine bl_alloc ?_ _)) (World.block_lt_of_cell? u8 _ K6.out)).trans K6.out, (Below.cell (p := ⟨u4.heap.size, 1, none⟩) (by repeat (first | exact HR.out | refine bl_drewN ?_ _ | refine bl_drew ?_ | refine bl_alloc ?_ _)) (World.block_lt_of_cell? u8 _ K7.out)).trans K7.out⟩
    clear hK K
    try simp only [Act.put, List.setIfInBounds_toArray, List.set_cons_zero, List.set_cons_succ]
    refine wpAnyH_take (i := 10) (oi := { dst := some 46, op := Op.unOp UnOp.not 4 (Operand.tmp 45), type := 4, pos := "outright.go:28", after := #[{ on := 9, ground := Ground.data }, { on := 6, ground := Ground.guard }], guard := some (6, false) }) (v := ?_) rfl (by kernel_rfl) (by kernel_rfl) (by kernel_rfl) (fun _ _ _ h => h) (Or.inl ⟨by rfl, ?_⟩) (by assumption) ?_
    rotate_left
    · intro w_ hSw
      (try dsimp only at hSw)
      go_simp
      first | done | with_reducible rfl
    try simp only [Act.put, List.setIfInBounds_toArray, List.set_cons_zero, List.set_cons_succ]
    refine wpAnyH_take (i := 11) (oi := { dst := some 47, op := Op.pick (Operand.tmp 42) (Operand.const (Value.bool true)) (Operand.tmp 46), type := 4, pos := "outright.go:28", after := #[{ on := 6, ground := Ground.data }, { on := 10, ground := Ground.data }], guard := none }) (v := ?_) rfl (by kernel_rfl) (by kernel_rfl) (by kernel_rfl) (fun _ _ _ h => h) (Or.inl ⟨by rfl, ?_⟩) (by assumption) ?_
    rotate_left
    · intro w_ hSw
      (try dsimp only at hSw)
      go_simp
      first | done | with_reducible rfl
    try simp only [Act.put, List.setIfInBounds_toArray, List.set_cons_zero, List.set_cons_succ]
    refine wpAnyH_take (i := 12) (oi := { dst := some 48, op := Op.move (Operand.tmp 47), type := 4, pos := "outright.go:28", after := #[{ on := 11, ground := Ground.data }, { on := 9, ground := Ground.chain }], guard := none }) (v := ?_) rfl (by kernel_rfl) (by kernel_rfl) (by kernel_rfl) (fun _ _ _ h => h) (Or.inl ⟨by rfl, ?_⟩) (by assumption) ?_
    rotate_left
    · intro w_ hSw
      (try dsimp only at hSw)
      go_simp
      first | done | with_reducible rfl
    try simp only [Act.put, List.setIfInBounds_toArray, List.set_cons_zero, List.set_cons_succ]
    refine wpAnyH_take (i := 13) (oi := { dst := some 49, op := Op.load 27 (Operand.tmp 7), type := 27, pos := "outright.go:28", after := #[{ on := 12, ground := Ground.guard }], guard := some (12, false) }) (v := ?_) rfl (by kernel_rfl) (by kernel_rfl) (by kernel_rfl) (fun _ _ _ h => h) (Or.inl ⟨by rfl, ?_⟩) (by assumption) ?_
    rotate_left
    · intro w_ hSw
      (try dsimp only at hSw)
      go_simp
      first | done | with_reducible rfl
    try simp only [Act.put, List.setIfInBounds_toArray, List.set_cons_zero, List.set_cons_succ]
    refine wpAnyH_take (i := 14) (oi := { dst := some 50, op := Op.load 27 (Operand.tmp 2), type := 27, pos := "outright.go:28", after := #[{ on := 12, ground := Ground.guard }], guard := some (12, false) }) (v := ?_) rfl (by kernel_rfl) (by kernel_rfl) (by kernel_rfl) (fun _ _ _ h => h) (Or.inl ⟨by rfl, ?_⟩) (by assumption) ?_
    rotate_left
    · intro w_ hSw
      (try dsimp only at hSw)
      go_simp
      first | done | with_reducible rfl
    try simp only [Act.put, List.setIfInBounds_toArray, List.set_cons_zero, List.set_cons_succ]
    refine wpAnyH_ready (rs := [15]) (by kernel_rfl) (by simp) ?_
    refine AllReadyH.cons (o := { dst := some 51, op := Op.call { callee := Callee.value (Operand.func 10), args := #[Operand.tmp 50], argTypes := #[27] }, type := 27, pos := "outright.go:28", after := #[{ on := 14, ground := Ground.data }, { on := 12, ground := Ground.chain }, { on := 12, ground := Ground.guard }], guard := some (12, false) }) rfl (fun K hK => ?_) (AllReadyH.nil)
    go_simp
    go_at_call 10
    refine (twinR_any ko A B c d a l _ (GR.Rd.below D_ra.out (by repeat (first | exact HR.out | refine bl_drewN ?_ _ | refine bl_drew ?_ | refine bl_alloc ?_ _))) (GR.Rd.below D_rl.out (by repeat (first | exact HR.out | refine bl_drewN ?_ _ | refine bl_drew ?_ | refine bl_alloc ?_ _))) sa sl).mono ?_
    rintro e wb ⟨S1, S2, s1, s2, rfl, hra, hrl, _, _, hb2⟩
    have RTa := Lib.hid hra
    have RTl := Lib.hid hrl
    clear hra hrl
    have N_ := Lib.hid (bl_then (w := u8) (by repeat (first | exact HR.out | refine bl_drewN ?_ _ | refine bl_drew ?_ | refine bl_alloc ?_ _)) hb2)
    clear hb2 HR
    have HR := N_
    clear N_
    refine hK.out _ _ ?_ (fun hHeld => ?_)
    · exact ⟨(Below.cell (p := ⟨w.heap.size, 0, none⟩) (by repeat (first | exact HR.out | refine bl_drewN ?_ _ | refine bl_drew ?_ | refine bl_alloc ?_ _)) (World.block_lt_of_cell? u8 _ K0.out)).trans K0.out, (Below.cell (p := ⟨w.heap.size, 1, none⟩) (by repeat (first | exact HR.out | refine bl_drewN ?_ _ | refine bl_drew ?_ | refine bl_alloc ?_ _)) (World.block_lt_of_cell? u8 _ K1.out)).trans K1.out, (Below.cell (p := ⟨w.heap.size, 2, none⟩) (by repeat (first | exact HR.out | refine bl_drewN ?_ _ | refine bl_drew ?_ | refine bl_alloc ?_ _)) (World.block_lt_of_cell? u8 _ K2.out)).trans K2.out, (Below.cell (p := ⟨u6.heap.size, 0, none⟩) (by repeat (first | exact HR.out | refine bl_drewN ?_ _ | refine bl_drew ?_ | refine bl_alloc ?_ _)) (World.block_lt_of_cell? u8 _ K3.out)).trans K3.out, (Below.cell (p := ⟨u6.heap.size, 1, none⟩) (by repeat (first | exact HR.out | refine bl_drewN ?_ _ | refine bl_drew ?_ | refine bl_alloc ?_ _)) (World.block_lt_of_cell? u8 _ K4.out)).trans K4.out, (Below.cell (p := ⟨u6.heap.size, 2, none⟩) (by repeat (first | exact HR.out | refine bl_drewN ?_ _ | refine bl_drew ?_ | refine bl_alloc ?_ _)) (World.block_lt_of_cell? u8 _ K5.out)).trans K5.out, (Below.cell (p := ⟨u4.heap.size, 0, none⟩) (by repeat (first | exact HR.out | refine bl_drewN ?_ _ | refine bl_drew ?_ | refine bl_alloc ?_ _)) (World.block_lt_of_cell? u8 _ K6.out)).trans K6.out, (Below.cell (p := ⟨u4.heap.size, 1, none⟩) (by repeat (first | exact HR.out | refine bl_drewN ?_ _ | refine bl_drew ?_ | refine bl_alloc ?_ _)) (World.block_lt_of_cell? u8 _ K7.out)).trans K7.out⟩
    clear hK K
    try simp only [Act.put, List.setIfInBounds_toArray, List.set_cons_zero, List.set_cons_succ]
    refine wpAnyH_ready (rs := [16]) (by kernel_rfl) (by simp) ?_
    refine AllReadyH.cons (o := { dst := some 52, op := Op.call { callee := Callee.value (Operand.func 28), args := #[Operand.tmp 49, Operand.tmp 51], argTypes := #[27, 27] }, type := 4, pos := "outright.go:28", after := #[{ on := 13, ground := Ground.data }, { on := 15, ground := Ground.data }, { on := 15, ground := Ground.chain }, { on := 12, ground := Ground.guard }], guard := some (12, false) }) rfl (fun K hK => ?_) (AllReadyH.nil)
    go_simp
    go_at_call 28
    refine (osameq true (GR.Rd.below D_da.out (by repeat (first | exact HR.out | refine bl_drewN ?_ _ | refine bl_drew ?_ | refine bl_alloc ?_ _))) (GR.Rd.below D_dl.out (by repeat (first | exact HR.out | refine bl_drewN ?_ _ | refine bl_drew ?_ | refine bl_alloc ?_ _))) (GR.Rd.below (w := wb) RTa.out (by repeat (first | exact Below.refl _ _ | refine bl_drewN ?_ _ | refine bl_drew ?_ | refine bl_alloc ?_ _))) (GR.Rd.below (w := wb) RTl.out (by repeat (first | exact Below.refl _ _ | refine bl_drewN ?_ _ | refine bl_drew ?_ | refine bl_alloc ?_ _))) rfl rfl rfl rfl (osame_self _ _ _)).mono ?_
    rintro e wc ⟨rfl, hb2⟩
    have N_ := Lib.hid (bl_then (w := u8) (by repeat (first | exact HR.out | refine bl_drewN ?_ _ | refine bl_drew ?_ | refine bl_alloc ?_ _)) hb2)
    clear hb2 HR
    have HR := N_
    clear N_
    refine hK.out _ _ ?_ (fun hHeld => ?_)
    · exact ⟨(Below.cell (p := ⟨w.heap.size, 0, none⟩) (by repeat (first | exact HR.out | refine bl_drewN ?_ _ | refine bl_drew ?_ | refine bl_alloc ?_ _)) (World.block_lt_of_cell? u8 _ K0.out)).trans K0.out, (Below.cell (p := ⟨w.heap.size, 1, none⟩) (by repeat (first | exact HR.out | refine bl_drewN ?_ _ | refine bl_drew ?_ | refine bl_alloc ?_ _)) (World.block_lt_of_cell? u8 _ K1.out)).trans K1.out, (Below.cell (p := ⟨w.heap.size, 2, none⟩) (by repeat (first | exact HR.out | refine bl_drewN ?_ _ | refine bl_drew ?_ | refine bl_alloc ?_ _)) (World.block_lt_of_cell? u8 _ K2.out)).trans K2.out, (Below.cell (p := ⟨u6.heap.size, 0, none⟩) (by repeat (first | exact HR.out | refine bl_drewN ?_ _ | refine bl_drew ?_ | refine bl_alloc ?_ _)) (World.block_lt_of_cell? u8 _ K3.out)).trans K3.out, (Below.cell (p := ⟨u6.heap.size, 1, none⟩) (by repeat (first | exact HR.out | refine bl_drewN ?_ _ | refine bl_drew ?_ | refine bl_alloc ?_ _)) (World.block_lt_of_cell? u8 _ K4.out)).trans K4.out, (Below.cell (p := ⟨u6.heap.size, 2, none⟩) (by repeat (first | exact HR.out | refine bl_drewN ?_ _ | refine bl_drew ?_ | refine bl_alloc ?_ _)) (World.block_lt_of_cell? u8 _ K5.out)).trans K5.out, (Below.cell (p := ⟨u4.heap.size, 0, none⟩) (by repeat (first | exact HR.out | refine bl_drewN ?_ _ | refine bl_drew ?_ | refine bl_alloc ?_ _)) (World.block_lt_of_cell? u8 _ K6.out)).trans K6.out, (Below.cell (p := ⟨u4.heap.size, 1, none⟩) (by repeat (first | exact HR.out | refine bl_drewN ?_ _ | refine bl_drew ?_ | refine bl_alloc ?_ _)) (World.block_lt_of_cell? u8 _ K7.out)).trans K7.out⟩
    clear hK K
    try simp only [Act.put, List.setIfInBounds_toArray, List.set_cons_zero, List.set_cons_succ]
    refine wpAnyH_take (i := 17) (oi := { dst := some 53, op := Op.unOp UnOp.not 4 (Operand.tmp 52), type := 4, pos := "outright.go:28", after := #[{ on := 16, ground := Ground.data }, { on := 12, ground := Ground.guard }], guard := some (12, false) }) (v := ?_) rfl (by kernel_rfl) (by kernel_rfl) (by kernel_rfl) (fun _ _ _ h => h) (Or.inl ⟨by rfl, ?_⟩) (by assumption) ?_
    rotate_left
    · intro w_ hSw
      (try dsimp only at hSw)
      go_simp
      first | done | with_reducible rfl
    try simp only [Act.put, List.setIfInBounds_toArray, List.set_cons_zero, List.set_cons_succ]
    refine wpAnyH_take (i := 18) (oi := { dst := some 54, op := Op.pick (Operand.tmp 48) (Operand.const (Value.bool true)) (Operand.tmp 53), type := 4, pos := "outright.go:28", after := #[{ on := 12, ground := Ground.data }, { on := 17, ground := Ground.data }], guard := none }) (v := ?_) rfl (by kernel_rfl) (by kernel_rfl) (by kernel_rfl) (fun _ _ _ h => h) (Or.inl ⟨by rfl, ?_⟩) (by assumption) ?_
    rotate_left
    · intro w_ hSw
      (try dsimp only at hSw)
      go_simp
      first | done | with_reducible rfl
    try simp only [Act.put, List.setIfInBounds_toArray, List.set_cons_zero, List.set_cons_succ]
    refine wpAnyH_take (i := 19) (oi := { dst := some 55, op := Op.move (Operand.tmp 54), type := 4, pos := "outright.go:28", after := #[{ on := 18, ground := Ground.data }, { on := 16, ground := Ground.chain }], guard := none }) (v := ?_) rfl (by kernel_rfl) (by kernel_rfl) (by kernel_rfl) (fun _ _ _ h => h) (Or.inl ⟨by rfl, ?_⟩) (by assumption) ?_
    rotate_left
    · intro w_ hSw
      (try dsimp only at hSw)
      go_simp
      first | done | with_reducible rfl
    try simp only [Act.put, List.setIfInBounds_toArray, List.set_cons_zero, List.set_cons_succ]
    refine wpAnyH_take (i := 20) (oi := { dst := some 56, op := Op.fieldAddr 48 (Operand.tmp 5) 0, type := 0, pos := "outright.go:28", after := #[{ on := 19, ground := Ground.guard }], guard := some (19, false) }) (v := ?_) rfl (by kernel_rfl) (by kernel_rfl) (by kernel_rfl) (fun _ _ _ h => h) (Or.inl ⟨by rfl, ?_⟩) (by assumption) ?_
    rotate_left
    · intro w_ hSw
      (try dsimp only at hSw)
      go_simp
      first | done | with_reducible rfl
    try simp only [Act.put, List.setIfInBounds_toArray, List.set_cons_zero, List.set_cons_succ]
    refine wpAnyH_take (i := 21) (oi := { dst := some 57, op := Op.load 9 (Operand.tmp 56), type := 9, pos := "outright.go:28", after := #[{ on := 20, ground := Ground.data }, { on := 19, ground := Ground.guard }], guard := some (19, false) }) (v := ?_) rfl (by kernel_rfl) (by kernel_rfl) (by kernel_rfl) (fun _ _ _ h => h) (Or.inl ⟨by rfl, ?_⟩) (by assumption) ?_
    rotate_left
    · intro w_ hSw
      (try dsimp only at hSw)
      go_simp
      first | done | with_reducible rfl
    try simp only [Act.put, List.setIfInBounds_toArray, List.set_cons_zero, List.set_cons_succ]
    refine wpAnyH_take (i := 22) (oi := { dst := some 58, op := Op.call { callee := Callee.builtin Builtin.len, args := #[Operand.tmp 57], argTypes := #[9] }, type := 3, pos := "outright.go:28", after := #[{ on := 21, ground := Ground.data }, { on := 19, ground := Ground.guard }], guard := some (19, false) }) (v := ?_) rfl (by kernel_rfl) (by kernel_rfl) (by kernel_rfl) (fun _ _ _ h => h) (Or.inl ⟨by rfl, ?_⟩) (by assumption) ?_
    rotate_left
    · intro w_ hSw
      (try dsimp only at hSw)
      go_simp
      first | done | with_reducible rfl
    try simp only [Act.put, List.setIfInBounds_toArray, List.set_cons_zero, List.set_cons_succ]
    refine wpAnyH_take (i := 23) (oi := { dst := some 59, op := Op.fieldAddr 48 (Operand.tmp 5) 1, type := 0, pos := "outright.go:28", after := #[{ on := 19, ground := Ground.guard }], guard := some (19, false) }) (v := ?_) rfl (by kernel_rfl) (by kernel_rfl) (by kernel_rfl) (fun _ _ _ h => h) (Or.inl ⟨by rfl, ?_⟩) (by assumption) ?_
    rotate_left
    · intro w_ hSw
      (try dsimp only at hSw)
      go_simp
      first | done | with_reducible rfl
    try simp only [Act.put, List.setIfInBounds_toArray, List.set_cons_zero, List.set_cons_succ]
    refine wpAnyH_take (i := 24) (oi := { dst := some 60, op := Op.load 9 (Operand.tmp 59), type := 9, pos := "outright.go:28", after := #[{ on := 23, ground := Ground.data }, { on := 19, ground := Ground.guard }], guard := some (19, false) }) (v := ?_) rfl (by kernel_rfl) (by kernel_rfl) (by kernel_rfl) (fun _ _ _ h => h) (Or.inl ⟨by rfl, ?_⟩) (by assumption) ?_
    rotate_left
    · intro w_ hSw
      (try dsimp only at hSw)
      go_simp
      first | done | with_reducible rfl
    try simp only [Act.put, List.setIfInBounds_toArray, List.set_cons_zero, List.set_cons_succ]
    refine wpAnyH_take (i := 25) (oi := { dst := some 61, op := Op.call { callee := Callee.builtin Builtin.len, args := #[Operand.tmp 60], argTypes := #[9] }, type := 3, pos := "outright.go:28", after := #[{ on := 24, ground := Ground.data }, { on := 19, ground := Ground.guard }], guard := some (19, false) }) (v := ?_) rfl (by kernel_rfl) (by kernel_rfl) (by kernel_rfl) (fun _ _ _ h => h) (Or.inl ⟨by rfl, ?_⟩) (by assumption) ?_
    rotate_left
    · intro w_ hSw
      (try dsimp only at hSw)
      go_simp
      first | done | with_reducible rfl
    try simp only [Act.put, List.setIfInBounds_toArray, List.set_cons_zero, List.set_cons_succ]
    refine wpAnyH_take (i := 26) (oi := { dst := some 62, op := Op.binOp BinOp.add 3 (Operand.tmp 58) (Operand.tmp 61) 3, type := 3, pos := "outright.go:28", after := #[{ on := 22, ground := Ground.data }, { on := 25, ground := Ground.data }, { on := 19, ground := Ground.guard }], guard := some (19, false) }) (v := ?_) rfl (by kernel_rfl) (by kernel_rfl) (by kernel_rfl) (fun _ _ _ h => h) (Or.inl ⟨by rfl, ?_⟩) (by assumption) ?_
    rotate_left
    · intro w_ hSw
      (try dsimp only at hSw)
      go_simp
      first | done | with_reducible rfl
    try simp only [Act.put, List.setIfInBounds_toArray, List.set_cons_zero, List.set_cons_succ]
    refine wpAnyH_take (i := 27) (oi := { dst := some 63, op := Op.binOp BinOp.gtr 3 (Operand.tmp 62) (Operand.const (Value.int IntKind.i64 320)) 3, type := 4, pos := "outright.go:28", after := #[{ on := 26, ground := Ground.data }, { on := 19, ground := Ground.guard }], guard := some (19, false) }) (v := ?_) rfl (by kernel_rfl) (by kernel_rfl) (by kernel_rfl) (fun _ _ _ h => h) (Or.inl ⟨by rfl, ?_⟩) (by assumption) ?_
    rotate_left
    · intro w_ hSw
      (try dsimp only at hSw)
      go_simp
      first | done | with_reducible rfl
    try simp only [Act.put, List.setIfInBounds_toArray, List.set_cons_zero, List.set_cons_succ]
    refine wpAnyH_take (i := 28) (oi := { dst := some 64, op := Op.pick (Operand.tmp 55) (Operand.const (Value.bool true)) (Operand.tmp 63), type := 4, pos := "outright.go:28", after := #[{ on := 19, ground := Ground.data }, { on := 27, ground := Ground.data }], guard := none }) (v := ?_) rfl (by kernel_rfl) (by kernel_rfl) (by kernel_rfl) (fun _ _ _ h => h) (Or.inl ⟨by rfl, ?_⟩) (by assumption) ?_
    rotate_left
    · intro w_ hSw
      (try dsimp only at hSw)
      go_simp
      first | done | with_reducible rfl
    try simp only [Act.put, List.setIfInBounds_toArray, List.set_cons_zero, List.set_cons_succ]
    refine wpAnyH_take (i := 29) (oi := { dst := some 65, op := Op.move (Operand.tmp 64), type := 4, pos := "outright.go:28", after := #[{ on := 28, ground := Ground.data }, { on := 19, ground := Ground.chain }], guard := none }) (v := ?_) rfl (by kernel_rfl) (by kernel_rfl) (by kernel_rfl) (fun _ _ _ h => h) (Or.inl ⟨by rfl, ?_⟩) (by assumption) ?_
    rotate_left
    · intro w_ hSw
      (try dsimp only at hSw)
      go_simp
      first | done | with_reducible rfl
    try simp only [Act.put, List.setIfInBounds_toArray, List.set_cons_zero, List.set_cons_succ]
    refine wpAnyH_take (i := 30) (oi := { dst := some 66, op := Op.fieldAddr 48 (Operand.tmp 5) 0, type := 0, pos := "outright.go:28", after := #[{ on := 29, ground := Ground.guard }], guard := some (29, false) }) (v := ?_) rfl (by kernel_rfl) (by kernel_rfl) (by kernel_rfl) (fun _ _ _ h => h) (Or.inl ⟨by rfl, ?_⟩) (by assumption) ?_
    rotate_left
    · intro w_ hSw
      (try dsimp only at hSw)
      go_simp
      first | done | with_reducible rfl
    try simp only [Act.put, List.setIfInBounds_toArray, List.set_cons_zero, List.set_cons_succ]
    refine wpAnyH_take (i := 31) (oi := { dst := some 67, op := Op.load 9 (Operand.tmp 66), type := 9, pos := "outright.go:28", after := #[{ on := 30, ground := Ground.data }, { on := 29, ground := Ground.guard }], guard := some (29, false) }) (v := ?_) rfl (by kernel_rfl) (by kernel_rfl) (by kernel_rfl) (fun _ _ _ h => h) (Or.inl ⟨by rfl, ?_⟩) (by assumption) ?_
    rotate_left
    · intro w_ hSw
      (try dsimp only at hSw)
      go_simp
      first | done | with_reducible rfl
    try simp only [Act.put, List.setIfInBounds_toArray, List.set_cons_zero, List.set_cons_succ]
    refine wpAnyH_take (i := 32) (oi := { dst := some 68, op := Op.call { callee := Callee.builtin Builtin.len, args := #[Operand.tmp 67], argTypes := #[9] }, type := 3, pos := "outright.go:28", after := #[{ on := 31, ground := Ground.data }, { on := 29, ground := Ground.guard }], guard := some (29, false) }) (v := ?_) rfl (by kernel_rfl) (by kernel_rfl) (by kernel_rfl) (fun _ _ _ h => h) (Or.inl ⟨by rfl, ?_⟩) (by assumption) ?_
    rotate_left
    · intro w_ hSw
      (try dsimp only at hSw)
      go_simp
      first | done | with_reducible rfl
    try simp only [Act.put, List.setIfInBounds_toArray, List.set_cons_zero, List.set_cons_succ]
    refine wpAnyH_take (i := 33) (oi := { dst := some 69, op := Op.fieldAddr 27 (Operand.tmp 2) 0, type := 0, pos := "outright.go:28", after := #[{ on := 29, ground := Ground.guard }], guard := some (29, false) }) (v := ?_) rfl (by kernel_rfl) (by kernel_rfl) (by kernel_rfl) (fun _ _ _ h => h) (Or.inl ⟨by rfl, ?_⟩) (by assumption) ?_
    rotate_left
    · intro w_ hSw
      (try dsimp only at hSw)
      go_simp
      first | done | with_reducible rfl
    try simp only [Act.put, List.setIfInBounds_toArray, List.set_cons_zero, List.set_cons_succ]
    refine wpAnyH_take (i := 34) (oi := { dst := some 70, op := Op.load 9 (Operand.tmp 69), type := 9, pos := "outright.go:28", after := #[{ on := 33, ground := Ground.data }, { on := 29, ground := Ground.guard }], guard := some (29, false) }) (v := ?_) rfl (by kernel_rfl) (by kernel_rfl) (by kernel_rfl) (fun _ _ _ h => h) (Or.inl ⟨by rfl, ?_⟩) (by assumption) ?_
    rotate_left
    · intro w_ hSw
      (try dsimp only at hSw)
      go_simp
      first | done | with_reducible rfl
    try simp only [Act.put, List.setIfInBounds_toArray, List.set_cons_zero, List.set_cons_succ]
    refine wpAnyH_take (i := 35) (oi := { dst := some 71, op := Op.call { callee := Callee.builtin Builtin.len, args := #[Operand.tmp 70], argTypes := #[9] }, type := 3, pos := "outright.go:28", after := #[{ on := 34, ground := Ground.data }, { on := 29, ground := Ground.guard }], guard := some (29, false) }) (v := ?_) rfl (by kernel_rfl) (by kernel_rfl) (by kernel_rfl) (fun _ _ _ h => h) (Or.inl ⟨by rfl, ?_⟩) (by assumption) ?_
    rotate_left
    · intro w_ hSw
      (try dsimp only at hSw)
      go_simp
      first | done | with_reducible rfl
    try simp only [Act.put, List.setIfInBounds_toArray, List.set_cons_zero, List.set_cons_succ]
    refine wpAnyH_take (i := 36) (oi := { dst := some 72, op := Op.binOp BinOp.add 3 (Operand.const (Value.int IntKind.i64 2)) (Operand.tmp 71) 3, type := 3, pos := "outright.go:28", after := #[{ on := 35, ground := Ground.data }, { on := 29, ground := Ground.guard }], guard := some (29, false) }) (v := ?_) rfl (by kernel_rfl) (by kernel_rfl) (by kernel_rfl) (fun _ _ _ h => h) (Or.inl ⟨by rfl, ?_⟩) (by assumption) ?_
    rotate_left
    · intro w_ hSw
      (try dsimp only at hSw)
      go_simp
      first | done | with_reducible rfl
    try simp only [Act.put, List.setIfInBounds_toArray, List.set_cons_zero, List.set_cons_succ]
    refine wpAnyH_take (i := 37) (oi := { dst := some 73, op := Op.binOp BinOp.neq 3 (Operand.tmp 68) (Operand.tmp 72) 3, type := 4, pos := "outright.go:28", after := #[{ on := 32, ground := Ground.data }, { on := 36, ground := Ground.data }, { on := 29, ground := Ground.guard }], guard := some (29, false) }) (v := ?_) rfl (by kernel_rfl) (by kernel_rfl) (by kernel_rfl) (fun _ _ _ h => h) (Or.inl ⟨by rfl, ?_⟩) (by assumption) ?_
    rotate_left
    · intro w_ hSw
      (try dsimp only at hSw)
      go_simp
      first | done | with_reducible rfl
    try simp only [Act.put, List.setIfInBounds_toArray, List.set_cons_zero, List.set_cons_succ]
    refine wpAnyH_take (i := 38) (oi := { dst := some 74, op := Op.pick (Operand.tmp 65) (Operand.const (Value.bool true)) (Operand.tmp 73), type := 4, pos := "outright.go:28", after := #[{ on := 29, ground := Ground.data }, { on := 37, ground := Ground.data }], guard := none }) (v := ?_) rfl (by kernel_rfl) (by kernel_rfl) (by kernel_rfl) (fun _ _ _ h => h) (Or.inl ⟨by rfl, ?_⟩) (by assumption) ?_
    rotate_left
    · intro w_ hSw
      (try dsimp only at hSw)
      go_simp
      first | done | with_reducible rfl
    try simp only [Act.put, List.setIfInBounds_toArray, List.set_cons_zero, List.set_cons_succ]
    refine wpAnyH_take (i := 39) (oi := { dst := some 75, op := Op.move (Operand.tmp 74), type := 4, pos := "outright.go:28", after := #[{ on := 38, ground := Ground.data }, { on := 29, ground := Ground.chain }], guard := none }) (v := ?_) rfl (by kernel_rfl) (by kernel_rfl) (by kernel_rfl) (fun _ _ _ h => h) (Or.inl ⟨by rfl, ?_⟩) (by assumption) ?_
    rotate_left
    · intro w_ hSw
      (try dsimp only at hSw)
      go_simp
      first | done | with_reducible rfl
    try simp only [Act.put, List.setIfInBounds_toArray, List.set_cons_zero, List.set_cons_succ]
    refine wpAnyH_take (i := 40) (oi := { dst := some 76, op := Op.fieldAddr 48 (Operand.tmp 5) 0, type := 0, pos := "outright.go:28", after := #[{ on := 39, ground := Ground.guard }], guard := some (39, false) }) (v := ?_) rfl (by kernel_rfl) (by kernel_rfl) (by kernel_rfl) (fun _ _ _ h => h) (Or.inl ⟨by rfl, ?_⟩) (by assumption) ?_
    rotate_left
    · intro w_ hSw
      (try dsimp only at hSw)
      go_simp
      first | done | with_reducible rfl
    try simp only [Act.put, List.setIfInBounds_toArray, List.set_cons_zero, List.set_cons_succ]
    refine wpAnyH_take (i := 41) (oi := { dst := some 77, op := Op.load 9 (Operand.tmp 76), type := 9, pos := "outright.go:28", after := #[{ on := 40, ground := Ground.data }, { on := 39, ground := Ground.guard }], guard := some (39, false) }) (v := ?_) rfl (by kernel_rfl) (by kernel_rfl) (by kernel_rfl) (fun _ _ _ h => h) (Or.inl ⟨by rfl, ?_⟩) (by assumption) ?_
    rotate_left
    · intro w_ hSw
      (try dsimp only at hSw)
      go_simp
      first | done | with_reducible rfl
    try simp only [Act.put, List.setIfInBounds_toArray, List.set_cons_zero, List.set_cons_succ]
    refine wpAnyH_take (i := 42) (oi := { dst := some 78, op := Op.slice 9 (Operand.tmp 77) (some (Operand.const (Value.int IntKind.i64 2))) none none, type := 9, pos := "outright.go:28", after := #[{ on := 41, ground := Ground.data }, { on := 39, ground := Ground.guard }], guard := some (39, false) }) (v := ?_) rfl (by kernel_rfl) (by kernel_rfl) (by kernel_rfl) (fun _ _ _ h => h) (Or.inl ⟨by rfl, ?_⟩) (by assumption) ?_
    rotate_left
    · intro w_ hSw
      (try dsimp only at hSw)
      go_simp
      first | done | with_reducible rfl
    try simp only [Act.put, List.setIfInBounds_toArray, List.set_cons_zero, List.set_cons_succ]
    refine wpAnyH_take (i := 43) (oi := { dst := some 79, op := Op.fieldAddr 27 (Operand.tmp 2) 0, type := 0, pos := "outright.go:28", after := #[{ on := 39, ground := Ground.guard }], guard := some (39, false) }) (v := ?_) rfl (by kernel_rfl) (by kernel_rfl) (by kernel_rfl) (fun _ _ _ h => h) (Or.inl ⟨by rfl, ?_⟩) (by assumption) ?_
    rotate_left
    · intro w_ hSw
      (try dsimp only at hSw)
      go_simp
      first | done | with_reducible rfl
    try simp only [Act.put, List.setIfInBounds_toArray, List.set_cons_zero, List.set_cons_succ]
    refine wpAnyH_take (i := 44) (oi := { dst := some 80, op := Op.load 9 (Operand.tmp 79), type := 9, pos := "outright.go:28", after := #[{ on := 43, ground := Ground.data }, { on := 39, ground := Ground.guard }], guard := some (39, false) }) (v := ?_) rfl (by kernel_rfl) (by kernel_rfl) (by kernel_rfl) (fun _ _ _ h => h) (Or.inl ⟨by rfl, ?_⟩) (by assumption) ?_
    rotate_left
    · intro w_ hSw
      (try dsimp only at hSw)
      go_simp
      first | done | with_reducible rfl
    try simp only [Act.put, List.setIfInBounds_toArray, List.set_cons_zero, List.set_cons_succ]
    refine wpAnyH_take (i := 45) (oi := { dst := some 81, op := Op.binOp BinOp.neq 9 (Operand.tmp 78) (Operand.tmp 80) 9, type := 4, pos := "outright.go:28", after := #[{ on := 42, ground := Ground.data }, { on := 44, ground := Ground.data }, { on := 39, ground := Ground.guard }], guard := some (39, false) }) (v := ?_) rfl (by kernel_rfl) (by kernel_rfl) (by kernel_rfl) (fun _ _ _ h => h) (Or.inl ⟨by rfl, ?_⟩) (by assumption) ?_
    rotate_left
    · intro w_ hSw
      (try dsimp only at hSw)
      go_simp
      first | done | with_reducible rfl
    try simp only [Act.put, List.setIfInBounds_toArray, List.set_cons_zero, List.set_cons_succ]
    refine wpAnyH_take (i := 46) (oi := { dst := some 82, op := Op.pick (Operand.tmp 75) (Operand.const (Value.bool true)) (Operand.tmp 81), type := 4, pos := "outright.go:28", after := #[{ on := 39, ground := Ground.data }, { on := 45, ground := Ground.data }], guard := none }) (v := ?_) rfl (by kernel_rfl) (by kernel_rfl) (by kernel_rfl) (fun _ _ _ h => h) (Or.inl ⟨by rfl, ?_⟩) (by assumption) ?_
    rotate_left
    · intro w_ hSw
      (try dsimp only at hSw)
      go_simp
      first | done | with_reducible rfl
    try simp only [Act.put, List.setIfInBounds_toArray, List.set_cons_zero, List.set_cons_succ]
    refine wpAnyH_take (i := 47) (oi := { dst := some 83, op := Op.move (Operand.tmp 82), type := 4, pos := "outright.go:28", after := #[{ on := 46, ground := Ground.data }, { on := 39, ground := Ground.chain }], guard := none }) (v := ?_) rfl (by kernel_rfl) (by kernel_rfl) (by kernel_rfl) (fun _ _ _ h => h) (Or.inl ⟨by rfl, ?_⟩) (by assumption) ?_
    rotate_left
    · intro w_ hSw
      (try dsimp only at hSw)
      go_simp
      first | done | with_reducible rfl
    try simp only [Act.put, List.setIfInBounds_toArray, List.set_cons_zero, List.set_cons_succ]
    refine wpAnyH_take (i := 48) (oi := { dst := some 84, op := Op.fieldAddr 48 (Operand.tmp 5) 0, type := 0, pos := "outright.go:28", after := #[{ on := 47, ground := Ground.guard }], guard := some (47, false) }) (v := ?_) rfl (by kernel_rfl) (by kernel_rfl) (by kernel_rfl) (fun _ _ _ h => h) (Or.inl ⟨by rfl, ?_⟩) (by assumption) ?_
    rotate_left
    · intro w_ hSw
      (try dsimp only at hSw)
      go_simp
      first | done | with_reducible rfl
    try simp only [Act.put, List.setIfInBounds_toArray, List.set_cons_zero, List.set_cons_succ]
    refine wpAnyH_take (i := 49) (oi := { dst := some 85, op := Op.load 9 (Operand.tmp 84), type := 9, pos := "outright.go:28", after := #[{ on := 48, ground := Ground.data }, { on := 47, ground := Ground.guard }], guard := some (47, false) }) (v := ?_) rfl (by kernel_rfl) (by kernel_rfl) (by kernel_rfl) (fun _ _ _ h => h) (Or.inl ⟨by rfl, ?_⟩) (by assumption) ?_
    rotate_left
    · intro w_ hSw
      (try dsimp only at hSw)
      go_simp
      first | done | with_reducible rfl
    try simp only [Act.put, List.setIfInBounds_toArray, List.set_cons_zero, List.set_cons_succ]
    refine wpAnyH_take (i := 50) (oi := { dst := some 86, op := Op.index 9 (Operand.tmp 85) (Operand.const (Value.int IntKind.i64 0)), type := 5, pos := "outright.go:28", after := #[{ on := 49, ground := Ground.data }, { on := 47, ground := Ground.guard }], guard := some (47, false) }) (v := ?_) rfl (by kernel_rfl) (by kernel_rfl) (by kernel_rfl) (fun _ _ _ h => h) (Or.inl ⟨by rfl, ?_⟩) (by assumption) ?_
    rotate_left
    · intro w_ hSw
      (try dsimp only at hSw)
      go_simp
      first | done | with_reducible rfl
    try simp only [Act.put, List.setIfInBounds_toArray, List.set_cons_zero, List.set_cons_succ]
    refine wpAnyH_take (i := 51) (oi := { dst := some 87, op := Op.convert 5 3 (Operand.tmp 86), type := 3, pos := "outright.go:28", after := #[{ on := 50, ground := Ground.data }, { on := 47, ground := Ground.guard }], guard := some (47, false) }) (v := ?_) rfl (by kernel_rfl) (by kernel_rfl) (by kernel_rfl) (fun _ _ _ h => h) (Or.inl ⟨by rfl, ?_⟩) (by assumption) ?_
    rotate_left
    · intro w_ hSw
      (try dsimp only at hSw)
      go_simp
      first | done | with_reducible rfl
    try simp only [Act.put, List.setIfInBounds_toArray, List.set_cons_zero, List.set_cons_succ]
    refine wpAnyH_take (i := 52) (oi := { dst := some 88, op := Op.binOp BinOp.mul 3 (Operand.tmp 87) (Operand.const (Value.int IntKind.i64 256)) 3, type := 3, pos := "outright.go:28", after := #[{ on := 51, ground := Ground.data }, { on := 47, ground := Ground.guard }], guard := some (47, false) }) (v := ?_) rfl (by kernel_rfl) (by kernel_rfl) (by kernel_rfl) (fun _ _ _ h => h) (Or.inl ⟨by rfl, ?_⟩) (by assumption) ?_
    rotate_left
    · intro w_ hSw
      (try dsimp only at hSw)
      go_simp
      first | done | with_reducible rfl
    try simp only [Act.put, List.setIfInBounds_toArray, List.set_cons_zero, List.set_cons_succ]
    refine wpAnyH_take (i := 53) (oi := { dst := some 89, op := Op.fieldAddr 48 (Operand.tmp 5) 0, type := 0, pos := "outright.go:28", after := #[{ on := 47, ground := Ground.guard }], guard := some (47, false) }) (v := ?_) rfl (by kernel_rfl) (by kernel_rfl) (by kernel_rfl) (fun _ _ _ h => h) (Or.inl ⟨by rfl, ?_⟩) (by assumption) ?_
    rotate_left
    · intro w_ hSw
      (try dsimp only at hSw)
      go_simp
      first | done | with_reducible rfl
    try simp only [Act.put, List.setIfInBounds_toArray, List.set_cons_zero, List.set_cons_succ]
    refine wpAnyH_take (i := 54) (oi := { dst := some 90, op := Op.load 9 (Operand.tmp 89), type := 9, pos := "outright.go:28", after := #[{ on := 53, ground := Ground.data }, { on := 47, ground := Ground.guard }], guard := some (47, false) }) (v := ?_) rfl (by kernel_rfl) (by kernel_rfl) (by kernel_rfl) (fun _ _ _ h => h) (Or.inl ⟨by rfl, ?_⟩) (by assumption) ?_
    rotate_left
    · intro w_ hSw
      (try dsimp only at hSw)
      go_simp
      first | done | with_reducible rfl
    try simp only [Act.put, List.setIfInBounds_toArray, List.set_cons_zero, List.set_cons_succ]
    refine wpAnyH_take (i := 55) (oi := { dst := some 91, op := Op.index 9 (Operand.tmp 90) (Operand.const (Value.int IntKind.i64 1)), type := 5, pos := "outright.go:28", after := #[{ on := 54, ground := Ground.data }, { on := 47, ground := Ground.guard }], guard := some (47, false) }) (v := ?_) rfl (by kernel_rfl) (by kernel_rfl) (by kernel_rfl) (fun _ _ _ h => h) (Or.inl ⟨by rfl, ?_⟩) (by assumption) ?_
    rotate_left
    · intro w_ hSw
      (try dsimp only at hSw)
      go_simp
      first | done | with_reducible rfl
    try simp only [Act.put, List.setIfInBounds_toArray, List.set_cons_zero, List.set_cons_succ]
    refine wpAnyH_take (i := 56) (oi := { dst := some 92, op := Op.convert 5 3 (Operand.tmp 91), type := 3, pos := "outright.go:28", after := #[{ on := 55, ground := Ground.data }, { on := 47, ground := Ground.guard }], guard := some (47, false) }) (v := ?_) rfl (by kernel_rfl) (by kernel_rfl) (by kernel_rfl) (fun _ _ _ h => h) (Or.inl ⟨by rfl, ?_⟩) (by assumption) ?_
    rotate_left
    · intro w_ hSw
      (try dsimp only at hSw)
      go_simp
      first | done | with_reducible rfl
    try simp only [Act.put, List.setIfInBounds_toArray, List.set_cons_zero, List.set_cons_succ]
    refine wpAnyH_take (i := 57) (oi := { dst := some 93, op := Op.binOp BinOp.add 3 (Operand.tmp 88) (Operand.tmp 92) 3, type := 3, pos := "outright.go:28", after := #[{ on := 52, ground := Ground.data }, { on := 56, ground := Ground.data }, { on := 47, ground := Ground.guard }], guard := some (47, false) }) (v := ?_) rfl (by kernel_rfl) (by kernel_rfl) (by kernel_rfl) (fun _ _ _ h => h) (Or.inl ⟨by rfl, ?_⟩) (by assumption) ?_
    rotate_left
    · intro w_ hSw
      (try dsimp only at hSw)
      go_simp
      first | done | with_reducible rfl
    try simp only [Act.put, List.setIfInBounds_toArray, List.set_cons_zero, List.set_cons_succ]
    refine wpAnyH_take (i := 58) (oi := { dst := some 94, op := Op.move (Operand.tmp 9), type := 3, pos := "outright.go:28", after := #[{ on := 47, ground := Ground.guard }], guard := some (47, false) }) (v := ?_) rfl (by kernel_rfl) (by kernel_rfl) (by kernel_rfl) (fun _ _ _ h => h) (Or.inl ⟨by rfl, ?_⟩) (by assumption) ?_
    rotate_left
    · intro w_ hSw
      (try dsimp only at hSw)
      go_simp
      first | done | with_reducible rfl
    try simp only [Act.put, List.setIfInBounds_toArray, List.set_cons_zero, List.set_cons_succ]
    refine wpAnyH_take (i := 59) (oi := { dst := some 95, op := Op.binOp BinOp.neq 3 (Operand.tmp 93) (Operand.tmp 94) 3, type := 4, pos := "outright.go:28", after := #[{ on := 57, ground := Ground.data }, { on := 58, ground := Ground.data }, { on := 47, ground := Ground.guard }], guard := some (47, false) }) (v := ?_) rfl (by kernel_rfl) (by kernel_rfl) (by kernel_rfl) (fun _ _ _ h => h) (Or.inl ⟨by rfl, ?_⟩) (by assumption) ?_
    rotate_left
    · intro w_ hSw
      (try dsimp only at hSw)
      go_simp
      first | done | with_reducible rfl
    try simp only [Act.put, List.setIfInBounds_toArray, List.set_cons_zero, List.set_cons_succ]
    refine wpAnyH_take (i := 60) (oi := { dst := some 96, op := Op.pick (Operand.tmp 83) (Operand.const (Value.bool true)) (Operand.tmp 95), type := 4, pos := "outright.go:28", after := #[{ on := 47, ground := Ground.data }, { on := 59, ground := Ground.data }], guard := none }) (v := ?_) rfl (by kernel_rfl) (by kernel_rfl) (by kernel_rfl) (fun _ _ _ h => h) (Or.inl ⟨by rfl, ?_⟩) (by assumption) ?_
    rotate_left
    · intro w_ hSw
      (try dsimp only at hSw)
      go_simp
      first | done | with_reducible rfl
    try simp only [Act.put, List.setIfInBounds_toArray, List.set_cons_zero, List.set_cons_succ]
    refine wpAnyH_take (i := 61) (oi := { dst := some 97, op := Op.move (Operand.tmp 96), type := 4, pos := "outright.go:28", after := #[{ on := 60, ground := Ground.data }, { on := 47, ground := Ground.chain }], guard := none }) (v := ?_) rfl (by kernel_rfl) (by kernel_rfl) (by kernel_rfl) (fun _ _ _ h => h) (Or.inl ⟨by rfl, ?_⟩) (by assumption) ?_
    rotate_left
    · intro w_ hSw
      (try dsimp only at hSw)
      go_simp
      first | done | with_reducible rfl
    try simp only [Act.put, List.setIfInBounds_toArray, List.set_cons_zero, List.set_cons_succ]
    refine wpAnyH_take (i := 62) (oi := { dst := some 98, op := Op.move (Operand.tmp 9), type := 3, pos := "outright.go:28", after := #[{ on := 61, ground := Ground.guard }], guard := some (61, false) }) (v := ?_) rfl (by kernel_rfl) (by kernel_rfl) (by kernel_rfl) (fun _ _ _ h => h) (Or.inl ⟨by rfl, ?_⟩) (by assumption) ?_
    rotate_left
    · intro w_ hSw
      (try dsimp only at hSw)
      go_simp
      first | done | with_reducible rfl
    try simp only [Act.put, List.setIfInBounds_toArray, List.set_cons_zero, List.set_cons_succ]
    refine wpAnyH_take (i := 63) (oi := { dst := some 99, op := Op.binOp BinOp.lss 3 (Operand.tmp 98) (Operand.const (Value.int IntKind.i64 0)) 3, type := 4, pos := "outright.go:28", after := #[{ on := 62, ground := Ground.data }, { on := 61, ground := Ground.guard }], guard := some (61, false) }) (v := ?_) rfl (by kernel_rfl) (by kernel_rfl) (by kernel_rfl) (fun _ _ _ h => h) (Or.inl ⟨by rfl, ?_⟩) (by assumption) ?_
    rotate_left
    · intro w_ hSw
      (try dsimp only at hSw)
      go_simp
      first | done | with_reducible rfl
    try simp only [Act.put, List.setIfInBounds_toArray, List.set_cons_zero, List.set_cons_succ]
    refine wpAnyH_take (i := 64) (oi := { dst := some 100, op := Op.pick (Operand.tmp 97) (Operand.const (Value.bool true)) (Operand.tmp 99), type := 4, pos := "outright.go:28", after := #[{ on := 61, ground := Ground.data }, { on := 63, ground := Ground.data }], guard := none }) (v := ?_) rfl (by kernel_rfl) (by kernel_rfl) (by kernel_rfl) (fun _ _ _ h => h) (Or.inl ⟨by rfl, ?_⟩) (by assumption) ?_
    rotate_left
    · intro w_ hSw
      (try dsimp only at hSw)
      go_simp
      first | done | with_reducible rfl
    try simp only [Act.put, List.setIfInBounds_toArray, List.set_cons_zero, List.set_cons_succ]
    refine wpAnyH_take (i := 65) (oi := { dst := some 101, op := Op.move (Operand.tmp 100), type := 4, pos := "outright.go:28", after := #[{ on := 64, ground := Ground.data }, { on := 61, ground := Ground.chain }], guard := none }) (v := ?_) rfl (by kernel_rfl) (by kernel_rfl) (by kernel_rfl) (fun _ _ _ h => h) (Or.inl ⟨by rfl, ?_⟩) (by assumption) ?_
    rotate_left
    · intro w_ hSw
      (try dsimp only at hSw)
      go_simp
      first | done | with_reducible rfl
    try simp only [Act.put, List.setIfInBounds_toArray, List.set_cons_zero, List.set_cons_succ]
    refine wpAnyH_take (i := 66) (oi := { dst := some 102, op := Op.move (Operand.tmp 9), type := 3, pos := "outright.go:28", after := #[{ on := 65, ground := Ground.guard }], guard := some (65, false) }) (v := ?_) rfl (by kernel_rfl) (by kernel_rfl) (by kernel_rfl) (fun _ _ _ h => h) (Or.inl ⟨by rfl, ?_⟩) (by assumption) ?_
    rotate_left
    · intro w_ hSw
      (try dsimp only at hSw)
      go_simp
      first | done | with_reducible rfl
    try simp only [Act.put, List.setIfInBounds_toArray, List.set_cons_zero, List.set_cons_succ]
    refine wpAnyH_take (i := 67) (oi := { dst := some 103, op := Op.binOp BinOp.gtr 3 (Operand.tmp 102) (Operand.const (Value.int IntKind.i64 4095)) 3, type := 4, pos := "outright.go:28", after := #[{ on := 66, ground := Ground.data }, { on := 65, ground := Ground.guard }], guard := some (65, false) }) (v := ?_) rfl (by kernel_rfl) (by kernel_rfl) (by kernel_rfl) (fun _ _ _ h => h) (Or.inl ⟨by rfl, ?_⟩) (by assumption) ?_
    rotate_left
    · intro w_ hSw
      (try dsimp only at hSw)
      go_simp
      first | done | with_reducible rfl
    try simp only [Act.put, List.setIfInBounds_toArray, List.set_cons_zero, List.set_cons_succ]
    refine wpAnyH_take (i := 68) (oi := { dst := some 104, op := Op.pick (Operand.tmp 101) (Operand.const (Value.bool true)) (Operand.tmp 103), type := 4, pos := "outright.go:28", after := #[{ on := 65, ground := Ground.data }, { on := 67, ground := Ground.data }], guard := none }) (v := ?_) rfl (by kernel_rfl) (by kernel_rfl) (by kernel_rfl) (fun _ _ _ h => h) (Or.inl ⟨by rfl, ?_⟩) (by assumption) ?_
    rotate_left
    · intro w_ hSw
      (try dsimp only at hSw)
      go_simp
      first | done | with_reducible rfl
    try simp only [Act.put, List.setIfInBounds_toArray, List.set_cons_zero, List.set_cons_succ]
    refine wpAnyH_done (by kernel_rfl) ?_ _
    have F19 := Lib.hid (F18.out.below HR.out)
    clear F18
    replace BB := Lib.hid (bl_then BB.out HR.out)
    clear HR K0 K1 K2 K3 K4 K5 K6 K7 D_da D_dl D_ra D_rl po_lt pp_lt pd_lt RTa RTl y1 y2 y3 m1 m2 m3 m4 m5 m6 m7 m8 z1 z2 z3 z4
    have po_0 : wc.cell? ⟨w.heap.size, 0, none⟩ = some (.string ko) := (F19.out.blk 9 rfl).cell 0
    have po_1 : wc.cell? ⟨w.heap.size, 1, none⟩ = some (.slice A a.length c) := (F19.out.blk 9 rfl).cell 1
    have po_2 : wc.cell? ⟨w.heap.size, 2, none⟩ = some (.slice B l.length d) := (F19.out.blk 9 rfl).cell 2
    have pc_0 : wc.cell? ⟨w.heap.size + 1, 0, none⟩ = some (.string ck) := (F19.out.blk 8 rfl).cell 0
    have pc_1 : wc.cell? ⟨w.heap.size + 1, 1, none⟩ = some (.string cv) := (F19.out.blk 8 rfl).cell 1
    have po_lt : w.heap.size < wc.heap.size := (F19.out.blk 9 rfl).lt
    have pc_lt : w.heap.size + 1 < wc.heap.size := (F19.out.blk 8 rfl).lt
    go_wp2_with fail
    clear po_0 po_1 po_2 po_lt pc_0 pc_1 pc_lt
    refine (unpq ck cv uk P Q ue sk sv HUK.out HPP.out HQQ.out HUE.out jb1 jb2).mono ?_
    rintro e u9 ⟨U1, U2, v1, v2, rfl, hra, hrl, hb⟩
    have F20 := Lib.hid (F19.out.below hb)
    clear F19
    have F21 := Lib.hid (F20.out.addR (hra))
    clear F20
    have F22 := Lib.hid (F21.out.addR (hrl))
    clear F21
    replace BB := Lib.hid (bl_then BB.out hb)
    clear hb
    clear hra hrl
    rcases unp_cases ck cv HUK.out HPP.out HQQ.out HUE.out with ⟨rfl, hk1, hk2, hk3, hk4⟩ | ⟨rfl, rfl, rfl, rfl⟩
    · have HK1 := Lib.hid hk1
      have HK2 := Lib.hid hk2
      have HK3 := Lib.hid hk3
      have HK4 := Lib.hid hk4
      clear hk1 hk2 hk3 hk4
      have po_0 : u9.cell? ⟨w.heap.size, 0, none⟩ = some (.string ko) := (F22.out.blk 11 rfl).cell 0
      have po_1 : u9.cell? ⟨w.heap.size, 1, none⟩ = some (.slice A a.length c) := (F22.out.blk 11 rfl).cell 1
      have po_2 : u9.cell? ⟨w.heap.size, 2, none⟩ = some (.slice B l.length d) := (F22.out.blk 11 rfl).cell 2
      have pp_0 : u9.cell? ⟨u6.heap.size, 0, none⟩ = some (.string ko) := (F22.out.blk 2 rfl).cell 0
      have pp_1 : u9.cell? ⟨u6.heap.size, 1, none⟩ = some (.slice U3 a.length v3) := (F22.out.blk 2 rfl).cell 1
      have pp_2 : u9.cell? ⟨u6.heap.size, 2, none⟩ = some (.slice U4 l.length v4) := (F22.out.blk 2 rfl).cell 2
      have pd_0 : u9.cell? ⟨u4.heap.size, 0, none⟩ = some (.string p1) := (F22.out.blk 5 rfl).cell 0
      have pd_1 : u9.cell? ⟨u4.heap.size, 1, none⟩ = some (.string p2) := (F22.out.blk 5 rfl).cell 1
      have pc_0 : u9.cell? ⟨w.heap.size + 1, 0, none⟩ = some (.string ck) := (F22.out.blk 10 rfl).cell 0
      have pc_1 : u9.cell? ⟨w.heap.size + 1, 1, none⟩ = some (.string cv) := (F22.out.blk 10 rfl).cell 1
      have po_lt : w.heap.size < u9.heap.size := (F22.out.blk 11 rfl).lt
      have pp_lt : u6.heap.size < u9.heap.size := (F22.out.blk 2 rfl).lt
      have pd_lt : u4.heap.size < u9.heap.size := (F22.out.blk 5 rfl).lt
      have pc_lt : w.heap.size + 1 < u9.heap.size := (F22.out.blk 10 rfl).lt
      go_wp2_with fail
      clear po_0 po_1 po_2 po_lt pp_0 pp_1 pp_2 pp_lt pd_0 pd_1 pd_lt pc_0 pc_1 pc_lt
      obtain ⟨Z10, hZ10⟩ : ∃ W : World, W = u9.alloc (.cells #[.string uk, .slice U1 P.length v1, .slice U2 Q.length v2] 27) := ⟨_, rfl⟩
      rw [← hZ10]
      have LL : Hid (Below u9.heap.size u9 Z10) := Lib.hid (by rw [hZ10]; exact (by repeat (first | exact Below.refl _ _ | refine bl_drewN ?_ _ | refine bl_drew ?_ | refine bl_alloc ?_ _)))
      have X_pu : Hid (GR.Blk Z10 (u9.heap.size) 27 #[.string uk, .slice U1 P.length v1, .slice U2 Q.length v2]) := Lib.hid (by rw [hZ10]; exact GR.Blk.new _ _ _)
      clear hZ10
      have F23 := Lib.hid (F22.out.below LL.out)
      clear F22
      have F24 := Lib.hid (HS.addB F23.out (g := u9.heap.size) (t := 27) (cs := #[.string uk, .slice U1 P.length v1, .slice U2 Q.length v2]) (X_pu.out))
      clear F23
      clear X_pu
      replace BB := Lib.hid (bl_then BB.out LL.out)
      clear LL
      refine (packq ck cv 0 (F24.out.rd 2 rfl) (F24.out.rd 1 rfl) rfl rfl HK4.out HK2.out HK1.out).mono ?_
      rintro e u11 ⟨rfl, hb⟩
      have F25 := Lib.hid (F24.out.below hb)
      clear F24
      replace BB := Lib.hid (bl_then BB.out hb)
      clear hb
      have po_0 : u11.cell? ⟨w.heap.size, 0, none⟩ = some (.string ko) := (F25.out.blk 12 rfl).cell 0
      have po_1 : u11.cell? ⟨w.heap.size, 1, none⟩ = some (.slice A a.length c) := (F25.out.blk 12 rfl).cell 1
      have po_2 : u11.cell? ⟨w.heap.size, 2, none⟩ = some (.slice B l.length d) := (F25.out.blk 12 rfl).cell 2
      have pp_0 : u11.cell? ⟨u6.heap.size, 0, none⟩ = some (.string ko) := (F25.out.blk 3 rfl).cell 0
      have pp_1 : u11.cell? ⟨u6.heap.size, 1, none⟩ = some (.slice U3 a.length v3) := (F25.out.blk 3 rfl).cell 1
      have pp_2 : u11.cell? ⟨u6.heap.size, 2, none⟩ = some (.slice U4 l.length v4) := (F25.out.blk 3 rfl).cell 2
      have pd_0 : u11.cell? ⟨u4.heap.size, 0, none⟩ = some (.string p1) := (F25.out.blk 6 rfl).cell 0
      have pd_1 : u11.cell? ⟨u4.heap.size, 1, none⟩ = some (.string p2) := (F25.out.blk 6 rfl).cell 1
      have pc_0 : u11.cell? ⟨w.heap.size + 1, 0, none⟩ = some (.string ck) := (F25.out.blk 11 rfl).cell 0
      have pc_1 : u11.cell? ⟨w.heap.size + 1, 1, none⟩ = some (.string cv) := (F25.out.blk 11 rfl).cell 1
      have pu_0 : u11.cell? ⟨u9.heap.size, 0, none⟩ = some (.string uk) := (F25.out.blk 0 rfl).cell 0
      have pu_1 : u11.cell? ⟨u9.heap.size, 1, none⟩ = some (.slice U1 P.length v1) := (F25.out.blk 0 rfl).cell 1
      have pu_2 : u11.cell? ⟨u9.heap.size, 2, none⟩ = some (.slice U2 Q.length v2) := (F25.out.blk 0 rfl).cell 2
      have po_lt : w.heap.size < u11.heap.size := (F25.out.blk 12 rfl).lt
      have pp_lt : u6.heap.size < u11.heap.size := (F25.out.blk 3 rfl).lt
      have pd_lt : u4.heap.size < u11.heap.size := (F25.out.blk 6 rfl).lt
      have pc_lt : w.heap.size + 1 < u11.heap.size := (F25.out.blk 11 rfl).lt
      have pu_lt : u9.heap.size < u11.heap.size := (F25.out.blk 0 rfl).lt
      go_wp2_with fail
      clear po_0 po_1 po_2 po_lt pp_0 pp_1 pp_2 pp_lt pd_0 pd_1 pd_lt pc_0 pc_1 pc_lt pu_0 pu_1 pu_2 pu_lt
      obtain ⟨Z12, hZ12⟩ : ∃ W : World, W = u11.alloc (.cells #[.string ck, .string cv] 48) := ⟨_, rfl⟩
      rw [← hZ12]
      have LL : Hid (Below u11.heap.size u11 Z12) := Lib.hid (by rw [hZ12]; exact (by repeat (first | exact Below.refl _ _ | refine bl_drewN ?_ _ | refine bl_drew ?_ | refine bl_alloc ?_ _)))
      have X_pg : Hid (GR.Blk Z12 (u11.heap.size) 48 #[.string ck, .string cv]) := Lib.hid (by rw [hZ12]; exact GR.Blk.new _ _ _)
      clear hZ12
      have F26 := Lib.hid (F25.out.below LL.out)
      clear F25
      have F27 := Lib.hid (HS.addB F26.out (g := u11.heap.size) (t := 48) (cs := #[.string ck, .string cv]) (X_pg.out))
      clear F26
      clear X_pg
      replace BB := Lib.hid (bl_then BB.out LL.out)
      clear LL
      refine (checkq 0 (F27.out.rd 3 rfl) (F27.out.rd 2 rfl) rfl rfl HK4.out HK3.out).mono ?_
      rintro e u13 ⟨rfl, hb⟩
      have F28 := Lib.hid (F27.out.below hb)
      clear F27
      replace BB := Lib.hid (bl_then BB.out hb)
      clear hb
      go_wp2
      exact bodyPost_ret (v := .bool true) (by simp [results, Try.results7, go_sem]) rfl ⟨rfl, BB.out⟩
    · skip
      have po_0 : u9.cell? ⟨w.heap.size, 0, none⟩ = some (.string ko) := (F22.out.blk 11 rfl).cell 0
      have po_1 : u9.cell? ⟨w.heap.size, 1, none⟩ = some (.slice A a.length c) := (F22.out.blk 11 rfl).cell 1
      have po_2 : u9.cell? ⟨w.heap.size, 2, none⟩ = some (.slice B l.length d) := (F22.out.blk 11 rfl).cell 2
      have pp_0 : u9.cell? ⟨u6.heap.size, 0, none⟩ = some (.string ko) := (F22.out.blk 2 rfl).cell 0
      have pp_1 : u9.cell? ⟨u6.heap.size, 1, none⟩ = some (.slice U3 a.length v3) := (F22.out.blk 2 rfl).cell 1
      have pp_2 : u9.cell? ⟨u6.heap.size, 2, none⟩ = some (.slice U4 l.length v4) := (F22.out.blk 2 rfl).cell 2
      have pd_0 : u9.cell? ⟨u4.heap.size, 0, none⟩ = some (.string p1) := (F22.out.blk 5 rfl).cell 0
      have pd_1 : u9.cell? ⟨u4.heap.size, 1, none⟩ = some (.string p2) := (F22.out.blk 5 rfl).cell 1
      have pc_0 : u9.cell? ⟨w.heap.size + 1, 0, none⟩ = some (.string ck) := (F22.out.blk 10 rfl).cell 0
      have pc_1 : u9.cell? ⟨w.heap.size + 1, 1, none⟩ = some (.string cv) := (F22.out.blk 10 rfl).cell 1
      have po_lt : w.heap.size < u9.heap.size := (F22.out.blk 11 rfl).lt
      have pp_lt : u6.heap.size < u9.heap.size := (F22.out.blk 2 rfl).lt
      have pd_lt : u4.heap.size < u9.heap.size := (F22.out.blk 5 rfl).lt
      have pc_lt : w.heap.size + 1 < u9.heap.size := (F22.out.blk 10 rfl).lt
      go_wp2_with fail
      clear po_0 po_1 po_2 po_lt pp_0 pp_1 pp_2 pp_lt pd_0 pd_1 pd_lt pc_0 pc_1 pc_lt
      obtain ⟨Z14, hZ14⟩ : ∃ W : World, W = u9.alloc (.cells #[.string ⟨#[]⟩, .slice U1 0 v1, .slice U2 0 v2] 27) := ⟨_, rfl⟩
      rw [← hZ14]
      have LL : Hid (Below u9.heap.size u9 Z14) := Lib.hid (by rw [hZ14]; exact (by repeat (first | exact Below.refl _ _ | refine bl_drewN ?_ _ | refine bl_drew ?_ | refine bl_alloc ?_ _)))
      have X_pu : Hid (GR.Blk Z14 (u9.heap.size) 27 #[.string ⟨#[]⟩, .slice U1 0 v1, .slice U2 0 v2]) := Lib.hid (by rw [hZ14]; exact GR.Blk.new _ _ _)
      clear hZ14
      have F29 := Lib.hid (F22.out.below LL.out)
      clear F22
      have F30 := Lib.hid (HS.addB F29.out (g := u9.heap.size) (t := 27) (cs := #[.string ⟨#[]⟩, .slice U1 0 v1, .slice U2 0 v2]) (X_pu.out))
      clear F29
      clear X_pu
      replace BB := Lib.hid (bl_then BB.out LL.out)
      clear LL
      refine (lsameq true (F30.out.rd 2 rfl) (F30.out.rd 1 rfl) (GR.Rd.nil _ _ _) (GR.Rd.nil _ _ _) rfl rfl rfl rfl rfl).mono ?_
      rintro e u15 ⟨rfl, hb⟩
      have F31 := Lib.hid (F30.out.below hb)
      clear F30
      replace BB := Lib.hid (bl_then BB.out hb)
      clear hb
      go_wp2
      exact bodyPost_ret (v := .bool true) (by simp [results, Try.results7, go_sem]) rfl ⟨rfl, BB.out⟩
  · have HX0 := Lib.hid hx0
    have f1 : (x != 0) = true := by simpa using hx0
    have f2 : decide (x = 0) = false := by simpa using hx0
    have f3 : (x == 0) = false := by simpa using hx0
    clear hx0
    by_cases h110 : x = 110
    · subst h110
      obtain ⟨y, hy⟩ : ∃ y, chkE ko a l = y := ⟨_, rfl⟩
      have HY := Lib.hid hy
      clear hy
      have po_0 : u4.cell? ⟨w.heap.size, 0, none⟩ = some (.string ko) := (F10.out.blk 5 rfl).cell 0
      have po_1 : u4.cell? ⟨w.heap.size, 1, none⟩ = some (.slice A a.length c) := (F10.out.blk 5 rfl).cell 1
      have po_2 : u4.cell? ⟨w.heap.size, 2, none⟩ = some (.slice B l.length d) := (F10.out.blk 5 rfl).cell 2
      have po_lt : w.heap.size < u4.heap.size := (F10.out.blk 5 rfl).lt
      go_wp2_with fail
      clear po_0 po_1 po_2 po_lt
      obtain ⟨Z16, hZ16⟩ : ∃ W : World, W = u4.alloc (.cells #[.string p1, .string p2] 48) := ⟨_, rfl⟩
      rw [← hZ16]
      have LL : Hid (Below u4.heap.size u4 Z16) := Lib.hid (by rw [hZ16]; exact (by repeat (first | exact Below.refl _ _ | refine bl_drewN ?_ _ | refine bl_drew ?_ | refine bl_alloc ?_ _)))
      have X_pd : Hid (GR.Blk Z16 (u4.heap.size) 48 #[.string p1, .string p2]) := Lib.hid (by rw [hZ16]; exact GR.Blk.new _ _ _)
      clear hZ16
      have F32 := Lib.hid (F10.out.below LL.out)
      clear F10
      have F33 := Lib.hid (HS.addB F32.out (g := u4.heap.size) (t := 48) (cs := #[.string p1, .string p2]) (X_pd.out))
      clear F32
      clear X_pd
      replace BB := Lib.hid (bl_then BB.out LL.out)
      clear LL
      refine (twinR_any ko A B c d a l _ (F33.out.rd 4 rfl) (F33.out.rd 3 rfl) sa sl).mono ?_
      rintro e u17 ⟨T13, T23, t13, t23, rfl, hra, hrl, _, _, hb⟩
      have F34 := Lib.hid (F33.out.below hb)
      clear F33
      have F35 := Lib.hid (F34.out.addR (hra))
      clear F34
      have F36 := Lib.hid (F35.out.addR (hrl))
      clear F35
      replace BB := Lib.hid (bl_then BB.out hb)
      clear hb
      clear hra hrl
      have po_0 : u17.cell? ⟨w.heap.size, 0, none⟩ = some (.string ko) := (F36.out.blk 8 rfl).cell 0
      have po_1 : u17.cell? ⟨w.heap.size, 1, none⟩ = some (.slice A a.length c) := (F36.out.blk 8 rfl).cell 1
      have po_2 : u17.cell? ⟨w.heap.size, 2, none⟩ = some (.slice B l.length d) := (F36.out.blk 8 rfl).cell 2
      have pd_0 : u17.cell? ⟨u4.heap.size, 0, none⟩ = some (.string p1) := (F36.out.blk 2 rfl).cell 0
      have pd_1 : u17.cell? ⟨u4.heap.size, 1, none⟩ = some (.string p2) := (F36.out.blk 2 rfl).cell 1
      have po_lt : w.heap.size < u17.heap.size := (F36.out.blk 8 rfl).lt
      have pd_lt : u4.heap.size < u17.heap.size := (F36.out.blk 2 rfl).lt
      go_wp2_with fail
      clear po_0 po_1 po_2 po_lt pd_0 pd_1 pd_lt
      refine (checkq y (F36.out.rd 1 rfl) (F36.out.rd 0 rfl) rfl rfl HR.out HY.out).mono ?_
      rintro e u18 ⟨rfl, hb⟩
      have F37 := Lib.hid (F36.out.below hb)
      clear F36
      replace BB := Lib.hid (bl_then BB.out hb)
      clear hb
      by_cases hy0 : y = 0
      · have hl0 : a.length = 0 := back_110 HX.out (HY.out.trans hy0)
        subst hy0
        have v1 : decide (0 < a.length) = false := decide_eq_false (by omega)
        have v2 : decide ((0 : Int) < (a.length : Int)) = false := decide_eq_false (by omega)
        clear hl0
        have po_0 : u18.cell? ⟨w.heap.size, 0, none⟩ = some (.string ko) := (F37.out.blk 8 rfl).cell 0
        have po_1 : u18.cell? ⟨w.heap.size, 1, none⟩ = some (.slice A a.length c) := (F37.out.blk 8 rfl).cell 1
        have po_2 : u18.cell? ⟨w.heap.size, 2, none⟩ = some (.slice B l.length d) := (F37.out.blk 8 rfl).cell 2
        have pc_0 : u18.cell? ⟨w.heap.size + 1, 0, none⟩ = some (.string ck) := (F37.out.blk 7 rfl).cell 0
        have pc_1 : u18.cell? ⟨w.heap.size + 1, 1, none⟩ = some (.string cv) := (F37.out.blk 7 rfl).cell 1
        have po_lt : w.heap.size < u18.heap.size := (F37.out.blk 8 rfl).lt
        have pc_lt : w.heap.size + 1 < u18.heap.size := (F37.out.blk 7 rfl).lt
        go_wp2_with fail
        clear po_0 po_1 po_2 po_lt pc_0 pc_1 pc_lt
        refine (unpq ck cv uk P Q ue sk sv HUK.out HPP.out HQQ.out HUE.out jb1 jb2).mono ?_
        rintro e u19 ⟨U1, U2, v1, v2, rfl, hra, hrl, hb⟩
        have F38 := Lib.hid (F37.out.below hb)
        clear F37
        have F39 := Lib.hid (F38.out.addR (hra))
        clear F38
        have F40 := Lib.hid (F39.out.addR (hrl))
        clear F39
        replace BB := Lib.hid (bl_then BB.out hb)
        clear hb
        clear hra hrl
        rcases unp_cases ck cv HUK.out HPP.out HQQ.out HUE.out with ⟨rfl, hk1, hk2, hk3, hk4⟩ | ⟨rfl, rfl, rfl, rfl⟩
        · have HK1 := Lib.hid hk1
          have HK2 := Lib.hid hk2
          have HK3 := Lib.hid hk3
          have HK4 := Lib.hid hk4
          clear hk1 hk2 hk3 hk4
          have po_0 : u19.cell? ⟨w.heap.size, 0, none⟩ = some (.string ko) := (F40.out.blk 10 rfl).cell 0
          have po_1 : u19.cell? ⟨w.heap.size, 1, none⟩ = some (.slice A a.length c) := (F40.out.blk 10 rfl).cell 1
          have po_2 : u19.cell? ⟨w.heap.size, 2, none⟩ = some (.slice B l.length d) := (F40.out.blk 10 rfl).cell 2
          have pd_0 : u19.cell? ⟨u4.heap.size, 0, none⟩ = some (.string p1) := (F40.out.blk 4 rfl).cell 0
          have pd_1 : u19.cell? ⟨u4.heap.size, 1, none⟩ = some (.string p2) := (F40.out.blk 4 rfl).cell 1
          have pc_0 : u19.cell? ⟨w.heap.size + 1, 0, none⟩ = some (.string ck) := (F40.out.blk 9 rfl).cell 0
          have pc_1 : u19.cell? ⟨w.heap.size + 1, 1, none⟩ = some (.string cv) := (F40.out.blk 9 rfl).cell 1
          have po_lt : w.heap.size < u19.heap.size := (F40.out.blk 10 rfl).lt
          have pd_lt : u4.heap.size < u19.heap.size := (F40.out.blk 4 rfl).lt
          have pc_lt : w.heap.size + 1 < u19.heap.size := (F40.out.blk 9 rfl).lt
          go_wp2_with fail
          clear po_0 po_1 po_2 po_lt pd_0 pd_1 pd_lt pc_0 pc_1 pc_lt
          obtain ⟨Z20, hZ20⟩ : ∃ W : World, W = u19.alloc (.cells #[.string uk, .slice U1 P.length v1, .slice U2 Q.length v2] 27) := ⟨_, rfl⟩
          rw [← hZ20]
          have LL : Hid (Below u19.heap.size u19 Z20) := Lib.hid (by rw [hZ20]; exact (by repeat (first | exact Below.refl _ _ | refine bl_drewN ?_ _ | refine bl_drew ?_ | refine bl_alloc ?_ _)))
          have X_pu : Hid (GR.Blk Z20 (u19.heap.size) 27 #[.string uk, .slice U1 P.length v1, .slice U2 Q.length v2]) := Lib.hid (by rw [hZ20]; exact GR.Blk.new _ _ _)
          clear hZ20
          have F41 := Lib.hid (F40.out.below LL.out)
          clear F40
          have F42 := Lib.hid (HS.addB F41.out (g := u19.heap.size) (t := 27) (cs := #[.string uk, .slice U1 P.length v1, .slice U2 Q.length v2]) (X_pu.out))
          clear F41
          clear X_pu
          replace BB := Lib.hid (bl_then BB.out LL.out)
          clear LL
          refine (packq ck cv 0 (F42.out.rd 2 rfl) (F42.out.rd 1 rfl) rfl rfl HK4.out HK2.out HK1.out).mono ?_
          rintro e u21 ⟨rfl, hb⟩
          have F43 := Lib.hid (F42.out.below hb)
          clear F42
          replace BB := Lib.hid (bl_then BB.out hb)
          clear hb
          have po_0 : u21.cell? ⟨w.heap.size, 0, none⟩ = some (.string ko) := (F43.out.blk 11 rfl).cell 0
          have po_1 : u21.cell? ⟨w.heap.size, 1, none⟩ = some (.slice A a.length c) := (F43.out.blk 11 rfl).cell 1
          have po_2 : u21.cell? ⟨w.heap.size, 2, none⟩ = some (.slice B l.length d) := (F43.out.blk 11 rfl).cell 2
          have pd_0 : u21.cell? ⟨u4.heap.size, 0, none⟩ = some (.string p1) := (F43.out.blk 5 rfl).cell 0
          have pd_1 : u21.cell? ⟨u4.heap.size, 1, none⟩ = some (.string p2) := (F43.out.blk 5 rfl).cell 1
          have pc_0 : u21.cell? ⟨w.heap.size + 1, 0, none⟩ = some (.string ck) := (F43.out.blk 10 rfl).cell 0
          have pc_1 : u21.cell? ⟨w.heap.size + 1, 1, none⟩ = some (.string cv) := (F43.out.blk 10 rfl).cell 1
          have pu_0 : u21.cell? ⟨u19.heap.size, 0, none⟩ = some (.string uk) := (F43.out.blk 0 rfl).cell 0
          have pu_1 : u21.cell? ⟨u19.heap.size, 1, none⟩ = some (.slice U1 P.length v1) := (F43.out.blk 0 rfl).cell 1
          have pu_2 : u21.cell? ⟨u19.heap.size, 2, none⟩ = some (.slice U2 Q.length v2) := (F43.out.blk 0 rfl).cell 2
          have po_lt : w.heap.size < u21.heap.size := (F43.out.blk 11 rfl).lt
          have pd_lt : u4.heap.size < u21.heap.size := (F43.out.blk 5 rfl).lt
          have pc_lt : w.heap.size + 1 < u21.heap.size := (F43.out.blk 10 rfl).lt
          have pu_lt : u19.heap.size < u21.heap.size := (F43.out.blk 0 rfl).lt
          go_wp2_with fail
          clear po_0 po_1 po_2 po_lt pd_0 pd_1 pd_lt pc_0 pc_1 pc_lt pu_0 pu_1 pu_2 pu_lt
          obtain ⟨Z22, hZ22⟩ : ∃ W : World, W = u21.alloc (.cells #[.string ck, .string cv] 48) := ⟨_, rfl⟩
          rw [← hZ22]
          have LL : Hid (Below u21.heap.size u21 Z22) := Lib.hid (by rw [hZ22]; exact (by repeat (first | exact Below.refl _ _ | refine bl_drewN ?_ _ | refine bl_drew ?_ | refine bl_alloc ?_ _)))
          have X_pg : Hid (GR.Blk Z22 (u21.heap.size) 48 #[.string ck, .string cv]) := Lib.hid (by rw [hZ22]; exact GR.Blk.new _ _ _)
          clear hZ22
          have F44 := Lib.hid (F43.out.below LL.out)
          clear F43
          have F45 := Lib.hid (HS.addB F44.out (g := u21.heap.size) (t := 48) (cs := #[.string ck, .string cv]) (X_pg.out))
          clear F44
          clear X_pg
          replace BB := Lib.hid (bl_then BB.out LL.out)
          clear LL
          refine (checkq 0 (F45.out.rd 3 rfl) (F45.out.rd 2 rfl) rfl rfl HK4.out HK3.out).mono ?_
          rintro e u23 ⟨rfl, hb⟩
          have F46 := Lib.hid (F45.out.below hb)
          clear F45
          replace BB := Lib.hid (bl_then BB.out hb)
          clear hb
          go_wp2
          exact bodyPost_ret (v := .bool true) (by simp [results, Try.results7, go_sem]) rfl ⟨rfl, BB.out⟩
        · skip
          have po_0 : u19.cell? ⟨w.heap.size, 0, none⟩ = some (.string ko) := (F40.out.blk 10 rfl).cell 0
          have po_1 : u19.cell? ⟨w.heap.size, 1, none⟩ = some (.slice A a.length c) := (F40.out.blk 10 rfl).cell 1
          have po_2 : u19.cell? ⟨w.heap.size, 2, none⟩ = some (.slice B l.length d) := (F40.out.blk 10 rfl).cell 2
          have pd_0 : u19.cell? ⟨u4.heap.size, 0, none⟩ = some (.string p1) := (F40.out.blk 4 rfl).cell 0
          have pd_1 : u19.cell? ⟨u4.heap.size, 1, none⟩ = some (.string p2) := (F40.out.blk 4 rfl).cell 1
          have pc_0 : u19.cell? ⟨w.heap.size + 1, 0, none⟩ = some (.string ck) := (F40.out.blk 9 rfl).cell 0
          have pc_1 : u19.cell? ⟨w.heap.size + 1, 1, none⟩ = some (.string cv) := (F40.out.blk 9 rfl).cell 1
          have po_lt : w.heap.size < u19.heap.size := (F40.out.blk 10 rfl).lt
          have pd_lt : u4.heap.size < u19.heap.size := (F40.out.blk 4 rfl).lt
          have pc_lt : w.heap.size + 1 < u19.heap.size := (F40.out.blk 9 rfl).lt
          go_wp2_with fail
          clear po_0 po_1 po_2 po_lt pd_0 pd_1 pd_lt pc_0 pc_1 pc_lt
          obtain ⟨Z24, hZ24⟩ : ∃ W : World, W = u19.alloc (.cells #[.string ⟨#[]⟩, .slice U1 0 v1, .slice U2 0 v2] 27) := ⟨_, rfl⟩
          rw [← hZ24]
          have LL : Hid (Below u19.heap.size u19 Z24) := Lib.hid (by rw [hZ24]; exact (by repeat (first | exact Below.refl _ _ | refine bl_drewN ?_ _ | refine bl_drew ?_ | refine bl_alloc ?_ _)))
          have X_pu : Hid (GR.Blk Z24 (u19.heap.size) 27 #[.string ⟨#[]⟩, .slice U1 0 v1, .slice U2 0 v2]) := Lib.hid (by rw [hZ24]; exact GR.Blk.new _ _ _)
          clear hZ24
          have F47 := Lib.hid (F40.out.below LL.out)
          clear F40
          have F48 := Lib.hid (HS.addB F47.out (g := u19.heap.size) (t := 27) (cs := #[.string ⟨#[]⟩, .slice U1 0 v1, .slice U2 0 v2]) (X_pu.out))
          clear F47
          clear X_pu
          replace BB := Lib.hid (bl_then BB.out LL.out)
          clear LL
          refine (lsameq true (F48.out.rd 2 rfl) (F48.out.rd 1 rfl) (GR.Rd.nil _ _ _) (GR.Rd.nil _ _ _) rfl rfl rfl rfl rfl).mono ?_
          rintro e u25 ⟨rfl, hb⟩
          have F49 := Lib.hid (F48.out.below hb)
          clear F48
          replace BB := Lib.hid (bl_then BB.out hb)
          clear hb
          go_wp2
          exact bodyPost_ret (v := .bool true) (by simp [results, Try.results7, go_sem]) rfl ⟨rfl, BB.out⟩
      · have f4 : (y == 0) = false := by simpa using hy0
        have f5 : decide (y = 0) = false := by simpa using hy0
        clear hy0
        have po_0 : u18.cell? ⟨w.heap.size, 0, none⟩ = some (.string ko) := (F37.out.blk 8 rfl).cell 0
        have po_1 : u18.cell? ⟨w.heap.size, 1, none⟩ = some (.slice A a.length c) := (F37.out.blk 8 rfl).cell 1
        have po_2 : u18.cell? ⟨w.heap.size, 2, none⟩ = some (.slice B l.length d) := (F37.out.blk 8 rfl).cell 2
        have pc_0 : u18.cell? ⟨w.heap.size + 1, 0, none⟩ = some (.string ck) := (F37.out.blk 7 rfl).cell 0
        have pc_1 : u18.cell? ⟨w.heap.size + 1, 1, none⟩ = some (.string cv) := (F37.out.blk 7 rfl).cell 1
        have po_lt : w.heap.size < u18.heap.size := (F37.out.blk 8 rfl).lt
        have pc_lt : w.heap.size + 1 < u18.heap.size := (F37.out.blk 7 rfl).lt
        go_wp2_with fail
        clear po_0 po_1 po_2 po_lt pc_0 pc_1 pc_lt
        refine (unpq ck cv uk P Q ue sk sv HUK.out HPP.out HQQ.out HUE.out jb1 jb2).mono ?_
        rintro e u26 ⟨U1, U2, v1, v2, rfl, hra, hrl, hb⟩
        have F50 := Lib.hid (F37.out.below hb)
        clear F37
        have F51 := Lib.hid (F50.out.addR (hra))
        clear F50
        have F52 := Lib.hid (F51.out.addR (hrl))
        clear F51
        replace BB := Lib.hid (bl_then BB.out hb)
        clear hb
        clear hra hrl
        rcases unp_cases ck cv HUK.out HPP.out HQQ.out HUE.out with ⟨rfl, hk1, hk2, hk3, hk4⟩ | ⟨rfl, rfl, rfl, rfl⟩
        · have HK1 := Lib.hid hk1
          have HK2 := Lib.hid hk2
          have HK3 := Lib.hid hk3
          have HK4 := Lib.hid hk4
          clear hk1 hk2 hk3 hk4
          have po_0 : u26.cell? ⟨w.heap.size, 0, none⟩ = some (.string ko) := (F52.out.blk 10 rfl).cell 0
          have po_1 : u26.cell? ⟨w.heap.size, 1, none⟩ = some (.slice A a.length c) := (F52.out.blk 10 rfl).cell 1
          have po_2 : u26.cell? ⟨w.heap.size, 2, none⟩ = some (.slice B l.length d) := (F52.out.blk 10 rfl).cell 2
          have pd_0 : u26.cell? ⟨u4.heap.size, 0, none⟩ = some (.string p1) := (F52.out.blk 4 rfl).cell 0
          have pd_1 : u26.cell? ⟨u4.heap.size, 1, none⟩ = some (.string p2) := (F52.out.blk 4 rfl).cell 1
          have pc_0 : u26.cell? ⟨w.heap.size + 1, 0, none⟩ = some (.string ck) := (F52.out.blk 9 rfl).cell 0
          have pc_1 : u26.cell? ⟨w.heap.size + 1, 1, none⟩ = some (.string cv) := (F52.out.blk 9 rfl).cell 1
          have po_lt : w.heap.size < u26.heap.size := (F52.out.blk 10 rfl).lt
          have pd_lt : u4.heap.size < u26.heap.size := (F52.out.blk 4 rfl).lt
          have pc_lt : w.heap.size + 1 < u26.heap.size := (F52.out.blk 9 rfl).lt
          go_wp2_with fail
          clear po_0 po_1 po_2 po_lt pd_0 pd_1 pd_lt pc_0 pc_1 pc_lt
          obtain ⟨Z27, hZ27⟩ : ∃ W : World, W = u26.alloc (.cells #[.string uk, .slice U1 P.length v1, .slice U2 Q.length v2] 27) := ⟨_, rfl⟩
          rw [← hZ27]
          have LL : Hid (Below u26.heap.size u26 Z27) := Lib.hid (by rw [hZ27]; exact (by repeat (first | exact Below.refl _ _ | refine bl_drewN ?_ _ | refine bl_drew ?_ | refine bl_alloc ?_ _)))
          have X_pu : Hid (GR.Blk Z27 (u26.heap.size) 27 #[.string uk, .slice U1 P.length v1, .slice U2 Q.length v2]) := Lib.hid (by rw [hZ27]; exact GR.Blk.new _ _ _)
          clear hZ27
          have F53 := Lib.hid (F52.out.below LL.out)
          clear F52
          have F54 := Lib.hid (HS.addB F53.out (g := u26.heap.size) (t := 27) (cs := #[.string uk, .slice U1 P.length v1, .slice U2 Q.length v2]) (X_pu.out))
          clear F53
          clear X_pu
          replace BB := Lib.hid (bl_then BB.out LL.out)
          clear LL
          refine (packq ck cv 0 (F54.out.rd 2 rfl) (F54.out.rd 1 rfl) rfl rfl HK4.out HK2.out HK1.out).mono ?_
          rintro e u28 ⟨rfl, hb⟩
          have F55 := Lib.hid (F54.out.below hb)
          clear F54
          replace BB := Lib.hid (bl_then BB.out hb)
          clear hb
          have po_0 : u28.cell? ⟨w.heap.size, 0, none⟩ = some (.string ko) := (F55.out.blk 11 rfl).cell 0
          have po_1 : u28.cell? ⟨w.heap.size, 1, none⟩ = some (.slice A a.length c) := (F55.out.blk 11 rfl).cell 1
          have po_2 : u28.cell? ⟨w.heap.size, 2, none⟩ = some (.slice B l.length d) := (F55.out.blk 11 rfl).cell 2
          have pd_0 : u28.cell? ⟨u4.heap.size, 0, none⟩ = some (.string p1) := (F55.out.blk 5 rfl).cell 0
          have pd_1 : u28.cell? ⟨u4.heap.size, 1, none⟩ = some (.string p2) := (F55.out.blk 5 rfl).cell 1
          have pc_0 : u28.cell? ⟨w.heap.size + 1, 0, none⟩ = some (.string ck) := (F55.out.blk 10 rfl).cell 0
          have pc_1 : u28.cell? ⟨w.heap.size + 1, 1, none⟩ = some (.string cv) := (F55.out.blk 10 rfl).cell 1
          have pu_0 : u28.cell? ⟨u26.heap.size, 0, none⟩ = some (.string uk) := (F55.out.blk 0 rfl).cell 0
          have pu_1 : u28.cell? ⟨u26.heap.size, 1, none⟩ = some (.slice U1 P.length v1) := (F55.out.blk 0 rfl).cell 1
          have pu_2 : u28.cell? ⟨u26.heap.size, 2, none⟩ = some (.slice U2 Q.length v2) := (F55.out.blk 0 rfl).cell 2
          have po_lt : w.heap.size < u28.heap.size := (F55.out.blk 11 rfl).lt
          have pd_lt : u4.heap.size < u28.heap.size := (F55.out.blk 5 rfl).lt
          have pc_lt : w.heap.size + 1 < u28.heap.size := (F55.out.blk 10 rfl).lt
          have pu_lt : u26.heap.size < u28.heap.size := (F55.out.blk 0 rfl).lt
          go_wp2_with fail
          clear po_0 po_1 po_2 po_lt pd_0 pd_1 pd_lt pc_0 pc_1 pc_lt pu_0 pu_1 pu_2 pu_lt
          obtain ⟨Z29, hZ29⟩ : ∃ W : World, W = u28.alloc (.cells #[.string ck, .string cv] 48) := ⟨_, rfl⟩
          rw [← hZ29]
          have LL : Hid (Below u28.heap.size u28 Z29) := Lib.hid (by rw [hZ29]; exact (by repeat (first | exact Below.refl _ _ | refine bl_drewN ?_ _ | refine bl_drew ?_ | refine bl_alloc ?_ _)))
          have X_pg : Hid (GR.Blk Z29 (u28.heap.size) 48 #[.string ck, .string cv]) := Lib.hid (by rw [hZ29]; exact GR.Blk.new _ _ _)
          clear hZ29
          have F56 := Lib.hid (F55.out.below LL.out)
          clear F55
          have F57 := Lib.hid (HS.addB F56.out (g := u28.heap.size) (t := 48) (cs := #[.string ck, .string cv]) (X_pg.out))
          clear F56
          clear X_pg
          replace BB := Lib.hid (bl_then BB.out LL.out)
          clear LL
          refine (checkq 0 (F57.out.rd 3 rfl) (F57.out.rd 2 rfl) rfl rfl HK4.out HK3.out).mono ?_
          rintro e u30 ⟨rfl, hb⟩
          have F58 := Lib.hid (F57.out.below hb)
          clear F57
          replace BB := Lib.hid (bl_then BB.out hb)
          clear hb
          go_wp2
          exact bodyPost_ret (v := .bool true) (by simp [results, Try.results7, go_sem]) rfl ⟨rfl, BB.out⟩
        · skip
          have po_0 : u26.cell? ⟨w.heap.size, 0, none⟩ = some (.string ko) := (F52.out.blk 10 rfl).cell 0
          have po_1 : u26.cell? ⟨w.heap.size, 1, none⟩ = some (.slice A a.length c) := (F52.out.blk 10 rfl).cell 1
          have po_2 : u26.cell? ⟨w.heap.size, 2, none⟩ = some (.slice B l.length d) := (F52.out.blk 10 rfl).cell 2
          have pd_0 : u26.cell? ⟨u4.heap.size, 0, none⟩ = some (.string p1) := (F52.out.blk 4 rfl).cell 0
          have pd_1 : u26.cell? ⟨u4.heap.size, 1, none⟩ = some (.string p2) := (F52.out.blk 4 rfl).cell 1
          have pc_0 : u26.cell? ⟨w.heap.size + 1, 0, none⟩ = some (.string ck) := (F52.out.blk 9 rfl).cell 0
          have pc_1 : u26.cell? ⟨w.heap.size + 1, 1, none⟩ = some (.string cv) := (F52.out.blk 9 rfl).cell 1
          have po_lt : w.heap.size < u26.heap.size := (F52.out.blk 10 rfl).lt
          have pd_lt : u4.heap.size < u26.heap.size := (F52.out.blk 4 rfl).lt
          have pc_lt : w.heap.size + 1 < u26.heap.size := (F52.out.blk 9 rfl).lt
          go_wp2_with fail
          clear po_0 po_1 po_2 po_lt pd_0 pd_1 pd_lt pc_0 pc_1 pc_lt
          obtain ⟨Z31, hZ31⟩ : ∃ W : World, W = u26.alloc (.cells #[.string ⟨#[]⟩, .slice U1 0 v1, .slice U2 0 v2] 27) := ⟨_, rfl⟩
          rw [← hZ31]
          have LL : Hid (Below u26.heap.size u26 Z31) := Lib.hid (by rw [hZ31]; exact (by repeat (first | exact Below.refl _ _ | refine bl_drewN ?_ _ | refine bl_drew ?_ | refine bl_alloc ?_ _)))
          have X_pu : Hid (GR.Blk Z31 (u26.heap.size) 27 #[.string ⟨#[]⟩, .slice U1 0 v1, .slice U2 0 v2]) := Lib.hid (by rw [hZ31]; exact GR.Blk.new _ _ _)
          clear hZ31
          have F59 := Lib.hid (F52.out.below LL.out)
          clear F52
          have F60 := Lib.hid (HS.addB F59.out (g := u26.heap.size) (t := 27) (cs := #[.string ⟨#[]⟩, .slice U1 0 v1, .slice U2 0 v2]) (X_pu.out))
          clear F59
          clear X_pu
          replace BB := Lib.hid (bl_then BB.out LL.out)
          clear LL
          refine (lsameq true (F60.out.rd 2 rfl) (F60.out.rd 1 rfl) (GR.Rd.nil _ _ _) (GR.Rd.nil _ _ _) rfl rfl rfl rfl rfl).mono ?_
          rintro e u32 ⟨rfl, hb⟩
          have F61 := Lib.hid (F60.out.below hb)
          clear F60
          replace BB := Lib.hid (bl_then BB.out hb)
          clear hb
          go_wp2
          exact bodyPost_ret (v := .bool true) (by simp [results, Try.results7, go_sem]) rfl ⟨rfl, BB.out⟩
    · have hc := back_other HX.out HX0.out h110
      have HY := Lib.hid hc
      have f4 : (x == 110) = false := by simpa using h110
      have f5 : decide (x = 110) = false := by simpa using h110
      have f6 : (x != 110) = true := by simpa using h110
      clear h110 hc
      have po_0 : u4.cell? ⟨w.heap.size, 0, none⟩ = some (.string ko) := (F10.out.blk 5 rfl).cell 0
      have po_1 : u4.cell? ⟨w.heap.size, 1, none⟩ = some (.slice A a.length c) := (F10.out.blk 5 rfl).cell 1
      have po_2 : u4.cell? ⟨w.heap.size, 2, none⟩ = some (.slice B l.length d) := (F10.out.blk 5 rfl).cell 2
      have po_lt : w.heap.size < u4.heap.size := (F10.out.blk 5 rfl).lt
      go_wp2_with fail
      clear po_0 po_1 po_2 po_lt
      obtain ⟨Z33, hZ33⟩ : ∃ W : World, W = u4.alloc (.cells #[.string p1, .string p2] 48) := ⟨_, rfl⟩
      rw [← hZ33]
      have LL : Hid (Below u4.heap.size u4 Z33) := Lib.hid (by rw [hZ33]; exact (by repeat (first | exact Below.refl _ _ | refine bl_drewN ?_ _ | refine bl_drew ?_ | refine bl_alloc ?_ _)))
      have X_pd : Hid (GR.Blk Z33 (u4.heap.size) 48 #[.string p1, .string p2]) := Lib.hid (by rw [hZ33]; exact GR.Blk.new _ _ _)
      clear hZ33
      have F62 := Lib.hid (F10.out.below LL.out)
      clear F10
      have F63 := Lib.hid (HS.addB F62.out (g := u4.heap.size) (t := 48) (cs := #[.string p1, .string p2]) (X_pd.out))
      clear F62
      clear X_pd
      replace BB := Lib.hid (bl_then BB.out LL.out)
      clear LL
      refine (twinR_any ko A B c d a l _ (F63.out.rd 4 rfl) (F63.out.rd 3 rfl) sa sl).mono ?_
      rintro e u34 ⟨T13, T23, t13, t23, rfl, hra, hrl, _, _, hb⟩
      have F64 := Lib.hid (F63.out.below hb)
      clear F63
      have F65 := Lib.hid (F64.out.addR (hra))
      clear F64
      have F66 := Lib.hid (F65.out.addR (hrl))
      clear F65
      replace BB := Lib.hid (bl_then BB.out hb)
      clear hb
      clear hra hrl
      have po_0 : u34.cell? ⟨w.heap.size, 0, none⟩ = some (.string ko) := (F66.out.blk 8 rfl).cell 0
      have po_1 : u34.cell? ⟨w.heap.size, 1, none⟩ = some (.slice A a.length c) := (F66.out.blk 8 rfl).cell 1
      have po_2 : u34.cell? ⟨w.heap.size, 2, none⟩ = some (.slice B l.length d) := (F66.out.blk 8 rfl).cell 2
      have pd_0 : u34.cell? ⟨u4.heap.size, 0, none⟩ = some (.string p1) := (F66.out.blk 2 rfl).cell 0
      have pd_1 : u34.cell? ⟨u4.heap.size, 1, none⟩ = some (.string p2) := (F66.out.blk 2 rfl).cell 1
      have po_lt : w.heap.size < u34.heap.size := (F66.out.blk 8 rfl).lt
      have pd_lt : u4.heap.size < u34.heap.size := (F66.out.blk 2 rfl).lt
      go_wp2_with fail
      clear po_0 po_1 po_2 po_lt pd_0 pd_1 pd_lt
      refine (checkq x (F66.out.rd 1 rfl) (F66.out.rd 0 rfl) rfl rfl HR.out HY.out).mono ?_
      rintro e u35 ⟨rfl, hb⟩
      have F67 := Lib.hid (F66.out.below hb)
      clear F66
      replace BB := Lib.hid (bl_then BB.out hb)
      clear hb
      have po_0 : u35.cell? ⟨w.heap.size, 0, none⟩ = some (.string ko) := (F67.out.blk 8 rfl).cell 0
      have po_1 : u35.cell? ⟨w.heap.size, 1, none⟩ = some (.slice A a.length c) := (F67.out.blk 8 rfl).cell 1
      have po_2 : u35.cell? ⟨w.heap.size, 2, none⟩ = some (.slice B l.length d) := (F67.out.blk 8 rfl).cell 2
      have pc_0 : u35.cell? ⟨w.heap.size + 1, 0, none⟩ = some (.string ck) := (F67.out.blk 7 rfl).cell 0
      have pc_1 : u35.cell? ⟨w.heap.size + 1, 1, none⟩ = some (.string cv) := (F67.out.blk 7 rfl).cell 1
      have po_lt : w.heap.size < u35.heap.size := (F67.out.blk 8 rfl).lt
      have pc_lt : w.heap.size + 1 < u35.heap.size := (F67.out.blk 7 rfl).lt
      go_wp2_with fail
      clear po_0 po_1 po_2 po_lt pc_0 pc_1 pc_lt
      refine (unpq ck cv uk P Q ue sk sv HUK.out HPP.out HQQ.out HUE.out jb1 jb2).mono ?_
      rintro e u36 ⟨U1, U2, v1, v2, rfl, hra, hrl, hb⟩
      have F68 := Lib.hid (F67.out.below hb)
      clear F67
      have F69 := Lib.hid (F68.out.addR (hra))
      clear F68
      have F70 := Lib.hid (F69.out.addR (hrl))
      clear F69
      replace BB := Lib.hid (bl_then BB.out hb)
      clear hb
      clear hra hrl
      rcases unp_cases ck cv HUK.out HPP.out HQQ.out HUE.out with ⟨rfl, hk1, hk2, hk3, hk4⟩ | ⟨rfl, rfl, rfl, rfl⟩
      · have HK1 := Lib.hid hk1
        have HK2 := Lib.hid hk2
        have HK3 := Lib.hid hk3
        have HK4 := Lib.hid hk4
        clear hk1 hk2 hk3 hk4
        have po_0 : u36.cell? ⟨w.heap.size, 0, none⟩ = some (.string ko) := (F70.out.blk 10 rfl).cell 0
        have po_1 : u36.cell? ⟨w.heap.size, 1, none⟩ = some (.slice A a.length c) := (F70.out.blk 10 rfl).cell 1
        have po_2 : u36.cell? ⟨w.heap.size, 2, none⟩ = some (.slice B l.length d) := (F70.out.blk 10 rfl).cell 2
        have pd_0 : u36.cell? ⟨u4.heap.size, 0, none⟩ = some (.string p1) := (F70.out.blk 4 rfl).cell 0
        have pd_1 : u36.cell? ⟨u4.heap.size, 1, none⟩ = some (.string p2) := (F70.out.blk 4 rfl).cell 1
        have pc_0 : u36.cell? ⟨w.heap.size + 1, 0, none⟩ = some (.string ck) := (F70.out.blk 9 rfl).cell 0
        have pc_1 : u36.cell? ⟨w.heap.size + 1, 1, none⟩ = some (.string cv) := (F70.out.blk 9 rfl).cell 1
        have po_lt : w.heap.size < u36.heap.size := (F70.out.blk 10 rfl).lt
        have pd_lt : u4.heap.size < u36.heap.size := (F70.out.blk 4 rfl).lt
        have pc_lt : w.heap.size + 1 < u36.heap.size := (F70.out.blk 9 rfl).lt
        go_wp2_with fail
        clear po_0 po_1 po_2 po_lt pd_0 pd_1 pd_lt pc_0 pc_1 pc_lt
        obtain ⟨Z37, hZ37⟩ : ∃ W : World, W = u36.alloc (.cells #[.string uk, .slice U1 P.length v1, .slice U2 Q.length v2] 27) := ⟨_, rfl⟩
        rw [← hZ37]
        have LL : Hid (Below u36.heap.size u36 Z37) := Lib.hid (by rw [hZ37]; exact (by repeat (first | exact Below.refl _ _ | refine bl_drewN ?_ _ | refine bl_drew ?_ | refine bl_alloc ?_ _)))
        have X_pu : Hid (GR.Blk Z37 (u36.heap.size) 27 #[.string uk, .slice U1 P.length v1, .slice U2 Q.length v2]) := Lib.hid (by rw [hZ37]; exact GR.Blk.new _ _ _)
        clear hZ37
        have F71 := Lib.hid (F70.out.below LL.out)
        clear F70
        have F72 := Lib.hid (HS.addB F71.out (g := u36.heap.size) (t := 27) (cs := #[.string uk, .slice U1 P.length v1, .slice U2 Q.length v2]) (X_pu.out))
        clear F71
        clear X_pu
        replace BB := Lib.hid (bl_then BB.out LL.out)
        clear LL
        refine (packq ck cv 0 (F72.out.rd 2 rfl) (F72.out.rd 1 rfl) rfl rfl HK4.out HK2.out HK1.out).mono ?_
        rintro e u38 ⟨rfl, hb⟩
        have F73 := Lib.hid (F72.out.below hb)
        clear F72
        replace BB := Lib.hid (bl_then BB.out hb)
        clear hb
        have po_0 : u38.cell? ⟨w.heap.size, 0, none⟩ = some (.string ko) := (F73.out.blk 11 rfl).cell 0
        have po_1 : u38.cell? ⟨w.heap.size, 1, none⟩ = some (.slice A a.length c) := (F73.out.blk 11 rfl).cell 1
        have po_2 : u38.cell? ⟨w.heap.size, 2, none⟩ = some (.slice B l.length d) := (F73.out.blk 11 rfl).cell 2
        have pd_0 : u38.cell? ⟨u4.heap.size, 0, none⟩ = some (.string p1) := (F73.out.blk 5 rfl).cell 0
        have pd_1 : u38.cell? ⟨u4.heap.size, 1, none⟩ = some (.string p2) := (F73.out.blk 5 rfl).cell 1
        have pc_0 : u38.cell? ⟨w.heap.size + 1, 0, none⟩ = some (.string ck) := (F73.out.blk 10 rfl).cell 0
        have pc_1 : u38.cell? ⟨w.heap.size + 1, 1, none⟩ = some (.string cv) := (F73.out.blk 10 rfl).cell 1
        have pu_0 : u38.cell? ⟨u36.heap.size, 0, none⟩ = some (.string uk) := (F73.out.blk 0 rfl).cell 0
        have pu_1 : u38.cell? ⟨u36.heap.size, 1, none⟩ = some (.slice U1 P.length v1) := (F73.out.blk 0 rfl).cell 1
        have pu_2 : u38.cell? ⟨u36.heap.size, 2, none⟩ = some (.slice U2 Q.length v2) := (F73.out.blk 0 rfl).cell 2
        have po_lt : w.heap.size < u38.heap.size := (F73.out.blk 11 rfl).lt
        have pd_lt : u4.heap.size < u38.heap.size := (F73.out.blk 5 rfl).lt
        have pc_lt : w.heap.size + 1 < u38.heap.size := (F73.out.blk 10 rfl).lt
        have pu_lt : u36.heap.size < u38.heap.size := (F73.out.blk 0 rfl).lt
        go_wp2_with fail
        clear po_0 po_1 po_2 po_lt pd_0 pd_1 pd_lt pc_0 pc_1 pc_lt pu_0 pu_1 pu_2 pu_lt
        obtain ⟨Z39, hZ39⟩ : ∃ W : World, W = u38.alloc (.cells #[.string ck, .string cv] 48) := ⟨_, rfl⟩
        rw [← hZ39]
        have LL : Hid (Below u38.heap.size u38 Z39) := Lib.hid (by rw [hZ39]; exact (by repeat (first | exact Below.refl _ _ | refine bl_drewN ?_ _ | refine bl_drew ?_ | refine bl_alloc ?_ _)))
        have X_pg : Hid (GR.Blk Z39 (u38.heap.size) 48 #[.string ck, .string cv]) := Lib.hid (by rw [hZ39]; exact GR.Blk.new _ _ _)
        clear hZ39
        have F74 := Lib.hid (F73.out.below LL.out)
        clear F73
        have F75 := Lib.hid (HS.addB F74.out (g := u38.heap.size) (t := 48) (cs := #[.string ck, .string cv]) (X_pg.out))
        clear F74
        clear X_pg
        replace BB := Lib.hid (bl_then BB.out LL.out)
        clear LL
        refine (checkq 0 (F75.out.rd 3 rfl) (F75.out.rd 2 rfl) rfl rfl HK4.out HK3.out).mono ?_
        rintro e u40 ⟨rfl, hb⟩
        have F76 := Lib.hid (F75.out.below hb)
        clear F75
        replace BB := Lib.hid (bl_then BB.out hb)
        clear hb
        go_wp2
        exact bodyPost_ret (v := .bool true) (by simp [results, Try.results7, go_sem]) rfl ⟨rfl, BB.out⟩
      · skip
        have po_0 : u36.cell? ⟨w.heap.size, 0, none⟩ = some (.string ko) := (F70.out.blk 10 rfl).cell 0
        have po_1 : u36.cell? ⟨w.heap.size, 1, none⟩ = some (.slice A a.length c) := (F70.out.blk 10 rfl).cell 1
        have po_2 : u36.cell? ⟨w.heap.size, 2, none⟩ = some (.slice B l.length d) := (F70.out.blk 10 rfl).cell 2
        have pd_0 : u36.cell? ⟨u4.heap.size, 0, none⟩ = some (.string p1) := (F70.out.blk 4 rfl).cell 0
        have pd_1 : u36.cell? ⟨u4.heap.size, 1, none⟩ = some (.string p2) := (F70.out.blk 4 rfl).cell 1
        have pc_0 : u36.cell? ⟨w.heap.size + 1, 0, none⟩ = some (.string ck) := (F70.out.blk 9 rfl).cell 0
        have pc_1 : u36.cell? ⟨w.heap.size + 1, 1, none⟩ = some (.string cv) := (F70.out.blk 9 rfl).cell 1
        have po_lt : w.heap.size < u36.heap.size := (F70.out.blk 10 rfl).lt
        have pd_lt : u4.heap.size < u36.heap.size := (F70.out.blk 4 rfl).lt
        have pc_lt : w.heap.size + 1 < u36.heap.size := (F70.out.blk 9 rfl).lt
        go_wp2_with fail
        clear po_0 po_1 po_2 po_lt pd_0 pd_1 pd_lt pc_0 pc_1 pc_lt
        obtain ⟨Z41, hZ41⟩ : ∃ W : World, W = u36.alloc (.cells #[.string ⟨#[]⟩, .slice U1 0 v1, .slice U2 0 v2] 27) := ⟨_, rfl⟩
        rw [← hZ41]
        have LL : Hid (Below u36.heap.size u36 Z41) := Lib.hid (by rw [hZ41]; exact (by repeat (first | exact Below.refl _ _ | refine bl_drewN ?_ _ | refine bl_drew ?_ | refine bl_alloc ?_ _)))
        have X_pu : Hid (GR.Blk Z41 (u36.heap.size) 27 #[.string ⟨#[]⟩, .slice U1 0 v1, .slice U2 0 v2]) := Lib.hid (by rw [hZ41]; exact GR.Blk.new _ _ _)
        clear hZ41
        have F77 := Lib.hid (F70.out.below LL.out)
        clear F70
        have F78 := Lib.hid (HS.addB F77.out (g := u36.heap.size) (t := 27) (cs := #[.string ⟨#[]⟩, .slice U1 0 v1, .slice U2 0 v2]) (X_pu.out))
        clear F77
        clear X_pu
        replace BB := Lib.hid (bl_then BB.out LL.out)
        clear LL
        refine (lsameq true (F78.out.rd 2 rfl) (F78.out.rd 1 rfl) (GR.Rd.nil _ _ _) (GR.Rd.nil _ _ _) rfl rfl rfl rfl rfl).mono ?_
        rintro e u42 ⟨rfl, hb⟩
        have F79 := Lib.hid (F78.out.below hb)
        clear F78
        replace BB := Lib.hid (bl_then BB.out hb)
        clear hb
        go_wp2
        exact bodyPost_ret (v := .bool true) (by simp [results, Try.results7, go_sem]) rfl ⟨rfl, BB.out⟩
end Go.Proofs.Ytljfigikkajlnaa
