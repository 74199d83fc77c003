/- DERIVED. ObjectOrder: the walk of the law. -/
import Derived.Test.YtljfigikkajlnaaVm12
namespace Go.Proofs.Ytljfigikkajlnaa
open Go.RowKit Go.Lib Go.Proofs.YtljfigikkajlnaaW.PrintWords
set_option linter.unusedVariables false
set_option linter.unusedSimpArgs false
attribute [local go_sem high] eqD eqCell
theorem pl_cases (k : ByteArray) : (keyB k = true ∧ plE k = 0 ∧ (1 : Int) ≤ (k.size : Int) ∧ (k.size : Int) ≤ 32) ∨ (keyB k = false ∧ plE k = 130 ∧ ((k.size : Int) < 1 ∨ (1 : Int) ≤ (k.size : Int) ∧ 32 < (k.size : Int))) := by
  cases h : keyB k with
  | true =>
    have h1 := h
    simp [keyB] at h1
    exact .inl ⟨rfl, by rw [plE, h]; rfl, by omega, by omega⟩
  | false =>
    have h1 := h
    simp [keyB] at h1
    exact .inr ⟨rfl, by rw [plE, h]; rfl, by omega⟩
theorem pack_key {k : ByteArray} {a : List Dot} {l : List Sib} (h : packE k a l = 0) : keyB k = true := by
  unfold packE at h
  by_cases hc : chkE k a l = 0
  · exact (chk_cases hc).1
  · rw [if_neg hc] at h; exact absurd h hc
set_option maxRecDepth 100000 in
set_option maxHeartbeats 12800000 in
theorem order_walk (ka kb : ByteArray) (A B C D : Option Addr) (c1 c2 c3 c4 : Nat) (a b : List Dot) (l m : List Sib) (w : World) (ha : GR.Rd dotK w A a) (hl : GR.Rd sibK w B l) (hb : GR.Rd dotK w C b) (hm : GR.Rd sibK w D m)
    (sa : a.length * 16 ≤ 140737488351232) (sl : l.length * 40 ≤ 140737488351232) (sb : b.length * 16 ≤ 140737488351232) (sm : m.length * 40 ≤ 140737488351232) (hr1 : StR a l) (hr2 : StR b m) :
    Calls Try.prog 6 #[.agg #[.string ka, .slice A a.length c1, .slice B l.length c2], .agg #[.string kb, .slice C b.length c3, .slice D m.length c4]] w fun e w' => e = .returned (.bool true) ∧ Below w.heap.size w w' := by
  obtain ⟨p, hp⟩ : ∃ p, packC ka a l = p := ⟨_, rfl⟩
  obtain ⟨q, hq⟩ : ∃ q, packC kb b m = q := ⟨_, rfl⟩
  obtain ⟨x, hx⟩ : ∃ x, packE ka a l = x := ⟨_, rfl⟩
  obtain ⟨y, hy⟩ : ∃ y, packE kb b m = y := ⟨_, rfl⟩
  have HA := Lib.hid ha
  have HL := Lib.hid hl
  have HB := Lib.hid hb
  have HM := Lib.hid hm
  have HR1 := Lib.hid hr1
  have HR2 := Lib.hid hr2
  have HP := Lib.hid hp
  have HQ := Lib.hid hq
  have HX := Lib.hid hx
  have HY := Lib.hid hy
  clear ha hl hb hm hr1 hr2 hp hq hx hy
  go_enter Try.func6, Try.ntmps6
  go_wp2_with fail
  obtain ⟨W1, hW1⟩ : ∃ W1 : World, W1 = (w.alloc (.cells #[.string ka, .slice A a.length c1, .slice B l.length c2] 27)).alloc (.cells #[.string kb, .slice C b.length c3, .slice D m.length c4] 27) := ⟨_, rfl⟩
  rw [← hW1]
  have LW : Hid (Below w.heap.size w W1) := Lib.hid (by rw [hW1]; exact (by repeat (first | exact Below.refl _ _ | refine bl_drewN ?_ _ | refine bl_drew ?_ | refine bl_alloc ?_ _)))
  have XA : Hid (GR.Blk W1 w.heap.size 27 #[.string ka, .slice A a.length c1, .slice B l.length c2]) := Lib.hid (by rw [hW1]; exact (GR.Blk.new _ _ _).alloc _)
  have XB : Hid (GR.Blk W1 (w.heap.size + 1) 27 #[.string kb, .slice C b.length c3, .slice D m.length c4]) := Lib.hid (by rw [hW1]; exact new_at _ _ _ (by simp))
  clear hW1
  refine (works_any W1).mono ?_
  rintro e w2 ⟨rfl, h2⟩
  have B2 := Lib.hid (bl_then LW.out h2)
  have XA2 := Lib.hid (XA.out.below h2 XA.out.lt)
  have XB2 := Lib.hid (XB.out.below h2 XB.out.lt)
  clear h2
  have x0 : w2.cell? ⟨w.heap.size, 0, none⟩ = some (.string ka) := XA2.out.cell 0
  have x1 : w2.cell? ⟨w.heap.size, 1, none⟩ = some (.slice A a.length c1) := XA2.out.cell 1
  have x2 : w2.cell? ⟨w.heap.size, 2, none⟩ = some (.slice B l.length c2) := XA2.out.cell 2
  go_wp2_with fail
  refine (obTwin_any ka A B c1 c2 a l w2 (HA.out.below B2.out) (HL.out.below B2.out) sa sl).mono ?_
  rintro e w3 ⟨g1, d1, g2, d2, rfl, ho, hb3⟩
  have O3 := Lib.hid ho
  have B3 := Lib.hid (bl_then B2.out hb3)
  have XA3 := Lib.hid (XA2.out.below hb3 XA2.out.lt)
  have XB3 := Lib.hid (XB2.out.below hb3 XB2.out.lt)
  clear ho hb3 x0 x1 x2
  go_wp2_with fail
  refine (pack_any ka _ _ a.length d1 l.length d2 a l w3 (rd_take O3.out.d (by show a.length * 16 ≤ _; omega)) (rd_take O3.out.s (by show l.length * 40 ≤ _; omega)) rfl rfl HR1.out).mono ?_
  rintro e w4 ⟨rfl, hb4⟩
  rw [HP.out, HX.out]
  obtain ⟨p1, p2⟩ := p
  have B4 := Lib.hid (bl_then B3.out hb4)
  have XA4 := Lib.hid (XA3.out.below hb4 XA3.out.lt)
  have XB4 := Lib.hid (XB3.out.below hb4 XB3.out.lt)
  clear hb4
  have hs4 : w.heap.size < w4.heap.size := XA4.out.lt
  have hs5 : w.heap.size + 1 < w4.heap.size := XB4.out.lt
  have y0 : w4.cell? ⟨w.heap.size + 1, 0, none⟩ = some (.string kb) := XB4.out.cell 0
  have y1 : w4.cell? ⟨w.heap.size + 1, 1, none⟩ = some (.slice C b.length c3) := XB4.out.cell 1
  have y2 : w4.cell? ⟨w.heap.size + 1, 2, none⟩ = some (.slice D m.length c4) := XB4.out.cell 2
  go_wp2_with fail
  clear y0 y1 y2
  obtain ⟨W5, hW5⟩ : ∃ W5 : World, W5 = w4.alloc (.cells #[.string p1, .string p2] 48) := ⟨_, rfl⟩
  rw [← hW5]
  have L5 : Hid (Below w4.heap.size w4 W5) := Lib.hid (by rw [hW5]; exact (by repeat (first | exact Below.refl _ _ | refine bl_drewN ?_ _ | refine bl_drew ?_ | refine bl_alloc ?_ _)))
  have XX : Hid (GR.Blk W5 w4.heap.size 48 #[.string p1, .string p2]) := Lib.hid (by rw [hW5]; exact GR.Blk.new _ _ _)
  clear hW5
  have B5 := Lib.hid (bl_then B4.out L5.out)
  have XA5 := Lib.hid (XA4.out.below L5.out XA4.out.lt)
  have XB5 := Lib.hid (XB4.out.below L5.out XB4.out.lt)
  refine (obTwin_any kb C D c3 c4 b m W5 (HB.out.below B5.out) (HM.out.below B5.out) sb sm).mono ?_
  rintro e w6 ⟨g3, d3, g4, d4, rfl, ho, hb6⟩
  have O6 := Lib.hid ho
  have B6 := Lib.hid (bl_then B5.out hb6)
  have XA6 := Lib.hid (XA5.out.below hb6 XA5.out.lt)
  have XB6 := Lib.hid (XB5.out.below hb6 XB5.out.lt)
  have XX6 := Lib.hid (XX.out.below hb6 XX.out.lt)
  clear ho hb6
  go_wp2_with fail
  refine (pack_any kb _ _ b.length d3 m.length d4 b m w6 (rd_take O6.out.d (by show b.length * 16 ≤ _; omega)) (rd_take O6.out.s (by show m.length * 40 ≤ _; omega)) rfl rfl HR2.out).mono ?_
  rintro e w7 ⟨rfl, hb7⟩
  rw [HQ.out, HY.out]
  obtain ⟨q1, q2⟩ := q
  have B7 := Lib.hid (bl_then B6.out hb7)
  have XA7 := Lib.hid (XA6.out.below hb7 XA6.out.lt)
  have XB7 := Lib.hid (XB6.out.below hb7 XB6.out.lt)
  have XX7 := Lib.hid (XX6.out.below hb7 XX6.out.lt)
  clear hb7 hs4 hs5
  have hs4 : w.heap.size < w7.heap.size := XA7.out.lt
  have hs5 : w.heap.size + 1 < w7.heap.size := XB7.out.lt
  have hs6 : w4.heap.size < w7.heap.size := XX7.out.lt
  have x0 : w7.cell? ⟨w.heap.size, 0, none⟩ = some (.string ka) := XA7.out.cell 0
  go_wp2_with fail
  clear x0
  obtain ⟨W8, hW8⟩ : ∃ W8 : World, W8 = w7.alloc (.cells #[.string q1, .string q2] 48) := ⟨_, rfl⟩
  rw [← hW8]
  have L8 : Hid (Below w7.heap.size w7 W8) := Lib.hid (by rw [hW8]; exact (by repeat (first | exact Below.refl _ _ | refine bl_drewN ?_ _ | refine bl_drew ?_ | refine bl_alloc ?_ _)))
  have XY : Hid (GR.Blk W8 w7.heap.size 48 #[.string q1, .string q2]) := Lib.hid (by rw [hW8]; exact GR.Blk.new _ _ _)
  clear hW8 hs4 hs5 hs6
  refine (place_any ka W8).mono ?_
  rintro e w9 ⟨rfl, hb9⟩
  have B79 := Lib.hid (bl_then L8.out hb9)
  have B9 := Lib.hid (bl_then B7.out B79.out)
  have XA9 := Lib.hid (XA7.out.below B79.out XA7.out.lt)
  have XB9 := Lib.hid (XB7.out.below B79.out XB7.out.lt)
  have XX9 := Lib.hid (XX7.out.below B79.out XX7.out.lt)
  have XY9 := Lib.hid (XY.out.below hb9 XY.out.lt)
  clear hb9
  have y0 : w9.cell? ⟨w.heap.size + 1, 0, none⟩ = some (.string kb) := XB9.out.cell 0
  go_wp2_with fail
  clear y0
  refine (place_any kb w9).mono ?_
  rintro e w10 ⟨rfl, hb⟩
  have B10 := Lib.hid (bl_then B9.out hb)
  have XA10 := Lib.hid (XA9.out.below hb XA9.out.lt)
  have XB10 := Lib.hid (XB9.out.below hb XB9.out.lt)
  have XX10 := Lib.hid (XX9.out.below hb XX9.out.lt)
  have XY10 := Lib.hid (XY9.out.below hb XY9.out.lt)
  clear hb
  have x0 : w10.cell? ⟨w.heap.size, 0, none⟩ = some (.string ka) := XA10.out.cell 0
  have y0 : w10.cell? ⟨w.heap.size + 1, 0, none⟩ = some (.string kb) := XB10.out.cell 0
  have p0 : w10.cell? ⟨w4.heap.size, 0, none⟩ = some (.string p1) := XX10.out.cell 0
  have q0 : w10.cell? ⟨w7.heap.size, 0, none⟩ = some (.string q1) := XY10.out.cell 0
  obtain ⟨n1, hn1⟩ : ∃ n, plN ka = n := ⟨_, rfl⟩
  obtain ⟨n2, hn2⟩ : ∃ n, plN kb = n := ⟨_, rfl⟩
  obtain ⟨z1, hz1⟩ : ∃ n, plE ka = n := ⟨_, rfl⟩
  obtain ⟨z2, hz2⟩ : ∃ n, plE kb = n := ⟨_, rfl⟩
  have HK1 := Lib.hid (okey_any ka w10)
  have HK2 := Lib.hid (okey_any kb w10)
  have PC1 := Lib.hid (pl_cases ka)
  rw [hz1] at HK1 PC1
  rw [hz2] at HK2
  rw [hn1, hn2, hz1, hz2]
  have N1 := Lib.hid hn1
  have N2 := Lib.hid hn2
  have Z1 := Lib.hid hz1
  have Z2 := Lib.hid hz2
  clear hn1 hn2 hz1 hz2
  have E1 : Hid (∀ P : Prop, P → P) := Lib.hid fun _ h => h
  rcases PC1.out with ⟨_, rfl, h1, h2⟩ | ⟨hk, rfl, h1 | ⟨h1, h2⟩⟩
  · have e1 : decide ((1 : Int) ≤ (ka.size : Int)) = true := decide_eq_true h1
    have e2 : decide ((ka.size : Int) ≤ 32) = true := decide_eq_true h2
    clear h1 h2 E1 Z1 Z2 PC1
    go_wp2_with fail
    refine HK1.out.mono ?_
    rintro e w11 ⟨rfl, rfl⟩
    go_wp2_with fail
    refine HK2.out.mono ?_
    rintro e w11 ⟨rfl, rfl⟩
    by_cases hx0 : x = 0
    · subst hx0
      by_cases hy0 : y = 0
      · subst hy0
        have hpk : p1 = packK ka := by
          have := HP.out; rw [packC, if_pos HX.out] at this; exact (congrArg Prod.fst this).symm
        have hqk : q1 = packK kb := by
          have := HQ.out; rw [packC, if_pos HY.out] at this; exact (congrArg Prod.fst this).symm
        have hka := pack_key HX.out
        have hkb := pack_key HY.out
        have hm1 : n1 = placeI ka := by rw [← N1.out, plN, if_pos hka]
        have hm2 : n2 = placeI kb := by rw [← N2.out, plN, if_pos hkb]
        obtain ⟨o1, o2, o3, o4⟩ := ord_law hpk hqk hm1 hm2
        clear hpk hqk hka hkb hm1 hm2
        obtain ⟨t4, ht4⟩ : ∃ t, (ka.toList == kb.toList) = t := ⟨_, rfl⟩
        rw [ht4] at o4
        rcases Int.lt_trichotomy n1 n2 with hc | hc | hc
        · have o5 := o1 hc
          have c1 : decide (n1 < n2) = true := decide_eq_true hc
          clear o1 o2 o3 hc N1 N2
          go_wp2
          exact bodyPost_ret (v := .bool true) (by simp [results, Try.results6, go_sem]) rfl ⟨rfl, B10.out⟩
        · have o5 := o3 hc
          obtain ⟨t5, ht5⟩ : ∃ t, Op.bytesLess ka.toList kb.toList = t := ⟨_, rfl⟩
          rw [ht5] at o5
          have c1 : decide (n1 < n2) = false := decide_eq_false (by omega)
          have c2 : (n1 == n2) = true := by simpa using hc
          clear o1 o2 o3 hc N1 N2
          go_wp2
          exact bodyPost_ret (v := .bool true) (by simp [results, Try.results6, go_sem]) rfl ⟨rfl, B10.out⟩
        · have o5 := o2 hc
          have c1 : decide (n1 < n2) = false := decide_eq_false (by omega)
          have c2 : (n1 == n2) = false := by simp; omega
          clear o1 o2 o3 hc N1 N2
          go_wp2
          exact bodyPost_ret (v := .bool true) (by simp [results, Try.results6, go_sem]) rfl ⟨rfl, B10.out⟩
      · have f1 : (y != 0) = true := by simpa using hy0
        have f2 : decide (y = 0) = false := decide_eq_false hy0
        clear hy0
        go_wp2
        exact bodyPost_ret (v := .bool true) (by simp [results, Try.results6, go_sem]) rfl ⟨rfl, B10.out⟩
    · have f1 : (x != 0) = true := by simpa using hx0
      have f2 : decide (x = 0) = false := decide_eq_false hx0
      clear hx0
      go_wp2
      exact bodyPost_ret (v := .bool true) (by simp [results, Try.results6, go_sem]) rfl ⟨rfl, B10.out⟩
  · have hx0 : x ≠ 0 := fun h => by have := pack_key (HX.out.trans h); rw [hk] at this; cases this
    have e1 : decide ((1 : Int) ≤ (ka.size : Int)) = false := decide_eq_false (by omega)
    have f1 : (x != 0) = true := by simpa using hx0
    have f2 : decide (x = 0) = false := decide_eq_false hx0
    clear h1 hk hx0 E1 N1 N2 Z1 Z2 PC1
    go_wp2_with fail
    refine HK1.out.mono ?_
    rintro e w11 ⟨rfl, rfl⟩
    go_wp2_with fail
    refine HK2.out.mono ?_
    rintro e w11 ⟨rfl, rfl⟩
    go_wp2
    exact bodyPost_ret (v := .bool true) (by simp [results, Try.results6, go_sem]) rfl ⟨rfl, B10.out⟩
  · have hx0 : x ≠ 0 := fun h => by have := pack_key (HX.out.trans h); rw [hk] at this; cases this
    have e1 : decide ((1 : Int) ≤ (ka.size : Int)) = true := decide_eq_true h1
    have e2 : decide ((ka.size : Int) ≤ 32) = false := decide_eq_false (by omega)
    have f1 : (x != 0) = true := by simpa using hx0
    have f2 : decide (x = 0) = false := decide_eq_false hx0
    clear h1 h2 hk hx0 E1 N1 N2 Z1 Z2 PC1
    go_wp2_with fail
    refine HK1.out.mono ?_
    rintro e w11 ⟨rfl, rfl⟩
    go_wp2_with fail
    refine HK2.out.mono ?_
    rintro e w11 ⟨rfl, rfl⟩
    go_wp2
    exact bodyPost_ret (v := .bool true) (by simp [results, Try.results6, go_sem]) rfl ⟨rfl, B10.out⟩
end Go.Proofs.Ytljfigikkajlnaa
