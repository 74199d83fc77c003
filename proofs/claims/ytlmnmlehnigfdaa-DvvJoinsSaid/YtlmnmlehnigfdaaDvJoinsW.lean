/- DERIVED. DvvJoins: the walk of the law. -/
import Derived.Test.YtlmnmlehnigfdaaDvHeap
import Derived.Deep.Cut
import Derived.Deep.CutRange
namespace Go.Proofs.Ytlmnmlehnigfdaa
open Go.RowKit

set_option maxRecDepth 100000 in
set_option maxHeartbeats 25600000 in
theorem joins_walk (A B C D : Option Addr) (c d c2 d2 : Nat) (a b : List Dot) (l m : List Sib) (w : World) (ha : GR.Rd dotK w A a) (hl : GR.Rd sibK w B l) (hb : GR.Rd dotK w C b) (hm : GR.Rd sibK w D m) (sa : a.length * 16 ≤ 140737488351232) (sl : l.length * 40 ≤ 140737488351232) (sb : b.length * 16 ≤ 140737488351232) (sm : m.length * 40 ≤ 140737488351232)
    (na : ∀ d ∈ a, 0 ≤ d.n) (nl : ∀ x ∈ l, 0 ≤ x.d.n) (nb : ∀ d ∈ b, 0 ≤ d.n) (nm : ∀ x ∈ m, 0 ≤ x.d.n) :
    Calls Try.prog 4 #[.agg #[.slice A a.length c, .slice B l.length d], .agg #[.slice C b.length c2, .slice D m.length d2]] w fun e w' => e = .returned (.bool true) ∧ Below w.heap.size w w' := by
  have bma : a.length * 16 ≤ 140737488355328 := by omega
  have bml : l.length * 40 ≤ 140737488355328 := by omega
  have bmb : b.length * 16 ≤ 140737488355328 := by omega
  have bmm : m.length * 40 ≤ 140737488355328 := by omega
  have ee : (joinE a l b m != joinE a l b m) = false := by simp
  have HJ := Lib.hid (join_small a l b m)
  have HP := Lib.hid (join_pos na nl nb nm)
  have jb1 : (joinA a l b m).length * 16 ≤ 140737488355328 := by have := HJ.out.1; omega
  have jb2 : (joinL a l b m).length * 40 ≤ 140737488355328 := by have := HJ.out.2; omega
  have HA := Lib.hid ha
  have HL := Lib.hid hl
  have HB := Lib.hid hb
  have HM := Lib.hid hm
  have NA := Lib.hid na
  have NL := Lib.hid nl
  have NB := Lib.hid nb
  have NM := Lib.hid nm
  have EE := Lib.hid ee
  clear ha hl hb hm na nl nb nm ee
  go_enter Try.func4, Try.ntmps4
  go_wp2_with fail
  obtain ⟨W1, hW1⟩ : ∃ W1 : World, W1 = (w.alloc (.cells #[.slice A a.length c, .slice B l.length d] 25)).alloc (.cells #[.slice C b.length c2, .slice D m.length d2] 25) := ⟨_, rfl⟩
  rw [← hW1]
  have LW : Hid (Below w.heap.size w W1) := Lib.hid (by rw [hW1]; exact (by repeat (first | exact Below.refl _ _ | refine bl_drewN ?_ _ | refine bl_drew ?_ | refine bl_alloc ?_ _)))
  have XA : Hid (GR.Blk W1 w.heap.size 25 #[.slice A a.length c, .slice B l.length d]) := Lib.hid (by rw [hW1]; exact (GR.Blk.new _ _ _).alloc _)
  have XB : Hid (GR.Blk W1 (w.heap.size + 1) 25 #[.slice C b.length c2, .slice D m.length d2]) := Lib.hid (by rw [hW1]; exact new_at _ _ _ (by simp))
  clear hW1
  have F1 := Lib.hid (HS.nil W1)
  have F2 := Lib.hid (HS.addB F1.out (g := w.heap.size) (t := 25) (cs := #[.slice A a.length c, .slice B l.length d]) (XA.out))
  clear F1
  have F3 := Lib.hid (HS.addB F2.out (g := w.heap.size + 1) (t := 25) (cs := #[.slice C b.length c2, .slice D m.length d2]) (XB.out))
  clear F2
  have F4 := Lib.hid (F3.out.addR (HA.out.below LW.out))
  clear F3
  have F5 := Lib.hid (F4.out.addR (HL.out.below LW.out))
  clear F4
  have F6 := Lib.hid (F5.out.addR (HB.out.below LW.out))
  clear F5
  have F7 := Lib.hid (F6.out.addR (HM.out.below LW.out))
  clear F6
  clear XA XB
  refine (lent_any A B c d a l _ (F7.out.rd 3 rfl) (F7.out.rd 2 rfl) sa sl).mono ?_
  rintro e w2 ⟨g1, c1, g2, c3, rfl, ho, hb⟩
  have F8 := Lib.hid (F7.out.below hb)
  clear F7
  have F9 := Lib.hid (F8.out.addO (ho))
  clear F8
  have F10 := Lib.hid (F9.out.addO (⟨GR.Own.take ho.d, GR.Own.take ho.s⟩))
  clear F9
  have RX1 := Lib.hid (show ∀ k, rows2 (.slice (some ⟨g1, 0, none⟩) a.length c1) (.slice (some ⟨g2, 0, none⟩) l.length c3) k → W1.heap.size ≤ k from ho.ge)
  have RX2 := Lib.hid (show ∀ k, rows2 (.slice (some ⟨g1, 0, none⟩) a.length c1) (.slice (some ⟨g2, 0, none⟩) l.length c3) k → k < w2.heap.size from ho.lt)
  have BB := Lib.hid hb
  have S2 : W1.heap.size ≤ w2.heap.size := hb.size
  clear ho hb
  have pb_0 : w2.cell? ⟨w.heap.size + 1, 0, none⟩ = some (.slice C b.length c2) := (F10.out.blk 6 rfl).cell 0
  have pb_1 : w2.cell? ⟨w.heap.size + 1, 1, none⟩ = some (.slice D m.length d2) := (F10.out.blk 6 rfl).cell 1
  have pb_lt : w.heap.size + 1 < w2.heap.size := (F10.out.blk 6 rfl).lt
  go_wp2_with fail
  obtain ⟨W3, hW3⟩ : ∃ W : World, W = w2.alloc (.cells #[.slice (some ⟨g1, 0, none⟩) a.length c1, .slice (some ⟨g2, 0, none⟩) l.length c3] 25) := ⟨_, rfl⟩
  rw [← hW3]
  have LW3 : Hid (Below w2.heap.size w2 W3) := Lib.hid (by rw [hW3]; exact (by repeat (first | exact Below.refl _ _ | refine bl_drewN ?_ _ | refine bl_drew ?_ | refine bl_alloc ?_ _)))
  have XW3 : Hid (GR.Blk W3 w2.heap.size 25 #[.slice (some ⟨g1, 0, none⟩) a.length c1, .slice (some ⟨g2, 0, none⟩) l.length c3]) := Lib.hid (by rw [hW3]; exact GR.Blk.new _ _ _)
  have SW3 : w2.heap.size < W3.heap.size := XW3.out.lt
  clear hW3
  clear pb_0 pb_1 pb_lt
  have F11 := Lib.hid (F10.out.below LW3.out)
  clear F10
  have F12 := Lib.hid (HS.addB F11.out (g := w2.heap.size) (t := 25) (cs := #[.slice (some ⟨g1, 0, none⟩) a.length c1, .slice (some ⟨g2, 0, none⟩) l.length c3]) (XW3.out))
  clear F11
  replace BB := Lib.hid (bl_then BB.out LW3.out)
  refine (lent_any C D c2 d2 b m _ (F12.out.rd 4 rfl) (F12.out.rd 3 rfl) sb sm).mono ?_
  rintro e w4 ⟨g3, c4, g4, c5, rfl, ho, hb⟩
  have F13 := Lib.hid (F12.out.below hb)
  clear F12
  have F14 := Lib.hid (F13.out.addO (ho))
  clear F13
  have F15 := Lib.hid (F14.out.addO (⟨GR.Own.take ho.d, GR.Own.take ho.s⟩))
  clear F14
  have RY1 := Lib.hid (show ∀ k, rows2 (.slice (some ⟨g3, 0, none⟩) b.length c4) (.slice (some ⟨g4, 0, none⟩) m.length c5) k → W3.heap.size ≤ k from ho.ge)
  have RY2 := Lib.hid (show ∀ k, rows2 (.slice (some ⟨g3, 0, none⟩) b.length c4) (.slice (some ⟨g4, 0, none⟩) m.length c5) k → k < w4.heap.size from ho.lt)
  have S4 : W3.heap.size ≤ w4.heap.size := hb.size
  replace BB := Lib.hid (bl_then BB.out hb)
  clear ho hb
  have pa_0 : w4.cell? ⟨w.heap.size, 0, none⟩ = some (.slice A a.length c) := (F15.out.blk 10 rfl).cell 0
  have pa_1 : w4.cell? ⟨w.heap.size, 1, none⟩ = some (.slice B l.length d) := (F15.out.blk 10 rfl).cell 1
  have pb_0 : w4.cell? ⟨w.heap.size + 1, 0, none⟩ = some (.slice C b.length c2) := (F15.out.blk 9 rfl).cell 0
  have pb_1 : w4.cell? ⟨w.heap.size + 1, 1, none⟩ = some (.slice D m.length d2) := (F15.out.blk 9 rfl).cell 1
  have pa_lt : w.heap.size < w4.heap.size := (F15.out.blk 10 rfl).lt
  have pb_lt : w.heap.size + 1 < w4.heap.size := (F15.out.blk 9 rfl).lt
  go_wp2_with fail
  obtain ⟨W5, hW5⟩ : ∃ W : World, W = w4.alloc (.cells #[.slice (some ⟨g3, 0, none⟩) b.length c4, .slice (some ⟨g4, 0, none⟩) m.length c5] 25) := ⟨_, rfl⟩
  rw [← hW5]
  have LW5 : Hid (Below w4.heap.size w4 W5) := Lib.hid (by rw [hW5]; exact (by repeat (first | exact Below.refl _ _ | refine bl_drewN ?_ _ | refine bl_drew ?_ | refine bl_alloc ?_ _)))
  have XW5 : Hid (GR.Blk W5 w4.heap.size 25 #[.slice (some ⟨g3, 0, none⟩) b.length c4, .slice (some ⟨g4, 0, none⟩) m.length c5]) := Lib.hid (by rw [hW5]; exact GR.Blk.new _ _ _)
  have SW5 : w4.heap.size < W5.heap.size := XW5.out.lt
  clear hW5
  clear pa_0 pa_1 pa_lt pb_0 pb_1 pb_lt
  have F16 := Lib.hid (F15.out.below LW5.out)
  clear F15
  have F17 := Lib.hid (HS.addB F16.out (g := w4.heap.size) (t := 25) (cs := #[.slice (some ⟨g3, 0, none⟩) b.length c4, .slice (some ⟨g4, 0, none⟩) m.length c5]) (XW5.out))
  clear F16
  replace BB := Lib.hid (bl_then BB.out LW5.out)
  refine (refJoin_at A B C D c d c2 d2 _ _ _ _ a b l m _ (F17.out.rd 9 rfl) (F17.out.rd 8 rfl) (F17.out.rd 7 rfl) (F17.out.rd 6 rfl) rfl rfl rfl rfl NA.out NL.out NB.out NM.out).mono ?_
  rintro e w6 ⟨v1, v2, rfl, ho, hb⟩
  obtain ⟨A1, n1, k1, rfl⟩ := own_slice ho.d jb1
  obtain ⟨A2, n2, k2, rfl⟩ := own_slice ho.s jb2
  obtain rfl : n1 = (joinA a l b m).length := own_n' ho.d
  obtain rfl : n2 = (joinL a l b m).length := own_n' ho.s
  have F18 := Lib.hid (F17.out.below hb)
  clear F17
  have F19 := Lib.hid (F18.out.addO (ho))
  clear F18
  have Rwant1 := Lib.hid (show ∀ k, rows2 (.slice A1 (joinA a l b m).length k1) (.slice A2 (joinL a l b m).length k2) k → W5.heap.size ≤ k from ho.ge)
  have Rwant2 := Lib.hid (show ∀ k, rows2 (.slice A1 (joinA a l b m).length k1) (.slice A2 (joinL a l b m).length k2) k → k < w6.heap.size from ho.lt)
  have Sw6 : W5.heap.size ≤ w6.heap.size := hb.size
  replace BB := Lib.hid (bl_then BB.out hb)
  clear ho hb
  have px_0 : w6.cell? ⟨w2.heap.size, 0, none⟩ = some (.slice (some ⟨g1, 0, none⟩) a.length c1) := (F19.out.blk 4 rfl).cell 0
  have px_1 : w6.cell? ⟨w2.heap.size, 1, none⟩ = some (.slice (some ⟨g2, 0, none⟩) l.length c3) := (F19.out.blk 4 rfl).cell 1
  have py_0 : w6.cell? ⟨w4.heap.size, 0, none⟩ = some (.slice (some ⟨g3, 0, none⟩) b.length c4) := (F19.out.blk 1 rfl).cell 0
  have py_1 : w6.cell? ⟨w4.heap.size, 1, none⟩ = some (.slice (some ⟨g4, 0, none⟩) m.length c5) := (F19.out.blk 1 rfl).cell 1
  have px_lt : w2.heap.size < w6.heap.size := (F19.out.blk 4 rfl).lt
  have py_lt : w4.heap.size < w6.heap.size := (F19.out.blk 1 rfl).lt
  go_wp2_with fail
  obtain ⟨W7, hW7⟩ : ∃ W : World, W = w6.alloc (.cells #[.slice A1 (joinA a l b m).length k1, .slice A2 (joinL a l b m).length k2] 25) := ⟨_, rfl⟩
  rw [← hW7]
  have LW7 : Hid (Below w6.heap.size w6 W7) := Lib.hid (by rw [hW7]; exact (by repeat (first | exact Below.refl _ _ | refine bl_drewN ?_ _ | refine bl_drew ?_ | refine bl_alloc ?_ _)))
  have XW7 : Hid (GR.Blk W7 w6.heap.size 25 #[.slice A1 (joinA a l b m).length k1, .slice A2 (joinL a l b m).length k2]) := Lib.hid (by rw [hW7]; exact GR.Blk.new _ _ _)
  have SW7 : w6.heap.size < W7.heap.size := XW7.out.lt
  clear hW7
  clear px_0 px_1 px_lt py_0 py_1 py_lt
  have F20 := Lib.hid (F19.out.below LW7.out)
  clear F19
  have F21 := Lib.hid (HS.addB F20.out (g := w6.heap.size) (t := 25) (cs := #[.slice A1 (joinA a l b m).length k1, .slice A2 (joinL a l b m).length k2]) (XW7.out))
  clear F20
  replace BB := Lib.hid (bl_then BB.out LW7.out)
  refine (join_at _ _ _ _ _ _ _ _ _ _ _ _ a b l m _ ((F21.out.own 6 rfl).d.rd bma).2.2 ((F21.out.own 6 rfl).s.rd bml).2.2 ((F21.out.own 3 rfl).d.rd bmb).2.2 ((F21.out.own 3 rfl).s.rd bmm).2.2 rfl rfl rfl rfl ((F21.out.own 6 rfl).d.rd bma).2.1 ((F21.out.own 3 rfl).d.rd bmb).2.1 NA.out NL.out NB.out NM.out).mono ?_
  rintro e w8 ⟨v1, v2, rfl, ho, hb⟩
  obtain ⟨A3, n3, k3, rfl⟩ := own_slice ho.d jb1
  obtain ⟨A4, n4, k4, rfl⟩ := own_slice ho.s jb2
  obtain rfl : n3 = (joinA a l b m).length := own_n' ho.d
  obtain rfl : n4 = (joinL a l b m).length := own_n' ho.s
  have F22 := Lib.hid (F21.out.below hb)
  clear F21
  have F23 := Lib.hid (F22.out.addO (ho))
  clear F22
  have Rone1 := Lib.hid (show ∀ k, rows2 (.slice A3 (joinA a l b m).length k3) (.slice A4 (joinL a l b m).length k4) k → W7.heap.size ≤ k from ho.ge)
  have Rone2 := Lib.hid (show ∀ k, rows2 (.slice A3 (joinA a l b m).length k3) (.slice A4 (joinL a l b m).length k4) k → k < w8.heap.size from ho.lt)
  have Sw8 : W7.heap.size ≤ w8.heap.size := hb.size
  replace BB := Lib.hid (bl_then BB.out hb)
  clear ho hb
  have px_0 : w8.cell? ⟨w2.heap.size, 0, none⟩ = some (.slice (some ⟨g1, 0, none⟩) a.length c1) := (F23.out.blk 6 rfl).cell 0
  have px_1 : w8.cell? ⟨w2.heap.size, 1, none⟩ = some (.slice (some ⟨g2, 0, none⟩) l.length c3) := (F23.out.blk 6 rfl).cell 1
  have py_0 : w8.cell? ⟨w4.heap.size, 0, none⟩ = some (.slice (some ⟨g3, 0, none⟩) b.length c4) := (F23.out.blk 3 rfl).cell 0
  have py_1 : w8.cell? ⟨w4.heap.size, 1, none⟩ = some (.slice (some ⟨g4, 0, none⟩) m.length c5) := (F23.out.blk 3 rfl).cell 1
  have px_lt : w2.heap.size < w8.heap.size := (F23.out.blk 6 rfl).lt
  have py_lt : w4.heap.size < w8.heap.size := (F23.out.blk 3 rfl).lt
  go_wp2_with fail
  obtain ⟨W9, hW9⟩ : ∃ W : World, W = w8.alloc (.cells #[.slice A3 (joinA a l b m).length k3, .slice A4 (joinL a l b m).length k4] 25) := ⟨_, rfl⟩
  rw [← hW9]
  have LW9 : Hid (Below w8.heap.size w8 W9) := Lib.hid (by rw [hW9]; exact (by repeat (first | exact Below.refl _ _ | refine bl_drewN ?_ _ | refine bl_drew ?_ | refine bl_alloc ?_ _)))
  have XW9 : Hid (GR.Blk W9 w8.heap.size 25 #[.slice A3 (joinA a l b m).length k3, .slice A4 (joinL a l b m).length k4]) := Lib.hid (by rw [hW9]; exact GR.Blk.new _ _ _)
  have SW9 : w8.heap.size < W9.heap.size := XW9.out.lt
  clear hW9
  clear px_0 px_1 px_lt py_0 py_1 py_lt
  have F24 := Lib.hid (F23.out.below LW9.out)
  clear F23
  have F25 := Lib.hid (HS.addB F24.out (g := w8.heap.size) (t := 25) (cs := #[.slice A3 (joinA a l b m).length k3, .slice A4 (joinL a l b m).length k4]) (XW9.out))
  clear F24
  replace BB := Lib.hid (bl_then BB.out LW9.out)
  refine (join_at _ _ _ _ _ _ _ _ _ _ _ _ a b l m _ ((F25.out.own 8 rfl).d.rd bma).2.2 ((F25.out.own 8 rfl).s.rd bml).2.2 ((F25.out.own 5 rfl).d.rd bmb).2.2 ((F25.out.own 5 rfl).s.rd bmm).2.2 rfl rfl rfl rfl ((F25.out.own 8 rfl).d.rd bma).2.1 ((F25.out.own 5 rfl).d.rd bmb).2.1 NA.out NL.out NB.out NM.out).mono ?_
  rintro e w10 ⟨v1, v2, rfl, ho, hb⟩
  obtain ⟨A5, n5, k5, rfl⟩ := own_slice ho.d jb1
  obtain ⟨A6, n6, k6, rfl⟩ := own_slice ho.s jb2
  obtain rfl : n5 = (joinA a l b m).length := own_n' ho.d
  obtain rfl : n6 = (joinL a l b m).length := own_n' ho.s
  have F26 := Lib.hid (F25.out.below hb)
  clear F25
  have F27 := Lib.hid (F26.out.addO (ho))
  clear F26
  have Rtwo1 := Lib.hid (show ∀ k, rows2 (.slice A5 (joinA a l b m).length k5) (.slice A6 (joinL a l b m).length k6) k → W9.heap.size ≤ k from ho.ge)
  have Rtwo2 := Lib.hid (show ∀ k, rows2 (.slice A5 (joinA a l b m).length k5) (.slice A6 (joinL a l b m).length k6) k → k < w10.heap.size from ho.lt)
  have Sw10 : W9.heap.size ≤ w10.heap.size := hb.size
  replace BB := Lib.hid (bl_then BB.out hb)
  clear ho hb
  have p1_0 : w10.cell? ⟨w8.heap.size, 0, none⟩ = some (.slice A3 (joinA a l b m).length k3) := (F27.out.blk 1 rfl).cell 0
  have p1_1 : w10.cell? ⟨w8.heap.size, 1, none⟩ = some (.slice A4 (joinL a l b m).length k4) := (F27.out.blk 1 rfl).cell 1
  have pw_0 : w10.cell? ⟨w6.heap.size, 0, none⟩ = some (.slice A1 (joinA a l b m).length k1) := (F27.out.blk 3 rfl).cell 0
  have pw_1 : w10.cell? ⟨w6.heap.size, 1, none⟩ = some (.slice A2 (joinL a l b m).length k2) := (F27.out.blk 3 rfl).cell 1
  have p1_lt : w8.heap.size < w10.heap.size := (F27.out.blk 1 rfl).lt
  have pw_lt : w6.heap.size < w10.heap.size := (F27.out.blk 3 rfl).lt
  have ee := EE.out
  go_wp2_with fail
  obtain ⟨W11, hW11⟩ : ∃ W : World, W = w10.alloc (.cells #[.slice A5 (joinA a l b m).length k5, .slice A6 (joinL a l b m).length k6] 25) := ⟨_, rfl⟩
  rw [← hW11]
  have LW11 : Hid (Below w10.heap.size w10 W11) := Lib.hid (by rw [hW11]; exact (by repeat (first | exact Below.refl _ _ | refine bl_drewN ?_ _ | refine bl_drew ?_ | refine bl_alloc ?_ _)))
  have XW11 : Hid (GR.Blk W11 w10.heap.size 25 #[.slice A5 (joinA a l b m).length k5, .slice A6 (joinL a l b m).length k6]) := Lib.hid (by rw [hW11]; exact GR.Blk.new _ _ _)
  have SW11 : w10.heap.size < W11.heap.size := XW11.out.lt
  clear hW11
  clear p1_0 p1_1 p1_lt pw_0 pw_1 pw_lt
  have F28 := Lib.hid (F27.out.below LW11.out)
  clear F27
  have F29 := Lib.hid (HS.addB F28.out (g := w10.heap.size) (t := 25) (cs := #[.slice A5 (joinA a l b m).length k5, .slice A6 (joinL a l b m).length k6]) (XW11.out))
  clear F28
  replace BB := Lib.hid (bl_then BB.out LW11.out)
  refine (same_self _ _ _ _ _ _ _ _ _ _ _ _ (joinA a l b m) (joinL a l b m) _ ((F29.out.own 3 rfl).d.rd jb1).2.2 ((F29.out.own 3 rfl).s.rd jb2).2.2 ((F29.out.own 5 rfl).d.rd jb1).2.2 ((F29.out.own 5 rfl).s.rd jb2).2.2 rfl rfl rfl rfl).mono ?_
  rintro e w12 ⟨rfl, hb⟩
  have F30 := Lib.hid (F29.out.below hb)
  clear F29
  replace BB := Lib.hid (bl_then BB.out hb)
  clear hb
  have p2_0 : w12.cell? ⟨w10.heap.size, 0, none⟩ = some (.slice A5 (joinA a l b m).length k5) := (F30.out.blk 0 rfl).cell 0
  have p2_1 : w12.cell? ⟨w10.heap.size, 1, none⟩ = some (.slice A6 (joinL a l b m).length k6) := (F30.out.blk 0 rfl).cell 1
  have pw_0 : w12.cell? ⟨w6.heap.size, 0, none⟩ = some (.slice A1 (joinA a l b m).length k1) := (F30.out.blk 4 rfl).cell 0
  have pw_1 : w12.cell? ⟨w6.heap.size, 1, none⟩ = some (.slice A2 (joinL a l b m).length k2) := (F30.out.blk 4 rfl).cell 1
  go_wp2_with fail
  clear p2_0 p2_1 pw_0 pw_1
  refine (same_self _ _ _ _ _ _ _ _ _ _ _ _ (joinA a l b m) (joinL a l b m) _ ((F30.out.own 1 rfl).d.rd jb1).2.2 ((F30.out.own 1 rfl).s.rd jb2).2.2 ((F30.out.own 5 rfl).d.rd jb1).2.2 ((F30.out.own 5 rfl).s.rd jb2).2.2 rfl rfl rfl rfl).mono ?_
  rintro e w13 ⟨rfl, hb⟩
  have F31 := Lib.hid (F30.out.below hb)
  clear F30
  replace BB := Lib.hid (bl_then BB.out hb)
  clear hb
  have px_0 : w13.cell? ⟨w2.heap.size, 0, none⟩ = some (.slice (some ⟨g1, 0, none⟩) a.length c1) := (F31.out.blk 9 rfl).cell 0
  have px_1 : w13.cell? ⟨w2.heap.size, 1, none⟩ = some (.slice (some ⟨g2, 0, none⟩) l.length c3) := (F31.out.blk 9 rfl).cell 1
  have pa_0 : w13.cell? ⟨w.heap.size, 0, none⟩ = some (.slice A a.length c) := (F31.out.blk 17 rfl).cell 0
  have pa_1 : w13.cell? ⟨w.heap.size, 1, none⟩ = some (.slice B l.length d) := (F31.out.blk 17 rfl).cell 1
  go_wp2_with fail
  clear px_0 px_1 pa_0 pa_1
  refine (kept_any g1 c1 g2 c3 _ A B c d a l _ (F31.out.rd 15 rfl) (F31.out.rd 14 rfl) sa sl (F31.out.own 11 rfl)).mono ?_
  rintro e w14 ⟨rfl, hb⟩
  have F32 := Lib.hid (F31.out.below hb)
  clear F31
  replace BB := Lib.hid (bl_then BB.out hb)
  clear hb
  have py_0 : w14.cell? ⟨w4.heap.size, 0, none⟩ = some (.slice (some ⟨g3, 0, none⟩) b.length c4) := (F32.out.blk 6 rfl).cell 0
  have py_1 : w14.cell? ⟨w4.heap.size, 1, none⟩ = some (.slice (some ⟨g4, 0, none⟩) m.length c5) := (F32.out.blk 6 rfl).cell 1
  have pb_0 : w14.cell? ⟨w.heap.size + 1, 0, none⟩ = some (.slice C b.length c2) := (F32.out.blk 16 rfl).cell 0
  have pb_1 : w14.cell? ⟨w.heap.size + 1, 1, none⟩ = some (.slice D m.length d2) := (F32.out.blk 16 rfl).cell 1
  go_wp2_with fail
  clear py_0 py_1 pb_0 pb_1
  refine (kept_any g3 c4 g4 c5 _ C D c2 d2 b m _ (F32.out.rd 13 rfl) (F32.out.rd 12 rfl) sb sm (F32.out.own 8 rfl)).mono ?_
  rintro e w15 ⟨rfl, hb⟩
  have F33 := Lib.hid (F32.out.below hb)
  clear F32
  replace BB := Lib.hid (bl_then BB.out hb)
  clear hb
  have p1_0 : w15.cell? ⟨w8.heap.size, 0, none⟩ = some (.slice A3 (joinA a l b m).length k3) := (F33.out.blk 2 rfl).cell 0
  have p1_1 : w15.cell? ⟨w8.heap.size, 1, none⟩ = some (.slice A4 (joinL a l b m).length k4) := (F33.out.blk 2 rfl).cell 1
  have p2_0 : w15.cell? ⟨w10.heap.size, 0, none⟩ = some (.slice A5 (joinA a l b m).length k5) := (F33.out.blk 0 rfl).cell 0
  have p2_1 : w15.cell? ⟨w10.heap.size, 1, none⟩ = some (.slice A6 (joinL a l b m).length k6) := (F33.out.blk 0 rfl).cell 1
  have pw_0 : w15.cell? ⟨w6.heap.size, 0, none⟩ = some (.slice A1 (joinA a l b m).length k1) := (F33.out.blk 4 rfl).cell 0
  have pw_1 : w15.cell? ⟨w6.heap.size, 1, none⟩ = some (.slice A2 (joinL a l b m).length k2) := (F33.out.blk 4 rfl).cell 1
  have px_0 : w15.cell? ⟨w2.heap.size, 0, none⟩ = some (.slice (some ⟨g1, 0, none⟩) a.length c1) := (F33.out.blk 9 rfl).cell 0
  have px_1 : w15.cell? ⟨w2.heap.size, 1, none⟩ = some (.slice (some ⟨g2, 0, none⟩) l.length c3) := (F33.out.blk 9 rfl).cell 1
  have py_0 : w15.cell? ⟨w4.heap.size, 0, none⟩ = some (.slice (some ⟨g3, 0, none⟩) b.length c4) := (F33.out.blk 6 rfl).cell 0
  have py_1 : w15.cell? ⟨w4.heap.size, 1, none⟩ = some (.slice (some ⟨g4, 0, none⟩) m.length c5) := (F33.out.blk 6 rfl).cell 1
  go_wp2_with fail
  clear p1_0 p1_1 p2_0 p2_1 pw_0 pw_1 px_0 px_1 py_0 py_1
  clear EE ee
  have BBs : W1.heap.size ≤ w15.heap.size := BB.out.size
  obtain ⟨W16, hW16⟩ : ∃ W : World, W = w15.alloc (.cells #[.slice (some ⟨g1, 0, none⟩) a.length c1, .slice (some ⟨g2, 0, none⟩) l.length c3, .slice (some ⟨g3, 0, none⟩) b.length c4, .slice (some ⟨g4, 0, none⟩) m.length c5] 25) := ⟨_, rfl⟩
  rw [← hW16]
  have L16 : Hid (Below w15.heap.size w15 W16) := Lib.hid (by rw [hW16]; exact (by repeat (first | exact Below.refl _ _ | refine bl_drewN ?_ _ | refine bl_drew ?_ | refine bl_alloc ?_ _)))
  have O16 : Hid (GR.Own stK W16 W1.heap.size (.slice (some ⟨w15.heap.size, 0, none⟩) 2 2) [⟨some ⟨g1, 0, none⟩, a.length, c1, some ⟨g2, 0, none⟩, l.length, c3⟩, ⟨some ⟨g3, 0, none⟩, b.length, c4, some ⟨g4, 0, none⟩, m.length, c5⟩]) := Lib.hid (by rw [hW16]; exact lit2 w15 W1.heap.size BBs _ _)
  clear hW16
  have F34 := Lib.hid (F33.out.below L16.out)
  clear F33
  replace BB := Lib.hid (bl_then BB.out L16.out)
  have HIn : Hid (InS W16 W1.heap.size [⟨some ⟨g1, 0, none⟩, a.length, c1, some ⟨g2, 0, none⟩, l.length, c3⟩, ⟨some ⟨g3, 0, none⟩, b.length, c4, some ⟨g4, 0, none⟩, m.length, c5⟩] (fun i => if i = 0 then (a, l) else (b, m))) := Lib.hid (fun i hi => by
    match i, hi with
    | 0, _ => exact ⟨(F34.out.own 10 rfl), sa, sl, NA.out, NL.out⟩
    | 1, _ => exact ⟨OwnS.base (F34.out.own 7 rfl) (by omega), sb, sm, NB.out, NM.out⟩
    | n + 2, hi => exact absurd hi (by simp))
  have HO1 := Lib.hid (OwnS.base (B' := W1.heap.size) (F34.out.own 3 rfl) (by omega))
  have HO2 := Lib.hid (OwnS.base (B' := W1.heap.size) (F34.out.own 1 rfl) (by omega))
  have HO3 := Lib.hid (OwnS.base (B' := W1.heap.size) (F34.out.own 5 rfl) (by omega))
  have Bs16 : W1.heap.size ≤ W16.heap.size := BB.out.size
  refine (fresh_any W1.heap.size _ _ _ _ _ _ _ (joinA a l b m) (joinL a l b m) [⟨some ⟨g1, 0, none⟩, a.length, c1, some ⟨g2, 0, none⟩, l.length, c3⟩, ⟨some ⟨g3, 0, none⟩, b.length, c4, some ⟨g4, 0, none⟩, m.length, c5⟩] _ W16 HO1.out HO2.out HO3.out (by have := HJ.out.1; omega) (by have := HJ.out.2; omega) HP.out.1 HP.out.2 O16.out (by simp) HIn.out Bs16
    (ApS.of_lt (C := W9.heap.size) (fun k hk => by have := Rone2.out k hk; omega) Rtwo1.out)
    (ApS.symm (ApS.of_lt (C := W7.heap.size) (fun k hk => by have := Rwant2.out k hk; omega) Rone1.out))
    (fun x hx => by
      rcases List.mem_cons.1 hx with rfl | hx
      · exact ApS.symm (ApS.of_lt (C := W7.heap.size) (fun k hk => by have := RX2.out k hk; omega) Rone1.out)
      · obtain rfl := List.mem_singleton.1 hx
        exact ApS.symm (ApS.of_lt (C := W7.heap.size) (fun k hk => by have := RY2.out k hk; omega) Rone1.out))
    (fun x hx => by
      rcases List.mem_cons.1 hx with rfl | hx
      · exact ApS.symm (ApS.of_lt (C := W9.heap.size) (fun k hk => by have := RX2.out k hk; omega) Rtwo1.out)
      · obtain rfl := List.mem_singleton.1 hx
        exact ApS.symm (ApS.of_lt (C := W9.heap.size) (fun k hk => by have := RY2.out k hk; omega) Rtwo1.out))
    (fun x hx => by
      rcases List.mem_cons.1 hx with rfl | hx
      · exact ApS.symm (ApS.of_lt (C := W5.heap.size) (fun k hk => by have := RX2.out k hk; omega) Rwant1.out)
      · obtain rfl := List.mem_singleton.1 hx
        exact ApS.symm (ApS.of_lt (C := W5.heap.size) (fun k hk => by have := RY2.out k hk; omega) Rwant1.out))
    (fun i j hi hj hij => by
      match i, j, hi, hj, hij with
      | 0, 0, _, _, h => exact absurd rfl h
      | 0, 1, _, _, _ => exact ApS.of_lt (C := W3.heap.size) (fun k hk => by have := RX2.out k hk; omega) RY1.out
      | 1, 0, _, _, _ => exact (ApS.of_lt (C := W3.heap.size) (fun k hk => by have := RX2.out k hk; omega) RY1.out).symm
      | 1, 1, _, _, h => exact absurd rfl h
      | n + 2, _, hi, _, _ => exact absurd hi (by simp)
      | 0, n + 2, _, hj, _ => exact absurd hj (by simp)
      | 1, n + 2, _, hj, _ => exact absurd hj (by simp))).mono ?_
  rintro e w17 ⟨rfl, ⟨C', hC', hlen⟩, hc⟩
  have Bpx : Hid (GR.Blk w17 w2.heap.size 25 #[.slice (some ⟨g1, 0, none⟩) a.length c1, .slice (some ⟨g2, 0, none⟩) l.length c3]) := Lib.hid (blk_fresh HO1.out HIn.out (F34.out.blk 9 rfl) hc)
  have Bpy : Hid (GR.Blk w17 w4.heap.size 25 #[.slice (some ⟨g3, 0, none⟩) b.length c4, .slice (some ⟨g4, 0, none⟩) m.length c5]) := Lib.hid (blk_fresh HO1.out HIn.out (F34.out.blk 6 rfl) hc)
  have Bp1 : Hid (GR.Blk w17 w8.heap.size 25 #[.slice A3 (joinA a l b m).length k3, .slice A4 (joinL a l b m).length k4]) := Lib.hid (blk_fresh HO1.out HIn.out (F34.out.blk 2 rfl) hc)
  have x17 := hC' 0 (by simp)
  have y17 := hC' 1 (by simp)
  have xl := hlen 0 (by simp)
  have yl := hlen 1 (by simp)
  generalize C' 0 = z0 at x17 xl
  generalize C' 1 = z1 at y17 yl
  obtain ⟨a', l'⟩ := z0
  obtain ⟨b', m'⟩ := z1
  have xl1 : a'.length = a.length := xl.1
  have xl2 : l'.length = l.length := xl.2
  have yl1 : b'.length = b.length := yl.1
  have yl2 : m'.length = m.length := yl.2
  have NA' := Lib.hid x17.2.2.2.1
  have NL' := Lib.hid x17.2.2.2.2
  have NB' := Lib.hid y17.2.2.2.1
  have NM' := Lib.hid y17.2.2.2.2
  have OX : Hid (OwnS w17 W1.heap.size (.slice (some ⟨g1, 0, none⟩) a.length c1) (.slice (some ⟨g2, 0, none⟩) l.length c3) a' l') := Lib.hid x17.1
  have OY : Hid (OwnS w17 W1.heap.size (.slice (some ⟨g3, 0, none⟩) b.length c4) (.slice (some ⟨g4, 0, none⟩) m.length c5) b' m') := Lib.hid y17.1
  have BW : Hid (Below W1.heap.size W1 w17) := Lib.hid (Below.trans BB.out (hc.below Bs16 (fun k hk => by
    rcases hk with hk | ⟨x, hx, hk⟩
    · have := Rone1.out k hk; omega
    · rcases List.mem_cons.1 hx with rfl | hx
      · exact RX1.out k hk
      · obtain rfl := List.mem_singleton.1 hx
        have := RY1.out k hk; omega)))
  clear x17 y17 xl yl hC' hlen hc HIn O16 HO1 HO2 HO3 Rone1 Rone2 Rtwo1 Rtwo2 Rwant1 Rwant2 RX1 RX2 RY1 RY2
  have bxd : a'.length * 16 ≤ 140737488355328 := by omega
  have bxs : l'.length * 40 ≤ 140737488355328 := by omega
  have byd : b'.length * 16 ≤ 140737488355328 := by omega
  have bys : m'.length * 40 ≤ 140737488355328 := by omega
  have jc1 : (joinA a' l' b' m').length * 16 ≤ 140737488355328 := by have := (join_small a' l' b' m').1; omega
  have jc2 : (joinL a' l' b' m').length * 40 ≤ 140737488355328 := by have := (join_small a' l' b' m').2; omega
  have RXd := Lib.hid (GR.Own.rd OX.out.d bxd).2.2
  have RXs := Lib.hid (GR.Own.rd OX.out.s bxs).2.2
  have RYd := Lib.hid (GR.Own.rd OY.out.d byd).2.2
  have RYs := Lib.hid (GR.Own.rd OY.out.s bys).2.2
  have CX := Lib.hid (GR.Own.rd OX.out.d bxd).2.1
  have CY := Lib.hid (GR.Own.rd OY.out.d byd).2.1
  have EL := Lib.hid xl1
  have EL2 := Lib.hid xl2
  have EL3 := Lib.hid yl1
  have EL4 := Lib.hid yl2
  have hp1 : w8.heap.size < w17.heap.size := Bp1.out.lt
  have K0 : Hid (w17.cell? ⟨w2.heap.size, 0, none⟩ = some (.slice (some ⟨g1, 0, none⟩) a.length c1)) := Lib.hid (Bpx.out.cell 0)
  have K1 : Hid (w17.cell? ⟨w2.heap.size, 1, none⟩ = some (.slice (some ⟨g2, 0, none⟩) l.length c3)) := Lib.hid (Bpx.out.cell 1)
  have K2 : Hid (w17.cell? ⟨w4.heap.size, 0, none⟩ = some (.slice (some ⟨g3, 0, none⟩) b.length c4)) := Lib.hid (Bpy.out.cell 0)
  have K3 : Hid (w17.cell? ⟨w4.heap.size, 1, none⟩ = some (.slice (some ⟨g4, 0, none⟩) m.length c5)) := Lib.hid (Bpy.out.cell 1)
  clear xl1 xl2 yl1 yl2
  go_upto_region 10 with fail
  go_cut [8, 13] from 76 (fun s8 s13 wx => ∃ (g : Nat) (Az1 Az2 : Option Addr) (kz1 kz2 : Nat), s8 = .int .i64 (joinE a' l' b' m') ∧ s13 = .pointer (some ⟨g, 0, none⟩) ∧ w17.heap.size ≤ g ∧ Hid (GR.Blk wx g 25 #[.slice Az1 (joinA a' l' b' m').length kz1, .slice Az2 (joinL a' l' b' m').length kz2]) ∧
    Hid (OwnS wx w17.heap.size (.slice Az1 (joinA a' l' b' m').length kz1) (.slice Az2 (joinL a' l' b' m').length kz2) (joinA a' l' b' m') (joinL a' l' b' m')) ∧ Hid (Below w17.heap.size w17 wx))
  case first =>
    have HR := Lib.hid (Below.refl w17.heap.size w17)
    refine wp_region_held_drew (S := fun w' => w'.cell? ⟨w2.heap.size, 0, none⟩ = some (.slice (some ⟨g1, 0, none⟩) a.length c1) ∧ w'.cell? ⟨w2.heap.size, 1, none⟩ = some (.slice (some ⟨g2, 0, none⟩) l.length c3) ∧ w'.cell? ⟨w4.heap.size, 0, none⟩ = some (.slice (some ⟨g3, 0, none⟩) b.length c4) ∧ w'.cell? ⟨w4.heap.size, 1, none⟩ = some (.slice (some ⟨g4, 0, none⟩) m.length c5)) (by kernel_rfl) ?_ (fun hHeld => ?_)
    · exact ⟨K0.out, K1.out, K2.out, K3.out⟩
    refine wpAnyH_take (i := 0) (oi := { dst := some 77, op := Op.load 25 (Operand.tmp 5), type := 25, pos := "law.go:138", after := #[], guard := none }) (v := ?_) rfl (by kernel_rfl) (by kernel_rfl) (by kernel_rfl) (fun _ _ _ h => h) (Or.inl ⟨by rfl, ?_⟩) (by assumption) ?_
    rotate_left
    · intro w_ hSw
      (try dsimp only at hSw)
      go_simp
      first | done | with_reducible rfl
    try simp only [Act.put, List.setIfInBounds_toArray, List.set_cons_zero, List.set_cons_succ]
    refine wpAnyH_take (i := 2) (oi := { dst := some 79, op := Op.load 25 (Operand.tmp 6), type := 25, pos := "law.go:138", after := #[], guard := none }) (v := ?_) rfl (by kernel_rfl) (by kernel_rfl) (by kernel_rfl) (fun _ _ _ h => h) (Or.inl ⟨by rfl, ?_⟩) (by assumption) ?_
    rotate_left
    · intro w_ hSw
      (try dsimp only at hSw)
      go_simp
      first | done | with_reducible rfl
    try simp only [Act.put, List.setIfInBounds_toArray, List.set_cons_zero, List.set_cons_succ]
    refine wpAnyH_ready (rs := [1, 8]) (by kernel_rfl) (by simp) ?_
    refine AllReadyH.cons (o := { dst := some 78, op := Op.call { callee := Callee.value (Operand.func 18), args := #[Operand.tmp 77], argTypes := #[25] }, type := 25, pos := "law.go:138", after := #[{ on := 0, ground := Ground.data }], guard := none }) rfl (fun K hK => ?_) (AllReadyH.cons (o := { dst := some 13, op := Op.alloc 25, type := 0, pos := "law.go:138", after := #[], guard := none }) rfl (fun K hK => ?_) (AllReadyH.nil))
    · skip
      go_simp
      go_at_call 18
      refine (twin_at _ _ _ _ _ _ a' l' _ (GR.Rd.below RXd.out (by repeat (first | exact HR.out | refine bl_drewN ?_ _ | refine bl_drew ?_ | refine bl_alloc ?_ _))) (GR.Rd.below RXs.out (by repeat (first | exact HR.out | refine bl_drewN ?_ _ | refine bl_drew ?_ | refine bl_alloc ?_ _))) EL.out.symm EL2.out.symm).mono ?_
      rintro e wx ⟨v1, v2, rfl, ho, hb2⟩
      obtain ⟨Ax1, nx1, kx1, rfl⟩ := own_slice ho.d bxd
      obtain ⟨Ax2, nx2, kx2, rfl⟩ := own_slice ho.s bxs
      obtain rfl : nx1 = a'.length := own_n' ho.d
      obtain rfl : nx2 = l'.length := own_n' ho.s
      have Tx := Lib.hid (OwnS.base (B' := w17.heap.size) ho (Below.size (w := w17) (by repeat (first | exact HR.out | refine bl_drewN ?_ _ | refine bl_drew ?_ | refine bl_alloc ?_ _))))
      clear ho
      have N_ := Lib.hid (bl_then (w := w17) (by repeat (first | exact HR.out | refine bl_drewN ?_ _ | refine bl_drew ?_ | refine bl_alloc ?_ _)) hb2)
      clear hb2 HR
      have HR := N_
      clear N_
      have hs_wx : w17.heap.size ≤ wx.heap.size := HR.out.size
      refine hK.out _ _ ?_ (fun hHeld => ?_)
      · exact ⟨(Below.cell (p := ⟨w2.heap.size, 0, none⟩) (by repeat (first | exact HR.out | refine bl_drewN ?_ _ | refine bl_drew ?_ | refine bl_alloc ?_ _ | refine Below.setCell ?_ (by first | exact Nat.le_refl _ | exact hs_wx | exact hs_wy | exact hs_wz) _)) (World.block_lt_of_cell? w17 _ K0.out)).trans K0.out, (Below.cell (p := ⟨w2.heap.size, 1, none⟩) (by repeat (first | exact HR.out | refine bl_drewN ?_ _ | refine bl_drew ?_ | refine bl_alloc ?_ _ | refine Below.setCell ?_ (by first | exact Nat.le_refl _ | exact hs_wx | exact hs_wy | exact hs_wz) _)) (World.block_lt_of_cell? w17 _ K1.out)).trans K1.out, (Below.cell (p := ⟨w4.heap.size, 0, none⟩) (by repeat (first | exact HR.out | refine bl_drewN ?_ _ | refine bl_drew ?_ | refine bl_alloc ?_ _ | refine Below.setCell ?_ (by first | exact Nat.le_refl _ | exact hs_wx | exact hs_wy | exact hs_wz) _)) (World.block_lt_of_cell? w17 _ K2.out)).trans K2.out, (Below.cell (p := ⟨w4.heap.size, 1, none⟩) (by repeat (first | exact HR.out | refine bl_drewN ?_ _ | refine bl_drew ?_ | refine bl_alloc ?_ _ | refine Below.setCell ?_ (by first | exact Nat.le_refl _ | exact hs_wx | exact hs_wy | exact hs_wz) _)) (World.block_lt_of_cell? w17 _ K3.out)).trans K3.out⟩
      clear hK K
      try simp only [Act.put, List.setIfInBounds_toArray, List.set_cons_zero, List.set_cons_succ]
      refine wpAnyH_ready (rs := [3, 8]) (by kernel_rfl) (by simp) ?_
      refine AllReadyH.cons (o := { dst := some 80, op := Op.call { callee := Callee.value (Operand.func 18), args := #[Operand.tmp 79], argTypes := #[25] }, type := 25, pos := "law.go:138", after := #[{ on := 2, ground := Ground.data }, { on := 1, ground := Ground.chain }], guard := none }) rfl (fun K hK => ?_) (AllReadyH.cons (o := { dst := some 13, op := Op.alloc 25, type := 0, pos := "law.go:138", after := #[], guard := none }) rfl (fun K hK => ?_) (AllReadyH.nil))
      · skip
        go_simp
        go_at_call 18
        refine (twin_at _ _ _ _ _ _ b' m' _ (GR.Rd.below RYd.out (by repeat (first | exact HR.out | refine bl_drewN ?_ _ | refine bl_drew ?_ | refine bl_alloc ?_ _))) (GR.Rd.below RYs.out (by repeat (first | exact HR.out | refine bl_drewN ?_ _ | refine bl_drew ?_ | refine bl_alloc ?_ _))) EL3.out.symm EL4.out.symm).mono ?_
        rintro e wy ⟨v1, v2, rfl, ho, hb2⟩
        obtain ⟨Ay1, ny1, ky1, rfl⟩ := own_slice ho.d byd
        obtain ⟨Ay2, ny2, ky2, rfl⟩ := own_slice ho.s bys
        obtain rfl : ny1 = b'.length := own_n' ho.d
        obtain rfl : ny2 = m'.length := own_n' ho.s
        have T_ := Lib.hid (OwnS.below (OwnS.below (w := wx) Tx.out (by repeat (first | exact Below.refl _ _ | refine bl_drewN ?_ _ | refine bl_drew ?_ | refine bl_alloc ?_ _))) hb2)
        clear Tx
        have Tx := T_
        clear T_
        have Ty := Lib.hid (OwnS.base (B' := w17.heap.size) ho (Below.size (w := w17) (by repeat (first | exact HR.out | refine bl_drewN ?_ _ | refine bl_drew ?_ | refine bl_alloc ?_ _))))
        clear ho
        have N_ := Lib.hid (bl_then (w := w17) (by repeat (first | exact HR.out | refine bl_drewN ?_ _ | refine bl_drew ?_ | refine bl_alloc ?_ _)) hb2)
        clear hb2 HR
        have HR := N_
        clear N_
        have hs_wy : w17.heap.size ≤ wy.heap.size := HR.out.size
        refine hK.out _ _ ?_ (fun hHeld => ?_)
        · exact ⟨(Below.cell (p := ⟨w2.heap.size, 0, none⟩) (by repeat (first | exact HR.out | refine bl_drewN ?_ _ | refine bl_drew ?_ | refine bl_alloc ?_ _ | refine Below.setCell ?_ (by first | exact Nat.le_refl _ | exact hs_wx | exact hs_wy | exact hs_wz) _)) (World.block_lt_of_cell? w17 _ K0.out)).trans K0.out, (Below.cell (p := ⟨w2.heap.size, 1, none⟩) (by repeat (first | exact HR.out | refine bl_drewN ?_ _ | refine bl_drew ?_ | refine bl_alloc ?_ _ | refine Below.setCell ?_ (by first | exact Nat.le_refl _ | exact hs_wx | exact hs_wy | exact hs_wz) _)) (World.block_lt_of_cell? w17 _ K1.out)).trans K1.out, (Below.cell (p := ⟨w4.heap.size, 0, none⟩) (by repeat (first | exact HR.out | refine bl_drewN ?_ _ | refine bl_drew ?_ | refine bl_alloc ?_ _ | refine Below.setCell ?_ (by first | exact Nat.le_refl _ | exact hs_wx | exact hs_wy | exact hs_wz) _)) (World.block_lt_of_cell? w17 _ K2.out)).trans K2.out, (Below.cell (p := ⟨w4.heap.size, 1, none⟩) (by repeat (first | exact HR.out | refine bl_drewN ?_ _ | refine bl_drew ?_ | refine bl_alloc ?_ _ | refine Below.setCell ?_ (by first | exact Nat.le_refl _ | exact hs_wx | exact hs_wy | exact hs_wz) _)) (World.block_lt_of_cell? w17 _ K3.out)).trans K3.out⟩
        clear hK K
        try simp only [Act.put, List.setIfInBounds_toArray, List.set_cons_zero, List.set_cons_succ]
        refine wpAnyH_ready (rs := [4, 8]) (by kernel_rfl) (by simp) ?_
        refine AllReadyH.cons (o := { dst := some 81, op := Op.call { callee := Callee.value (Operand.func 19), args := #[Operand.tmp 78, Operand.tmp 80], argTypes := #[25, 25] }, type := 40, pos := "law.go:138", after := #[{ on := 1, ground := Ground.data }, { on := 3, ground := Ground.data }, { on := 3, ground := Ground.chain }], guard := none }) rfl (fun K hK => ?_) (AllReadyH.cons (o := { dst := some 13, op := Op.alloc 25, type := 0, pos := "law.go:138", after := #[], guard := none }) rfl (fun K hK => ?_) (AllReadyH.nil))
        · skip
          go_simp
          go_at_call 19
          refine (refJoin_at _ _ _ _ _ _ _ _ _ _ _ _ a' b' l' m' _ ((GR.Own.rd (OwnS.d (OwnS.below (w := wy) Tx.out (by repeat (first | exact Below.refl _ _ | refine bl_drewN ?_ _ | refine bl_drew ?_ | refine bl_alloc ?_ _)))) bxd).2.2) ((GR.Own.rd (OwnS.s (OwnS.below (w := wy) Tx.out (by repeat (first | exact Below.refl _ _ | refine bl_drewN ?_ _ | refine bl_drew ?_ | refine bl_alloc ?_ _)))) bxs).2.2) ((GR.Own.rd (OwnS.d (OwnS.below (w := wy) Ty.out (by repeat (first | exact Below.refl _ _ | refine bl_drewN ?_ _ | refine bl_drew ?_ | refine bl_alloc ?_ _)))) byd).2.2) ((GR.Own.rd (OwnS.s (OwnS.below (w := wy) Ty.out (by repeat (first | exact Below.refl _ _ | refine bl_drewN ?_ _ | refine bl_drew ?_ | refine bl_alloc ?_ _)))) bys).2.2) rfl rfl rfl rfl NA'.out NL'.out NB'.out NM'.out).mono ?_
          rintro e wz ⟨v1, v2, rfl, ho, hb2⟩
          obtain ⟨Az1, nz1, kz1, rfl⟩ := own_slice ho.d jc1
          obtain ⟨Az2, nz2, kz2, rfl⟩ := own_slice ho.s jc2
          obtain rfl : nz1 = (joinA a' l' b' m').length := own_n' ho.d
          obtain rfl : nz2 = (joinL a' l' b' m').length := own_n' ho.s
          have T_ := Lib.hid (OwnS.below (OwnS.below (w := wy) Tx.out (by repeat (first | exact Below.refl _ _ | refine bl_drewN ?_ _ | refine bl_drew ?_ | refine bl_alloc ?_ _))) hb2)
          clear Tx
          have Tx := T_
          clear T_
          have T_ := Lib.hid (OwnS.below (OwnS.below (w := wy) Ty.out (by repeat (first | exact Below.refl _ _ | refine bl_drewN ?_ _ | refine bl_drew ?_ | refine bl_alloc ?_ _))) hb2)
          clear Ty
          have Ty := T_
          clear T_
          have TZ := Lib.hid (OwnS.base (B' := w17.heap.size) ho (Below.size (w := w17) (by repeat (first | exact HR.out | refine bl_drewN ?_ _ | refine bl_drew ?_ | refine bl_alloc ?_ _))))
          clear ho
          have N_ := Lib.hid (bl_then (w := w17) (by repeat (first | exact HR.out | refine bl_drewN ?_ _ | refine bl_drew ?_ | refine bl_alloc ?_ _)) hb2)
          clear hb2 HR
          have HR := N_
          clear N_
          have hs_wz : w17.heap.size ≤ wz.heap.size := HR.out.size
          refine hK.out _ _ ?_ (fun hHeld => ?_)
          · exact ⟨(Below.cell (p := ⟨w2.heap.size, 0, none⟩) (by repeat (first | exact HR.out | refine bl_drewN ?_ _ | refine bl_drew ?_ | refine bl_alloc ?_ _ | refine Below.setCell ?_ (by first | exact Nat.le_refl _ | exact hs_wx | exact hs_wy | exact hs_wz) _)) (World.block_lt_of_cell? w17 _ K0.out)).trans K0.out, (Below.cell (p := ⟨w2.heap.size, 1, none⟩) (by repeat (first | exact HR.out | refine bl_drewN ?_ _ | refine bl_drew ?_ | refine bl_alloc ?_ _ | refine Below.setCell ?_ (by first | exact Nat.le_refl _ | exact hs_wx | exact hs_wy | exact hs_wz) _)) (World.block_lt_of_cell? w17 _ K1.out)).trans K1.out, (Below.cell (p := ⟨w4.heap.size, 0, none⟩) (by repeat (first | exact HR.out | refine bl_drewN ?_ _ | refine bl_drew ?_ | refine bl_alloc ?_ _ | refine Below.setCell ?_ (by first | exact Nat.le_refl _ | exact hs_wx | exact hs_wy | exact hs_wz) _)) (World.block_lt_of_cell? w17 _ K2.out)).trans K2.out, (Below.cell (p := ⟨w4.heap.size, 1, none⟩) (by repeat (first | exact HR.out | refine bl_drewN ?_ _ | refine bl_drew ?_ | refine bl_alloc ?_ _ | refine Below.setCell ?_ (by first | exact Nat.le_refl _ | exact hs_wx | exact hs_wy | exact hs_wz) _)) (World.block_lt_of_cell? w17 _ K3.out)).trans K3.out⟩
          clear hK K
          try simp only [Act.put, List.setIfInBounds_toArray, List.set_cons_zero, List.set_cons_succ]
          refine wpAnyH_take (i := 5) (oi := { dst := some 76, op := Op.move (Operand.tmp 81), type := 40, pos := "law.go:138", after := #[{ on := 4, ground := Ground.data }], guard := none }) (v := ?_) rfl (by kernel_rfl) (by kernel_rfl) (by kernel_rfl) (fun _ _ _ h => h) (Or.inl ⟨by rfl, ?_⟩) (by assumption) ?_
          rotate_left
          · intro w_ hSw
            (try dsimp only at hSw)
            go_simp
            first | done | with_reducible rfl
          try simp only [Act.put, List.setIfInBounds_toArray, List.set_cons_zero, List.set_cons_succ]
          refine wpAnyH_take (i := 6) (oi := { dst := some 82, op := Op.extract (Operand.tmp 76) 0, type := 25, pos := "law.go:138", after := #[{ on := 5, ground := Ground.data }], guard := none }) (v := ?_) rfl (by kernel_rfl) (by kernel_rfl) (by kernel_rfl) (fun _ _ _ h => h) (Or.inl ⟨by rfl, ?_⟩) (by assumption) ?_
          rotate_left
          · intro w_ hSw
            (try dsimp only at hSw)
            go_simp
            first | done | with_reducible rfl
          try simp only [Act.put, List.setIfInBounds_toArray, List.set_cons_zero, List.set_cons_succ]
          refine wpAnyH_take (i := 7) (oi := { dst := some 83, op := Op.extract (Operand.tmp 76) 1, type := 33, pos := "law.go:138", after := #[{ on := 5, ground := Ground.data }, { on := 9, ground := Ground.gcOnly Departure.lateStores }], guard := none }) (v := ?_) rfl (by kernel_rfl) (by kernel_rfl) (by kernel_rfl) (fun _ _ _ h => h) (Or.inl ⟨by rfl, ?_⟩) (by assumption) ?_
          rotate_left
          · intro w_ hSw
            (try dsimp only at hSw)
            go_simp
            first | done | with_reducible rfl
          try simp only [Act.put, List.setIfInBounds_toArray, List.set_cons_zero, List.set_cons_succ]
          refine wpAnyH_ready (rs := [8]) (by kernel_rfl) (by simp) ?_
          refine AllReadyH.cons (o := { dst := some 13, op := Op.alloc 25, type := 0, pos := "law.go:138", after := #[], guard := none }) rfl (fun K hK => ?_) (AllReadyH.nil)
          go_simp
          skip
          refine hK.out _ _ ?_ (fun hHeld => ?_)
          · exact ⟨(Below.cell (p := ⟨w2.heap.size, 0, none⟩) (by repeat (first | exact HR.out | refine bl_drewN ?_ _ | refine bl_drew ?_ | refine bl_alloc ?_ _ | refine Below.setCell ?_ (by first | exact Nat.le_refl _ | exact hs_wx | exact hs_wy | exact hs_wz) _)) (World.block_lt_of_cell? w17 _ K0.out)).trans K0.out, (Below.cell (p := ⟨w2.heap.size, 1, none⟩) (by repeat (first | exact HR.out | refine bl_drewN ?_ _ | refine bl_drew ?_ | refine bl_alloc ?_ _ | refine Below.setCell ?_ (by first | exact Nat.le_refl _ | exact hs_wx | exact hs_wy | exact hs_wz) _)) (World.block_lt_of_cell? w17 _ K1.out)).trans K1.out, (Below.cell (p := ⟨w4.heap.size, 0, none⟩) (by repeat (first | exact HR.out | refine bl_drewN ?_ _ | refine bl_drew ?_ | refine bl_alloc ?_ _ | refine Below.setCell ?_ (by first | exact Nat.le_refl _ | exact hs_wx | exact hs_wy | exact hs_wz) _)) (World.block_lt_of_cell? w17 _ K2.out)).trans K2.out, (Below.cell (p := ⟨w4.heap.size, 1, none⟩) (by repeat (first | exact HR.out | refine bl_drewN ?_ _ | refine bl_drew ?_ | refine bl_alloc ?_ _ | refine Below.setCell ?_ (by first | exact Nat.le_refl _ | exact hs_wx | exact hs_wy | exact hs_wz) _)) (World.block_lt_of_cell? w17 _ K3.out)).trans K3.out⟩
          clear hK K
          try simp only [Act.put, List.setIfInBounds_toArray, List.set_cons_zero, List.set_cons_succ]
          refine wpAnyH_ready (rs := [9]) (by kernel_rfl) (by simp) ?_
          refine AllReadyH.cons (o := { dst := none, op := Op.store 25 (Operand.tmp 13) (Operand.tmp 82), type := 0, pos := "law.go:138", after := #[{ on := 8, ground := Ground.data }, { on := 6, ground := Ground.data }, { on := 4, ground := Ground.chain }, { on := 0, ground := Ground.phase }, { on := 1, ground := Ground.phase }, { on := 2, ground := Ground.phase }, { on := 3, ground := Ground.phase }, { on := 4, ground := Ground.phase }, { on := 5, ground := Ground.phase }, { on := 6, ground := Ground.phase }, { on := 7, ground := Ground.textOnly Departure.lateStores }, { on := 8, ground := Ground.phase }], guard := none }) rfl (fun K hK => ?_) (AllReadyH.nil)
          go_simp
          skip
          refine hK.out _ _ ?_ (fun hHeld => ?_)
          · exact ⟨(Below.cell (p := ⟨w2.heap.size, 0, none⟩) (by repeat (first | exact HR.out | refine bl_drewN ?_ _ | refine bl_drew ?_ | refine bl_alloc ?_ _ | refine Below.setCell ?_ (by first | exact Nat.le_refl _ | exact hs_wx | exact hs_wy | exact hs_wz) _)) (World.block_lt_of_cell? w17 _ K0.out)).trans K0.out, (Below.cell (p := ⟨w2.heap.size, 1, none⟩) (by repeat (first | exact HR.out | refine bl_drewN ?_ _ | refine bl_drew ?_ | refine bl_alloc ?_ _ | refine Below.setCell ?_ (by first | exact Nat.le_refl _ | exact hs_wx | exact hs_wy | exact hs_wz) _)) (World.block_lt_of_cell? w17 _ K1.out)).trans K1.out, (Below.cell (p := ⟨w4.heap.size, 0, none⟩) (by repeat (first | exact HR.out | refine bl_drewN ?_ _ | refine bl_drew ?_ | refine bl_alloc ?_ _ | refine Below.setCell ?_ (by first | exact Nat.le_refl _ | exact hs_wx | exact hs_wy | exact hs_wz) _)) (World.block_lt_of_cell? w17 _ K2.out)).trans K2.out, (Below.cell (p := ⟨w4.heap.size, 1, none⟩) (by repeat (first | exact HR.out | refine bl_drewN ?_ _ | refine bl_drew ?_ | refine bl_alloc ?_ _ | refine Below.setCell ?_ (by first | exact Nat.le_refl _ | exact hs_wx | exact hs_wy | exact hs_wz) _)) (World.block_lt_of_cell? w17 _ K3.out)).trans K3.out⟩
          clear hK K
          try simp only [Act.put, List.setIfInBounds_toArray, List.set_cons_zero, List.set_cons_succ]
          refine wpAnyH_take (i := 10) (oi := { dst := some 8, op := Op.assign (Operand.tmp 83), type := 33, pos := "law.go:138", after := #[{ on := 7, ground := Ground.data }, { on := 9, ground := Ground.chain }, { on := 0, ground := Ground.phase }, { on := 1, ground := Ground.phase }, { on := 2, ground := Ground.phase }, { on := 3, ground := Ground.phase }, { on := 4, ground := Ground.phase }, { on := 5, ground := Ground.phase }, { on := 6, ground := Ground.phase }, { on := 7, ground := Ground.phase }, { on := 8, ground := Ground.phase }, { on := 9, ground := Ground.phase }], guard := none }) (v := ?_) rfl (by kernel_rfl) (by kernel_rfl) (by kernel_rfl) (fun _ _ _ h => h) (Or.inl ⟨by rfl, ?_⟩) (by assumption) ?_
          rotate_left
          · intro w_ hSw
            (try dsimp only at hSw)
            go_simp
            first | done | with_reducible rfl
          try simp only [Act.put, List.setIfInBounds_toArray, List.set_cons_zero, List.set_cons_succ]
          refine wpAnyH_done (by kernel_rfl) ?_ _
          go_wp2_with fail
          go_meet
          first
            | exact ⟨_, _, _, _, _, rfl, rfl, (by first | exact Nat.le_refl _ | exact hs_wx | exact hs_wy | exact hs_wz), Lib.hid (GR.Blk.new _ _ _), Lib.hid (OwnS.below TZ.out (by repeat (first | exact Below.refl _ _ | refine bl_drewN ?_ _ | refine bl_drew ?_ | refine bl_alloc ?_ _))), Lib.hid (by repeat (first | exact HR.out | refine bl_drewN ?_ _ | refine bl_drew ?_ | refine bl_alloc ?_ _ | refine Below.setCell ?_ (by first | exact Nat.le_refl _ | exact hs_wx | exact hs_wy | exact hs_wz) _))⟩
            | exact ⟨_, _, _, _, _, rfl, rfl, (by first | exact Nat.le_refl _ | exact hs_wx | exact hs_wy | exact hs_wz), Lib.hid (st_put (OwnS.below TZ.out (by repeat (first | exact Below.refl _ _ | refine bl_drewN ?_ _ | refine bl_drew ?_ | refine bl_alloc ?_ _))) (new_at _ _ _ rfl)).2, Lib.hid (st_put (OwnS.below TZ.out (by repeat (first | exact Below.refl _ _ | refine bl_drewN ?_ _ | refine bl_drew ?_ | refine bl_alloc ?_ _))) (new_at _ _ _ rfl)).1, Lib.hid (by repeat (first | exact HR.out | refine bl_drewN ?_ _ | refine bl_drew ?_ | refine bl_alloc ?_ _ | refine Below.setCell ?_ (by first | exact Nat.le_refl _ | exact hs_wx | exact hs_wy | exact hs_wz) _))⟩
        · skip
          go_simp
          skip
          refine hK.out _ _ ?_ (fun hHeld => ?_)
          · exact ⟨(Below.cell (p := ⟨w2.heap.size, 0, none⟩) (by repeat (first | exact HR.out | refine bl_drewN ?_ _ | refine bl_drew ?_ | refine bl_alloc ?_ _ | refine Below.setCell ?_ (by first | exact Nat.le_refl _ | exact hs_wx | exact hs_wy | exact hs_wz) _)) (World.block_lt_of_cell? w17 _ K0.out)).trans K0.out, (Below.cell (p := ⟨w2.heap.size, 1, none⟩) (by repeat (first | exact HR.out | refine bl_drewN ?_ _ | refine bl_drew ?_ | refine bl_alloc ?_ _ | refine Below.setCell ?_ (by first | exact Nat.le_refl _ | exact hs_wx | exact hs_wy | exact hs_wz) _)) (World.block_lt_of_cell? w17 _ K1.out)).trans K1.out, (Below.cell (p := ⟨w4.heap.size, 0, none⟩) (by repeat (first | exact HR.out | refine bl_drewN ?_ _ | refine bl_drew ?_ | refine bl_alloc ?_ _ | refine Below.setCell ?_ (by first | exact Nat.le_refl _ | exact hs_wx | exact hs_wy | exact hs_wz) _)) (World.block_lt_of_cell? w17 _ K2.out)).trans K2.out, (Below.cell (p := ⟨w4.heap.size, 1, none⟩) (by repeat (first | exact HR.out | refine bl_drewN ?_ _ | refine bl_drew ?_ | refine bl_alloc ?_ _ | refine Below.setCell ?_ (by first | exact Nat.le_refl _ | exact hs_wx | exact hs_wy | exact hs_wz) _)) (World.block_lt_of_cell? w17 _ K3.out)).trans K3.out⟩
          clear hK K
          try simp only [Act.put, List.setIfInBounds_toArray, List.set_cons_zero, List.set_cons_succ]
          refine wpAnyH_ready (rs := [4]) (by kernel_rfl) (by simp) ?_
          refine AllReadyH.cons (o := { dst := some 81, op := Op.call { callee := Callee.value (Operand.func 19), args := #[Operand.tmp 78, Operand.tmp 80], argTypes := #[25, 25] }, type := 40, pos := "law.go:138", after := #[{ on := 1, ground := Ground.data }, { on := 3, ground := Ground.data }, { on := 3, ground := Ground.chain }], guard := none }) rfl (fun K hK => ?_) (AllReadyH.nil)
          go_simp
          go_at_call 19
          refine (refJoin_at _ _ _ _ _ _ _ _ _ _ _ _ a' b' l' m' _ ((GR.Own.rd (OwnS.d (OwnS.below (w := wy) Tx.out (by repeat (first | exact Below.refl _ _ | refine bl_drewN ?_ _ | refine bl_drew ?_ | refine bl_alloc ?_ _)))) bxd).2.2) ((GR.Own.rd (OwnS.s (OwnS.below (w := wy) Tx.out (by repeat (first | exact Below.refl _ _ | refine bl_drewN ?_ _ | refine bl_drew ?_ | refine bl_alloc ?_ _)))) bxs).2.2) ((GR.Own.rd (OwnS.d (OwnS.below (w := wy) Ty.out (by repeat (first | exact Below.refl _ _ | refine bl_drewN ?_ _ | refine bl_drew ?_ | refine bl_alloc ?_ _)))) byd).2.2) ((GR.Own.rd (OwnS.s (OwnS.below (w := wy) Ty.out (by repeat (first | exact Below.refl _ _ | refine bl_drewN ?_ _ | refine bl_drew ?_ | refine bl_alloc ?_ _)))) bys).2.2) rfl rfl rfl rfl NA'.out NL'.out NB'.out NM'.out).mono ?_
          rintro e wz ⟨v1, v2, rfl, ho, hb2⟩
          obtain ⟨Az1, nz1, kz1, rfl⟩ := own_slice ho.d jc1
          obtain ⟨Az2, nz2, kz2, rfl⟩ := own_slice ho.s jc2
          obtain rfl : nz1 = (joinA a' l' b' m').length := own_n' ho.d
          obtain rfl : nz2 = (joinL a' l' b' m').length := own_n' ho.s
          have T_ := Lib.hid (OwnS.below (OwnS.below (w := wy) Tx.out (by repeat (first | exact Below.refl _ _ | refine bl_drewN ?_ _ | refine bl_drew ?_ | refine bl_alloc ?_ _))) hb2)
          clear Tx
          have Tx := T_
          clear T_
          have T_ := Lib.hid (OwnS.below (OwnS.below (w := wy) Ty.out (by repeat (first | exact Below.refl _ _ | refine bl_drewN ?_ _ | refine bl_drew ?_ | refine bl_alloc ?_ _))) hb2)
          clear Ty
          have Ty := T_
          clear T_
          have BK := Lib.hid (blk_new (H := wy.heap.size) rfl hb2)
          have TZ := Lib.hid (OwnS.base (B' := w17.heap.size) ho (Below.size (w := w17) (by repeat (first | exact HR.out | refine bl_drewN ?_ _ | refine bl_drew ?_ | refine bl_alloc ?_ _))))
          clear ho
          have N_ := Lib.hid (bl_then (w := w17) (by repeat (first | exact HR.out | refine bl_drewN ?_ _ | refine bl_drew ?_ | refine bl_alloc ?_ _)) hb2)
          clear hb2 HR
          have HR := N_
          clear N_
          have hs_wz : w17.heap.size ≤ wz.heap.size := HR.out.size
          refine hK.out _ _ ?_ (fun hHeld => ?_)
          · exact ⟨(Below.cell (p := ⟨w2.heap.size, 0, none⟩) (by repeat (first | exact HR.out | refine bl_drewN ?_ _ | refine bl_drew ?_ | refine bl_alloc ?_ _ | refine Below.setCell ?_ (by first | exact Nat.le_refl _ | exact hs_wx | exact hs_wy | exact hs_wz) _)) (World.block_lt_of_cell? w17 _ K0.out)).trans K0.out, (Below.cell (p := ⟨w2.heap.size, 1, none⟩) (by repeat (first | exact HR.out | refine bl_drewN ?_ _ | refine bl_drew ?_ | refine bl_alloc ?_ _ | refine Below.setCell ?_ (by first | exact Nat.le_refl _ | exact hs_wx | exact hs_wy | exact hs_wz) _)) (World.block_lt_of_cell? w17 _ K1.out)).trans K1.out, (Below.cell (p := ⟨w4.heap.size, 0, none⟩) (by repeat (first | exact HR.out | refine bl_drewN ?_ _ | refine bl_drew ?_ | refine bl_alloc ?_ _ | refine Below.setCell ?_ (by first | exact Nat.le_refl _ | exact hs_wx | exact hs_wy | exact hs_wz) _)) (World.block_lt_of_cell? w17 _ K2.out)).trans K2.out, (Below.cell (p := ⟨w4.heap.size, 1, none⟩) (by repeat (first | exact HR.out | refine bl_drewN ?_ _ | refine bl_drew ?_ | refine bl_alloc ?_ _ | refine Below.setCell ?_ (by first | exact Nat.le_refl _ | exact hs_wx | exact hs_wy | exact hs_wz) _)) (World.block_lt_of_cell? w17 _ K3.out)).trans K3.out⟩
          clear hK K
          try simp only [Act.put, List.setIfInBounds_toArray, List.set_cons_zero, List.set_cons_succ]
          refine wpAnyH_take (i := 5) (oi := { dst := some 76, op := Op.move (Operand.tmp 81), type := 40, pos := "law.go:138", after := #[{ on := 4, ground := Ground.data }], guard := none }) (v := ?_) rfl (by kernel_rfl) (by kernel_rfl) (by kernel_rfl) (fun _ _ _ h => h) (Or.inl ⟨by rfl, ?_⟩) (by assumption) ?_
          rotate_left
          · intro w_ hSw
            (try dsimp only at hSw)
            go_simp
            first | done | with_reducible rfl
          try simp only [Act.put, List.setIfInBounds_toArray, List.set_cons_zero, List.set_cons_succ]
          refine wpAnyH_take (i := 6) (oi := { dst := some 82, op := Op.extract (Operand.tmp 76) 0, type := 25, pos := "law.go:138", after := #[{ on := 5, ground := Ground.data }], guard := none }) (v := ?_) rfl (by kernel_rfl) (by kernel_rfl) (by kernel_rfl) (fun _ _ _ h => h) (Or.inl ⟨by rfl, ?_⟩) (by assumption) ?_
          rotate_left
          · intro w_ hSw
            (try dsimp only at hSw)
            go_simp
            first | done | with_reducible rfl
          try simp only [Act.put, List.setIfInBounds_toArray, List.set_cons_zero, List.set_cons_succ]
          refine wpAnyH_take (i := 7) (oi := { dst := some 83, op := Op.extract (Operand.tmp 76) 1, type := 33, pos := "law.go:138", after := #[{ on := 5, ground := Ground.data }, { on := 9, ground := Ground.gcOnly Departure.lateStores }], guard := none }) (v := ?_) rfl (by kernel_rfl) (by kernel_rfl) (by kernel_rfl) (fun _ _ _ h => h) (Or.inl ⟨by rfl, ?_⟩) (by assumption) ?_
          rotate_left
          · intro w_ hSw
            (try dsimp only at hSw)
            go_simp
            first | done | with_reducible rfl
          try simp only [Act.put, List.setIfInBounds_toArray, List.set_cons_zero, List.set_cons_succ]
          refine wpAnyH_ready (rs := [9]) (by kernel_rfl) (by simp) ?_
          refine AllReadyH.cons (o := { dst := none, op := Op.store 25 (Operand.tmp 13) (Operand.tmp 82), type := 0, pos := "law.go:138", after := #[{ on := 8, ground := Ground.data }, { on := 6, ground := Ground.data }, { on := 4, ground := Ground.chain }, { on := 0, ground := Ground.phase }, { on := 1, ground := Ground.phase }, { on := 2, ground := Ground.phase }, { on := 3, ground := Ground.phase }, { on := 4, ground := Ground.phase }, { on := 5, ground := Ground.phase }, { on := 6, ground := Ground.phase }, { on := 7, ground := Ground.textOnly Departure.lateStores }, { on := 8, ground := Ground.phase }], guard := none }) rfl (fun K hK => ?_) (AllReadyH.nil)
          have k0 := BK.out.cell 0
          have k1 := BK.out.cell 1
          have kf0 := BK.out.frozen 0
          have kf1 := BK.out.frozen 1
          go_simp
          refine hK.out _ _ ?_ (fun hHeld => ?_)
          · exact ⟨(Below.cell (p := ⟨w2.heap.size, 0, none⟩) (by repeat (first | exact HR.out | refine bl_drewN ?_ _ | refine bl_drew ?_ | refine bl_alloc ?_ _ | refine Below.setCell ?_ (by first | exact Nat.le_refl _ | exact hs_wx | exact hs_wy | exact hs_wz) _)) (World.block_lt_of_cell? w17 _ K0.out)).trans K0.out, (Below.cell (p := ⟨w2.heap.size, 1, none⟩) (by repeat (first | exact HR.out | refine bl_drewN ?_ _ | refine bl_drew ?_ | refine bl_alloc ?_ _ | refine Below.setCell ?_ (by first | exact Nat.le_refl _ | exact hs_wx | exact hs_wy | exact hs_wz) _)) (World.block_lt_of_cell? w17 _ K1.out)).trans K1.out, (Below.cell (p := ⟨w4.heap.size, 0, none⟩) (by repeat (first | exact HR.out | refine bl_drewN ?_ _ | refine bl_drew ?_ | refine bl_alloc ?_ _ | refine Below.setCell ?_ (by first | exact Nat.le_refl _ | exact hs_wx | exact hs_wy | exact hs_wz) _)) (World.block_lt_of_cell? w17 _ K2.out)).trans K2.out, (Below.cell (p := ⟨w4.heap.size, 1, none⟩) (by repeat (first | exact HR.out | refine bl_drewN ?_ _ | refine bl_drew ?_ | refine bl_alloc ?_ _ | refine Below.setCell ?_ (by first | exact Nat.le_refl _ | exact hs_wx | exact hs_wy | exact hs_wz) _)) (World.block_lt_of_cell? w17 _ K3.out)).trans K3.out⟩
          clear hK K
          try simp only [Act.put, List.setIfInBounds_toArray, List.set_cons_zero, List.set_cons_succ]
          refine wpAnyH_take (i := 10) (oi := { dst := some 8, op := Op.assign (Operand.tmp 83), type := 33, pos := "law.go:138", after := #[{ on := 7, ground := Ground.data }, { on := 9, ground := Ground.chain }, { on := 0, ground := Ground.phase }, { on := 1, ground := Ground.phase }, { on := 2, ground := Ground.phase }, { on := 3, ground := Ground.phase }, { on := 4, ground := Ground.phase }, { on := 5, ground := Ground.phase }, { on := 6, ground := Ground.phase }, { on := 7, ground := Ground.phase }, { on := 8, ground := Ground.phase }, { on := 9, ground := Ground.phase }], guard := none }) (v := ?_) rfl (by kernel_rfl) (by kernel_rfl) (by kernel_rfl) (fun _ _ _ h => h) (Or.inl ⟨by rfl, ?_⟩) (by assumption) ?_
          rotate_left
          · intro w_ hSw
            (try dsimp only at hSw)
            go_simp
            first | done | with_reducible rfl
          try simp only [Act.put, List.setIfInBounds_toArray, List.set_cons_zero, List.set_cons_succ]
          refine wpAnyH_done (by kernel_rfl) ?_ _
          go_wp2_with fail
          go_meet
          exact ⟨_, _, _, _, _, rfl, rfl, (by first | exact Nat.le_refl _ | exact hs_wx | exact hs_wy | exact hs_wz), Lib.hid (st_put TZ.out BK.out).2, Lib.hid (st_put TZ.out BK.out).1, Lib.hid (by repeat (first | exact HR.out | refine bl_drewN ?_ _ | refine bl_drew ?_ | refine bl_alloc ?_ _ | refine Below.setCell ?_ (by first | exact Nat.le_refl _ | exact hs_wx | exact hs_wy | exact hs_wz) _))⟩
      · skip
        go_simp
        skip
        refine hK.out _ _ ?_ (fun hHeld => ?_)
        · exact ⟨(Below.cell (p := ⟨w2.heap.size, 0, none⟩) (by repeat (first | exact HR.out | refine bl_drewN ?_ _ | refine bl_drew ?_ | refine bl_alloc ?_ _ | refine Below.setCell ?_ (by first | exact Nat.le_refl _ | exact hs_wx | exact hs_wy | exact hs_wz) _)) (World.block_lt_of_cell? w17 _ K0.out)).trans K0.out, (Below.cell (p := ⟨w2.heap.size, 1, none⟩) (by repeat (first | exact HR.out | refine bl_drewN ?_ _ | refine bl_drew ?_ | refine bl_alloc ?_ _ | refine Below.setCell ?_ (by first | exact Nat.le_refl _ | exact hs_wx | exact hs_wy | exact hs_wz) _)) (World.block_lt_of_cell? w17 _ K1.out)).trans K1.out, (Below.cell (p := ⟨w4.heap.size, 0, none⟩) (by repeat (first | exact HR.out | refine bl_drewN ?_ _ | refine bl_drew ?_ | refine bl_alloc ?_ _ | refine Below.setCell ?_ (by first | exact Nat.le_refl _ | exact hs_wx | exact hs_wy | exact hs_wz) _)) (World.block_lt_of_cell? w17 _ K2.out)).trans K2.out, (Below.cell (p := ⟨w4.heap.size, 1, none⟩) (by repeat (first | exact HR.out | refine bl_drewN ?_ _ | refine bl_drew ?_ | refine bl_alloc ?_ _ | refine Below.setCell ?_ (by first | exact Nat.le_refl _ | exact hs_wx | exact hs_wy | exact hs_wz) _)) (World.block_lt_of_cell? w17 _ K3.out)).trans K3.out⟩
        clear hK K
        try simp only [Act.put, List.setIfInBounds_toArray, List.set_cons_zero, List.set_cons_succ]
        refine wpAnyH_ready (rs := [3]) (by kernel_rfl) (by simp) ?_
        refine AllReadyH.cons (o := { dst := some 80, op := Op.call { callee := Callee.value (Operand.func 18), args := #[Operand.tmp 79], argTypes := #[25] }, type := 25, pos := "law.go:138", after := #[{ on := 2, ground := Ground.data }, { on := 1, ground := Ground.chain }], guard := none }) rfl (fun K hK => ?_) (AllReadyH.nil)
        go_simp
        go_at_call 18
        refine (twin_at _ _ _ _ _ _ b' m' _ (GR.Rd.below RYd.out (by repeat (first | exact HR.out | refine bl_drewN ?_ _ | refine bl_drew ?_ | refine bl_alloc ?_ _))) (GR.Rd.below RYs.out (by repeat (first | exact HR.out | refine bl_drewN ?_ _ | refine bl_drew ?_ | refine bl_alloc ?_ _))) EL3.out.symm EL4.out.symm).mono ?_
        rintro e wy ⟨v1, v2, rfl, ho, hb2⟩
        obtain ⟨Ay1, ny1, ky1, rfl⟩ := own_slice ho.d byd
        obtain ⟨Ay2, ny2, ky2, rfl⟩ := own_slice ho.s bys
        obtain rfl : ny1 = b'.length := own_n' ho.d
        obtain rfl : ny2 = m'.length := own_n' ho.s
        have T_ := Lib.hid (OwnS.below (OwnS.below (w := wx) Tx.out (by repeat (first | exact Below.refl _ _ | refine bl_drewN ?_ _ | refine bl_drew ?_ | refine bl_alloc ?_ _))) hb2)
        clear Tx
        have Tx := T_
        clear T_
        have BK := Lib.hid (blk_new (H := wx.heap.size) rfl hb2)
        have Ty := Lib.hid (OwnS.base (B' := w17.heap.size) ho (Below.size (w := w17) (by repeat (first | exact HR.out | refine bl_drewN ?_ _ | refine bl_drew ?_ | refine bl_alloc ?_ _))))
        clear ho
        have N_ := Lib.hid (bl_then (w := w17) (by repeat (first | exact HR.out | refine bl_drewN ?_ _ | refine bl_drew ?_ | refine bl_alloc ?_ _)) hb2)
        clear hb2 HR
        have HR := N_
        clear N_
        have hs_wy : w17.heap.size ≤ wy.heap.size := HR.out.size
        refine hK.out _ _ ?_ (fun hHeld => ?_)
        · exact ⟨(Below.cell (p := ⟨w2.heap.size, 0, none⟩) (by repeat (first | exact HR.out | refine bl_drewN ?_ _ | refine bl_drew ?_ | refine bl_alloc ?_ _ | refine Below.setCell ?_ (by first | exact Nat.le_refl _ | exact hs_wx | exact hs_wy | exact hs_wz) _)) (World.block_lt_of_cell? w17 _ K0.out)).trans K0.out, (Below.cell (p := ⟨w2.heap.size, 1, none⟩) (by repeat (first | exact HR.out | refine bl_drewN ?_ _ | refine bl_drew ?_ | refine bl_alloc ?_ _ | refine Below.setCell ?_ (by first | exact Nat.le_refl _ | exact hs_wx | exact hs_wy | exact hs_wz) _)) (World.block_lt_of_cell? w17 _ K1.out)).trans K1.out, (Below.cell (p := ⟨w4.heap.size, 0, none⟩) (by repeat (first | exact HR.out | refine bl_drewN ?_ _ | refine bl_drew ?_ | refine bl_alloc ?_ _ | refine Below.setCell ?_ (by first | exact Nat.le_refl _ | exact hs_wx | exact hs_wy | exact hs_wz) _)) (World.block_lt_of_cell? w17 _ K2.out)).trans K2.out, (Below.cell (p := ⟨w4.heap.size, 1, none⟩) (by repeat (first | exact HR.out | refine bl_drewN ?_ _ | refine bl_drew ?_ | refine bl_alloc ?_ _ | refine Below.setCell ?_ (by first | exact Nat.le_refl _ | exact hs_wx | exact hs_wy | exact hs_wz) _)) (World.block_lt_of_cell? w17 _ K3.out)).trans K3.out⟩
        clear hK K
        try simp only [Act.put, List.setIfInBounds_toArray, List.set_cons_zero, List.set_cons_succ]
        refine wpAnyH_ready (rs := [4]) (by kernel_rfl) (by simp) ?_
        refine AllReadyH.cons (o := { dst := some 81, op := Op.call { callee := Callee.value (Operand.func 19), args := #[Operand.tmp 78, Operand.tmp 80], argTypes := #[25, 25] }, type := 40, pos := "law.go:138", after := #[{ on := 1, ground := Ground.data }, { on := 3, ground := Ground.data }, { on := 3, ground := Ground.chain }], guard := none }) rfl (fun K hK => ?_) (AllReadyH.nil)
        go_simp
        go_at_call 19
        refine (refJoin_at _ _ _ _ _ _ _ _ _ _ _ _ a' b' l' m' _ ((GR.Own.rd (OwnS.d (OwnS.below (w := wy) Tx.out (by repeat (first | exact Below.refl _ _ | refine bl_drewN ?_ _ | refine bl_drew ?_ | refine bl_alloc ?_ _)))) bxd).2.2) ((GR.Own.rd (OwnS.s (OwnS.below (w := wy) Tx.out (by repeat (first | exact Below.refl _ _ | refine bl_drewN ?_ _ | refine bl_drew ?_ | refine bl_alloc ?_ _)))) bxs).2.2) ((GR.Own.rd (OwnS.d (OwnS.below (w := wy) Ty.out (by repeat (first | exact Below.refl _ _ | refine bl_drewN ?_ _ | refine bl_drew ?_ | refine bl_alloc ?_ _)))) byd).2.2) ((GR.Own.rd (OwnS.s (OwnS.below (w := wy) Ty.out (by repeat (first | exact Below.refl _ _ | refine bl_drewN ?_ _ | refine bl_drew ?_ | refine bl_alloc ?_ _)))) bys).2.2) rfl rfl rfl rfl NA'.out NL'.out NB'.out NM'.out).mono ?_
        rintro e wz ⟨v1, v2, rfl, ho, hb2⟩
        obtain ⟨Az1, nz1, kz1, rfl⟩ := own_slice ho.d jc1
        obtain ⟨Az2, nz2, kz2, rfl⟩ := own_slice ho.s jc2
        obtain rfl : nz1 = (joinA a' l' b' m').length := own_n' ho.d
        obtain rfl : nz2 = (joinL a' l' b' m').length := own_n' ho.s
        have T_ := Lib.hid (OwnS.below (OwnS.below (w := wy) Tx.out (by repeat (first | exact Below.refl _ _ | refine bl_drewN ?_ _ | refine bl_drew ?_ | refine bl_alloc ?_ _))) hb2)
        clear Tx
        have Tx := T_
        clear T_
        have T_ := Lib.hid (OwnS.below (OwnS.below (w := wy) Ty.out (by repeat (first | exact Below.refl _ _ | refine bl_drewN ?_ _ | refine bl_drew ?_ | refine bl_alloc ?_ _))) hb2)
        clear Ty
        have Ty := T_
        clear T_
        have BK_ := Lib.hid (GR.Blk.below BK.out hb2 BK.out.lt)
        clear BK
        have BK := BK_
        clear BK_
        have TZ := Lib.hid (OwnS.base (B' := w17.heap.size) ho (Below.size (w := w17) (by repeat (first | exact HR.out | refine bl_drewN ?_ _ | refine bl_drew ?_ | refine bl_alloc ?_ _))))
        clear ho
        have N_ := Lib.hid (bl_then (w := w17) (by repeat (first | exact HR.out | refine bl_drewN ?_ _ | refine bl_drew ?_ | refine bl_alloc ?_ _)) hb2)
        clear hb2 HR
        have HR := N_
        clear N_
        have hs_wz : w17.heap.size ≤ wz.heap.size := HR.out.size
        refine hK.out _ _ ?_ (fun hHeld => ?_)
        · exact ⟨(Below.cell (p := ⟨w2.heap.size, 0, none⟩) (by repeat (first | exact HR.out | refine bl_drewN ?_ _ | refine bl_drew ?_ | refine bl_alloc ?_ _ | refine Below.setCell ?_ (by first | exact Nat.le_refl _ | exact hs_wx | exact hs_wy | exact hs_wz) _)) (World.block_lt_of_cell? w17 _ K0.out)).trans K0.out, (Below.cell (p := ⟨w2.heap.size, 1, none⟩) (by repeat (first | exact HR.out | refine bl_drewN ?_ _ | refine bl_drew ?_ | refine bl_alloc ?_ _ | refine Below.setCell ?_ (by first | exact Nat.le_refl _ | exact hs_wx | exact hs_wy | exact hs_wz) _)) (World.block_lt_of_cell? w17 _ K1.out)).trans K1.out, (Below.cell (p := ⟨w4.heap.size, 0, none⟩) (by repeat (first | exact HR.out | refine bl_drewN ?_ _ | refine bl_drew ?_ | refine bl_alloc ?_ _ | refine Below.setCell ?_ (by first | exact Nat.le_refl _ | exact hs_wx | exact hs_wy | exact hs_wz) _)) (World.block_lt_of_cell? w17 _ K2.out)).trans K2.out, (Below.cell (p := ⟨w4.heap.size, 1, none⟩) (by repeat (first | exact HR.out | refine bl_drewN ?_ _ | refine bl_drew ?_ | refine bl_alloc ?_ _ | refine Below.setCell ?_ (by first | exact Nat.le_refl _ | exact hs_wx | exact hs_wy | exact hs_wz) _)) (World.block_lt_of_cell? w17 _ K3.out)).trans K3.out⟩
        clear hK K
        try simp only [Act.put, List.setIfInBounds_toArray, List.set_cons_zero, List.set_cons_succ]
        refine wpAnyH_take (i := 5) (oi := { dst := some 76, op := Op.move (Operand.tmp 81), type := 40, pos := "law.go:138", after := #[{ on := 4, ground := Ground.data }], guard := none }) (v := ?_) rfl (by kernel_rfl) (by kernel_rfl) (by kernel_rfl) (fun _ _ _ h => h) (Or.inl ⟨by rfl, ?_⟩) (by assumption) ?_
        rotate_left
        · intro w_ hSw
          (try dsimp only at hSw)
          go_simp
          first | done | with_reducible rfl
        try simp only [Act.put, List.setIfInBounds_toArray, List.set_cons_zero, List.set_cons_succ]
        refine wpAnyH_take (i := 6) (oi := { dst := some 82, op := Op.extract (Operand.tmp 76) 0, type := 25, pos := "law.go:138", after := #[{ on := 5, ground := Ground.data }], guard := none }) (v := ?_) rfl (by kernel_rfl) (by kernel_rfl) (by kernel_rfl) (fun _ _ _ h => h) (Or.inl ⟨by rfl, ?_⟩) (by assumption) ?_
        rotate_left
        · intro w_ hSw
          (try dsimp only at hSw)
          go_simp
          first | done | with_reducible rfl
        try simp only [Act.put, List.setIfInBounds_toArray, List.set_cons_zero, List.set_cons_succ]
        refine wpAnyH_take (i := 7) (oi := { dst := some 83, op := Op.extract (Operand.tmp 76) 1, type := 33, pos := "law.go:138", after := #[{ on := 5, ground := Ground.data }, { on := 9, ground := Ground.gcOnly Departure.lateStores }], guard := none }) (v := ?_) rfl (by kernel_rfl) (by kernel_rfl) (by kernel_rfl) (fun _ _ _ h => h) (Or.inl ⟨by rfl, ?_⟩) (by assumption) ?_
        rotate_left
        · intro w_ hSw
          (try dsimp only at hSw)
          go_simp
          first | done | with_reducible rfl
        try simp only [Act.put, List.setIfInBounds_toArray, List.set_cons_zero, List.set_cons_succ]
        refine wpAnyH_ready (rs := [9]) (by kernel_rfl) (by simp) ?_
        refine AllReadyH.cons (o := { dst := none, op := Op.store 25 (Operand.tmp 13) (Operand.tmp 82), type := 0, pos := "law.go:138", after := #[{ on := 8, ground := Ground.data }, { on := 6, ground := Ground.data }, { on := 4, ground := Ground.chain }, { on := 0, ground := Ground.phase }, { on := 1, ground := Ground.phase }, { on := 2, ground := Ground.phase }, { on := 3, ground := Ground.phase }, { on := 4, ground := Ground.phase }, { on := 5, ground := Ground.phase }, { on := 6, ground := Ground.phase }, { on := 7, ground := Ground.textOnly Departure.lateStores }, { on := 8, ground := Ground.phase }], guard := none }) rfl (fun K hK => ?_) (AllReadyH.nil)
        have k0 := BK.out.cell 0
        have k1 := BK.out.cell 1
        have kf0 := BK.out.frozen 0
        have kf1 := BK.out.frozen 1
        go_simp
        refine hK.out _ _ ?_ (fun hHeld => ?_)
        · exact ⟨(Below.cell (p := ⟨w2.heap.size, 0, none⟩) (by repeat (first | exact HR.out | refine bl_drewN ?_ _ | refine bl_drew ?_ | refine bl_alloc ?_ _ | refine Below.setCell ?_ (by first | exact Nat.le_refl _ | exact hs_wx | exact hs_wy | exact hs_wz) _)) (World.block_lt_of_cell? w17 _ K0.out)).trans K0.out, (Below.cell (p := ⟨w2.heap.size, 1, none⟩) (by repeat (first | exact HR.out | refine bl_drewN ?_ _ | refine bl_drew ?_ | refine bl_alloc ?_ _ | refine Below.setCell ?_ (by first | exact Nat.le_refl _ | exact hs_wx | exact hs_wy | exact hs_wz) _)) (World.block_lt_of_cell? w17 _ K1.out)).trans K1.out, (Below.cell (p := ⟨w4.heap.size, 0, none⟩) (by repeat (first | exact HR.out | refine bl_drewN ?_ _ | refine bl_drew ?_ | refine bl_alloc ?_ _ | refine Below.setCell ?_ (by first | exact Nat.le_refl _ | exact hs_wx | exact hs_wy | exact hs_wz) _)) (World.block_lt_of_cell? w17 _ K2.out)).trans K2.out, (Below.cell (p := ⟨w4.heap.size, 1, none⟩) (by repeat (first | exact HR.out | refine bl_drewN ?_ _ | refine bl_drew ?_ | refine bl_alloc ?_ _ | refine Below.setCell ?_ (by first | exact Nat.le_refl _ | exact hs_wx | exact hs_wy | exact hs_wz) _)) (World.block_lt_of_cell? w17 _ K3.out)).trans K3.out⟩
        clear hK K
        try simp only [Act.put, List.setIfInBounds_toArray, List.set_cons_zero, List.set_cons_succ]
        refine wpAnyH_take (i := 10) (oi := { dst := some 8, op := Op.assign (Operand.tmp 83), type := 33, pos := "law.go:138", after := #[{ on := 7, ground := Ground.data }, { on := 9, ground := Ground.chain }, { on := 0, ground := Ground.phase }, { on := 1, ground := Ground.phase }, { on := 2, ground := Ground.phase }, { on := 3, ground := Ground.phase }, { on := 4, ground := Ground.phase }, { on := 5, ground := Ground.phase }, { on := 6, ground := Ground.phase }, { on := 7, ground := Ground.phase }, { on := 8, ground := Ground.phase }, { on := 9, ground := Ground.phase }], guard := none }) (v := ?_) rfl (by kernel_rfl) (by kernel_rfl) (by kernel_rfl) (fun _ _ _ h => h) (Or.inl ⟨by rfl, ?_⟩) (by assumption) ?_
        rotate_left
        · intro w_ hSw
          (try dsimp only at hSw)
          go_simp
          first | done | with_reducible rfl
        try simp only [Act.put, List.setIfInBounds_toArray, List.set_cons_zero, List.set_cons_succ]
        refine wpAnyH_done (by kernel_rfl) ?_ _
        go_wp2_with fail
        go_meet
        exact ⟨_, _, _, _, _, rfl, rfl, (by first | exact Nat.le_refl _ | exact hs_wx | exact hs_wy | exact hs_wz), Lib.hid (st_put TZ.out BK.out).2, Lib.hid (st_put TZ.out BK.out).1, Lib.hid (by repeat (first | exact HR.out | refine bl_drewN ?_ _ | refine bl_drew ?_ | refine bl_alloc ?_ _ | refine Below.setCell ?_ (by first | exact Nat.le_refl _ | exact hs_wx | exact hs_wy | exact hs_wz) _))⟩
    · skip
      go_simp
      skip
      refine hK.out _ _ ?_ (fun hHeld => ?_)
      · exact ⟨(Below.cell (p := ⟨w2.heap.size, 0, none⟩) (by repeat (first | exact HR.out | refine bl_drewN ?_ _ | refine bl_drew ?_ | refine bl_alloc ?_ _ | refine Below.setCell ?_ (by first | exact Nat.le_refl _ | exact hs_wx | exact hs_wy | exact hs_wz) _)) (World.block_lt_of_cell? w17 _ K0.out)).trans K0.out, (Below.cell (p := ⟨w2.heap.size, 1, none⟩) (by repeat (first | exact HR.out | refine bl_drewN ?_ _ | refine bl_drew ?_ | refine bl_alloc ?_ _ | refine Below.setCell ?_ (by first | exact Nat.le_refl _ | exact hs_wx | exact hs_wy | exact hs_wz) _)) (World.block_lt_of_cell? w17 _ K1.out)).trans K1.out, (Below.cell (p := ⟨w4.heap.size, 0, none⟩) (by repeat (first | exact HR.out | refine bl_drewN ?_ _ | refine bl_drew ?_ | refine bl_alloc ?_ _ | refine Below.setCell ?_ (by first | exact Nat.le_refl _ | exact hs_wx | exact hs_wy | exact hs_wz) _)) (World.block_lt_of_cell? w17 _ K2.out)).trans K2.out, (Below.cell (p := ⟨w4.heap.size, 1, none⟩) (by repeat (first | exact HR.out | refine bl_drewN ?_ _ | refine bl_drew ?_ | refine bl_alloc ?_ _ | refine Below.setCell ?_ (by first | exact Nat.le_refl _ | exact hs_wx | exact hs_wy | exact hs_wz) _)) (World.block_lt_of_cell? w17 _ K3.out)).trans K3.out⟩
      clear hK K
      try simp only [Act.put, List.setIfInBounds_toArray, List.set_cons_zero, List.set_cons_succ]
      refine wpAnyH_ready (rs := [1]) (by kernel_rfl) (by simp) ?_
      refine AllReadyH.cons (o := { dst := some 78, op := Op.call { callee := Callee.value (Operand.func 18), args := #[Operand.tmp 77], argTypes := #[25] }, type := 25, pos := "law.go:138", after := #[{ on := 0, ground := Ground.data }], guard := none }) rfl (fun K hK => ?_) (AllReadyH.nil)
      go_simp
      go_at_call 18
      refine (twin_at _ _ _ _ _ _ a' l' _ (GR.Rd.below RXd.out (by repeat (first | exact HR.out | refine bl_drewN ?_ _ | refine bl_drew ?_ | refine bl_alloc ?_ _))) (GR.Rd.below RXs.out (by repeat (first | exact HR.out | refine bl_drewN ?_ _ | refine bl_drew ?_ | refine bl_alloc ?_ _))) EL.out.symm EL2.out.symm).mono ?_
      rintro e wx ⟨v1, v2, rfl, ho, hb2⟩
      obtain ⟨Ax1, nx1, kx1, rfl⟩ := own_slice ho.d bxd
      obtain ⟨Ax2, nx2, kx2, rfl⟩ := own_slice ho.s bxs
      obtain rfl : nx1 = a'.length := own_n' ho.d
      obtain rfl : nx2 = l'.length := own_n' ho.s
      have BK := Lib.hid (blk_newD (H := w17.heap.size) rfl hb2)
      have Tx := Lib.hid (OwnS.base (B' := w17.heap.size) ho (Below.size (w := w17) (by repeat (first | exact HR.out | refine bl_drewN ?_ _ | refine bl_drew ?_ | refine bl_alloc ?_ _))))
      clear ho
      have N_ := Lib.hid (bl_then (w := w17) (by repeat (first | exact HR.out | refine bl_drewN ?_ _ | refine bl_drew ?_ | refine bl_alloc ?_ _)) hb2)
      clear hb2 HR
      have HR := N_
      clear N_
      have hs_wx : w17.heap.size ≤ wx.heap.size := HR.out.size
      refine hK.out _ _ ?_ (fun hHeld => ?_)
      · exact ⟨(Below.cell (p := ⟨w2.heap.size, 0, none⟩) (by repeat (first | exact HR.out | refine bl_drewN ?_ _ | refine bl_drew ?_ | refine bl_alloc ?_ _ | refine Below.setCell ?_ (by first | exact Nat.le_refl _ | exact hs_wx | exact hs_wy | exact hs_wz) _)) (World.block_lt_of_cell? w17 _ K0.out)).trans K0.out, (Below.cell (p := ⟨w2.heap.size, 1, none⟩) (by repeat (first | exact HR.out | refine bl_drewN ?_ _ | refine bl_drew ?_ | refine bl_alloc ?_ _ | refine Below.setCell ?_ (by first | exact Nat.le_refl _ | exact hs_wx | exact hs_wy | exact hs_wz) _)) (World.block_lt_of_cell? w17 _ K1.out)).trans K1.out, (Below.cell (p := ⟨w4.heap.size, 0, none⟩) (by repeat (first | exact HR.out | refine bl_drewN ?_ _ | refine bl_drew ?_ | refine bl_alloc ?_ _ | refine Below.setCell ?_ (by first | exact Nat.le_refl _ | exact hs_wx | exact hs_wy | exact hs_wz) _)) (World.block_lt_of_cell? w17 _ K2.out)).trans K2.out, (Below.cell (p := ⟨w4.heap.size, 1, none⟩) (by repeat (first | exact HR.out | refine bl_drewN ?_ _ | refine bl_drew ?_ | refine bl_alloc ?_ _ | refine Below.setCell ?_ (by first | exact Nat.le_refl _ | exact hs_wx | exact hs_wy | exact hs_wz) _)) (World.block_lt_of_cell? w17 _ K3.out)).trans K3.out⟩
      clear hK K
      try simp only [Act.put, List.setIfInBounds_toArray, List.set_cons_zero, List.set_cons_succ]
      refine wpAnyH_ready (rs := [3]) (by kernel_rfl) (by simp) ?_
      refine AllReadyH.cons (o := { dst := some 80, op := Op.call { callee := Callee.value (Operand.func 18), args := #[Operand.tmp 79], argTypes := #[25] }, type := 25, pos := "law.go:138", after := #[{ on := 2, ground := Ground.data }, { on := 1, ground := Ground.chain }], guard := none }) rfl (fun K hK => ?_) (AllReadyH.nil)
      go_simp
      go_at_call 18
      refine (twin_at _ _ _ _ _ _ b' m' _ (GR.Rd.below RYd.out (by repeat (first | exact HR.out | refine bl_drewN ?_ _ | refine bl_drew ?_ | refine bl_alloc ?_ _))) (GR.Rd.below RYs.out (by repeat (first | exact HR.out | refine bl_drewN ?_ _ | refine bl_drew ?_ | refine bl_alloc ?_ _))) EL3.out.symm EL4.out.symm).mono ?_
      rintro e wy ⟨v1, v2, rfl, ho, hb2⟩
      obtain ⟨Ay1, ny1, ky1, rfl⟩ := own_slice ho.d byd
      obtain ⟨Ay2, ny2, ky2, rfl⟩ := own_slice ho.s bys
      obtain rfl : ny1 = b'.length := own_n' ho.d
      obtain rfl : ny2 = m'.length := own_n' ho.s
      have T_ := Lib.hid (OwnS.below (OwnS.below (w := wx) Tx.out (by repeat (first | exact Below.refl _ _ | refine bl_drewN ?_ _ | refine bl_drew ?_ | refine bl_alloc ?_ _))) hb2)
      clear Tx
      have Tx := T_
      clear T_
      have BK_ := Lib.hid (GR.Blk.below BK.out hb2 BK.out.lt)
      clear BK
      have BK := BK_
      clear BK_
      have Ty := Lib.hid (OwnS.base (B' := w17.heap.size) ho (Below.size (w := w17) (by repeat (first | exact HR.out | refine bl_drewN ?_ _ | refine bl_drew ?_ | refine bl_alloc ?_ _))))
      clear ho
      have N_ := Lib.hid (bl_then (w := w17) (by repeat (first | exact HR.out | refine bl_drewN ?_ _ | refine bl_drew ?_ | refine bl_alloc ?_ _)) hb2)
      clear hb2 HR
      have HR := N_
      clear N_
      have hs_wy : w17.heap.size ≤ wy.heap.size := HR.out.size
      refine hK.out _ _ ?_ (fun hHeld => ?_)
      · exact ⟨(Below.cell (p := ⟨w2.heap.size, 0, none⟩) (by repeat (first | exact HR.out | refine bl_drewN ?_ _ | refine bl_drew ?_ | refine bl_alloc ?_ _ | refine Below.setCell ?_ (by first | exact Nat.le_refl _ | exact hs_wx | exact hs_wy | exact hs_wz) _)) (World.block_lt_of_cell? w17 _ K0.out)).trans K0.out, (Below.cell (p := ⟨w2.heap.size, 1, none⟩) (by repeat (first | exact HR.out | refine bl_drewN ?_ _ | refine bl_drew ?_ | refine bl_alloc ?_ _ | refine Below.setCell ?_ (by first | exact Nat.le_refl _ | exact hs_wx | exact hs_wy | exact hs_wz) _)) (World.block_lt_of_cell? w17 _ K1.out)).trans K1.out, (Below.cell (p := ⟨w4.heap.size, 0, none⟩) (by repeat (first | exact HR.out | refine bl_drewN ?_ _ | refine bl_drew ?_ | refine bl_alloc ?_ _ | refine Below.setCell ?_ (by first | exact Nat.le_refl _ | exact hs_wx | exact hs_wy | exact hs_wz) _)) (World.block_lt_of_cell? w17 _ K2.out)).trans K2.out, (Below.cell (p := ⟨w4.heap.size, 1, none⟩) (by repeat (first | exact HR.out | refine bl_drewN ?_ _ | refine bl_drew ?_ | refine bl_alloc ?_ _ | refine Below.setCell ?_ (by first | exact Nat.le_refl _ | exact hs_wx | exact hs_wy | exact hs_wz) _)) (World.block_lt_of_cell? w17 _ K3.out)).trans K3.out⟩
      clear hK K
      try simp only [Act.put, List.setIfInBounds_toArray, List.set_cons_zero, List.set_cons_succ]
      refine wpAnyH_ready (rs := [4]) (by kernel_rfl) (by simp) ?_
      refine AllReadyH.cons (o := { dst := some 81, op := Op.call { callee := Callee.value (Operand.func 19), args := #[Operand.tmp 78, Operand.tmp 80], argTypes := #[25, 25] }, type := 40, pos := "law.go:138", after := #[{ on := 1, ground := Ground.data }, { on := 3, ground := Ground.data }, { on := 3, ground := Ground.chain }], guard := none }) rfl (fun K hK => ?_) (AllReadyH.nil)
      go_simp
      go_at_call 19
      refine (refJoin_at _ _ _ _ _ _ _ _ _ _ _ _ a' b' l' m' _ ((GR.Own.rd (OwnS.d (OwnS.below (w := wy) Tx.out (by repeat (first | exact Below.refl _ _ | refine bl_drewN ?_ _ | refine bl_drew ?_ | refine bl_alloc ?_ _)))) bxd).2.2) ((GR.Own.rd (OwnS.s (OwnS.below (w := wy) Tx.out (by repeat (first | exact Below.refl _ _ | refine bl_drewN ?_ _ | refine bl_drew ?_ | refine bl_alloc ?_ _)))) bxs).2.2) ((GR.Own.rd (OwnS.d (OwnS.below (w := wy) Ty.out (by repeat (first | exact Below.refl _ _ | refine bl_drewN ?_ _ | refine bl_drew ?_ | refine bl_alloc ?_ _)))) byd).2.2) ((GR.Own.rd (OwnS.s (OwnS.below (w := wy) Ty.out (by repeat (first | exact Below.refl _ _ | refine bl_drewN ?_ _ | refine bl_drew ?_ | refine bl_alloc ?_ _)))) bys).2.2) rfl rfl rfl rfl NA'.out NL'.out NB'.out NM'.out).mono ?_
      rintro e wz ⟨v1, v2, rfl, ho, hb2⟩
      obtain ⟨Az1, nz1, kz1, rfl⟩ := own_slice ho.d jc1
      obtain ⟨Az2, nz2, kz2, rfl⟩ := own_slice ho.s jc2
      obtain rfl : nz1 = (joinA a' l' b' m').length := own_n' ho.d
      obtain rfl : nz2 = (joinL a' l' b' m').length := own_n' ho.s
      have T_ := Lib.hid (OwnS.below (OwnS.below (w := wy) Tx.out (by repeat (first | exact Below.refl _ _ | refine bl_drewN ?_ _ | refine bl_drew ?_ | refine bl_alloc ?_ _))) hb2)
      clear Tx
      have Tx := T_
      clear T_
      have T_ := Lib.hid (OwnS.below (OwnS.below (w := wy) Ty.out (by repeat (first | exact Below.refl _ _ | refine bl_drewN ?_ _ | refine bl_drew ?_ | refine bl_alloc ?_ _))) hb2)
      clear Ty
      have Ty := T_
      clear T_
      have BK_ := Lib.hid (GR.Blk.below BK.out hb2 BK.out.lt)
      clear BK
      have BK := BK_
      clear BK_
      have TZ := Lib.hid (OwnS.base (B' := w17.heap.size) ho (Below.size (w := w17) (by repeat (first | exact HR.out | refine bl_drewN ?_ _ | refine bl_drew ?_ | refine bl_alloc ?_ _))))
      clear ho
      have N_ := Lib.hid (bl_then (w := w17) (by repeat (first | exact HR.out | refine bl_drewN ?_ _ | refine bl_drew ?_ | refine bl_alloc ?_ _)) hb2)
      clear hb2 HR
      have HR := N_
      clear N_
      have hs_wz : w17.heap.size ≤ wz.heap.size := HR.out.size
      refine hK.out _ _ ?_ (fun hHeld => ?_)
      · exact ⟨(Below.cell (p := ⟨w2.heap.size, 0, none⟩) (by repeat (first | exact HR.out | refine bl_drewN ?_ _ | refine bl_drew ?_ | refine bl_alloc ?_ _ | refine Below.setCell ?_ (by first | exact Nat.le_refl _ | exact hs_wx | exact hs_wy | exact hs_wz) _)) (World.block_lt_of_cell? w17 _ K0.out)).trans K0.out, (Below.cell (p := ⟨w2.heap.size, 1, none⟩) (by repeat (first | exact HR.out | refine bl_drewN ?_ _ | refine bl_drew ?_ | refine bl_alloc ?_ _ | refine Below.setCell ?_ (by first | exact Nat.le_refl _ | exact hs_wx | exact hs_wy | exact hs_wz) _)) (World.block_lt_of_cell? w17 _ K1.out)).trans K1.out, (Below.cell (p := ⟨w4.heap.size, 0, none⟩) (by repeat (first | exact HR.out | refine bl_drewN ?_ _ | refine bl_drew ?_ | refine bl_alloc ?_ _ | refine Below.setCell ?_ (by first | exact Nat.le_refl _ | exact hs_wx | exact hs_wy | exact hs_wz) _)) (World.block_lt_of_cell? w17 _ K2.out)).trans K2.out, (Below.cell (p := ⟨w4.heap.size, 1, none⟩) (by repeat (first | exact HR.out | refine bl_drewN ?_ _ | refine bl_drew ?_ | refine bl_alloc ?_ _ | refine Below.setCell ?_ (by first | exact Nat.le_refl _ | exact hs_wx | exact hs_wy | exact hs_wz) _)) (World.block_lt_of_cell? w17 _ K3.out)).trans K3.out⟩
      clear hK K
      try simp only [Act.put, List.setIfInBounds_toArray, List.set_cons_zero, List.set_cons_succ]
      refine wpAnyH_take (i := 5) (oi := { dst := some 76, op := Op.move (Operand.tmp 81), type := 40, pos := "law.go:138", after := #[{ on := 4, ground := Ground.data }], guard := none }) (v := ?_) rfl (by kernel_rfl) (by kernel_rfl) (by kernel_rfl) (fun _ _ _ h => h) (Or.inl ⟨by rfl, ?_⟩) (by assumption) ?_
      rotate_left
      · intro w_ hSw
        (try dsimp only at hSw)
        go_simp
        first | done | with_reducible rfl
      try simp only [Act.put, List.setIfInBounds_toArray, List.set_cons_zero, List.set_cons_succ]
      refine wpAnyH_take (i := 6) (oi := { dst := some 82, op := Op.extract (Operand.tmp 76) 0, type := 25, pos := "law.go:138", after := #[{ on := 5, ground := Ground.data }], guard := none }) (v := ?_) rfl (by kernel_rfl) (by kernel_rfl) (by kernel_rfl) (fun _ _ _ h => h) (Or.inl ⟨by rfl, ?_⟩) (by assumption) ?_
      rotate_left
      · intro w_ hSw
        (try dsimp only at hSw)
        go_simp
        first | done | with_reducible rfl
      try simp only [Act.put, List.setIfInBounds_toArray, List.set_cons_zero, List.set_cons_succ]
      refine wpAnyH_take (i := 7) (oi := { dst := some 83, op := Op.extract (Operand.tmp 76) 1, type := 33, pos := "law.go:138", after := #[{ on := 5, ground := Ground.data }, { on := 9, ground := Ground.gcOnly Departure.lateStores }], guard := none }) (v := ?_) rfl (by kernel_rfl) (by kernel_rfl) (by kernel_rfl) (fun _ _ _ h => h) (Or.inl ⟨by rfl, ?_⟩) (by assumption) ?_
      rotate_left
      · intro w_ hSw
        (try dsimp only at hSw)
        go_simp
        first | done | with_reducible rfl
      try simp only [Act.put, List.setIfInBounds_toArray, List.set_cons_zero, List.set_cons_succ]
      refine wpAnyH_ready (rs := [9]) (by kernel_rfl) (by simp) ?_
      refine AllReadyH.cons (o := { dst := none, op := Op.store 25 (Operand.tmp 13) (Operand.tmp 82), type := 0, pos := "law.go:138", after := #[{ on := 8, ground := Ground.data }, { on := 6, ground := Ground.data }, { on := 4, ground := Ground.chain }, { on := 0, ground := Ground.phase }, { on := 1, ground := Ground.phase }, { on := 2, ground := Ground.phase }, { on := 3, ground := Ground.phase }, { on := 4, ground := Ground.phase }, { on := 5, ground := Ground.phase }, { on := 6, ground := Ground.phase }, { on := 7, ground := Ground.textOnly Departure.lateStores }, { on := 8, ground := Ground.phase }], guard := none }) rfl (fun K hK => ?_) (AllReadyH.nil)
      have k0 := BK.out.cell 0
      have k1 := BK.out.cell 1
      have kf0 := BK.out.frozen 0
      have kf1 := BK.out.frozen 1
      go_simp
      refine hK.out _ _ ?_ (fun hHeld => ?_)
      · exact ⟨(Below.cell (p := ⟨w2.heap.size, 0, none⟩) (by repeat (first | exact HR.out | refine bl_drewN ?_ _ | refine bl_drew ?_ | refine bl_alloc ?_ _ | refine Below.setCell ?_ (by first | exact Nat.le_refl _ | exact hs_wx | exact hs_wy | exact hs_wz) _)) (World.block_lt_of_cell? w17 _ K0.out)).trans K0.out, (Below.cell (p := ⟨w2.heap.size, 1, none⟩) (by repeat (first | exact HR.out | refine bl_drewN ?_ _ | refine bl_drew ?_ | refine bl_alloc ?_ _ | refine Below.setCell ?_ (by first | exact Nat.le_refl _ | exact hs_wx | exact hs_wy | exact hs_wz) _)) (World.block_lt_of_cell? w17 _ K1.out)).trans K1.out, (Below.cell (p := ⟨w4.heap.size, 0, none⟩) (by repeat (first | exact HR.out | refine bl_drewN ?_ _ | refine bl_drew ?_ | refine bl_alloc ?_ _ | refine Below.setCell ?_ (by first | exact Nat.le_refl _ | exact hs_wx | exact hs_wy | exact hs_wz) _)) (World.block_lt_of_cell? w17 _ K2.out)).trans K2.out, (Below.cell (p := ⟨w4.heap.size, 1, none⟩) (by repeat (first | exact HR.out | refine bl_drewN ?_ _ | refine bl_drew ?_ | refine bl_alloc ?_ _ | refine Below.setCell ?_ (by first | exact Nat.le_refl _ | exact hs_wx | exact hs_wy | exact hs_wz) _)) (World.block_lt_of_cell? w17 _ K3.out)).trans K3.out⟩
      clear hK K
      try simp only [Act.put, List.setIfInBounds_toArray, List.set_cons_zero, List.set_cons_succ]
      refine wpAnyH_take (i := 10) (oi := { dst := some 8, op := Op.assign (Operand.tmp 83), type := 33, pos := "law.go:138", after := #[{ on := 7, ground := Ground.data }, { on := 9, ground := Ground.chain }, { on := 0, ground := Ground.phase }, { on := 1, ground := Ground.phase }, { on := 2, ground := Ground.phase }, { on := 3, ground := Ground.phase }, { on := 4, ground := Ground.phase }, { on := 5, ground := Ground.phase }, { on := 6, ground := Ground.phase }, { on := 7, ground := Ground.phase }, { on := 8, ground := Ground.phase }, { on := 9, ground := Ground.phase }], guard := none }) (v := ?_) rfl (by kernel_rfl) (by kernel_rfl) (by kernel_rfl) (fun _ _ _ h => h) (Or.inl ⟨by rfl, ?_⟩) (by assumption) ?_
      rotate_left
      · intro w_ hSw
        (try dsimp only at hSw)
        go_simp
        first | done | with_reducible rfl
      try simp only [Act.put, List.setIfInBounds_toArray, List.set_cons_zero, List.set_cons_succ]
      refine wpAnyH_done (by kernel_rfl) ?_ _
      go_wp2_with fail
      go_meet
      exact ⟨_, _, _, _, _, rfl, rfl, (by first | exact Nat.le_refl _ | exact hs_wx | exact hs_wy | exact hs_wz), Lib.hid (st_put TZ.out BK.out).2, Lib.hid (st_put TZ.out BK.out).1, Lib.hid (by repeat (first | exact HR.out | refine bl_drewN ?_ _ | refine bl_drew ?_ | refine bl_alloc ?_ _ | refine Below.setCell ?_ (by first | exact Nat.le_refl _ | exact hs_wx | exact hs_wy | exact hs_wz) _))⟩
  case rest =>
    obtain ⟨g13, Az1, Az2, kz1, kz2, rfl, rfl, hg, BZ, OZ, BC⟩ := hcut
    have F35 := Lib.hid (HS.nil wc)
    have F36 := Lib.hid (HS.addB F35.out (g := w2.heap.size) (t := 25) (cs := #[.slice (some ⟨g1, 0, none⟩) a.length c1, .slice (some ⟨g2, 0, none⟩) l.length c3]) (Bpx.out.below BC.out Bpx.out.lt))
    clear F35
    have F37 := Lib.hid (HS.addB F36.out (g := w4.heap.size) (t := 25) (cs := #[.slice (some ⟨g3, 0, none⟩) b.length c4, .slice (some ⟨g4, 0, none⟩) m.length c5]) (Bpy.out.below BC.out Bpy.out.lt))
    clear F36
    have F38 := Lib.hid (HS.addB F37.out (g := w8.heap.size) (t := 25) (cs := #[.slice A3 (joinA a l b m).length k3, .slice A4 (joinL a l b m).length k4]) (Bp1.out.below BC.out Bp1.out.lt))
    clear F37
    have F39 := Lib.hid (HS.addB F38.out (g := g13) (t := 25) (cs := #[.slice Az1 (joinA a' l' b' m').length kz1, .slice Az2 (joinL a' l' b' m').length kz2]) (BZ.out))
    clear F38
    have F40 := Lib.hid (F39.out.addO (OX.out.below BC.out))
    clear F39
    have F41 := Lib.hid (F40.out.addO (OY.out.below BC.out))
    clear F40
    have F42 := Lib.hid (F41.out.addO (OZ.out))
    clear F41
    have px_0 : wc.cell? ⟨w2.heap.size, 0, none⟩ = some (.slice (some ⟨g1, 0, none⟩) a.length c1) := (F42.out.blk 6 rfl).cell 0
    have px_1 : wc.cell? ⟨w2.heap.size, 1, none⟩ = some (.slice (some ⟨g2, 0, none⟩) l.length c3) := (F42.out.blk 6 rfl).cell 1
    have py_0 : wc.cell? ⟨w4.heap.size, 0, none⟩ = some (.slice (some ⟨g3, 0, none⟩) b.length c4) := (F42.out.blk 5 rfl).cell 0
    have py_1 : wc.cell? ⟨w4.heap.size, 1, none⟩ = some (.slice (some ⟨g4, 0, none⟩) m.length c5) := (F42.out.blk 5 rfl).cell 1
    have EE2 := Lib.hid (show (joinE a' l' b' m' == joinE a' l' b' m') = true by simp)
    go_wp2_with fail
    clear px_0 px_1 py_0 py_1
    refine (join_at _ _ _ _ _ _ _ _ _ _ _ _ a' b' l' m' _ (GR.Own.rd ((F42.out.own 2 rfl).d) bxd).2.2 (GR.Own.rd ((F42.out.own 2 rfl).s) bxs).2.2 (GR.Own.rd ((F42.out.own 1 rfl).d) byd).2.2 (GR.Own.rd ((F42.out.own 1 rfl).s) bys).2.2 EL.out.symm EL2.out.symm EL3.out.symm EL4.out.symm CX.out CY.out NA'.out NL'.out NB'.out NM'.out).mono ?_
    rintro e w20 ⟨v1, v2, rfl, ho, hb⟩
    obtain ⟨A20, n20, k20, rfl⟩ := own_slice ho.d jc1
    obtain ⟨A21, n21, k21, rfl⟩ := own_slice ho.s jc2
    obtain rfl : n20 = (joinA a' l' b' m').length := own_n' ho.d
    obtain rfl : n21 = (joinL a' l' b' m').length := own_n' ho.s
    have F43 := Lib.hid (F42.out.below hb)
    clear F42
    have F44 := Lib.hid (F43.out.addO (ho))
    clear F43
    replace BC := Lib.hid (bl_then BC.out hb)
    clear ho hb
    have p1_0 : w20.cell? ⟨w8.heap.size, 0, none⟩ = some (.slice A3 (joinA a l b m).length k3) := (F44.out.blk 5 rfl).cell 0
    have p1_1 : w20.cell? ⟨w8.heap.size, 1, none⟩ = some (.slice A4 (joinL a l b m).length k4) := (F44.out.blk 5 rfl).cell 1
    have pz_0 : w20.cell? ⟨g13, 0, none⟩ = some (.slice Az1 (joinA a' l' b' m').length kz1) := (F44.out.blk 4 rfl).cell 0
    have pz_1 : w20.cell? ⟨g13, 1, none⟩ = some (.slice Az2 (joinL a' l' b' m').length kz2) := (F44.out.blk 4 rfl).cell 1
    have p1_f0 := (F44.out.blk 5 rfl).frozen 0
    have p1_f1 := (F44.out.blk 5 rfl).frozen 1
    have z1 : w8.heap.size ≠ g13 := by omega
    have z2 : g13 ≠ w8.heap.size := by omega
    have ee2 := EE2.out
    go_wp2_with fail
    refine (same_self _ _ _ _ _ _ _ _ _ _ _ _ (joinA a' l' b' m') (joinL a' l' b' m') _ (GR.Own.rd (st_put (F44.out.own 0 rfl) (F44.out.blk 5 rfl)).1.d jc1).2.2 (GR.Own.rd (st_put (F44.out.own 0 rfl) (F44.out.blk 5 rfl)).1.s jc2).2.2 (GR.Own.rd (st_put (F44.out.own 1 rfl) (F44.out.blk 5 rfl)).1.d jc1).2.2 (GR.Own.rd (st_put (F44.out.own 1 rfl) (F44.out.blk 5 rfl)).1.s jc2).2.2 rfl rfl rfl rfl).mono ?_
    rintro e w22 ⟨rfl, hb⟩
    go_wp2
    go_ret
    have h17 : W1.heap.size ≤ w17.heap.size := BW.out.size
    have h20 : w17.heap.size ≤ w20.heap.size := BC.out.size
    exact ⟨rfl, bl_then LW.out (Below.trans (Below.trans BW.out (((BC.out.mono h17).setCell (p := ⟨w8.heap.size, 0, none⟩) (show W1.heap.size ≤ w8.heap.size by omega) _).setCell (p := ⟨w8.heap.size, 1, none⟩) (show W1.heap.size ≤ w8.heap.size by omega) _)) (hb.mono (by simp [World.setCell]; omega)))⟩
end Go.Proofs.Ytlmnmlehnigfdaa
