/- DERIVED. The statements' own helpers: kept. -/
import Derived.Test.YtlmnmlehnigfdaaDvSame
import Derived.Test.YtlmnmlehnigfdaaDvSt
import Derived.Lib.Strings
namespace Go.Proofs.Ytlmnmlehnigfdaa
open Go.RowKit Go.Proofs.YtlmnmlehnigfdaaW.PrintWords
set_option linter.unusedVariables false
set_option linter.unusedSimpArgs false
attribute [local go_sem high] eqD eqS

set_option maxRecDepth 100000 in
set_option maxHeartbeats 3200000 in
theorem kept_any (g1 c1 g2 c2 B0 : Nat) (A B : Option Addr) (c d : Nat) (a : List Dot) (l : List Sib) (w : World) (ha : GR.Rd dotK w A a) (hl : GR.Rd sibK w B l) (sa : a.length * 16 ≤ 140737488351232) (sl : l.length * 40 ≤ 140737488351232)
    (ho : OwnS w B0 (.slice (some ⟨g1, 0, none⟩) (a.length + 70) c1) (.slice (some ⟨g2, 0, none⟩) (l.length + 70) c2) (a ++ dmarks 70) (l ++ smarks 70)) :
    Calls Try.prog 16 #[.agg #[.slice (some ⟨g1, 0, none⟩) a.length c1, .slice (some ⟨g2, 0, none⟩) l.length c2], .agg #[.slice A a.length c, .slice B l.length d]] w fun e w' => e = .returned (.bool true) ∧ Below w.heap.size w w' := by
  obtain ⟨_, _, e1, hc1, hx1⟩ := own_lit ho.d (a.length + 70) (by rw [List.length_append, dmarks_length]) (by omega)
  cases e1
  obtain ⟨_, _, e2, hc2, hx2⟩ := own_lit ho.s (l.length + 70) (by rw [List.length_append, smarks_length]) (by omega)
  cases e2
  have hma : (a ++ dmarks 70).length * 16 ≤ 140737488355328 := by rw [List.length_append, dmarks_length]; omega
  have hml : (l ++ smarks 70).length * 40 ≤ 140737488355328 := by rw [List.length_append, smarks_length]; omega
  have HT := Lib.hid ((GR.Own.take ho.d).rd ha.max).2.2
  have HU := Lib.hid ((GR.Own.take ho.s).rd hl.max).2.2
  have HE := Lib.hid (show stEq a l a l = true by simp [stEq])
  have i1 : (a.length : Int) + 70 ≤ (c1 : Int) := by omega
  have i2 : (l.length : Int) + 70 ≤ (c2 : Int) := by omega
  have e1 : IntKind.i64.wrap ((a.length : Int) + 70) = (a.length : Int) + 70 := IntWalk.i64_in _ (by omega)
  have e2 : IntKind.i64.wrap ((l.length : Int) + 70) = (l.length : Int) + 70 := IntWalk.i64_in _ (by omega)
  have t1 : ((a.length : Int) + 70).toNat = a.length + 70 := by omega
  have t2 : ((l.length : Int) + 70).toNat = l.length + 70 := by omega
  have MA := Lib.hid hma
  have ML := Lib.hid hml
  have HA := Lib.hid ha
  have HL := Lib.hid hl
  have HO := Lib.hid ho
  clear ha hl ho
  clear hma hml
  go_enter Try.func16, Try.ntmps16
  go_wp2_with fail
  obtain ⟨W1, hW1⟩ : ∃ W1 : World, W1 = (w.alloc (.cells #[.slice (some ⟨g1, 0, none⟩) a.length c1, .slice (some ⟨g2, 0, none⟩) l.length c2] 25)).alloc (.cells #[.slice A a.length c, .slice B l.length d] 25) := ⟨_, rfl⟩
  rw [← hW1]
  have LW : Hid (Below w.heap.size w W1) := Lib.hid (by rw [hW1]; exact (by repeat (first | exact Below.refl _ _ | refine bl_drewN ?_ _ | refine bl_drew ?_ | refine bl_alloc ?_ _)))
  have XA : Hid (GR.Blk W1 w.heap.size 25 #[.slice (some ⟨g1, 0, none⟩) a.length c1, .slice (some ⟨g2, 0, none⟩) l.length c2]) := Lib.hid (by rw [hW1]; exact (GR.Blk.new _ _ _).alloc _)
  have XB : Hid (GR.Blk W1 (w.heap.size + 1) 25 #[.slice A a.length c, .slice B l.length d]) := Lib.hid (by rw [hW1]; exact new_at _ _ _ (by simp))
  clear hW1
  refine (refSame_any _ _ _ _ _ _ _ _ a a l l W1 (HT.out.below LW.out) (HU.out.below LW.out) (HA.out.below LW.out) (HL.out.below LW.out)).mono ?_
  rintro e w2 ⟨rfl, hb2⟩
  rw [HE.out]
  have L2 := Lib.hid hb2
  clear hb2
  have s0 : w2.cell? ⟨w.heap.size, 0, none⟩ = some (.slice (some ⟨g1, 0, none⟩) a.length c1) := (XA.out.below L2.out XA.out.lt).cell 0
  have s1 : w2.cell? ⟨w.heap.size, 1, none⟩ = some (.slice (some ⟨g2, 0, none⟩) l.length c2) := (XA.out.below L2.out XA.out.lt).cell 1
  have p0 : w2.cell? ⟨w.heap.size + 1, 0, none⟩ = some (.slice A a.length c) := (XB.out.below L2.out XB.out.lt).cell 0
  have p1 : w2.cell? ⟨w.heap.size + 1, 1, none⟩ = some (.slice B l.length d) := (XB.out.below L2.out XB.out.lt).cell 1
  go_wp2
  clear s0 s1 p0 p1
  go_loopw [7] (fun i w' => ∃ k : Nat, k ≤ 70 ∧ i = .int .i64 k ∧ Hid (Below W1.heap.size W1 w')) (fun i _ => 70 - (intOf i).toNat)
  case atStart => exact ⟨0, by omega, rfl, Lib.hid (by repeat (first | exact L2.out | refine bl_drewN ?_ _ | refine bl_drew ?_ | refine bl_alloc ?_ _))⟩
  case round =>
    obtain ⟨k, hk, rfl, hb⟩ := hrel
    by_cases hlt : k < 70
    · have p0 : wr.cell? ⟨w.heap.size + 1, 0, none⟩ = some (.slice A a.length c) := (XB.out.below hb.out XB.out.lt).cell 0
      have p1 : wr.cell? ⟨w.heap.size + 1, 1, none⟩ = some (.slice B l.length d) := (XB.out.below hb.out XB.out.lt).cell 1
      have hO := HO.out.below (bl_then LW.out hb.out)
      obtain ⟨ad, e0, _, c0, c1'⟩ := dot_at (hO.d.rd MA.out).2.2 (a.length + k) (by rw [List.length_append, dmarks_length]; omega)
      cases e0
      obtain ⟨bd, e0, _, d0, d1, d2, d3⟩ := sib_at (hO.s.rd ML.out).2.2 (l.length + k) (by rw [List.length_append, smarks_length]; omega)
      cases e0
      have em : (a ++ dmarks 70)[a.length + k]'(by rw [List.length_append, dmarks_length]; omega) = dmark k := by simp [dmarks]
      have em2 : (l ++ smarks 70)[l.length + k]'(by rw [List.length_append, smarks_length]; omega) = smark k := by simp [smarks]
      rw [em] at c0 c1'
      rw [em2] at d0 d1 d2 d3
      rw [plain_add] at c0 c1' d0 d1 d2 d3
      replace c0 : wr.cell? ⟨g1, (a.length + k) * 2, none⟩ = some (.int .u32 7777) := c0
      replace c1' : wr.cell? ⟨g1, (a.length + k) * 2 + 1, none⟩ = some (.int .u64 k) := c1'
      replace d0 : wr.cell? ⟨g2, (l.length + k) * 4, none⟩ = some (.int .u32 0) := d0
      replace d1 : wr.cell? ⟨g2, (l.length + k) * 4 + 1, none⟩ = some (.int .u64 k) := d1
      replace d2 : wr.cell? ⟨g2, (l.length + k) * 4 + 2, none⟩ = some (.bool false) := d2
      replace d3 : wr.cell? ⟨g2, (l.length + k) * 4 + 3, none⟩ = some (.string ⟨#[109, 97, 114, 107]⟩) := d3
      have q0 : dEq 7777 k 7777 k = true := by simp [dEq]
      have q1 : sEq 0 k false ⟨#[109, 97, 114, 107]⟩ 0 k false ⟨#[109, 97, 114, 107]⟩ = true := by simp [sEq, dEq]
      have j0 : (0 : Int) ≤ (a.length : Int) + (k : Int) := by omega
      have j1 : (a.length : Int) + (k : Int) < (a.length : Int) + 70 := by omega
      have j2 : (0 : Int) ≤ (l.length : Int) + (k : Int) := by omega
      have j3 : (l.length : Int) + (k : Int) < (l.length : Int) + 70 := by omega
      have f1 : IntKind.i64.wrap ((a.length : Int) + (k : Int)) = (a.length : Int) + (k : Int) := IntWalk.i64_in _ (by omega)
      have f2 : IntKind.i64.wrap ((l.length : Int) + (k : Int)) = (l.length : Int) + (k : Int) := IntWalk.i64_in _ (by omega)
      have f3 : IntKind.u64.wrap (k : Int) = (k : Int) := IntWalk.u64_in _ (by omega)
      have u1 : ((a.length : Int) + (k : Int)).toNat = a.length + k := by omega
      have u2 : ((l.length : Int) + (k : Int)).toNat = l.length + k := by omega
      clear hO em em2
      go_wp2
      go_roundw
      case rel => exact ⟨k + 1, by omega, by go_num, Lib.hid (by repeat (first | exact hb.out | refine bl_drewN ?_ _ | refine bl_drew ?_ | refine bl_alloc ?_ _))⟩
      case measure => simp [intOf]; omega
    · obtain rfl : k = 70 := by omega
      go_wp2
      go_ret
      exact ⟨rfl, bl_then LW.out (by repeat (first | exact hb.out | refine bl_drewN ?_ _ | refine bl_drew ?_ | refine bl_alloc ?_ _))⟩
end Go.Proofs.Ytlmnmlehnigfdaa
