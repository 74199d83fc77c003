/- DERIVED. The statements' own helpers: lent. -/
import Derived.Test.YtlmnmlehnigfdaaDvSt
import Derived.Test.YtlmnmlehnigfdaaDvTwin
import Derived.Lib.Strings
import Derived.Laws.Runes
namespace Go.Proofs.Ytlmnmlehnigfdaa
open Go.RowKit
set_option linter.unusedVariables false
set_option linter.unusedSimpArgs false

set_option maxRecDepth 100000 in
set_option maxHeartbeats 3200000 in
theorem lent_any (A B : Option Addr) (c d : Nat) (a : List Dot) (l : List Sib) (w : World) (ha : GR.Rd dotK w A a) (hl : GR.Rd sibK w B l) (sa : a.length * 16 ≤ 140737488351232) (sl : l.length * 40 ≤ 140737488351232) :
    Calls Try.prog 12 #[.agg #[.slice A a.length c, .slice B l.length d]] w fun e w' => ∃ g1 c1 g2 c2 : Nat, e = .returned (.agg #[.slice (some ⟨g1, 0, none⟩) a.length c1, .slice (some ⟨g2, 0, none⟩) l.length c2]) ∧
      OwnS w' w.heap.size (.slice (some ⟨g1, 0, none⟩) (a.length + 70) c1) (.slice (some ⟨g2, 0, none⟩) (l.length + 70) c2) (a ++ dmarks 70) (l ++ smarks 70) ∧ Below w.heap.size w w' := by
  obtain ⟨i0, hi0, hz0, hz1, hz2⟩ := info_parts dot_info
  obtain ⟨j0, hj0, jz0, jz1, jz2⟩ := info_parts sib_info
  have hma : a.length * 16 ≤ 140737488355328 := ha.max
  have hml : l.length * 40 ≤ 140737488355328 := hl.max
  have HA := Lib.hid ha
  have HL := Lib.hid hl
  clear ha hl
  go_enter Try.func12, Try.ntmps12
  go_wp2_with fail
  obtain ⟨W1, hW1⟩ : ∃ W1 : World, W1 = (w.alloc (.cells #[.slice A a.length c, .slice B l.length d] 25)).alloc (.cells #[.slice none 0 0, .slice none 0 0] 25) := ⟨_, rfl⟩
  rw [← hW1]
  have LW : Hid (Below w.heap.size w W1) := Lib.hid (by rw [hW1]; exact (by repeat (first | exact Below.refl _ _ | refine bl_drewN ?_ _ | refine bl_drew ?_ | refine bl_alloc ?_ _)))
  have XA : Hid (GR.Blk W1 w.heap.size 25 #[.slice A a.length c, .slice B l.length d]) := Lib.hid (by rw [hW1]; exact (GR.Blk.new _ _ _).alloc _)
  have XR : Hid (GR.Blk W1 (w.heap.size + 1) 25 #[.slice none 0 0, .slice none 0 0]) := Lib.hid (by rw [hW1]; exact new_at _ _ _ (by simp))
  clear hW1
  refine (twin_any A B c d a l W1 (HA.out.below LW.out) (HL.out.below LW.out)).mono ?_
  rintro e w2 ⟨v1, v2, rfl, ho1, ho2, hb2⟩
  obtain ⟨A1, n1, c1, rfl⟩ := own_slice ho1 hma
  obtain ⟨A2, n2, c2, rfl⟩ := own_slice ho2 hml
  have L2 := Lib.hid hb2
  have O1 := Lib.hid ho1
  have O2 := Lib.hid ho2
  have hs2 : W1.heap.size ≤ w2.heap.size := hb2.size
  clear ho1 ho2 hb2
  go_wp2
  go_loopw [4] (fun i w' => ∃ (k : Nat) (v1 v2 : Value), k ≤ 70 ∧ i = .int .i64 k ∧ Hid (GR.Blk w' w2.heap.size 25 #[v1, v2]) ∧ Hid (GR.Own dotK w' W1.heap.size v1 (a ++ dmarks k)) ∧ Hid (GR.Own sibK w' W1.heap.size v2 (l ++ smarks k)) ∧ Hid (Below W1.heap.size W1 w')) (fun i _ => 70 - (intOf i).toNat)
  case atStart => exact ⟨0, _, _, by omega, rfl, Lib.hid (GR.Blk.new _ _ _), Lib.hid (by simpa [dmarks] using O1.out.alloc _), Lib.hid (by simpa [smarks] using O2.out.alloc _), Lib.hid (by repeat (first | exact L2.out | refine bl_drewN ?_ _ | refine bl_drew ?_ | refine bl_alloc ?_ _))⟩
  case round =>
    obtain ⟨k, v1, v2, hk, rfl, bk, ho1, ho2, hb⟩ := hrel
    have hbs : W1.heap.size ≤ wr.heap.size := hb.out.size
    by_cases hlt : k < 70
    · have e1 : IntKind.u64.wrap (k : Int) = (k : Int) := IntWalk.u64_in _ (by omega)
      have m0 : wr.cell? ⟨w2.heap.size, 0, none⟩ = some v1 := bk.out.cell 0
      have hgw : w2.heap.size < wr.heap.size := bk.out.lt
      go_wp2_with (first
        | (at_builtin
           refine GR.app_all (K := dotK) rfl (.tmp 12) (.tmp 16) _ rfl Try.underlying22 hi0 hz0 hz1 hz2 rfl W1.heap.size _ (a ++ dmarks k) rfl (ho1.out.alloc _) _ 1 1 [dmark k] rfl rfl (GR.rd_new (K := dotK) (dmark k) rfl (by show 16 ≤ 140737488355328; omega)) (by rw [List.length_append, dmarks_length]; show (a.length + k + 1) * 16 ≤ _; omega) (Nat.le_trans hbs (by simp)) ?_
           intro v3 w3 ho3 hg3 hat3
           obtain ⟨A3, n3, c3, rfl⟩ := own_slice ho3 (by rw [List.length_append, List.length_append, dmarks_length]; show (a.length + k + 1) * 16 ≤ _; omega)
           have C3 : Hid (Chg (fun k => v1.ownBlock = some k) wr w3) := Lib.hid ((chg_bl (by repeat (first | exact Below.refl _ _ | refine bl_drewN ?_ _ | refine bl_drew ?_ | refine bl_alloc ?_ _))).then (chg_grown hg3 (fun k hk _ => hk)))
           have B3 : Hid (GR.Blk w3 w2.heap.size 25 #[v1, v2]) := Lib.hid (blk_chg bk.out C3.out (fun h => GR.own_blk_ne ho1.out bk.out (by decide) h))
           have P3 := Lib.hid (own_chg ho2.out C3.out (fun i hi h => own_ne ho2.out ho1.out (by decide) i hi h))
           have HO3 := Lib.hid ho3
           have HB3 := Lib.hid (hb.out.trans (C3.out.below hbs (fun k hk => (ho1.out.lt k hk).1)))
           have m1 : w3.cell? ⟨w2.heap.size, 0, none⟩ = some v1 := B3.out.cell 0
           have m2 : w3.cell? ⟨w2.heap.size, 1, none⟩ = some v2 := B3.out.cell 1
           have m3 := B3.out.frozen 0
           have hs3 : W1.heap.size ≤ w3.heap.size := HB3.out.size
           have hg3' : w2.heap.size < w3.heap.size := B3.out.lt
           clear ho3 hg3 hat3)
        | (at_builtin
           refine GR.app_all (K := sibK) rfl (.tmp 20) (.tmp 25) _ rfl Try.underlying23 hj0 jz0 jz1 jz2 rfl W1.heap.size _ (l ++ smarks k) rfl (GR.Own.alloc (own_far P3.out B3.out _ (by decide)) _) _ 1 1 [smark k] rfl rfl (GR.rd_new (K := sibK) (smark k) (by simp [World.setCell]) (by show 40 ≤ 140737488355328; omega)) (by rw [List.length_append, smarks_length]; show (l.length + k + 1) * 40 ≤ _; omega) (Nat.le_trans hs3 (by simp [World.setCell])) ?_
           intro v4 w4 ho4 hg4 hat4
           obtain ⟨A4, n4, c4, rfl⟩ := own_slice ho4 (by rw [List.length_append, List.length_append, smarks_length]; show (l.length + k + 1) * 40 ≤ _; omega)
           have B3' : Hid (GR.Blk (w3.setCell ⟨w2.heap.size, 0, none⟩ (.slice A3 n3 c3)) w2.heap.size 25 #[.slice A3 n3 c3, v2]) := Lib.hid (B3.out.set_ 0 _)
           have P3' := Lib.hid (own_far P3.out B3.out (.slice A3 n3 c3) (by decide))
           have Q3' := Lib.hid (own_far HO3.out B3.out (.slice A3 n3 c3) (by decide))
           have C4 : Hid (Chg (fun k => v2.ownBlock = some k) (w3.setCell ⟨w2.heap.size, 0, none⟩ (.slice A3 n3 c3)) w4) := Lib.hid ((chg_bl (by repeat (first | exact Below.refl _ _ | refine bl_drewN ?_ _ | refine bl_drew ?_ | refine bl_alloc ?_ _))).then (chg_grown hg4 (fun k hk _ => hk)))
           have B4 : Hid (GR.Blk w4 w2.heap.size 25 #[.slice A3 n3 c3, v2]) := Lib.hid (blk_chg B3'.out C4.out (fun h => GR.own_blk_ne P3'.out B3'.out (by decide) h))
           have Q4 := Lib.hid (own_chg Q3'.out C4.out (fun i hi h => own_ne Q3'.out P3'.out (by decide) i hi h))
           have HO4 := Lib.hid ho4
           have HB4 := Lib.hid ((HB3.out.setCell (p := ⟨w2.heap.size, 0, none⟩) hs2 (.slice A3 n3 c3)).trans (C4.out.below (by simpa [World.setCell] using hs3) (fun k hk => (P3'.out.lt k hk).1)))
           have m4 : w4.cell? ⟨w2.heap.size, 1, none⟩ = some v2 := B4.out.cell 1
           have m5 := B4.out.frozen 1
           clear ho4 hg4 hat4))
      go_roundw
      case rel => exact ⟨k + 1, _, _, by omega, by go_num, Lib.hid (B4.out.set_ 1 _), Lib.hid (by rw [dmarks_succ, ← List.append_assoc]; exact own_farI Q4.out B4.out 1 _ (by decide)), Lib.hid (by rw [smarks_succ, ← List.append_assoc]; exact own_farI HO4.out B4.out 1 _ (by decide)), Lib.hid (HB4.out.setCell (p := ⟨w2.heap.size, 1, none⟩) hs2 _)⟩
      case measure => simp [intOf]; omega
    · obtain rfl : k = 70 := by omega
      obtain ⟨g1, cap1, rfl, hc1, hx1⟩ := own_lit ho1.out (a.length + 70) (by rw [List.length_append, dmarks_length]) (by omega)
      obtain ⟨g2, cap2, rfl, hc2, hx2⟩ := own_lit ho2.out (l.length + 70) (by rw [List.length_append, smarks_length]) (by omega)
      have q1 : a.length ≤ cap1 := by omega
      have q2 : l.length ≤ cap2 := by omega
      have q3 : (a.length : Int) ≤ (cap1 : Int) := by omega
      have q4 : (l.length : Int) ≤ (cap2 : Int) := by omega
      have m0 : wr.cell? ⟨w2.heap.size, 0, none⟩ = some (.slice (some ⟨g1, 0, none⟩) (a.length + 70) cap1) := bk.out.cell 0
      have m1 : wr.cell? ⟨w2.heap.size, 1, none⟩ = some (.slice (some ⟨g2, 0, none⟩) (l.length + 70) cap2) := bk.out.cell 1
      have m2 := bk.out.frozen 0
      have m3 := bk.out.frozen 1
      have n0 : wr.cell? ⟨w.heap.size, 0, none⟩ = some (.slice A a.length c) := (XA.out.below hb.out XA.out.lt).cell 0
      have n1 : wr.cell? ⟨w.heap.size, 1, none⟩ = some (.slice B l.length d) := (XA.out.below hb.out XA.out.lt).cell 1
      have r0 : wr.cell? ⟨w.heap.size + 1, 0, none⟩ = some (.slice none 0 0) := (XR.out.below hb.out XR.out.lt).cell 0
      have r1 : wr.cell? ⟨w.heap.size + 1, 1, none⟩ = some (.slice none 0 0) := (XR.out.below hb.out XR.out.lt).cell 1
      have r2 := (XR.out.below hb.out XR.out.lt).frozen 0
      have r3 := (XR.out.below hb.out XR.out.lt).frozen 1
      have z1 : w.heap.size ≠ w2.heap.size := by have := XA.out.lt; omega
      have z2 : w.heap.size + 1 ≠ w2.heap.size := by have := XR.out.lt; omega
      go_wp2
      have CF := (((((Chg.refl (fun k => k = w2.heap.size ∨ k = w.heap.size + 1) wr).then (chg_set (g := w2.heap.size) 0 (.slice (some ⟨g1, 0, none⟩) a.length cap1) (.inl (.inl rfl)))).then (chg_set (g := w2.heap.size) 1 (.slice (some ⟨g2, 0, none⟩) l.length cap2) (.inl (.inl rfl)))).then
        (chg_set (g := w.heap.size + 1) 0 (.slice (some ⟨g1, 0, none⟩) a.length cap1) (.inl (.inr rfl)))).then (chg_set (g := w.heap.size + 1) 1 (.slice (some ⟨g2, 0, none⟩) l.length cap2) (.inl (.inr rfl))))
      exact bodyPost_ret (v := .agg #[.slice (some ⟨g1, 0, none⟩) a.length cap1, .slice (some ⟨g2, 0, none⟩) l.length cap2]) (by simp [results, Try.results12, go_sem, r0, r1, r2, r3, m0, m1, m2, m3, z1, z2]) rfl ⟨_, _, _, _, rfl,
        OwnS.base ⟨own_chg ho1.out CF (fun k hk h => by
          rcases h with rfl | rfl
          · exact GR.own_blk_ne ho1.out bk.out (by decide) hk
          · exact GR.own_blk_ne ho1.out (XR.out.below hb.out XR.out.lt) (by decide) hk),
         own_chg ho2.out CF (fun k hk h => by
          rcases h with rfl | rfl
          · exact GR.own_blk_ne ho2.out bk.out (by decide) hk
          · exact GR.own_blk_ne ho2.out (XR.out.below hb.out XR.out.lt) (by decide) hk)⟩ LW.out.size,
        (bl_then LW.out hb.out).trans (CF.below (bl_then LW.out hb.out).size (fun k hk => by
          rcases hk with rfl | rfl
          · exact Nat.le_trans LW.out.size hs2
          · omega))⟩
end Go.Proofs.Ytlmnmlehnigfdaa
