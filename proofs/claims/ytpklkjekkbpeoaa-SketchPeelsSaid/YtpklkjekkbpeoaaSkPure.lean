/- DERIVED. Does a cell hold one item alone? -/
import Derived.Test.YtpklkjekkbpeoaaSkNew
import Derived.Test.YtpklkjekkbpeoaaShelf
import Derived.Test.YtpklkjekkbpeoaaOver
import Derived.Deep.Cut
import Derived.Deep.CutRange
namespace Go.Proofs.Ytpklkjekkbpeoaa
open Go.RowKit
set_option linter.unusedVariables false
set_option linter.unusedSimpArgs false
attribute [local irreducible] mixN

theorem isP_list (n : Nat) (x : BitVec 64) (i : Nat) : (([(plc n x 0 : Int), (plc n x 1 : Int), (plc n x 2 : Int)] : List Int).take 3).contains (i : Int) = isP n 3 x i := by
  rw [Bool.eq_iff_iff, isP_iff]
  simp only [List.take_succ_cons, List.take_zero, List.contains_eq_mem, List.mem_cons, List.not_mem_nil, or_false, decide_eq_true_eq]
  constructor
  · rintro (h | h | h)
    · exact ⟨0, by omega, by omega⟩
    · exact ⟨1, by omega, by omega⟩
    · exact ⟨2, by omega, by omega⟩
  · rintro ⟨j, hj, rfl⟩
    match j, hj with
    | 0, _ => exact .inl rfl
    | 1, _ => exact .inr (.inl rfl)
    | 2, _ => exact .inr (.inr rfl)
theorem places_x (x : BitVec 64) (g : Nat) (A : Option Addr) (n c : Nat) (h3 : 3 ≤ n) (hn : n ≤ 256) (w : World) (hg : GR.Blk w g 77 #[.slice A n c]) :
    Calls Try.prog 60 #[.pointer (some ⟨g, 0, none⟩), .int .u64 (x.toNat : Int)] w fun e w' => e = .returned (.agg #[.int .i64 (plc n x 0 : Int), .int .i64 (plc n x 1 : Int), .int .i64 (plc n x 2 : Int)]) ∧ Below w.heap.size w w' :=
  places_any x g A n c h3 hn w hg
theorem three_at {w : World} {H : Nat} {a b c : Int} (h : GR.Blk w H 50 #[.int .i64 a, .int .i64 b, .int .i64 c]) : ∀ j, j < [a, b, c].length → w.cell? ⟨H, 0 + j, none⟩ = some (.int .i64 ([a, b, c].getD j 0)) := by
  intro j hj
  match j, hj with
  | 0, _ => exact h.cell 0
  | 1, _ => exact h.cell 1
  | 2, _ => exact h.cell 2
theorem toInt_one (a : BitVec 16) : (a.toInt = 1) ↔ a = 1 := by
  constructor
  · intro h; exact BitVec.eq_of_toInt_eq (h.trans (by decide))
  · rintro rfl; decide
theorem toInt_neg (a : BitVec 16) : (a.toInt = -1) ↔ a = -1 := by
  constructor
  · intro h; exact BitVec.eq_of_toInt_eq (h.trans (by decide))
  · rintro rfl; decide
set_option maxRecDepth 100000 in
set_option maxHeartbeats 12800000 in
theorem pure_any (B g c cap : Nat) (L : List Cel) (i : Nat) (hi : i < L.length) (w : World) (hs : Skt w B g c cap L) :
    Calls Try.prog 40 #[.pointer (some ⟨g, 0, none⟩), .int .i64 (i : Int)] w fun e w' => e = .returned (.bool (pureB L i)) ∧ Below w.heap.size w w' := by
  have n2 := hs.n2
  have c0 : w.cell? ⟨g, 0, none⟩ = some (.slice (some ⟨c, 0, none⟩) L.length cap) := hs.b.cell 0
  obtain ⟨y, hy⟩ : ∃ y, y = L[i] := ⟨_, rfl⟩
  obtain ⟨⟨a0, a1, a2⟩, _⟩ := cel_at hs.o i hi y hy.symm
  have hp : pureB L i = ((y.n == 1 || y.n == -1) && y.h == ckV y.x && isP L.length 3 y.x i) := by
    unfold pureB
    rw [List.getD_eq_getElem?_getD, List.getElem?_eq_getElem hi, ← hy]
    rfl
  have HS := Lib.hid hs
  have HP := Lib.hid hp
  clear hs hy hp
  have i0 : (0 : Int) ≤ (i : Int) := by omega
  have i1 : (i : Int) < (L.length : Int) := by omega
  go_enter Try.func40, Try.ntmps40
  go_upto_region 2 with fail
  obtain ⟨H, hH⟩ : ∃ H, H = w.heap.size := ⟨_, rfl⟩
  obtain ⟨w1, hw1⟩ : ∃ w1, w1 = w.alloc (.cells #[.int .i16 y.n.toInt, .int .u64 (y.x.toNat : Int), .int .u32 (y.h.toNat : Int)] 81) := ⟨_, rfl⟩
  rw [← hH, ← hw1]
  have yg : Hid (GR.Blk w1 H 81 #[.int .i16 y.n.toInt, .int .u64 (y.x.toNat : Int), .int .u32 (y.h.toNat : Int)]) := Lib.hid (by rw [hw1]; exact newAt _ _ hH.symm)
  have B1 : Hid (Below w.heap.size w w1) := Lib.hid (by rw [hw1]; exact (by repeat (first | exact Below.refl _ _ | refine bl_drewN ?_ _ | refine bl_drew ?_ | refine bl_alloc ?_ _)))
  have b0 : w1.cell? ⟨H, 0, none⟩ = some (.int .i16 y.n.toInt) := yg.out.cell 0
  have b1 : w1.cell? ⟨H, 1, none⟩ = some (.int .u64 (y.x.toNat : Int)) := yg.out.cell 1
  have b2 : w1.cell? ⟨H, 2, none⟩ = some (.int .u32 (y.h.toNat : Int)) := yg.out.cell 2
  clear a0 a1 a2 c0 hw1 hH
  have d0 := over_cell b0
  have d1 := over_cell b1
  have d2 := over_cell b2
  by_cases q1 : y.n.toInt = 1
  · have z1 : (y.n == 1 || y.n == -1) = true := by rw [(toInt_one _).1 q1]; decide
    have r1 : decide (y.n.toInt = 1) = true := decide_eq_true q1
    by_cases q3 : (y.h.toNat : Int) = ((ckV y.x).toNat : Int)
    · skip
      have z3 : (y.h == ckV y.x) = true := by rw [beq_iff_eq]; exact BitVec.eq_of_toNat_eq (by omega)
      have r3 : decide ((y.h.toNat : Int) = ((ckV y.x).toNat : Int)) = true := decide_eq_true q3
      refine over_region (W := w1) (by kernel_rfl) (by kernel_rfl) (by repeat (first | exact Below.refl _ _ | refine bl_drewN ?_ _ | refine bl_drew ?_ | refine bl_alloc ?_ _)) ?_
      repeat (go_big_quiet_step (exact over_same (check_any y.x _)))
      refine wpQuiet_nil ?_
      intro _ hx_
      obtain ⟨x_, hx_⟩ := hx_
      subst hx_
      obtain ⟨w2, hb2⟩ := x_
      dsimp only
      have e1 := over_at d1 w2 hb2
      have S2 := Lib.hid (HS.out.below (bl_then B1.out hb2))
      have B2 := Lib.hid (bl_then B1.out hb2)
      clear hb2 d0 d1 d2 b0 b1 b2
      go_wp2_with fail
      refine (places_x y.x g _ _ cap HS.out.n3 n2 w2 S2.out.b).mono ?_
      rintro e w3 ⟨rfl, hb3⟩
      have B3 := Lib.hid (bl_then B2.out hb3)
      clear hb3 e1
      go_wp2_with fail
      obtain ⟨w4, hw4⟩ : ∃ w4, w4 = w3.alloc (.cells #[.int .i64 (plc L.length y.x 0 : Int), .int .i64 (plc L.length y.x 1 : Int), .int .i64 (plc L.length y.x 2 : Int)] 50) := ⟨_, rfl⟩
      rw [← hw4]
      have X4 : GR.Blk w4 w3.heap.size 50 #[.int .i64 (plc L.length y.x 0 : Int), .int .i64 (plc L.length y.x 1 : Int), .int .i64 (plc L.length y.x 2 : Int)] := by rw [hw4]; exact newAt _ _ rfl
      have B4 := Lib.hid (show Below w.heap.size w w4 from by rw [hw4]; exact bl_alloc B3.out _)
      clear hw4
      refine (Try.slices_Contains_int w3.heap.size 0 3 3 [(plc L.length y.x 0 : Int), (plc L.length y.x 1 : Int), (plc L.length y.x 2 : Int)] (i : Int) w4 (by simp) (by omega) (three_at X4)).mono ?_
      rintro e w5 ⟨rfl, rfl⟩
      rw [isP_list]
      go_wp2
      go_ret
      refine ⟨?_, B4.out⟩
      refine ret_bool ?_
      rw [HP.out, z1, z3]
      simp
    · skip
      have z3 : (y.h == ckV y.x) = false := by rw [beq_eq_false_iff_ne]; intro h; exact q3 (by rw [h])
      have r3 : decide ((y.h.toNat : Int) = ((ckV y.x).toNat : Int)) = false := decide_eq_false q3
      refine over_region (W := w1) (by kernel_rfl) (by kernel_rfl) (by repeat (first | exact Below.refl _ _ | refine bl_drewN ?_ _ | refine bl_drew ?_ | refine bl_alloc ?_ _)) ?_
      repeat (go_big_quiet_step (exact over_same (check_any y.x _)))
      refine wpQuiet_nil ?_
      intro _ hx_
      obtain ⟨x_, hx_⟩ := hx_
      subst hx_
      obtain ⟨w2, hb2⟩ := x_
      dsimp only
      have B2 := Lib.hid (bl_then B1.out hb2)
      clear hb2 d0 d1 d2 b0 b1 b2
      go_wp2
      go_ret
      refine ⟨?_, B2.out⟩
      refine ret_bool ?_
      rw [HP.out, z3]
      simp
  · have r1 : decide (y.n.toInt = 1) = false := decide_eq_false q1
    by_cases q2 : y.n.toInt = -1
    · have z1 : (y.n == 1 || y.n == -1) = true := by rw [(toInt_neg _).1 q2]; decide
      have r2 : decide (y.n.toInt = -1) = true := decide_eq_true q2
      by_cases q3 : (y.h.toNat : Int) = ((ckV y.x).toNat : Int)
      · skip
        have z3 : (y.h == ckV y.x) = true := by rw [beq_iff_eq]; exact BitVec.eq_of_toNat_eq (by omega)
        have r3 : decide ((y.h.toNat : Int) = ((ckV y.x).toNat : Int)) = true := decide_eq_true q3
        refine over_region (W := w1) (by kernel_rfl) (by kernel_rfl) (by repeat (first | exact Below.refl _ _ | refine bl_drewN ?_ _ | refine bl_drew ?_ | refine bl_alloc ?_ _)) ?_
        repeat (go_big_quiet_step (exact over_same (check_any y.x _)))
        refine wpQuiet_nil ?_
        intro _ hx_
        obtain ⟨x_, hx_⟩ := hx_
        subst hx_
        obtain ⟨w2, hb2⟩ := x_
        dsimp only
        have e1 := over_at d1 w2 hb2
        have S2 := Lib.hid (HS.out.below (bl_then B1.out hb2))
        have B2 := Lib.hid (bl_then B1.out hb2)
        clear hb2 d0 d1 d2 b0 b1 b2
        go_wp2_with fail
        refine (places_x y.x g _ _ cap HS.out.n3 n2 w2 S2.out.b).mono ?_
        rintro e w3 ⟨rfl, hb3⟩
        have B3 := Lib.hid (bl_then B2.out hb3)
        clear hb3 e1
        go_wp2_with fail
        obtain ⟨w4, hw4⟩ : ∃ w4, w4 = w3.alloc (.cells #[.int .i64 (plc L.length y.x 0 : Int), .int .i64 (plc L.length y.x 1 : Int), .int .i64 (plc L.length y.x 2 : Int)] 50) := ⟨_, rfl⟩
        rw [← hw4]
        have X4 : GR.Blk w4 w3.heap.size 50 #[.int .i64 (plc L.length y.x 0 : Int), .int .i64 (plc L.length y.x 1 : Int), .int .i64 (plc L.length y.x 2 : Int)] := by rw [hw4]; exact newAt _ _ rfl
        have B4 := Lib.hid (show Below w.heap.size w w4 from by rw [hw4]; exact bl_alloc B3.out _)
        clear hw4
        refine (Try.slices_Contains_int w3.heap.size 0 3 3 [(plc L.length y.x 0 : Int), (plc L.length y.x 1 : Int), (plc L.length y.x 2 : Int)] (i : Int) w4 (by simp) (by omega) (three_at X4)).mono ?_
        rintro e w5 ⟨rfl, rfl⟩
        rw [isP_list]
        go_wp2
        go_ret
        refine ⟨?_, B4.out⟩
        refine ret_bool ?_
        rw [HP.out, z1, z3]
        simp
      · skip
        have z3 : (y.h == ckV y.x) = false := by rw [beq_eq_false_iff_ne]; intro h; exact q3 (by rw [h])
        have r3 : decide ((y.h.toNat : Int) = ((ckV y.x).toNat : Int)) = false := decide_eq_false q3
        refine over_region (W := w1) (by kernel_rfl) (by kernel_rfl) (by repeat (first | exact Below.refl _ _ | refine bl_drewN ?_ _ | refine bl_drew ?_ | refine bl_alloc ?_ _)) ?_
        repeat (go_big_quiet_step (exact over_same (check_any y.x _)))
        refine wpQuiet_nil ?_
        intro _ hx_
        obtain ⟨x_, hx_⟩ := hx_
        subst hx_
        obtain ⟨w2, hb2⟩ := x_
        dsimp only
        have B2 := Lib.hid (bl_then B1.out hb2)
        clear hb2 d0 d1 d2 b0 b1 b2
        go_wp2
        go_ret
        refine ⟨?_, B2.out⟩
        refine ret_bool ?_
        rw [HP.out, z3]
        simp
    · have z1 : (y.n == 1 || y.n == -1) = false := by
        rw [Bool.or_eq_false_iff, beq_eq_false_iff_ne, beq_eq_false_iff_ne]
        exact ⟨fun h => q1 ((toInt_one _).2 h), fun h => q2 ((toInt_neg _).2 h)⟩
      have r2 : decide (y.n.toInt = -1) = false := decide_eq_false q2
      have r1b : (y.n.toInt != 1) = true := by simpa using q1
      have r2b : (y.n.toInt != -1) = true := by simpa using q2
      refine over_region (W := w1) (by kernel_rfl) (by kernel_rfl) (by repeat (first | exact Below.refl _ _ | refine bl_drewN ?_ _ | refine bl_drew ?_ | refine bl_alloc ?_ _)) ?_
      repeat (go_big_quiet_step (exact over_same (check_any y.x _)))
      refine wpQuiet_nil ?_
      intro _ hx_
      obtain ⟨x_, hx_⟩ := hx_
      subst hx_
      obtain ⟨w2, hb2⟩ := x_
      dsimp only
      have B2 := Lib.hid (bl_then B1.out hb2)
      clear hb2 d0 d1 d2 b0 b1 b2
      go_wp2
      go_ret
      refine ⟨?_, B2.out⟩
      refine ret_bool ?_
      rw [HP.out, z1]
      simp
end Go.Proofs.Ytpklkjekkbpeoaa
