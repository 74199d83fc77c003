/- DERIVED. DvvNames: the walk of the law. -/
import Derived.Test.YtkpckpglmiodbaaFrmWr
import Derived.Laws.ResultCell
namespace Go.Proofs.Ytkpckpglmiodbaa
open Go.RowKit

theorem vecValid_nil (w : World) : Calls Try.prog 40 #[.slice none 0 0] w fun e w' => e = .returned (.bool true) ∧ w = w' := by
  go_enter Try.func40, Try.ntmps40
  go_wp2
  go_loopw [7] (fun i w' => i = .int .i64 0 ∧ w = w') (fun _ _ => 0)
  case atStart => exact ⟨rfl, rfl⟩
  case round =>
    obtain ⟨rfl, rfl⟩ := hrel
    go_wp2
    go_ret
    exact ⟨rfl, rfl⟩
theorem dvvValid_none (w : World) : Calls Try.prog 20 #[.agg #[.slice none 0 0, .slice none 0 0]] w fun e w' => e = .returned (.bool true) ∧ Below w.heap.size w w' := by
  go_enter Try.func20, Try.ntmps20
  go_wp2_with (go_at_call 40; refine (vecValid_nil _).mono ?_; rintro e w1 ⟨rfl, rfl⟩)
  go_loopw [18] (fun i w' => i = .int .i64 0 ∧ w.alloc (.cells #[.slice none 0 0, .slice none 0 0] 49) = w') (fun _ _ => 0)
  case atStart => exact ⟨rfl, rfl⟩
  case round =>
    obtain ⟨rfl, rfl⟩ := hrel
    go_wp2
    go_ret
    exact ⟨rfl, (Below.refl _ _).alloc (Nat.le_refl _) _⟩
theorem uint0 (B g : Nat) (l : List UInt8) (w : World) (hw : Wr w B g l) (hl : l.length + 10 ≤ 140737488355328) :
    Calls Try.prog 33 #[.pointer (some ⟨g, 0, none⟩), .int .u64 0] w fun e w' => e = .returned (.tuple #[]) ∧ Wr w' B g (l ++ [0]) ∧ Below B w w' ∧ Kp w w' g := by
  have h := uint_any B g l 0 (by omega) w hw hl
  rw [uintU_small (by omega)] at h
  exact h
theorem vecPut_nil (B g : Nat) (l : List UInt8) (w : World) (hw : Wr w B g l) (hl : l.length + 10 ≤ 140737488355328) :
    Calls Try.prog 32 #[.pointer (some ⟨g, 0, none⟩), .slice none 0 0] w fun e w' => e = .returned (.int .i64 0) ∧ Wr w' B g (l ++ [0]) ∧ Below B w w' ∧ Kp w w' g := by
  go_enter Try.func32, Try.ntmps32
  go_wp2_with fail
  refine (vecValid_nil _).mono ?_
  rintro e w1 ⟨rfl, rfl⟩
  go_wp2_with fail
  refine (uint0 B g l _ hw hl).mono ?_
  rintro e w1 ⟨rfl, hw1, hb1, hk1⟩
  have HP := Lib.hid (And.intro hw1 (And.intro hb1 hk1))
  clear hw1 hb1 hk1
  go_wp2
  go_loopw [19] (fun i w' => i = .int .i64 0 ∧ w1 = w') (fun _ _ => 0)
  case atStart => exact ⟨rfl, rfl⟩
  case round =>
    obtain ⟨rfl, rfl⟩ := hrel
    go_wp2
    go_ret
    exact ⟨rfl, HP.out.1, HP.out.2.1, HP.out.2.2⟩

set_option maxRecDepth 100000 in
set_option maxHeartbeats 3200000 in
theorem encode_none (w : World) : Calls Try.prog 18 #[.agg #[.slice none 0 0, .slice none 0 0]] w fun e w' => e = .returned (.tuple #[.string ⟨#[0, 0]⟩, .int .i64 0]) ∧ Below w.heap.size w w' := by
  go_enter Try.func18, Try.ntmps18
  go_wp2_with fail
  refine (dvvValid_none _).mono ?_
  rintro e w1 ⟨rfl, hb1⟩
  have X1 : GR.Blk w1 w.heap.size 49 #[.slice none 0 0, .slice none 0 0] := (GR.Blk.new w 49 #[.slice none 0 0, .slice none 0 0]).below hb1 (by simp)
  have B1 := Lib.hid (bl_then ((Below.refl w.heap.size w).alloc (Nat.le_refl _) _) hb1)
  have KX := Lib.hid X1
  have hlt := X1.lt
  clear hb1 X1
  go_wp2_with fail
  refine (newWriter_any _).mono ?_
  rintro e w2 ⟨rfl, hw2, hb2⟩
  have W2 := Lib.hid hw2
  have X2 := KX.out.below hb2 hlt
  have x0 : w2.cell? ⟨w.heap.size, 0, none⟩ = some (.slice none 0 0) := X2.cell 0
  have BW := Lib.hid hb2
  clear hw2 hb2 X2
  go_wp2_with fail
  refine (vecPut_nil _ _ [] _ W2.out (by simp)).mono ?_
  rintro e w3 ⟨rfl, hw3, hb3, _⟩
  have W3 := Lib.hid hw3
  have N_ := Lib.hid (BW.out.trans hb3)
  clear BW hw3 hb3
  have BW := N_
  clear N_
  have X3 := KX.out.below BW.out hlt
  have x1 : w3.cell? ⟨w.heap.size, 1, none⟩ = some (.slice none 0 0) := X3.cell 1
  clear X3
  go_wp2_with fail
  refine (uint0 _ _ _ _ W3.out (by simp)).mono ?_
  rintro e w4 ⟨rfl, hw4, hb4, _⟩
  have W4 := Lib.hid hw4
  have N_ := Lib.hid (BW.out.trans hb4)
  clear BW hw4 hb4
  have BW := N_
  clear N_
  have X4 := KX.out.below BW.out hlt
  have x2 : w4.cell? ⟨w.heap.size, 1, none⟩ = some (.slice none 0 0) := X4.cell 1
  clear X4
  go_wp2
  go_loopw [25] (fun i w' => i = .int .i64 0 ∧ w4 = w') (fun _ _ => 0)
  case atStart => exact ⟨rfl, rfl⟩
  case round =>
    obtain ⟨rfl, rfl⟩ := hrel
    go_wp2_with fail
    refine (told_any _ _ _ _ W4.out).mono ?_
    rintro e w5 ⟨rfl, rfl⟩
    go_wp2
    go_ret2
    exact ⟨rfl, bl_then B1.out BW.out⟩

theorem bl_g (g i n : Nat) (w : World) (u : Value) : Below g w ((w.drewN n).setCell ⟨g, i, none⟩ u) := Below.setCell ((show Drawn w (w.drewN n) from ⟨n, rfl⟩).below g) (Nat.le_refl _) _
def Z2 : ByteArray := ⟨#[0, 0]⟩
theorem newReader_any (w : World) : Calls Try.prog 34 #[.string Z2] w fun e w' => e = .returned (.pointer (some ⟨w.heap.size, 0, none⟩)) ∧ GR.Blk w' w.heap.size 106 #[.string Z2, .int .i64 0, .int .i64 0] ∧ Below w.heap.size w w' := by
  go_enter Try.func34, Try.ntmps34
  go_wp2
  go_ret
  exact ⟨rfl, GR.Blk.new _ _ _, (Below.refl _ _).alloc (Nat.le_refl _) _⟩
set_option maxRecDepth 100000 in
set_option maxHeartbeats 3200000 in
theorem rUint_any (g : Nat) (k most : Int) (hk : k = 0 ∨ k = 1) (hm : 0 ≤ most) (w : World) (bg : GR.Blk w g 106 #[.string Z2, .int .i64 k, .int .i64 0]) :
    Calls Try.prog 36 #[.pointer (some ⟨g, 0, none⟩), .int .u64 most] w fun e w' => e = .returned (.int .u64 0) ∧ GR.Blk w' g 106 #[.string Z2, .int .i64 (k + 1), .int .i64 0] ∧ Below g w w' ∧ ∀ h t cs, GR.Blk w h t cs → h ≠ g → GR.Blk w' h t cs := by
  have c0 : w.cell? ⟨g, 0, none⟩ = some (.string Z2) := bg.cell 0
  have c1 : w.cell? ⟨g, 1, none⟩ = some (.int .i64 k) := bg.cell 1
  have c2 : w.cell? ⟨g, 2, none⟩ = some (.int .i64 0) := bg.cell 2
  have f1 := bg.frozen 1
  have hz : Z2.size = 2 := rfl
  have d1 : decide (most < 0) = false := by simp; omega
  have e1 : bits .and .u8 0 127 = 0 := by decide
  have e2 : IntKind.u64.wrap 0 = 0 := by decide
  have e3 : bits .or .u64 0 0 = 0 := by decide
  have BG := Lib.hid bg
  clear bg
  rcases hk with rfl | rfl
  all_goals
    go_enter Try.func36, Try.ntmps36
    go_wp2
    go_loopw [5, 17] (fun v i w' => v = .int .u64 0 ∧ i = .int .i64 0 ∧ w = w') (fun _ _ _ => 0)
    case atStart => exact ⟨rfl, rfl, rfl⟩
    case round =>
      obtain ⟨rfl, rfl, rfl⟩ := hrel
      go_wp2
      go_quiet (fail)
      go_wp2
      go_quiet (fail)
      go_wp2
      go_ret
      exact ⟨ret_int (by rw [e1, e2, e2, e3]), (BG.out.drewN _).set_ 1 _, bl_g _ _ _ _ _, fun h t cs b hne => (b.drewN _).far hne _⟩

theorem rErr_any (g : Nat) (k : Int) (w : World) (bg : GR.Blk w g 106 #[.string Z2, .int .i64 k, .int .i64 0]) :
    Calls Try.prog 56 #[.pointer (some ⟨g, 0, none⟩)] w fun e w' => e = .returned (.int .i64 0) ∧ w = w' := by
  have c2 : w.cell? ⟨g, 2, none⟩ = some (.int .i64 0) := bg.cell 2
  clear bg
  go_enter Try.func56, Try.ntmps56
  go_wp2
  go_ret
  exact ⟨rfl, rfl⟩
theorem rEnd_any (g : Nat) (w : World) (bg : GR.Blk w g 106 #[.string Z2, .int .i64 2, .int .i64 0]) :
    Calls Try.prog 39 #[.pointer (some ⟨g, 0, none⟩)] w fun e w' => e = .returned (.int .i64 0) ∧ Drawn w w' := by
  have c0 : w.cell? ⟨g, 0, none⟩ = some (.string Z2) := bg.cell 0
  have c1 : w.cell? ⟨g, 1, none⟩ = some (.int .i64 2) := bg.cell 1
  have c2 : w.cell? ⟨g, 2, none⟩ = some (.int .i64 0) := bg.cell 2
  have hz : Z2.size = 2 := rfl
  have BG := Lib.hid bg
  clear bg
  go_enter Try.func39, Try.ntmps39
  go_wp2
  go_quiet (fail)
  go_wp2_with (go_at_call 56; refine (rErr_any _ _ _ (BG.out.drewN _)).mono ?_; rintro e w1 ⟨rfl, rfl⟩)
  go_ret
  exact ⟨rfl, _, rfl⟩
set_option maxRecDepth 100000 in
set_option maxHeartbeats 3200000 in
theorem vecTake_none (g : Nat) (w : World) (bg : GR.Blk w g 106 #[.string Z2, .int .i64 0, .int .i64 0]) :
    Calls Try.prog 35 #[.pointer (some ⟨g, 0, none⟩)] w fun e w' => e = .returned (.slice none 0 0) ∧ GR.Blk w' g 106 #[.string Z2, .int .i64 1, .int .i64 0] ∧ Below g w w' := by
  have BG := Lib.hid bg
  clear bg
  go_enter Try.func35, Try.ntmps35
  go_wp2_with fail
  refine (rUint_any g 0 _ (.inl rfl) (by omega) _ BG.out).mono ?_
  rintro e w1 ⟨rfl, bg1, hb1, _⟩
  have B1 := Lib.hid (show GR.Blk w1 g 106 #[.string Z2, .int .i64 1, .int .i64 0] from bg1)
  have L1 := Lib.hid hb1
  clear bg1 hb1
  go_wp2
  go_loopw [3, 8] (fun v i w' => v = .slice none 0 0 ∧ i = .int .u64 0 ∧ w1 = w') (fun _ _ _ => 0)
  case atStart => exact ⟨rfl, rfl, rfl⟩
  case round =>
    obtain ⟨rfl, rfl, rfl⟩ := hrel
    go_wp2_with fail
    refine (rErr_any _ _ _ B1.out).mono ?_
    rintro e w2 ⟨rfl, rfl⟩
    go_wp2_with fail
    refine (vecValid_nil _).mono ?_
    rintro e w2 ⟨rfl, rfl⟩
    go_wp2_with fail
    refine (rErr_any _ _ _ B1.out).mono ?_
    rintro e w2 ⟨rfl, rfl⟩
    go_wp2
    go_ret
    exact ⟨rfl, B1.out, L1.out⟩

set_option maxRecDepth 100000 in
set_option maxHeartbeats 3200000 in
theorem decode_none (w : World) : Calls Try.prog 19 #[.string Z2] w fun e w' => e = .returned (.tuple #[.agg #[.slice none 0 0, .slice none 0 0], .int .i64 0]) ∧ Below w.heap.size w w' := by
  have X0 := Lib.hid (GR.Blk.new w 49 #[.slice none 0 0, .slice none 0 0])
  go_enter Try.func19, Try.ntmps19
  go_wp2_with fail
  refine (newReader_any _).mono ?_
  rintro e w1 ⟨rfl, bg1, hb1⟩
  have X1 := Lib.hid (X0.out.below hb1 X0.out.lt)
  have B1 := Lib.hid bg1
  have L1 := Lib.hid (bl_then ((Below.refl w.heap.size w).alloc (Nat.le_refl _) _) hb1)
  have hgs : (w.alloc (.cells #[.slice none 0 0, .slice none 0 0] 49)).heap.size = w.heap.size + 1 := by simp
  rw [hgs] at B1
  clear hb1 bg1 X0
  go_wp2_with fail
  refine (vecTake_none _ _ B1.out).mono ?_
  rintro e w2 ⟨rfl, bg2, hb2⟩
  have X2 := Lib.hid (X1.out.below hb2 (by omega))
  have B2 := Lib.hid (bg2.alloc (.cells #[.slice none 0 0, .slice none 0 0] 49))
  have hgl := bg2.lt
  have L2 := Lib.hid (bl_alloc (L1.out.trans (hb2.mono (by omega))) (.cells #[.slice none 0 0, .slice none 0 0] 49))
  clear hb2 bg2 X1 B1 L1
  go_wp2_with fail
  refine (rUint_any _ 1 _ (.inr rfl) (by omega) _ B2.out).mono ?_
  rintro e w3 ⟨rfl, bg3, hb3, hk3⟩
  have B3 := Lib.hid (show GR.Blk w3 (w.heap.size + 1) 106 #[.string Z2, .int .i64 2, .int .i64 0] from bg3)
  have X3 := Lib.hid (hk3 _ _ _ (X2.out.alloc (.cells #[.slice none 0 0, .slice none 0 0] 49)) (by omega))
  have Y3 := Lib.hid (hk3 _ _ _ (GR.Blk.new w2 49 #[.slice none 0 0, .slice none 0 0]) (by omega))
  have L3 := Lib.hid (L2.out.trans (hb3.mono (by omega)))
  clear hb3 bg3 hk3 B2 L2 X2
  go_wp2
  go_loopw [18] (fun i w' => i = .int .i64 0 ∧ w3 = w') (fun _ _ => 0)
  case atStart => exact ⟨rfl, rfl⟩
  case round =>
    obtain ⟨rfl, rfl⟩ := hrel
    go_wp2_with fail
    refine (rEnd_any _ _ B3.out).mono ?_
    rintro e w4 ⟨rfl, hd⟩
    have Y4 := Y3.out.below (hd.below _) Y3.out.lt
    have x0 : w4.cell? ⟨w2.heap.size, 0, none⟩ = some (.slice none 0 0) := Y4.cell 0
    have x1 : w4.cell? ⟨w2.heap.size, 1, none⟩ = some (.slice none 0 0) := Y4.cell 1
    have X4 := Lib.hid (X3.out.below (hd.below _) X3.out.lt)
    have K4 := Lib.hid Y4
    have L4 := Lib.hid (bl_drawn L3.out hd)
    clear hd Y4
    go_wp2_with fail
    refine (dvvValid_none _).mono ?_
    rintro e w5 ⟨rfl, hb5⟩
    have Y5 := K4.out.below hb5 K4.out.lt
    have X5 := X4.out.below hb5 X4.out.lt
    have x0 : w5.cell? ⟨w2.heap.size, 0, none⟩ = some (.slice none 0 0) := Y5.cell 0
    have x1 : w5.cell? ⟨w2.heap.size, 1, none⟩ = some (.slice none 0 0) := Y5.cell 1
    have z0 : w5.cell? ⟨w.heap.size, 0, none⟩ = some (.slice none 0 0) := X5.cell 0
    have z1 : w5.cell? ⟨w.heap.size, 1, none⟩ = some (.slice none 0 0) := X5.cell 1
    have f0 := X5.frozen 0
    have f1 := X5.frozen 1
    have L5 := Lib.hid (bl_then L4.out hb5)
    have KX := Lib.hid X5
    clear hb5 Y5 X5
    go_wp2
    refine bodyPost_ret ((results_cell_tmp rfl _ _ _).trans (by go_simp; rfl)) rfl ?_
    exact ⟨rfl, (L5.out.setCell (Nat.le_refl _) _).setCell (Nat.le_refl _) _⟩

set_option maxRecDepth 100000 in
set_option maxHeartbeats 3200000 in
theorem dvvNames_walk (w : World) :
    Calls Try.prog 6 #[] w fun e w' => e = .returned (.bool true) ∧ Below w.heap.size w w' := by
  have hd := fun W => decode_none W
  unfold Z2 at hd
  go_enter Try.func6, Try.ntmps6
  go_wp2_with fail
  refine (encode_none _).mono ?_
  rintro e w1 ⟨rfl, hb1⟩
  have L1 := Lib.hid hb1
  clear hb1
  go_wp2_with fail
  refine (hd _).mono ?_
  rintro e w2 ⟨rfl, hb2⟩
  have L2 := Lib.hid (bl_alloc (bl_then L1.out hb2) (.cells #[.slice none 0 0, .slice none 0 0] 49))
  have X2 := Lib.hid (GR.Blk.new w2 49 #[.slice none 0 0, .slice none 0 0])
  clear hb2 L1 hd
  go_wp2_with fail
  refine (dvvValid_none _).mono ?_
  rintro e w3 ⟨rfl, hb3⟩
  have X3 := X2.out.below hb3 X2.out.lt
  have x0 : w3.cell? ⟨w2.heap.size, 0, none⟩ = some (.slice none 0 0) := X3.cell 0
  have x1 : w3.cell? ⟨w2.heap.size, 1, none⟩ = some (.slice none 0 0) := X3.cell 1
  have L3 := Lib.hid (bl_then L2.out hb3)
  clear hb3 X3
  go_wp2
  go_ret
  exact ⟨rfl, L3.out⟩
end Go.Proofs.Ytkpckpglmiodbaa
