/- DERIVED. The program's Writer: one byte, a number to the base 128, a text, what is told. -/
import Derived.Test.YtpklkjekkbpeoaaFrmUint
import Derived.Laws.BitsAllLaws
namespace Go.Proofs.Ytpklkjekkbpeoaa
open Go.RowKit Go.Lib
set_option linter.unusedVariables false
set_option linter.unusedSimpArgs false

/-- A Writer of the call's own that holds the bytes l. -/
def Wr (w : World) (B g : Nat) (l : List UInt8) : Prop := B ≤ g ∧ ∃ v, GR.Blk w g 97 #[v] ∧ OwnN w B v l
theorem Wr.below {w w' : World} {B g : Nat} {l : List UInt8} (h : Wr w B g l) (hb : Below w.heap.size w w') : Wr w' B g l := by
  obtain ⟨h1, v, h2, h3⟩ := h
  exact ⟨h1, v, h2.below hb h2.lt, h3.below hb⟩
/-- What a Writer's act leaves: every other block that holds no bytes. -/
def Kp (w w' : World) (g : Nat) : Prop := ∀ h t cs, GR.Blk w h t cs → 5 ≠ t → h ≠ g → GR.Blk w' h t cs
theorem Kp.refl (w : World) (g : Nat) : Kp w w g := fun _ _ _ h _ _ => h
theorem Kp.trans {a b c : World} {g : Nat} (h : Kp a b g) (k : Kp b c g) : Kp a c g := fun x t cs h1 h2 h3 => k x t cs (h x t cs h1 h2 h3) h2 h3
theorem kp_app {w w3 : World} {B g : Nat} {v u : Value} {l : List UInt8} (ho : OwnN w B v l) (hg : w.grownBy w3 v.ownBlock) : Kp w (w3.setCell ⟨g, 0, none⟩ u) g :=
  fun _ _ _ b0 ht hne => (b0.grown hg (Ne.symm (ho.ne_blk b0 ht))).far hne _
theorem newWriter_any (w : World) :
    Calls Try.prog 32 #[] w fun e w' => e = .returned (.pointer (some ⟨w.heap.size, 0, none⟩)) ∧ Wr w' w.heap.size w.heap.size [] ∧ Below w.heap.size w w' := by
  go_enter Try.func32, Try.ntmps32
  go_wp2
  go_ret
  exact ⟨rfl, ⟨Nat.le_refl _, _, GR.Blk.new _ _ _, OwnN.nil _ _⟩, (Below.refl _ _).alloc (Nat.le_refl _) _⟩
theorem told_any (B g : Nat) (l : List UInt8) (w : World) (hw : Wr w B g l) :
    Calls Try.prog 35 #[.pointer (some ⟨g, 0, none⟩)] w fun e w' => e = .returned (.string ⟨l.toArray⟩) ∧ w = w' := by
  obtain ⟨_, v, bg, ho⟩ := hw
  have c0 : w.cell? ⟨g, 0, none⟩ = some v := bg.cell 0
  have hcv := ownN_str ho
  clear bg ho
  go_enter Try.func35, Try.ntmps35
  go_wp2
  go_ret
  exact ⟨rfl, rfl⟩

set_option maxRecDepth 100000 in
set_option maxHeartbeats 3200000 in
theorem byte_any (B g : Nat) (l : List UInt8) (n : Int) (x : UInt8) (w : World) (hw : Wr w B g l) (hn : n = bv x) (hl : l.length + 1 ≤ 140737488355328) :
    Calls Try.prog 33 #[.pointer (some ⟨g, 0, none⟩), .int .u8 n] w fun e w' => e = .returned (.tuple #[]) ∧ Wr w' B g (l ++ [x]) ∧ Below B w w' := by
  subst hn
  obtain ⟨hB, v, bg, ho⟩ := hw
  have c0 : w.cell? ⟨g, 0, none⟩ = some v := bg.cell 0
  have f0 := bg.frozen 0
  have lg := bg.lt
  have ng : g ≠ w.heap.size := Nat.ne_of_lt lg
  have BG := Lib.hid bg
  have HO := Lib.hid ho
  have hBw : B ≤ w.heap.size := Nat.le_trans hB (Nat.le_of_lt lg)
  clear bg ho
  go_enter Try.func33, Try.ntmps33
  go_wp2_with (at_builtin; refine app1 rfl (.tmp 10) (.tmp 12) rfl B v l rfl HO.out _ x rfl rfl hl hBw ?_; intro v3 w3 ho_ hg_; obtain ⟨A3, n3, c3, rfl⟩ := ho_.slice'; have B3 : Hid (GR.Blk w3 g 97 #[v]) := Lib.hid (BG.out.grown hg_ (Ne.symm (HO.out.ne_blk BG.out (by decide)))); have HO3 := Lib.hid ho_; have HB3 := Lib.hid ((Below.refl B w).grown hg_ hBw (fun b hb => (HO.out.lt b hb).1)); clear ho_ hg_; have d0 : w3.cell? ⟨g, 0, none⟩ = some v := B3.out.cell 0; have d1 := B3.out.frozen 0)
  go_end0
  exact ⟨rfl, ⟨hB, _, B3.out.set_ 0 _, HO3.out.set_ (HO3.out.ne_blk (t := 97) B3.out (by decide)) _⟩, HB3.out.setCell hB _⟩

set_option maxRecDepth 100000 in
set_option maxHeartbeats 3200000 in
theorem raw_any (B g : Nat) (l : List UInt8) (s : ByteArray) (w : World) (hw : Wr w B g l) (hl : l.length + s.size ≤ 140737488355328) :
    Calls Try.prog 55 #[.pointer (some ⟨g, 0, none⟩), .string s] w fun e w' => e = .returned (.tuple #[]) ∧ Wr w' B g (l ++ s.data.toList) ∧ Below B w w' ∧ Kp w w' g := by
  obtain ⟨hB, v, bg, ho⟩ := hw
  have c0 : w.cell? ⟨g, 0, none⟩ = some v := bg.cell 0
  have f0 := bg.frozen 0
  have lg := bg.lt
  have BG := Lib.hid bg
  have HO := Lib.hid ho
  have hBw : B ≤ w.heap.size := Nat.le_trans hB (Nat.le_of_lt lg)
  clear bg ho
  go_enter Try.func55, Try.ntmps55
  go_wp2_with (at_builtin; refine appS rfl (.tmp 10) (.tmp 11) rfl B v l rfl HO.out s rfl hl hBw ?_; intro v3 w3 ho_ hg_; obtain ⟨A3, n3, c3, rfl⟩ := ho_.slice'; have B3 : Hid (GR.Blk w3 g 97 #[v]) := Lib.hid (BG.out.grown hg_ (Ne.symm (HO.out.ne_blk BG.out (by decide)))); have HO3 := Lib.hid ho_; have HB3 := Lib.hid ((Below.refl B w).grown hg_ hBw (fun b hb => (HO.out.lt b hb).1)); have HG3 := Lib.hid hg_; clear ho_ hg_; have d0 : w3.cell? ⟨g, 0, none⟩ = some v := B3.out.cell 0; have d1 := B3.out.frozen 0)
  go_end0
  exact ⟨rfl, ⟨hB, _, B3.out.set_ 0 _, HO3.out.set_ (HO3.out.ne_blk (t := 97) B3.out (by decide)) _⟩, HB3.out.setCell hB _, kp_app HO.out HG3.out⟩

theorem or128 (k : Nat) : bits .or .u8 ((k : Int) % 256) 128 = ((k % 128 + 128 : Nat) : Int) := by
  rw [u8_or _ _ (by omega) (by omega) (by decide) (by decide)]
  have h1 : ((k : Int) % 256).toNat = k % 256 := by omega
  have h2 : ∀ n : Fin 256, n.val ||| 128 = n.val % 128 + 128 := by decide +kernel
  have h3 := h2 ⟨k % 256, by omega⟩
  rw [h1]
  show (((k % 256) ||| 128 : Nat) : Int) = _
  rw [h3]
  show ((k % 256 % 128 + 128 : Nat) : Int) = _
  omega
set_option maxRecDepth 100000 in
set_option maxHeartbeats 3200000 in
theorem uint_any (B g : Nat) (l : List UInt8) (v : Nat) (hv : v < 18446744073709551616) (w : World) (hw : Wr w B g l) (hl : l.length + 10 ≤ 140737488355328) :
    Calls Try.prog 54 #[.pointer (some ⟨g, 0, none⟩), .int .u64 v] w fun e w' => e = .returned (.tuple #[]) ∧ Wr w' B g (l ++ uintU v) ∧ Below B w w' ∧ Kp w w' g := by
  have hl10 := uintU_len10 hv
  have HW := Lib.hid hw
  have hB : B ≤ g := hw.1
  have hBw : B ≤ w.heap.size := by obtain ⟨h1, _, h2, _⟩ := hw; have := h2.lt; omega
  clear hw
  go_enter Try.func54, Try.ntmps54
  go_wp2
  go_loopw [1] (fun x0 w' => ∃ (k : Nat) (acc : List UInt8), x0 = .int .u64 k ∧ k < 18446744073709551616 ∧ Hid (acc ++ uintU k = uintU v) ∧ Hid (Wr w' B g (l ++ acc)) ∧ Hid (Below B w w') ∧ Hid (Kp w w' g)) (fun x0 _ => (intOf x0).toNat)
  case atStart => exact ⟨v, [], rfl, hv, Lib.hid (by simp), Lib.hid (by rw [List.append_nil]; exact HW.out), Lib.hid (Below.refl _ _), Lib.hid (Kp.refl _ _)⟩
  case round =>
    obtain ⟨k, acc, rfl, hk, hE, hW, hb, hkp⟩ := hrel
    have hsz := hb.out.size
    obtain ⟨_, vv, bg, ho⟩ := hW.out
    have c0 : wr.cell? ⟨g, 0, none⟩ = some vv := bg.cell 0
    have f0 := bg.frozen 0
    have lg := bg.lt
    have ng : g ≠ wr.heap.size := Nat.ne_of_lt lg
    have BG := Lib.hid bg
    have HO := Lib.hid ho
    have hBr : B ≤ wr.heap.size := Nat.le_trans hB (Nat.le_of_lt lg)
    clear bg ho hW
    by_cases hlt : k < 128
    · have hal : acc.length + 1 ≤ 10 := by
        have h9 := congrArg List.length hE.out
        rw [uintU_small hlt] at h9
        simp at h9; omega
      have hal2 : (l ++ acc).length + 1 ≤ 140737488355328 := by simp; omega
      have t1 : decide ((128 : Int) ≤ (k : Int)) = false := by simp; omega
      have t2 : decide (128 ≤ k) = false := by simp; omega
      have t3 : decide (k < 128) = true := by simp; omega
      go_wp2_with (at_builtin; refine app1 rfl (.tmp 26) (.tmp 29) rfl B vv (l ++ acc) rfl HO.out _ (UInt8.ofNat k) rfl (by unfold bv; rw [UInt8.toNat_ofNat']; first | omega | (rw [IntKind.wrap_u8]; omega)) hal2 hBr ?_; intro v3 w3 ho_ hg_; obtain ⟨A3, n3, c3, rfl⟩ := ho_.slice'; have B3 : Hid (GR.Blk w3 g 97 #[vv]) := Lib.hid (BG.out.grown hg_ (Ne.symm (HO.out.ne_blk BG.out (by decide)))); have HO3 := Lib.hid ho_; have HB3 := Lib.hid (hb.out.grown hg_ hBr (fun b hb => (HO.out.lt b hb).1)); have HG3 := Lib.hid hg_; clear ho_ hg_; have d0 : w3.cell? ⟨g, 0, none⟩ = some vv := B3.out.cell 0; have d1 := B3.out.frozen 0)
      go_end0
      have hF : l ++ uintU v = l ++ acc ++ [UInt8.ofNat k] := by rw [← hE.out, uintU_small hlt, List.append_assoc]
      rw [hF]
      exact ⟨rfl, ⟨hB, _, B3.out.set_ 0 _, HO3.out.set_ (HO3.out.ne_blk (t := 97) B3.out (by decide)) _⟩, HB3.out.setCell hB _, hkp.out.trans (kp_app HO.out HG3.out)⟩
    · have hal : acc.length + 1 ≤ 10 := by
        have h9 := congrArg List.length hE.out
        rw [uintU_big hlt] at h9
        simp at h9; omega
      have hal2 : (l ++ acc).length + 1 ≤ 140737488355328 := by simp; omega
      have t1 : decide ((128 : Int) ≤ (k : Int)) = true := by simp; omega
      have t2 : decide (128 ≤ k) = true := by simp; omega
      have t3 : decide (k < 128) = false := by simp; omega
      have t4 := or128 k
      go_wp2_with (at_builtin; refine app1 rfl (.tmp 12) (.tmp 16) rfl B vv (l ++ acc) rfl HO.out _ (UInt8.ofNat (k % 128 + 128)) rfl (by unfold bv; rw [UInt8.toNat_ofNat']; first | omega | (rw [IntKind.wrap_u8]; omega) | (rw [or128]; omega) | (rw [IntKind.wrap_u8, or128]; omega)) hal2 hBr ?_; intro v3 w3 ho_ hg_; obtain ⟨A3, n3, c3, rfl⟩ := ho_.slice'; have B3 : Hid (GR.Blk w3 g 97 #[vv]) := Lib.hid (BG.out.grown hg_ (Ne.symm (HO.out.ne_blk BG.out (by decide)))); have HO3 := Lib.hid ho_; have HB3 := Lib.hid (hb.out.grown hg_ hBr (fun b hb => (HO.out.lt b hb).1)); have HG3 := Lib.hid hg_; clear ho_ hg_; have d0 : w3.cell? ⟨g, 0, none⟩ = some vv := B3.out.cell 0; have d1 := B3.out.frozen 0)
      go_roundw
      case rel => exact ⟨k / 128, acc ++ [UInt8.ofNat (k % 128 + 128)], by go_num, by omega, Lib.hid (by rw [← hE.out, uintU_big hlt, List.append_assoc]; rfl), Lib.hid (by rw [← List.append_assoc]; exact ⟨hB, _, B3.out.set_ 0 _, HO3.out.set_ (HO3.out.ne_blk (t := 97) B3.out (by decide)) _⟩), Lib.hid (HB3.out.setCell hB _), Lib.hid (hkp.out.trans (kp_app HO.out HG3.out))⟩
      case measure => simp [intOf]; omega

theorem wtext_any (B g : Nat) (l : List UInt8) (s : ByteArray) (w : World) (hw : Wr w B g l) (hl : l.length + 10 + s.size ≤ 140737488355328) :
    Calls Try.prog 34 #[.pointer (some ⟨g, 0, none⟩), .string s] w fun e w' => e = .returned (.tuple #[]) ∧ Wr w' B g (l ++ textU s) ∧ Below B w w' ∧ Kp w w' g := by
  have hl10 := uintU_len10 (show s.size < 18446744073709551616 by omega)
  have HW := Lib.hid hw
  clear hw
  go_enter Try.func34, Try.ntmps34
  go_wp2_with fail
  refine (uint_any B g l s.size (by omega) _ HW.out (by omega)).mono ?_
  rintro e w1 ⟨rfl, hw1, hb1, hk1⟩
  have HW1 := Lib.hid hw1
  have HB1 := Lib.hid hb1
  have HK1 := Lib.hid hk1
  clear hw1 hb1 hk1
  go_wp2_with fail
  refine (raw_any B g _ s _ HW1.out (by simp; omega)).mono ?_
  rintro e w2 ⟨rfl, hw2, hb2, hk2⟩
  have HW2 := Lib.hid hw2
  have HB2 := Lib.hid (HB1.out.trans hb2)
  have HK2 := Lib.hid (HK1.out.trans hk2)
  clear hw2 hb2 hk2
  go_wp2
  go_end0
  exact ⟨rfl, by rw [textU, ← List.append_assoc]; exact HW2.out, HB2.out, HK2.out⟩
end Go.Proofs.Ytpklkjekkbpeoaa
