/- DERIVED. SegmentPieces: the walk of the law. -/
import Derived.Test.YtejodabmddcanaaSegAgain
import Derived.Test.YtejodabmddcanaaSegPiece2
namespace Go.Proofs.Ytejodabmddcanaa
open Go.RowKit

theorem pieceL_len (l : List Ent) (k : ByteArray) : (pieceL l k).length ≤ l.length := by
  unfold pieceL
  split
  · simp; omega
  · simp

set_option maxRecDepth 100000 in
set_option maxHeartbeats 3200000 in
theorem pieces_walk (A : Option Addr) (c : Nat) (l : List Ent) (key : ByteArray) (w : World) (hr : Rd w A l) (hl : l.length ≤ 4398046510976) :
    Calls Try.prog 4 #[.slice A l.length c, .string key] w fun e w' => e = .returned (.bool true) ∧ Below w.heap.size w w' := by
  obtain ⟨i0, hi0, hz0, hz1, hz2⟩ := info_parts entry_info
  have HR := Lib.hid hr
  clear hr
  have bb : (pieceB l key != pieceB l key) = false := by simp
  have hpl := pieceL_len l key
  go_enter Try.func4, Try.ntmps4
  go_wp2_with fail
  refine (lent_any A c l w HR.out hl).mono ?_
  rintro e w1 ⟨g, cap, rfl, hcap, ho1, hb1⟩
  have I1 := Lib.hid ho1
  have B1 := Lib.hid hb1
  clear ho1 hb1
  go_wp2_with fail
  refine (refPiece_any A c l key _ (HR.out.below B1.out)).mono ?_
  rintro e w2 ⟨v3, rfl, ho3, hb2⟩
  have W2 := Lib.hid (ho3.base B1.out.size)
  have X3 := Lib.hid (fun k hk => (ho3.lt k hk).1)
  have B2 := Lib.hid (bl_then B1.out hb2)
  have I2 := Lib.hid (I1.out.below hb2)
  have XI := Lib.hid (show g < w1.heap.size from (I1.out.lt g rfl).2)
  clear ho3 hb2 I1
  have RI2 := Lib.hid ((I2.out.take).rd (by omega)).2
  go_wp2_with fail
  refine (segPiece_any _ cap l key _ RI2.out hcap).mono ?_
  rintro e w3 ⟨v1, rfl, ho1, hb3⟩
  have W3 := Lib.hid (W2.out.below hb3)
  have O3 := Lib.hid (ho1.base B2.out.size)
  have X1 := Lib.hid (fun k hk => (ho1.lt k hk).1)
  have X3' := Lib.hid (fun k hk => (W2.out.lt k hk).2)
  have B3 := Lib.hid (bl_then B2.out hb3)
  have I3 := Lib.hid (I2.out.below hb3)
  have XI2 := Lib.hid (show g < w2.heap.size from (I2.out.lt g rfl).2)
  clear ho1 hb3 I2 W2 RI2
  have RI3 := Lib.hid ((I3.out.take).rd (by omega)).2
  go_wp2_with fail
  refine (segPiece_any _ cap l key _ RI3.out hcap).mono ?_
  rintro e w4 ⟨v2, rfl, ho2, hb4⟩
  have W4 := Lib.hid (W3.out.below hb4)
  have O4 := Lib.hid (O3.out.below hb4)
  have T4 := Lib.hid (ho2.base B3.out.size)
  have X2 := Lib.hid (fun k hk => (ho2.lt k hk).1)
  have X1' := Lib.hid (fun k hk => (O3.out.lt k hk).2)
  have B4 := Lib.hid (bl_then B3.out hb4)
  have I4 := Lib.hid (I3.out.below hb4)
  have XI3 := Lib.hid (show g < w3.heap.size from (I3.out.lt g rfl).2)
  clear ho2 hb4 I3 W3 O3 RI3
  have R4 := Lib.hid (HR.out.below B4.out)
  go_wp2_with fail
  refine (kept_any g cap w.heap.size A c l _ R4.out hl I4.out).mono ?_
  rintro e w5 ⟨rfl, hb5⟩
  have W5 := Lib.hid (W4.out.below hb5)
  have O5 := Lib.hid (O4.out.below hb5)
  have T5 := Lib.hid (T4.out.below hb5)
  have I5 := Lib.hid ((I4.out.below hb5).take)
  have B5 := Lib.hid (bl_then B4.out hb5)
  clear hb5 I4 W4 O4 T4
  go_wp2_with fail
  refine (again_any w.heap.size _ v1 v2 v3 l (pieceL l key) _ (by omega) (by omega) B5.out.size I5.out O5.out T5.out W5.out
    (Apart.of_lt (B := w2.heap.size) (fun k hk => by cases hk; exact XI2.out) X1.out).symm
    (Apart.of_lt (B := w3.heap.size) (fun k hk => by cases hk; exact XI3.out) X2.out).symm
    (Apart.of_lt (B := w1.heap.size) (fun k hk => by cases hk; exact XI.out) X3.out).symm
    (Apart.of_lt (B := w3.heap.size) X1'.out X2.out).symm
    (Apart.of_lt (B := w2.heap.size) X3'.out X1.out)).mono ?_
  rintro e w6 ⟨rfl, hb6, L', hL', hI6⟩
  have B6 := Lib.hid (B5.out.trans hb6)
  have RI6 := Lib.hid (hI6.rd (by rw [hL']; omega)).2
  have HL := Lib.hid hL'
  clear hb6 hI6 hL'
  have hle : L'.length ≤ 4398046510976 := by rw [HL.out]; exact hl
  go_wp2_with (at_builtin; refine app_twin rfl (.tmp 55) (.tmp 56) _ rfl Try.underlying37 hi0 hz0 hz1 hz2 rfl rfl (some ⟨g, 0, none⟩) l.length cap L' rfl HL.out.symm RI6.out (by omega) ?_; intro v7 w7 ho7 hb7; have O7 := Lib.hid ho7; have B7 := Lib.hid (bl_then B6.out hb7); have RI7 := Lib.hid (RI6.out.below hb7); clear ho7 hb7)
  obtain ⟨A7, c7, e7, hc7, r7⟩ := O7.out.rd' (by omega)
  subst e7
  have R7 := Lib.hid r7
  clear r7
  refine (refPiece_any A7 c7 L' key _ R7.out).mono ?_
  rintro e w8 ⟨v8, rfl, ho8, hb8⟩
  have O8 := Lib.hid ho8
  have B8 := Lib.hid (bl_then B7.out hb8)
  have RI8 := Lib.hid (RI7.out.below hb8)
  clear ho8 hb8
  have last := segPiece_any ⟨g, 0, none⟩ cap L' key w8 RI8.out (by rw [HL.out]; exact hcap)
  rw [HL.out] at last
  have LAST := Lib.hid last
  clear last
  go_wp2_with fail
  refine LAST.out.mono ?_
  rintro e w9 ⟨v9, rfl, ho9, hb9⟩
  have O9 := Lib.hid ho9
  have P8 := Lib.hid (O8.out.below hb9)
  have B9 := Lib.hid (bl_then B8.out hb9)
  clear ho9 hb9
  have hp2 := pieceL_len L' key
  obtain ⟨A8, c8, e8, hc8, r8⟩ := P8.out.rd' (by omega)
  obtain ⟨A9, c9, e9, hc9, r9⟩ := O9.out.rd' (by omega)
  subst e8 e9
  have R8 := Lib.hid r8
  have R9 := Lib.hid r9
  clear r8 r9
  have b2 : (pieceB L' key == pieceB L' key) = true := by simp
  go_wp2_with fail
  refine (same_self A9 A8 c9 c8 (pieceL L' key) _ R9.out R8.out).mono ?_
  rintro e w10 ⟨rfl, hd⟩
  have D10 := Lib.hid hd
  clear hd
  go_wp2
  go_ret
  exact ⟨rfl, bl_drawn B9.out D10.out⟩
end Go.Proofs.Ytejodabmddcanaa
