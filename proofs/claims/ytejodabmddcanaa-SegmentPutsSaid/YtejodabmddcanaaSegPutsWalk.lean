/- DERIVED. SegmentPuts: the walk of the law. -/
import Derived.Test.YtejodabmddcanaaSegAgain
import Derived.Test.YtejodabmddcanaaSegPutU
namespace Go.Proofs.Ytejodabmddcanaa
open Go.RowKit

set_option maxRecDepth 100000 in
set_option maxHeartbeats 6400000 in
theorem puts_walk (A : Option Addr) (c : Nat) (l : List Ent) (x : Ent) (key : ByteArray) (w : World) (hr : Rd w A l) (hl : l.length ≤ 4398046510976) :
    Calls Try.prog 6 #[.slice A l.length c, .agg #[.string x.key, .string x.sum], .string key] w fun e w' => e = .returned (.bool true) ∧ Below w.heap.size w w' := by
  obtain ⟨i0, hi0, hz0, hz1, hz2⟩ := info_parts entry_info
  have HR0 := Lib.hid (hr.alloc (.cells #[.string x.key, .string x.sum] 53))
  have bb1 : (putE l x != putE l x) = false := by simp
  have bb2 : (takB l key != takB l key) = false := by simp
  have HB0 := Lib.hid (bl_alloc (Below.refl w.heap.size w) (.cells #[.string x.key, .string x.sum] 53))
  have BK := Blk.new w 53 #[.string x.key, .string x.sum]
  have HBK := Lib.hid BK
  clear hr BK
  go_enter Try.func6, Try.ntmps6
  go_wp2_with fail
  obtain ⟨w1, hw1⟩ : ∃ w1, w1 = w.alloc (.cells #[.string x.key, .string x.sum] 53) := ⟨_, rfl⟩
  rw [← hw1]
  have HR1 : Hid (Rd w1 A l) := by rw [hw1]; exact HR0
  have HB1 : Hid (Below w.heap.size w w1) := by rw [hw1]; exact HB0
  have HX0 : Hid (w1.cell? ⟨w.heap.size, 0, none⟩ = some (.string x.key)) := by rw [hw1]; exact Lib.hid (HBK.out.cell 0)
  have HX1 : Hid (w1.cell? ⟨w.heap.size, 1, none⟩ = some (.string x.sum)) := by rw [hw1]; exact Lib.hid (HBK.out.cell 1)
  clear hw1 HR0 HB0 HBK
  have hH : w.heap.size < w1.heap.size := World.block_lt_of_cell? w1 _ HX0.out
  have BS := Lib.hid (Below.refl w1.heap.size w1)
  refine (lent_any A c l _ (HR1.out.below BS.out) hl).mono ?_
  rintro e wA1 ⟨g1, cap1, rfl, hcap1, ho_, hb_⟩
  have I1 := Lib.hid ho_
  have BA1 := Lib.hid (bl_then BS.out hb_)
  have XS1 := Lib.hid (show w1.heap.size ≤ wA1.heap.size from hb_.size)
  clear ho_ hb_
  have x0 := (BA1.out.cell (p := ⟨w.heap.size, 0, none⟩) hH).trans HX0.out
  have x1 := (BA1.out.cell (p := ⟨w.heap.size, 1, none⟩) hH).trans HX1.out
  go_wp2_with fail
  refine (refPut_any A c l x _ (HR1.out.below BA1.out) (by omega)).mono ?_
  rintro e wB1 ⟨v31, rfl, ho_, hb_⟩
  have W2 := Lib.hid (ho_.base BA1.out.size)
  have X3 := Lib.hid (fun k hk => (ho_.lt k hk).1)
  have BB1 := Lib.hid (bl_then BA1.out hb_)
  have I2 := Lib.hid (I1.out.below hb_)
  have XI := Lib.hid (show g1 < wA1.heap.size from (I1.out.lt g1 rfl).2)
  clear ho_ hb_ I1
  have RI2 := Lib.hid ((I2.out.take).rd (by omega)).2
  have x0 := (BB1.out.cell (p := ⟨w.heap.size, 0, none⟩) hH).trans HX0.out
  have x1 := (BB1.out.cell (p := ⟨w.heap.size, 1, none⟩) hH).trans HX1.out
  go_wp2_with fail
  refine (segPut_any _ cap1 l x _ RI2.out (by omega) (by omega) (fun h => by cases h)).mono ?_
  rintro e wC1 ⟨v11, rfl, ho_, hb_⟩
  have W3 := Lib.hid (W2.out.below hb_)
  have O3 := Lib.hid (ho_.base BB1.out.size)
  have X1 := Lib.hid (fun k hk => (ho_.lt k hk).1)
  have X3' := Lib.hid (fun k hk => (W2.out.lt k hk).2)
  have BC1 := Lib.hid (bl_then BB1.out hb_)
  have I3 := Lib.hid (I2.out.below hb_)
  have XI2 := Lib.hid (show g1 < wB1.heap.size from (I2.out.lt g1 rfl).2)
  clear ho_ hb_ I2 W2 RI2
  have RI3 := Lib.hid ((I3.out.take).rd (by omega)).2
  have x0 := (BC1.out.cell (p := ⟨w.heap.size, 0, none⟩) hH).trans HX0.out
  have x1 := (BC1.out.cell (p := ⟨w.heap.size, 1, none⟩) hH).trans HX1.out
  go_wp2_with fail
  refine (segPut_any _ cap1 l x _ RI3.out (by omega) (by omega) (fun h => by cases h)).mono ?_
  rintro e wD1 ⟨v21, rfl, ho_, hb_⟩
  have W4 := Lib.hid (W3.out.below hb_)
  have O4 := Lib.hid (O3.out.below hb_)
  have T4 := Lib.hid (ho_.base BC1.out.size)
  have X2 := Lib.hid (fun k hk => (ho_.lt k hk).1)
  have X1' := Lib.hid (fun k hk => (O3.out.lt k hk).2)
  have BD1 := Lib.hid (bl_then BC1.out hb_)
  have I4 := Lib.hid (I3.out.below hb_)
  have XI3 := Lib.hid (show g1 < wC1.heap.size from (I3.out.lt g1 rfl).2)
  clear ho_ hb_ I3 W3 O3 RI3
  have R4 := Lib.hid (HR1.out.below BD1.out)
  go_wp2_with fail
  refine (kept_any g1 cap1 _ A c l _ R4.out hl I4.out).mono ?_
  rintro e wE1 ⟨rfl, hb_⟩
  have W5 := Lib.hid (W4.out.below hb_)
  have O5 := Lib.hid (O4.out.below hb_)
  have T5 := Lib.hid (T4.out.below hb_)
  have I5 := Lib.hid (((I4.out.below hb_).take).base (BS.out.size))
  have BE1 := Lib.hid (bl_then BD1.out hb_)
  clear hb_ I4 W4 O4 T4
  go_wp2_with fail
  refine (again_any w1.heap.size _ v11 v21 v31 l (putA l x) _ (by omega) (by have := putA_len l x; omega) BE1.out.size I5.out O5.out T5.out W5.out
    (Apart.of_lt (B := wB1.heap.size) (fun k hk => by cases hk; exact XI2.out) X1.out).symm
    (Apart.of_lt (B := wC1.heap.size) (fun k hk => by cases hk; exact XI3.out) X2.out).symm
    (Apart.of_lt (B := wA1.heap.size) (fun k hk => by cases hk; exact XI.out) X3.out).symm
    (Apart.of_lt (B := wC1.heap.size) X1'.out X2.out).symm
    (Apart.of_lt (B := wB1.heap.size) X3'.out X1.out)).mono ?_
  rintro e wF1 ⟨rfl, hb_, L1, hL_, hI_⟩
  have BF1 := Lib.hid (BE1.out.trans hb_)
  have RF1 := Lib.hid (hI_.rd (by rw [hL_]; omega)).2
  have HL1 := Lib.hid hL_
  clear hb_ hI_ hL_ W5 O5 T5 I5 X1 X2 X3 X1' X3' XI XI2 XI3 R4
  clear x0 x1
  go_wp2_with fail
  refine (lent_any A c l _ (HR1.out.below BF1.out) hl).mono ?_
  rintro e wA2 ⟨g2, cap2, rfl, hcap2, ho_, hb_⟩
  have I1 := Lib.hid ho_
  have BA2 := Lib.hid (bl_then BF1.out hb_)
  have XS2 := Lib.hid (show wF1.heap.size ≤ wA2.heap.size from hb_.size)
  clear ho_ hb_
  go_wp2_with fail
  refine (refTake_any A c l key _ (HR1.out.below BA2.out) (by omega)).mono ?_
  rintro e wB2 ⟨v32, rfl, ho_, hb_⟩
  have W2 := Lib.hid (ho_.base BA2.out.size)
  have X3 := Lib.hid (fun k hk => (ho_.lt k hk).1)
  have BB2 := Lib.hid (bl_then BA2.out hb_)
  have I2 := Lib.hid (I1.out.below hb_)
  have XI := Lib.hid (show g2 < wA2.heap.size from (I1.out.lt g2 rfl).2)
  clear ho_ hb_ I1
  have RI2 := Lib.hid ((I2.out.take).rd (by omega)).2
  go_wp2_with fail
  refine (segTake_any _ cap2 l key _ RI2.out (by omega) (by omega)).mono ?_
  rintro e wC2 ⟨v12, rfl, ho_, hb_⟩
  have W3 := Lib.hid (W2.out.below hb_)
  have O3 := Lib.hid (ho_.base BB2.out.size)
  have X1 := Lib.hid (fun k hk => (ho_.lt k hk).1)
  have X3' := Lib.hid (fun k hk => (W2.out.lt k hk).2)
  have BC2 := Lib.hid (bl_then BB2.out hb_)
  have I3 := Lib.hid (I2.out.below hb_)
  have XI2 := Lib.hid (show g2 < wB2.heap.size from (I2.out.lt g2 rfl).2)
  clear ho_ hb_ I2 W2 RI2
  have RI3 := Lib.hid ((I3.out.take).rd (by omega)).2
  go_wp2_with fail
  refine (segTake_any _ cap2 l key _ RI3.out (by omega) (by omega)).mono ?_
  rintro e wD2 ⟨v22, rfl, ho_, hb_⟩
  have W4 := Lib.hid (W3.out.below hb_)
  have O4 := Lib.hid (O3.out.below hb_)
  have T4 := Lib.hid (ho_.base BC2.out.size)
  have X2 := Lib.hid (fun k hk => (ho_.lt k hk).1)
  have X1' := Lib.hid (fun k hk => (O3.out.lt k hk).2)
  have BD2 := Lib.hid (bl_then BC2.out hb_)
  have I4 := Lib.hid (I3.out.below hb_)
  have XI3 := Lib.hid (show g2 < wC2.heap.size from (I3.out.lt g2 rfl).2)
  clear ho_ hb_ I3 W3 O3 RI3
  have R4 := Lib.hid (HR1.out.below BD2.out)
  go_wp2_with fail
  refine (kept_any g2 cap2 _ A c l _ R4.out hl I4.out).mono ?_
  rintro e wE2 ⟨rfl, hb_⟩
  have W5 := Lib.hid (W4.out.below hb_)
  have O5 := Lib.hid (O4.out.below hb_)
  have T5 := Lib.hid (T4.out.below hb_)
  have I5 := Lib.hid (((I4.out.below hb_).take).base (BF1.out.size))
  have BE2 := Lib.hid (bl_then BD2.out hb_)
  clear hb_ I4 W4 O4 T4
  go_wp2_with fail
  refine (again_any w1.heap.size _ v12 v22 v32 l (takA l key) _ (by omega) (by have := takA_len l key; omega) BE2.out.size I5.out O5.out T5.out W5.out
    (Apart.of_lt (B := wB2.heap.size) (fun k hk => by cases hk; exact XI2.out) X1.out).symm
    (Apart.of_lt (B := wC2.heap.size) (fun k hk => by cases hk; exact XI3.out) X2.out).symm
    (Apart.of_lt (B := wA2.heap.size) (fun k hk => by cases hk; exact XI.out) X3.out).symm
    (Apart.of_lt (B := wC2.heap.size) X1'.out X2.out).symm
    (Apart.of_lt (B := wB2.heap.size) X3'.out X1.out)).mono ?_
  rintro e wF2 ⟨rfl, hb_, L2, hL_, hI_⟩
  have BF2 := Lib.hid (BE2.out.trans hb_)
  have RF2 := Lib.hid (hI_.rd (by rw [hL_]; omega)).2
  have HL2 := Lib.hid hL_
  clear hb_ hI_ hL_ W5 O5 T5 I5 X1 X2 X3 X1' X3' XI XI2 XI3 R4
  have hle : L2.length ≤ 4398046510976 := by rw [HL2.out]; exact hl
  have x0 := (BF2.out.cell (p := ⟨w.heap.size, 0, none⟩) hH).trans HX0.out
  have x1 := (BF2.out.cell (p := ⟨w.heap.size, 1, none⟩) hH).trans HX1.out
  go_wp2_with (at_builtin; refine app_twin rfl (.tmp 103) (.tmp 104) _ rfl Try.underlying37 hi0 hz0 hz1 hz2 rfl rfl (some ⟨g2, 0, none⟩) l.length cap2 L2 rfl HL2.out.symm RF2.out (by omega) ?_; intro v7 w7 ho_ hb_; have O7 := Lib.hid ho_; have B7 := Lib.hid (bl_then BF2.out hb_); have RI7 := Lib.hid (RF2.out.below hb_); have x07 := (B7.out.cell (p := ⟨w.heap.size, 0, none⟩) hH).trans HX0.out; have x17 := (B7.out.cell (p := ⟨w.heap.size, 1, none⟩) hH).trans HX1.out; clear ho_ hb_)
  obtain ⟨A7, c7, e7, hc7, r7⟩ := O7.out.rd' (by omega)
  subst e7
  have R7 := Lib.hid r7
  clear r7 x0 x1
  refine (refPut_any A7 c7 L2 x _ R7.out (by omega)).mono ?_
  rintro e w8 ⟨v8, rfl, ho_, hb_⟩
  have O8 := Lib.hid ho_
  have B8 := Lib.hid (bl_then B7.out hb_)
  have RI8 := Lib.hid (RI7.out.below hb_)
  have R8 := Lib.hid (R7.out.below hb_)
  clear ho_ hb_ x07 x17
  have x0 := (B8.out.cell (p := ⟨w.heap.size, 0, none⟩) hH).trans HX0.out
  have x1 := (B8.out.cell (p := ⟨w.heap.size, 1, none⟩) hH).trans HX1.out
  have hc8 : L2.length ≤ cap2 := by rw [HL2.out]; exact hcap2
  have p1 := segPut_any (some ⟨g2, 0, none⟩) cap2 L2 x w8 RI8.out hc8 (by omega) (fun h => by cases h)
  rw [HL2.out] at p1
  have P1 := Lib.hid p1
  clear p1
  go_wp2_with fail
  refine P1.out.mono ?_
  rintro e w9 ⟨v9, rfl, ho_, hb_⟩
  have O9 := Lib.hid ho_
  have P8 := Lib.hid (O8.out.below hb_)
  have B9 := Lib.hid (bl_then B8.out hb_)
  have RI9 := Lib.hid (RI8.out.below hb_)
  have R9 := Lib.hid (R8.out.below hb_)
  clear ho_ hb_ O8 x0 x1
  go_wp2_with fail
  refine (refTake_any A7 c7 L2 key _ R9.out (by omega)).mono ?_
  rintro e w10 ⟨v10, rfl, ho_, hb_⟩
  have O10 := Lib.hid ho_
  have P8' := Lib.hid (P8.out.below hb_)
  have O9' := Lib.hid (O9.out.below hb_)
  have B10 := Lib.hid (bl_then B9.out hb_)
  have RI10 := Lib.hid (RI9.out.below hb_)
  clear ho_ hb_ P8 O9
  have p2 := segTake_any (some ⟨g2, 0, none⟩) cap2 L2 key w10 RI10.out hc8 (by omega)
  rw [HL2.out] at p2
  have P2 := Lib.hid p2
  clear p2
  go_wp2_with fail
  refine P2.out.mono ?_
  rintro e w11 ⟨v11, rfl, ho_, hb_⟩
  have O11 := Lib.hid ho_
  have P10 := Lib.hid (O10.out.below hb_)
  have P8 := Lib.hid (P8'.out.below hb_)
  have O9 := Lib.hid (O9'.out.below hb_)
  have B11 := Lib.hid (bl_then B10.out hb_)
  clear ho_ hb_ P8' O9' O10
  have q1 := putA_len L2 x
  have q2 := takA_len L2 key
  obtain ⟨A8, c8, e8, _, r8⟩ := P8.out.rd' (by omega)
  obtain ⟨A9, c9, e9, _, r9⟩ := O9.out.rd' (by omega)
  obtain ⟨A10, c10, e10, _, r10⟩ := P10.out.rd' (by omega)
  obtain ⟨A11, c11, e11, _, r11⟩ := O11.out.rd' (by omega)
  subst e8 e9 e10 e11
  have S8 := Lib.hid r8
  have S9 := Lib.hid r9
  have S10 := Lib.hid r10
  have S11 := Lib.hid r11
  clear r8 r9 r10 r11
  have b3 : (putE L2 x == putE L2 x) = true := by simp
  have b4 : (takB L2 key == takB L2 key) = true := by simp
  go_wp2_with fail
  refine (same_self A9 A8 c9 c8 (putA L2 x) _ S9.out S8.out).mono ?_
  rintro e w12 ⟨rfl, hd⟩
  have D12 := Lib.hid hd
  clear hd
  go_wp2_with fail
  refine (same_self A11 A10 c11 c10 (takA L2 key) _ (D12.out.rd S11.out) (D12.out.rd S10.out)).mono ?_
  rintro e w13 ⟨rfl, hd⟩
  have D13 := Lib.hid (D12.out.trans hd)
  clear hd
  go_wp2
  go_ret
  exact ⟨rfl, bl_then HB1.out (bl_drawn B11.out D13.out)⟩
end Go.Proofs.Ytejodabmddcanaa
