/- DERIVED. The statements' own helper asks: each question about two objects is answered as the document says. -/
import Derived.Test.YtljfigikkajlnaaVObAskD
import Derived.Test.YtljfigikkajlnaaVm6
import Derived.BigQuiet
namespace Go.Proofs.Ytljfigikkajlnaa
open Go.RowKit Go.Lib Go.Proofs.YtljfigikkajlnaaW.PrintWords
set_option linter.unusedVariables false
set_option linter.unusedSimpArgs false
theorem eqEnt (d : Nat) (w : World) (a b a' b' : ByteArray) :
    (Op.equalIn (d + 2) 82 (.agg #[.string a, .string b]) (.agg #[.string a', .string b'])).run Try.prog w = .ok (decide (a = a') && decide (b = b')) w := by
  have : (decide (a = a') && decide (b = b')) = ((a.toList == a'.toList) && (b.toList == b'.toList)) := by rw [str_eq, str_eq]
  rw [this]
  refine eqA_of Try.underlying82 (by kernel_rfl) ?_
  refine eqf_cons (by rfl) (by go_simp; rfl) (by go_simp; rfl) (by go_simp) ?_
  exact eqf_last (by rfl) (by go_simp; rfl) (by go_simp; rfl) (by go_simp)
attribute [local go_sem high] eqD eqCell eqEnt
section
variable {key : ByteArray} {A C : Option Addr} {n c m d : Nat} {a : List Dot} {l : List Sib} {w : World}
theorem dcheckq (x : Int) (ha : GR.Rd dotK w A a) (hl : GR.Rd sibK w C l) (hn : n = a.length) (hm : m = l.length) (hr : StR a l) (hx : chkE key a l = x) :
    Calls Try.prog 32 #[.agg #[.string key, .slice A n c, .slice C m d]] w fun e w' => e = .returned (.int .i64 x) ∧ Below w.heap.size w w' := by
  have h := dcheck_any key A C n c m d a l w ha hl hn hm hr
  rw [hx] at h
  exact h
theorem dplaceq (x y : Int) (hx : plN key = x) (hy : plE key = y) : Calls Try.prog 47 #[.string key] w fun e w' => e = .returned (.tuple #[.int .i64 x, .int .i64 y]) ∧ Below w.heap.size w w' := by
  subst hx hy
  cases h : keyB key with
  | true =>
    refine (dplace_yes key h w).mono ?_
    rintro e w' ⟨rfl, hb⟩
    exact ⟨by rw [plN, plE, h]; rfl, hb⟩
  | false =>
    refine (dplace_no key h w).mono ?_
    rintro e w' ⟨rfl, rfl⟩
    exact ⟨by rw [plN, plE, h]; rfl, Below.refl _ _⟩
theorem drkeyq (y : Int) (hy : plE key = y) : Calls Try.prog 48 #[.string key] w fun e w' => e = .returned (.int .i64 y) ∧ Below w.heap.size w w' := by
  subst hy
  refine (refKey_any key w).mono ?_
  rintro e w' ⟨rfl, rfl⟩
  refine ⟨?_, Below.refl _ _⟩
  cases h : keyB key with
  | true => rw [plE, h, keyE_pos h]; rfl
  | false => rw [plE, h, keyE_neg h]; rfl
theorem dformq (f : ByteArray) (x : Int) (ha : GR.Rd dotK w A a) (hl : GR.Rd sibK w C l) (hn : n = a.length) (hm : m = l.length) (hr : StR a l) (hf : formB key a l = f) (hx : chkE key a l = x) :
    Calls Try.prog 50 #[.agg #[.string key, .slice A n c, .slice C m d]] w fun e w' => e = .returned (.tuple #[.string f, .int .i64 x]) ∧ Below w.heap.size w w' := by
  have h := dform_any key A C n c m d a l w ha hl hn hm hr
  rw [hf, hx] at h
  exact h
theorem dpackq (p1 p2 : ByteArray) (x : Int) (ha : GR.Rd dotK w A a) (hl : GR.Rd sibK w C l) (hn : n = a.length) (hm : m = l.length) (hr : StR a l) (hp : packC key a l = (p1, p2)) (hx : packE key a l = x) :
    Calls Try.prog 39 #[.agg #[.string key, .slice A n c, .slice C m d]] w fun e w' => e = .returned (.tuple #[.agg #[.string p1, .string p2], .int .i64 x]) ∧ Below w.heap.size w w' := by
  have h := dpack_any key A C n c m d a l w ha hl hn hm hr
  rw [hp, hx] at h
  exact h
theorem dsumq (t : ByteArray) (x wd : Int) (ha : GR.Rd dotK w A a) (hl : GR.Rd sibK w C l) (hn : n = a.length) (hm : m = l.length) (hr : StR a l) (ht : osumT key a l wd = t) (hx : osumE key a l wd = x) :
    Calls Try.prog 51 #[.agg #[.string key, .slice A n c, .slice C m d], .int .i64 wd] w fun e w' => e = .returned (.tuple #[.string t, .int .i64 x]) ∧ Below w.heap.size w w' := by
  have h := dsum_any key A C n c m d a l wd w ha hl hn hm hr
  rw [ht, hx] at h
  exact h
theorem osumq2 (t : ByteArray) (x wd : Int) (ha : GR.Rd dotK w A a) (hl : GR.Rd sibK w C l) (hn : n = a.length) (hm : m = l.length) (hr : StR a l) (ht : osumT key a l wd = t) (hx : osumE key a l wd = x) :
    Calls Try.prog 31 #[.agg #[.string key, .slice A n c, .slice C m d], .int .i64 wd] w fun e w' => e = .returned (.tuple #[.string t, .int .i64 x]) ∧ Below w.heap.size w w' := by
  have h := osum_any key A C n c m d a l wd w ha hl hn hm hr
  rw [ht, hx] at h
  exact h
theorem dentq (e1 e2 : ByteArray) (x wd : Int) (ha : GR.Rd dotK w A a) (hl : GR.Rd sibK w C l) (hn : n = a.length) (hm : m = l.length) (hr : StR a l) (ht : oentC key a l wd = (e1, e2)) (hx : oentE key a l wd = x) :
    Calls Try.prog 52 #[.agg #[.string key, .slice A n c, .slice C m d], .int .i64 wd] w fun e w' => e = .returned (.tuple #[.agg #[.string e1, .string e2], .int .i64 x]) ∧ Below w.heap.size w w' := by
  have h := dentry_any key A C n c m d a l wd w ha hl hn hm hr
  rw [ht, hx] at h
  exact h
theorem entq (e1 e2 : ByteArray) (x wd : Int) (ha : GR.Rd dotK w A a) (hl : GR.Rd sibK w C l) (hn : n = a.length) (hm : m = l.length) (hr : StR a l) (ht : oentC key a l wd = (e1, e2)) (hx : oentE key a l wd = x) :
    Calls Try.prog 53 #[.agg #[.string key, .slice A n c, .slice C m d], .int .i64 wd] w fun e w' => e = .returned (.tuple #[.agg #[.string e1, .string e2], .int .i64 x]) ∧ Below w.heap.size w w' := by
  have h := entry_any key A C n c m d a l wd w ha hl hn hm hr
  rw [ht, hx] at h
  exact h
end
set_option maxRecDepth 100000 in
set_option maxHeartbeats 25600000 in
theorem asks_any (ka kb : ByteArray) (A1 B1 C1 D1 A2 B2 C2 D2 : Option Addr) (c1 c2 c3 c4 c5 c6 c7 c8 : Nat) (a b : List Dot) (l m : List Sib) (wd : Int) (w : World) (ha1 : GR.Rd dotK w A1 a) (hl1 : GR.Rd sibK w B1 l) (hb1 : GR.Rd dotK w C1 b) (hm1 : GR.Rd sibK w D1 m) (ha2 : GR.Rd dotK w A2 a) (hl2 : GR.Rd sibK w B2 l) (hb2 : GR.Rd dotK w C2 b) (hm2 : GR.Rd sibK w D2 m) (hra : StR a l) (hrb : StR b m) :
    Calls Try.prog 23 #[.agg #[.string ka, .slice A1 a.length c1, .slice B1 l.length c2], .agg #[.string kb, .slice C1 b.length c3, .slice D1 m.length c4], .agg #[.string ka, .slice A2 a.length c5, .slice B2 l.length c6], .agg #[.string kb, .slice C2 b.length c7, .slice D2 m.length c8], .int .i64 wd] w fun e w' => e = .returned (.bool true) ∧ Below w.heap.size w w' := by
  obtain ⟨n0, hn0⟩ : ∃ y, plN ka = y := ⟨_, rfl⟩
  obtain ⟨z0, hz0⟩ : ∃ y, plE ka = y := ⟨_, rfl⟩
  obtain ⟨X, hX⟩ : ∃ y, chkE ka a l = y := ⟨_, rfl⟩
  obtain ⟨r1, hr1⟩ : ∃ y, (decide (ka = kb) && stEq a l b m) = y := ⟨_, rfl⟩
  obtain ⟨r2, hr2⟩ : ∃ y, (decide (kb = ka) && stEq b m a l) = y := ⟨_, rfl⟩
  obtain ⟨f, hf⟩ : ∃ y, formB ka a l = y := ⟨_, rfl⟩
  obtain ⟨s, hs⟩ : ∃ y, osumT ka a l wd = y := ⟨_, rfl⟩
  obtain ⟨g, hg⟩ : ∃ y, osumE ka a l wd = y := ⟨_, rfl⟩
  obtain ⟨⟨e1, e2⟩, he⟩ : ∃ y, oentC ka a l wd = y := ⟨_, rfl⟩
  obtain ⟨h, hh⟩ : ∃ y, oentE ka a l wd = y := ⟨_, rfl⟩
  obtain ⟨⟨p1, p2⟩, hp⟩ : ∃ y, packC ka a l = y := ⟨_, rfl⟩
  obtain ⟨x, hx⟩ : ∃ y, packE ka a l = y := ⟨_, rfl⟩
  have HA1 := Lib.hid ha1
  have HL1 := Lib.hid hl1
  have HB1 := Lib.hid hb1
  have HM1 := Lib.hid hm1
  have HA2 := Lib.hid ha2
  have HL2 := Lib.hid hl2
  have HB2 := Lib.hid hb2
  have HM2 := Lib.hid hm2
  have HRA := Lib.hid hra
  have HRB := Lib.hid hrb
  have HN0 := Lib.hid hn0
  have HZ0 := Lib.hid hz0
  have HXX := Lib.hid hX
  have HR1 := Lib.hid hr1
  have HR2 := Lib.hid hr2
  have HF := Lib.hid hf
  have HS1 := Lib.hid hs
  have HG := Lib.hid hg
  have HE := Lib.hid he
  have HH := Lib.hid hh
  have HP := Lib.hid hp
  have HX := Lib.hid hx
  clear ha1 hl1 hb1 hm1 ha2 hl2 hb2 hm2 hra hrb hn0 hz0 hX hr1 hr2 hf hs hg he hh hp hx
  go_enter Try.func23, Try.ntmps23
  go_wp2_with fail
  obtain ⟨Z1, hZ1⟩ : ∃ W : World, W = (((w.alloc (.cells #[.string ka, .slice A1 a.length c1, .slice B1 l.length c2] 27)).alloc (.cells #[.string kb, .slice C1 b.length c3, .slice D1 m.length c4] 27)).alloc (.cells #[.string ka, .slice A2 a.length c5, .slice B2 l.length c6] 27)).alloc (.cells #[.string kb, .slice C2 b.length c7, .slice D2 m.length c8] 27) := ⟨_, rfl⟩
  rw [← hZ1]
  have LL : Hid (Below w.heap.size w Z1) := Lib.hid (by rw [hZ1]; exact (by repeat (first | exact Below.refl _ _ | refine bl_drewN ?_ _ | refine bl_drew ?_ | refine bl_alloc ?_ _)))
  have X_px : Hid (GR.Blk Z1 (w.heap.size) 27 #[.string ka, .slice A1 a.length c1, .slice B1 l.length c2]) := Lib.hid (by rw [hZ1]; exact (((GR.Blk.new _ _ _).alloc _).alloc _).alloc _)
  have X_py : Hid (GR.Blk Z1 (w.heap.size + 1) 27 #[.string kb, .slice C1 b.length c3, .slice D1 m.length c4]) := Lib.hid (by rw [hZ1]; exact ((new_at _ _ _ (by simp)).alloc _).alloc _)
  have X_pa : Hid (GR.Blk Z1 (w.heap.size + 1 + 1) 27 #[.string ka, .slice A2 a.length c5, .slice B2 l.length c6]) := Lib.hid (by rw [hZ1]; exact (new_at _ _ _ (by simp)).alloc _)
  have X_pb : Hid (GR.Blk Z1 (w.heap.size + 1 + 1 + 1) 27 #[.string kb, .slice C2 b.length c7, .slice D2 m.length c8]) := Lib.hid (by rw [hZ1]; exact new_at _ _ _ (by simp))
  clear hZ1
  have F1 := Lib.hid (HS.nil Z1)
  have F2 := Lib.hid (HS.addB F1.out (g := w.heap.size) (t := 27) (cs := #[.string ka, .slice A1 a.length c1, .slice B1 l.length c2]) (X_px.out))
  clear F1
  have F3 := Lib.hid (HS.addB F2.out (g := w.heap.size + 1) (t := 27) (cs := #[.string kb, .slice C1 b.length c3, .slice D1 m.length c4]) (X_py.out))
  clear F2
  have F4 := Lib.hid (HS.addB F3.out (g := w.heap.size + 1 + 1) (t := 27) (cs := #[.string ka, .slice A2 a.length c5, .slice B2 l.length c6]) (X_pa.out))
  clear F3
  have F5 := Lib.hid (HS.addB F4.out (g := w.heap.size + 1 + 1 + 1) (t := 27) (cs := #[.string kb, .slice C2 b.length c7, .slice D2 m.length c8]) (X_pb.out))
  clear F4
  clear X_px X_py X_pa X_pb
  have F6 := Lib.hid (F5.out.addR (HA1.out.below LL.out))
  clear F5
  have F7 := Lib.hid (F6.out.addR (HL1.out.below LL.out))
  clear F6
  have F8 := Lib.hid (F7.out.addR (HB1.out.below LL.out))
  clear F7
  have F9 := Lib.hid (F8.out.addR (HM1.out.below LL.out))
  clear F8
  have F10 := Lib.hid (F9.out.addR (HA2.out.below LL.out))
  clear F9
  have F11 := Lib.hid (F10.out.addR (HL2.out.below LL.out))
  clear F10
  have F12 := Lib.hid (F11.out.addR (HB2.out.below LL.out))
  clear F11
  have F13 := Lib.hid (F12.out.addR (HM2.out.below LL.out))
  clear F12
  have BB := LL
  clear LL
  refine (dplaceq n0 z0 HN0.out HZ0.out).mono ?_
  rintro e u2 ⟨rfl, hb⟩
  have F14 := Lib.hid (F13.out.below hb)
  clear F13
  replace BB := Lib.hid (bl_then BB.out hb)
  clear hb
  have px_0 : u2.cell? ⟨w.heap.size, 0, none⟩ = some (.string ka) := (F14.out.blk 11 rfl).cell 0
  have px_1 : u2.cell? ⟨w.heap.size, 1, none⟩ = some (.slice A1 a.length c1) := (F14.out.blk 11 rfl).cell 1
  have px_2 : u2.cell? ⟨w.heap.size, 2, none⟩ = some (.slice B1 l.length c2) := (F14.out.blk 11 rfl).cell 2
  have px_lt : w.heap.size < u2.heap.size := (F14.out.blk 11 rfl).lt
  go_wp2_with fail
  clear px_0 px_1 px_2 px_lt
  refine (placeq n0 z0 HN0.out HZ0.out).mono ?_
  rintro e u3 ⟨rfl, hb⟩
  have F15 := Lib.hid (F14.out.below hb)
  clear F14
  replace BB := Lib.hid (bl_then BB.out hb)
  clear hb
  have t1 : (n0 != n0) = false := by simp
  have t2 : (z0 != z0) = false := by simp
  have t3 : (X != X) = false := by simp
  have t4 : (r1 != r1) = false := by simp
  have t5 : (r2 != r2) = false := by simp
  go_upto_region 3 with fail
  have px_0 : u3.cell? ⟨w.heap.size, 0, none⟩ = some (.string ka) := (F15.out.blk 11 rfl).cell 0
  have px_1 : u3.cell? ⟨w.heap.size, 1, none⟩ = some (.slice A1 a.length c1) := (F15.out.blk 11 rfl).cell 1
  have px_2 : u3.cell? ⟨w.heap.size, 2, none⟩ = some (.slice B1 l.length c2) := (F15.out.blk 11 rfl).cell 2
  have py_0 : u3.cell? ⟨w.heap.size + 1, 0, none⟩ = some (.string kb) := (F15.out.blk 10 rfl).cell 0
  have py_1 : u3.cell? ⟨w.heap.size + 1, 1, none⟩ = some (.slice C1 b.length c3) := (F15.out.blk 10 rfl).cell 1
  have py_2 : u3.cell? ⟨w.heap.size + 1, 2, none⟩ = some (.slice D1 m.length c4) := (F15.out.blk 10 rfl).cell 2
  have pa_0 : u3.cell? ⟨w.heap.size + 1 + 1, 0, none⟩ = some (.string ka) := (F15.out.blk 9 rfl).cell 0
  have pa_1 : u3.cell? ⟨w.heap.size + 1 + 1, 1, none⟩ = some (.slice A2 a.length c5) := (F15.out.blk 9 rfl).cell 1
  have pa_2 : u3.cell? ⟨w.heap.size + 1 + 1, 2, none⟩ = some (.slice B2 l.length c6) := (F15.out.blk 9 rfl).cell 2
  have pb_0 : u3.cell? ⟨w.heap.size + 1 + 1 + 1, 0, none⟩ = some (.string kb) := (F15.out.blk 8 rfl).cell 0
  have pb_1 : u3.cell? ⟨w.heap.size + 1 + 1 + 1, 1, none⟩ = some (.slice C2 b.length c7) := (F15.out.blk 8 rfl).cell 1
  have pb_2 : u3.cell? ⟨w.heap.size + 1 + 1 + 1, 2, none⟩ = some (.slice D2 m.length c8) := (F15.out.blk 8 rfl).cell 2
  have Opx0 := over_cell px_0
  have Opx1 := over_cell px_1
  have Opx2 := over_cell px_2
  have Opy0 := over_cell py_0
  have Opy1 := over_cell py_1
  have Opy2 := over_cell py_2
  have Opa0 := over_cell pa_0
  have Opa1 := over_cell pa_1
  have Opa2 := over_cell pa_2
  have Opb0 := over_cell pb_0
  have Opb1 := over_cell pb_1
  have Opb2 := over_cell pb_2
  clear px_0 px_1 px_2 py_0 py_1 py_2 pa_0 pa_1 pa_2 pb_0 pb_1 pb_2
  have Dxa := Lib.hid (F15.out.rd 7 rfl)
  have Dxl := Lib.hid (F15.out.rd 6 rfl)
  have Dyb := Lib.hid (F15.out.rd 5 rfl)
  have Dym := Lib.hid (F15.out.rd 4 rfl)
  have Daa := Lib.hid (F15.out.rd 3 rfl)
  have Dal := Lib.hid (F15.out.rd 2 rfl)
  have Dbb := Lib.hid (F15.out.rd 1 rfl)
  have Dbm := Lib.hid (F15.out.rd 0 rfl)
  go_wp2
  refine over_region (W := u3) (by kernel_rfl) (by kernel_rfl) (by repeat (first | exact Below.refl _ _ | refine bl_drewN ?_ _ | refine bl_drew ?_ | refine bl_alloc ?_ _)) ?_
  repeat (go_big_quiet_step (first | exact over_of (okeyq z0 HZ0.out) | exact over_of (drkeyq z0 HZ0.out) | exact over_of (checkq X (GR.Rd.below Dxa.out (Over.h _)) (GR.Rd.below Dxl.out (Over.h _)) rfl rfl HRA.out HXX.out) | exact over_of (dcheckq X (GR.Rd.below Daa.out (Over.h _)) (GR.Rd.below Dal.out (Over.h _)) rfl rfl HRA.out HXX.out) | exact over_of (osameq r1 (GR.Rd.below Dxa.out (Over.h _)) (GR.Rd.below Dxl.out (Over.h _)) (GR.Rd.below Dyb.out (Over.h _)) (GR.Rd.below Dym.out (Over.h _)) rfl rfl rfl rfl HR1.out) | exact over_of (dosameq r1 (GR.Rd.below Daa.out (Over.h _)) (GR.Rd.below Dal.out (Over.h _)) (GR.Rd.below Dbb.out (Over.h _)) (GR.Rd.below Dbm.out (Over.h _)) rfl rfl rfl rfl HR1.out) | exact over_of (osameq r2 (GR.Rd.below Dyb.out (Over.h _)) (GR.Rd.below Dym.out (Over.h _)) (GR.Rd.below Dxa.out (Over.h _)) (GR.Rd.below Dxl.out (Over.h _)) rfl rfl rfl rfl HR2.out) | exact over_of (dosameq r2 (GR.Rd.below Dbb.out (Over.h _)) (GR.Rd.below Dbm.out (Over.h _)) (GR.Rd.below Daa.out (Over.h _)) (GR.Rd.below Dal.out (Over.h _)) rfl rfl rfl rfl HR2.out)))
  refine wpQuiet_nil ?_
  intro _ hx_
  obtain ⟨x_, hx_⟩ := hx_
  subst hx_
  obtain ⟨v1, hv1⟩ := x_
  dsimp only
  clear Opx0 Opx1 Opx2 Opy0 Opy1 Opy2 Opa0 Opa1 Opa2 Opb0 Opb1 Opb2 Dxa Dxl Dyb Dym Daa Dal Dbb Dbm
  have F16 := Lib.hid (F15.out.below hv1)
  clear F15
  replace BB := Lib.hid (bl_then BB.out hv1)
  clear hv1
  have pa_0 : v1.cell? ⟨w.heap.size + 1 + 1, 0, none⟩ = some (.string ka) := (F16.out.blk 9 rfl).cell 0
  have pa_1 : v1.cell? ⟨w.heap.size + 1 + 1, 1, none⟩ = some (.slice A2 a.length c5) := (F16.out.blk 9 rfl).cell 1
  have pa_2 : v1.cell? ⟨w.heap.size + 1 + 1, 2, none⟩ = some (.slice B2 l.length c6) := (F16.out.blk 9 rfl).cell 2
  have pa_lt : w.heap.size + 1 + 1 < v1.heap.size := (F16.out.blk 9 rfl).lt
  go_wp2_with fail
  clear pa_0 pa_1 pa_2 pa_lt
  refine (dformq f X (F16.out.rd 3 rfl) (F16.out.rd 2 rfl) rfl rfl HRA.out HF.out HXX.out).mono ?_
  rintro e u4 ⟨rfl, hb⟩
  have F17 := Lib.hid (F16.out.below hb)
  clear F16
  replace BB := Lib.hid (bl_then BB.out hb)
  clear hb
  have px_0 : u4.cell? ⟨w.heap.size, 0, none⟩ = some (.string ka) := (F17.out.blk 11 rfl).cell 0
  have px_1 : u4.cell? ⟨w.heap.size, 1, none⟩ = some (.slice A1 a.length c1) := (F17.out.blk 11 rfl).cell 1
  have px_2 : u4.cell? ⟨w.heap.size, 2, none⟩ = some (.slice B1 l.length c2) := (F17.out.blk 11 rfl).cell 2
  have px_lt : w.heap.size < u4.heap.size := (F17.out.blk 11 rfl).lt
  go_wp2_with fail
  clear px_0 px_1 px_2 px_lt
  refine (formq f X (F17.out.rd 7 rfl) (F17.out.rd 6 rfl) rfl rfl HRA.out HF.out HXX.out).mono ?_
  rintro e u5 ⟨rfl, hb⟩
  have F18 := Lib.hid (F17.out.below hb)
  clear F17
  replace BB := Lib.hid (bl_then BB.out hb)
  clear hb
  have t6 : (g != g) = false := by simp
  have t7 : (h != h) = false := by simp
  have t8 : (f.toList != f.toList) = false := by simp
  have t9 : (s.toList != s.toList) = false := by simp
  have pa_0 : u5.cell? ⟨w.heap.size + 1 + 1, 0, none⟩ = some (.string ka) := (F18.out.blk 9 rfl).cell 0
  have pa_1 : u5.cell? ⟨w.heap.size + 1 + 1, 1, none⟩ = some (.slice A2 a.length c5) := (F18.out.blk 9 rfl).cell 1
  have pa_2 : u5.cell? ⟨w.heap.size + 1 + 1, 2, none⟩ = some (.slice B2 l.length c6) := (F18.out.blk 9 rfl).cell 2
  have pa_lt : w.heap.size + 1 + 1 < u5.heap.size := (F18.out.blk 9 rfl).lt
  go_wp2_with fail
  clear pa_0 pa_1 pa_2 pa_lt
  refine (dsumq s g wd (F18.out.rd 3 rfl) (F18.out.rd 2 rfl) rfl rfl HRA.out HS1.out HG.out).mono ?_
  rintro e u6 ⟨rfl, hb⟩
  have F19 := Lib.hid (F18.out.below hb)
  clear F18
  replace BB := Lib.hid (bl_then BB.out hb)
  clear hb
  have px_0 : u6.cell? ⟨w.heap.size, 0, none⟩ = some (.string ka) := (F19.out.blk 11 rfl).cell 0
  have px_1 : u6.cell? ⟨w.heap.size, 1, none⟩ = some (.slice A1 a.length c1) := (F19.out.blk 11 rfl).cell 1
  have px_2 : u6.cell? ⟨w.heap.size, 2, none⟩ = some (.slice B1 l.length c2) := (F19.out.blk 11 rfl).cell 2
  have px_lt : w.heap.size < u6.heap.size := (F19.out.blk 11 rfl).lt
  go_wp2_with fail
  clear px_0 px_1 px_2 px_lt
  refine (osumq2 s g wd (F19.out.rd 7 rfl) (F19.out.rd 6 rfl) rfl rfl HRA.out HS1.out HG.out).mono ?_
  rintro e u7 ⟨rfl, hb⟩
  have F20 := Lib.hid (F19.out.below hb)
  clear F19
  replace BB := Lib.hid (bl_then BB.out hb)
  clear hb
  have pa_0 : u7.cell? ⟨w.heap.size + 1 + 1, 0, none⟩ = some (.string ka) := (F20.out.blk 9 rfl).cell 0
  have pa_1 : u7.cell? ⟨w.heap.size + 1 + 1, 1, none⟩ = some (.slice A2 a.length c5) := (F20.out.blk 9 rfl).cell 1
  have pa_2 : u7.cell? ⟨w.heap.size + 1 + 1, 2, none⟩ = some (.slice B2 l.length c6) := (F20.out.blk 9 rfl).cell 2
  have pa_lt : w.heap.size + 1 + 1 < u7.heap.size := (F20.out.blk 9 rfl).lt
  go_wp2_with fail
  clear pa_0 pa_1 pa_2 pa_lt
  refine (dentq e1 e2 h wd (F20.out.rd 3 rfl) (F20.out.rd 2 rfl) rfl rfl HRA.out HE.out HH.out).mono ?_
  rintro e u8 ⟨rfl, hb⟩
  have F21 := Lib.hid (F20.out.below hb)
  clear F20
  replace BB := Lib.hid (bl_then BB.out hb)
  clear hb
  have px_0 : u8.cell? ⟨w.heap.size, 0, none⟩ = some (.string ka) := (F21.out.blk 11 rfl).cell 0
  have px_1 : u8.cell? ⟨w.heap.size, 1, none⟩ = some (.slice A1 a.length c1) := (F21.out.blk 11 rfl).cell 1
  have px_2 : u8.cell? ⟨w.heap.size, 2, none⟩ = some (.slice B1 l.length c2) := (F21.out.blk 11 rfl).cell 2
  have px_lt : w.heap.size < u8.heap.size := (F21.out.blk 11 rfl).lt
  go_wp2_with fail
  clear px_0 px_1 px_2 px_lt
  obtain ⟨Z9, hZ9⟩ : ∃ W : World, W = u8.alloc (.cells #[.string e1, .string e2] 82) := ⟨_, rfl⟩
  rw [← hZ9]
  have LL : Hid (Below u8.heap.size u8 Z9) := Lib.hid (by rw [hZ9]; exact (by repeat (first | exact Below.refl _ _ | refine bl_drewN ?_ _ | refine bl_drew ?_ | refine bl_alloc ?_ _)))
  have X_pe : Hid (GR.Blk Z9 (u8.heap.size) 82 #[.string e1, .string e2]) := Lib.hid (by rw [hZ9]; exact GR.Blk.new _ _ _)
  clear hZ9
  have F22 := Lib.hid (F21.out.below LL.out)
  clear F21
  have F23 := Lib.hid (HS.addB F22.out (g := u8.heap.size) (t := 82) (cs := #[.string e1, .string e2]) (X_pe.out))
  clear F22
  clear X_pe
  replace BB := Lib.hid (bl_then BB.out LL.out)
  clear LL
  refine (entq e1 e2 h wd (F23.out.rd 8 rfl) (F23.out.rd 7 rfl) rfl rfl HRA.out HE.out HH.out).mono ?_
  rintro e u10 ⟨rfl, hb⟩
  have F24 := Lib.hid (F23.out.below hb)
  clear F23
  replace BB := Lib.hid (bl_then BB.out hb)
  clear hb
  have pa_0 : u10.cell? ⟨w.heap.size + 1 + 1, 0, none⟩ = some (.string ka) := (F24.out.blk 10 rfl).cell 0
  have pa_1 : u10.cell? ⟨w.heap.size + 1 + 1, 1, none⟩ = some (.slice A2 a.length c5) := (F24.out.blk 10 rfl).cell 1
  have pa_2 : u10.cell? ⟨w.heap.size + 1 + 1, 2, none⟩ = some (.slice B2 l.length c6) := (F24.out.blk 10 rfl).cell 2
  have pe_0 : u10.cell? ⟨u8.heap.size, 0, none⟩ = some (.string e1) := (F24.out.blk 0 rfl).cell 0
  have pe_1 : u10.cell? ⟨u8.heap.size, 1, none⟩ = some (.string e2) := (F24.out.blk 0 rfl).cell 1
  have pa_lt : w.heap.size + 1 + 1 < u10.heap.size := (F24.out.blk 10 rfl).lt
  have pe_lt : u8.heap.size < u10.heap.size := (F24.out.blk 0 rfl).lt
  go_wp2_with fail
  clear pa_0 pa_1 pa_2 pa_lt pe_0 pe_1 pe_lt
  obtain ⟨Z11, hZ11⟩ : ∃ W : World, W = u10.alloc (.cells #[.string e1, .string e2] 82) := ⟨_, rfl⟩
  rw [← hZ11]
  have LL : Hid (Below u10.heap.size u10 Z11) := Lib.hid (by rw [hZ11]; exact (by repeat (first | exact Below.refl _ _ | refine bl_drewN ?_ _ | refine bl_drew ?_ | refine bl_alloc ?_ _)))
  have X_pf : Hid (GR.Blk Z11 (u10.heap.size) 82 #[.string e1, .string e2]) := Lib.hid (by rw [hZ11]; exact GR.Blk.new _ _ _)
  clear hZ11
  have F25 := Lib.hid (F24.out.below LL.out)
  clear F24
  have F26 := Lib.hid (HS.addB F25.out (g := u10.heap.size) (t := 82) (cs := #[.string e1, .string e2]) (X_pf.out))
  clear F25
  clear X_pf
  replace BB := Lib.hid (bl_then BB.out LL.out)
  clear LL
  refine (dpackq p1 p2 x (F26.out.rd 5 rfl) (F26.out.rd 4 rfl) rfl rfl HRA.out HP.out HX.out).mono ?_
  rintro e u12 ⟨rfl, hb⟩
  have F27 := Lib.hid (F26.out.below hb)
  clear F26
  replace BB := Lib.hid (bl_then BB.out hb)
  clear hb
  have px_0 : u12.cell? ⟨w.heap.size, 0, none⟩ = some (.string ka) := (F27.out.blk 13 rfl).cell 0
  have px_1 : u12.cell? ⟨w.heap.size, 1, none⟩ = some (.slice A1 a.length c1) := (F27.out.blk 13 rfl).cell 1
  have px_2 : u12.cell? ⟨w.heap.size, 2, none⟩ = some (.slice B1 l.length c2) := (F27.out.blk 13 rfl).cell 2
  have px_lt : w.heap.size < u12.heap.size := (F27.out.blk 13 rfl).lt
  go_wp2_with fail
  clear px_0 px_1 px_2 px_lt
  obtain ⟨Z13, hZ13⟩ : ∃ W : World, W = u12.alloc (.cells #[.string p1, .string p2] 48) := ⟨_, rfl⟩
  rw [← hZ13]
  have LL : Hid (Below u12.heap.size u12 Z13) := Lib.hid (by rw [hZ13]; exact (by repeat (first | exact Below.refl _ _ | refine bl_drewN ?_ _ | refine bl_drew ?_ | refine bl_alloc ?_ _)))
  have X_pc : Hid (GR.Blk Z13 (u12.heap.size) 48 #[.string p1, .string p2]) := Lib.hid (by rw [hZ13]; exact GR.Blk.new _ _ _)
  clear hZ13
  have F28 := Lib.hid (F27.out.below LL.out)
  clear F27
  have F29 := Lib.hid (HS.addB F28.out (g := u12.heap.size) (t := 48) (cs := #[.string p1, .string p2]) (X_pc.out))
  clear F28
  clear X_pc
  replace BB := Lib.hid (bl_then BB.out LL.out)
  clear LL
  refine (packq p1 p2 x (F29.out.rd 10 rfl) (F29.out.rd 9 rfl) rfl rfl HRA.out HP.out HX.out).mono ?_
  rintro e u14 ⟨rfl, hb⟩
  have F30 := Lib.hid (F29.out.below hb)
  clear F29
  replace BB := Lib.hid (bl_then BB.out hb)
  clear hb
  have pc_0 : u14.cell? ⟨u12.heap.size, 0, none⟩ = some (.string p1) := (F30.out.blk 0 rfl).cell 0
  have pc_1 : u14.cell? ⟨u12.heap.size, 1, none⟩ = some (.string p2) := (F30.out.blk 0 rfl).cell 1
  have pc_lt : u12.heap.size < u14.heap.size := (F30.out.blk 0 rfl).lt
  go_wp2
  exact bodyPost_ret (v := .bool true) (by simp [results, Try.results23, go_sem]) rfl ⟨rfl, (by repeat (first | exact BB.out | refine bl_drewN ?_ _ | refine bl_drew ?_ | refine bl_alloc ?_ _))⟩
end Go.Proofs.Ytljfigikkajlnaa
