/- DERIVED. The document's kept and Put of objects. -/
import Derived.Test.YtljfigikkajlnaaVDvRefPut
import Derived.Test.YtljfigikkajlnaaVObMrg
import Derived.Test.YtljfigikkajlnaaVObPut
namespace Go.Proofs.Ytljfigikkajlnaa
open Go.RowKit Go.Lib
set_option linter.unusedVariables false
set_option linter.unusedSimpArgs false
section
variable {key : ByteArray} {A C : Option Addr} {n c m d : Nat} {a : List Dot} {l : List Sib} {w : World}
theorem dchkq (x : Int) (ha : GR.Rd dotK w A a) (hl : GR.Rd sibK w C l) (hn : n = a.length) (hm : m = l.length) (hr : StR a l) (hx : chkE key a l = x) :
    Calls Try.prog 32 #[.agg #[.string key, .slice A n c, .slice C m d]] w fun e w' => e = .returned (.int .i64 x) ∧ Below w.heap.size w w' := by
  have h := dcheck_any key A C n c m d a l w ha hl hn hm hr
  rw [hx] at h
  exact h
set_option maxRecDepth 100000 in
set_option maxHeartbeats 6400000 in
theorem dkept_yes (ha : GR.Rd dotK w A a) (hl : GR.Rd sibK w C l) (hn : n = a.length) (hm : m = l.length) (hr : StR a l) (hx : chkE key a l = 0) :
    Calls Try.prog 34 #[.string key, .agg #[.slice A n c, .slice C m d]] w fun e w' => e = .returned (.tuple #[.agg #[.string key, .slice A n c, .slice C m d], .int .i64 0]) ∧ Below w.heap.size w w' := by
  have HA := Lib.hid ha
  have HL := Lib.hid hl
  have HR := Lib.hid hr
  have HN := Lib.hid hn
  have HM := Lib.hid hm
  have HX := Lib.hid hx
  clear ha hl hr hn hm hx
  go_enter Try.func34, Try.ntmps34
  go_wp2_with fail
  obtain ⟨Z1, hZ1⟩ : ∃ W : World, W = ((w.alloc (.cells #[.slice A n c, .slice C m d] 25)).alloc (.cells #[.string ⟨#[]⟩, .slice none 0 0, .slice none 0 0] 27)).alloc (.cells #[.string key, .slice A n c, .slice C m d] 27) := ⟨_, rfl⟩
  rw [← hZ1]
  have LL : Hid (Below w.heap.size w Z1) := Lib.hid (by rw [hZ1]; exact (by repeat (first | exact Below.refl _ _ | refine bl_drewN ?_ _ | refine bl_drew ?_ | refine bl_alloc ?_ _)))
  have X_ps : Hid (GR.Blk Z1 (w.heap.size) 25 #[.slice A n c, .slice C m d]) := Lib.hid (by rw [hZ1]; exact ((GR.Blk.new _ _ _).alloc _).alloc _)
  have X_pr : Hid (GR.Blk Z1 (w.heap.size + 1) 27 #[.string ⟨#[]⟩, .slice none 0 0, .slice none 0 0]) := Lib.hid (by rw [hZ1]; exact (new_at _ _ _ (by simp)).alloc _)
  have X_po : Hid (GR.Blk Z1 (w.heap.size + 1 + 1) 27 #[.string key, .slice A n c, .slice C m d]) := Lib.hid (by rw [hZ1]; exact new_at _ _ _ (by simp))
  clear hZ1
  have F1 := Lib.hid (HS.nil Z1)
  have F2 := Lib.hid (HS.addB F1.out (g := w.heap.size) (t := 25) (cs := #[.slice A n c, .slice C m d]) (X_ps.out))
  clear F1
  have F3 := Lib.hid (HS.addB F2.out (g := w.heap.size + 1) (t := 27) (cs := #[.string ⟨#[]⟩, .slice none 0 0, .slice none 0 0]) (X_pr.out))
  clear F2
  have F4 := Lib.hid (HS.addB F3.out (g := w.heap.size + 1 + 1) (t := 27) (cs := #[.string key, .slice A n c, .slice C m d]) (X_po.out))
  clear F3
  clear X_ps X_pr X_po
  have F5 := Lib.hid (F4.out.addR (HA.out.below LL.out))
  clear F4
  have F6 := Lib.hid (F5.out.addR (HL.out.below LL.out))
  clear F5
  have BB := LL
  clear LL
  refine (dchkq 0 (F6.out.rd 1 rfl) (F6.out.rd 0 rfl) HN.out HM.out HR.out HX.out).mono ?_
  rintro e u2 ⟨rfl, hb⟩
  have F7 := Lib.hid (F6.out.below hb)
  clear F6
  replace BB := Lib.hid (bl_then BB.out hb)
  clear hb
  have pr_0 : u2.cell? ⟨w.heap.size + 1, 0, none⟩ = some (.string ⟨#[]⟩) := (F7.out.blk 3 rfl).cell 0
  have pr_1 : u2.cell? ⟨w.heap.size + 1, 1, none⟩ = some (.slice none 0 0) := (F7.out.blk 3 rfl).cell 1
  have pr_2 : u2.cell? ⟨w.heap.size + 1, 2, none⟩ = some (.slice none 0 0) := (F7.out.blk 3 rfl).cell 2
  have po_0 : u2.cell? ⟨w.heap.size + 1 + 1, 0, none⟩ = some (.string key) := (F7.out.blk 2 rfl).cell 0
  have po_1 : u2.cell? ⟨w.heap.size + 1 + 1, 1, none⟩ = some (.slice A n c) := (F7.out.blk 2 rfl).cell 1
  have po_2 : u2.cell? ⟨w.heap.size + 1 + 1, 2, none⟩ = some (.slice C m d) := (F7.out.blk 2 rfl).cell 2
  have pr_lt : w.heap.size + 1 < u2.heap.size := (F7.out.blk 3 rfl).lt
  have po_lt : w.heap.size + 1 + 1 < u2.heap.size := (F7.out.blk 2 rfl).lt
  have pr_f0 := (F7.out.blk 3 rfl).frozen 0
  have pr_f1 := (F7.out.blk 3 rfl).frozen 1
  have pr_f2 := (F7.out.blk 3 rfl).frozen 2
  have q3 : w.heap.size + 1 ≠ w.heap.size + 1 + 1 := by omega
  go_wp2
  exact bodyPost_ret (v := .tuple #[.agg #[.string key, .slice A n c, .slice C m d], .int .i64 0]) (by simp [results, Try.results34, go_sem, pr_0, pr_1, pr_2, pr_f0, pr_f1, pr_f2]) rfl ⟨rfl, (by repeat (first | exact BB.out | refine Below.setCell ?_ (by show w.heap.size ≤ w.heap.size + 1; omega) _))⟩
set_option maxRecDepth 100000 in
set_option maxHeartbeats 6400000 in
theorem dkept_no {x : Int} (ha : GR.Rd dotK w A a) (hl : GR.Rd sibK w C l) (hn : n = a.length) (hm : m = l.length) (hr : StR a l) (hx : chkE key a l = x) (h0 : x ≠ 0) :
    Calls Try.prog 34 #[.string key, .agg #[.slice A n c, .slice C m d]] w fun e w' => e = .returned (.tuple #[.agg #[.string ⟨#[]⟩, .slice none 0 0, .slice none 0 0], .int .i64 x]) ∧ Below w.heap.size w w' := by
  have HA := Lib.hid ha
  have HL := Lib.hid hl
  have HR := Lib.hid hr
  have HN := Lib.hid hn
  have HM := Lib.hid hm
  have HX := Lib.hid hx
  clear ha hl hr hn hm hx
  go_enter Try.func34, Try.ntmps34
  go_wp2_with fail
  obtain ⟨Z1, hZ1⟩ : ∃ W : World, W = ((w.alloc (.cells #[.slice A n c, .slice C m d] 25)).alloc (.cells #[.string ⟨#[]⟩, .slice none 0 0, .slice none 0 0] 27)).alloc (.cells #[.string key, .slice A n c, .slice C m d] 27) := ⟨_, rfl⟩
  rw [← hZ1]
  have LL : Hid (Below w.heap.size w Z1) := Lib.hid (by rw [hZ1]; exact (by repeat (first | exact Below.refl _ _ | refine bl_drewN ?_ _ | refine bl_drew ?_ | refine bl_alloc ?_ _)))
  have X_ps : Hid (GR.Blk Z1 (w.heap.size) 25 #[.slice A n c, .slice C m d]) := Lib.hid (by rw [hZ1]; exact ((GR.Blk.new _ _ _).alloc _).alloc _)
  have X_pr : Hid (GR.Blk Z1 (w.heap.size + 1) 27 #[.string ⟨#[]⟩, .slice none 0 0, .slice none 0 0]) := Lib.hid (by rw [hZ1]; exact (new_at _ _ _ (by simp)).alloc _)
  have X_po : Hid (GR.Blk Z1 (w.heap.size + 1 + 1) 27 #[.string key, .slice A n c, .slice C m d]) := Lib.hid (by rw [hZ1]; exact new_at _ _ _ (by simp))
  clear hZ1
  have F1 := Lib.hid (HS.nil Z1)
  have F2 := Lib.hid (HS.addB F1.out (g := w.heap.size) (t := 25) (cs := #[.slice A n c, .slice C m d]) (X_ps.out))
  clear F1
  have F3 := Lib.hid (HS.addB F2.out (g := w.heap.size + 1) (t := 27) (cs := #[.string ⟨#[]⟩, .slice none 0 0, .slice none 0 0]) (X_pr.out))
  clear F2
  have F4 := Lib.hid (HS.addB F3.out (g := w.heap.size + 1 + 1) (t := 27) (cs := #[.string key, .slice A n c, .slice C m d]) (X_po.out))
  clear F3
  clear X_ps X_pr X_po
  have F5 := Lib.hid (F4.out.addR (HA.out.below LL.out))
  clear F4
  have F6 := Lib.hid (F5.out.addR (HL.out.below LL.out))
  clear F5
  have BB := LL
  clear LL
  refine (dchkq x (F6.out.rd 1 rfl) (F6.out.rd 0 rfl) HN.out HM.out HR.out HX.out).mono ?_
  rintro e u2 ⟨rfl, hb⟩
  have F7 := Lib.hid (F6.out.below hb)
  clear F6
  replace BB := Lib.hid (bl_then BB.out hb)
  clear hb
  have q1 : (x != 0) = true := by simpa using h0
  have q2 : decide (x = 0) = false := decide_eq_false h0
  clear h0
  have pr_0 : u2.cell? ⟨w.heap.size + 1, 0, none⟩ = some (.string ⟨#[]⟩) := (F7.out.blk 3 rfl).cell 0
  have pr_1 : u2.cell? ⟨w.heap.size + 1, 1, none⟩ = some (.slice none 0 0) := (F7.out.blk 3 rfl).cell 1
  have pr_2 : u2.cell? ⟨w.heap.size + 1, 2, none⟩ = some (.slice none 0 0) := (F7.out.blk 3 rfl).cell 2
  have po_0 : u2.cell? ⟨w.heap.size + 1 + 1, 0, none⟩ = some (.string key) := (F7.out.blk 2 rfl).cell 0
  have po_1 : u2.cell? ⟨w.heap.size + 1 + 1, 1, none⟩ = some (.slice A n c) := (F7.out.blk 2 rfl).cell 1
  have po_2 : u2.cell? ⟨w.heap.size + 1 + 1, 2, none⟩ = some (.slice C m d) := (F7.out.blk 2 rfl).cell 2
  have pr_lt : w.heap.size + 1 < u2.heap.size := (F7.out.blk 3 rfl).lt
  have po_lt : w.heap.size + 1 + 1 < u2.heap.size := (F7.out.blk 2 rfl).lt
  have pr_f0 := (F7.out.blk 3 rfl).frozen 0
  have pr_f1 := (F7.out.blk 3 rfl).frozen 1
  have pr_f2 := (F7.out.blk 3 rfl).frozen 2
  have q3 : w.heap.size + 1 ≠ w.heap.size + 1 + 1 := by omega
  go_wp2
  exact bodyPost_ret (v := .tuple #[.agg #[.string ⟨#[]⟩, .slice none 0 0, .slice none 0 0], .int .i64 x]) (by simp [results, Try.results34, go_sem, pr_0, pr_1, pr_2, pr_f0, pr_f1, pr_f2]) rfl ⟨rfl, (by repeat (first | exact BB.out | refine Below.setCell ?_ (by show w.heap.size ≤ w.heap.size + 1; omega) _))⟩
end
set_option maxRecDepth 100000 in
set_option maxHeartbeats 12800000 in
theorem doput_any (key : ByteArray) (A C E : Option Addr) (c d c3 : Nat) (s : List Dot) (l : List Sib) (ctx : List Dot) (a : Int) (v : ByteArray) (g : Bool) (w : World) (hs : GR.Rd dotK w A s) (hl : GR.Rd sibK w C l) (hx : GR.Rd dotK w E ctx)
    (hr : StR s l) (hq : ∀ d ∈ ctx, 0 ≤ d.n ∧ 0 ≤ d.a ∧ d.a ≤ 4294967295) (ha : 0 ≤ a ∧ a ≤ 4294967295) :
    Calls Try.prog 16 #[.agg #[.string key, .slice A s.length c, .slice C l.length d], .slice E ctx.length c3, .int .u32 a, .string v, .bool g] w
      fun e w' => ∃ v1 v2, e = .returned (.tuple #[.agg #[.string (oputK key s l ctx a v g), v1, v2], .agg #[.int .u32 (oputD key s l ctx a v g).a, .int .u64 (oputD key s l ctx a v g).n], .int .i64 (oputE key s l ctx a v g)]) ∧ OwnS w' w.heap.size v1 v2 (oputA key s l ctx a v g) (oputL key s l ctx a v g) ∧ Below w.heap.size w w' := by
  obtain ⟨X1, hx1⟩ : ∃ x, chkE key s l = x := ⟨_, rfl⟩
  obtain ⟨X3, hx3⟩ : ∃ x, putE s l ctx a v g = x := ⟨_, rfl⟩
  obtain ⟨J, hJ⟩ : ∃ x, putA s l ctx a v g = x := ⟨_, rfl⟩
  obtain ⟨M, hM⟩ : ∃ x, putL s l ctx a v g = x := ⟨_, rfl⟩
  obtain ⟨D, hD⟩ : ∃ x, putD s l ctx a v g = x := ⟨_, rfl⟩
  obtain ⟨X4, hx4⟩ : ∃ x, chkE key J M = x := ⟨_, rfl⟩
  have hsm := put_small s l ctx a v g
  have hps := put_str (v := v) (g := g) hr hq ha
  rw [hJ, hM] at hsm hps
  have js : J.length * 16 ≤ 140737488355328 := by omega
  have jl : M.length * 40 ≤ 140737488355328 := by omega
  clear hsm
  have nq : ∀ d ∈ ctx, 0 ≤ d.n := fun d hd => (hq d hd).1
  have HS1 := Lib.hid hs
  have HL := Lib.hid hl
  have HXC := Lib.hid hx
  have HR := Lib.hid hr
  have HQ := Lib.hid hq
  have NQ := Lib.hid nq
  have HX1 := Lib.hid hx1
  have HX3 := Lib.hid hx3
  have HX4 := Lib.hid hx4
  have HJ := Lib.hid hJ
  have HMM := Lib.hid hM
  have HDD := Lib.hid hD
  have HPS := Lib.hid hps
  clear hs hl hx hr hq nq hx1 hx3 hx4 hJ hM hD hps
  go_enter Try.func16, Try.ntmps16
  go_wp2_with fail
  obtain ⟨Z1, hZ1⟩ : ∃ W : World, W = ((w.alloc (.cells #[.string key, .slice A s.length c, .slice C l.length d] 27)).alloc (.cells #[.string ⟨#[]⟩, .slice none 0 0, .slice none 0 0] 27)).alloc (.cells #[.int .u32 0, .int .u64 0] 41) := ⟨_, rfl⟩
  rw [← hZ1]
  have LL : Hid (Below w.heap.size w Z1) := Lib.hid (by rw [hZ1]; exact (by repeat (first | exact Below.refl _ _ | refine bl_drewN ?_ _ | refine bl_drew ?_ | refine bl_alloc ?_ _)))
  have X_po : Hid (GR.Blk Z1 (w.heap.size) 27 #[.string key, .slice A s.length c, .slice C l.length d]) := Lib.hid (by rw [hZ1]; exact ((GR.Blk.new _ _ _).alloc _).alloc _)
  have X_pr : Hid (GR.Blk Z1 (w.heap.size + 1) 27 #[.string ⟨#[]⟩, .slice none 0 0, .slice none 0 0]) := Lib.hid (by rw [hZ1]; exact (new_at _ _ _ (by simp)).alloc _)
  have X_pd : Hid (GR.Blk Z1 (w.heap.size + 1 + 1) 41 #[.int .u32 0, .int .u64 0]) := Lib.hid (by rw [hZ1]; exact new_at _ _ _ (by simp))
  clear hZ1
  have mn1 : w.heap.size ≤ Z1.heap.size := LL.out.size
  have F1 := Lib.hid (HS.nil Z1)
  have F2 := Lib.hid (HS.addB F1.out (g := w.heap.size) (t := 27) (cs := #[.string key, .slice A s.length c, .slice C l.length d]) (X_po.out))
  clear F1
  have F3 := Lib.hid (HS.addB F2.out (g := w.heap.size + 1) (t := 27) (cs := #[.string ⟨#[]⟩, .slice none 0 0, .slice none 0 0]) (X_pr.out))
  clear F2
  have F4 := Lib.hid (HS.addB F3.out (g := w.heap.size + 1 + 1) (t := 41) (cs := #[.int .u32 0, .int .u64 0]) (X_pd.out))
  clear F3
  clear X_po X_pr X_pd
  have F5 := Lib.hid (F4.out.addR (HS1.out.below LL.out))
  clear F4
  have F6 := Lib.hid (F5.out.addR (HL.out.below LL.out))
  clear F5
  have F7 := Lib.hid (F6.out.addR (HXC.out.below LL.out))
  clear F6
  have BB := LL
  clear LL
  have n1 : w.heap.size + 1 ≠ w.heap.size + 1 + 1 := by omega
  have n2 : w.heap.size + 1 + 1 ≠ w.heap.size + 1 := by omega
  refine (dchkq X1 (F7.out.rd 2 rfl) (F7.out.rd 1 rfl) rfl rfl HR.out HX1.out).mono ?_
  rintro e u2 ⟨rfl, hb⟩
  have mn2 : Z1.heap.size ≤ u2.heap.size := Below.size hb
  have F8 := Lib.hid (F7.out.below hb)
  clear F7
  replace BB := Lib.hid (bl_then BB.out hb)
  clear hb
  by_cases h0 : X1 = 0
  · subst h0
    have po_0 : u2.cell? ⟨w.heap.size, 0, none⟩ = some (.string key) := (F8.out.blk 5 rfl).cell 0
    have po_1 : u2.cell? ⟨w.heap.size, 1, none⟩ = some (.slice A s.length c) := (F8.out.blk 5 rfl).cell 1
    have po_2 : u2.cell? ⟨w.heap.size, 2, none⟩ = some (.slice C l.length d) := (F8.out.blk 5 rfl).cell 2
    have po_lt : w.heap.size < u2.heap.size := (F8.out.blk 5 rfl).lt
    go_wp2_with fail
    clear po_0 po_1 po_2 po_lt
    have hwb : w.heap.size + 1 + 1 < u2.heap.size := (F8.out.blk 3 rfl).lt
    have hwc : w.heap.size + 1 < u2.heap.size := (F8.out.blk 4 rfl).lt
    have BJ := BB
    refine (refPut_any A C E c d c3 s l ctx a v g _ (F8.out.rd 2 rfl) (F8.out.rd 1 rfl) (F8.out.rd 0 rfl) (fun d hd => (HR.out.1 d hd).1) (fun x hx => (HR.out.2 x hx).1) NQ.out).mono ?_
    rintro e u3 ⟨v1, v2, rfl, ⟨hod, hos⟩, hb⟩
    rw [HX3.out, HDD.out]
    rw [HJ.out] at hod
    rw [HMM.out] at hos
    obtain ⟨A1, m1, d1, rfl⟩ := own_slice hod js
    obtain ⟨A2, m2, d2, rfl⟩ := own_slice hos jl
    obtain rfl : m1 = J.length := own_n' hod
    obtain rfl : m2 = M.length := own_n' hos
    have mn3 : u2.heap.size ≤ u3.heap.size := Below.size hb
    have F9 := Lib.hid (F8.out.below hb)
    clear F8
    have F10 := Lib.hid (F9.out.addO (⟨hod, hos⟩))
    clear F9
    replace BB := Lib.hid (bl_then BB.out hb)
    clear hb
    clear hod hos
    by_cases h0 : X3 = 0
    · subst h0
      have po_0 : u3.cell? ⟨w.heap.size, 0, none⟩ = some (.string key) := (F10.out.blk 6 rfl).cell 0
      have po_1 : u3.cell? ⟨w.heap.size, 1, none⟩ = some (.slice A s.length c) := (F10.out.blk 6 rfl).cell 1
      have po_2 : u3.cell? ⟨w.heap.size, 2, none⟩ = some (.slice C l.length d) := (F10.out.blk 6 rfl).cell 2
      have po_lt : w.heap.size < u3.heap.size := (F10.out.blk 6 rfl).lt
      go_wp2_with fail
      clear po_0 po_1 po_2 po_lt
      obtain ⟨Z4, hZ4⟩ : ∃ W : World, W = (u3.alloc (.cells #[.slice A1 J.length d1, .slice A2 M.length d2] 25)).alloc (.cells #[.int .u32 D.a, .int .u64 D.n] 41) := ⟨_, rfl⟩
      rw [← hZ4]
      have LL : Hid (Below u3.heap.size u3 Z4) := Lib.hid (by rw [hZ4]; exact (by repeat (first | exact Below.refl _ _ | refine bl_drewN ?_ _ | refine bl_drew ?_ | refine bl_alloc ?_ _)))
      have X_ps : Hid (GR.Blk Z4 (u3.heap.size) 25 #[.slice A1 J.length d1, .slice A2 M.length d2]) := Lib.hid (by rw [hZ4]; exact (GR.Blk.new _ _ _).alloc _)
      have X_pe : Hid (GR.Blk Z4 (u3.heap.size + 1) 41 #[.int .u32 D.a, .int .u64 D.n]) := Lib.hid (by rw [hZ4]; exact new_at _ _ _ (by simp))
      clear hZ4
      have mn4 : u3.heap.size ≤ Z4.heap.size := LL.out.size
      have F11 := Lib.hid (F10.out.below LL.out)
      clear F10
      have F12 := Lib.hid (HS.addB F11.out (g := u3.heap.size) (t := 25) (cs := #[.slice A1 J.length d1, .slice A2 M.length d2]) (X_ps.out))
      clear F11
      have F13 := Lib.hid (HS.addB F12.out (g := u3.heap.size + 1) (t := 41) (cs := #[.int .u32 D.a, .int .u64 D.n]) (X_pe.out))
      clear F12
      clear X_ps X_pe
      replace BB := Lib.hid (bl_then BB.out LL.out)
      clear LL
      by_cases h0 : X4 = 0
      · subst h0
        refine (dkept_yes ((F13.out.own 2 rfl).d.rd js).2.2 ((F13.out.own 2 rfl).s.rd jl).2.2 rfl rfl HPS.out HX4.out).mono ?_
        rintro e u5 ⟨rfl, hb⟩
        have mn5 : Z4.heap.size ≤ u5.heap.size := Below.size hb
        have F14 := Lib.hid (F13.out.below hb)
        clear F13
        replace BB := Lib.hid (bl_then BB.out hb)
        clear hb
        go_upto_region 8 with fail
        obtain ⟨Z6, hZ6⟩ : ∃ W : World, W = u5.alloc (.cells #[.string key, .slice A1 J.length d1, .slice A2 M.length d2] 27) := ⟨_, rfl⟩
        rw [← hZ6]
        have LL : Hid (Below u5.heap.size u5 Z6) := Lib.hid (by rw [hZ6]; exact (by repeat (first | exact Below.refl _ _ | refine bl_drewN ?_ _ | refine bl_drew ?_ | refine bl_alloc ?_ _)))
        have X_pk : Hid (GR.Blk Z6 (u5.heap.size) 27 #[.string key, .slice A1 J.length d1, .slice A2 M.length d2]) := Lib.hid (by rw [hZ6]; exact GR.Blk.new _ _ _)
        clear hZ6
        have mn6 : u5.heap.size ≤ Z6.heap.size := LL.out.size
        have F15 := Lib.hid (F14.out.below LL.out)
        clear F14
        have F16 := Lib.hid (HS.addB F15.out (g := u5.heap.size) (t := 27) (cs := #[.string key, .slice A1 J.length d1, .slice A2 M.length d2]) (X_pk.out))
        clear F15
        clear X_pk
        replace BB := Lib.hid (bl_then BB.out LL.out)
        clear LL
        have pr_0 : Z6.cell? ⟨w.heap.size + 1, 0, none⟩ = some (.string ⟨#[]⟩) := (F16.out.blk 8 rfl).cell 0
        have pr_1 : Z6.cell? ⟨w.heap.size + 1, 1, none⟩ = some (.slice none 0 0) := (F16.out.blk 8 rfl).cell 1
        have pr_2 : Z6.cell? ⟨w.heap.size + 1, 2, none⟩ = some (.slice none 0 0) := (F16.out.blk 8 rfl).cell 2
        have pd_0 : Z6.cell? ⟨w.heap.size + 1 + 1, 0, none⟩ = some (.int .u32 0) := (F16.out.blk 7 rfl).cell 0
        have pd_1 : Z6.cell? ⟨w.heap.size + 1 + 1, 1, none⟩ = some (.int .u64 0) := (F16.out.blk 7 rfl).cell 1
        have pk_0 : Z6.cell? ⟨u5.heap.size, 0, none⟩ = some (.string key) := (F16.out.blk 0 rfl).cell 0
        have pk_1 : Z6.cell? ⟨u5.heap.size, 1, none⟩ = some (.slice A1 J.length d1) := (F16.out.blk 0 rfl).cell 1
        have pk_2 : Z6.cell? ⟨u5.heap.size, 2, none⟩ = some (.slice A2 M.length d2) := (F16.out.blk 0 rfl).cell 2
        have pe_0 : Z6.cell? ⟨u3.heap.size + 1, 0, none⟩ = some (.int .u32 D.a) := (F16.out.blk 1 rfl).cell 0
        have pe_1 : Z6.cell? ⟨u3.heap.size + 1, 1, none⟩ = some (.int .u64 D.n) := (F16.out.blk 1 rfl).cell 1
        have pr_lt : w.heap.size + 1 < Z6.heap.size := (F16.out.blk 8 rfl).lt
        have pd_lt : w.heap.size + 1 + 1 < Z6.heap.size := (F16.out.blk 7 rfl).lt
        have pk_lt : u5.heap.size < Z6.heap.size := (F16.out.blk 0 rfl).lt
        have pe_lt : u3.heap.size + 1 < Z6.heap.size := (F16.out.blk 1 rfl).lt
        have pr_f0 := (F16.out.blk 8 rfl).frozen 0
        have pr_f1 := (F16.out.blk 8 rfl).frozen 1
        have pr_f2 := (F16.out.blk 8 rfl).frozen 2
        have pd_f0 := (F16.out.blk 7 rfl).frozen 0
        have pd_f1 := (F16.out.blk 7 rfl).frozen 1
        have HV := Lib.hid (oput_yes (show oputE key s l ctx a v g = 0 by rw [oputE, HX1.out, if_pos rfl, HX3.out, if_pos rfl, HJ.out, HMM.out, HX4.out]))
        have OF : Hid (∀ W : World, Chg (fun k => k < u2.heap.size) Z6 W → OwnS W w.heap.size (.slice A1 J.length d1) (.slice A2 M.length d2) J M) := Lib.hid (fun W hc => OwnS.base ⟨own_chg (F16.out.own 3 rfl).d hc (fun k hk e => absurd ((F16.out.own 3 rfl).d.lt k hk).1 (Nat.not_le.2 e)), own_chg (F16.out.own 3 rfl).s hc (fun k hk e => absurd ((F16.out.own 3 rfl).s.lt k hk).1 (Nat.not_le.2 e))⟩ BJ.out.size)
        have z1 : w.heap.size + 1 ≠ u3.heap.size + 1 := by have := (BB.out).size; omega
        have z2 : w.heap.size + 1 ≠ u5.heap.size := by have := (BB.out).size; omega
        have z3 : w.heap.size + 1 + 1 ≠ u3.heap.size + 1 := by have := (BB.out).size; omega
        have z4 : w.heap.size + 1 + 1 ≠ u5.heap.size := by have := (BB.out).size; omega
        go_wp2
        go_region
        all_goals
          go_wp2
          exact bodyPost_ret (v := .tuple #[.agg #[.string key, .slice A1 J.length d1, .slice A2 M.length d2], .agg #[.int .u32 D.a, .int .u64 D.n], .int .i64 0]) (by simp [results, Try.results16, go_sem, pr_0, pr_1, pr_2, pr_f0, pr_f1, pr_f2, pd_0, pd_1, pd_f0, pd_f1, n1, n2]) rfl ⟨_, _, by rw [HV.out.1, HV.out.2.1, HV.out.2.2.1, HDD.out], by
            rw [HV.out.2.2.2.1, HV.out.2.2.2.2, HJ.out, HMM.out]
            exact OF.out _ (chg_drew (by repeat (first | exact Chg.refl _ _ | refine Chg.then ?_ (chg_set _ _ (.inl (by first | exact hwb | exact hwc)))))), by
            refine bl_drew ?_
            repeat (first | exact BB.out | refine Below.setCell ?_ (by first | (show w.heap.size ≤ w.heap.size + 1 + 1; omega) | (show w.heap.size ≤ w.heap.size + 1; omega)) _)⟩
      · have h1 := h0
        have q1 : (X4 != 0) = true := by simpa using h0
        have q2 : decide (X4 = 0) = false := by simpa using h0
        clear h0
        refine (dkept_no ((F13.out.own 2 rfl).d.rd js).2.2 ((F13.out.own 2 rfl).s.rd jl).2.2 rfl rfl HPS.out HX4.out h1).mono ?_
        rintro e u7 ⟨rfl, hb⟩
        have mn7 : Z4.heap.size ≤ u7.heap.size := Below.size hb
        have F17 := Lib.hid (F13.out.below hb)
        clear F13
        replace BB := Lib.hid (bl_then BB.out hb)
        clear hb
        go_upto_region 8 with fail
        obtain ⟨Z8, hZ8⟩ : ∃ W : World, W = u7.alloc (.cells #[.string ⟨#[]⟩, .slice none 0 0, .slice none 0 0] 27) := ⟨_, rfl⟩
        rw [← hZ8]
        have LL : Hid (Below u7.heap.size u7 Z8) := Lib.hid (by rw [hZ8]; exact (by repeat (first | exact Below.refl _ _ | refine bl_drewN ?_ _ | refine bl_drew ?_ | refine bl_alloc ?_ _)))
        have X_pk : Hid (GR.Blk Z8 (u7.heap.size) 27 #[.string ⟨#[]⟩, .slice none 0 0, .slice none 0 0]) := Lib.hid (by rw [hZ8]; exact GR.Blk.new _ _ _)
        clear hZ8
        have mn8 : u7.heap.size ≤ Z8.heap.size := LL.out.size
        have F18 := Lib.hid (F17.out.below LL.out)
        clear F17
        have F19 := Lib.hid (HS.addB F18.out (g := u7.heap.size) (t := 27) (cs := #[.string ⟨#[]⟩, .slice none 0 0, .slice none 0 0]) (X_pk.out))
        clear F18
        clear X_pk
        replace BB := Lib.hid (bl_then BB.out LL.out)
        clear LL
        have pr_0 : Z8.cell? ⟨w.heap.size + 1, 0, none⟩ = some (.string ⟨#[]⟩) := (F19.out.blk 8 rfl).cell 0
        have pr_1 : Z8.cell? ⟨w.heap.size + 1, 1, none⟩ = some (.slice none 0 0) := (F19.out.blk 8 rfl).cell 1
        have pr_2 : Z8.cell? ⟨w.heap.size + 1, 2, none⟩ = some (.slice none 0 0) := (F19.out.blk 8 rfl).cell 2
        have pd_0 : Z8.cell? ⟨w.heap.size + 1 + 1, 0, none⟩ = some (.int .u32 0) := (F19.out.blk 7 rfl).cell 0
        have pd_1 : Z8.cell? ⟨w.heap.size + 1 + 1, 1, none⟩ = some (.int .u64 0) := (F19.out.blk 7 rfl).cell 1
        have pr_lt : w.heap.size + 1 < Z8.heap.size := (F19.out.blk 8 rfl).lt
        have pd_lt : w.heap.size + 1 + 1 < Z8.heap.size := (F19.out.blk 7 rfl).lt
        have pr_f0 := (F19.out.blk 8 rfl).frozen 0
        have pr_f1 := (F19.out.blk 8 rfl).frozen 1
        have pr_f2 := (F19.out.blk 8 rfl).frozen 2
        have pd_f0 := (F19.out.blk 7 rfl).frozen 0
        have pd_f1 := (F19.out.blk 7 rfl).frozen 1
        have HV := Lib.hid (oput_no (show oputE key s l ctx a v g = X4 by rw [oputE, HX1.out, if_pos rfl, HX3.out, if_pos rfl, HJ.out, HMM.out, HX4.out]) (by first | assumption | decide))
        go_wp2
        exact bodyPost_ret (v := .tuple #[.agg #[.string ⟨#[]⟩, .slice none 0 0, .slice none 0 0], .agg #[.int .u32 0, .int .u64 0], .int .i64 X4]) (by simp [results, Try.results16, go_sem, pr_0, pr_1, pr_2, pr_f0, pr_f1, pr_f2, pd_0, pd_1, pd_f0, pd_f1]) rfl ⟨_, _, by rw [HV.out.1, HV.out.2.1, HV.out.2.2.1], by rw [HV.out.2.2.2.1, HV.out.2.2.2.2]; exact ⟨GR.Own.nil _ _ _, GR.Own.nil _ _ _⟩, (by repeat (first | exact BB.out | refine bl_drew ?_ | refine Below.setCell ?_ (by first | (show w.heap.size ≤ w.heap.size + 1 + 1; omega) | (show w.heap.size ≤ w.heap.size + 1; omega)) _))⟩
    · have h1 := h0
      have q1 : (X3 != 0) = true := by simpa using h0
      have q2 : decide (X3 = 0) = false := by simpa using h0
      clear h0
      go_upto_region 5 with fail
      obtain ⟨Z9, hZ9⟩ : ∃ W : World, W = (u3.alloc (.cells #[.slice A1 J.length d1, .slice A2 M.length d2] 25)).alloc (.cells #[.int .u32 D.a, .int .u64 D.n] 41) := ⟨_, rfl⟩
      rw [← hZ9]
      have LL : Hid (Below u3.heap.size u3 Z9) := Lib.hid (by rw [hZ9]; exact (by repeat (first | exact Below.refl _ _ | refine bl_drewN ?_ _ | refine bl_drew ?_ | refine bl_alloc ?_ _)))
      have X_ps : Hid (GR.Blk Z9 (u3.heap.size) 25 #[.slice A1 J.length d1, .slice A2 M.length d2]) := Lib.hid (by rw [hZ9]; exact (GR.Blk.new _ _ _).alloc _)
      have X_pe : Hid (GR.Blk Z9 (u3.heap.size + 1) 41 #[.int .u32 D.a, .int .u64 D.n]) := Lib.hid (by rw [hZ9]; exact new_at _ _ _ (by simp))
      clear hZ9
      have mn9 : u3.heap.size ≤ Z9.heap.size := LL.out.size
      have F20 := Lib.hid (F10.out.below LL.out)
      clear F10
      have F21 := Lib.hid (HS.addB F20.out (g := u3.heap.size) (t := 25) (cs := #[.slice A1 J.length d1, .slice A2 M.length d2]) (X_ps.out))
      clear F20
      have F22 := Lib.hid (HS.addB F21.out (g := u3.heap.size + 1) (t := 41) (cs := #[.int .u32 D.a, .int .u64 D.n]) (X_pe.out))
      clear F21
      clear X_ps X_pe
      replace BB := Lib.hid (bl_then BB.out LL.out)
      clear LL
      have pr_0 : Z9.cell? ⟨w.heap.size + 1, 0, none⟩ = some (.string ⟨#[]⟩) := (F22.out.blk 7 rfl).cell 0
      have pr_1 : Z9.cell? ⟨w.heap.size + 1, 1, none⟩ = some (.slice none 0 0) := (F22.out.blk 7 rfl).cell 1
      have pr_2 : Z9.cell? ⟨w.heap.size + 1, 2, none⟩ = some (.slice none 0 0) := (F22.out.blk 7 rfl).cell 2
      have pd_0 : Z9.cell? ⟨w.heap.size + 1 + 1, 0, none⟩ = some (.int .u32 0) := (F22.out.blk 6 rfl).cell 0
      have pd_1 : Z9.cell? ⟨w.heap.size + 1 + 1, 1, none⟩ = some (.int .u64 0) := (F22.out.blk 6 rfl).cell 1
      have pr_lt : w.heap.size + 1 < Z9.heap.size := (F22.out.blk 7 rfl).lt
      have pd_lt : w.heap.size + 1 + 1 < Z9.heap.size := (F22.out.blk 6 rfl).lt
      have pr_f0 := (F22.out.blk 7 rfl).frozen 0
      have pr_f1 := (F22.out.blk 7 rfl).frozen 1
      have pr_f2 := (F22.out.blk 7 rfl).frozen 2
      have pd_f0 := (F22.out.blk 6 rfl).frozen 0
      have pd_f1 := (F22.out.blk 6 rfl).frozen 1
      have HV := Lib.hid (oput_no (show oputE key s l ctx a v g = X3 by rw [oputE, HX1.out, if_pos rfl, HX3.out, if_neg h1]) (by first | assumption | decide))
      go_wp2
      exact bodyPost_ret (v := .tuple #[.agg #[.string ⟨#[]⟩, .slice none 0 0, .slice none 0 0], .agg #[.int .u32 0, .int .u64 0], .int .i64 X3]) (by simp [results, Try.results16, go_sem, pr_0, pr_1, pr_2, pr_f0, pr_f1, pr_f2, pd_0, pd_1, pd_f0, pd_f1]) rfl ⟨_, _, by rw [HV.out.1, HV.out.2.1, HV.out.2.2.1], by rw [HV.out.2.2.2.1, HV.out.2.2.2.2]; exact ⟨GR.Own.nil _ _ _, GR.Own.nil _ _ _⟩, (by repeat (first | exact BB.out | refine bl_drew ?_ | refine Below.setCell ?_ (by first | (show w.heap.size ≤ w.heap.size + 1 + 1; omega) | (show w.heap.size ≤ w.heap.size + 1; omega)) _))⟩
  · have h1 := h0
    have q1 : (X1 != 0) = true := by simpa using h0
    have q2 : decide (X1 = 0) = false := by simpa using h0
    clear h0
    have pr_0 : u2.cell? ⟨w.heap.size + 1, 0, none⟩ = some (.string ⟨#[]⟩) := (F8.out.blk 4 rfl).cell 0
    have pr_1 : u2.cell? ⟨w.heap.size + 1, 1, none⟩ = some (.slice none 0 0) := (F8.out.blk 4 rfl).cell 1
    have pr_2 : u2.cell? ⟨w.heap.size + 1, 2, none⟩ = some (.slice none 0 0) := (F8.out.blk 4 rfl).cell 2
    have pd_0 : u2.cell? ⟨w.heap.size + 1 + 1, 0, none⟩ = some (.int .u32 0) := (F8.out.blk 3 rfl).cell 0
    have pd_1 : u2.cell? ⟨w.heap.size + 1 + 1, 1, none⟩ = some (.int .u64 0) := (F8.out.blk 3 rfl).cell 1
    have pr_lt : w.heap.size + 1 < u2.heap.size := (F8.out.blk 4 rfl).lt
    have pd_lt : w.heap.size + 1 + 1 < u2.heap.size := (F8.out.blk 3 rfl).lt
    have pr_f0 := (F8.out.blk 4 rfl).frozen 0
    have pr_f1 := (F8.out.blk 4 rfl).frozen 1
    have pr_f2 := (F8.out.blk 4 rfl).frozen 2
    have pd_f0 := (F8.out.blk 3 rfl).frozen 0
    have pd_f1 := (F8.out.blk 3 rfl).frozen 1
    have HV := Lib.hid (oput_no (show oputE key s l ctx a v g = X1 by rw [oputE, HX1.out, if_neg h1]) (by first | assumption | decide))
    go_wp2
    exact bodyPost_ret (v := .tuple #[.agg #[.string ⟨#[]⟩, .slice none 0 0, .slice none 0 0], .agg #[.int .u32 0, .int .u64 0], .int .i64 X1]) (by simp [results, Try.results16, go_sem, pr_0, pr_1, pr_2, pr_f0, pr_f1, pr_f2, pd_0, pd_1, pd_f0, pd_f1]) rfl ⟨_, _, by rw [HV.out.1, HV.out.2.1, HV.out.2.2.1], by rw [HV.out.2.2.2.1, HV.out.2.2.2.2]; exact ⟨GR.Own.nil _ _ _, GR.Own.nil _ _ _⟩, (by repeat (first | exact BB.out | refine bl_drew ?_ | refine Below.setCell ?_ (by first | (show w.heap.size ≤ w.heap.size + 1 + 1; omega) | (show w.heap.size ≤ w.heap.size + 1; omega)) _))⟩
end Go.Proofs.Ytljfigikkajlnaa
