/- DERIVED. The program's Merge of two objects. -/
import Derived.Test.YtljfigikkajlnaaVm7
import Derived.Test.YtljfigikkajlnaaVm10
import Derived.Test.YtljfigikkajlnaaVDvJoin
import Derived.Test.YtljfigikkajlnaaVm13
namespace Go.Proofs.Ytljfigikkajlnaa
open Go.RowKit Go.Lib
set_option linter.unusedVariables false
set_option linter.unusedSimpArgs false
def omrgE (ka : ByteArray) (a : List Dot) (l : List Sib) (kb : ByteArray) (b : List Dot) (m : List Sib) : Int :=
  if chkE ka a l = 0 then (if chkE kb b m = 0 then (if ka = kb then (if joinE a l b m = 0 then chkE ka (joinA a l b m) (joinL a l b m) else joinE a l b m) else 1) else chkE kb b m) else chkE ka a l
def omrgK (ka : ByteArray) (a : List Dot) (l : List Sib) (kb : ByteArray) (b : List Dot) (m : List Sib) : ByteArray := if omrgE ka a l kb b m = 0 then ka else ⟨#[]⟩
def omrgA (ka : ByteArray) (a : List Dot) (l : List Sib) (kb : ByteArray) (b : List Dot) (m : List Sib) : List Dot := if omrgE ka a l kb b m = 0 then joinA a l b m else []
def omrgL (ka : ByteArray) (a : List Dot) (l : List Sib) (kb : ByteArray) (b : List Dot) (m : List Sib) : List Sib := if omrgE ka a l kb b m = 0 then joinL a l b m else []
section
variable {ka kb : ByteArray} {a b : List Dot} {l m : List Sib}
theorem omrg_yes (h : omrgE ka a l kb b m = 0) : omrgE ka a l kb b m = 0 ∧ omrgK ka a l kb b m = ka ∧ omrgA ka a l kb b m = joinA a l b m ∧ omrgL ka a l kb b m = joinL a l b m := by
  refine ⟨h, ?_, ?_, ?_⟩
  · rw [omrgK, if_pos h]
  · rw [omrgA, if_pos h]
  · rw [omrgL, if_pos h]
theorem omrg_not (h : omrgE ka a l kb b m ≠ 0) : omrgK ka a l kb b m = ⟨#[]⟩ ∧ omrgA ka a l kb b m = [] ∧ omrgL ka a l kb b m = [] := by
  refine ⟨?_, ?_, ?_⟩
  · rw [omrgK, if_neg h]
  · rw [omrgA, if_neg h]
  · rw [omrgL, if_neg h]
theorem omrg_no {x : Int} (h : omrgE ka a l kb b m = x) (h0 : x ≠ 0 := by first | assumption | decide) : omrgE ka a l kb b m = x ∧ omrgK ka a l kb b m = ⟨#[]⟩ ∧ omrgA ka a l kb b m = [] ∧ omrgL ka a l kb b m = [] := ⟨h, omrg_not (by rw [h]; exact h0)⟩
theorem join_str (hs : StR a l) (ht : StR b m) : StR (joinA a l b m) (joinL a l b m) := by
  rcases join_cases a l b m with ⟨_, h1, h2⟩ | ⟨_, h1, h2⟩
  · rw [h1, h2]
    refine ⟨fun d hd => ⟨vmax_pos _ _ (fun d hd => (hs.1 d hd).1) (fun d hd => (ht.1 d hd).1) d hd, ?_⟩, fun x hx => ?_⟩
    · rcases vmax_actor _ _ d hd with ⟨y, hy, e⟩ | ⟨y, hy, e⟩
      · have := hs.1 y hy; omega
      · have := ht.1 y hy; omega
    · rcases sjoin_mem _ _ x hx with hx | hx
      · exact hs.2 x hx
      · exact ht.2 x hx
  · rw [h1, h2]
    exact ⟨fun d hd => (by cases hd), fun d hd => (by cases hd)⟩
end
set_option maxRecDepth 100000 in
set_option maxHeartbeats 12800000 in
theorem omrg_any (ka kb : ByteArray) (A B C D : Option Addr) (c1 c2 c3 c4 : Nat) (a b : List Dot) (l m : List Sib) (w : World) (ha : GR.Rd dotK w A a) (hl : GR.Rd sibK w B l) (hb : GR.Rd dotK w C b) (hm : GR.Rd sibK w D m) (hca : a.length ≤ c1) (hcb : b.length ≤ c3) (hr : StR a l) (hs : StR b m) :
    Calls Try.prog 12 #[.agg #[.string ka, .slice A a.length c1, .slice B l.length c2], .agg #[.string kb, .slice C b.length c3, .slice D m.length c4]] w
      fun e w' => ∃ v1 v2, e = .returned (.tuple #[.agg #[.string (omrgK ka a l kb b m), v1, v2], .int .i64 (omrgE ka a l kb b m)]) ∧ OwnS w' w.heap.size v1 v2 (omrgA ka a l kb b m) (omrgL ka a l kb b m) ∧ Below w.heap.size w w' := by
  obtain ⟨X1, hx1⟩ : ∃ x, chkE ka a l = x := ⟨_, rfl⟩
  obtain ⟨X2, hx2⟩ : ∃ x, chkE kb b m = x := ⟨_, rfl⟩
  obtain ⟨X3, hx3⟩ : ∃ x, joinE a l b m = x := ⟨_, rfl⟩
  obtain ⟨J, hJ⟩ : ∃ x, joinA a l b m = x := ⟨_, rfl⟩
  obtain ⟨M, hM⟩ : ∃ x, joinL a l b m = x := ⟨_, rfl⟩
  obtain ⟨X4, hx4⟩ : ∃ x, chkE ka J M = x := ⟨_, rfl⟩
  have hsm := join_small a l b m
  have hps := join_str hr hs
  rw [hJ, hM] at hsm hps
  have js : J.length * 16 ≤ 140737488355328 := by omega
  have jl : M.length * 40 ≤ 140737488355328 := by omega
  have HSM := Lib.hid hsm
  clear hsm
  have HA := Lib.hid ha
  have HL := Lib.hid hl
  have HB := Lib.hid hb
  have HM := Lib.hid hm
  have HR := Lib.hid hr
  have HSS := Lib.hid hs
  have HX1 := Lib.hid hx1
  have HX2 := Lib.hid hx2
  have HX3 := Lib.hid hx3
  have HX4 := Lib.hid hx4
  have HJ := Lib.hid hJ
  have HMM := Lib.hid hM
  have HPS := Lib.hid hps
  clear ha hl hb hm hr hs hx1 hx2 hx3 hx4 hJ hM hps
  go_enter Try.func12, Try.ntmps12
  go_wp2_with fail
  obtain ⟨Z1, hZ1⟩ : ∃ W : World, W = ((w.alloc (.cells #[.string ka, .slice A a.length c1, .slice B l.length c2] 27)).alloc (.cells #[.string kb, .slice C b.length c3, .slice D m.length c4] 27)).alloc (.cells #[.string ⟨#[]⟩, .slice none 0 0, .slice none 0 0] 27) := ⟨_, rfl⟩
  rw [← hZ1]
  have LL : Hid (Below w.heap.size w Z1) := Lib.hid (by rw [hZ1]; exact (by repeat (first | exact Below.refl _ _ | refine bl_drewN ?_ _ | refine bl_drew ?_ | refine bl_alloc ?_ _)))
  have X_pa : Hid (GR.Blk Z1 (w.heap.size) 27 #[.string ka, .slice A a.length c1, .slice B l.length c2]) := Lib.hid (by rw [hZ1]; exact ((GR.Blk.new _ _ _).alloc _).alloc _)
  have X_pb : Hid (GR.Blk Z1 (w.heap.size + 1) 27 #[.string kb, .slice C b.length c3, .slice D m.length c4]) := Lib.hid (by rw [hZ1]; exact (new_at _ _ _ (by simp)).alloc _)
  have X_pr : Hid (GR.Blk Z1 (w.heap.size + 1 + 1) 27 #[.string ⟨#[]⟩, .slice none 0 0, .slice none 0 0]) := Lib.hid (by rw [hZ1]; exact new_at _ _ _ (by simp))
  clear hZ1
  have F1 := Lib.hid (HS.nil Z1)
  have F2 := Lib.hid (HS.addB F1.out (g := w.heap.size) (t := 27) (cs := #[.string ka, .slice A a.length c1, .slice B l.length c2]) (X_pa.out))
  clear F1
  have F3 := Lib.hid (HS.addB F2.out (g := w.heap.size + 1) (t := 27) (cs := #[.string kb, .slice C b.length c3, .slice D m.length c4]) (X_pb.out))
  clear F2
  have F4 := Lib.hid (HS.addB F3.out (g := w.heap.size + 1 + 1) (t := 27) (cs := #[.string ⟨#[]⟩, .slice none 0 0, .slice none 0 0]) (X_pr.out))
  clear F3
  clear X_pa X_pb X_pr
  have F5 := Lib.hid (F4.out.addR (HA.out.below LL.out))
  clear F4
  have F6 := Lib.hid (F5.out.addR (HL.out.below LL.out))
  clear F5
  have F7 := Lib.hid (F6.out.addR (HB.out.below LL.out))
  clear F6
  have F8 := Lib.hid (F7.out.addR (HM.out.below LL.out))
  clear F7
  have BB := LL
  clear LL
  refine (checkq X1 (F8.out.rd 3 rfl) (F8.out.rd 2 rfl) rfl rfl HR.out HX1.out).mono ?_
  rintro e u2 ⟨rfl, hb⟩
  have F9 := Lib.hid (F8.out.below hb)
  clear F8
  replace BB := Lib.hid (bl_then BB.out hb)
  clear hb
  by_cases h0 : X1 = 0
  · subst h0
    have pb_0 : u2.cell? ⟨w.heap.size + 1, 0, none⟩ = some (.string kb) := (F9.out.blk 5 rfl).cell 0
    have pb_1 : u2.cell? ⟨w.heap.size + 1, 1, none⟩ = some (.slice C b.length c3) := (F9.out.blk 5 rfl).cell 1
    have pb_2 : u2.cell? ⟨w.heap.size + 1, 2, none⟩ = some (.slice D m.length c4) := (F9.out.blk 5 rfl).cell 2
    have pb_lt : w.heap.size + 1 < u2.heap.size := (F9.out.blk 5 rfl).lt
    go_wp2_with fail
    clear pb_0 pb_1 pb_2 pb_lt
    refine (checkq X2 (F9.out.rd 1 rfl) (F9.out.rd 0 rfl) rfl rfl HSS.out HX2.out).mono ?_
    rintro e u3 ⟨rfl, hb⟩
    have F10 := Lib.hid (F9.out.below hb)
    clear F9
    replace BB := Lib.hid (bl_then BB.out hb)
    clear hb
    by_cases h0 : X2 = 0
    · subst h0
      by_cases h0 : ka = kb
      · subst h0
        have kk : (ka.toList == ka.toList) = true := by simp
        have pa_0 : u3.cell? ⟨w.heap.size, 0, none⟩ = some (.string ka) := (F10.out.blk 6 rfl).cell 0
        have pa_1 : u3.cell? ⟨w.heap.size, 1, none⟩ = some (.slice A a.length c1) := (F10.out.blk 6 rfl).cell 1
        have pa_2 : u3.cell? ⟨w.heap.size, 2, none⟩ = some (.slice B l.length c2) := (F10.out.blk 6 rfl).cell 2
        have pb_0 : u3.cell? ⟨w.heap.size + 1, 0, none⟩ = some (.string ka) := (F10.out.blk 5 rfl).cell 0
        have pb_1 : u3.cell? ⟨w.heap.size + 1, 1, none⟩ = some (.slice C b.length c3) := (F10.out.blk 5 rfl).cell 1
        have pb_2 : u3.cell? ⟨w.heap.size + 1, 2, none⟩ = some (.slice D m.length c4) := (F10.out.blk 5 rfl).cell 2
        have pa_lt : w.heap.size < u3.heap.size := (F10.out.blk 6 rfl).lt
        have pb_lt : w.heap.size + 1 < u3.heap.size := (F10.out.blk 5 rfl).lt
        go_wp2_with fail
        clear pa_0 pa_1 pa_2 pa_lt pb_0 pb_1 pb_2 pb_lt
        have hwb : w.heap.size + 1 + 1 < u3.heap.size := (F10.out.blk 4 rfl).lt
        have BJ := BB
        refine (join_at A B C D c1 c2 c3 c4 _ _ _ _ a b l m _ (F10.out.rd 3 rfl) (F10.out.rd 2 rfl) (F10.out.rd 1 rfl) (F10.out.rd 0 rfl) rfl rfl rfl rfl hca hcb (fun d hd => (HR.out.1 d hd).1) (fun x hx => (HR.out.2 x hx).1) (fun d hd => (HSS.out.1 d hd).1) (fun x hx => (HSS.out.2 x hx).1)).mono ?_
        rintro e u4 ⟨v1, v2, rfl, ho, hb⟩
        rw [HX3.out]
        rw [HJ.out, HMM.out] at ho
        obtain ⟨A1, m1, d1, rfl⟩ := own_slice ho.d js
        obtain ⟨A2, m2, d2, rfl⟩ := own_slice ho.s jl
        obtain rfl : m1 = J.length := own_n' ho.d
        obtain rfl : m2 = M.length := own_n' ho.s
        have F11 := Lib.hid (F10.out.below hb)
        clear F10
        have F12 := Lib.hid (F11.out.addO (ho))
        clear F11
        replace BB := Lib.hid (bl_then BB.out hb)
        clear hb
        clear ho
        have hwj : w.heap.size + 1 + 1 < u4.heap.size := (F12.out.blk 5 rfl).lt
        by_cases h0 : X3 = 0
        · subst h0
          have pa_0 : u4.cell? ⟨w.heap.size, 0, none⟩ = some (.string ka) := (F12.out.blk 7 rfl).cell 0
          have pa_1 : u4.cell? ⟨w.heap.size, 1, none⟩ = some (.slice A a.length c1) := (F12.out.blk 7 rfl).cell 1
          have pa_2 : u4.cell? ⟨w.heap.size, 2, none⟩ = some (.slice B l.length c2) := (F12.out.blk 7 rfl).cell 2
          have pa_lt : w.heap.size < u4.heap.size := (F12.out.blk 7 rfl).lt
          go_wp2_with fail
          clear pa_0 pa_1 pa_2 pa_lt
          obtain ⟨Z5, hZ5⟩ : ∃ W : World, W = (u4.alloc (.cells #[.slice A1 J.length d1, .slice A2 M.length d2] 25)).alloc (.cells #[.string ka, .slice A1 J.length d1, .slice A2 M.length d2] 27) := ⟨_, rfl⟩
          rw [← hZ5]
          have LL : Hid (Below u4.heap.size u4 Z5) := Lib.hid (by rw [hZ5]; exact (by repeat (first | exact Below.refl _ _ | refine bl_drewN ?_ _ | refine bl_drew ?_ | refine bl_alloc ?_ _)))
          have X_ps : Hid (GR.Blk Z5 (u4.heap.size) 25 #[.slice A1 J.length d1, .slice A2 M.length d2]) := Lib.hid (by rw [hZ5]; exact (GR.Blk.new _ _ _).alloc _)
          have X_po : Hid (GR.Blk Z5 (u4.heap.size + 1) 27 #[.string ka, .slice A1 J.length d1, .slice A2 M.length d2]) := Lib.hid (by rw [hZ5]; exact new_at _ _ _ (by simp))
          clear hZ5
          have F13 := Lib.hid (F12.out.below LL.out)
          clear F12
          have F14 := Lib.hid (HS.addB F13.out (g := u4.heap.size) (t := 25) (cs := #[.slice A1 J.length d1, .slice A2 M.length d2]) (X_ps.out))
          clear F13
          have F15 := Lib.hid (HS.addB F14.out (g := u4.heap.size + 1) (t := 27) (cs := #[.string ka, .slice A1 J.length d1, .slice A2 M.length d2]) (X_po.out))
          clear F14
          clear X_ps X_po
          replace BB := Lib.hid (bl_then BB.out LL.out)
          clear LL
          refine (checkq X4 ((F15.out.own 2 rfl).d.rd js).2.2 ((F15.out.own 2 rfl).s.rd jl).2.2 rfl rfl HPS.out HX4.out).mono ?_
          rintro e u6 ⟨rfl, hb⟩
          have F16 := Lib.hid (F15.out.below hb)
          clear F15
          replace BB := Lib.hid (bl_then BB.out hb)
          clear hb
          by_cases h0 : X4 = 0
          · subst h0
            have pr_0 : u6.cell? ⟨w.heap.size + 1 + 1, 0, none⟩ = some (.string ⟨#[]⟩) := (F16.out.blk 7 rfl).cell 0
            have pr_1 : u6.cell? ⟨w.heap.size + 1 + 1, 1, none⟩ = some (.slice none 0 0) := (F16.out.blk 7 rfl).cell 1
            have pr_2 : u6.cell? ⟨w.heap.size + 1 + 1, 2, none⟩ = some (.slice none 0 0) := (F16.out.blk 7 rfl).cell 2
            have po_0 : u6.cell? ⟨u4.heap.size + 1, 0, none⟩ = some (.string ka) := (F16.out.blk 0 rfl).cell 0
            have po_1 : u6.cell? ⟨u4.heap.size + 1, 1, none⟩ = some (.slice A1 J.length d1) := (F16.out.blk 0 rfl).cell 1
            have po_2 : u6.cell? ⟨u4.heap.size + 1, 2, none⟩ = some (.slice A2 M.length d2) := (F16.out.blk 0 rfl).cell 2
            have pr_lt : w.heap.size + 1 + 1 < u6.heap.size := (F16.out.blk 7 rfl).lt
            have po_lt : u4.heap.size + 1 < u6.heap.size := (F16.out.blk 0 rfl).lt
            have pr_f0 := (F16.out.blk 7 rfl).frozen 0
            have pr_f1 := (F16.out.blk 7 rfl).frozen 1
            have pr_f2 := (F16.out.blk 7 rfl).frozen 2
            have HV := Lib.hid (omrg_yes (show omrgE ka a l ka b m = 0 by rw [omrgE, HX1.out, if_pos rfl, HX2.out, if_pos rfl, if_pos rfl, HX3.out, if_pos rfl, HJ.out, HMM.out, HX4.out]))
            have OF : Hid (∀ W : World, Chg (fun k => k < u3.heap.size) u6 W → OwnS W w.heap.size (.slice A1 J.length d1) (.slice A2 M.length d2) J M) := Lib.hid (fun W hc => OwnS.base ⟨own_chg (F16.out.own 2 rfl).d hc (fun k hk e => absurd ((F16.out.own 2 rfl).d.lt k hk).1 (Nat.not_le.2 e)), own_chg (F16.out.own 2 rfl).s hc (fun k hk e => absurd ((F16.out.own 2 rfl).s.lt k hk).1 (Nat.not_le.2 e))⟩ BJ.out.size)
            have q1 : w.heap.size + 1 + 1 ≠ u4.heap.size + 1 := by omega
            go_wp2
            exact bodyPost_ret (v := .tuple #[.agg #[.string ka, .slice A1 J.length d1, .slice A2 M.length d2], .int .i64 0]) (by simp [results, Try.results12, go_sem, pr_0, pr_1, pr_2, pr_f0, pr_f1, pr_f2]) rfl ⟨_, _, by rw [HV.out.1, HV.out.2.1], by
              rw [HV.out.2.2.1, HV.out.2.2.2, HJ.out, HMM.out]
              exact OF.out _ (by repeat (first | exact Chg.refl _ _ | refine Chg.then ?_ (chg_set _ _ (.inl hwb)))), by
              repeat (first | exact BB.out | refine Below.setCell ?_ (by show w.heap.size ≤ w.heap.size + 1 + 1; omega) _)⟩
          · skip
            have q1 : (X4 != 0) = true := by simpa using h0
            have q2 : decide (X4 = 0) = false := by simpa using h0
            have pr_0 : u6.cell? ⟨w.heap.size + 1 + 1, 0, none⟩ = some (.string ⟨#[]⟩) := (F16.out.blk 7 rfl).cell 0
            have pr_1 : u6.cell? ⟨w.heap.size + 1 + 1, 1, none⟩ = some (.slice none 0 0) := (F16.out.blk 7 rfl).cell 1
            have pr_2 : u6.cell? ⟨w.heap.size + 1 + 1, 2, none⟩ = some (.slice none 0 0) := (F16.out.blk 7 rfl).cell 2
            have pr_lt : w.heap.size + 1 + 1 < u6.heap.size := (F16.out.blk 7 rfl).lt
            have pr_f0 := (F16.out.blk 7 rfl).frozen 0
            have pr_f1 := (F16.out.blk 7 rfl).frozen 1
            have pr_f2 := (F16.out.blk 7 rfl).frozen 2
            have HV := Lib.hid (omrg_no (show omrgE ka a l ka b m = X4 by rw [omrgE, HX1.out, if_pos rfl, HX2.out, if_pos rfl, if_pos rfl, HX3.out, if_pos rfl, HJ.out, HMM.out, HX4.out]))
            go_wp2
            exact bodyPost_ret (v := .tuple #[.agg #[.string ⟨#[]⟩, .slice none 0 0, .slice none 0 0], .int .i64 X4]) (by simp [results, Try.results12, go_sem, pr_0, pr_1, pr_2, pr_f0, pr_f1, pr_f2]) rfl ⟨_, _, by rw [HV.out.1, HV.out.2.1], by rw [HV.out.2.2.1, HV.out.2.2.2]; exact ⟨GR.Own.nil _ _ _, GR.Own.nil _ _ _⟩, by
              repeat (first | exact BB.out | refine Below.setCell ?_ (by show w.heap.size ≤ w.heap.size + 1 + 1; omega) _)⟩
        · skip
          have q1 : (X3 != 0) = true := by simpa using h0
          have q2 : decide (X3 = 0) = false := by simpa using h0
          have h1 := h0
          clear h0
          go_upto_region 10 with fail
          obtain ⟨Z7, hZ7⟩ : ∃ W : World, W = u4.alloc (.cells #[.slice A1 J.length d1, .slice A2 M.length d2] 25) := ⟨_, rfl⟩
          rw [← hZ7]
          have LL : Hid (Below u4.heap.size u4 Z7) := Lib.hid (by rw [hZ7]; exact (by repeat (first | exact Below.refl _ _ | refine bl_drewN ?_ _ | refine bl_drew ?_ | refine bl_alloc ?_ _)))
          have X_ps : Hid (GR.Blk Z7 (u4.heap.size) 25 #[.slice A1 J.length d1, .slice A2 M.length d2]) := Lib.hid (by rw [hZ7]; exact GR.Blk.new _ _ _)
          clear hZ7
          have F17 := Lib.hid (F12.out.below LL.out)
          clear F12
          have F18 := Lib.hid (HS.addB F17.out (g := u4.heap.size) (t := 25) (cs := #[.slice A1 J.length d1, .slice A2 M.length d2]) (X_ps.out))
          clear F17
          clear X_ps
          replace BB := Lib.hid (bl_then BB.out LL.out)
          clear LL
          have pr_0 : Z7.cell? ⟨w.heap.size + 1 + 1, 0, none⟩ = some (.string ⟨#[]⟩) := (F18.out.blk 6 rfl).cell 0
          have pr_1 : Z7.cell? ⟨w.heap.size + 1 + 1, 1, none⟩ = some (.slice none 0 0) := (F18.out.blk 6 rfl).cell 1
          have pr_2 : Z7.cell? ⟨w.heap.size + 1 + 1, 2, none⟩ = some (.slice none 0 0) := (F18.out.blk 6 rfl).cell 2
          have pr_lt : w.heap.size + 1 + 1 < Z7.heap.size := (F18.out.blk 6 rfl).lt
          have pr_f0 := (F18.out.blk 6 rfl).frozen 0
          have pr_f1 := (F18.out.blk 6 rfl).frozen 1
          have pr_f2 := (F18.out.blk 6 rfl).frozen 2
          have HV := Lib.hid (omrg_no (show omrgE ka a l ka b m = X3 by rw [omrgE, HX1.out, if_pos rfl, HX2.out, if_pos rfl, if_pos rfl, HX3.out, if_neg h1]))
          go_wp2
          exact bodyPost_ret (v := .tuple #[.agg #[.string ⟨#[]⟩, .slice none 0 0, .slice none 0 0], .int .i64 X3]) (by simp [results, Try.results12, go_sem, pr_0, pr_1, pr_2, pr_f0, pr_f1, pr_f2]) rfl ⟨_, _, by rw [HV.out.1, HV.out.2.1], by rw [HV.out.2.2.1, HV.out.2.2.2]; exact ⟨GR.Own.nil _ _ _, GR.Own.nil _ _ _⟩, by
            repeat (first | exact BB.out | refine Below.setCell ?_ (by show w.heap.size ≤ w.heap.size + 1 + 1; omega) _)⟩
      · have kk : (ka.toList == kb.toList) = false := by rw [str_eq]; simpa using h0
        have pa_0 : u3.cell? ⟨w.heap.size, 0, none⟩ = some (.string ka) := (F10.out.blk 6 rfl).cell 0
        have pa_1 : u3.cell? ⟨w.heap.size, 1, none⟩ = some (.slice A a.length c1) := (F10.out.blk 6 rfl).cell 1
        have pa_2 : u3.cell? ⟨w.heap.size, 2, none⟩ = some (.slice B l.length c2) := (F10.out.blk 6 rfl).cell 2
        have pb_0 : u3.cell? ⟨w.heap.size + 1, 0, none⟩ = some (.string kb) := (F10.out.blk 5 rfl).cell 0
        have pb_1 : u3.cell? ⟨w.heap.size + 1, 1, none⟩ = some (.slice C b.length c3) := (F10.out.blk 5 rfl).cell 1
        have pb_2 : u3.cell? ⟨w.heap.size + 1, 2, none⟩ = some (.slice D m.length c4) := (F10.out.blk 5 rfl).cell 2
        have pa_lt : w.heap.size < u3.heap.size := (F10.out.blk 6 rfl).lt
        have pb_lt : w.heap.size + 1 < u3.heap.size := (F10.out.blk 5 rfl).lt
        have pr_0 : u3.cell? ⟨w.heap.size + 1 + 1, 0, none⟩ = some (.string ⟨#[]⟩) := (F10.out.blk 4 rfl).cell 0
        have pr_1 : u3.cell? ⟨w.heap.size + 1 + 1, 1, none⟩ = some (.slice none 0 0) := (F10.out.blk 4 rfl).cell 1
        have pr_2 : u3.cell? ⟨w.heap.size + 1 + 1, 2, none⟩ = some (.slice none 0 0) := (F10.out.blk 4 rfl).cell 2
        have pr_lt : w.heap.size + 1 + 1 < u3.heap.size := (F10.out.blk 4 rfl).lt
        have pr_f0 := (F10.out.blk 4 rfl).frozen 0
        have pr_f1 := (F10.out.blk 4 rfl).frozen 1
        have pr_f2 := (F10.out.blk 4 rfl).frozen 2
        have HV := Lib.hid (omrg_no (show omrgE ka a l kb b m = 1 by rw [omrgE, HX1.out, if_pos rfl, HX2.out, if_pos rfl, if_neg h0]))
        go_wp2
        exact bodyPost_ret (v := .tuple #[.agg #[.string ⟨#[]⟩, .slice none 0 0, .slice none 0 0], .int .i64 1]) (by simp [results, Try.results12, go_sem, pr_0, pr_1, pr_2, pr_f0, pr_f1, pr_f2]) rfl ⟨_, _, by rw [HV.out.1, HV.out.2.1], by rw [HV.out.2.2.1, HV.out.2.2.2]; exact ⟨GR.Own.nil _ _ _, GR.Own.nil _ _ _⟩, by
          repeat (first | exact BB.out | refine Below.setCell ?_ (by show w.heap.size ≤ w.heap.size + 1 + 1; omega) _)⟩
    · skip
      have q1 : (X2 != 0) = true := by simpa using h0
      have q2 : decide (X2 = 0) = false := by simpa using h0
      have pr_0 : u3.cell? ⟨w.heap.size + 1 + 1, 0, none⟩ = some (.string ⟨#[]⟩) := (F10.out.blk 4 rfl).cell 0
      have pr_1 : u3.cell? ⟨w.heap.size + 1 + 1, 1, none⟩ = some (.slice none 0 0) := (F10.out.blk 4 rfl).cell 1
      have pr_2 : u3.cell? ⟨w.heap.size + 1 + 1, 2, none⟩ = some (.slice none 0 0) := (F10.out.blk 4 rfl).cell 2
      have pr_lt : w.heap.size + 1 + 1 < u3.heap.size := (F10.out.blk 4 rfl).lt
      have pr_f0 := (F10.out.blk 4 rfl).frozen 0
      have pr_f1 := (F10.out.blk 4 rfl).frozen 1
      have pr_f2 := (F10.out.blk 4 rfl).frozen 2
      have HV := Lib.hid (omrg_no (show omrgE ka a l kb b m = X2 by rw [omrgE, HX1.out, if_pos rfl, HX2.out, if_neg h0]))
      go_wp2
      exact bodyPost_ret (v := .tuple #[.agg #[.string ⟨#[]⟩, .slice none 0 0, .slice none 0 0], .int .i64 X2]) (by simp [results, Try.results12, go_sem, pr_0, pr_1, pr_2, pr_f0, pr_f1, pr_f2]) rfl ⟨_, _, by rw [HV.out.1, HV.out.2.1], by rw [HV.out.2.2.1, HV.out.2.2.2]; exact ⟨GR.Own.nil _ _ _, GR.Own.nil _ _ _⟩, by
        repeat (first | exact BB.out | refine Below.setCell ?_ (by show w.heap.size ≤ w.heap.size + 1 + 1; omega) _)⟩
  · skip
    have q1 : (X1 != 0) = true := by simpa using h0
    have q2 : decide (X1 = 0) = false := by simpa using h0
    have pr_0 : u2.cell? ⟨w.heap.size + 1 + 1, 0, none⟩ = some (.string ⟨#[]⟩) := (F9.out.blk 4 rfl).cell 0
    have pr_1 : u2.cell? ⟨w.heap.size + 1 + 1, 1, none⟩ = some (.slice none 0 0) := (F9.out.blk 4 rfl).cell 1
    have pr_2 : u2.cell? ⟨w.heap.size + 1 + 1, 2, none⟩ = some (.slice none 0 0) := (F9.out.blk 4 rfl).cell 2
    have pr_lt : w.heap.size + 1 + 1 < u2.heap.size := (F9.out.blk 4 rfl).lt
    have pr_f0 := (F9.out.blk 4 rfl).frozen 0
    have pr_f1 := (F9.out.blk 4 rfl).frozen 1
    have pr_f2 := (F9.out.blk 4 rfl).frozen 2
    have HV := Lib.hid (omrg_no (show omrgE ka a l kb b m = X1 by rw [omrgE, HX1.out, if_neg h0]))
    go_wp2
    exact bodyPost_ret (v := .tuple #[.agg #[.string ⟨#[]⟩, .slice none 0 0, .slice none 0 0], .int .i64 X1]) (by simp [results, Try.results12, go_sem, pr_0, pr_1, pr_2, pr_f0, pr_f1, pr_f2]) rfl ⟨_, _, by rw [HV.out.1, HV.out.2.1], by rw [HV.out.2.2.1, HV.out.2.2.2]; exact ⟨GR.Own.nil _ _ _, GR.Own.nil _ _ _⟩, by
      repeat (first | exact BB.out | refine Below.setCell ?_ (by show w.heap.size ≤ w.heap.size + 1 + 1; omega) _)⟩
end Go.Proofs.Ytljfigikkajlnaa
