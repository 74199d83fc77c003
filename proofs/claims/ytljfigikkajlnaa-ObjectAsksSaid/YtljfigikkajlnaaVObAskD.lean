/- DERIVED. The document's Form, Sum, Entry and Same of objects; the program's Entry. -/
import Derived.Test.YtljfigikkajlnaaVm11
import Derived.Test.YtljfigikkajlnaaVm9
namespace Go.Proofs.Ytljfigikkajlnaa
open Go.RowKit Go.Lib Go.Proofs.YtljfigikkajlnaaW.PrintWords
set_option linter.unusedVariables false
set_option linter.unusedSimpArgs false
attribute [local irreducible] arrW arrB
theorem formB_cat {key : ByteArray} {a : List Dot} {l : List Sib} (hc : chkE key a l = 0) (h0 : a.length ≠ 0) : ((⟨#[79]⟩ : ByteArray) ++ (⟨(textU key).toArray⟩ : ByteArray)) ++ (⟨(encS a l).toArray⟩ : ByteArray) = formB key a l := by
  rw [formB, if_pos ⟨hc, h0⟩]
  apply ByteArray.ext
  apply Array.toList_inj.1
  rw [ByteArray.data_append, ByteArray.data_append, Array.toList_append, Array.toList_append]
theorem abs_len {key : ByteArray} {a : List Dot} {l : List Sib} (hc : chkE key a l = 0) : absB a l = decide (a.length = 0) := by
  by_cases h : a.length = 0
  · rw [sta_abs (chk_cases hc).2.1 h, decide_eq_true h]
  · rw [absB, decide_eq_false h]; rfl
theorem text_small {key : ByteArray} (h : keyB key = true) : (textU key).length ≤ 42 := by
  have h4 := (keyB_iff _).1 h
  rw [textU, List.length_append]
  have h6 := uintU_len10 (show key.size < 18446744073709551616 by omega)
  have h7 : key.data.toList.length = key.size := rfl
  omega
set_option maxRecDepth 100000 in
set_option maxHeartbeats 12800000 in
theorem dform_any (key : ByteArray) (A C : Option Addr) (n c m d : Nat) (a : List Dot) (l : List Sib) (w : World) (ha : GR.Rd dotK w A a) (hl : GR.Rd sibK w C l) (hn : n = a.length) (hm : m = l.length) (hr : StR a l) :
    Calls Try.prog 50 #[.agg #[.string key, .slice A n c, .slice C m d]] w fun e w' => e = .returned (.tuple #[.string (formB key a l), .int .i64 (chkE key a l)]) ∧ Below w.heap.size w w' := by
  obtain ⟨x, hx⟩ : ∃ x, chkE key a l = x := ⟨_, rfl⟩
  obtain ⟨f, hf⟩ : ∃ f, formB key a l = f := ⟨_, rfl⟩
  rw [hf, hx]
  have HA := Lib.hid ha
  have HL := Lib.hid hl
  have HR := Lib.hid hr
  have HN := Lib.hid hn
  have HM := Lib.hid hm
  have HX := Lib.hid hx
  have HF := Lib.hid hf
  clear ha hl hr hn hm hx hf
  go_enter Try.func50, Try.ntmps50
  go_wp2_with fail
  obtain ⟨Z1, hZ1⟩ : ∃ W : World, W = w.alloc (.cells #[.string key, .slice A n c, .slice C m d] 27) := ⟨_, rfl⟩
  rw [← hZ1]
  have LL : Hid (Below w.heap.size w Z1) := Lib.hid (by rw [hZ1]; exact (by repeat (first | exact Below.refl _ _ | refine bl_drewN ?_ _ | refine bl_drew ?_ | refine bl_alloc ?_ _)))
  have X_po : Hid (GR.Blk Z1 (w.heap.size) 27 #[.string key, .slice A n c, .slice C m d]) := Lib.hid (by rw [hZ1]; exact GR.Blk.new _ _ _)
  clear hZ1
  have F1 := Lib.hid (HS.nil Z1)
  have F2 := Lib.hid (HS.addB F1.out (g := w.heap.size) (t := 27) (cs := #[.string key, .slice A n c, .slice C m d]) (X_po.out))
  clear F1
  clear X_po
  have F3 := Lib.hid (F2.out.addR (HA.out.below LL.out))
  clear F2
  have F4 := Lib.hid (F3.out.addR (HL.out.below LL.out))
  clear F3
  have BB := LL
  clear LL
  refine (dcheck_any key A C n c m d a l _ (F4.out.rd 1 rfl) (F4.out.rd 0 rfl) HN.out HM.out HR.out).mono ?_
  rintro e u2 ⟨rfl, hb⟩
  rw [HX.out]
  have F5 := Lib.hid (F4.out.below hb)
  clear F4
  replace BB := Lib.hid (bl_then BB.out hb)
  clear hb
  by_cases h0 : x = 0
  · subst h0
    have po_0 : u2.cell? ⟨w.heap.size, 0, none⟩ = some (.string key) := (F5.out.blk 2 rfl).cell 0
    have po_1 : u2.cell? ⟨w.heap.size, 1, none⟩ = some (.slice A n c) := (F5.out.blk 2 rfl).cell 1
    have po_2 : u2.cell? ⟨w.heap.size, 2, none⟩ = some (.slice C m d) := (F5.out.blk 2 rfl).cell 2
    have po_lt : w.heap.size < u2.heap.size := (F5.out.blk 2 rfl).lt
    go_wp2_with fail
    clear po_0 po_1 po_2 po_lt
    refine (dabsent_any key A C n c m d a l _ HN.out HM.out).mono ?_
    rintro e u3 ⟨rfl, hb⟩
    rw [abs_len HX.out]
    have F6 := Lib.hid (F5.out.below hb)
    clear F5
    replace BB := Lib.hid (bl_then BB.out hb)
    clear hb
    by_cases h1 : a.length = 0
    · have HV : Hid (f = ⟨#[]⟩) := Lib.hid (by rw [← HF.out]; exact (form_nil key a l).2 (fun h => h.2 h1))
      have q1 : decide (a.length = 0) = true := decide_eq_true h1
      rw [q1]
      clear h1 q1
      go_wp2
      go_ret2
      exact ⟨ret_si HV.out rfl, BB.out⟩
    · have q1 : decide (a.length = 0) = false := decide_eq_false h1
      rw [q1]
      obtain ⟨y1, y2, y3⟩ := chk_cases HX.out
      obtain ⟨t1, t2⟩ := encT_yes y2
      have T1 := Lib.hid t1
      have T2 := Lib.hid t2
      have Y1 := Lib.hid y1
      have Y3 := Lib.hid y3
      have HCAT := Lib.hid (formB_cat HX.out h1)
      clear h1 q1 t1 t2 y1 y2 y3
      have po_0 : u3.cell? ⟨w.heap.size, 0, none⟩ = some (.string key) := (F6.out.blk 2 rfl).cell 0
      have po_1 : u3.cell? ⟨w.heap.size, 1, none⟩ = some (.slice A n c) := (F6.out.blk 2 rfl).cell 1
      have po_2 : u3.cell? ⟨w.heap.size, 2, none⟩ = some (.slice C m d) := (F6.out.blk 2 rfl).cell 2
      have po_lt : w.heap.size < u3.heap.size := (F6.out.blk 2 rfl).lt
      go_wp2_with fail
      clear po_0 po_1 po_2 po_lt
      refine (refEncO_any A C n c m d a l _ _ _ (F6.out.rd 1 rfl) (F6.out.rd 0 rfl) HN.out HM.out HR.out T1.out T2.out).mono ?_
      rintro e u4 ⟨rfl, hb⟩
      have F7 := Lib.hid (F6.out.below hb)
      clear F6
      replace BB := Lib.hid (bl_then BB.out hb)
      clear hb
      have po_0 : u4.cell? ⟨w.heap.size, 0, none⟩ = some (.string key) := (F7.out.blk 2 rfl).cell 0
      have po_1 : u4.cell? ⟨w.heap.size, 1, none⟩ = some (.slice A n c) := (F7.out.blk 2 rfl).cell 1
      have po_2 : u4.cell? ⟨w.heap.size, 2, none⟩ = some (.slice C m d) := (F7.out.blk 2 rfl).cell 2
      have po_lt : w.heap.size < u4.heap.size := (F7.out.blk 2 rfl).lt
      go_wp2_with fail
      clear po_0 po_1 po_2 po_lt
      refine (refText_any key (by have := (keyB_iff _).1 Y1.out; omega) _).mono ?_
      rintro e u5 ⟨rfl, hb⟩
      have F8 := Lib.hid (F7.out.below hb)
      clear F7
      replace BB := Lib.hid (bl_then BB.out hb)
      clear hb
      have hc1 : ∀ W, (Op.stringOp .add ⟨#[79]⟩ ⟨(textU key).toArray⟩).run Try.prog W = .ok (.string (⟨#[79]⟩ ++ ⟨(textU key).toArray⟩)) W := fun W => run_string_add_sum W _ _ (by
        rw [show (⟨(textU key).toArray⟩ : ByteArray).size = (textU key).length from szL _]; have := text_small Y1.out; show 1 + _ ≤ _; omega)
      have hc2 : ∀ W, (Op.stringOp .add (⟨#[79]⟩ ++ ⟨(textU key).toArray⟩) ⟨(encS a l).toArray⟩).run Try.prog W = .ok (.string ((⟨#[79]⟩ ++ ⟨(textU key).toArray⟩) ++ ⟨(encS a l).toArray⟩)) W := fun W => run_string_add_sum W _ _ (by
        rw [ByteArray.size_append, show (⟨(textU key).toArray⟩ : ByteArray).size = (textU key).length from szL _, show (⟨(encS a l).toArray⟩ : ByteArray).size = (encS a l).length from szL _]; have := text_small Y1.out; have := Y3.out; show 1 + _ + _ ≤ _; omega)
      go_wp2
      go_ret2
      exact ⟨ret_si (by rw [HCAT.out, HF.out]) rfl, BB.out⟩
  · have HV : Hid (f = ⟨#[]⟩) := Lib.hid (by rw [← HF.out]; exact (form_nil key a l).2 (fun h => h0 (HX.out.symm.trans h.1)))
    have q1 : (x != 0) = true := by simpa using h0
    have q2 : decide (x = 0) = false := decide_eq_false h0
    clear h0
    go_wp2
    go_ret2
    exact ⟨ret_si HV.out rfl, BB.out⟩
theorem form_empD {k f : ByteArray} {a : List Dot} {l : List Sib} (h : formB k a l = f) (hc : chkE k a l = 0) : (f.toList == []) = decide (a.length = 0) := by
  by_cases h0 : a.length = 0
  · have e := (form_nil k a l).2 (fun e => e.2 h0)
    rw [← h, e, decide_eq_true h0, Lib.toList_data]; rfl
  · have e : formB k a l ≠ ⟨#[]⟩ := fun e => (form_nil k a l).1 e ⟨hc, h0⟩
    rw [decide_eq_false h0, beq_eq_false_iff_ne]
    intro e2
    refine e (h.trans (ByteArray.ext (Array.toList_inj.1 ?_)))
    rw [← Lib.toList_data, e2]
section
attribute [local irreducible] wpList Code.wp
set_option maxRecDepth 100000 in
set_option maxHeartbeats 12800000 in
theorem dsum_any (key : ByteArray) (A C : Option Addr) (n c m d : Nat) (a : List Dot) (l : List Sib) (wd : Int) (w : World) (ha : GR.Rd dotK w A a) (hl : GR.Rd sibK w C l) (hn : n = a.length) (hm : m = l.length) (hr : StR a l) :
    Calls Try.prog 51 #[.agg #[.string key, .slice A n c, .slice C m d], .int .i64 wd] w fun e w' => e = .returned (.tuple #[.string (osumT key a l wd), .int .i64 (osumE key a l wd)]) ∧ Below w.heap.size w w' := by
  obtain ⟨x, hx⟩ : ∃ x, chkE key a l = x := ⟨_, rfl⟩
  obtain ⟨f, hf⟩ : ∃ f, formB key a l = f := ⟨_, rfl⟩
  have hsz := form_size key a l
  rw [hf] at hsz
  have HSZ : Hid (f.size ≤ 70368744177664) := Lib.hid (by omega)
  clear hsz
  have HA := Lib.hid ha
  have HL := Lib.hid hl
  have HR := Lib.hid hr
  have HN := Lib.hid hn
  have HM := Lib.hid hm
  have HX := Lib.hid hx
  have HF := Lib.hid hf
  clear ha hl hr hn hm hx hf
  go_enter Try.func51, Try.ntmps51
  go_wp2_with fail
  obtain ⟨Z1, hZ1⟩ : ∃ W : World, W = w.alloc (.cells #[.string key, .slice A n c, .slice C m d] 27) := ⟨_, rfl⟩
  rw [← hZ1]
  have LL : Hid (Below w.heap.size w Z1) := Lib.hid (by rw [hZ1]; exact (by repeat (first | exact Below.refl _ _ | refine bl_drewN ?_ _ | refine bl_drew ?_ | refine bl_alloc ?_ _)))
  have X_po : Hid (GR.Blk Z1 (w.heap.size) 27 #[.string key, .slice A n c, .slice C m d]) := Lib.hid (by rw [hZ1]; exact GR.Blk.new _ _ _)
  clear hZ1
  have F1 := Lib.hid (HS.nil Z1)
  have F2 := Lib.hid (HS.addB F1.out (g := w.heap.size) (t := 27) (cs := #[.string key, .slice A n c, .slice C m d]) (X_po.out))
  clear F1
  clear X_po
  have F3 := Lib.hid (F2.out.addR (HA.out.below LL.out))
  clear F2
  have F4 := Lib.hid (F3.out.addR (HL.out.below LL.out))
  clear F3
  have BB := LL
  clear LL
  refine (dform_any key A C n c m d a l _ (F4.out.rd 1 rfl) (F4.out.rd 0 rfl) HN.out HM.out HR.out).mono ?_
  rintro e u2 ⟨rfl, hb⟩
  rw [HX.out, HF.out]
  have F5 := Lib.hid (F4.out.below hb)
  clear F4
  replace BB := Lib.hid (bl_then BB.out hb)
  clear hb
  by_cases h0 : x = 0
  · subst h0
    by_cases hw : wdB wd = true
    · obtain ⟨k, rfl, h1, h2⟩ := wdB_pos hw
      have i1 : (1 : Int) ≤ (k : Int) := by omega
      have i2 : (k : Int) ≤ 32 := by omega
      have i3 : (0 : Int) ≤ (k : Int) := by omega
      have i4 : decide ((k : Int) < 1) = false := by simp; omega
      have i5 : decide ((32 : Int) < (k : Int)) = false := by simp; omega
      have i6 : decide (k < 1) = false := by simp; omega
      have i7 : decide (32 < k) = false := by simp; omega
      have HE : Hid (osumE key a l k = 0) := Lib.hid (by rw [osumE, if_pos HX.out]; exact (cut_yes (s := f) hw).2)
      by_cases h3 : a.length = 0
      · have HV : Hid (osumT key a l k = ⟨#[]⟩) := Lib.hid (by rw [osumT, if_neg (fun h => h.2 h3)])
        have q1 : (f.toList == []) = true := by rw [form_empD HF.out HX.out]; exact decide_eq_true h3
        clear h3 hw
        go_wp2
        go_ret2
        exact ⟨ret_si HV.out HE.out, BB.out⟩
      · have HV : Hid (osumT key a l k = ⟨(cutL f.data.toList k).toArray⟩) := Lib.hid (by rw [osumT, if_pos ⟨HX.out, h3⟩, HF.out]; exact (cut_yes (s := f) hw).1)
        have q1 : (f.toList == []) = false := by rw [form_empD HF.out HX.out]; exact decide_eq_false h3
        clear h3 hw
        go_wp2_with (first
          | (go_at_call 98; refine (refOf_any _ HSZ.out _).mono ?_; rintro e V1 ⟨rfl, L_⟩; have L1 := Lib.hid L_; clear L_)
          | (refine alloc_arr (w := V1) rfl 91 rfl _ _ z32 ?_; intro V2 B_ L_ S_; have B2 := Lib.hid B_; have L2 := Lib.hid L_; have S2 := Lib.hid S_; clear B_ L_ S_)
          | (refine store_arr (w := V2) rfl 91 _ _ rfl V1.heap.size (arrB 32 (shaB f.data.toList)) rfl rfl _ _ B2.out (by rw [arrB_size]; exact s32) (by rw [arrB_size, arrB_size]) (arrB_one _ _) ?_; intro V3 B_ G_ S_; have B3 := Lib.hid B_; have G3 := Lib.hid G_; clear B_ G_ S_; have hcv := arr_str _ B3.out k 32 h2))
        go_ret2
        exact ⟨ret_si HV.out HE.out, bl_of_grown (bl_then (bl_then BB.out L1.out) L2.out) G3.out (zero_lt_of (by have := BB.out.size; have := L1.out.size; omega) rfl)⟩
    · have hw' : wdB wd = false := by simpa using hw
      have HV : Hid (osumT key a l wd = ⟨#[]⟩) := Lib.hid (by rw [osumT]; split; exact (cut_no hw').1; rfl)
      have HE : Hid (osumE key a l wd = 1) := Lib.hid (by rw [osumE, if_pos HX.out]; exact (cut_no (s := f) hw').2)
      have h' : ¬ (1 ≤ wd ∧ wd ≤ 32) := by simpa [wdB] using hw'
      by_cases h1 : wd < 1
      · have d1 : decide (wd < 1) = true := decide_eq_true h1
        clear hw hw' h' h1
        go_wp2
        go_ret2
        exact ⟨ret_si HV.out HE.out, BB.out⟩
      · have d1 : decide (wd < 1) = false := decide_eq_false h1
        have d2 : decide (32 < wd) = true := decide_eq_true (by omega)
        clear hw hw' h' h1
        go_wp2
        go_ret2
        exact ⟨ret_si HV.out HE.out, BB.out⟩
  · have HV : Hid (osumT key a l wd = ⟨#[]⟩) := Lib.hid (by rw [osumT, if_neg (fun h => h0 (HX.out.symm.trans h.1))])
    have HE : Hid (osumE key a l wd = x) := Lib.hid (by rw [osumE, if_neg (fun h => h0 (HX.out.symm.trans h)), HX.out])
    have q1 : (x != 0) = true := by simpa using h0
    have q2 : decide (x = 0) = false := decide_eq_false h0
    clear h0
    go_wp2
    go_ret2
    exact ⟨ret_si HV.out HE.out, BB.out⟩
end
def oentE (key : ByteArray) (a : List Dot) (l : List Sib) (wd : Int) : Int := if osumE key a l wd = 0 then (if a.length = 0 then 110 else 0) else osumE key a l wd
def oentC (key : ByteArray) (a : List Dot) (l : List Sib) (wd : Int) : ByteArray × ByteArray := if oentE key a l wd = 0 then (key, osumT key a l wd) else (⟨#[]⟩, ⟨#[]⟩)
theorem osum_chk {key : ByteArray} {a : List Dot} {l : List Sib} {wd : Int} (h : osumE key a l wd = 0) : chkE key a l = 0 ∧ wdB wd = true := by
  unfold osumE at h
  by_cases hc : chkE key a l = 0
  · rw [if_pos hc] at h
    refine ⟨hc, ?_⟩
    cases hw : wdB wd with
    | true => rfl
    | false => rw [cutE, hw] at h; exact absurd h (by decide)
  · rw [if_neg hc] at h; exact absurd h hc
theorem osum_emp {key : ByteArray} {a : List Dot} {l : List Sib} {wd : Int} (h : osumE key a l wd = 0) : ((osumT key a l wd).toList == []) = decide (a.length = 0) := by
  obtain ⟨hc, hw⟩ := osum_chk h
  by_cases h0 : a.length = 0
  · rw [osumT, if_neg (fun e => e.2 h0), decide_eq_true h0, Lib.toList_data]; rfl
  · obtain ⟨k, rfl, k1, _⟩ := wdB_pos hw
    have hz : (osumT key a l k).size = k := by rw [osumT, if_pos ⟨hc, h0⟩]; exact cut_len hw
    rw [decide_eq_false h0, beq_eq_false_iff_ne]
    intro e2
    have : (osumT key a l k).size = ((osumT key a l k).toList).length := by rw [Lib.toList_data]; rfl
    have h9 : (osumT key a l k).size = 0 := by rw [this, e2]; rfl
    omega
theorem ret_cx {a b c d : ByteArray} {x y : Int} {p : ByteArray × ByteArray} (h : p = (a, b)) (k : y = x) (h1 : c = p.1) (h2 : d = p.2) : Ending.returned (.tuple #[.agg #[.string a, .string b], .int .i64 x]) = .returned (.tuple #[.agg #[.string c, .string d], .int .i64 y]) := by subst h1 h2; rw [h, k]
set_option maxRecDepth 100000 in
set_option maxHeartbeats 12800000 in
theorem dentry_any (key : ByteArray) (A C : Option Addr) (n c m d : Nat) (a : List Dot) (l : List Sib) (wd : Int) (w : World) (ha : GR.Rd dotK w A a) (hl : GR.Rd sibK w C l) (hn : n = a.length) (hm : m = l.length) (hr : StR a l) :
    Calls Try.prog 52 #[.agg #[.string key, .slice A n c, .slice C m d], .int .i64 wd] w fun e w' => e = .returned (.tuple #[.agg #[.string (oentC key a l wd).1, .string (oentC key a l wd).2], .int .i64 (oentE key a l wd)]) ∧ Below w.heap.size w w' := by
  obtain ⟨x, hx⟩ : ∃ x, osumE key a l wd = x := ⟨_, rfl⟩
  obtain ⟨t, ht⟩ : ∃ t, osumT key a l wd = t := ⟨_, rfl⟩
  have HA := Lib.hid ha
  have HL := Lib.hid hl
  have HR := Lib.hid hr
  have HN := Lib.hid hn
  have HM := Lib.hid hm
  have HX := Lib.hid hx
  have HT := Lib.hid ht
  clear ha hl hr hn hm hx ht
  go_enter Try.func52, Try.ntmps52
  go_wp2_with fail
  obtain ⟨Z1, hZ1⟩ : ∃ W : World, W = (w.alloc (.cells #[.string key, .slice A n c, .slice C m d] 27)).alloc (.cells #[.string ⟨#[]⟩, .string ⟨#[]⟩] 82) := ⟨_, rfl⟩
  rw [← hZ1]
  have LL : Hid (Below w.heap.size w Z1) := Lib.hid (by rw [hZ1]; exact (by repeat (first | exact Below.refl _ _ | refine bl_drewN ?_ _ | refine bl_drew ?_ | refine bl_alloc ?_ _)))
  have X_po : Hid (GR.Blk Z1 (w.heap.size) 27 #[.string key, .slice A n c, .slice C m d]) := Lib.hid (by rw [hZ1]; exact (GR.Blk.new _ _ _).alloc _)
  have X_pr : Hid (GR.Blk Z1 (w.heap.size + 1) 82 #[.string ⟨#[]⟩, .string ⟨#[]⟩]) := Lib.hid (by rw [hZ1]; exact new_at _ _ _ (by simp))
  clear hZ1
  have F1 := Lib.hid (HS.nil Z1)
  have F2 := Lib.hid (HS.addB F1.out (g := w.heap.size) (t := 27) (cs := #[.string key, .slice A n c, .slice C m d]) (X_po.out))
  clear F1
  have F3 := Lib.hid (HS.addB F2.out (g := w.heap.size + 1) (t := 82) (cs := #[.string ⟨#[]⟩, .string ⟨#[]⟩]) (X_pr.out))
  clear F2
  clear X_po X_pr
  have F4 := Lib.hid (F3.out.addR (HA.out.below LL.out))
  clear F3
  have F5 := Lib.hid (F4.out.addR (HL.out.below LL.out))
  clear F4
  have BB := LL
  clear LL
  refine (dsum_any key A C n c m d a l wd _ (F5.out.rd 1 rfl) (F5.out.rd 0 rfl) HN.out HM.out HR.out).mono ?_
  rintro e u2 ⟨rfl, hb⟩
  rw [HX.out, HT.out]
  have F6 := Lib.hid (F5.out.below hb)
  clear F5
  replace BB := Lib.hid (bl_then BB.out hb)
  clear hb
  by_cases h0 : x = 0
  · subst h0
    have HZ := Lib.hid (osum_emp HX.out)
    have HCK := Lib.hid (osum_chk HX.out).1
    rw [HT.out] at HZ
    have po_0 : u2.cell? ⟨w.heap.size, 0, none⟩ = some (.string key) := (F6.out.blk 3 rfl).cell 0
    have po_1 : u2.cell? ⟨w.heap.size, 1, none⟩ = some (.slice A n c) := (F6.out.blk 3 rfl).cell 1
    have po_2 : u2.cell? ⟨w.heap.size, 2, none⟩ = some (.slice C m d) := (F6.out.blk 3 rfl).cell 2
    have po_lt : w.heap.size < u2.heap.size := (F6.out.blk 3 rfl).lt
    go_wp2_with fail
    clear po_0 po_1 po_2 po_lt
    refine (dabsent_any key A C n c m d a l _ HN.out HM.out).mono ?_
    rintro e u3 ⟨rfl, hb⟩
    rw [abs_len HCK.out]
    have F7 := Lib.hid (F6.out.below hb)
    clear F6
    replace BB := Lib.hid (bl_then BB.out hb)
    clear hb
    by_cases h1 : a.length = 0
    · have HE : Hid (oentE key a l wd = 110) := Lib.hid (by rw [oentE, if_pos HX.out, if_pos h1])
      have HV : Hid (oentC key a l wd = (⟨#[]⟩, ⟨#[]⟩)) := Lib.hid (by rw [oentC, HE.out]; rfl)
      have q1 : decide (a.length = 0) = true := decide_eq_true h1
      rw [q1]
      clear h1 q1
      have pr_0 : u3.cell? ⟨w.heap.size + 1, 0, none⟩ = some (.string ⟨#[]⟩) := (F7.out.blk 2 rfl).cell 0
      have pr_1 : u3.cell? ⟨w.heap.size + 1, 1, none⟩ = some (.string ⟨#[]⟩) := (F7.out.blk 2 rfl).cell 1
      have pr_lt : w.heap.size + 1 < u3.heap.size := (F7.out.blk 2 rfl).lt
      have pr_f0 := (F7.out.blk 2 rfl).frozen 0
      have pr_f1 := (F7.out.blk 2 rfl).frozen 1
      go_wp2
      exact bodyPost_ret (v := .tuple #[.agg #[.string ⟨#[]⟩, .string ⟨#[]⟩], .int .i64 110]) (by simp [results, Try.results52, go_sem, pr_0, pr_1, pr_f0, pr_f1]) rfl ⟨ret_cx HV.out HE.out rfl rfl, by
        repeat (first | exact BB.out | refine Below.setCell ?_ (by show w.heap.size ≤ w.heap.size + 1; omega) _)⟩
    · have HE : Hid (oentE key a l wd = 0) := Lib.hid (by rw [oentE, if_pos HX.out, if_neg h1])
      have HV : Hid (oentC key a l wd = (key, t)) := Lib.hid (by rw [oentC, if_pos HE.out, HT.out])
      have q1 : decide (a.length = 0) = false := decide_eq_false h1
      rw [q1]
      clear h1 q1
      have pr_0 : u3.cell? ⟨w.heap.size + 1, 0, none⟩ = some (.string ⟨#[]⟩) := (F7.out.blk 2 rfl).cell 0
      have pr_1 : u3.cell? ⟨w.heap.size + 1, 1, none⟩ = some (.string ⟨#[]⟩) := (F7.out.blk 2 rfl).cell 1
      have po_0 : u3.cell? ⟨w.heap.size, 0, none⟩ = some (.string key) := (F7.out.blk 3 rfl).cell 0
      have po_1 : u3.cell? ⟨w.heap.size, 1, none⟩ = some (.slice A n c) := (F7.out.blk 3 rfl).cell 1
      have po_2 : u3.cell? ⟨w.heap.size, 2, none⟩ = some (.slice C m d) := (F7.out.blk 3 rfl).cell 2
      have pr_lt : w.heap.size + 1 < u3.heap.size := (F7.out.blk 2 rfl).lt
      have po_lt : w.heap.size < u3.heap.size := (F7.out.blk 3 rfl).lt
      have pr_f0 := (F7.out.blk 2 rfl).frozen 0
      have pr_f1 := (F7.out.blk 2 rfl).frozen 1
      go_wp2
      exact bodyPost_ret (v := .tuple #[.agg #[.string key, .string t], .int .i64 0]) (by simp [results, Try.results52, go_sem, pr_0, pr_1, pr_f0, pr_f1]) rfl ⟨ret_cx HV.out HE.out rfl rfl, by
        repeat (first | exact BB.out | refine Below.setCell ?_ (by show w.heap.size ≤ w.heap.size + 1; omega) _)⟩
  · have HE : Hid (oentE key a l wd = x) := Lib.hid (by rw [oentE, HX.out, if_neg h0])
    have HV : Hid (oentC key a l wd = (⟨#[]⟩, ⟨#[]⟩)) := Lib.hid (by rw [oentC, HE.out, if_neg h0])
    have q1 : (x != 0) = true := by simpa using h0
    have q2 : decide (x = 0) = false := decide_eq_false h0
    clear h0
    have pr_0 : u2.cell? ⟨w.heap.size + 1, 0, none⟩ = some (.string ⟨#[]⟩) := (F6.out.blk 2 rfl).cell 0
    have pr_1 : u2.cell? ⟨w.heap.size + 1, 1, none⟩ = some (.string ⟨#[]⟩) := (F6.out.blk 2 rfl).cell 1
    have pr_lt : w.heap.size + 1 < u2.heap.size := (F6.out.blk 2 rfl).lt
    have pr_f0 := (F6.out.blk 2 rfl).frozen 0
    have pr_f1 := (F6.out.blk 2 rfl).frozen 1
    go_wp2
    exact bodyPost_ret (v := .tuple #[.agg #[.string ⟨#[]⟩, .string ⟨#[]⟩], .int .i64 x]) (by simp [results, Try.results52, go_sem, pr_0, pr_1, pr_f0, pr_f1]) rfl ⟨ret_cx HV.out HE.out rfl rfl, by
      repeat (first | exact BB.out | refine Below.setCell ?_ (by show w.heap.size ≤ w.heap.size + 1; omega) _)⟩
set_option maxRecDepth 100000 in
set_option maxHeartbeats 12800000 in
theorem entry_any (key : ByteArray) (A C : Option Addr) (n c m d : Nat) (a : List Dot) (l : List Sib) (wd : Int) (w : World) (ha : GR.Rd dotK w A a) (hl : GR.Rd sibK w C l) (hn : n = a.length) (hm : m = l.length) (hr : StR a l) :
    Calls Try.prog 53 #[.agg #[.string key, .slice A n c, .slice C m d], .int .i64 wd] w fun e w' => e = .returned (.tuple #[.agg #[.string (oentC key a l wd).1, .string (oentC key a l wd).2], .int .i64 (oentE key a l wd)]) ∧ Below w.heap.size w w' := by
  obtain ⟨x, hx⟩ : ∃ x, osumE key a l wd = x := ⟨_, rfl⟩
  obtain ⟨t, ht⟩ : ∃ t, osumT key a l wd = t := ⟨_, rfl⟩
  have HA := Lib.hid ha
  have HL := Lib.hid hl
  have HR := Lib.hid hr
  have HN := Lib.hid hn
  have HM := Lib.hid hm
  have HX := Lib.hid hx
  have HT := Lib.hid ht
  clear ha hl hr hn hm hx ht
  go_enter Try.func53, Try.ntmps53
  go_wp2_with fail
  obtain ⟨Z1, hZ1⟩ : ∃ W : World, W = (w.alloc (.cells #[.string key, .slice A n c, .slice C m d] 27)).alloc (.cells #[.string ⟨#[]⟩, .string ⟨#[]⟩] 82) := ⟨_, rfl⟩
  rw [← hZ1]
  have LL : Hid (Below w.heap.size w Z1) := Lib.hid (by rw [hZ1]; exact (by repeat (first | exact Below.refl _ _ | refine bl_drewN ?_ _ | refine bl_drew ?_ | refine bl_alloc ?_ _)))
  have X_po : Hid (GR.Blk Z1 (w.heap.size) 27 #[.string key, .slice A n c, .slice C m d]) := Lib.hid (by rw [hZ1]; exact (GR.Blk.new _ _ _).alloc _)
  have X_pr : Hid (GR.Blk Z1 (w.heap.size + 1) 82 #[.string ⟨#[]⟩, .string ⟨#[]⟩]) := Lib.hid (by rw [hZ1]; exact new_at _ _ _ (by simp))
  clear hZ1
  have F1 := Lib.hid (HS.nil Z1)
  have F2 := Lib.hid (HS.addB F1.out (g := w.heap.size) (t := 27) (cs := #[.string key, .slice A n c, .slice C m d]) (X_po.out))
  clear F1
  have F3 := Lib.hid (HS.addB F2.out (g := w.heap.size + 1) (t := 82) (cs := #[.string ⟨#[]⟩, .string ⟨#[]⟩]) (X_pr.out))
  clear F2
  clear X_po X_pr
  have F4 := Lib.hid (F3.out.addR (HA.out.below LL.out))
  clear F3
  have F5 := Lib.hid (F4.out.addR (HL.out.below LL.out))
  clear F4
  have BB := LL
  clear LL
  refine (osum_any key A C n c m d a l wd _ (F5.out.rd 1 rfl) (F5.out.rd 0 rfl) HN.out HM.out HR.out).mono ?_
  rintro e u2 ⟨rfl, hb⟩
  rw [HX.out, HT.out]
  have F6 := Lib.hid (F5.out.below hb)
  clear F5
  replace BB := Lib.hid (bl_then BB.out hb)
  clear hb
  by_cases h0 : x = 0
  · subst h0
    have HZ := Lib.hid (osum_emp HX.out)
    have HCK := Lib.hid (osum_chk HX.out).1
    rw [HT.out] at HZ
    by_cases h1 : a.length = 0
    · have HE : Hid (oentE key a l wd = 110) := Lib.hid (by rw [oentE, if_pos HX.out, if_pos h1])
      have HV : Hid (oentC key a l wd = (⟨#[]⟩, ⟨#[]⟩)) := Lib.hid (by rw [oentC, HE.out]; rfl)
      have q1 : (t.toList == []) = true := by rw [HZ.out]; exact decide_eq_true h1
      clear h1
      have pr_0 : u2.cell? ⟨w.heap.size + 1, 0, none⟩ = some (.string ⟨#[]⟩) := (F6.out.blk 2 rfl).cell 0
      have pr_1 : u2.cell? ⟨w.heap.size + 1, 1, none⟩ = some (.string ⟨#[]⟩) := (F6.out.blk 2 rfl).cell 1
      have pr_lt : w.heap.size + 1 < u2.heap.size := (F6.out.blk 2 rfl).lt
      have pr_f0 := (F6.out.blk 2 rfl).frozen 0
      have pr_f1 := (F6.out.blk 2 rfl).frozen 1
      go_wp2
      exact bodyPost_ret (v := .tuple #[.agg #[.string ⟨#[]⟩, .string ⟨#[]⟩], .int .i64 110]) (by simp [results, Try.results53, go_sem, pr_0, pr_1, pr_f0, pr_f1]) rfl ⟨ret_cx HV.out HE.out rfl rfl, by
        repeat (first | exact BB.out | refine Below.setCell ?_ (by show w.heap.size ≤ w.heap.size + 1; omega) _)⟩
    · have HE : Hid (oentE key a l wd = 0) := Lib.hid (by rw [oentE, if_pos HX.out, if_neg h1])
      have HV : Hid (oentC key a l wd = (key, t)) := Lib.hid (by rw [oentC, if_pos HE.out, HT.out])
      have q1 : (t.toList == []) = false := by rw [HZ.out]; exact decide_eq_false h1
      clear h1
      have pr_0 : u2.cell? ⟨w.heap.size + 1, 0, none⟩ = some (.string ⟨#[]⟩) := (F6.out.blk 2 rfl).cell 0
      have pr_1 : u2.cell? ⟨w.heap.size + 1, 1, none⟩ = some (.string ⟨#[]⟩) := (F6.out.blk 2 rfl).cell 1
      have po_0 : u2.cell? ⟨w.heap.size, 0, none⟩ = some (.string key) := (F6.out.blk 3 rfl).cell 0
      have po_1 : u2.cell? ⟨w.heap.size, 1, none⟩ = some (.slice A n c) := (F6.out.blk 3 rfl).cell 1
      have po_2 : u2.cell? ⟨w.heap.size, 2, none⟩ = some (.slice C m d) := (F6.out.blk 3 rfl).cell 2
      have pr_lt : w.heap.size + 1 < u2.heap.size := (F6.out.blk 2 rfl).lt
      have po_lt : w.heap.size < u2.heap.size := (F6.out.blk 3 rfl).lt
      have pr_f0 := (F6.out.blk 2 rfl).frozen 0
      have pr_f1 := (F6.out.blk 2 rfl).frozen 1
      go_wp2
      exact bodyPost_ret (v := .tuple #[.agg #[.string key, .string t], .int .i64 0]) (by simp [results, Try.results53, go_sem, pr_0, pr_1, pr_f0, pr_f1]) rfl ⟨ret_cx HV.out HE.out rfl rfl, by
        repeat (first | exact BB.out | refine Below.setCell ?_ (by show w.heap.size ≤ w.heap.size + 1; omega) _)⟩
  · have HE : Hid (oentE key a l wd = x) := Lib.hid (by rw [oentE, HX.out, if_neg h0])
    have HV : Hid (oentC key a l wd = (⟨#[]⟩, ⟨#[]⟩)) := Lib.hid (by rw [oentC, HE.out, if_neg h0])
    have q1 : (x != 0) = true := by simpa using h0
    have q2 : decide (x = 0) = false := decide_eq_false h0
    clear h0
    have pr_0 : u2.cell? ⟨w.heap.size + 1, 0, none⟩ = some (.string ⟨#[]⟩) := (F6.out.blk 2 rfl).cell 0
    have pr_1 : u2.cell? ⟨w.heap.size + 1, 1, none⟩ = some (.string ⟨#[]⟩) := (F6.out.blk 2 rfl).cell 1
    have pr_lt : w.heap.size + 1 < u2.heap.size := (F6.out.blk 2 rfl).lt
    have pr_f0 := (F6.out.blk 2 rfl).frozen 0
    have pr_f1 := (F6.out.blk 2 rfl).frozen 1
    go_wp2
    exact bodyPost_ret (v := .tuple #[.agg #[.string ⟨#[]⟩, .string ⟨#[]⟩], .int .i64 x]) (by simp [results, Try.results53, go_sem, pr_0, pr_1, pr_f0, pr_f1]) rfl ⟨ret_cx HV.out HE.out rfl rfl, by
      repeat (first | exact BB.out | refine Below.setCell ?_ (by show w.heap.size ≤ w.heap.size + 1; omega) _)⟩
section
variable {k1 k2 : ByteArray} {A B C D : Option Addr} {c1 c2 c3 c4 n1 n2 n3 n4 : Nat} {a b : List Dot} {l m : List Sib} {w : World}
set_option maxRecDepth 100000 in
theorem dosameq (r : Bool) (ha : GR.Rd dotK w A a) (hl : GR.Rd sibK w B l) (hb : GR.Rd dotK w C b) (hm : GR.Rd sibK w D m) (h1 : n1 = a.length) (h2 : n2 = l.length) (h3 : n3 = b.length) (h4 : n4 = m.length) (hr : (decide (k1 = k2) && stEq a l b m) = r) :
    Calls Try.prog 49 #[.agg #[.string k1, .slice A n1 c1, .slice B n2 c2], .agg #[.string k2, .slice C n3 c3, .slice D n4 c4]] w fun e w' => e = .returned (.bool r) ∧ Below w.heap.size w w' := by
  subst h1 h2 h3 h4 hr
  have L0 := Lib.hid ((Below.refl w.heap.size w).alloc (Nat.le_refl _) (.cells #[.string k1, .slice A a.length c1, .slice B l.length c2] 27))
  have L1 := Lib.hid (bl_alloc L0.out (.cells #[.string k2, .slice C b.length c3, .slice D m.length c4] 27))
  have HA := Lib.hid ha
  have HL := Lib.hid hl
  have HB := Lib.hid hb
  have HM := Lib.hid hm
  clear ha hl hb hm
  by_cases hk : k1 = k2
  · subst hk
    have HE : Hid ((decide (k1 = k1) && stEq a l b m) = stEq a l b m) := Lib.hid (by simp)
    have kk : (k1.toList == k1.toList) = true := by simp
    go_enter Try.func49, Try.ntmps49
    go_wp2_with (go_at_call 99; refine (refSame_any _ _ _ _ _ _ _ _ a b l m _ (HA.out.below L1.out) (HL.out.below L1.out) (HB.out.below L1.out) (HM.out.below L1.out)).mono ?_; rintro e w1 ⟨rfl, hb1⟩; have B1 := Lib.hid hb1; clear hb1)
    go_ret
    exact ⟨ret_bool HE.out.symm, bl_then L1.out B1.out⟩
  · have HE : Hid ((decide (k1 = k2) && stEq a l b m) = false) := Lib.hid (by simp [hk])
    have kk : (k1.toList == k2.toList) = false := by rw [str_eq]; simpa using hk
    clear hk
    go_enter Try.func49, Try.ntmps49
    go_wp2
    go_ret
    exact ⟨ret_bool HE.out.symm, L1.out⟩
end
end Go.Proofs.Ytljfigikkajlnaa
