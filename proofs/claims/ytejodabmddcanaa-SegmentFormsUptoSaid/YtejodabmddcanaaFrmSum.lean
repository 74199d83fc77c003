/- DERIVED. A sum of a width: the program's Cut, both texts' Sum. -/
import Derived.Test.YtejodabmddcanaaFrmForm
namespace Go.Proofs.Ytejodabmddcanaa
open Go.RowKit Go.Lib
attribute [local irreducible] arrW arrB wpList Code.wp

def wdB (wd : Int) : Bool := decide (1 ≤ wd) && decide (wd ≤ 32)
theorem wdB_pos {wd : Int} (h : wdB wd = true) : ∃ k : Nat, wd = k ∧ 1 ≤ k ∧ k ≤ 32 := by
  simp only [wdB, Bool.and_eq_true, decide_eq_true_eq] at h
  exact ⟨wd.toNat, by omega, by omega, by omega⟩
def cutL (L : List UInt8) (k : Nat) : List UInt8 := (List.range k).map (shaB L)
def cutS (s : ByteArray) (wd : Int) : ByteArray := if wdB wd then ⟨(cutL s.data.toList wd.toNat).toArray⟩ else ⟨#[]⟩
def cutE (wd : Int) : Int := if wdB wd then 0 else 1
theorem cut_yes {s : ByteArray} {k : Nat} (h : wdB k = true) : cutS s k = ⟨(cutL s.data.toList k).toArray⟩ ∧ cutE k = 0 := by simp [cutS, cutE, h]
theorem cut_no {s : ByteArray} {wd : Int} (h : wdB wd = false) : cutS s wd = ⟨#[]⟩ ∧ cutE wd = 1 := by simp [cutS, cutE, h]
theorem arr_str {w : World} {g : Nat} {t : TypeId} (f : Nat → UInt8) (h : Blk w g t (arrB 32 f)) (k cap : Nat) (hk : k ≤ 32) :
    (convert 23 9 (.slice (some ⟨g, 0, none⟩) k cap)).run Try.prog w = .ok (.string ⟨((List.range k).map f).toArray⟩) w := by
  have := run_convert_bytes_back (P := Try.prog) w 23 9 5 ⟨g, 0, none⟩ cap ((List.range k).map f) Try.underlying23 Try.underlying5 Try.underlying9 (fun j hj => by
    have hj' : j < k := by simpa using hj
    rw [add_plain, h.cell j, arrB_get 32 f (by omega)]
    simp [bv])
  rw [List.length_map, List.length_range] at this
  exact this

set_option maxRecDepth 100000 in
set_option maxHeartbeats 3200000 in
theorem cut_any (s : ByteArray) (wd : Int) (hs : s.size ≤ 70368744177664) (w : World) :
    Calls Try.prog 52 #[.string s, .int .i64 wd] w fun e w' => e = .returned (.tuple #[.string (cutS s wd), .int .i64 (cutE wd)]) ∧ Below w.heap.size w w' := by
  by_cases h : wdB wd = true
  · obtain ⟨k, rfl, h1, h2⟩ := wdB_pos h
    have HV := Lib.hid (cut_yes (s := s) h)
    have i1 : (1 : Int) ≤ (k : Int) := by omega
    have i2 : (k : Int) ≤ 32 := by omega
    have i3 : (0 : Int) ≤ (k : Int) := by omega
    have i4 : decide ((k : Int) < 1) = false := by simp; omega
    have i5 : decide ((32 : Int) < (k : Int)) = false := by simp; omega
    have i6 : decide (k < 1) = false := by simp; omega
    have i7 : decide (32 < k) = false := by simp; omega
    have HCS := Lib.hid hs
    clear h hs
    go_enter Try.func52, Try.ntmps52
    go_wp2_with (first
      | (go_at_call 82; refine (of_any _ HCS.out w).mono ?_; rintro e W1 ⟨rfl, L_⟩; have L1 := Lib.hid L_; clear L_)
      | (refine alloc_arr (w := W1) rfl 87 rfl _ _ z32 ?_; intro W2 B_ L_ S_; have B2 := Lib.hid B_; have L2 := Lib.hid L_; have S2 := Lib.hid S_; clear B_ L_ S_)
      | (refine store_arr (w := W2) rfl 87 _ _ rfl W1.heap.size (arrB 32 (shaB s.data.toList)) rfl rfl _ _ B2.out (by rw [arrB_size]; exact s32) (by rw [arrB_size, arrB_size]) (arrB_one _ _) ?_; intro W3 B_ G_ S_; have B3 := Lib.hid B_; have G3 := Lib.hid G_; clear B_ G_ S_; have hcv := arr_str _ B3.out k 32 h2))
    go_ret2
    exact ⟨ret_si HV.out.1 HV.out.2, bl_of_grown (bl_then L1.out L2.out) G3.out (zero_lt_of (by have := L1.out.size; omega) rfl)⟩
  · have h' : wdB wd = false := by simpa using h
    have HV := Lib.hid (cut_no (s := s) h')
    have h'' : ¬ (1 ≤ wd ∧ wd ≤ 32) := by simpa [wdB] using h'
    by_cases h1 : wd < 1
    · have d1 : decide (wd < 1) = true := by simp; omega
      clear h h' h'' h1
      go_enter Try.func52, Try.ntmps52
      go_wp2
      go_ret2
      exact ⟨ret_si HV.out.1 HV.out.2, Below.refl _ _⟩
    · have d1 : decide (wd < 1) = false := by simp; omega
      have d2 : decide (32 < wd) = true := by simp; omega
      clear h h' h'' h1
      go_enter Try.func52, Try.ntmps52
      go_wp2
      go_ret2
      exact ⟨ret_si HV.out.1 HV.out.2, Below.refl _ _⟩

def sumP (n : Int) (l : List Ent) (wd : Int) : ByteArray × Int :=
  if segB n && wdB wd then (if validB l wd then (if l.length = 0 then (⟨#[]⟩, 0) else (⟨(cutL (formL n.toNat l) wd.toNat).toArray⟩, 0)) else (⟨#[]⟩, 140)) else (⟨#[]⟩, 1)
theorem sum_seg {n : Int} {l : List Ent} {wd : Int} (h : segB n = false) : sumP n l wd = (⟨#[]⟩, 1) := by simp [sumP, h]
theorem sum_wd {n : Int} {l : List Ent} {wd : Int} (h : wdB wd = false) : sumP n l wd = (⟨#[]⟩, 1) := by simp [sumP, h]
theorem sum_val {n : Int} {l : List Ent} {wd : Int} (h : segB n = true) (h1 : wdB wd = true) (h2 : validB l wd = false) : sumP n l wd = (⟨#[]⟩, 140) := by simp [sumP, h, h1, h2]
theorem sum_nil {n : Int} {l : List Ent} {wd : Int} (h : segB n = true) (h1 : wdB wd = true) (h2 : validB l wd = true) (h3 : l.length = 0) : sumP n l wd = (⟨#[]⟩, 0) := by simp [sumP, h, h1, h2, h3]
theorem sum_yes {m k : Nat} {l : List Ent} (h : segB m = true) (h1 : wdB k = true) (h2 : validB l k = true) (h3 : ¬ l.length = 0) : sumP m l k = (⟨(cutL (formL m l) k).toArray⟩, 0) := by simp [sumP, h, h1, h2, h3]
theorem list_of_valid {l : List Ent} {wd : Int} (h : validB l wd = true) : listB l = true := by
  cases l with
  | nil => rfl
  | cons x l =>
    have h0 : (x.sum.size : Int) = wd := by
      simp only [validB, Bool.and_eq_true, List.all_eq_true, List.mem_range, decide_eq_true_eq] at h
      have h1 := h.1 0 (by simp)
      simp only [okAt, List.getElem?_cons_zero, Bool.and_eq_true, beq_iff_eq] at h1
      exact h1.2.1
    show validB (x :: l) x.sum.size = true
    rw [h0]; exact h
theorem ret_p {p : ByteArray × Int} {a : ByteArray} {x : Int} (h : p = (a, x)) : Ending.returned (.tuple #[.string a, .int .i64 x]) = .returned (.tuple #[.string p.1, .int .i64 p.2]) := by rw [h]
theorem formL_len {n : Nat} {l : List Ent} (hS : Small l) (hl : l.length ≤ 1048576) : (formL n l).length ≤ 88080397 := by
  have h1 := headL_len n l hl
  have h2 := take_len (k := l.length) hS hl
  rw [List.take_length] at h2
  rw [formL, List.length_append]; omega

set_option maxRecDepth 100000 in
set_option maxHeartbeats 6400000 in
theorem refSum_any (A : Option Addr) (c : Nat) (n : Int) (l : List Ent) (wd : Int) (hl : l.length ≤ 1048576) (w : World) (ha : Rd w A l) :
    Calls Try.prog 44 #[.int .i64 n, .slice A l.length c, .int .i64 wd] w fun e w' => e = .returned (.tuple #[.string (sumP n l wd).1, .int .i64 (sumP n l wd).2]) ∧ Below w.heap.size w w' := by
  have HA := Lib.hid ha
  clear ha
  by_cases h1 : segB n = true
  · by_cases h2 : wdB wd = true
    · have h2r : (decide (1 ≤ wd) && decide (wd ≤ 32)) = true := h2
      by_cases h3 : validB l wd = true
      · by_cases h4 : l.length = 0
        · have HV := Lib.hid (sum_nil h1 h2 h3 h4)
          obtain rfl : l = [] := List.eq_nil_of_length_eq_zero h4
          clear h4 h2
          go_enter Try.func44, Try.ntmps44
          go_wp2_with fail
          refine (refSeg_any _ _).mono ?_
          rintro e w1 ⟨rfl, rfl⟩
          rw [h1]
          go_wp2_with fail
          refine (refWidth_any _ _).mono ?_
          rintro e w1 ⟨rfl, rfl⟩
          rw [h2r]
          go_wp2_with fail
          refine (refValid_any A c [] wd _ HA.out).mono ?_
          rintro e w1 ⟨rfl, hd1⟩
          rw [h3]
          have D1 := Lib.hid hd1
          clear hd1
          go_wp2
          go_ret2
          exact ⟨ret_p HV.out, D1.out.below _⟩
        · obtain ⟨m, rfl, hm⟩ := segB_pos h1
          obtain ⟨k, rfl, k1, k2⟩ := wdB_pos h2
          have HV := Lib.hid (sum_yes h1 h2 h3 h4)
          have HS := Lib.hid (small_of_valid h3)
          have hfl := formL_len (n := m) HS.out hl
          have HCS := Lib.hid (show (⟨(formL m l).toArray⟩ : ByteArray).size ≤ 70368744177664 by rw [sizeL]; omega)
          have b1 : ((l.length : Int) == 0) = false := by rw [beq_eq_false_iff_ne]; omega
          have b2 : (l.length == 0) = false := by rw [beq_eq_false_iff_ne]; omega
          have b4 : l.isEmpty = false := by cases l with
            | nil => exact absurd rfl h4
            | cons => rfl
          have i2 : (k : Int) ≤ 32 := by omega
          have i3 : (0 : Int) ≤ (k : Int) := by omega
          clear h4 h2
          go_enter Try.func44, Try.ntmps44
          go_wp2_with fail
          refine (refSeg_any _ _).mono ?_
          rintro e w1 ⟨rfl, rfl⟩
          rw [h1]
          go_wp2_with fail
          refine (refWidth_any _ _).mono ?_
          rintro e w1 ⟨rfl, rfl⟩
          rw [h2r]
          go_wp2_with fail
          refine (refValid_any _ _ _ _ _ HA.out).mono ?_
          rintro e w1 ⟨rfl, hd1⟩
          rw [h3]
          have D1 := Lib.hid hd1
          clear hd1
          go_wp2_with fail
          refine (refForm_any A c m l hm HS.out hl _ (D1.out.rd HA.out)).mono ?_
          rintro e w2 ⟨rfl, hb2⟩
          have B2 := Lib.hid (((D1.out.below _).trans (hb2.mono (Nat.le_of_eq D1.out.size.symm)) : Below w.heap.size w w2))
          clear hb2 D1 h2r h3 h1
          go_wp2_with (first
            | (go_at_call 68; refine (refOf_any _ HCS.out w2).mono ?_; rintro e W1 ⟨rfl, L_⟩; have L1 := Lib.hid (bl_then B2.out L_); clear L_)
            | (refine alloc_arr (w := W1) rfl 87 rfl _ _ z32 ?_; intro W2 B_ L_ S_; have B3 := Lib.hid B_; have L2 := Lib.hid L_; have S2 := Lib.hid S_; clear B_ L_ S_)
            | (refine store_arr (w := W2) rfl 87 _ _ rfl W1.heap.size (arrB 32 (shaB (formL m l))) rfl rfl _ _ B3.out (by rw [arrB_size]; exact s32) (by rw [arrB_size, arrB_size]) (arrB_one _ _) ?_; intro W3 B_ G_ S_; have B4 := Lib.hid B_; have G3 := Lib.hid G_; clear B_ G_ S_; have hcv := arr_str _ B4.out k 32 k2))
          go_ret2
          exact ⟨ret_p HV.out, bl_of_grown (bl_then L1.out L2.out) G3.out (zero_lt_of (by have := L1.out.size; omega) rfl)⟩
      · have h3' : validB l wd = false := by simpa using h3
        have HV := Lib.hid (sum_val h1 h2 h3')
        clear h3 h2
        go_enter Try.func44, Try.ntmps44
        go_wp2_with fail
        refine (refSeg_any _ _).mono ?_
        rintro e w1 ⟨rfl, rfl⟩
        rw [h1]
        go_wp2_with fail
        refine (refWidth_any _ _).mono ?_
        rintro e w1 ⟨rfl, rfl⟩
        rw [h2r]
        go_wp2_with fail
        refine (refValid_any _ _ _ _ _ HA.out).mono ?_
        rintro e w1 ⟨rfl, hd1⟩
        rw [h3']
        have D1 := Lib.hid hd1
        clear hd1
        go_wp2
        go_ret2
        exact ⟨ret_p HV.out, D1.out.below _⟩
    · have h2' : wdB wd = false := by simpa using h2
      have h2r : (decide (1 ≤ wd) && decide (wd ≤ 32)) = false := h2'
      have HV := Lib.hid (sum_wd (n := n) (l := l) h2')
      clear h2 h2'
      go_enter Try.func44, Try.ntmps44
      go_wp2_with fail
      refine (refSeg_any _ _).mono ?_
      rintro e w1 ⟨rfl, rfl⟩
      rw [h1]
      go_wp2_with fail
      refine (refWidth_any _ _).mono ?_
      rintro e w1 ⟨rfl, rfl⟩
      rw [h2r]
      go_wp2
      go_ret2
      exact ⟨ret_p HV.out, Below.refl _ _⟩
  · have h1' : segB n = false := by simpa using h1
    have HV := Lib.hid (sum_seg (l := l) (wd := wd) h1')
    clear h1
    go_enter Try.func44, Try.ntmps44
    go_wp2_with fail
    refine (refSeg_any _ _).mono ?_
    rintro e w1 ⟨rfl, rfl⟩
    rw [h1']
    go_wp2
    go_ret2
    exact ⟨ret_p HV.out, Below.refl _ _⟩

set_option maxRecDepth 100000 in
set_option maxHeartbeats 6400000 in
theorem segSum_any (A : Option Addr) (c : Nat) (n : Int) (l : List Ent) (wd : Int) (hl : l.length ≤ 1048576) (w : World) (ha : Rd w A l) :
    Calls Try.prog 46 #[.int .i64 n, .slice A l.length c, .int .i64 wd] w fun e w' => e = .returned (.tuple #[.string (sumP n l wd).1, .int .i64 (sumP n l wd).2]) ∧ Below w.heap.size w w' := by
  have HA := Lib.hid ha
  clear ha
  by_cases h1 : segB n = true
  · by_cases h2 : wdB wd = true
    · have h2r : (decide (1 ≤ wd) && decide (wd ≤ 32)) = true := h2
      by_cases h3 : validB l wd = true
      · by_cases h4 : l.length = 0
        · have HV := Lib.hid (sum_nil h1 h2 h3 h4)
          obtain rfl : l = [] := List.eq_nil_of_length_eq_zero h4
          clear h4 h2
          go_enter Try.func46, Try.ntmps46
          go_wp2_with fail
          refine (segSeg_any _ _).mono ?_
          rintro e w1 ⟨rfl, rfl⟩
          rw [h1]
          go_wp2_with fail
          refine (segWide_any _ _).mono ?_
          rintro e w1 ⟨rfl, rfl⟩
          rw [h2r]
          go_wp2_with fail
          refine (segValid_any A c [] wd _ HA.out).mono ?_
          rintro e w1 ⟨rfl, hb1⟩
          rw [h3]
          have B1 := Lib.hid hb1
          clear hb1
          go_wp2
          go_ret2
          exact ⟨ret_p HV.out, B1.out⟩
        · obtain ⟨m, rfl, hm⟩ := segB_pos h1
          obtain ⟨k, rfl, k1, k2⟩ := wdB_pos h2
          have hfy := form_yes h1 (list_of_valid h3)
          have HV := Lib.hid (show sumP m l k = (cutS (formS m l) k, cutE k) by
            rw [sum_yes h1 h2 h3 h4, (cut_yes h2).1, (cut_yes (s := formS m l) h2).2, hfy.1])
          have HE := Lib.hid hfy.2
          have hfl := formL_len (n := m) (small_of_valid h3) hl
          have HCS := Lib.hid (show (formS m l).size ≤ 70368744177664 by rw [hfy.1, sizeL]; omega)
          have b1 : ((l.length : Int) == 0) = false := by rw [beq_eq_false_iff_ne]; omega
          have b2 : (l.length == 0) = false := by rw [beq_eq_false_iff_ne]; omega
          have b4 : l.isEmpty = false := by cases l with
            | nil => exact absurd rfl h4
            | cons => rfl
          clear h4 h2 hfy
          go_enter Try.func46, Try.ntmps46
          go_wp2_with fail
          refine (segSeg_any _ _).mono ?_
          rintro e w1 ⟨rfl, rfl⟩
          rw [h1]
          go_wp2_with fail
          refine (segWide_any _ _).mono ?_
          rintro e w1 ⟨rfl, rfl⟩
          rw [h2r]
          go_wp2_with fail
          refine (segValid_any _ _ _ _ _ HA.out).mono ?_
          rintro e w1 ⟨rfl, hb1⟩
          rw [h3]
          have B1 := Lib.hid hb1
          clear hb1
          go_wp2_with fail
          refine (segForm_any A c m l hl _ (HA.out.below B1.out)).mono ?_
          rintro e w2 ⟨rfl, hb2⟩
          rw [HE.out]
          have B2 := Lib.hid (bl_then B1.out hb2)
          clear hb2 B1
          go_wp2_with fail
          refine (cut_any _ _ HCS.out _).mono ?_
          rintro e w3 ⟨rfl, hb3⟩
          have B3 := Lib.hid (bl_then B2.out hb3)
          clear hb3
          go_wp2
          go_ret2
          exact ⟨ret_p HV.out, B3.out⟩
      · have h3' : validB l wd = false := by simpa using h3
        have HV := Lib.hid (sum_val h1 h2 h3')
        clear h3 h2
        go_enter Try.func46, Try.ntmps46
        go_wp2_with fail
        refine (segSeg_any _ _).mono ?_
        rintro e w1 ⟨rfl, rfl⟩
        rw [h1]
        go_wp2_with fail
        refine (segWide_any _ _).mono ?_
        rintro e w1 ⟨rfl, rfl⟩
        rw [h2r]
        go_wp2_with fail
        refine (segValid_any _ _ _ _ _ HA.out).mono ?_
        rintro e w1 ⟨rfl, hb1⟩
        rw [h3']
        have B1 := Lib.hid hb1
        clear hb1
        go_wp2
        go_ret2
        exact ⟨ret_p HV.out, B1.out⟩
    · have h2' : wdB wd = false := by simpa using h2
      have h2r : (decide (1 ≤ wd) && decide (wd ≤ 32)) = false := h2'
      have HV := Lib.hid (sum_wd (n := n) (l := l) h2')
      clear h2 h2'
      go_enter Try.func46, Try.ntmps46
      go_wp2_with fail
      refine (segSeg_any _ _).mono ?_
      rintro e w1 ⟨rfl, rfl⟩
      rw [h1]
      go_wp2_with fail
      refine (segWide_any _ _).mono ?_
      rintro e w1 ⟨rfl, rfl⟩
      rw [h2r]
      go_wp2
      go_ret2
      exact ⟨ret_p HV.out, Below.refl _ _⟩
  · have h1' : segB n = false := by simpa using h1
    have HV := Lib.hid (sum_seg (l := l) (wd := wd) h1')
    clear h1
    go_enter Try.func46, Try.ntmps46
    go_wp2_with fail
    refine (segSeg_any _ _).mono ?_
    rintro e w1 ⟨rfl, rfl⟩
    rw [h1']
    go_wp2
    go_ret2
    exact ⟨ret_p HV.out, Below.refl _ _⟩
end Go.Proofs.Ytejodabmddcanaa
