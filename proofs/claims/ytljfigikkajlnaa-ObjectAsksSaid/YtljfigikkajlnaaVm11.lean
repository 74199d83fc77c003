/- DERIVED. A sum of a width: the program's Cut. The program's Sum and Entry of an object. Forms of objects, plain: two objects that are there have one form just if they are the same; sums of a lesser width begin those of a greater one. An object that came in, opened. -/
import Derived.Test.YtljfigikkajlnaaVDigSum
import Derived.Test.YtljfigikkajlnaaVDvEnc
import Derived.Test.YtljfigikkajlnaaVFrmWr
import Derived.Test.YtljfigikkajlnaaVObDoc
import Derived.Test.YtljfigikkajlnaaVm10
import Derived.Test.YtljfigikkajlnaaVm12
import Derived.Test.YtljfigikkajlnaaVm9
namespace Go.Proofs.Ytljfigikkajlnaa
open Go.RowKit Go.Lib
set_option linter.unusedVariables false
set_option linter.unusedSimpArgs false
attribute [local irreducible] arrW arrB wpList Code.wp
theorem ret_si {a b : ByteArray} {x y : Int} (h : b = a) (k : y = x) : Ending.returned (.tuple #[.string a, .int .i64 x]) = .returned (.tuple #[.string b, .int .i64 y]) := by rw [h, k]
def wdB (wd : Int) : Bool := decide (1 ≤ wd) && decide (wd ≤ 32)
theorem wdB_pos {wd : Int} (h : wdB wd = true) : ∃ k : Nat, wd = k ∧ 1 ≤ k ∧ k ≤ 32 := by
  simp only [wdB, Bool.and_eq_true, decide_eq_true_eq] at h
  exact ⟨wd.toNat, by omega, by omega, by omega⟩
def cutL (L : List UInt8) (k : Nat) : List UInt8 := (List.range k).map (shaB L)
def cutS (s : ByteArray) (wd : Int) : ByteArray := if wdB wd then ⟨(cutL s.data.toList wd.toNat).toArray⟩ else ⟨#[]⟩
def cutE (wd : Int) : Int := if wdB wd then 0 else 1
theorem cut_yes {s : ByteArray} {k : Nat} (h : wdB k = true) : cutS s k = ⟨(cutL s.data.toList k).toArray⟩ ∧ cutE k = 0 := by simp [cutS, cutE, h]
theorem cut_no {s : ByteArray} {wd : Int} (h : wdB wd = false) : cutS s wd = ⟨#[]⟩ ∧ cutE wd = 1 := by simp [cutS, cutE, h]
theorem arr_str {w : World} {g : Nat} {t : TypeId} (f : Nat → UInt8) (h : Blk w g t (arrB 32 f)) (k cap : Nat) (hk : k ≤ 32) :
    (convert 130 9 (.slice (some ⟨g, 0, none⟩) k cap)).run Try.prog w = .ok (.string ⟨((List.range k).map f).toArray⟩) w := by
  have := run_convert_bytes_back (P := Try.prog) w 130 9 5 ⟨g, 0, none⟩ cap ((List.range k).map f) Try.underlying130 Try.underlying5 Try.underlying9 (fun j hj => by
    have hj' : j < k := by simpa using hj
    rw [add_plain, h.cell j, arrB_get 32 f (by omega)]
    simp [bv])
  rw [List.length_map, List.length_range] at this
  exact this
set_option maxRecDepth 100000 in
set_option maxHeartbeats 3200000 in
theorem cut_any (s : ByteArray) (wd : Int) (hs : s.size ≤ 70368744177664) (w : World) :
    Calls Try.prog 66 #[.string s, .int .i64 wd] w fun e w' => e = .returned (.tuple #[.string (cutS s wd), .int .i64 (cutE wd)]) ∧ Below w.heap.size w w' := by
  by_cases h : wdB wd = true
  · obtain ⟨k, rfl, h1, h2⟩ := wdB_pos h
    have HV := Lib.hid (cut_yes (s := s) h)
    have i1 : (1 : Int) ≤ (k : Int) := by omega
    have i2 : (k : Int) ≤ 32 := by omega
    have i3 : (0 : Int) ≤ (k : Int) := by omega
    have i4 : decide ((k : Int) < 1) = false := by simp; omega
    have i5 : decide ((32 : Int) < (k : Int)) = false := by simp; omega
    have i6 : decide (k < 1) = false := by simp; omega
    have i7 : decide (32 < k) = false := by simp; omega
    have HCS := Lib.hid hs
    clear h hs
    go_enter Try.func66, Try.ntmps66
    go_wp2_with (first
      | (go_at_call 60; refine (of_any _ HCS.out w).mono ?_; rintro e W1 ⟨rfl, L_⟩; have L1 := Lib.hid L_; clear L_)
      | (refine alloc_arr (w := W1) rfl 91 rfl _ _ z32 ?_; intro W2 B_ L_ S_; have B2 := Lib.hid B_; have L2 := Lib.hid L_; have S2 := Lib.hid S_; clear B_ L_ S_)
      | (refine store_arr (w := W2) rfl 91 _ _ rfl W1.heap.size (arrB 32 (shaB s.data.toList)) rfl rfl _ _ B2.out (by rw [arrB_size]; exact s32) (by rw [arrB_size, arrB_size]) (arrB_one _ _) ?_; intro W3 B_ G_ S_; have B3 := Lib.hid B_; have G3 := Lib.hid G_; clear B_ G_ S_; have hcv := arr_str _ B3.out k 32 h2))
    go_ret2
    exact ⟨ret_si HV.out.1 HV.out.2, bl_of_grown (bl_then L1.out L2.out) G3.out (zero_lt_of (by have := L1.out.size; omega) rfl)⟩
  · have h' : wdB wd = false := by simpa using h
    have HV := Lib.hid (cut_no (s := s) h')
    have h'' : ¬ (1 ≤ wd ∧ wd ≤ 32) := by simpa [wdB] using h'
    by_cases h1 : wd < 1
    · have d1 : decide (wd < 1) = true := by simp; omega
      clear h h' h'' h1
      go_enter Try.func66, Try.ntmps66
      go_wp2
      go_ret2
      exact ⟨ret_si HV.out.1 HV.out.2, Below.refl _ _⟩
    · have d1 : decide (wd < 1) = false := by simp; omega
      have d2 : decide (32 < wd) = true := by simp; omega
      clear h h' h'' h1
      go_enter Try.func66, Try.ntmps66
      go_wp2
      go_ret2
      exact ⟨ret_si HV.out.1 HV.out.2, Below.refl _ _⟩
end Go.Proofs.Ytljfigikkajlnaa
namespace Go.Proofs.Ytljfigikkajlnaa
open Go.RowKit Go.Lib Go.Proofs.YtljfigikkajlnaaW.PrintWords
set_option linter.unusedVariables false
set_option linter.unusedSimpArgs false
def osumE (key : ByteArray) (a : List Dot) (l : List Sib) (wd : Int) : Int := if chkE key a l = 0 then cutE wd else chkE key a l
def osumT (key : ByteArray) (a : List Dot) (l : List Sib) (wd : Int) : ByteArray := if chkE key a l = 0 ∧ a.length ≠ 0 then cutS (formB key a l) wd else ⟨#[]⟩
theorem form_size (key : ByteArray) (a : List Dot) (l : List Sib) : (formB key a l).size ≤ 400 := by
  unfold formB
  split
  · rename_i h
    obtain ⟨h1, h2, h3⟩ := chk_cases h.1
    have h4 := (keyB_iff _).1 h1
    have h5 : (textU key).length ≤ 42 := by
      rw [textU, List.length_append]
      have h6 := uintU_len10 (show key.size < 18446744073709551616 by omega)
      have h7 : key.data.toList.length = key.size := rfl
      omega
    have h8 : (⟨([79] ++ textU key ++ encS a l).toArray⟩ : ByteArray).size = ([79] ++ textU key ++ encS a l).length := szL _
    rw [h8, List.length_append, List.length_append]
    have h9 : ([79] : List UInt8).length = 1 := rfl
    omega
  · exact Nat.zero_le _
theorem form_nil (key : ByteArray) (a : List Dot) (l : List Sib) : formB key a l = ⟨#[]⟩ ↔ ¬ (chkE key a l = 0 ∧ a.length ≠ 0) := by
  unfold formB
  split
  · rename_i h
    refine ⟨fun e => ?_, fun e => absurd h e⟩
    have := congrArg (fun b : ByteArray => b.data.size) e
    simp at this
  · rename_i h
    exact ⟨fun _ => h, fun _ => rfl⟩
set_option maxRecDepth 100000 in
set_option maxHeartbeats 6400000 in
theorem osum_any (key : ByteArray) (A C : Option Addr) (n c m d : Nat) (a : List Dot) (l : List Sib) (wd : Int) (w : World) (ha : GR.Rd dotK w A a) (hl : GR.Rd sibK w C l) (hn : n = a.length) (hm : m = l.length) (hr : StR a l) :
    Calls Try.prog 31 #[.agg #[.string key, .slice A n c, .slice C m d], .int .i64 wd] w fun e w' => e = .returned (.tuple #[.string (osumT key a l wd), .int .i64 (osumE key a l wd)]) ∧ Below w.heap.size w w' := by
  obtain ⟨x, hx⟩ : ∃ x, chkE key a l = x := ⟨_, rfl⟩
  obtain ⟨f, hf⟩ : ∃ f, formB key a l = f := ⟨_, rfl⟩
  have hsz := form_size key a l
  rw [hf] at hsz
  have HSZ : Hid (f.size ≤ 70368744177664) := Lib.hid (by omega)
  have HN1 := Lib.hid (form_nil key a l)
  rw [hf, hx] at HN1
  obtain ⟨y, hy⟩ : ∃ y, cutE wd = y := ⟨_, rfl⟩
  obtain ⟨t, ht⟩ : ∃ t, cutS f wd = t := ⟨_, rfl⟩
  have HT0 : Hid (osumT key a l wd = if x = 0 ∧ a.length ≠ 0 then t else ⟨#[]⟩) := Lib.hid (by rw [osumT, hx, hf, ht])
  have HE0 : Hid (osumE key a l wd = if x = 0 then y else x) := Lib.hid (by rw [osumE, hx, hy])
  have HTY : Hid (y ≠ 0 → t = ⟨#[]⟩) := Lib.hid (fun h => by
    rw [← hy, cutE] at h; rw [← ht, cutS]
    cases hw : wdB wd with
    | true => rw [hw] at h; exact absurd rfl h
    | false => rfl)
  clear hsz
  have HA := Lib.hid ha
  have HL := Lib.hid hl
  have HR := Lib.hid hr
  have HX := Lib.hid hx
  have HF := Lib.hid hf
  have HY := Lib.hid hy
  have HTT := Lib.hid ht
  have HNN := Lib.hid hn
  have HMM := Lib.hid hm
  clear ha hl hr hx hf hy ht hn hm
  go_enter Try.func31, Try.ntmps31
  go_wp2_with fail
  refine (formq f x (HA.out.alloc _) (HL.out.alloc _) HNN.out HMM.out HR.out HF.out HX.out).mono ?_
  rintro e w1 ⟨rfl, hb⟩
  have B1 := Lib.hid (bl_then (w := w) (by repeat (first | exact Below.refl _ _ | refine bl_drewN ?_ _ | refine bl_drew ?_ | refine bl_alloc ?_ _)) hb)
  clear hb
  by_cases h0 : x = 0
  · have HT1 : Hid (osumT key a l wd = if a.length ≠ 0 then t else ⟨#[]⟩) := Lib.hid (by rw [HT0.out]; simp [h0])
    have HE1 : Hid (osumE key a l wd = y) := Lib.hid (by rw [HE0.out, if_pos h0])
    have HN2 : Hid (f = ⟨#[]⟩ ↔ ¬ (a.length ≠ 0)) := Lib.hid (by rw [HN1.out]; simp [h0])
    subst h0
    go_wp2_with fail
    refine (cut_any f wd HSZ.out _).mono ?_
    rintro e w2 ⟨rfl, hb⟩
    rw [HY.out, HTT.out]
    have B2 := Lib.hid (bl_then B1.out hb)
    clear hb
    by_cases hy0 : y = 0
    · subst hy0
      by_cases hf0 : f = ⟨#[]⟩
      · have hno := HN2.out.1 hf0
        have HV : Hid (osumT key a l wd = ⟨#[]⟩) := Lib.hid (by rw [HT1.out, if_neg hno])
        have HW : Hid (osumE key a l wd = 0) := Lib.hid HE1.out
        have q1 : (f.toList == ([] : List UInt8)) = true := by rw [hf0, Lib.toList_data]; rfl
        clear hno hf0
        go_wp2
        go_ret2
        exact ⟨ret_si HV.out HW.out, B2.out⟩
      · have hyes : a.length ≠ 0 := Classical.byContradiction fun h => hf0 (HN2.out.2 h)
        have HV : Hid (osumT key a l wd = t) := Lib.hid (by rw [HT1.out, if_pos hyes])
        have HW : Hid (osumE key a l wd = 0) := Lib.hid HE1.out
        have q1 : (f.toList == ([] : List UInt8)) = false := by
          rw [beq_eq_false_iff_ne]
          intro h
          exact hf0 (ByteArray.ext (Array.toList_inj.1 (by rw [← Lib.toList_data, h])))
        clear hyes hf0
        go_wp2
        go_ret2
        exact ⟨ret_si HV.out HW.out, B2.out⟩
    · have HV : Hid (osumT key a l wd = ⟨#[]⟩) := Lib.hid (by
        rw [HT1.out]; split
        · exact HTY.out hy0
        · rfl)
      have HW : Hid (osumE key a l wd = y) := Lib.hid HE1.out
      have q1 : (y != 0) = true := by simpa using hy0
      have q2 : decide (y = 0) = false := by simpa using hy0
      clear hy0
      go_wp2
      go_ret2
      exact ⟨ret_si HV.out HW.out, B2.out⟩
  · have HV : Hid (osumT key a l wd = ⟨#[]⟩) := Lib.hid (by rw [HT0.out, if_neg (fun h => h0 h.1)])
    have HW : Hid (osumE key a l wd = x) := Lib.hid (by rw [HE0.out, if_neg h0])
    have q1 : (x != 0) = true := by simpa using h0
    have q2 : decide (x = 0) = false := by simpa using h0
    clear h0
    go_wp2
    go_ret2
    exact ⟨ret_si HV.out HW.out, B1.out⟩
end Go.Proofs.Ytljfigikkajlnaa
namespace Go.Proofs.Ytljfigikkajlnaa
open Go.RowKit Go.Lib
set_option linter.unusedVariables false
set_option linter.unusedSimpArgs false
theorem cut_len {s : ByteArray} {k : Nat} (h : wdB k = true) : (cutS s k).size = k := by
  rw [(cut_yes h).1]
  show ((cutL s.data.toList k).toArray).size = k
  simp [cutL]
end Go.Proofs.Ytljfigikkajlnaa
namespace Go.Proofs.Ytljfigikkajlnaa
open Go.RowKit Go.ChangeShapes Go.WideShapes Go.Deep
set_option linter.unusedVariables false
set_option linter.unusedSimpArgs false
section
variable {H : Type} {enc : TypeId × Value → H} {w : World} {base : Nat} {spare : Nat → Bool} {held : Bool}
def DotR (x : Dot) : Prop := 0 ≤ x.n ∧ x.n ≤ 18446744073709551615 ∧ 0 ≤ x.a ∧ x.a ≤ 4294967295
theorem str_of {a : List Dot} {l : List Sib} (h : ∀ x ∈ a, DotR x) (k : ∀ x ∈ l, DotR x.d) : StR a l := ⟨fun d hd => ⟨(h d hd).1, (h d hd).2.2.1, (h d hd).2.2.2⟩, fun d hd => ⟨(k d hd).1, (k d hd).2.2.1, (k d hd).2.2.2⟩⟩
end
end Go.Proofs.Ytljfigikkajlnaa
