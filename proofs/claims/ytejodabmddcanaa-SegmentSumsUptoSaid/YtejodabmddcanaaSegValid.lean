/- DERIVED. Which entries are a list: the walks of both texts' Valid and List. -/
import Derived.Test.YtejodabmddcanaaSegKey
namespace Go.Proofs.Ytejodabmddcanaa
open Go.RowKit

def leqB (a b : ByteArray) : Bool := Op.bytesLess a.toList b.toList || a.toList == b.toList
def prevK (l : List Ent) (i : Nat) : ByteArray := match i with | 0 => ⟨#[]⟩ | j + 1 => ((l[j]?).map Ent.key).getD ⟨#[]⟩
def okAt (l : List Ent) (wd : Int) (i : Nat) : Bool := match l[i]? with | none => false | some e => keyB e.key && (((e.sum.size : Int) == wd) && !leqB e.key (prevK l i))
def okTo (l : List Ent) (wd : Int) (k : Nat) : Prop := ∀ i, i < k → okAt l wd i = true
def validB (l : List Ent) (wd : Int) : Bool := ((List.range l.length).all fun i => okAt l wd i) && (decide (1 ≤ wd) && decide (wd ≤ 32))
def listB (l : List Ent) : Bool := match l with | [] => true | e :: _ => validB l e.sum.size
theorem validB_of {l : List Ent} {wd : Int} (h : okTo l wd l.length) : validB l wd = (decide (1 ≤ wd) && decide (wd ≤ 32)) := by
  have : ((List.range l.length).all fun i => okAt l wd i) = true := by
    rw [List.all_eq_true]; intro i hi; exact h i (List.mem_range.1 hi)
  simp [validB, this]
theorem validB_not {l : List Ent} {wd : Int} {i : Nat} (hi : i < l.length) (h : okAt l wd i = false) : validB l wd = false := by
  have : ((List.range l.length).all fun i => okAt l wd i) = false := by
    rw [List.all_eq_false]; exact ⟨i, List.mem_range.2 hi, by simp [h]⟩
  simp [validB, this]
theorem okTo_succ {l : List Ent} {wd : Int} {k : Nat} (h : okTo l wd k) (hk : okAt l wd k = true) : okTo l wd (k + 1) := fun i hi => by
  rcases Nat.lt_or_ge i k with h1 | h1
  · exact h i h1
  · obtain rfl : i = k := by omega
    exact hk

theorem bytesLess_nil (a : List UInt8) : Op.bytesLess a [] = false := by cases a <;> rfl
theorem toList_eq (s : ByteArray) : s.toList = s.data.toList := ByteArray.toList_eq s
theorem leqB_empty {a : ByteArray} (h : 1 ≤ a.size) : leqB a ⟨#[]⟩ = false := by
  unfold leqB
  rw [toList_eq, toList_eq]
  obtain ⟨⟨l⟩⟩ := a
  cases l with
  | nil => exact absurd h (by decide)
  | cons x l => simp [bytesLess_nil]

theorem nonempty_of_size {s : ByteArray} (h : 1 ≤ s.size) : s.data.toList.isEmpty = false := by
  obtain ⟨⟨l⟩⟩ := s
  cases l with
  | nil => exact absurd h (by decide)
  | cons x l => rfl
theorem empty_of_size {s : ByteArray} (h : s.size = 0) : s.data.toList.isEmpty = true := by
  obtain ⟨⟨l⟩⟩ := s
  cases l with
  | nil => rfl
  | cons x l => exact absurd h (by simp [ByteArray.size])

theorem refWidth_any (n : Int) (w : World) : Calls Try.prog 70 #[.int .i64 n] w fun e w' => e = .returned (.bool (decide (1 ≤ n) && decide (n ≤ 32))) ∧ w = w' := by
  by_cases h1 : 1 ≤ n
  · have d1 : decide (1 ≤ n) = true := by simp; omega
    go_enter Try.func70, Try.ntmps70
    go_wp2
    all_goals (go_ret; exact ⟨by simp [h1], rfl⟩)
  · have d1 : decide (1 ≤ n) = false := by simp; omega
    go_enter Try.func70, Try.ntmps70
    go_wp2
    all_goals (go_ret; exact ⟨by simp , rfl⟩)
theorem segWide_any (n : Int) (w : World) : Calls Try.prog 77 #[.int .i64 n] w fun e w' => e = .returned (.bool (decide (1 ≤ n) && decide (n ≤ 32))) ∧ w = w' := by
  by_cases h1 : 1 ≤ n
  · have d1 : decide (1 ≤ n) = true := by simp; omega
    go_enter Try.func77, Try.ntmps77
    go_wp2
    all_goals (go_ret; exact ⟨by simp [h1], rfl⟩)
  · have d1 : decide (1 ≤ n) = false := by simp; omega
    go_enter Try.func77, Try.ntmps77
    go_wp2
    all_goals (go_ret; exact ⟨by simp , rfl⟩)

theorem refKey_no (s : ByteArray) (h : keyB s = false) (w : World) : Calls Try.prog 67 #[.string s] w fun e w' => e = .returned (.int .i64 130) ∧ w = w' := by
  have := refKey_any s w; rwa [keyE_neg h] at this
theorem refKey_yes (s : ByteArray) (h : keyB s = true) (w : World) : Calls Try.prog 67 #[.string s] w fun e w' => e = .returned (.int .i64 0) ∧ w = w' := by
  have := refKey_any s w; rwa [keyE_pos h] at this

set_option maxRecDepth 100000 in
set_option maxHeartbeats 1000000 in
theorem refValid_any (A : Option Addr) (c : Nat) (l : List Ent) (wd : Int) (w : World) (hr : Rd w A l) :
    Calls Try.prog 48 #[.slice A l.length c, .int .i64 wd] w fun e w' => e = .returned (.bool (validB l wd)) ∧ Drawn w w' := by
  have hmax := hr.max
  have HR := Lib.hid hr
  clear hr
  go_enter Try.func48, Try.ntmps48
  go_wp2
  go_loopw [5] (fun i w' => ∃ k : Nat, k ≤ l.length ∧ i = .int .i64 k ∧ Hid (okTo l wd k) ∧ Hid (Drawn w w')) (fun i _ => l.length - (intOf i).toNat)
  case atStart => exact ⟨0, Nat.zero_le _, rfl, Lib.hid (fun i hi => absurd hi (by omega)), Lib.hid (Drawn.refl w)⟩
  case round =>
    obtain ⟨k, hk, rfl, hok, hw⟩ := hrel
    have HR1 := Lib.hid (hw.out.rd HR.out)
    clear HR
    have HR := HR1
    clear HR1
    by_cases hlt : k < l.length
    · have ek : l[k]? = some l[k] := List.getElem?_eq_getElem hlt
      have EK := Lib.hid ek
      clear ek
      have i0 : (0 : Int) ≤ (k : Int) := by omega
      have i1 : (k : Int) < (l.length : Int) := by omega
      by_cases hK : keyB l[k].key = true
      · by_cases hS : ((l[k].sum.size : Int) == wd) = true
        · have bS : ((l[k].sum.size : Int) != wd) = false := by simpa using hS
          rcases k with _ | j
          · have hA : okAt l wd 0 = true := by
              have := EK.out
              have hk1 := (keyB_iff _).1 hK
              simp only [okAt, this, hK, hS, prevK, Bool.true_and]
              rw [leqB_empty (by omega)]; rfl
            have HA := Lib.hid hA
            clear hA
            obtain ⟨ad, rfl, c0, c1⟩ := HR.out.head hlt
            clear hS
            go_wp2
            go_quiet ((go_at_call 67; exact quiet_same (refKey_yes _ hK _)))
            go_wp2
            go_roundw
            case rel => exact ⟨1, by omega, rfl, Lib.hid (okTo_succ hok.out HA.out), Lib.hid (hw.out.drewN _)⟩
            case measure => simp [intOf]; omega
          · replace i0 : (0 : Int) ≤ (j : Int) + 1 := by omega
            replace i1 : (j : Int) + 1 < (l.length : Int) := by omega
            have i2 : (0 : Int) ≤ (j : Int) := by omega
            have i3 : (j : Int) < (l.length : Int) := by omega
            obtain ⟨ad, e0, c0, c1⟩ := HR.out.at_ (j + 1) hlt
            subst e0
            obtain ⟨ad', e0, d0, d1⟩ := HR.out.at_ j (by omega)
            cases e0
            by_cases hL : leqB l[j + 1].key l[j].key = true
            · have hA : okAt l wd (j + 1) = false := by
                have := EK.out
                simp only [okAt, this, hK, hS, prevK, Bool.true_and, List.getElem?_eq_getElem (show j < l.length by omega), Option.map_some, Option.getD_some, hL]; rfl
              have HV := Lib.hid (validB_not hlt hA)
              clear hA hS
              unfold leqB at hL
              go_wp2
              go_quiet ((go_at_call 67; exact quiet_same (refKey_yes _ hK _)))
              go_wp2
              go_ret
              exact ⟨ret_bool HV.out.symm, hw.out.drewN _⟩
            · have hL' : leqB l[j + 1].key l[j].key = false := by simpa using hL
              clear hL
              have hA : okAt l wd (j + 1) = true := by
                have := EK.out
                simp only [okAt, this, hK, hS, prevK, Bool.true_and, List.getElem?_eq_getElem (show j < l.length by omega), Option.map_some, Option.getD_some, hL']; rfl
              have HA := Lib.hid hA
              clear hA hS
              unfold leqB at hL'
              go_wp2
              go_quiet ((go_at_call 67; exact quiet_same (refKey_yes _ hK _)))
              go_wp2
              go_roundw
              case rel => exact ⟨j + 2, by omega, by go_num, Lib.hid (okTo_succ hok.out HA.out), Lib.hid (hw.out.drewN _)⟩
              case measure => simp [intOf]; omega
        · have hS' : ((l[k].sum.size : Int) == wd) = false := by simpa using hS
          have bS : ((l[k].sum.size : Int) != wd) = true := by simpa using hS
          clear hS
          have HV := Lib.hid (validB_not hlt (wd := wd) (by simp [okAt, EK.out, hK, hS']))
          clear hS'
          obtain ⟨ad, rfl, c0, c1⟩ := HR.out.at_ k hlt
          go_wp2
          go_quiet ((go_at_call 67; exact quiet_same (refKey_yes _ hK _)))
          go_wp2
          go_ret
          exact ⟨ret_bool HV.out.symm, hw.out.drewN _⟩
      · have HV := Lib.hid (validB_not (wd := wd) hlt (by simp [okAt, EK.out, hK]))
        have hK' : keyB l[k].key = false := by simpa using hK
        clear hK
        obtain ⟨ad, rfl, c0, c1⟩ := HR.out.at_ k hlt
        go_wp2
        go_quiet ((go_at_call 67; exact quiet_same (refKey_no _ hK' _)))
        go_wp2
        go_ret
        exact ⟨ret_bool HV.out.symm, hw.out.drewN _⟩
    · obtain rfl : k = l.length := by omega
      go_wp2_with (go_at_call 70; refine (refWidth_any _ _).mono ?_; rintro e w' ⟨rfl, rfl⟩)
      go_ret
      exact ⟨ret_bool (validB_of hok.out).symm, hw.out⟩

theorem refList_any (A : Option Addr) (c : Nat) (l : List Ent) (w : World) (hr : Rd w A l) :
    Calls Try.prog 41 #[.slice A l.length c] w fun e w' => e = .returned (.bool (listB l)) ∧ Drawn w w' := by
  have hmax := hr.max
  have HR := Lib.hid hr
  clear hr
  by_cases h0 : l.length = 0
  · have hl : listB l = true := by simp [listB, List.eq_nil_of_length_eq_zero h0]
    have HL := Lib.hid hl
    clear hl
    have b0 : ((l.length : Int) == 0) = true := by simp [h0]
    clear h0
    go_enter Try.func41, Try.ntmps41
    go_wp2
    go_ret
    exact ⟨ret_bool HL.out.symm, Drawn.refl _⟩
  · have hl : listB l = validB l ((l[0]'(by omega)).sum.size : Int) := by
      cases l with
      | nil => exact absurd rfl h0
      | cons x l => simp [listB]
    have HL := Lib.hid hl
    clear hl
    have hp : 0 < l.length := by omega
    obtain ⟨ad, rfl, c0, c1⟩ := HR.out.head hp
    have b0 : ((l.length : Int) == 0) = false := by simp; intro h; exact h0 (by simp [h])
    have i1 : (0 : Int) < (l.length : Int) := by omega
    go_enter Try.func41, Try.ntmps41
    go_wp2_with (go_at_call 48; refine (refValid_any _ _ _ _ _ HR.out).mono ?_; rintro e w1 ⟨rfl, hd⟩; have HD := Lib.hid hd; clear hd)
    go_ret
    exact ⟨ret_bool HL.out.symm, HD.out⟩

theorem segKey_yes (s : ByteArray) (h : keyB s = true) (w : World) : Calls Try.prog 78 #[.string s] w fun e w' => e = .returned (.int .i64 0) ∧ w = w' := by
  have hk := (keyB_iff _).1 h
  have b1 : s.toList.isEmpty = false := by rw [toList_eq]; exact nonempty_of_size hk.1
  have b2 : decide (32 < (s.size : Int)) = false := by simp; omega
  clear h hk
  go_enter Try.func78, Try.ntmps78
  go_wp2
  go_ret
  exact ⟨rfl, rfl⟩
theorem segKey_no (s : ByteArray) (h : keyB s = false) (w : World) : Calls Try.prog 78 #[.string s] w fun e w' => e = .returned (.int .i64 130) ∧ w = w' := by
  by_cases h0 : s.size = 0
  · have b1 : s.toList.isEmpty = true := by rw [toList_eq]; exact empty_of_size h0
    clear h h0
    go_enter Try.func78, Try.ntmps78
    go_wp2
    all_goals (go_ret; exact ⟨rfl, rfl⟩)
  · have b1 : s.toList.isEmpty = false := by rw [toList_eq]; exact nonempty_of_size (by omega)
    have b2 : decide (32 < (s.size : Int)) = true := by
      simp [keyB] at h; simp; omega
    clear h h0
    go_enter Try.func78, Try.ntmps78
    go_wp2
    all_goals (go_ret; exact ⟨rfl, rfl⟩)
end Go.Proofs.Ytejodabmddcanaa
