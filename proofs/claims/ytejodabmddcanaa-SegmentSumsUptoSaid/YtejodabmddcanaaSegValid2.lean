/- DERIVED. Which entries are a list: the program's own Valid and list. -/
import Derived.Test.YtejodabmddcanaaSegValid
namespace Go.Proofs.Ytejodabmddcanaa
open Go.RowKit

set_option maxRecDepth 100000 in
set_option maxHeartbeats 1600000 in
theorem segValid_any (A : Option Addr) (c : Nat) (l : List Ent) (wd : Int) (w : World) (hr : Rd w A l) :
    Calls Try.prog 47 #[.slice A l.length c, .int .i64 wd] w fun e w' => e = .returned (.bool (validB l wd)) ∧ Below w.heap.size w w' := by
  have hmax := hr.max
  have HR := Lib.hid hr
  clear hr
  go_enter Try.func47, Try.ntmps47
  go_wp2
  go_loopw [5, 10] (fun la i w' => ∃ k : Nat, k ≤ l.length ∧ i = .int .i64 k ∧ la = .string (prevK l k) ∧ Hid (okTo l wd k) ∧ Hid (Below w.heap.size w w')) (fun _ i _ => l.length - (intOf i).toNat)
  case atStart => exact ⟨0, Nat.zero_le _, rfl, rfl, Lib.hid (fun i hi => absurd hi (by omega)), Lib.hid (Below.refl _ _)⟩
  case round =>
    obtain ⟨k, hk, rfl, rfl, hok, hw⟩ := hrel
    have HR1 := Lib.hid (HR.out.below hw.out)
    clear HR
    have HR := HR1
    clear HR1
    by_cases hlt : k < l.length
    · have ek : l[k]? = some l[k] := List.getElem?_eq_getElem hlt
      have EK := Lib.hid ek
      clear ek
      have i0 : (0 : Int) ≤ (k : Int) := by omega
      have i1 : (k : Int) < (l.length : Int) := by omega
      obtain ⟨ad, rfl, c0, c1⟩ := HR.out.at_ k hlt
      by_cases hK : keyB l[k].key = true
      · by_cases hS : ((l[k].sum.size : Int) == wd) = true
        · have bS : ((l[k].sum.size : Int) != wd) = false := by simpa using hS
          by_cases hL : leqB l[k].key (prevK l k) = true
          · have HV := Lib.hid (validB_not hlt (wd := wd) (by simp [okAt, EK.out, hK, hS, hL]))
            clear hS
            unfold leqB at hL
            go_wp2_with (go_at_call 78; refine (segKey_yes _ hK _).mono ?_; rintro e w1 ⟨rfl, rfl⟩)
            go_ret
            exact ⟨ret_bool HV.out.symm, bl_alloc hw.out _⟩
          · have hL' : leqB l[k].key (prevK l k) = false := by simpa using hL
            clear hL
            have HA := Lib.hid (show okAt l wd k = true by simp [okAt, EK.out, hK, hS, hL'])
            have HP := Lib.hid (show l[k].key = prevK l (k + 1) by simp [prevK, EK.out])
            clear hS
            unfold leqB at hL'
            go_wp2_with (go_at_call 78; refine (segKey_yes _ hK _).mono ?_; rintro e w1 ⟨rfl, rfl⟩)
            go_roundw
            case rel => exact ⟨k + 1, by omega, by go_num, by rw [HP.out], Lib.hid (okTo_succ hok.out HA.out), Lib.hid (bl_alloc hw.out _)⟩
            case measure => simp [intOf]; omega
        · have hS' : ((l[k].sum.size : Int) == wd) = false := by simpa using hS
          have bS : ((l[k].sum.size : Int) != wd) = true := by simpa using hS
          clear hS
          have HV := Lib.hid (validB_not hlt (wd := wd) (by simp [okAt, EK.out, hK, hS']))
          clear hS'
          go_wp2_with (go_at_call 78; refine (segKey_yes _ hK _).mono ?_; rintro e w1 ⟨rfl, rfl⟩)
          go_ret
          exact ⟨ret_bool HV.out.symm, bl_alloc hw.out _⟩
      · have HV := Lib.hid (validB_not (wd := wd) hlt (by simp [okAt, EK.out, hK]))
        have hK' : keyB l[k].key = false := by simpa using hK
        clear hK
        go_wp2_with (go_at_call 78; refine (segKey_no _ hK' _).mono ?_; rintro e w1 ⟨rfl, rfl⟩)
        go_ret
        exact ⟨ret_bool HV.out.symm, bl_alloc hw.out _⟩
    · obtain rfl : k = l.length := by omega
      go_wp2_with (go_at_call 77; refine (segWide_any _ _).mono ?_; rintro e w1 ⟨rfl, rfl⟩)
      go_ret
      exact ⟨ret_bool (validB_of hok.out).symm, hw.out⟩

theorem segList_any (A : Option Addr) (c : Nat) (l : List Ent) (w : World) (hr : Rd w A l) :
    Calls Try.prog 55 #[.slice A l.length c] w fun e w' => e = .returned (.bool (listB l)) ∧ Below w.heap.size w w' := by
  have hmax := hr.max
  have HR := Lib.hid hr
  clear hr
  by_cases h0 : l.length = 0
  · have hl : listB l = true := by simp [listB, List.eq_nil_of_length_eq_zero h0]
    have HL := Lib.hid hl
    clear hl
    have b0 : ((l.length : Int) == 0) = true := by simp [h0]
    clear h0
    go_enter Try.func55, Try.ntmps55
    go_wp2
    go_ret
    exact ⟨ret_bool HL.out.symm, Below.refl _ _⟩
  · have hl : listB l = validB l ((l[0]'(by omega)).sum.size : Int) := by
      cases l with
      | nil => exact absurd rfl h0
      | cons x l => simp [listB]
    have HL := Lib.hid hl
    clear hl
    have hp : 0 < l.length := by omega
    obtain ⟨ad, rfl, c0, c1⟩ := HR.out.head hp
    have b0 : ((l.length : Int) == 0) = false := by simp; intro h; exact h0 (by simp [h])
    have i1 : (0 : Int) < (l.length : Int) := by omega
    go_enter Try.func55, Try.ntmps55
    go_wp2_with (go_at_call 47; refine (segValid_any _ _ _ _ _ HR.out).mono ?_; rintro e w1 ⟨rfl, hd⟩; have HD := Lib.hid hd; clear hd)
    go_ret
    exact ⟨ret_bool HL.out.symm, HD.out⟩
end Go.Proofs.Ytejodabmddcanaa
