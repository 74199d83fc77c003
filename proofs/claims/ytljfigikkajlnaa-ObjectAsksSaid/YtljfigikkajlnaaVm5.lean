/- DERIVED. What a key may be; which entries are a list (both texts of chapters 13 and 14). A key's segment, and what its keys begin with: both texts. May dots be a vector: both texts; Same of dots. -/
import Derived.Test.YtljfigikkajlnaaVDigSum
import Derived.Test.YtljfigikkajlnaaVDvCmp
import Derived.Test.YtljfigikkajlnaaVm6
namespace Go.Proofs.Ytljfigikkajlnaa
open Go.RowKit
set_option linter.unusedVariables false
set_option linter.unusedSimpArgs false
/-- A key of 1 to 32 bytes. -/
def keyB (s : ByteArray) : Bool := decide (1 ≤ s.size) && decide (s.size ≤ 32)
def keyE (s : ByteArray) : Int := if keyB s then 0 else 130
theorem keyE_pos {s : ByteArray} (h : keyB s = true) : keyE s = 0 := by simp [keyE, h]
theorem keyE_neg {s : ByteArray} (h : keyB s = false) : keyE s = 130 := by simp [keyE, h]
theorem keyB_iff (s : ByteArray) : keyB s = true ↔ 1 ≤ s.size ∧ s.size ≤ 32 := by simp [keyB]
theorem toList_eq (s : ByteArray) : s.toList = s.data.toList := ByteArray.toList_eq s
theorem nonempty_of_size {s : ByteArray} (h : 1 ≤ s.size) : s.data.toList.isEmpty = false := by
  obtain ⟨⟨l⟩⟩ := s
  cases l with
  | nil => exact absurd h (by decide)
  | cons x l => rfl
theorem empty_of_size {s : ByteArray} (h : s.size = 0) : s.data.toList.isEmpty = true := by
  obtain ⟨⟨l⟩⟩ := s
  cases l with
  | nil => rfl
  | cons x l => exact absurd h (by simp [ByteArray.size])
theorem segKey_yes (s : ByteArray) (h : keyB s = true) (w : World) : Calls Try.prog 27 #[.string s] w fun e w' => e = .returned (.int .i64 0) ∧ w = w' := by
  have hk := (keyB_iff _).1 h
  have b1 : s.toList.isEmpty = false := by rw [toList_eq]; exact nonempty_of_size hk.1
  have b2 : decide (32 < (s.size : Int)) = false := by simp; omega
  clear h hk
  go_enter Try.func27, Try.ntmps27
  go_wp2
  go_ret
  exact ⟨rfl, rfl⟩
theorem segKey_no (s : ByteArray) (h : keyB s = false) (w : World) : Calls Try.prog 27 #[.string s] w fun e w' => e = .returned (.int .i64 130) ∧ w = w' := by
  by_cases h0 : s.size = 0
  · have b1 : s.toList.isEmpty = true := by rw [toList_eq]; exact empty_of_size h0
    clear h h0
    go_enter Try.func27, Try.ntmps27
    go_wp2
    all_goals (go_ret; exact ⟨rfl, rfl⟩)
  · have b1 : s.toList.isEmpty = false := by rw [toList_eq]; exact nonempty_of_size (by omega)
    have b2 : decide (32 < (s.size : Int)) = true := by
      simp [keyB] at h; simp; omega
    clear h h0
    go_enter Try.func27, Try.ntmps27
    go_wp2
    all_goals (go_ret; exact ⟨rfl, rfl⟩)
end Go.Proofs.Ytljfigikkajlnaa
namespace Go.Proofs.Ytljfigikkajlnaa
open Go.RowKit
set_option linter.unusedVariables false
set_option linter.unusedSimpArgs false
attribute [local irreducible] arrW arrB wpList Code.wp
/-- A key's segment: twelve bits of its text's digest. -/
def placeL (key : ByteArray) : List UInt8 := (⟨#[75]⟩ ++ key : ByteArray).data.toList
def placeI (key : ByteArray) : Int := bv (shaB (placeL key) 0) * 16 + bv (shaB (placeL key) 1) / 16
theorem bv_lt (x : UInt8) : 0 ≤ bv x ∧ bv x < 256 := by
  have := x.toNat_lt
  unfold bv
  omega
theorem w64_small (n : Int) (h : 0 ≤ n) (h1 : n < 65536) : wrap64 n = n := by unfold wrap64; omega
theorem place_bits (x y : UInt8) : bits .or .i64 (wrap64 (wrap64 (bv x) * 16)) (wrap64 (bv y) / 16) = bv x * 16 + bv y / 16 := by
  have hx := bv_lt x
  have hy := bv_lt y
  rw [w64_small (bv x) hx.1 (by omega), w64_small (bv x * 16) (by omega) (by omega), w64_small (bv y) hy.1 (by omega)]
  exact bits_join .i64 62 (by decide) (fun n h h1 => IntWalk.i64_in _ (by omega)) 4 _ _ (by omega) (by omega) (by omega) (by omega) (by omega) (by omega)
theorem place_sum (x y : UInt8) : wrap64 (wrap64 (wrap64 (bv x) * 16) + wrap64 ((wrap64 (bv y)).tdiv 16)) = bv x * 16 + bv y / 16 := by
  have hx := bv_lt x
  have hy := bv_lt y
  rw [w64_small (bv x) hx.1 (by omega), w64_small (bv x * 16) (by omega) (by omega), w64_small (bv y) hy.1 (by omega), Int.tdiv_eq_ediv_of_nonneg hy.1, w64_small (bv y / 16) (by omega) (by omega), w64_small _ (by omega) (by omega)]
set_option maxRecDepth 100000 in
set_option maxHeartbeats 3200000 in
theorem place_yes (s : ByteArray) (h : keyB s = true) (w : World) : Calls Try.prog 26 #[.string s] w fun e w' => e = .returned (.tuple #[.int .i64 (placeI s), .int .i64 0]) ∧ Below w.heap.size w w' := by
  have hk := (keyB_iff _).1 h
  have ks := hk.2
  have k1 := hk.1
  have hcat : ∀ W, (Op.stringOp .add ⟨#[75]⟩ s).run Try.prog W = .ok (.string (⟨#[75]⟩ ++ s)) W := fun W => run_string_add_sum W _ _ (by show 1 + s.size ≤ _; omega)
  have hcs : ((⟨#[75]⟩ : ByteArray) ++ s).size ≤ 70368744177664 := by rw [ByteArray.size_append]; show 1 + s.size ≤ _; omega
  have HCS := Lib.hid hcs
  have HSZ := Lib.hid ks
  clear hk ks k1 hcs
  go_enter Try.func26, Try.ntmps26
  go_wp2_with (first
    | (go_at_call 27; refine (segKey_yes s h _).mono ?_; rintro e w1 ⟨rfl, rfl⟩)
    | (go_at_call 60; refine (of_any _ HCS.out w).mono ?_; rintro e W1 ⟨rfl, L_⟩; have L1 := Lib.hid L_; clear L_)
    | (refine alloc_arr (w := W1) rfl 91 rfl _ _ z32 ?_; intro W2 B_ L_ S_; have B2 := Lib.hid B_; have L2 := Lib.hid L_; have S2 := Lib.hid S_; clear B_ L_ S_)
    | (refine store_arr (w := W2) rfl 91 _ _ rfl W1.heap.size (arrB 32 (shaB (placeL s))) rfl rfl _ _ B2.out (by rw [arrB_size]; exact s32) (by rw [arrB_size, arrB_size]) (arrB_one _ _) ?_; intro W3 B_ G_ S_; have B3 := Lib.hid B_; have G3 := Lib.hid G_; clear B_ G_ S_; have c0 := (B3.out.cell 0).trans (arrB_get 32 (shaB (placeL s)) (by omega)); have c1 := (B3.out.cell 1).trans (arrB_get 32 (shaB (placeL s)) (by omega))))
  rw [place_bits]
  go_ret2
  exact ⟨rfl, bl_of_grown (bl_then L1.out L2.out) G3.out (zero_lt_of (by have := L1.out.size; omega) rfl)⟩
set_option maxRecDepth 100000 in
theorem place_no (s : ByteArray) (h : keyB s = false) (w : World) : Calls Try.prog 26 #[.string s] w fun e w' => e = .returned (.tuple #[.int .i64 0, .int .i64 130]) ∧ w = w' := by
  go_enter Try.func26, Try.ntmps26
  go_wp2_with (go_at_call 27; refine (segKey_no s h _).mono ?_; rintro e w1 ⟨rfl, rfl⟩)
  go_ret2
  exact ⟨rfl, rfl⟩
end Go.Proofs.Ytljfigikkajlnaa
namespace Go.Proofs.Ytljfigikkajlnaa
open Go.RowKit
set_option linter.unusedVariables false
set_option linter.unusedSimpArgs false
theorem vec_long {l : List Dot} (h : 64 < l.length) : vecB l = false := by unfold vecB; simp; omega
theorem vec_fail {l : List Dot} {k : Nat} (h : chainB dOk ltA (l.take k) = false) : vecB l = false := by unfold vecB; rw [chain_false _ _ _ _ h]; rfl
theorem vec_full {l : List Dot} (h : chainB dOk ltA (l.take l.length) = true) : vecB l = decide (l.length ≤ 64) := by rw [List.take_length] at h; unfold vecB; rw [h]; rfl
set_option maxRecDepth 100000 in
set_option maxHeartbeats 1600000 in
theorem vecValid_any (A : Option Addr) (c : Nat) (l : List Dot) (w : World) (hr : GR.Rd dotK w A l) (hn : ∀ d ∈ l, 0 ≤ d.n) :
    Calls Try.prog 82 #[.slice A l.length c] w fun e w' => e = .returned (.bool (vecB l)) ∧ Below w.heap.size w w' := by
  have hmax : l.length * 16 ≤ 140737488355328 := hr.max
  have HR := Lib.hid hr
  have HN := Lib.hid hn
  clear hr hn
  go_enter Try.func82, Try.ntmps82
  go_wp2
  go_loopw [7] (fun i w' => ∃ k : Nat, k ≤ l.length ∧ i = .int .i64 k ∧ Hid (chainB dOk ltA (l.take k) = true) ∧ Hid (Below w.heap.size w w')) (fun i _ => l.length - (intOf i).toNat)
  case atStart => exact ⟨0, Nat.zero_le _, rfl, Lib.hid (chain_zero _ _ _), Lib.hid (Below.refl _ _)⟩
  case round =>
    obtain ⟨k, hk, rfl, hok, hw⟩ := hrel
    have HR1 := Lib.hid (HR.out.below hw.out)
    by_cases hlt : k < l.length
    · have i0 : (0 : Int) ≤ (k : Int) := by omega
      have i1 : (k : Int) < (l.length : Int) := by omega
      have n0 := HN.out l[k] (List.getElem_mem hlt)
      by_cases hD : dOk l[k] = true
      · have hD1 : 1 ≤ l[k].n ∧ l[k].n ≤ 1099511627776 := by simpa [dOk] using hD
        have t1 : (l[k].n == 0) = false := by simp; omega
        have t2 : decide (1099511627776 < l[k].n) = false := by simp; omega
        rcases k with _ | m
        · have HV := Lib.hid (show chainB dOk ltA (l.take 1) = true by rw [chain_one _ _ _ hlt]; exact hD)
          obtain ⟨ad, rfl, hb0, c0, c1⟩ := dot_head HR1.out hlt
          clear hD hD1
          go_wp2
          go_quiet (fail)
          go_wp2
          go_roundw
          case rel => exact ⟨1, by omega, rfl, HV, Lib.hid (bl_then hw.out (by repeat (first | exact Below.refl _ _ | refine bl_drewN ?_ _ | refine bl_drew ?_ | refine bl_alloc ?_ _)))⟩
          case measure => simp [intOf]; omega
        · replace i0 : (0 : Int) ≤ (m : Int) + 1 := by omega
          replace i1 : (m : Int) + 1 < (l.length : Int) := by omega
          have i2 : (0 : Int) ≤ (m : Int) := by omega
          have i3 : (m : Int) < (l.length : Int) := by omega
          obtain ⟨ad, e0, hb0, c0, c1⟩ := dot_at HR1.out (m + 1) hlt
          subst e0
          obtain ⟨ad', e0, hb1, d0, d1⟩ := dot_at HR1.out m (by omega)
          cases e0
          have hs := chain_succ dOk ltA l (m + 1) (by omega) hlt
          simp only [Nat.add_sub_cancel, hok.out, hD, Bool.true_and] at hs
          by_cases hL : l[m].a < l[m + 1].a
          · have HV := Lib.hid (show chainB dOk ltA (l.take (m + 1 + 1)) = true by rw [hs]; simp [ltA, hL])
            have t3 : decide (l[m + 1].a ≤ l[m].a) = false := by simp; omega
            clear hs hL hD hD1
            go_wp2
            go_quiet (fail)
            go_wp2
            go_roundw
            case rel => exact ⟨m + 2, by omega, by go_num, HV, Lib.hid (bl_then hw.out (by repeat (first | exact Below.refl _ _ | refine bl_drewN ?_ _ | refine bl_drew ?_ | refine bl_alloc ?_ _)))⟩
            case measure => simp [intOf]; omega
          · have HV := Lib.hid (vec_fail (l := l) (k := m + 1 + 1) (by rw [hs]; simp [ltA, hL]))
            have t3 : decide (l[m + 1].a ≤ l[m].a) = true := by simp; omega
            clear hs hL hD hD1
            go_wp2
            go_quiet (fail)
            go_wp2
            go_ret
            exact ⟨ret_bool HV.out.symm, bl_then hw.out (by repeat (first | exact Below.refl _ _ | refine bl_drewN ?_ _ | refine bl_drew ?_ | refine bl_alloc ?_ _))⟩
      · have HV := Lib.hid (vec_fail (l := l) (k := k + 1) (by
          rcases k with _ | m
          · rw [chain_one _ _ _ hlt]; simpa using hD
          · rw [chain_succ _ _ _ _ (by omega) hlt]; simp [hD]))
        have hD1 : l[k].n = 0 ∨ 1099511627776 < l[k].n := by
          simp only [dOk, Bool.and_eq_true, decide_eq_true_eq] at hD; omega
        obtain ⟨ad, rfl, hb0, c0, c1⟩ := dot_at HR1.out k hlt
        clear hD
        rcases hD1 with h | h
        · have t1 : (l[k].n == 0) = true := by simpa using h
          clear h
          go_wp2
          go_quiet (fail)
          go_wp2
          go_ret
          exact ⟨ret_bool HV.out.symm, bl_then hw.out (by repeat (first | exact Below.refl _ _ | refine bl_drewN ?_ _ | refine bl_drew ?_ | refine bl_alloc ?_ _))⟩
        · have t1 : (l[k].n == 0) = false := by simp; omega
          have t2 : decide (1099511627776 < l[k].n) = true := by simpa using h
          clear h
          go_wp2
          go_quiet (fail)
          go_wp2
          go_ret
          exact ⟨ret_bool HV.out.symm, bl_then hw.out (by repeat (first | exact Below.refl _ _ | refine bl_drewN ?_ _ | refine bl_drew ?_ | refine bl_alloc ?_ _))⟩
    · obtain rfl : k = l.length := by omega
      have HV := Lib.hid (vec_full hok.out)
      go_wp2
      go_ret
      exact ⟨ret_bool (by rw [HV.out]; simp; omega), hw.out⟩
end Go.Proofs.Ytljfigikkajlnaa
