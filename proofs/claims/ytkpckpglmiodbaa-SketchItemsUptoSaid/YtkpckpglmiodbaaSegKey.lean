/- DERIVED. What a key may be; which entries are a list (both texts of chapters 13 and 14). -/
import Derived.Test.YtkpckpglmiodbaaSegBase
namespace Go.Proofs.Ytkpckpglmiodbaa
open Go.RowKit

/-- A key of 1 to 32 bytes. -/
def keyB (s : ByteArray) : Bool := decide (1 ≤ s.size) && decide (s.size ≤ 32)
def keyE (s : ByteArray) : Int := if keyB s then 0 else 130
theorem keyE_pos {s : ByteArray} (h : keyB s = true) : keyE s = 0 := by simp [keyE, h]
theorem keyE_neg {s : ByteArray} (h : keyB s = false) : keyE s = 130 := by simp [keyE, h]
theorem keyB_iff (s : ByteArray) : keyB s = true ↔ 1 ≤ s.size ∧ s.size ≤ 32 := by simp [keyB]

theorem toList_eq (s : ByteArray) : s.toList = s.data.toList := ByteArray.toList_eq s
theorem nonempty_of_size {s : ByteArray} (h : 1 ≤ s.size) : s.data.toList.isEmpty = false := by
  obtain ⟨⟨l⟩⟩ := s
  cases l with
  | nil => exact absurd h (by decide)
  | cons x l => rfl
theorem empty_of_size {s : ByteArray} (h : s.size = 0) : s.data.toList.isEmpty = true := by
  obtain ⟨⟨l⟩⟩ := s
  cases l with
  | nil => rfl
  | cons x l => exact absurd h (by simp [ByteArray.size])

theorem segKey_yes (s : ByteArray) (h : keyB s = true) (w : World) : Calls Try.prog 8 #[.string s] w fun e w' => e = .returned (.int .i64 0) ∧ w = w' := by
  have hk := (keyB_iff _).1 h
  have b1 : s.toList.isEmpty = false := by rw [toList_eq]; exact nonempty_of_size hk.1
  have b2 : decide (32 < (s.size : Int)) = false := by simp; omega
  clear h hk
  go_enter Try.func8, Try.ntmps8
  go_wp2
  go_ret
  exact ⟨rfl, rfl⟩
theorem segKey_no (s : ByteArray) (h : keyB s = false) (w : World) : Calls Try.prog 8 #[.string s] w fun e w' => e = .returned (.int .i64 130) ∧ w = w' := by
  by_cases h0 : s.size = 0
  · have b1 : s.toList.isEmpty = true := by rw [toList_eq]; exact empty_of_size h0
    clear h h0
    go_enter Try.func8, Try.ntmps8
    go_wp2
    all_goals (go_ret; exact ⟨rfl, rfl⟩)
  · have b1 : s.toList.isEmpty = false := by rw [toList_eq]; exact nonempty_of_size (by omega)
    have b2 : decide (32 < (s.size : Int)) = true := by
      simp [keyB] at h; simp; omega
    clear h h0
    go_enter Try.func8, Try.ntmps8
    go_wp2
    all_goals (go_ret; exact ⟨rfl, rfl⟩)
end Go.Proofs.Ytkpckpglmiodbaa
