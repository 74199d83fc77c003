/- DERIVED. What a key may be; which entries are a list (both texts of chapters 13 and 14). -/
import Derived.Test.YtejodabmddcanaaSegBase
namespace Go.Proofs.Ytejodabmddcanaa
open Go.RowKit

/-- A key of 1 to 32 bytes. -/
def keyB (s : ByteArray) : Bool := decide (1 ≤ s.size) && decide (s.size ≤ 32)
def keyE (s : ByteArray) : Int := if keyB s then 0 else 130
theorem keyE_pos {s : ByteArray} (h : keyB s = true) : keyE s = 0 := by simp [keyE, h]
theorem keyE_neg {s : ByteArray} (h : keyB s = false) : keyE s = 130 := by simp [keyE, h]
theorem keyB_iff (s : ByteArray) : keyB s = true ↔ 1 ≤ s.size ∧ s.size ≤ 32 := by simp [keyB]

theorem refKey_any (s : ByteArray) (w : World) :
    Calls Try.prog 67 #[.string s] w fun e w' => e = .returned (.int .i64 (keyE s)) ∧ w = w' := by
  by_cases h1 : s.size < 1
  · have hk : keyE s = 130 := keyE_neg (by simp [keyB]; omega)
    have d1 : decide ((s.size : Int) < 1) = true := by simp; omega
    rw [hk]; clear hk
    go_enter Try.func67, Try.ntmps67
    go_wp2
    all_goals (go_ret; exact ⟨rfl, rfl⟩)
  · have d1 : decide ((s.size : Int) < 1) = false := by simp; omega
    by_cases h2 : s.size ≤ 32
    · have hk : keyE s = 0 := keyE_pos (by simp [keyB]; omega)
      rw [hk]; clear hk
      go_enter Try.func67, Try.ntmps67
      go_wp2
      all_goals (go_ret; exact ⟨rfl, rfl⟩)
    · have hk : keyE s = 130 := keyE_neg (by simp [keyB]; omega)
      rw [hk]; clear hk
      go_enter Try.func67, Try.ntmps67
      go_wp2
      all_goals (go_ret; exact ⟨rfl, rfl⟩)
end Go.Proofs.Ytejodabmddcanaa
