/- DERIVED. Pieces, one behind the other: the plain law. -/
import Derived.Test.YtejodabmddcanaaSegPiece2
namespace Go.Proofs.Ytejodabmddcanaa
open Go.RowKit

/-- The key that stands next behind a key. -/
def nextK (k : ByteArray) : ByteArray := k ++ ⟨#[0]⟩
theorem less_next : ∀ x k : List UInt8, Op.bytesLess x (k ++ [0]) = !Op.bytesLess k x
  | [], [] => by simp [Op.bytesLess]
  | [], _ :: _ => by simp [Op.bytesLess]
  | a :: x, [] => by
    have : ¬ a < 0 := by simp [UInt8.lt_iff_toNat_lt]
    cases x <;> simp [Op.bytesLess, this]
  | a :: x, b :: k => by
    have ih := less_next x k
    simp only [List.cons_append, Op.bytesLess, ih]
    by_cases h : a = b
    · subst h
      have : ¬ a < a := by simp
      simp [this]
    · have h' : ¬ b = a := fun e => h e.symm
      have h1 : (a == b) = false := by simpa using h
      have h2 : (b == a) = false := by simpa using h'
      rw [h1, h2]
      have h3 : decide (a < b) = !decide (b < a) := by
        have : a.toNat ≠ b.toNat := fun e => h (UInt8.toNat_inj.1 e)
        by_cases hlt : a.toNat < b.toNat
        · have h4 : a < b := UInt8.lt_iff_toNat_lt.2 hlt
          have h5 : ¬ b < a := fun h => by have := UInt8.lt_iff_toNat_lt.1 h; omega
          simp [h4, h5]
        · have h4 : ¬ a < b := fun h => by have := UInt8.lt_iff_toNat_lt.1 h; omega
          have h5 : b < a := UInt8.lt_iff_toNat_lt.2 (by omega)
          simp [h4, h5]
      simp [h3]
theorem ltK_next (x k : ByteArray) : ltK x (nextK k) = !ltK k x := by
  unfold ltK nextK
  rw [show (k ++ (⟨#[0]⟩ : ByteArray)).data.toList = k.data.toList ++ [0] by rw [ByteArray.data_append]; simp]
  exact less_next _ _
theorem ltK_none (x : ByteArray) : ltK x ⟨#[]⟩ = false := by
  unfold ltK
  cases h : x.data.toList <;> simp [Op.bytesLess]
theorem cut_first (l : List Ent) : cut l ⟨#[]⟩ = 0 :=
  cut_of (Nat.zero_le _) (fun _ _ h => absurd h (Nat.not_lt_zero _)) (fun _ => ltK_none _)
theorem cut_next {l : List Ent} (hs : Rises l) (j : Nat) (hj : j < l.length) : cut l (nextK l[j].key) = j + 1 := by
  refine cut_of (by omega) (fun t ht hlt => ?_) (fun h => ?_)
  · rw [ltK_next]
    rcases Nat.lt_or_ge t j with h1 | h1
    · rw [ltK_asymm (hs t j ht hj h1)]; rfl
    · obtain rfl : t = j := by omega
      rw [ltK_irrefl]; rfl
  · rw [ltK_next, hs j (j + 1) hj h (by omega)]; rfl
end Go.Proofs.Ytejodabmddcanaa
