/- DERIVED. The order of texts, in plain words. -/
import Derived.Test.YtljfigikkajlnaaProg
import Derived.Lib.Strings
import Derived.Below
import Derived.Deep.Draws
import Derived.Deep.AppendLies
import Derived.Maps.AppendAt
import Derived.OwnWalk
import Derived.Laws.OwnMore
import Derived.Laws.Rows
import Derived.WalkKit
import Derived.KernelRfl
import Derived.Deep.QuietTactic
import Derived.BigQuiet
import Derived.Deep.RegionHeld3
import Derived.WalkLawsBesides
import Derived.WalkSpells
import Derived.Lib.Hide
import Derived.Outline
import Derived.RegionCalls
import Derived.Lib.Bytealg
namespace Go.Proofs.Ytljfigikkajlnaa
open Go.RowKit
set_option linter.unusedVariables false
set_option linter.unusedSimpArgs false

/-- A key stands ahead of another one. -/
def ltK (a b : ByteArray) : Bool := Op.bytesLess a.data.toList b.data.toList
theorem cmp_cases : ∀ a b : List UInt8, (Lib.compareBytes a b = -1 ∧ Op.bytesLess a b = true ∧ a ≠ b ∧ Op.bytesLess b a = false) ∨ (Lib.compareBytes a b = 0 ∧ Op.bytesLess a b = false ∧ a = b) ∨ (Lib.compareBytes a b = 1 ∧ Op.bytesLess a b = false ∧ a ≠ b ∧ Op.bytesLess b a = true)
  | [], [] => .inr (.inl ⟨rfl, rfl, rfl⟩)
  | [], _ :: _ => .inl ⟨rfl, rfl, by simp, rfl⟩
  | _ :: _, [] => .inr (.inr ⟨rfl, rfl, by simp, rfl⟩)
  | x :: a, y :: b => by
    have ih := cmp_cases a b
    simp only [Lib.compareBytes, Op.bytesLess]
    by_cases h1 : x < y
    · have h2 : ¬ y < x := fun h => UInt8.lt_irrefl _ (UInt8.lt_trans h1 h)
      have h3 : x ≠ y := fun h => UInt8.lt_irrefl _ (h ▸ h1)
      refine .inl ?_
      simp [h1, h2, h3, Ne.symm h3]
    · by_cases h2 : y < x
      · have h3 : x ≠ y := fun h => UInt8.lt_irrefl _ (h ▸ h2)
        refine .inr (.inr ?_)
        simp [h1, h2, h3]
      · have h3 : x = y := UInt8.le_antisymm (UInt8.not_lt.1 h2) (UInt8.not_lt.1 h1)
        subst h3
        simp only [UInt8.lt_irrefl, if_false]
        simpa using ih
theorem bytesLess_trans : ∀ a b c : List UInt8, Op.bytesLess a b = true → Op.bytesLess b c = true → Op.bytesLess a c = true
  | _, [], _, h, _ => by simp [Op.bytesLess] at h
  | _, _ :: _, [], _, h => by simp [Op.bytesLess] at h
  | [], _ :: _, _ :: _, _, _ => rfl
  | x :: a, y :: b, z :: c, h, k => by
    have ih := bytesLess_trans a b c
    simp only [Op.bytesLess, Bool.or_eq_true, decide_eq_true_eq, Bool.and_eq_true, beq_iff_eq] at h k ⊢
    rcases h with h | ⟨rfl, h⟩
    · rcases k with k | ⟨rfl, k⟩
      · exact .inl (UInt8.lt_trans h k)
      · exact .inl h
    · rcases k with k | ⟨rfl, k⟩
      · exact .inl k
      · exact .inr ⟨rfl, ih h k⟩
theorem bytesLess_irrefl : ∀ a : List UInt8, Op.bytesLess a a = false
  | [] => rfl
  | x :: a => by simp [Op.bytesLess, bytesLess_irrefl a]
theorem data_inj {a b : ByteArray} (h : a.data.toList = b.data.toList) : a = b := by
  obtain ⟨⟨a⟩⟩ := a
  obtain ⟨⟨b⟩⟩ := b
  simp only at h
  rw [h]
theorem ltK_trans {a b c : ByteArray} (h : ltK a b = true) (k : ltK b c = true) : ltK a c = true := bytesLess_trans _ _ _ h k
theorem ltK_irrefl (a : ByteArray) : ltK a a = false := bytesLess_irrefl _
theorem ltK_tri (a b : ByteArray) : (ltK a b = true ∧ a ≠ b ∧ ltK b a = false) ∨ (a = b) ∨ (ltK b a = true ∧ a ≠ b ∧ ltK a b = false) := by
  rcases cmp_cases a.data.toList b.data.toList with ⟨_, h, hn, h2⟩ | ⟨_, _, h⟩ | ⟨_, h2, hn, h⟩
  · exact .inl ⟨h, fun e => hn (by rw [e]), h2⟩
  · exact .inr (.inl (data_inj h))
  · exact .inr (.inr ⟨h, fun e => hn (by rw [e]), h2⟩)
theorem ltK_asymm {a b : ByteArray} (h : ltK a b = true) : ltK b a = false := by
  rcases ltK_tri a b with ⟨_, _, h2⟩ | rfl | ⟨_, _, h2⟩
  · exact h2
  · rw [ltK_irrefl] at h; cases h
  · rw [h] at h2; cases h2
/-- Go's comparison of keys, as a number. -/
def cmpK (a b : ByteArray) : Int := Lib.compareBytes a.data.toList b.data.toList
theorem cmpK_lt {a b : ByteArray} (h : ltK a b = true) : cmpK a b = -1 := by
  rcases cmp_cases a.data.toList b.data.toList with ⟨e, _⟩ | ⟨_, h2, _⟩ | ⟨_, h2, _⟩
  · exact e
  · simp [ltK, h2] at h
  · simp [ltK, h2] at h
theorem cmpK_self (a : ByteArray) : cmpK a a = 0 := by
  rcases cmp_cases a.data.toList a.data.toList with ⟨_, _, h, _⟩ | ⟨e, _⟩ | ⟨_, _, h, _⟩
  · exact absurd rfl h
  · exact e
  · exact absurd rfl h
theorem cmpK_gt {a b : ByteArray} (h : ltK b a = true) : cmpK a b = 1 := by
  rcases cmp_cases a.data.toList b.data.toList with ⟨_, _, _, h2⟩ | ⟨_, _, h2⟩ | ⟨e, _⟩
  · simp [ltK, h2] at h
  · rw [data_inj h2, ltK_irrefl] at h; cases h
  · exact e
theorem bytes_ltK (a b : ByteArray) : Op.bytesLess a.toList b.toList = ltK a b := by rw [ByteArray.toList_eq, ByteArray.toList_eq]; rfl
end Go.Proofs.Ytljfigikkajlnaa
