/- DERIVED. The statements' helper has: the sum that a list has of a key. -/
import Derived.Test.YtejodabmddcanaaSegPatchP
import Derived.Test.YtejodabmddcanaaSegLent2
import Derived.Deep.LoopGhost
namespace Go.Proofs.Ytejodabmddcanaa
open Go.RowKit

theorem hasK_at {l : List Ent} {key : ByteArray} {j : Nat} (hj : j < l.length) (h : ∀ i (hi : i < l.length), i < j → l[i].key ≠ key) (he : l[j].key = key) : hasK l key = l[j].sum := by
  induction l generalizing j with
  | nil => exact absurd hj (by simp)
  | cons e l ih =>
    cases j with
    | zero => rw [hasK, if_pos (show e.key = key from he)]; rfl
    | succ j =>
      rw [hasK, if_neg (show ¬ e.key = key from h 0 (by simp) (by omega))]
      exact ih (by simpa using hj) (fun i hi hij => h (i + 1) (by simpa using hi) (by omega)) he
set_option maxRecDepth 100000 in
set_option maxHeartbeats 1600000 in
theorem has_any (A : Option Addr) (c : Nat) (l : List Ent) (key : ByteArray) (w : World) (hr : Rd w A l) :
    Calls Try.prog 42 #[.slice A l.length c, .string key] w fun e w' => e = .returned (.string (hasK l key)) ∧ w = w' := by
  have hmax := hr.max
  have HR := Lib.hid hr
  clear hr
  go_enter Try.func42, Try.ntmps42
  go_wp2
  go_loopg [5] l.length (fun gk s5 wx => ∃ k : Nat, k ≤ l.length ∧ gk = l.length - k ∧ s5 = .int .i64 k ∧ Hid (∀ i (hi : i < l.length), i < k → l[i].key ≠ key) ∧ w = wx)
  case atStart => exact ⟨0, Nat.zero_le _, rfl, rfl, Lib.hid (fun i hi h => absurd h (Nat.not_lt_zero _)), rfl⟩
  case round =>
    obtain ⟨k, hk, rfl, rfl, hno, rfl⟩ := hrel
    by_cases hlt : k < l.length
    · have i0 : (0 : Int) ≤ (k : Int) := by omega
      have i1 : (k : Int) < (l.length : Int) := by omega
      obtain ⟨ad, e0, c0, c1⟩ := HR.out.at_ k hlt
      cases e0
      by_cases he : l[k].key = key
      · have q0 : (l[k].key.toList == key.toList) = true := by rw [he]; simp
        have HV := Lib.hid (hasK_at hlt hno.out he)
        clear he
        go_wp2
        go_ret
        exact ⟨ret_str HV.out.symm, rfl⟩
      · have q0 : (l[k].key.toList == key.toList) = false := by rw [str_eq]; simpa using he
        have HE := Lib.hid he
        clear he
        go_wp2
        go_roundg (l.length - (k + 1))
        case measure => omega
        case rel => exact ⟨k + 1, by omega, rfl, by go_num, Lib.hid (fun i hi hik => by
          rcases Nat.lt_or_ge i k with h | h
          · exact hno.out i hi h
          · obtain rfl : i = k := by omega
            exact HE.out), rfl⟩
    · obtain rfl : k = l.length := by omega
      have HV := Lib.hid (show hasK l key = em from hasK_none fun e he => by
        obtain ⟨i, hi, rfl⟩ := List.getElem_of_mem he
        exact hno.out i hi hi)
      go_wp2
      go_ret
      exact ⟨ret_str HV.out.symm, rfl⟩
end Go.Proofs.Ytejodabmddcanaa
