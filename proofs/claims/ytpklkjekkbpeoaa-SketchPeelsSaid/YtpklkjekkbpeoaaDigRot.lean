/- DERIVED. A word turned to the right: both texts. -/
import Derived.Test.YtpklkjekkbpeoaaDigWord
namespace Go.Proofs.Ytpklkjekkbpeoaa
open Go.RowKit
set_option linter.unusedVariables false
set_option linter.unusedSimpArgs false
attribute [local go_sem high] w_add w_xor w_and w_or w_andNot w_not w_shl w_shr u32_byte u8_word

theorem ret_w {a b : W32} (h : a = b) : Ending.returned (.int .u32 (wv a)) = .returned (.int .u32 (wv b)) := by rw [h]
set_option maxRecDepth 100000 in
theorem right_any (x : W32) (n : Nat) (hn : n ≤ 32) (w : World) :
    Calls Try.prog 75 #[.int .u32 (wv x), .int .i64 n] w fun e w' => e = .returned (.int .u32 (wv (rr x n))) ∧ Drawn w w' := by
  have h0 : (0 : Int) ≤ (n : Int) := by omega
  have e1 : IntKind.i64.wrap (32 - (n : Int)) = 32 - (n : Int) := IntWalk.i64_in _ (by omega)
  have h1 : (0 : Int) ≤ 32 - (n : Int) := by omega
  have h2 : (32 - (n : Int)).toNat = 32 - n := by omega
  have h3 : (n : Int) ≤ 32 := by omega
  have HV := Lib.hid (show rr x n = x >>> n ||| x <<< (32 - n) from rfl)
  go_enter Try.func75, Try.ntmps75
  go_wp2
  go_quiet (fail)
  go_wp2
  go_ret
  exact ⟨ret_w HV.out.symm, ⟨_, rfl⟩⟩
set_option maxRecDepth 100000 in
theorem rot_any (x : W32) (n : Nat) (hn : 1 ≤ n) (hn2 : n ≤ 31) (w : World) :
    Calls Try.prog 98 #[.int .u32 (wv x), .int .i64 (-n)] w fun e w' => e = .returned (.int .u32 (wv (rr x n))) ∧ w = w' := by
  have hb : bits .and .u64 (IntKind.u64.wrap (-(n : Int))) 31 = 32 - (n : Int) := by
    have : ∀ m : Fin 32, 1 ≤ m.val → bits .and .u64 (IntKind.u64.wrap (-(m.val : Int))) 31 = 32 - (m.val : Int) := by decide +kernel
    exact this ⟨n, by omega⟩ hn
  have e1 : IntKind.u64.wrap (32 - (32 - (n : Int))) = (n : Int) := by rw [show 32 - (32 - (n : Int)) = (n : Int) by omega]; simp [IntKind.wrap, IntKind.bits, IntKind.signed]; omega
  have h0 : (0 : Int) ≤ (n : Int) := by omega
  have h1 : (0 : Int) ≤ 32 - (n : Int) := by omega
  have h2 : (32 - (n : Int)).toNat = 32 - n := by omega
  have h3 : (n : Int) ≤ 32 := by omega
  have HV := Lib.hid (show rr x n = x <<< (32 - n) ||| x >>> n from BitVec.or_comm _ _)
  go_enter Try.func98, Try.ntmps98
  go_wp2
  go_ret
  exact ⟨ret_w HV.out.symm, rfl⟩
end Go.Proofs.Ytpklkjekkbpeoaa
