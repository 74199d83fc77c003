/- DERIVED. SegmentNames: the statement's walk. -/
import Derived.Test.YtejodabmddcanaaSegPrefix
import Derived.Test.YtejodabmddcanaaSegNum
namespace Go.Proofs.Ytejodabmddcanaa
open Go.RowKit
attribute [local irreducible] arrW arrB wpList Code.wp

attribute [local irreducible] shaB
theorem of_nil : ofI ⟨#[]⟩ = -1 := ofI_neg (by decide +kernel)
theorem pref_2005 : prefS 2005 = ⟨#[7, 213]⟩ := by decide +kernel
set_option maxRecDepth 100000 in
set_option maxHeartbeats 3200000 in
theorem names_walk (w : World) :
    Calls Try.prog 8 #[] w fun e w' => e = .returned (.bool true) ∧ Below w.heap.size w w' := by
  have hs := segPrefix_yes 2005 (by omega) w
  rw [pref_2005] at hs
  have ha : ∀ W, Calls Try.prog 38 #[.string ⟨#[97]⟩] W fun e w' => e = .returned (.int .i64 2005) ∧ Below W.heap.size W w' := fun W => by have := segOf_any ⟨#[97]⟩ W; rw [of_a] at this; exact this
  have hb : ∀ W, Calls Try.prog 38 #[.string ⟨#[98]⟩] W fun e w' => e = .returned (.int .i64 2637) ∧ Below W.heap.size W w' := fun W => by have := segOf_any ⟨#[98]⟩ W; rw [of_b] at this; exact this
  have hn : ∀ W, Calls Try.prog 38 #[.string ⟨#[]⟩] W fun e w' => e = .returned (.int .i64 (-1)) ∧ Below W.heap.size W w' := fun W => by have := segOf_any ⟨#[]⟩ W; rw [of_nil] at this; exact this
  go_enter Try.func8, Try.ntmps8
  go_wp2_with fail
  refine hs.mono ?_
  rintro e W1 ⟨rfl, L_⟩
  have L1 := Lib.hid (L_)
  clear L_
  go_wp2_with fail
  refine (ha W1).mono ?_
  rintro e W2 ⟨rfl, L_⟩
  have L2 := Lib.hid (bl_then L1.out L_)
  clear L_ L1
  go_wp2_with fail
  refine (hb W2).mono ?_
  rintro e W3 ⟨rfl, L_⟩
  have L3 := Lib.hid (bl_then L2.out L_)
  clear L_ L2
  go_wp2_with fail
  refine (hn W3).mono ?_
  rintro e W4 ⟨rfl, L_⟩
  have L4 := Lib.hid (bl_then L3.out L_)
  clear L_ L3
  go_wp2
  go_ret
  exact ⟨rfl, L4.out⟩

end Go.Proofs.Ytejodabmddcanaa
