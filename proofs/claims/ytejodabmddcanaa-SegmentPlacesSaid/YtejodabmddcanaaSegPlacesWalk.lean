/- DERIVED. SegmentPlaces: the statement's walk. -/
import Derived.Test.YtejodabmddcanaaSegPrefix
namespace Go.Proofs.Ytejodabmddcanaa
open Go.RowKit
attribute [local irreducible] arrW arrB wpList Code.wp

theorem str_self (a : ByteArray) : (a.toList == a.toList) = true := by simp
set_option maxRecDepth 100000 in
set_option maxHeartbeats 3200000 in
theorem places_walk (key : ByteArray) (n : Int) (w : World) :
    Calls Try.prog 7 #[.string key, .int .i64 n] w fun e w' => e = .returned (.bool true) ∧ Below w.heap.size w w' := by
  obtain ⟨V, hV⟩ : ∃ V, V = ofI key := ⟨_, rfl⟩
  have hof : ∀ W, Calls Try.prog 38 #[.string key] W fun e w' => e = .returned (.int .i64 V) ∧ Below W.heap.size W w' := fun W => hV ▸ segOf_any key W
  have hor : ∀ W, Calls Try.prog 39 #[.string key] W fun e w' => e = .returned (.int .i64 V) ∧ Below W.heap.size W w' := fun W => hV ▸ refSegOf_any key W
  clear hV
  obtain ⟨s, k, hr, hs⟩ : ∃ (s : ByteArray) (k : Int), (∀ W, Calls Try.prog 36 #[.int .i64 n] W fun e w' => e = .returned (.tuple #[.string s, .int .i64 k]) ∧ Below W.heap.size W w') ∧
      (∀ W, Calls Try.prog 37 #[.int .i64 n] W fun e w' => e = .returned (.tuple #[.string s, .int .i64 k]) ∧ Below W.heap.size W w') := by
    by_cases h : segB n = true
    · obtain ⟨m, rfl, hm⟩ := segB_pos h
      exact ⟨prefS m, 0, fun W => refPrefix_yes m hm W, fun W => segPrefix_yes m hm W⟩
    · have h : segB n = false := by simpa using h
      exact ⟨⟨#[]⟩, 1, fun W => (refPrefix_no n h W).mono fun e w' ⟨he, hw⟩ => ⟨he, hw ▸ Below.refl _ _⟩, fun W => (segPrefix_no n h W).mono fun e w' ⟨he, hw⟩ => ⟨he, hw ▸ Below.refl _ _⟩⟩
  have e1 := str_self s
  go_enter Try.func7, Try.ntmps7
  go_wp2_with (first
    | (go_at_call 36; refine (hr w).mono ?_; rintro e W1 ⟨rfl, L_⟩; have L1 := Lib.hid L_; clear L_)
    | (go_at_call 37; refine (hs W1).mono ?_; rintro e W2 ⟨rfl, L_⟩; have L2 := Lib.hid (bl_then L1.out L_); clear L_ L1)
    | (go_at_call 38; refine (hof W2).mono ?_; rintro e W3 ⟨rfl, L_⟩; have L3 := Lib.hid (bl_then L2.out L_); clear L_ L2)
    | (go_at_call 39; refine (hor W3).mono ?_; rintro e W4 ⟨rfl, L_⟩; have L4 := Lib.hid (bl_then L3.out L_); clear L_ L3))
  go_ret
  exact ⟨rfl, L4.out⟩
end Go.Proofs.Ytejodabmddcanaa
