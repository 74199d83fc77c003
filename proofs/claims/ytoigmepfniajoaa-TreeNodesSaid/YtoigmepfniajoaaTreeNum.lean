/- DERIVED. The numbers of the nodes: what both texts' Node, Level, Index, Parent, Kid answer. -/
import Derived.Test.YtoigmepfniajoaaProg
import Derived.Below
import Derived.Deep.Draws
import Derived.OwnWalk
import Derived.Laws.OwnMore
import Derived.WalkKit
import Derived.KernelRfl
import Derived.Deep.QuietTactic
import Derived.BigQuiet
import Derived.WalkLawsBesides
import Derived.WalkSpells
import Derived.Lib.Hide
import Derived.Outline
import Derived.RegionCalls
namespace Go.Proofs.Ytoigmepfniajoaa
open Go.RowKit

theorem bl_drew {w w1 : World} (h : Below w.heap.size w w1) : Below w.heap.size w w1.drew := ⟨h.os, h.tape, h.output, h.size, h.block⟩
theorem bl_drewN {w w1 : World} (h : Below w.heap.size w w1) (n : Nat) : Below w.heap.size w (w1.drewN n) := ⟨h.os, h.tape, h.output, h.size, h.block⟩
theorem bl_alloc {w w1 : World} (h : Below w.heap.size w w1) (o : Obj) : Below w.heap.size w (w1.alloc o) := h.alloc h.size o
theorem bl_then {w w1 w2 : World} (h : Below w.heap.size w w1) (k : Below w1.heap.size w1 w2) : Below w.heap.size w w2 := h.trans (k.mono h.size)
theorem u16_fit (x : Int) (h0 : 0 ≤ x) (h : x ≤ 65535) : IntKind.u16.wrap x = x := by
  exact IntWalk.u16_in x ⟨h0, h⟩
theorem par_eq (b x : Int) (hb : 0 ≤ b) (hb2 : b ≤ 60000) (h0 : 0 ≤ x) (h1 : x ≤ 5000) : IntKind.u16.wrap (IntKind.i64.wrap (b + IntKind.i64.wrap (x.tdiv 16))) = b + x / 16 := by
  rw [Int.tdiv_eq_ediv_of_nonneg h0, IntWalk.i64_in (x / 16) (by omega), IntWalk.i64_in _ (by omega), u16_fit _ (by omega) (by omega)]
theorem par_eq0 (x : Int) (h0 : 0 ≤ x) (h1 : x ≤ 5000) : IntKind.u16.wrap (IntKind.i64.wrap (IntKind.i64.wrap (x.tdiv 16))) = x / 16 := by
  rw [Int.tdiv_eq_ediv_of_nonneg h0, IntWalk.i64_in (x / 16) (by omega), IntWalk.i64_in _ (by omega), u16_fit _ (by omega) (by omega)]
theorem kid_eq (b x i : Int) (hb : 0 ≤ b) (hb2 : b ≤ 5000) (h0 : 0 ≤ x) (h1 : x ≤ 300) (i0 : 0 ≤ i) (i1 : i < 16) : IntKind.u16.wrap (IntKind.i64.wrap (IntKind.i64.wrap (b + IntKind.i64.wrap (16 * x)) + i)) = b + 16 * x + i := by
  rw [IntWalk.i64_in (16 * x) (by omega), IntWalk.i64_in (b + 16 * x) (by omega), IntWalk.i64_in _ (by omega), u16_fit _ (by omega) (by omega)]
theorem ret_intL {k : IntKind} {a b : Int} (h : b = a) : Ending.returned (.int k a) = .returned (.int k b) := by rw [h]
def wdI (x : Int) : Int := if x = 0 then 1 else if x = 1 then 16 else if x = 2 then 256 else 4096
def fsI (x : Int) : Int := if x = 0 then 0 else if x = 1 then 1 else if x = 2 then 17 else if x = 3 then 273 else 4369
theorem wd0 : wdI 0 = 1 := rfl
theorem wd1 : wdI 1 = 16 := rfl
theorem wd2 : wdI 2 = 256 := rfl
theorem wd3 : wdI 3 = 4096 := rfl
theorem fs0 : fsI 0 = 0 := rfl
theorem fs1 : fsI 1 = 1 := rfl
theorem fs2 : fsI 2 = 17 := rfl
theorem fs3 : fsI 3 = 273 := rfl
theorem fs4 : fsI 4 = 4369 := rfl
attribute [local go_sem] wd0 wd1 wd2 wd3 fs0 fs1 fs2 fs3 fs4

set_option maxHeartbeats 800000 in
theorem wide_any (x : Int) (h : x = 0 ∨ x = 1 ∨ x = 2 ∨ x = 3) (w : World) :
    Calls Try.prog 52 #[.int .i64 x] w fun e w' => e = .returned (.int .i64 (wdI x)) ∧ w = w' := by
  obtain ⟨L, hL, hx⟩ : ∃ L : Nat, L ≤ 3 ∧ x = (L : Int) := ⟨x.toNat, by omega, by omega⟩
  subst hx
  clear h
  go_enter Try.func52, Try.ntmps52
  go_wp2
  go_loop [3, 4] (fun n i => ∃ k : Nat, k ≤ L ∧ i = .int .i64 k ∧ n = .int .i64 (wdI k)) (fun _ i => L - (intOf i).toNat)
  case atStart => exact ⟨0, Nat.zero_le _, rfl, rfl⟩
  case round =>
    obtain ⟨k, hk, rfl, rfl⟩ := hrel
    by_cases hlt : k < L
    · have hk3 : k = 0 ∨ k = 1 ∨ k = 2 := by omega
      rcases hk3 with rfl | rfl | rfl
      all_goals
        go_wp2
        go_round
        case rel => exact ⟨_, hlt, by first | rfl | go_num, rfl⟩
        case measure => simp [intOf]; omega
    · obtain rfl : k = L := by omega
      go_wp2
      go_ret
      exact ⟨rfl, rfl⟩

set_option maxHeartbeats 800000 in
theorem first_any (x : Int) (h : x = 0 ∨ x = 1 ∨ x = 2 ∨ x = 3 ∨ x = 4) (w : World) :
    Calls Try.prog 53 #[.int .i64 x] w fun e w' => e = .returned (.int .i64 (fsI x)) ∧ w = w' := by
  obtain ⟨L, hL, hx⟩ : ∃ L : Nat, L ≤ 4 ∧ x = (L : Int) := ⟨x.toNat, by omega, by omega⟩
  subst hx
  clear h
  go_enter Try.func53, Try.ntmps53
  go_wp2
  go_loop [3, 4] (fun n i => ∃ k : Nat, k ≤ L ∧ i = .int .i64 k ∧ n = .int .i64 (fsI k)) (fun _ i => L - (intOf i).toNat)
  case atStart => exact ⟨0, Nat.zero_le _, rfl, rfl⟩
  case round =>
    obtain ⟨k, hk, rfl, rfl⟩ := hrel
    by_cases hlt : k < L
    · have hk3 : k = 0 ∨ k = 1 ∨ k = 2 ∨ k = 3 := by omega
      rcases hk3 with rfl | rfl | rfl | rfl
      all_goals
        go_wp2_with (go_at_call 52; refine (wide_any _ (by omega) _).mono ?_; rintro e w' ⟨rfl, rfl⟩)
        go_round
        case rel => exact ⟨_, hlt, by first | rfl | go_num, rfl⟩
        case measure => simp [intOf]; omega
    · obtain rfl : k = L := by omega
      go_wp2
      go_ret
      exact ⟨rfl, rfl⟩
end Go.Proofs.Ytoigmepfniajoaa
