/- DERIVED. The levels of the nodes, and a node's place in its level: both texts. -/
import Derived.Test.YtoigmepfniajoaaTreeNum
namespace Go.Proofs.Ytoigmepfniajoaa
open Go.RowKit
attribute [local go_sem] wd0 wd1 wd2 wd3 fs0 fs1 fs2 fs3 fs4

/-- The level of a node; -1: there is no such node. -/
def lvI (n : Int) : Int := if n < 1 then 0 else if n < 17 then 1 else if n < 273 then 2 else if n < 4369 then 3 else -1
/-- A node's place in its level. -/
def ixI (n : Int) : Int := if lvI n < 0 then 0 else n - fsI (lvI n)
theorem lv_cases (n : Int) (h0 : 0 ≤ n) (h : n ≤ 65535) : (n = 0 ∧ lvI n = 0 ∧ ixI n = 0) ∨ (1 ≤ n ∧ n ≤ 16 ∧ lvI n = 1 ∧ ixI n = n - 1) ∨ (17 ≤ n ∧ n ≤ 272 ∧ lvI n = 2 ∧ ixI n = n - 17) ∨
    (273 ≤ n ∧ n ≤ 4368 ∧ lvI n = 3 ∧ ixI n = n - 273) ∨ (4369 ≤ n ∧ lvI n = -1 ∧ ixI n = 0) := by
  by_cases h1 : n < 1
  · exact .inl ⟨by omega, by simp [lvI, h1], by simp [ixI, lvI, h1, fsI]; omega⟩
  · by_cases h2 : n < 17
    · exact .inr (.inl ⟨by omega, by omega, by simp [lvI, h1, h2], by simp [ixI, lvI, h1, h2, fsI]⟩)
    · by_cases h3 : n < 273
      · exact .inr (.inr (.inl ⟨by omega, by omega, by simp [lvI, h1, h2, h3], by simp [ixI, lvI, h1, h2, h3, fsI]⟩))
      · by_cases h4 : n < 4369
        · exact .inr (.inr (.inr (.inl ⟨by omega, by omega, by simp [lvI, h1, h2, h3, h4], by simp [ixI, lvI, h1, h2, h3, h4, fsI]⟩)))
        · exact .inr (.inr (.inr (.inr ⟨by omega, by simp [lvI, h1, h2, h3, h4], by simp [ixI, lvI, h1, h2, h3, h4]⟩)))

theorem bases_any (w : World) : Calls Try.prog 51 #[] w fun e w' => e = .returned (.agg #[.int .i64 0, .int .i64 1, .int .i64 17, .int .i64 273, .int .i64 4369]) ∧ Below w.heap.size w w' := by
  go_enter Try.func51, Try.ntmps51
  go_wp2
  exact bodyPost_ret (v := .agg #[.int .i64 0, .int .i64 1, .int .i64 17, .int .i64 273, .int .i64 4369]) (by simp [results, Try.results51, go_sem]) rfl ⟨rfl, (Below.refl _ _).alloc (Nat.le_refl _) _⟩

theorem base_at0 (k : IntKind) : ∀ w, (Instr.index 87 (.agg #[.int .i64 0, .int .i64 1, .int .i64 17, .int .i64 273, .int .i64 4369]) (.int k 0)).run Try.prog w = .ok (.int .i64 0) w := fun _ => by cases k <;> kernel_rfl
theorem base_at1 (k : IntKind) : ∀ w, (Instr.index 87 (.agg #[.int .i64 0, .int .i64 1, .int .i64 17, .int .i64 273, .int .i64 4369]) (.int k 1)).run Try.prog w = .ok (.int .i64 1) w := fun _ => by cases k <;> kernel_rfl
theorem base_at2 (k : IntKind) : ∀ w, (Instr.index 87 (.agg #[.int .i64 0, .int .i64 1, .int .i64 17, .int .i64 273, .int .i64 4369]) (.int k 2)).run Try.prog w = .ok (.int .i64 17) w := fun _ => by cases k <;> kernel_rfl
theorem base_at3 (k : IntKind) : ∀ w, (Instr.index 87 (.agg #[.int .i64 0, .int .i64 1, .int .i64 17, .int .i64 273, .int .i64 4369]) (.int k 3)).run Try.prog w = .ok (.int .i64 273) w := fun _ => by cases k <;> kernel_rfl
theorem base_at4 (k : IntKind) : ∀ w, (Instr.index 87 (.agg #[.int .i64 0, .int .i64 1, .int .i64 17, .int .i64 273, .int .i64 4369]) (.int k 4)).run Try.prog w = .ok (.int .i64 4369) w := fun _ => by cases k <;> kernel_rfl

/-- How far the loop over the levels has come. -/
def lowI (k : Nat) : Int := match k with | 0 => 0 | 1 => 0 | 2 => 1 | 3 => 17 | 4 => 273 | _ => 4369
set_option maxHeartbeats 1600000 in
theorem level_any (n : Int) (h0 : 0 ≤ n) (h : n ≤ 65535) (w : World) :
    Calls Try.prog 16 #[.int .u16 n] w fun e w' => e = .returned (.int .i8 (lvI n)) ∧ Below w.heap.size w w' := by
  have i0 := base_at0 .i64
  have i1 := base_at1 .i64
  have i2 := base_at2 .i64
  have i3 := base_at3 .i64
  have i4 := base_at4 .i64
  have HL := Lib.hid (lv_cases n h0 h)
  go_enter Try.func16, Try.ntmps16
  go_wp2_with (go_at_call 51; refine (bases_any _).mono ?_; rintro e w1 ⟨rfl, hb1⟩)
  have HB := Lib.hid hb1
  clear hb1
  go_loop [3, 4, 6] (fun _ _ i => ∃ k : Nat, k ≤ 5 ∧ i = .int .i64 k ∧ lowI k ≤ n) (fun _ _ i => 5 - (intOf i).toNat)
  case atStart => exact ⟨0, Nat.zero_le _, rfl, h0⟩
  case round =>
    obtain ⟨k, hk, rfl, hl⟩ := hrel
    have hk5 : k = 0 ∨ k = 1 ∨ k = 2 ∨ k = 3 ∨ k = 4 ∨ k = 5 := by omega
    rcases hk5 with rfl | rfl | rfl | rfl | rfl | rfl
    all_goals simp only [lowI] at hl
    · have : ¬ n < 0 := by omega
      go_wp2
      go_round
      case rel => exact ⟨1, by omega, rfl, h0⟩
      case measure => simp [intOf]
    · by_cases hc : n < 1
      · go_wp2
        go_ret
        exact ⟨ret_intL (by rcases HL.out with h | h | h | h | h <;> omega), HB.out⟩
      · go_wp2
        go_round
        case rel => exact ⟨2, by omega, rfl, by simp only [lowI]; omega⟩
        case measure => simp [intOf]
    · by_cases hc : n < 17
      · go_wp2
        go_ret
        exact ⟨ret_intL (by rcases HL.out with h | h | h | h | h <;> omega), HB.out⟩
      · go_wp2
        go_round
        case rel => exact ⟨3, by omega, rfl, by simp only [lowI]; omega⟩
        case measure => simp [intOf]
    · by_cases hc : n < 273
      · go_wp2
        go_ret
        exact ⟨ret_intL (by rcases HL.out with h | h | h | h | h <;> omega), HB.out⟩
      · go_wp2
        go_round
        case rel => exact ⟨4, by omega, rfl, by simp only [lowI]; omega⟩
        case measure => simp [intOf]
    · by_cases hc : n < 4369
      · go_wp2
        go_ret
        exact ⟨ret_intL (by rcases HL.out with h | h | h | h | h <;> omega), HB.out⟩
      · go_wp2
        go_round
        case rel => exact ⟨5, by omega, rfl, by simp only [lowI]; omega⟩
        case measure => simp [intOf]
    · go_wp2
      go_ret
      exact ⟨ret_intL (by rcases HL.out with h | h | h | h | h <;> omega), HB.out⟩

set_option maxHeartbeats 1600000 in
theorem refLevel_any (n : Int) (h0 : 0 ≤ n) (h : n ≤ 65535) (w : World) :
    Calls Try.prog 17 #[.int .u16 n] w fun e w' => e = .returned (.int .i8 (lvI n)) ∧ w = w' := by
  have HL := Lib.hid (lv_cases n h0 h)
  go_enter Try.func17, Try.ntmps17
  go_wp2
  go_loop [3] (fun i => ∃ k : Nat, k ≤ 4 ∧ i = .int .i64 k ∧ lowI (k + 1) ≤ n) (fun i => 4 - (intOf i).toNat)
  case atStart => exact ⟨0, Nat.zero_le _, rfl, h0⟩
  case round =>
    obtain ⟨k, hk, rfl, hl⟩ := hrel
    have hk5 : k = 0 ∨ k = 1 ∨ k = 2 ∨ k = 3 ∨ k = 4 := by omega
    rcases hk5 with rfl | rfl | rfl | rfl | rfl
    all_goals simp only [lowI] at hl
    · by_cases hc : n < 1
      · go_wp2_with (go_at_call 53; refine (first_any _ (by omega) _).mono ?_; rintro e w' ⟨rfl, rfl⟩)
        go_ret
        exact ⟨ret_intL (by rcases HL.out with h | h | h | h | h <;> omega), rfl⟩
      · go_wp2_with (go_at_call 53; refine (first_any _ (by omega) _).mono ?_; rintro e w' ⟨rfl, rfl⟩)
        go_round
        case rel => exact ⟨1, by omega, rfl, by simp only [lowI]; omega⟩
        case measure => simp [intOf]
    · by_cases hc : n < 17
      · go_wp2_with (go_at_call 53; refine (first_any _ (by omega) _).mono ?_; rintro e w' ⟨rfl, rfl⟩)
        go_ret
        exact ⟨ret_intL (by rcases HL.out with h | h | h | h | h <;> omega), rfl⟩
      · go_wp2_with (go_at_call 53; refine (first_any _ (by omega) _).mono ?_; rintro e w' ⟨rfl, rfl⟩)
        go_round
        case rel => exact ⟨2, by omega, rfl, by simp only [lowI]; omega⟩
        case measure => simp [intOf]
    · by_cases hc : n < 273
      · go_wp2_with (go_at_call 53; refine (first_any _ (by omega) _).mono ?_; rintro e w' ⟨rfl, rfl⟩)
        go_ret
        exact ⟨ret_intL (by rcases HL.out with h | h | h | h | h <;> omega), rfl⟩
      · go_wp2_with (go_at_call 53; refine (first_any _ (by omega) _).mono ?_; rintro e w' ⟨rfl, rfl⟩)
        go_round
        case rel => exact ⟨3, by omega, rfl, by simp only [lowI]; omega⟩
        case measure => simp [intOf]
    · by_cases hc : n < 4369
      · go_wp2_with (go_at_call 53; refine (first_any _ (by omega) _).mono ?_; rintro e w' ⟨rfl, rfl⟩)
        go_ret
        exact ⟨ret_intL (by rcases HL.out with h | h | h | h | h <;> omega), rfl⟩
      · go_wp2_with (go_at_call 53; refine (first_any _ (by omega) _).mono ?_; rintro e w' ⟨rfl, rfl⟩)
        go_round
        case rel => exact ⟨4, by omega, rfl, by simp only [lowI]; omega⟩
        case measure => simp [intOf]
    · go_wp2
      go_ret
      exact ⟨ret_intL (by rcases HL.out with h | h | h | h | h <;> omega), rfl⟩
end Go.Proofs.Ytoigmepfniajoaa
