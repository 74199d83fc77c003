/- DERIVED. A node's children: both texts. -/
import Derived.Test.YtoigmepfniajoaaTreeKidL
namespace Go.Proofs.Ytoigmepfniajoaa
open Go.RowKit
attribute [local go_sem] wd0 wd1 wd2 wd3 fs0 fs1 fs2 fs3 fs4


set_option maxHeartbeats 1600000 in
theorem kid_out (n i : Int) (h0 : 0 ≤ n) (h : n ≤ 65535) (w : World) (hi : i < 0 ∨ 16 ≤ i) :
    Calls Try.prog 14 #[.int .u16 n, .int .i64 i] w fun e w' => e = .returned (.tuple #[.int .u16 (kdV n i), .bool (kdB n i)]) ∧ Below w.heap.size w w' := by
  have hb : kdB n i = false := by
    rcases hi with hi | hi
    · simp [kdB]; omega
    · simp [kdB]; omega
  have HV := Lib.hid (And.intro (kd_bad hb) hb)
  clear hb
  have HB := Lib.hid (Below.refl w.heap.size w)
  rcases hi with hi | hi
  · have d1 : decide (i < 0) = true := by simpa using hi
    rcases lv_cases n h0 h with ⟨rfl, hl, _⟩ | ⟨h1, h2, hl, _⟩ | ⟨h1, h2, hl, _⟩ | ⟨h1, h2, hl, _⟩ | ⟨h1, hl, _⟩
    all_goals
      have HL := Lib.hid hl
      clear hl
      go_enter Try.func14, Try.ntmps14
      go_wp2_with (go_at_call 16; refine (level_any _ h0 h _).mono ?_; rintro e w1 ⟨rfl, hb1⟩; rw [HL.out]; have HN := Lib.hid (bl_then HB.out hb1); clear hb1 HB; have HB := HN; clear HN)
      go_ret2
      exact ⟨ret_kin HV.out.1 HV.out.2, HB.out⟩
  · have d1 : decide (i < 0) = false := by simp; omega
    have d2 : decide (16 ≤ i) = true := by simp; omega
    rcases lv_cases n h0 h with ⟨rfl, hl, _⟩ | ⟨h1, h2, hl, _⟩ | ⟨h1, h2, hl, _⟩ | ⟨h1, h2, hl, _⟩ | ⟨h1, hl, _⟩
    all_goals
      have HL := Lib.hid hl
      clear hl
      go_enter Try.func14, Try.ntmps14
      go_wp2_with (go_at_call 16; refine (level_any _ h0 h _).mono ?_; rintro e w1 ⟨rfl, hb1⟩; rw [HL.out]; have HN := Lib.hid (bl_then HB.out hb1); clear hb1 HB; have HB := HN; clear HN)
      go_ret2
      exact ⟨ret_kin HV.out.1 HV.out.2, HB.out⟩

set_option maxHeartbeats 3200000 in
theorem kid_in (n i : Int) (h0 : 0 ≤ n) (h : n ≤ 65535) (w : World) (hi0 : 0 ≤ i) (hi1 : i < 16) :
    Calls Try.prog 14 #[.int .u16 n, .int .i64 i] w fun e w' => e = .returned (.tuple #[.int .u16 (kdV n i), .bool (kdB n i)]) ∧ Below w.heap.size w w' := by
  have HB := Lib.hid (Below.refl w.heap.size w)
  have d1 : decide (i < 0) = false := by simp; omega
  have d2 : decide (16 ≤ i) = false := by simp; omega
  rcases lv_cases n h0 h with ⟨h1, hl, hi⟩ | ⟨h1, h2, hl, hi⟩ | ⟨h1, h2, hl, hi⟩ | ⟨h1, h2, hl, hi⟩ | ⟨h1, hl, hi⟩
  · exact kid_l0 n i h0 h w hi0 hi1 hl hi 0 rfl (by omega) (by omega)
  · exact kid_l1 n i h0 h w hi0 hi1 hl hi _ rfl (by omega) (by omega)
  · exact kid_l2 n i h0 h w hi0 hi1 hl hi _ rfl (by omega) (by omega)
  all_goals
    have HI := Lib.hid hi
    have HL := Lib.hid hl
    clear hi hl
    have HG := Lib.hid (show kdB n i = false by simp [kdB, HL.out])
    go_enter Try.func14, Try.ntmps14
    go_wp2_with (go_at_call 16; refine (level_any _ h0 h _).mono ?_; rintro e w1 ⟨rfl, hb1⟩; rw [HL.out]; have HN := Lib.hid (bl_then HB.out hb1); clear hb1 HB; have HB := HN; clear HN)
    go_ret2
    exact ⟨ret_kin (kd_bad HG.out) HG.out, HB.out⟩

theorem kid_any (n i : Int) (h0 : 0 ≤ n) (h : n ≤ 65535) (w : World) :
    Calls Try.prog 14 #[.int .u16 n, .int .i64 i] w fun e w' => e = .returned (.tuple #[.int .u16 (kdV n i), .bool (kdB n i)]) ∧ Below w.heap.size w w' := by
  by_cases c1 : i < 0
  · exact kid_out n i h0 h w (.inl c1)
  · by_cases c2 : i < 16
    · exact kid_in n i h0 h w (by omega) c2
    · exact kid_out n i h0 h w (.inr (by omega))

set_option maxHeartbeats 3200000 in
theorem refKid_any (n i : Int) (h0 : 0 ≤ n) (h : n ≤ 65535) (w : World) :
    Calls Try.prog 15 #[.int .u16 n, .int .i64 i] w fun e w' => e = .returned (.tuple #[.int .u16 (kdV n i), .bool (kdB n i)]) ∧ w = w' := by
  by_cases c1 : i < 0
  · have HG := Lib.hid (show kdB n i = false by simp [kdB]; omega)
    have d1 : decide (i < 0) = true := by simpa using c1
    rcases lv_cases n h0 h with ⟨rfl, hl, _⟩ | ⟨h1, h2, hl, _⟩ | ⟨h1, h2, hl, _⟩ | ⟨h1, h2, hl, _⟩ | ⟨h1, hl, _⟩
    all_goals
      have HL := Lib.hid hl
      clear hl
      go_enter Try.func15, Try.ntmps15
      go_wp2_with (go_at_call 17; refine (refLevel_any _ h0 h _).mono ?_; rintro e w1 ⟨rfl, rfl⟩; rw [HL.out])
      go_ret2
      exact ⟨ret_kin (kd_bad HG.out) HG.out, rfl⟩
  · have d1 : decide (i < 0) = false := by simpa using c1
    by_cases c2 : 15 < i
    · have HG := Lib.hid (show kdB n i = false by simp [kdB]; omega)
      have d2 : decide (15 < i) = true := by simpa using c2
      rcases lv_cases n h0 h with ⟨rfl, hl, _⟩ | ⟨h1, h2, hl, _⟩ | ⟨h1, h2, hl, _⟩ | ⟨h1, h2, hl, _⟩ | ⟨h1, hl, _⟩
      all_goals
        have HL := Lib.hid hl
        clear hl
        go_enter Try.func15, Try.ntmps15
        go_wp2_with (go_at_call 17; refine (refLevel_any _ h0 h _).mono ?_; rintro e w1 ⟨rfl, rfl⟩; rw [HL.out])
        go_ret2
        exact ⟨ret_kin (kd_bad HG.out) HG.out, rfl⟩
    · have d2 : decide (15 < i) = false := by simpa using c2
      rcases lv_cases n h0 h with ⟨rfl, hl, hi⟩ | ⟨h1, h2, hl, hi⟩ | ⟨h1, h2, hl, hi⟩ | ⟨h1, h2, hl, hi⟩ | ⟨h1, hl, hi⟩
      all_goals
        have HL := Lib.hid hl
        have HI := Lib.hid hi
        clear hl hi
        go_enter Try.func15, Try.ntmps15
        go_wp2_with (first | (go_at_call 17; refine (refLevel_any _ h0 h _).mono ?_; rintro e w1 ⟨rfl, rfl⟩; rw [HL.out]) | (go_at_call 53; refine (first_any _ (by omega) _).mono ?_; rintro e w' ⟨rfl, rfl⟩) | (go_at_call 19; refine (refIndex_any _ h0 h _).mono ?_; rintro e w2 ⟨rfl, rfl⟩; rw [HI.out]))
        go_ret2
        first
          | exact ⟨ret_kin (kd_bad (by simp [kdB, HL.out])) (by simp [kdB, HL.out]), rfl⟩
          | exact ⟨ret_kin (by rw [kd_good (by simp [kdB, HL.out]; omega), HL.out, HI.out]; simp [fsI]) (by simp [kdB, HL.out]; omega), rfl⟩
end Go.Proofs.Ytoigmepfniajoaa
