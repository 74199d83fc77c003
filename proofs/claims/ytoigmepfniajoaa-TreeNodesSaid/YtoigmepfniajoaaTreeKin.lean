/- DERIVED. A node's number, its parent, its children: both texts. -/
import Derived.Test.YtoigmepfniajoaaTreeLev
import Derived.Deep.RegionHeld3
namespace Go.Proofs.Ytoigmepfniajoaa
open Go.RowKit
attribute [local go_sem] wd0 wd1 wd2 wd3 fs0 fs1 fs2 fs3 fs4

theorem ret_node {a b c d : Int} (h : b = a) (k : d = c) : Ending.returned (.tuple #[.int .u16 a, .int .i64 c]) = .returned (.tuple #[.int .u16 b, .int .i64 d]) := by rw [h, k]
theorem ret_kin {a b : Int} {c d : Bool} (h : b = a) (k : d = c) : Ending.returned (.tuple #[.int .u16 a, .bool c]) = .returned (.tuple #[.int .u16 b, .bool d]) := by rw [h, k]

def badN (l i : Int) : Bool := decide (l < 0) || (decide (3 < l) || (decide (i < 0) || decide (wdI l ≤ i)))
def nodeV (l i : Int) : Int := if badN l i then 0 else fsI l + i
def nodeE (l i : Int) : Int := if badN l i then 1 else 0
theorem node_bad {l i : Int} (h : badN l i = true) : nodeV l i = 0 ∧ nodeE l i = 1 := by simp [nodeV, nodeE, h]
theorem node_good {l i : Int} (h : badN l i = false) : nodeV l i = fsI l + i ∧ nodeE l i = 0 := by simp [nodeV, nodeE, h]

set_option maxHeartbeats 3200000 in
theorem node_any (l i : Int) (w : World) :
    Calls Try.prog 10 #[.int .i64 l, .int .i64 i] w fun e w' => e = .returned (.tuple #[.int .u16 (nodeV l i), .int .i64 (nodeE l i)]) ∧ Below w.heap.size w w' := by
  by_cases c1 : l < 0
  · have HV := Lib.hid (node_bad (l := l) (i := i) (by simp [badN, c1]))
    have d1 : decide (l < 0) = true := by simpa using c1
    go_enter Try.func10, Try.ntmps10
    go_wp2
    go_ret2
    exact ⟨ret_node HV.out.1 HV.out.2, Below.refl _ _⟩
  · have d1 : decide (l < 0) = false := by simpa using c1
    by_cases c2 : 3 < l
    · have HV := Lib.hid (node_bad (l := l) (i := i) (by simp [badN, c2]))
      have d2 : decide (3 < l) = true := by simpa using c2
      go_enter Try.func10, Try.ntmps10
      go_wp2
      go_ret2
      exact ⟨ret_node HV.out.1 HV.out.2, Below.refl _ _⟩
    · have d2 : decide (3 < l) = false := by simpa using c2
      by_cases c3 : i < 0
      · have HV := Lib.hid (node_bad (l := l) (i := i) (by simp [badN, c3]))
        have d3 : decide (i < 0) = true := by simpa using c3
        go_enter Try.func10, Try.ntmps10
        go_wp2
        go_ret2
        exact ⟨ret_node HV.out.1 HV.out.2, Below.refl _ _⟩
      · have d3 : decide (i < 0) = false := by simpa using c3
        have hl : l = 0 ∨ l = 1 ∨ l = 2 ∨ l = 3 := by omega
        by_cases c4 : wdI l ≤ i
        · have HV := Lib.hid (node_bad (l := l) (i := i) (by simp [badN, c4]))
          clear d1 d2 c1 c2
          rcases hl with rfl | rfl | rfl | rfl
          all_goals
            simp only [wd0, wd1, wd2, wd3] at c4
            go_enter Try.func10, Try.ntmps10
            go_wp2_with (go_at_call 51; refine (bases_any _).mono ?_; rintro e w1 ⟨rfl, hb1⟩; have HB := Lib.hid hb1; clear hb1)
            go_quiet (fail)
            go_wp2
            go_ret2
            exact ⟨ret_node HV.out.1 HV.out.2, bl_drewN (bl_alloc HB.out _) _⟩
        · have c4' : i < wdI l := by omega
          have HV := Lib.hid (node_good (l := l) (i := i) (by simp [badN, c1, c2, c3, c4]))
          clear d1 d2 c1 c2 c4
          rcases hl with rfl | rfl | rfl | rfl
          all_goals
            simp only [wd0, wd1, wd2, wd3] at c4'
            go_enter Try.func10, Try.ntmps10
            go_wp2_with (go_at_call 51; refine (bases_any _).mono ?_; rintro e w1 ⟨rfl, hb1⟩; have HB := Lib.hid hb1; clear hb1)
            go_quiet (fail)
            go_wp2
            go_ret2
            exact ⟨ret_node (by rw [HV.out.1]; simp [fsI]) HV.out.2, bl_drewN (bl_alloc HB.out _) _⟩

set_option maxHeartbeats 1600000 in
theorem refNode_any (l i : Int) (w : World) :
    Calls Try.prog 11 #[.int .i64 l, .int .i64 i] w fun e w' => e = .returned (.tuple #[.int .u16 (nodeV l i), .int .i64 (nodeE l i)]) ∧ w = w' := by
  by_cases c1 : l < 0
  · have HV := Lib.hid (node_bad (l := l) (i := i) (by simp [badN, c1]))
    have d1 : decide (l < 0) = true := by simpa using c1
    go_enter Try.func11, Try.ntmps11
    go_wp2
    go_ret2
    exact ⟨ret_node HV.out.1 HV.out.2, rfl⟩
  · have d1 : decide (l < 0) = false := by simpa using c1
    by_cases c2 : 3 < l
    · have HV := Lib.hid (node_bad (l := l) (i := i) (by simp [badN, c2]))
      have d2 : decide (3 < l) = true := by simpa using c2
      go_enter Try.func11, Try.ntmps11
      go_wp2
      go_ret2
      exact ⟨ret_node HV.out.1 HV.out.2, rfl⟩
    · have d2 : decide (3 < l) = false := by simpa using c2
      by_cases c3 : i < 0
      · have HV := Lib.hid (node_bad (l := l) (i := i) (by simp [badN, c3]))
        have d3 : decide (i < 0) = true := by simpa using c3
        go_enter Try.func11, Try.ntmps11
        go_wp2
        go_ret2
        exact ⟨ret_node HV.out.1 HV.out.2, rfl⟩
      · have d3 : decide (i < 0) = false := by simpa using c3
        have hl : l = 0 ∨ l = 1 ∨ l = 2 ∨ l = 3 := by omega
        by_cases c4 : wdI l ≤ i
        · have HV := Lib.hid (node_bad (l := l) (i := i) (by simp [badN, c4]))
          clear d1 d2 c1 c2
          rcases hl with rfl | rfl | rfl | rfl
          all_goals
            simp only [wd0, wd1, wd2, wd3] at c4
            go_enter Try.func11, Try.ntmps11
            go_wp2_with (go_at_call 52; refine (wide_any _ (by omega) _).mono ?_; rintro e w' ⟨rfl, rfl⟩)
            go_ret2
            exact ⟨ret_node HV.out.1 HV.out.2, rfl⟩
        · have c4' : i < wdI l := by omega
          have HV := Lib.hid (node_good (l := l) (i := i) (by simp [badN, c1, c2, c3, c4]))
          clear d1 d2 c1 c2 c4
          rcases hl with rfl | rfl | rfl | rfl
          all_goals
            simp only [wd0, wd1, wd2, wd3] at c4'
            go_enter Try.func11, Try.ntmps11
            go_wp2_with (first | (go_at_call 52; refine (wide_any _ (by omega) _).mono ?_; rintro e w' ⟨rfl, rfl⟩) | (go_at_call 53; refine (first_any _ (by omega) _).mono ?_; rintro e w' ⟨rfl, rfl⟩))
            go_ret2
            exact ⟨ret_node (by rw [HV.out.1]; simp [fsI]) HV.out.2, rfl⟩

set_option maxHeartbeats 1600000 in
theorem index_any (n : Int) (h0 : 0 ≤ n) (h : n ≤ 65535) (w : World) :
    Calls Try.prog 18 #[.int .u16 n] w fun e w' => e = .returned (.int .i64 (ixI n)) ∧ Below w.heap.size w w' := by
  have i0 := base_at0 .i8
  have i1 := base_at1 .i8
  have i2 := base_at2 .i8
  have i3 := base_at3 .i8
  rcases lv_cases n h0 h with ⟨rfl, hl, hi⟩ | ⟨h1, h2, hl, hi⟩ | ⟨h1, h2, hl, hi⟩ | ⟨h1, h2, hl, hi⟩ | ⟨h1, hl, hi⟩
  all_goals
    have HI := Lib.hid hi
    have HL := Lib.hid hl
    clear hi hl
    go_enter Try.func18, Try.ntmps18
    go_wp2_with (first | (go_at_call 16; refine (level_any _ h0 h _).mono ?_; rintro e w1 ⟨rfl, hb1⟩; rw [HL.out]; have HB := Lib.hid hb1; clear hb1) | (go_at_call 51; refine (bases_any _).mono ?_; rintro e w2 ⟨rfl, hb2⟩; have HB2 := Lib.hid (Below.trans HB.out (hb2.mono HB.out.size)); clear hb2))
    go_ret
    first | exact ⟨ret_intL (by have := HI.out; omega), HB2.out⟩ | exact ⟨ret_intL HI.out, HB.out⟩

set_option maxHeartbeats 1600000 in
theorem refIndex_any (n : Int) (h0 : 0 ≤ n) (h : n ≤ 65535) (w : World) :
    Calls Try.prog 19 #[.int .u16 n] w fun e w' => e = .returned (.int .i64 (ixI n)) ∧ w = w' := by
  rcases lv_cases n h0 h with ⟨rfl, hl, hi⟩ | ⟨h1, h2, hl, hi⟩ | ⟨h1, h2, hl, hi⟩ | ⟨h1, h2, hl, hi⟩ | ⟨h1, hl, hi⟩
  all_goals
    have HI := Lib.hid hi
    have HL := Lib.hid hl
    clear hi hl
    go_enter Try.func19, Try.ntmps19
    go_wp2_with (first | (go_at_call 17; refine (refLevel_any _ h0 h _).mono ?_; rintro e w1 ⟨rfl, rfl⟩; rw [HL.out]) | (go_at_call 53; refine (first_any _ (by omega) _).mono ?_; rintro e w' ⟨rfl, rfl⟩))
    go_ret
    exact ⟨ret_intL (by have := HI.out; omega), rfl⟩

def paV (n : Int) : Int := if lvI n < 1 then 0 else fsI (lvI n - 1) + ixI n / 16
def paB (n : Int) : Bool := decide (1 ≤ lvI n)
def kdB (n i : Int) : Bool := (decide (0 ≤ lvI n) && decide (lvI n < 3)) && (decide (0 ≤ i) && decide (i < 16))
def kdV (n i : Int) : Int := if kdB n i then fsI (lvI n + 1) + 16 * ixI n + i else 0

theorem kd_bad {n i : Int} (h : kdB n i = false) : kdV n i = 0 := by simp [kdV, h]
theorem kd_good {n i : Int} (h : kdB n i = true) : kdV n i = fsI (lvI n + 1) + 16 * ixI n + i := by simp [kdV, h]

set_option maxHeartbeats 1600000 in
theorem parent_any (n : Int) (h0 : 0 ≤ n) (h : n ≤ 65535) (w : World) :
    Calls Try.prog 12 #[.int .u16 n] w fun e w' => e = .returned (.tuple #[.int .u16 (paV n), .bool (paB n)]) ∧ Below w.heap.size w w' := by
  have i0 := base_at0 .i8
  have i1 := base_at1 .i8
  have i2 := base_at2 .i8
  have HB := Lib.hid (Below.refl w.heap.size w)
  have e0 : IntKind.i8.wrap 0 = 0 := by decide
  have e1 : IntKind.i8.wrap 1 = 1 := by decide
  have e2 : IntKind.i8.wrap 2 = 2 := by decide
  rcases lv_cases n h0 h with ⟨rfl, hl, hi⟩ | ⟨h1, h2, hl, hi⟩ | ⟨h1, h2, hl, hi⟩ | ⟨h1, h2, hl, hi⟩ | ⟨h1, hl, hi⟩
  all_goals
    have HI := Lib.hid hi
    have HL := Lib.hid hl
    clear hi hl
    go_enter Try.func12, Try.ntmps12
    go_wp2_with (go_at_call 16; refine (level_any _ h0 h _).mono ?_; rintro e w1 ⟨rfl, hb1⟩; rw [HL.out]; have HN := Lib.hid (bl_then HB.out hb1); clear hb1 HB; have HB := HN; clear HN)
  · go_ret2
    exact ⟨ret_kin (by simp [paV, HL.out]) (by simp [paB, HL.out]), HB.out⟩
  · go_region_held3 (fun _ => True) (trivial) (first | (go_at_call 51; refine (bases_any _).mono ?_; rintro e w2 ⟨rfl, hb1⟩; have HN := Lib.hid (bl_then (w := w) (by repeat (first | exact HB.out | refine bl_drewN ?_ _ | refine bl_drew ?_ | refine bl_alloc ?_ _)) hb1); clear hb1 HB; have HB := HN; clear HN) | (go_at_call 18; refine (index_any _ h0 h _).mono ?_; rintro e w2 ⟨rfl, hb1⟩; rw [HI.out]; have HN := Lib.hid (bl_then (w := w) (by repeat (first | exact HB.out | refine bl_drewN ?_ _ | refine bl_drew ?_ | refine bl_alloc ?_ _)) hb1); clear hb1 HB; have HB := HN; clear HN))
    all_goals
      go_wp2
      go_ret2
      exact ⟨ret_kin (by simp only [paV, HL.out, HI.out]; first | (rw [par_eq0 _ (by omega) (by omega)]; simp [fsI]) | (rw [par_eq _ _ (by omega) (by omega) (by omega) (by omega)]; simp [fsI])) (by simp [paB, HL.out]), HB.out⟩
  · go_region_held3 (fun _ => True) (trivial) (first | (go_at_call 51; refine (bases_any _).mono ?_; rintro e w2 ⟨rfl, hb1⟩; have HN := Lib.hid (bl_then (w := w) (by repeat (first | exact HB.out | refine bl_drewN ?_ _ | refine bl_drew ?_ | refine bl_alloc ?_ _)) hb1); clear hb1 HB; have HB := HN; clear HN) | (go_at_call 18; refine (index_any _ h0 h _).mono ?_; rintro e w2 ⟨rfl, hb1⟩; rw [HI.out]; have HN := Lib.hid (bl_then (w := w) (by repeat (first | exact HB.out | refine bl_drewN ?_ _ | refine bl_drew ?_ | refine bl_alloc ?_ _)) hb1); clear hb1 HB; have HB := HN; clear HN))
    all_goals
      go_wp2
      go_ret2
      exact ⟨ret_kin (by simp only [paV, HL.out, HI.out]; first | (rw [par_eq0 _ (by omega) (by omega)]; simp [fsI]) | (rw [par_eq _ _ (by omega) (by omega) (by omega) (by omega)]; simp [fsI])) (by simp [paB, HL.out]), HB.out⟩
  · go_region_held3 (fun _ => True) (trivial) (first | (go_at_call 51; refine (bases_any _).mono ?_; rintro e w2 ⟨rfl, hb1⟩; have HN := Lib.hid (bl_then (w := w) (by repeat (first | exact HB.out | refine bl_drewN ?_ _ | refine bl_drew ?_ | refine bl_alloc ?_ _)) hb1); clear hb1 HB; have HB := HN; clear HN) | (go_at_call 18; refine (index_any _ h0 h _).mono ?_; rintro e w2 ⟨rfl, hb1⟩; rw [HI.out]; have HN := Lib.hid (bl_then (w := w) (by repeat (first | exact HB.out | refine bl_drewN ?_ _ | refine bl_drew ?_ | refine bl_alloc ?_ _)) hb1); clear hb1 HB; have HB := HN; clear HN))
    all_goals
      go_wp2
      go_ret2
      exact ⟨ret_kin (by simp only [paV, HL.out, HI.out]; first | (rw [par_eq0 _ (by omega) (by omega)]; simp [fsI]) | (rw [par_eq _ _ (by omega) (by omega) (by omega) (by omega)]; simp [fsI])) (by simp [paB, HL.out]), HB.out⟩
  · go_ret2
    exact ⟨ret_kin (by simp [paV, HL.out]) (by simp [paB, HL.out]), HB.out⟩

set_option maxHeartbeats 1600000 in
theorem refParent_any (n : Int) (h0 : 0 ≤ n) (h : n ≤ 65535) (w : World) :
    Calls Try.prog 13 #[.int .u16 n] w fun e w' => e = .returned (.tuple #[.int .u16 (paV n), .bool (paB n)]) ∧ w = w' := by
  rcases lv_cases n h0 h with ⟨rfl, hl, hi⟩ | ⟨h1, h2, hl, hi⟩ | ⟨h1, h2, hl, hi⟩ | ⟨h1, h2, hl, hi⟩ | ⟨h1, hl, hi⟩
  all_goals
    have HI := Lib.hid hi
    have HL := Lib.hid hl
    clear hi hl
    go_enter Try.func13, Try.ntmps13
    go_wp2_with (first | (go_at_call 17; refine (refLevel_any _ h0 h _).mono ?_; rintro e w1 ⟨rfl, rfl⟩; rw [HL.out]) | (go_at_call 53; refine (first_any _ (by omega) _).mono ?_; rintro e w' ⟨rfl, rfl⟩) | (go_at_call 19; refine (refIndex_any _ h0 h _).mono ?_; rintro e w2 ⟨rfl, rfl⟩; rw [HI.out]))
    go_ret2
    exact ⟨ret_kin (by simp [paV, HL.out, HI.out, fsI]) (by simp [paB, HL.out]), rfl⟩
end Go.Proofs.Ytoigmepfniajoaa
