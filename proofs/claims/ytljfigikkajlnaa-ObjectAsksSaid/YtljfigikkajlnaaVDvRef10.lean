/- DERIVED. The document's Valid, Count, Covers of dots. -/
import Derived.Test.YtljfigikkajlnaaVm5
import Derived.Test.YtljfigikkajlnaaVm6
import Derived.Laws.Runes
namespace Go.Proofs.Ytljfigikkajlnaa
open Go.RowKit
set_option linter.unusedVariables false
set_option linter.unusedSimpArgs false
set_option maxRecDepth 100000 in
set_option maxHeartbeats 1600000 in
theorem refVec_any (A : Option Addr) (c : Nat) (l : List Dot) (w : World) (hr : GR.Rd dotK w A l) (hn : ∀ d ∈ l, 0 ≤ d.n) :
    Calls Try.prog 78 #[.slice A l.length c] w fun e w' => e = .returned (.bool (vecB l)) ∧ Drawn w w' := by
  have hmax : l.length * 16 ≤ 140737488355328 := hr.max
  have HR := Lib.hid hr
  have HN := Lib.hid hn
  clear hr hn
  by_cases h64 : l.length ≤ 64
  · have g0 : decide (64 < (l.length : Int)) = false := by simp; omega
    have g1 : decide (64 < l.length) = false := by simp; omega
    go_enter Try.func78, Try.ntmps78
    go_wp2
    go_loopw [3] (fun i w' => ∃ k : Nat, k ≤ l.length ∧ i = .int .i64 k ∧ Hid (chainB dOk ltA (l.take k) = true) ∧ Hid (Drawn w w')) (fun i _ => l.length - (intOf i).toNat)
    case atStart => exact ⟨0, Nat.zero_le _, rfl, Lib.hid (chain_zero _ _ _), Lib.hid (Drawn.refl _)⟩
    case round =>
      obtain ⟨k, hk, rfl, hok, hw⟩ := hrel
      have HR1 := Lib.hid (HR.out.below (hw.out.below w.heap.size))
      by_cases hlt : k < l.length
      · have i0 : (0 : Int) ≤ (k : Int) := by omega
        have i1 : (k : Int) < (l.length : Int) := by omega
        have n0 := HN.out l[k] (List.getElem_mem hlt)
        by_cases hD : dOk l[k] = true
        · have hD1 : 1 ≤ l[k].n ∧ l[k].n ≤ 1099511627776 := by simpa [dOk] using hD
          have t1 : decide (l[k].n < 1) = false := by simp; omega
          have t2 : decide (1099511627776 < l[k].n) = false := by simp; omega
          rcases k with _ | m
          · have HV := Lib.hid (show chainB dOk ltA (l.take 1) = true by rw [chain_one _ _ _ hlt]; exact hD)
            obtain ⟨ad, rfl, hb0, c0, c1⟩ := dot_head HR1.out hlt
            clear hD hD1
            go_wp2
            go_quiet (fail)
            go_wp2
            go_roundw
            case rel => exact ⟨1, by omega, rfl, HV, Lib.hid (hw.out.drewN _)⟩
            case measure => simp [intOf]; omega
          · replace i0 : (0 : Int) ≤ (m : Int) + 1 := by omega
            replace i1 : (m : Int) + 1 < (l.length : Int) := by omega
            have i2 : (0 : Int) ≤ (m : Int) := by omega
            have i3 : (m : Int) < (l.length : Int) := by omega
            obtain ⟨ad, e0, hb0, c0, c1⟩ := dot_at HR1.out (m + 1) hlt
            subst e0
            obtain ⟨ad', e0, hb1, d0, d1⟩ := dot_at HR1.out m (by omega)
            cases e0
            have hs := chain_succ dOk ltA l (m + 1) (by omega) hlt
            simp only [Nat.add_sub_cancel, hok.out, hD, Bool.true_and] at hs
            by_cases hL : l[m].a < l[m + 1].a
            · have HV := Lib.hid (show chainB dOk ltA (l.take (m + 1 + 1)) = true by rw [hs]; simp [ltA, hL])
              have t3 : decide (l[m + 1].a ≤ l[m].a) = false := by simp; omega
              clear hs hL hD hD1
              go_wp2
              go_quiet (fail)
              go_wp2
              go_roundw
              case rel => exact ⟨m + 2, by omega, by go_num, HV, Lib.hid (hw.out.drewN _)⟩
              case measure => simp [intOf]; omega
            · have HV := Lib.hid (vec_fail (l := l) (k := m + 1 + 1) (by rw [hs]; simp [ltA, hL]))
              have t3 : decide (l[m + 1].a ≤ l[m].a) = true := by simp; omega
              clear hs hL hD hD1
              go_wp2
              go_quiet (fail)
              go_wp2
              go_ret
              exact ⟨ret_bool HV.out.symm, hw.out.drewN _⟩
        · have HV := Lib.hid (vec_fail (l := l) (k := k + 1) (by
            rcases k with _ | m
            · rw [chain_one _ _ _ hlt]; simpa using hD
            · rw [chain_succ _ _ _ _ (by omega) hlt]; simp [hD]))
          have hD1 : l[k].n < 1 ∨ 1099511627776 < l[k].n := by
            simp only [dOk, Bool.and_eq_true, decide_eq_true_eq] at hD; omega
          obtain ⟨ad, rfl, hb0, c0, c1⟩ := dot_at HR1.out k hlt
          clear hD
          rcases hD1 with h | h
          · have t1 : decide (l[k].n < 1) = true := by simpa using h
            clear h
            go_wp2
            go_quiet (fail)
            go_wp2
            go_ret
            exact ⟨ret_bool HV.out.symm, hw.out.drewN _⟩
          · have t1 : decide (l[k].n < 1) = false := by simp; omega
            have t2 : decide (1099511627776 < l[k].n) = true := by simpa using h
            clear h
            go_wp2
            go_quiet (fail)
            go_wp2
            go_ret
            exact ⟨ret_bool HV.out.symm, hw.out.drewN _⟩
      · obtain rfl : k = l.length := by omega
        have HV := Lib.hid (show vecB l = true by rw [vec_full hok.out]; simpa using h64)
        go_wp2
        go_ret
        exact ⟨ret_bool HV.out.symm, hw.out⟩
  · have HV := Lib.hid (vec_long (l := l) (by omega))
    have g0 : decide (64 < (l.length : Int)) = true := by simp; omega
    have g1 : decide (64 < l.length) = true := by simp; omega
    go_enter Try.func78, Try.ntmps78
    go_wp2
    go_ret
    exact ⟨ret_bool HV.out.symm, Drawn.refl _⟩
theorem look_take {l : List Dot} {k : Nat} {a : Int} (h : ∀ d ∈ l.take k, d.a ≠ a) : look l a = look (l.drop k) a := by
  induction l generalizing k with
  | nil => simp
  | cons x l ih =>
    cases k with
    | zero => rfl
    | succ k =>
      rw [look, if_neg (h x (by simp)), List.drop_succ_cons]
      exact ih fun d hd => h d (by simp [hd])
theorem look_head {l : List Dot} {k : Nat} {a : Int} (h : ∀ d ∈ l.take k, d.a ≠ a) (hk : k < l.length) (he : l[k].a = a) : look l a = l[k].n := by
  rw [look_take h, List.drop_eq_getElem_cons hk, look, if_pos he]
set_option maxRecDepth 100000 in
set_option maxHeartbeats 1600000 in
theorem refCount_any (A : Option Addr) (c : Nat) (l : List Dot) (a : Int) (w : World) (hr : GR.Rd dotK w A l) (hn : ∀ d ∈ l, 0 ≤ d.n) :
    Calls Try.prog 79 #[.slice A l.length c, .int .u32 a] w fun e w' => e = .returned (.int .u64 (cnt l a)) ∧ Drawn w w' := by
  have hmax : l.length * 16 ≤ 140737488355328 := hr.max
  have HR := Lib.hid hr
  have HN := Lib.hid hn
  clear hr hn
  by_cases hv : vecB l = true
  · have HC := Lib.hid (cnt_vec hv a)
    go_enter Try.func79, Try.ntmps79
    go_wp2_with (go_at_call 78; refine (refVec_any _ _ _ _ HR.out HN.out).mono ?_; rintro e w1 ⟨rfl, hd⟩; rw [hv]; obtain ⟨nd, rfl⟩ := hd)
    go_loopw [5] (fun i w' => ∃ k : Nat, k ≤ l.length ∧ i = .int .i64 k ∧ Hid (∀ d ∈ l.take k, d.a ≠ a) ∧ w.drewN nd = w') (fun i _ => l.length - (intOf i).toNat)
    case atStart => exact ⟨0, Nat.zero_le _, rfl, Lib.hid (by simp), rfl⟩
    case round =>
      obtain ⟨k, hk, rfl, hno, rfl⟩ := hrel
      by_cases hlt : k < l.length
      · have i0 : (0 : Int) ≤ (k : Int) := by omega
        have i1 : (k : Int) < (l.length : Int) := by omega
        obtain ⟨ad, rfl, hb0, c0, c1⟩ := dot_at HR.out k hlt
        by_cases he : l[k].a = a
        · have HV := Lib.hid (look_head hno.out hlt he)
          have q0 : (l[k].a == a) = true := by simpa using he
          clear he
          go_wp2
          go_ret
          exact ⟨ret_int (by rw [HC.out, HV.out]), ⟨_, rfl⟩⟩
        · have HV := Lib.hid (show ∀ d ∈ l.take (k + 1), d.a ≠ a by
            rw [List.take_succ_eq_append_getElem hlt]
            intro d hd
            rcases List.mem_append.1 hd with hd | hd
            · exact hno.out d hd
            · simp only [List.mem_singleton] at hd; subst hd; exact he)
          have q0 : (l[k].a == a) = false := by simpa using he
          clear he
          go_wp2
          go_roundw
          case rel => exact ⟨k + 1, by omega, by go_num, HV, by trivial⟩
          case measure => simp [intOf]; omega
      · obtain rfl : k = l.length := by omega
        have HV := Lib.hid (show look l a = 0 from look_none (by have := hno.out; rwa [List.take_length] at this))
        go_wp2
        go_ret
        exact ⟨ret_int (by rw [HC.out, HV.out]), ⟨_, rfl⟩⟩
  · have hv' : vecB l = false := by simpa using hv
    have HC := Lib.hid (cnt_no hv' a)
    clear hv
    go_enter Try.func79, Try.ntmps79
    go_wp2_with (go_at_call 78; refine (refVec_any _ _ _ _ HR.out HN.out).mono ?_; rintro e w1 ⟨rfl, hd⟩; rw [hv']; obtain ⟨nd, rfl⟩ := hd)
    go_ret
    exact ⟨ret_int HC.out.symm, ⟨_, rfl⟩⟩
set_option maxRecDepth 100000 in
set_option maxHeartbeats 1600000 in
theorem refCovers_any (A : Option Addr) (c : Nat) (l : List Dot) (d : Dot) (w : World) (hr : GR.Rd dotK w A l) (hn : ∀ d ∈ l, 0 ≤ d.n) :
    Calls Try.prog 80 #[.slice A l.length c, .agg #[.int .u32 d.a, .int .u64 d.n]] w fun e w' => e = .returned (.bool (cov l d)) ∧ Below w.heap.size w w' := by
  have HR := Lib.hid hr
  have HN := Lib.hid hn
  clear hr hn
  have HR1 := Lib.hid (HR.out.alloc (.cells #[.int .u32 d.a, .int .u64 d.n] 41))
  by_cases h : 1 ≤ d.n
  · have t0 : decide (1 ≤ d.n) = true := by simpa using h
    have HC := Lib.hid (show cov l d = decide (d.n ≤ cnt l d.a) by simp [cov, h])
    clear h
    go_enter Try.func80, Try.ntmps80
    go_wp2
    go_quiet ((go_at_call 79; exact quiet_drawn (refCount_any _ _ _ _ _ (HR1.out.drewN _) HN.out)))
    go_wp2
    go_ret
    exact ⟨ret_bool HC.out.symm, (by repeat (first | exact Below.refl _ _ | refine bl_drewN ?_ _ | refine bl_drew ?_ | refine bl_alloc ?_ _))⟩
  · have t0 : decide (1 ≤ d.n) = false := by simpa using h
    have HC := Lib.hid (show cov l d = false by simp [cov, h])
    clear h
    go_enter Try.func80, Try.ntmps80
    go_wp2
    go_quiet (fail)
    go_wp2
    go_ret
    exact ⟨ret_bool HC.out.symm, (by repeat (first | exact Below.refl _ _ | refine bl_drewN ?_ _ | refine bl_drew ?_ | refine bl_alloc ?_ _))⟩
theorem refVec_bl (A : Option Addr) (c : Nat) (l : List Dot) (w : World) (hr : GR.Rd dotK w A l) (hn : ∀ d ∈ l, 0 ≤ d.n) :
    Calls Try.prog 78 #[.slice A l.length c] w fun e w' => e = .returned (.bool (vecB l)) ∧ Below w.heap.size w w' := (refVec_any A c l w hr hn).mono fun _ _ ⟨h, hd⟩ => ⟨h, hd.below _⟩
end Go.Proofs.Ytljfigikkajlnaa
