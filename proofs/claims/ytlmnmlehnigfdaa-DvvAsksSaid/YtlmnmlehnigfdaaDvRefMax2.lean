/- DERIVED. The document's Max and Below of any dots. -/
import Derived.Test.YtlmnmlehnigfdaaDvRefMax
namespace Go.Proofs.Ytlmnmlehnigfdaa
open Go.RowKit
set_option linter.unusedVariables false
set_option linter.unusedSimpArgs false

set_option maxRecDepth 100000 in
set_option maxHeartbeats 1600000 in
theorem refMax_any (A B : Option Addr) (c d : Nat) (a b : List Dot) (w : World) (ha : GR.Rd dotK w A a) (hb : GR.Rd dotK w B b) (na : ∀ d ∈ a, 0 ≤ d.n) (nb : ∀ d ∈ b, 0 ≤ d.n) :
    Calls Try.prog 39 #[.slice A a.length c, .slice B b.length d] w fun e w' => ∃ v, e = .returned (.tuple #[v, .int .i64 (maxE a b)]) ∧ GR.Own dotK w' w.heap.size v (maxL a b) ∧ Below w.heap.size w w' := by
  by_cases h1 : vecB a = true
  · by_cases h2 : vecB b = true
    · exact refMax_ok A B c d a b w ha hb h1 h2
    · have h2' : vecB b = false := by simpa using h2
      have HV := Lib.hid (show maxE a b = 100 ∧ maxL a b = [] by simp [maxL, maxE, h2'])
      have HA := Lib.hid ha
      have HB := Lib.hid hb
      have NA := Lib.hid na
      have NB := Lib.hid nb
      clear ha hb na nb
      clear h2
      go_enter Try.func39, Try.ntmps39
      go_wp2_with fail
      refine (refVec_any _ _ _ _ HA.out NA.out).mono ?_
      rintro e w1 ⟨rfl, ⟨n1, rfl⟩⟩
      rw [h1]
      go_wp2_with fail
      refine (refVec_any _ _ _ _ (HB.out.drewN _) NB.out).mono ?_
      rintro e w2 ⟨rfl, ⟨n2, rfl⟩⟩
      rw [h2']
      go_wp2
      go_ret2
      exact ⟨_, ret_vi HV.out.1.symm, by rw [HV.out.2]; exact GR.Own.nil _ _ _, (by repeat (first | exact Below.refl _ _ | refine bl_drewN ?_ _ | refine bl_drew ?_ | refine bl_alloc ?_ _))⟩
  · have h1' : vecB a = false := by simpa using h1
    have HV := Lib.hid (show maxE a b = 100 ∧ maxL a b = [] by simp [maxL, maxE, h1'])
    have HA := Lib.hid ha
    have HB := Lib.hid hb
    have NA := Lib.hid na
    have NB := Lib.hid nb
    clear ha hb na nb
    clear h1
    go_enter Try.func39, Try.ntmps39
    go_wp2_with fail
    refine (refVec_any _ _ _ _ HA.out NA.out).mono ?_
    rintro e w1 ⟨rfl, ⟨n1, rfl⟩⟩
    rw [h1']
    go_wp2
    go_ret2
    exact ⟨_, ret_vi HV.out.1.symm, by rw [HV.out.2]; exact GR.Own.nil _ _ _, (by repeat (first | exact Below.refl _ _ | refine bl_drewN ?_ _ | refine bl_drew ?_ | refine bl_alloc ?_ _))⟩

theorem vbel_no {a b : List Dot} {k : Nat} (hb : vecB b = true) (hk : k < a.length) (h : cnt b a[k].a < a[k].n) : vbel a b = false := by
  rw [cnt_vec hb] at h
  rw [Bool.eq_false_iff]
  intro hv
  unfold vbel at hv
  simp only [Bool.and_eq_true, List.all_eq_true, decide_eq_true_eq] at hv
  have := hv.2 a[k] (List.getElem_mem hk)
  omega
theorem vbel_yes {a b : List Dot} (ha : vecB a = true) (hb : vecB b = true) (h : ∀ d ∈ a.take a.length, d.n ≤ cnt b d.a) : vbel a b = true := by
  rw [List.take_length] at h
  unfold vbel
  simp only [Bool.and_eq_true, List.all_eq_true, decide_eq_true_eq]
  exact ⟨⟨ha, hb⟩, fun d hd => by have := h d hd; rwa [cnt_vec hb] at this⟩
set_option maxRecDepth 100000 in
set_option maxHeartbeats 3200000 in
theorem refBelow_any (A B : Option Addr) (c d : Nat) (a b : List Dot) (w : World) (ha : GR.Rd dotK w A a) (hb : GR.Rd dotK w B b) (na : ∀ d ∈ a, 0 ≤ d.n) (nb : ∀ d ∈ b, 0 ≤ d.n) :
    Calls Try.prog 76 #[.slice A a.length c, .slice B b.length d] w fun e w' => e = .returned (.bool (vbel a b)) ∧ Drawn w w' := by
  have hma : a.length * 16 ≤ 140737488355328 := ha.max
  have HA := Lib.hid ha
  have HB := Lib.hid hb
  have NA := Lib.hid na
  have NB := Lib.hid nb
  clear ha hb na nb
  by_cases h1 : vecB a = true
  · by_cases h2 : vecB b = true
    · have H1 := Lib.hid h1
      have H2 := Lib.hid h2
      go_enter Try.func76, Try.ntmps76
      go_wp2_with fail
      refine (refVec_any _ _ _ _ HA.out NA.out).mono ?_
      rintro e w1 ⟨rfl, ⟨n1, rfl⟩⟩
      rw [h1]
      go_wp2_with fail
      refine (refVec_any _ _ _ _ (HB.out.drewN _) NB.out).mono ?_
      rintro e w2 ⟨rfl, ⟨n2, rfl⟩⟩
      rw [h2]
      clear h1 h2
      go_wp2
      go_loopw [5] (fun i w' => ∃ k : Nat, k ≤ a.length ∧ i = .int .i64 k ∧ Hid (∀ d ∈ a.take k, d.n ≤ cnt b d.a) ∧ Hid (Drawn w w')) (fun i _ => a.length - (intOf i).toNat)
      case atStart => exact ⟨0, Nat.zero_le _, rfl, Lib.hid (by simp), Lib.hid ((Drawn.refl w).drewN _)⟩
      case round =>
        obtain ⟨k, hk, rfl, hall, hw⟩ := hrel
        have HA1 := Lib.hid (HA.out.below (hw.out.below w.heap.size))
        have HB1 := Lib.hid (HB.out.below (hw.out.below w.heap.size))
        by_cases hlt : k < a.length
        · have i0 : (0 : Int) ≤ (k : Int) := by omega
          have i1 : (k : Int) < (a.length : Int) := by omega
          obtain ⟨ad, rfl, hb0, c0, c1⟩ := dot_at HA1.out k hlt
          by_cases hc : cnt b a[k].a < a[k].n
          · have HV := Lib.hid (vbel_no H2.out hlt hc)
            have t0 : decide (cnt b a[k].a < a[k].n) = true := by simpa using hc
            clear hc
            go_wp2
            go_quiet ((go_at_call 38; exact quiet_drawn (refCount_any _ _ b _ _ (HB1.out.drewN _) NB.out)))
            go_wp2
            go_ret
            exact ⟨ret_bool HV.out.symm, hw.out.drewN _⟩
          · have HV := Lib.hid (show ∀ d ∈ a.take (k + 1), d.n ≤ cnt b d.a by
              rw [List.take_succ_eq_append_getElem hlt]
              intro d hd
              rcases List.mem_append.1 hd with hd | hd
              · exact hall.out d hd
              · simp only [List.mem_singleton] at hd; subst hd; omega)
            have t0 : decide (cnt b a[k].a < a[k].n) = false := by simpa using hc
            clear hc
            go_wp2
            go_quiet ((go_at_call 38; exact quiet_drawn (refCount_any _ _ b _ _ (HB1.out.drewN _) NB.out)))
            go_wp2
            go_roundw
            case rel => exact ⟨k + 1, by omega, by go_num, HV, Lib.hid (hw.out.drewN _)⟩
            case measure => simp [intOf]; omega
        · obtain rfl : k = a.length := by omega
          have HV := Lib.hid (vbel_yes H1.out H2.out hall.out)
          go_wp2
          go_ret
          exact ⟨ret_bool HV.out.symm, hw.out⟩
    · have h2' : vecB b = false := by simpa using h2
      have HV := Lib.hid (show vbel a b = false by simp [vbel, h2'])
      clear h2
      go_enter Try.func76, Try.ntmps76
      go_wp2_with fail
      refine (refVec_any _ _ _ _ HA.out NA.out).mono ?_
      rintro e w1 ⟨rfl, ⟨n1, rfl⟩⟩
      rw [h1]
      go_wp2_with fail
      refine (refVec_any _ _ _ _ (HB.out.drewN _) NB.out).mono ?_
      rintro e w2 ⟨rfl, ⟨n2, rfl⟩⟩
      rw [h2']
      go_wp2
      go_ret
      exact ⟨ret_bool HV.out.symm, ⟨_, rfl⟩⟩
  · have h1' : vecB a = false := by simpa using h1
    have HV := Lib.hid (show vbel a b = false by simp [vbel, h1'])
    clear h1
    go_enter Try.func76, Try.ntmps76
    go_wp2_with fail
    refine (refVec_any _ _ _ _ HA.out NA.out).mono ?_
    rintro e w1 ⟨rfl, ⟨n1, rfl⟩⟩
    rw [h1']
    go_wp2
    go_ret
    exact ⟨ret_bool HV.out.symm, ⟨_, rfl⟩⟩
end Go.Proofs.Ytlmnmlehnigfdaa
