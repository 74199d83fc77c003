/- DERIVED. Diff: the program's text. -/
import Derived.Test.YtejodabmddcanaaSegMerge
import Derived.Test.YtejodabmddcanaaSegPutR
namespace Go.Proofs.Ytejodabmddcanaa
open Go.RowKit

theorem sums_there {l : List Ent} (h : listB l = true) : ∀ x ∈ l, x.sum ≠ em := by
  intro x hx
  cases l with
  | nil => cases hx
  | cons y ys =>
    simp only [listB, validB, Bool.and_eq_true, decide_eq_true_eq, List.all_eq_true, List.mem_range] at h
    obtain ⟨h1, h2, h3⟩ := h
    obtain ⟨i, hi, rfl⟩ := List.getElem_of_mem hx
    have := h1 i hi
    intro he
    simp only [okAt, List.getElem?_eq_getElem hi, Bool.and_eq_true, beq_iff_eq] at this
    have h5 := this.2.1
    rw [he] at h5
    have h6 : (em.size : Int) = 0 := rfl
    omega

set_option maxRecDepth 100000 in
set_option maxHeartbeats 3200000 in
theorem segDiff_any (A B : Option Addr) (c d : Nat) (a b : List Ent) (w : World) (ha : Rd w A a) (hb : Rd w B b) (la : a.length ≤ 1048576) (lb : b.length ≤ 1048576) :
    Calls Try.prog 29 #[.slice A a.length c, .slice B b.length d] w fun e w' => ∃ v, e = .returned (.tuple #[v, .int .i64 (difE a b)]) ∧ GR.Own difK w' w.heap.size v (difA a b) ∧ Below w.heap.size w w' := by
  have HA := Lib.hid ha
  have HB := Lib.hid hb
  clear ha hb
  by_cases h1 : listB a = true
  · by_cases h2 : listB b = true
    · have HE := Lib.hid (show difA a b = dif a b ∧ difE a b = 0 by simp [difA, difE, h1, h2])
      go_enter Try.func29, Try.ntmps29
      go_wp2_with fail
      refine (segList_any _ _ _ _ HA.out).mono ?_
      rintro e w1 ⟨rfl, hd1⟩
      rw [h1]
      have D1 := Lib.hid hd1
      clear hd1
      go_wp2_with fail
      refine (segList_any _ _ _ _ (HB.out.below D1.out)).mono ?_
      rintro e w2 ⟨rfl, hd2⟩
      rw [h2]
      have D2 := Lib.hid (bl_then D1.out hd2)
      clear hd2 D1
      go_wp2_with fail
      refine (merge_any w A B c d _ a b _ HA.out HB.out ?_ ?_ ?_ la lb (sums_there h1) (sums_there h2)).mono ?_
      rotate_right
      · rintro e w3 ⟨rfl, ⟨v, hbk, ho⟩, hbl⟩
        have e0 := hbk.cell 0
        have HO := Lib.hid ho
        have HBL := Lib.hid hbl
        clear hbk ho hbl
        go_wp2
        go_ret2
        exact ⟨_, ret_vi HE.out.2, by rw [HE.out.1]; exact HO.out, HBL.out⟩
      · first | exact bl_alloc D2.out _ | exact bl_alloc (bl_drew D2.out) _ | exact bl_drew (bl_alloc D2.out _) | trace_state
      · first | exact D2.out.size | trace_state
      · first | exact GR.Blk.new _ _ _ | trace_state
    · have h2' : listB b = false := by simpa using h2
      have HE := Lib.hid (show difA a b = [] ∧ difE a b = 140 by simp [difA, difE, h2'])
      clear h2
      go_enter Try.func29, Try.ntmps29
      go_wp2_with fail
      refine (segList_any _ _ _ _ HA.out).mono ?_
      rintro e w1 ⟨rfl, hd1⟩
      rw [h1]
      have D1 := Lib.hid hd1
      clear hd1
      go_wp2_with fail
      refine (segList_any _ _ _ _ (HB.out.below D1.out)).mono ?_
      rintro e w2 ⟨rfl, hd2⟩
      rw [h2']
      have BL2 := Lib.hid (bl_then D1.out hd2)
      clear hd2 D1
      go_wp2
      go_ret2
      exact ⟨_, ret_vi HE.out.2, by rw [HE.out.1]; exact GR.Own.nil _ _ _, BL2.out⟩
  · have h1' : listB a = false := by simpa using h1
    have HE := Lib.hid (show difA a b = [] ∧ difE a b = 140 by simp [difA, difE, h1'])
    clear h1
    go_enter Try.func29, Try.ntmps29
    go_wp2_with fail
    refine (segList_any _ _ _ _ HA.out).mono ?_
    rintro e w1 ⟨rfl, hd1⟩
    rw [h1']
    have BL2 := Lib.hid hd1
    clear hd1
    go_wp2
    go_ret2
    exact ⟨_, ret_vi HE.out.2, by rw [HE.out.1]; exact GR.Own.nil _ _ _, BL2.out⟩
end Go.Proofs.Ytejodabmddcanaa
