/- DERIVED. Which content of a dot is the later one: both texts. -/
import Derived.Test.YtlmnmlehnigfdaaDvJoinP
import Derived.Test.YtlmnmlehnigfdaaSegBase
import Derived.Test.YtlmnmlehnigfdaaWEqStruct
import Derived.Laws.Runes
import Derived.RegionTactic
namespace Go.Proofs.Ytlmnmlehnigfdaa
open Go.RowKit
set_option linter.unusedVariables false
set_option linter.unusedSimpArgs false

def sibV (z : Sib) : Value := .agg #[.int .u32 z.d.a, .int .u64 z.d.n, .bool z.gone, .string z.v]
theorem les_eq {x y : Sib} (h : x.gone = y.gone) : lesB x y = ltK x.v y.v := by unfold lesB; rw [if_pos h]
theorem les_ne {x y : Sib} (h : x.gone ≠ y.gone) : lesB x y = x.gone := by unfold lesB; rw [if_neg h]
theorem les_yes {x y : Sib} (h : lesB y x = true) : lesS x y = y := by unfold lesS; rw [if_pos h]
theorem les_no {x y : Sib} (h : lesB y x = false) : lesS x y = x := by unfold lesS; rw [if_neg (by rw [h]; simp)]
set_option maxHeartbeats 1600000 in
theorem refLes_any (x y : Sib) (w : World) : Calls Try.prog 52 #[sibV x, sibV y] w fun e w' => e = .returned (.bool (lesB x y)) ∧ Below w.heap.size w w' := by
  unfold sibV
  by_cases h : x.gone = y.gone
  · have HV := Lib.hid (les_eq h)
    have HB := Lib.hid (bytes_ltK x.v y.v)
    have q0 : (x.gone != y.gone) = false := by simp [h]
    have q1 : (x.gone == y.gone) = true := by simp [h]
    clear h
    go_enter Try.func52, Try.ntmps52
    go_wp2
    go_ret
    exact ⟨ret_bool (by rw [HV.out, HB.out]), (by repeat (first | exact Below.refl _ _ | refine bl_drewN ?_ _ | refine bl_drew ?_ | refine bl_alloc ?_ _))⟩
  · have HV := Lib.hid (les_ne h)
    have q0 : (x.gone != y.gone) = true := by simp [h]
    have q1 : (x.gone == y.gone) = false := by simp [h]
    clear h
    go_enter Try.func52, Try.ntmps52
    go_wp2
    go_ret
    exact ⟨ret_bool HV.out.symm, (by repeat (first | exact Below.refl _ _ | refine bl_drewN ?_ _ | refine bl_drew ?_ | refine bl_alloc ?_ _))⟩
set_option maxHeartbeats 3200000 in
theorem lesser_any (x y : Sib) (w : World) : Calls Try.prog 53 #[sibV x, sibV y] w fun e w' => e = .returned (sibV (lesS x y)) ∧ Below w.heap.size w w' := by
  unfold sibV
  obtain ⟨xd, xg, xv⟩ := x
  obtain ⟨yd, yg, yv⟩ := y
  have HB := Lib.hid (bytes_ltK yv xv)
  cases xg <;> cases yg
  · cases hb : ltK yv xv with
    | true =>
      have HV := Lib.hid (les_yes (x := ⟨xd, false, xv⟩) (y := ⟨yd, false, yv⟩) (by rw [les_eq (by rfl)]; exact hb))
      have t0 : Op.bytesLess yv.toList xv.toList = true := by rw [HB.out, hb]
      clear hb
      go_enter Try.func53, Try.ntmps53
      go_wp2
      exact bodyPost_ret (v := .agg #[.int .u32 yd.a, .int .u64 yd.n, .bool false, .string yv]) (by simp [results, Try.results53, go_sem]) rfl ⟨by rw [HV.out], by repeat (first | exact Below.refl _ _ | refine bl_drewN ?_ _ | refine bl_drew ?_ | refine bl_alloc ?_ _ | refine Below.setCell ?_ (by simp) _)⟩
    | false =>
      have HV := Lib.hid (les_no (x := ⟨xd, false, xv⟩) (y := ⟨yd, false, yv⟩) (by rw [les_eq (by rfl)]; exact hb))
      have t0 : Op.bytesLess yv.toList xv.toList = false := by rw [HB.out, hb]
      clear hb
      go_enter Try.func53, Try.ntmps53
      go_wp2
      exact bodyPost_ret (v := .agg #[.int .u32 xd.a, .int .u64 xd.n, .bool false, .string xv]) (by simp [results, Try.results53, go_sem]) rfl ⟨by rw [HV.out], by repeat (first | exact Below.refl _ _ | refine bl_drewN ?_ _ | refine bl_drew ?_ | refine bl_alloc ?_ _ | refine Below.setCell ?_ (by simp) _)⟩
  · have HV := Lib.hid (les_yes (x := ⟨xd, false, xv⟩) (y := ⟨yd, true, yv⟩) (by rw [les_ne (by simp)]))
    go_enter Try.func53, Try.ntmps53
    go_wp2
    exact bodyPost_ret (v := .agg #[.int .u32 yd.a, .int .u64 yd.n, .bool true, .string yv]) (by simp [results, Try.results53, go_sem]) rfl ⟨by rw [HV.out], by repeat (first | exact Below.refl _ _ | refine bl_drewN ?_ _ | refine bl_drew ?_ | refine bl_alloc ?_ _ | refine Below.setCell ?_ (by simp) _)⟩
  · have HV := Lib.hid (les_no (x := ⟨xd, true, xv⟩) (y := ⟨yd, false, yv⟩) (by rw [les_ne (by simp)]))
    go_enter Try.func53, Try.ntmps53
    go_wp2
    exact bodyPost_ret (v := .agg #[.int .u32 xd.a, .int .u64 xd.n, .bool true, .string xv]) (by simp [results, Try.results53, go_sem]) rfl ⟨by rw [HV.out], by repeat (first | exact Below.refl _ _ | refine bl_drewN ?_ _ | refine bl_drew ?_ | refine bl_alloc ?_ _ | refine Below.setCell ?_ (by simp) _)⟩
  · cases hb : ltK yv xv with
    | true =>
      have HV := Lib.hid (les_yes (x := ⟨xd, true, xv⟩) (y := ⟨yd, true, yv⟩) (by rw [les_eq (by rfl)]; exact hb))
      have t0 : Op.bytesLess yv.toList xv.toList = true := by rw [HB.out, hb]
      clear hb
      go_enter Try.func53, Try.ntmps53
      go_wp2
      exact bodyPost_ret (v := .agg #[.int .u32 yd.a, .int .u64 yd.n, .bool true, .string yv]) (by simp [results, Try.results53, go_sem]) rfl ⟨by rw [HV.out], by repeat (first | exact Below.refl _ _ | refine bl_drewN ?_ _ | refine bl_drew ?_ | refine bl_alloc ?_ _ | refine Below.setCell ?_ (by simp) _)⟩
    | false =>
      have HV := Lib.hid (les_no (x := ⟨xd, true, xv⟩) (y := ⟨yd, true, yv⟩) (by rw [les_eq (by rfl)]; exact hb))
      have t0 : Op.bytesLess yv.toList xv.toList = false := by rw [HB.out, hb]
      clear hb
      go_enter Try.func53, Try.ntmps53
      go_wp2
      exact bodyPost_ret (v := .agg #[.int .u32 xd.a, .int .u64 xd.n, .bool true, .string xv]) (by simp [results, Try.results53, go_sem]) rfl ⟨by rw [HV.out], by repeat (first | exact Below.refl _ _ | refine bl_drewN ?_ _ | refine bl_drew ?_ | refine bl_alloc ?_ _ | refine Below.setCell ?_ (by simp) _)⟩
end Go.Proofs.Ytlmnmlehnigfdaa
