/- DERIVED. texts: are two rows of texts the same? -/
import Derived.Test.YtlmnmlehnigfdaaDvVals2
import Derived.Test.YtlmnmlehnigfdaaOver
namespace Go.Proofs.Ytlmnmlehnigfdaa
open Go.RowKit
set_option linter.unusedVariables false
set_option linter.unusedSimpArgs false

theorem take_same {L M : List ByteArray} {k : Nat} (h1 : k < L.length) (h2 : k < M.length) (h : L.take k = M.take k) (e : L[k] = M[k]) : L.take (k + 1) = M.take (k + 1) := by
  rw [List.take_succ_eq_append_getElem h1, List.take_succ_eq_append_getElem h2, h, e]
set_option maxRecDepth 100000 in
set_option maxHeartbeats 3200000 in
theorem texts_any (A B : Option Addr) (c d : Nat) (L M : List ByteArray) (w : World) (ha : GR.Rd strK w A L) (hb : GR.Rd strK w B M) :
    Calls Try.prog 33 #[.slice A L.length c, .slice B M.length d] w fun e w' => e = .returned (.bool (decide (L = M))) ∧ Below w.heap.size w w' := by
  have hml : L.length * 16 ≤ 140737488355328 := ha.max
  have hmm : M.length * 16 ≤ 140737488355328 := hb.max
  have HA := Lib.hid ha
  have HB := Lib.hid hb
  clear ha hb
  go_enter Try.func33, Try.ntmps33
  by_cases hn : L.length = M.length
  · have q0 : ((L.length : Int) != (M.length : Int)) = false := by simp [hn]
    have HN := Lib.hid hn
    clear hn
    go_wp2
    go_loopw [5] (fun i w' => ∃ k : Nat, k ≤ L.length ∧ i = .int .i64 k ∧ Hid (L.take k = M.take k) ∧ Hid (Below w.heap.size w w')) (fun i _ => L.length - (intOf i).toNat)
    case atStart => exact ⟨0, Nat.zero_le _, rfl, Lib.hid (by simp), Lib.hid (by repeat (first | exact Below.refl _ _ | refine bl_drewN ?_ _ | refine bl_drew ?_ | refine bl_alloc ?_ _))⟩
    case round =>
      clear q0
      obtain ⟨k, hk, rfl, hs, hw⟩ := hrel
      by_cases hlt : k < L.length
      · have hlt2 : k < M.length := by have := HN.out; omega
        have i0 : (0 : Int) ≤ (k : Int) := by omega
        have i1 : (k : Int) < (L.length : Int) := by omega
        have i2 : (k : Int) < (M.length : Int) := by omega
        obtain ⟨ad, eA, _, x0⟩ := str_at (HA.out.below hw.out) k hlt
        obtain ⟨bd, eB, _, y0⟩ := str_at (HB.out.below hw.out) k hlt2
        subst eA eB
        have ox := over_cell x0
        have oy := over_cell y0
        clear x0 y0
        by_cases hq : L[k] = M[k]
        · have q2 : (L[k].toList == M[k].toList) = true := by rw [str_eq]; simpa using hq
          have q1 : (L[k].toList != M[k].toList) = false := by unfold bne; rw [q2]; rfl
          have HT := Lib.hid (take_same hlt hlt2 hs.out hq)
          clear hq
          go_wp2
          refine over_region (W := wr) (by kernel_rfl) (by kernel_rfl) (by repeat (first | exact Below.refl _ _ | refine bl_drewN ?_ _ | refine bl_drew ?_ | refine bl_alloc ?_ _)) ?_
          repeat (go_big_quiet_step (fail))
          refine wpQuiet_nil ?_
          intro _ hx_
          obtain ⟨x_, hx_⟩ := hx_
          subst hx_
          obtain ⟨w2, hb2⟩ := x_
          dsimp only
          have B2 := Lib.hid (bl_then hw.out hb2)
          clear hb2
          go_wp2
          go_roundw
          case rel => exact ⟨k + 1, by omega, by go_num, HT, B2⟩
          case measure => simp [intOf]; omega
        · have q2 : (L[k].toList == M[k].toList) = false := by rw [str_eq]; simpa using hq
          have q1 : (L[k].toList != M[k].toList) = true := by unfold bne; rw [q2]; rfl
          have HV := Lib.hid (show decide (L = M) = false from decide_eq_false fun e => hq (by subst e; rfl))
          clear hq
          go_wp2
          refine over_region (W := wr) (by kernel_rfl) (by kernel_rfl) (by repeat (first | exact Below.refl _ _ | refine bl_drewN ?_ _ | refine bl_drew ?_ | refine bl_alloc ?_ _)) ?_
          repeat (go_big_quiet_step (fail))
          refine wpQuiet_nil ?_
          intro _ hx_
          obtain ⟨x_, hx_⟩ := hx_
          subst hx_
          obtain ⟨w2, hb2⟩ := x_
          dsimp only
          go_wp2
          go_ret
          exact ⟨ret_bool HV.out.symm, bl_then hw.out hb2⟩
      · obtain rfl : k = L.length := by omega
        have HV := Lib.hid (show decide (L = M) = true from decide_eq_true (by have := hs.out; rw [List.take_length] at this; rw [HN.out, List.take_length] at this; exact this))
        go_wp2
        go_ret
        exact ⟨ret_bool HV.out.symm, hw.out⟩
  · have q0 : ((L.length : Int) != (M.length : Int)) = true := by simp; omega
    have HV := Lib.hid (show decide (L = M) = false from decide_eq_false fun e => hn (by rw [e]))
    go_wp2
    go_ret
    exact ⟨ret_bool HV.out.symm, Below.refl _ _⟩
end Go.Proofs.Ytlmnmlehnigfdaa
