/- DERIVED. The document's Encode of a vector. -/
import Derived.Test.YtlmnmlehnigfdaaDvRef10
import Derived.Test.YtlmnmlehnigfdaaDvVput
import Derived.Test.YtlmnmlehnigfdaaOver
import Derived.WalkMore
import Derived.Deep.Cut
import Derived.Deep.CutRange
import Derived.Lib.Strings
import Derived.Laws.Runes
namespace Go.Proofs.Ytlmnmlehnigfdaa
open Go.RowKit Go.Lib
set_option linter.unusedVariables false
set_option linter.unusedSimpArgs false

theorem sizeL (L : List UInt8) : (⟨L.toArray⟩ : ByteArray).size = L.length := by simp [ByteArray.size]
theorem scat (L M : List UInt8) (h : L.length + M.length ≤ 1000000) : ∀ W, (Op.stringOp .add ⟨L.toArray⟩ ⟨M.toArray⟩).run Try.prog W = .ok (.string ⟨(L ++ M).toArray⟩) W := fun W => by
  rw [run_string_add_sum W _ _ (by rw [sizeL, sizeL]; omega)]
  have := strApp ⟨M.toArray⟩ L
  simpa using congrArg (fun z => Result.ok (Value.string z) W) this

set_option maxRecDepth 100000 in
set_option maxHeartbeats 3200000 in
theorem refVEnc_any (A : Option Addr) (c : Nat) (l : List Dot) (w : World) (ha : GR.Rd dotK w A l) (hv : vecB l = true) (ra : ∀ d ∈ l, 0 ≤ d.a ∧ d.a ≤ 4294967295) :
    Calls Try.prog 54 #[.slice A l.length c] w fun e w' => e = .returned (.tuple #[.string ⟨(vecU l).toArray⟩, .int .i64 0]) ∧ Below w.heap.size w w' := by
  have h64 : l.length ≤ 64 := vec_len hv
  have nn : ∀ d ∈ l, 0 ≤ d.n := fun d hd => by have := (vec_ok hv d hd).1; omega
  have hbd : ∀ d ∈ l, d.a ≤ 4294967295 ∧ d.n ≤ 1099511627776 := fun d hd => ⟨(ra d hd).2, (vec_ok hv d hd).2⟩
  have u10 := uintU_len10 (show l.length < 18446744073709551616 by omega)
  have hml : l.length * 16 ≤ 140737488355328 := ha.max
  have e0 : IntKind.u64.wrap (l.length : Int) = (l.length : Int) := IntWalk.u64_in _ (by omega)
  have HA := Lib.hid ha
  have HV := Lib.hid hv
  have RA := Lib.hid ra
  have NN := Lib.hid nn
  have HBD := Lib.hid hbd
  clear ha hv ra nn hbd
  go_enter Try.func54, Try.ntmps54
  go_wp2_with fail
  refine (refVec_bl A c l _ HA.out NN.out).mono ?_
  rintro e w1 ⟨rfl, hb1⟩
  rw [HV.out]
  have B1 := Lib.hid hb1
  clear hb1
  go_wp2_with fail
  refine (refUint_any l.length (by omega) _).mono ?_
  rintro e w2 ⟨rfl, hb2⟩
  have B2 := Lib.hid (bl_then B1.out hb2)
  clear hb2 e0
  go_wp2
  go_loopw [4, 5] (fun s0 ii w' => ∃ (i : Nat) (S : List UInt8), s0 = .string ⟨S.toArray⟩ ∧ ii = .int .i64 i ∧ i ≤ l.length ∧ Hid (S = uintU l.length ++ (l.take i).flatMap dotU) ∧ Hid (Below w.heap.size w w')) (fun _ ii _ => l.length - (intOf ii).toNat)
  case atStart => exact ⟨0, _, rfl, rfl, Nat.zero_le _, Lib.hid (by simp), B2⟩
  case round =>
    obtain ⟨i, S, rfl, rfl, hi, hS, hb3⟩ := hrel
    by_cases hlt : i < l.length
    · have i0 : (0 : Int) ≤ (i : Int) := by omega
      have i1 : (i : Int) < (l.length : Int) := by omega
      obtain ⟨ad, eA, _, x0, x1⟩ := dot_at (HA.out.below hb3.out) i hlt
      have hx := RA.out _ (List.getElem_mem hlt)
      have hy := HBD.out _ (List.getElem_mem hlt)
      have hz := NN.out _ (List.getElem_mem hlt)
      have hlen : S.length ≤ 1300 := by
        have := dots_len (l.take i) (fun d hd => HBD.out d (List.mem_of_mem_take hd))
        rw [hS.out, List.length_append]
        simp at this ⊢; omega
      have HSN := Lib.hid (dots_snoc hlt)
      obtain ⟨p, hp⟩ : ∃ p : Nat, l[i].a = p := ⟨l[i].a.toNat, by omega⟩
      obtain ⟨q, hq⟩ : ∃ q : Nat, l[i].n = q := ⟨l[i].n.toNat, by omega⟩
      have hp2 : p ≤ 4294967295 := by omega
      have hq2 : q ≤ 1099511627776 := by omega
      have e1 : IntKind.u64.wrap (p : Int) = (p : Int) := IntWalk.u64_in _ (by omega)
      have HSP := Lib.hid (show l[i].a.toNat = p by omega)
      have HSQ := Lib.hid (show l[i].n.toNat = q by omega)
      have u1 := uintU_len10 (show p < 18446744073709551616 by omega)
      have u2 := uintU_len10 (show q < 18446744073709551616 by omega)
      have hc1 := scat S (uintU p) (by omega)
      have hc2 := scat (S ++ uintU p) (uintU q) (by rw [List.length_append]; omega)
      rw [hp] at x0
      rw [hq] at x1
      subst eA
      clear hp hq hx hy hz u1 u2
      have ox0 := over_cell x0
      have ox1 := over_cell x1
      clear x0 x1
      go_wp2
      refine over_region (W := wr) (by kernel_rfl) (by kernel_rfl) (by repeat (first | exact Below.refl _ _ | refine bl_drewN ?_ _ | refine bl_drew ?_ | refine bl_alloc ?_ _)) ?_
      repeat (go_big_quiet_step (refine over_of (refUint_any _ (by omega) _)))
      refine wpQuiet_nil ?_
      intro _ hx_
      obtain ⟨x_, hx_⟩ := hx_
      subst hx_
      obtain ⟨w8, hb8⟩ := x_
      dsimp only
      have B8 := Lib.hid (bl_then hb3.out hb8)
      clear hb8 hc1 hc2
      go_wp2
      go_roundw
      case rel => exact ⟨i + 1, _, rfl, by go_num, by omega, Lib.hid (by rw [HSN.out, HSP.out, HSQ.out, hS.out]; simp only [List.append_assoc]), B8⟩
      case measure => simp [intOf]; omega
    · obtain rfl : i = l.length := by omega
      have HK := Lib.hid (show S = vecU l by rw [hS.out, List.take_length]; rfl)
      go_wp2
      try rw [Exit.noGoto_ret]
      exact bodyPost_ret (v := .tuple #[.string ⟨S.toArray⟩, .int .i64 0]) (by simp [results, Try.results54, go_sem]) rfl ⟨by rw [HK.out], hb3.out⟩
end Go.Proofs.Ytlmnmlehnigfdaa
