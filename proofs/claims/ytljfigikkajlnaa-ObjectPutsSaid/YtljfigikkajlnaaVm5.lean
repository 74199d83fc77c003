/- DERIVED. May dots be a vector: both texts; Same of dots. vector.Put: a vector's bytes. -/
import Derived.Test.YtljfigikkajlnaaVm3
import Derived.Test.YtljfigikkajlnaaVm11
import Derived.Test.YtljfigikkajlnaaVm4
import Derived.Laws.Runes
namespace Go.Proofs.Ytljfigikkajlnaa
open Go.RowKit
set_option linter.unusedVariables false
set_option linter.unusedSimpArgs false
theorem vec_long {l : List Dot} (h : 64 < l.length) : vecB l = false := by unfold vecB; simp; omega
theorem vec_fail {l : List Dot} {k : Nat} (h : chainB dOk ltA (l.take k) = false) : vecB l = false := by unfold vecB; rw [chain_false _ _ _ _ h]; rfl
theorem vec_full {l : List Dot} (h : chainB dOk ltA (l.take l.length) = true) : vecB l = decide (l.length ≤ 64) := by rw [List.take_length] at h; unfold vecB; rw [h]; rfl
set_option maxRecDepth 100000 in
set_option maxHeartbeats 1600000 in
theorem vecValid_any (A : Option Addr) (c : Nat) (l : List Dot) (w : World) (hr : GR.Rd dotK w A l) (hn : ∀ d ∈ l, 0 ≤ d.n) :
    Calls Try.prog 82 #[.slice A l.length c] w fun e w' => e = .returned (.bool (vecB l)) ∧ Below w.heap.size w w' := by
  have hmax : l.length * 16 ≤ 140737488355328 := hr.max
  have HR := Lib.hid hr
  have HN := Lib.hid hn
  clear hr hn
  go_enter Try.func82, Try.ntmps82
  go_wp2
  go_loopw [7] (fun i w' => ∃ k : Nat, k ≤ l.length ∧ i = .int .i64 k ∧ Hid (chainB dOk ltA (l.take k) = true) ∧ Hid (Below w.heap.size w w')) (fun i _ => l.length - (intOf i).toNat)
  case atStart => exact ⟨0, Nat.zero_le _, rfl, Lib.hid (chain_zero _ _ _), Lib.hid (Below.refl _ _)⟩
  case round =>
    obtain ⟨k, hk, rfl, hok, hw⟩ := hrel
    have HR1 := Lib.hid (HR.out.below hw.out)
    by_cases hlt : k < l.length
    · have i0 : (0 : Int) ≤ (k : Int) := by omega
      have i1 : (k : Int) < (l.length : Int) := by omega
      have n0 := HN.out l[k] (List.getElem_mem hlt)
      by_cases hD : dOk l[k] = true
      · have hD1 : 1 ≤ l[k].n ∧ l[k].n ≤ 1099511627776 := by simpa [dOk] using hD
        have t1 : (l[k].n == 0) = false := by simp; omega
        have t2 : decide (1099511627776 < l[k].n) = false := by simp; omega
        rcases k with _ | m
        · have HV := Lib.hid (show chainB dOk ltA (l.take 1) = true by rw [chain_one _ _ _ hlt]; exact hD)
          obtain ⟨ad, rfl, hb0, c0, c1⟩ := dot_head HR1.out hlt
          clear hD hD1
          go_wp2
          go_quiet (fail)
          go_wp2
          go_roundw
          case rel => exact ⟨1, by omega, rfl, HV, Lib.hid (bl_then hw.out (by repeat (first | exact Below.refl _ _ | refine bl_drewN ?_ _ | refine bl_drew ?_ | refine bl_alloc ?_ _)))⟩
          case measure => simp [intOf]; omega
        · replace i0 : (0 : Int) ≤ (m : Int) + 1 := by omega
          replace i1 : (m : Int) + 1 < (l.length : Int) := by omega
          have i2 : (0 : Int) ≤ (m : Int) := by omega
          have i3 : (m : Int) < (l.length : Int) := by omega
          obtain ⟨ad, e0, hb0, c0, c1⟩ := dot_at HR1.out (m + 1) hlt
          subst e0
          obtain ⟨ad', e0, hb1, d0, d1⟩ := dot_at HR1.out m (by omega)
          cases e0
          have hs := chain_succ dOk ltA l (m + 1) (by omega) hlt
          simp only [Nat.add_sub_cancel, hok.out, hD, Bool.true_and] at hs
          by_cases hL : l[m].a < l[m + 1].a
          · have HV := Lib.hid (show chainB dOk ltA (l.take (m + 1 + 1)) = true by rw [hs]; simp [ltA, hL])
            have t3 : decide (l[m + 1].a ≤ l[m].a) = false := by simp; omega
            clear hs hL hD hD1
            go_wp2
            go_quiet (fail)
            go_wp2
            go_roundw
            case rel => exact ⟨m + 2, by omega, by go_num, HV, Lib.hid (bl_then hw.out (by repeat (first | exact Below.refl _ _ | refine bl_drewN ?_ _ | refine bl_drew ?_ | refine bl_alloc ?_ _)))⟩
            case measure => simp [intOf]; omega
          · have HV := Lib.hid (vec_fail (l := l) (k := m + 1 + 1) (by rw [hs]; simp [ltA, hL]))
            have t3 : decide (l[m + 1].a ≤ l[m].a) = true := by simp; omega
            clear hs hL hD hD1
            go_wp2
            go_quiet (fail)
            go_wp2
            go_ret
            exact ⟨ret_bool HV.out.symm, bl_then hw.out (by repeat (first | exact Below.refl _ _ | refine bl_drewN ?_ _ | refine bl_drew ?_ | refine bl_alloc ?_ _))⟩
      · have HV := Lib.hid (vec_fail (l := l) (k := k + 1) (by
          rcases k with _ | m
          · rw [chain_one _ _ _ hlt]; simpa using hD
          · rw [chain_succ _ _ _ _ (by omega) hlt]; simp [hD]))
        have hD1 : l[k].n = 0 ∨ 1099511627776 < l[k].n := by
          simp only [dOk, Bool.and_eq_true, decide_eq_true_eq] at hD; omega
        obtain ⟨ad, rfl, hb0, c0, c1⟩ := dot_at HR1.out k hlt
        clear hD
        rcases hD1 with h | h
        · have t1 : (l[k].n == 0) = true := by simpa using h
          clear h
          go_wp2
          go_quiet (fail)
          go_wp2
          go_ret
          exact ⟨ret_bool HV.out.symm, bl_then hw.out (by repeat (first | exact Below.refl _ _ | refine bl_drewN ?_ _ | refine bl_drew ?_ | refine bl_alloc ?_ _))⟩
        · have t1 : (l[k].n == 0) = false := by simp; omega
          have t2 : decide (1099511627776 < l[k].n) = true := by simpa using h
          clear h
          go_wp2
          go_quiet (fail)
          go_wp2
          go_ret
          exact ⟨ret_bool HV.out.symm, bl_then hw.out (by repeat (first | exact Below.refl _ _ | refine bl_drewN ?_ _ | refine bl_drew ?_ | refine bl_alloc ?_ _))⟩
    · obtain rfl : k = l.length := by omega
      have HV := Lib.hid (vec_full hok.out)
      go_wp2
      go_ret
      exact ⟨ret_bool (by rw [HV.out]; simp; omega), hw.out⟩
end Go.Proofs.Ytljfigikkajlnaa
namespace Go.Proofs.Ytljfigikkajlnaa
open Go.RowKit Go.Lib
set_option linter.unusedVariables false
set_option linter.unusedSimpArgs false
def dotU (d : Dot) : List UInt8 := uintU d.a.toNat ++ uintU d.n.toNat
def vecU (l : List Dot) : List UInt8 := uintU l.length ++ l.flatMap dotU
theorem dotU_len {d : Dot} (h1 : d.a ≤ 4294967295) (h2 : d.n ≤ 1099511627776) : (dotU d).length ≤ 20 := by
  have a1 := uintU_len10 (show d.a.toNat < 18446744073709551616 by omega)
  have a2 := uintU_len10 (show d.n.toNat < 18446744073709551616 by omega)
  rw [dotU, List.length_append]; omega
theorem dots_len : ∀ (l : List Dot), (∀ d ∈ l, d.a ≤ 4294967295 ∧ d.n ≤ 1099511627776) → (l.flatMap dotU).length ≤ 20 * l.length
  | [], _ => by simp
  | d :: l, h => by
    have h1 := dots_len l (fun x hx => h x (List.mem_cons_of_mem _ hx))
    have h2 := h d List.mem_cons_self
    have h3 := dotU_len h2.1 h2.2
    rw [List.flatMap_cons, List.length_append, List.length_cons]; omega
theorem dots_snoc {l : List Dot} {k : Nat} (h : k < l.length) : (l.take (k + 1)).flatMap dotU = (l.take k).flatMap dotU ++ uintU l[k].a.toNat ++ uintU l[k].n.toNat := by
  rw [List.take_succ_eq_append_getElem h, List.flatMap_append, List.append_assoc]
  simp [dotU]
set_option maxRecDepth 100000 in
set_option maxHeartbeats 3200000 in
theorem vput_any (A : Option Addr) (c g : Nat) (l : List Dot) (bs : List UInt8) (w0 w : World) (hr : GR.Rd dotK w0 A l) (hb : Below w0.heap.size w0 w) (hw : Wr w w0.heap.size g bs) (hv : vecB l = true) (na : ∀ d ∈ l, 0 ≤ d.a ∧ d.a ≤ 4294967295) (hl : bs.length ≤ 1048576) :
    Calls Try.prog 129 #[.pointer (some ⟨g, 0, none⟩), .slice A l.length c] w fun e w' => e = .returned (.int .i64 0) ∧ Wr w' w0.heap.size g (bs ++ vecU l) ∧ Below w0.heap.size w w' := by
  have h64 : l.length ≤ 64 := vec_len hv
  have nn : ∀ d ∈ l, 0 ≤ d.n := fun d hd => by have := (vec_ok hv d hd).1; omega
  have hbd : ∀ d ∈ l, d.a ≤ 4294967295 ∧ d.n ≤ 1099511627776 := fun d hd => ⟨(na d hd).2, (vec_ok hv d hd).2⟩
  have u10 := uintU_len10 (show l.length < 18446744073709551616 by omega)
  have hml : l.length * 16 ≤ 140737488355328 := hr.max
  have HR := Lib.hid hr
  have HB := Lib.hid hb
  have HW := Lib.hid hw
  have HV := Lib.hid hv
  have NA := Lib.hid na
  have NN := Lib.hid nn
  have HBD := Lib.hid hbd
  clear hr hb hw hv na nn hbd
  go_enter Try.func129, Try.ntmps129
  go_wp2_with fail
  refine (vecValid_any A c l _ (HR.out.below HB.out) NN.out).mono ?_
  rintro e w1 ⟨rfl, hb1⟩
  rw [HV.out]
  have W1 := Lib.hid (HW.out.below hb1)
  have B1 := Lib.hid (Below.mono hb1 HB.out.size)
  clear hb1
  go_wp2_with fail
  refine (uint_any w0.heap.size g bs l.length (by omega) _ W1.out (by omega)).mono ?_
  rintro e w2 ⟨rfl, hw2, hb2, _⟩
  have W2 := Lib.hid hw2
  have B2 := Lib.hid (B1.out.trans hb2)
  clear hw2 hb2
  go_wp2
  go_loopw [19] (fun ii w' => ∃ i : Nat, ii = .int .i64 i ∧ i ≤ l.length ∧ Hid (Wr w' w0.heap.size g (bs ++ uintU l.length ++ (l.take i).flatMap dotU)) ∧ Hid (Below w0.heap.size w w')) (fun ii _ => l.length - (intOf ii).toNat)
  case atStart => exact ⟨0, rfl, Nat.zero_le _, Lib.hid (by simpa using W2.out), B2⟩
  case round =>
    obtain ⟨i, rfl, hi, hw3, hb3⟩ := hrel
    by_cases hlt : i < l.length
    · have i0 : (0 : Int) ≤ (i : Int) := by omega
      have i1 : (i : Int) < (l.length : Int) := by omega
      obtain ⟨ad, eA, _, x0, x1⟩ := dot_at (HR.out.below (HB.out.trans hb3.out)) i hlt
      have hx := NA.out _ (List.getElem_mem hlt)
      have hy := HBD.out _ (List.getElem_mem hlt)
      have hz := NN.out _ (List.getElem_mem hlt)
      have hlen : ((l.take i).flatMap dotU).length ≤ 1280 := by
        have := dots_len (l.take i) (fun d hd => HBD.out d (List.mem_of_mem_take hd))
        simp at this ⊢; omega
      have hbl : (bs ++ uintU l.length ++ (l.take i).flatMap dotU).length ≤ 1050000 := by simp only [List.length_append]; omega
      have HSN := Lib.hid (dots_snoc hlt)
      obtain ⟨p, hp⟩ : ∃ p : Nat, l[i].a = p := ⟨l[i].a.toNat, by omega⟩
      obtain ⟨q, hq⟩ : ∃ q : Nat, l[i].n = q := ⟨l[i].n.toNat, by omega⟩
      have hp2 : p ≤ 4294967295 := by omega
      have hq2 : q ≤ 1099511627776 := by omega
      have e1 : IntKind.u64.wrap (p : Int) = (p : Int) := IntWalk.u64_in _ (by omega)
      have HSP := Lib.hid (show l[i].a.toNat = p by omega)
      have HSQ := Lib.hid (show l[i].n.toNat = q by omega)
      rw [hp] at x0
      rw [hq] at x1
      subst eA
      clear hp hq hx hy hz
      have hs3 : w0.heap.size ≤ wr.heap.size := Nat.le_trans HB.out.size hb3.out.size
      go_wp2_with fail
      obtain ⟨W4, hW4⟩ : ∃ W : World, W = wr.alloc (.cells #[.int .u32 p, .int .u64 q] 41) := ⟨_, rfl⟩
      rw [← hW4]
      have L4 : Hid (Below wr.heap.size wr W4) := Lib.hid (by rw [hW4]; exact (by repeat (first | exact Below.refl _ _ | refine bl_drewN ?_ _ | refine bl_drew ?_ | refine bl_alloc ?_ _)))
      have X4 : Hid (GR.Blk W4 wr.heap.size 41 #[.int .u32 p, .int .u64 q]) := Lib.hid (by rw [hW4]; exact GR.Blk.new _ _ _)
      clear hW4 x0 x1
      have W4w := Lib.hid (hw3.out.below L4.out)
      refine (uint_any w0.heap.size g _ p (by omega) _ W4w.out (by omega)).mono ?_
      rintro e w5 ⟨rfl, hw5, hb5, kp5⟩
      have hgw : wr.heap.size ≠ g := fun e => by
        obtain ⟨_, v, bg, _⟩ := hw3.out
        have := bg.lt; omega
      have X5 := Lib.hid (kp5 _ _ _ X4.out (by decide) hgw)
      have y0 : w5.cell? ⟨wr.heap.size, 0, none⟩ = some (.int .u32 p) := X5.out.cell 0
      have y1 : w5.cell? ⟨wr.heap.size, 1, none⟩ = some (.int .u64 q) := X5.out.cell 1
      have W5 := Lib.hid hw5
      have B5 := Lib.hid ((Below.mono L4.out hs3).trans hb5)
      have u1 := uintU_len10 (show p < 18446744073709551616 by omega)
      clear hw5 hb5 kp5
      go_wp2_with fail
      refine (uint_any w0.heap.size g _ q (by omega) _ W5.out (by rw [List.length_append]; omega)).mono ?_
      rintro e w6 ⟨rfl, hw6, hb6, _⟩
      have W6 := Lib.hid hw6
      have B6 := Lib.hid (hb3.out.trans (B5.out.trans hb6))
      clear hw6 hb6
      go_wp2
      go_roundw
      case rel => exact ⟨i + 1, by go_num, by omega, Lib.hid (by rw [HSN.out, HSP.out, HSQ.out]; simpa only [List.append_assoc] using W6.out), B6⟩
      case measure => simp [intOf]; omega
    · obtain rfl : i = l.length := by omega
      have W7 := Lib.hid (show Wr wr w0.heap.size g (bs ++ vecU l) by have := hw3.out; rw [List.take_length, List.append_assoc] at this; exact this)
      go_wp2
      go_ret
      exact ⟨rfl, W7.out, hb3.out⟩
end Go.Proofs.Ytljfigikkajlnaa
