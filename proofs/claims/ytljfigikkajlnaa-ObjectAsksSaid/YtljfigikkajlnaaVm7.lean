/- DERIVED. vector.Put: a vector's bytes. The document's Encode of a vector. -/
import Derived.Test.YtljfigikkajlnaaVDvRef10
import Derived.Test.YtljfigikkajlnaaVFrmWr
import Derived.Test.YtljfigikkajlnaaVm5
import Derived.Test.YtljfigikkajlnaaVm6
import Derived.Laws.Runes
import Derived.WalkMore
import Derived.Deep.Cut
import Derived.Deep.CutRange
import Derived.Lib.Strings
namespace Go.Proofs.Ytljfigikkajlnaa
open Go.RowKit Go.Lib
set_option linter.unusedVariables false
set_option linter.unusedSimpArgs false
def dotU (d : Dot) : List UInt8 := uintU d.a.toNat ++ uintU d.n.toNat
def vecU (l : List Dot) : List UInt8 := uintU l.length ++ l.flatMap dotU
theorem dotU_len {d : Dot} (h1 : d.a ≤ 4294967295) (h2 : d.n ≤ 1099511627776) : (dotU d).length ≤ 20 := by
  have a1 := uintU_len10 (show d.a.toNat < 18446744073709551616 by omega)
  have a2 := uintU_len10 (show d.n.toNat < 18446744073709551616 by omega)
  rw [dotU, List.length_append]; omega
theorem dots_len : ∀ (l : List Dot), (∀ d ∈ l, d.a ≤ 4294967295 ∧ d.n ≤ 1099511627776) → (l.flatMap dotU).length ≤ 20 * l.length
  | [], _ => by simp
  | d :: l, h => by
    have h1 := dots_len l (fun x hx => h x (List.mem_cons_of_mem _ hx))
    have h2 := h d List.mem_cons_self
    have h3 := dotU_len h2.1 h2.2
    rw [List.flatMap_cons, List.length_append, List.length_cons]; omega
theorem dots_snoc {l : List Dot} {k : Nat} (h : k < l.length) : (l.take (k + 1)).flatMap dotU = (l.take k).flatMap dotU ++ uintU l[k].a.toNat ++ uintU l[k].n.toNat := by
  rw [List.take_succ_eq_append_getElem h, List.flatMap_append, List.append_assoc]
  simp [dotU]
set_option maxRecDepth 100000 in
set_option maxHeartbeats 3200000 in
theorem vput_any (A : Option Addr) (c g : Nat) (l : List Dot) (bs : List UInt8) (w0 w : World) (hr : GR.Rd dotK w0 A l) (hb : Below w0.heap.size w0 w) (hw : Wr w w0.heap.size g bs) (hv : vecB l = true) (na : ∀ d ∈ l, 0 ≤ d.a ∧ d.a ≤ 4294967295) (hl : bs.length ≤ 1048576) :
    Calls Try.prog 129 #[.pointer (some ⟨g, 0, none⟩), .slice A l.length c] w fun e w' => e = .returned (.int .i64 0) ∧ Wr w' w0.heap.size g (bs ++ vecU l) ∧ Below w0.heap.size w w' := by
  have h64 : l.length ≤ 64 := vec_len hv
  have nn : ∀ d ∈ l, 0 ≤ d.n := fun d hd => by have := (vec_ok hv d hd).1; omega
  have hbd : ∀ d ∈ l, d.a ≤ 4294967295 ∧ d.n ≤ 1099511627776 := fun d hd => ⟨(na d hd).2, (vec_ok hv d hd).2⟩
  have u10 := uintU_len10 (show l.length < 18446744073709551616 by omega)
  have hml : l.length * 16 ≤ 140737488355328 := hr.max
  have HR := Lib.hid hr
  have HB := Lib.hid hb
  have HW := Lib.hid hw
  have HV := Lib.hid hv
  have NA := Lib.hid na
  have NN := Lib.hid nn
  have HBD := Lib.hid hbd
  clear hr hb hw hv na nn hbd
  go_enter Try.func129, Try.ntmps129
  go_wp2_with fail
  refine (vecValid_any A c l _ (HR.out.below HB.out) NN.out).mono ?_
  rintro e w1 ⟨rfl, hb1⟩
  rw [HV.out]
  have W1 := Lib.hid (HW.out.below hb1)
  have B1 := Lib.hid (Below.mono hb1 HB.out.size)
  clear hb1
  go_wp2_with fail
  refine (uint_any w0.heap.size g bs l.length (by omega) _ W1.out (by omega)).mono ?_
  rintro e w2 ⟨rfl, hw2, hb2, _⟩
  have W2 := Lib.hid hw2
  have B2 := Lib.hid (B1.out.trans hb2)
  clear hw2 hb2
  go_wp2
  go_loopw [19] (fun ii w' => ∃ i : Nat, ii = .int .i64 i ∧ i ≤ l.length ∧ Hid (Wr w' w0.heap.size g (bs ++ uintU l.length ++ (l.take i).flatMap dotU)) ∧ Hid (Below w0.heap.size w w')) (fun ii _ => l.length - (intOf ii).toNat)
  case atStart => exact ⟨0, rfl, Nat.zero_le _, Lib.hid (by simpa using W2.out), B2⟩
  case round =>
    obtain ⟨i, rfl, hi, hw3, hb3⟩ := hrel
    by_cases hlt : i < l.length
    · have i0 : (0 : Int) ≤ (i : Int) := by omega
      have i1 : (i : Int) < (l.length : Int) := by omega
      obtain ⟨ad, eA, _, x0, x1⟩ := dot_at (HR.out.below (HB.out.trans hb3.out)) i hlt
      have hx := NA.out _ (List.getElem_mem hlt)
      have hy := HBD.out _ (List.getElem_mem hlt)
      have hz := NN.out _ (List.getElem_mem hlt)
      have hlen : ((l.take i).flatMap dotU).length ≤ 1280 := by
        have := dots_len (l.take i) (fun d hd => HBD.out d (List.mem_of_mem_take hd))
        simp at this ⊢; omega
      have hbl : (bs ++ uintU l.length ++ (l.take i).flatMap dotU).length ≤ 1050000 := by simp only [List.length_append]; omega
      have HSN := Lib.hid (dots_snoc hlt)
      obtain ⟨p, hp⟩ : ∃ p : Nat, l[i].a = p := ⟨l[i].a.toNat, by omega⟩
      obtain ⟨q, hq⟩ : ∃ q : Nat, l[i].n = q := ⟨l[i].n.toNat, by omega⟩
      have hp2 : p ≤ 4294967295 := by omega
      have hq2 : q ≤ 1099511627776 := by omega
      have e1 : IntKind.u64.wrap (p : Int) = (p : Int) := IntWalk.u64_in _ (by omega)
      have HSP := Lib.hid (show l[i].a.toNat = p by omega)
      have HSQ := Lib.hid (show l[i].n.toNat = q by omega)
      rw [hp] at x0
      rw [hq] at x1
      subst eA
      clear hp hq hx hy hz
      have hs3 : w0.heap.size ≤ wr.heap.size := Nat.le_trans HB.out.size hb3.out.size
      go_wp2_with fail
      obtain ⟨W4, hW4⟩ : ∃ W : World, W = wr.alloc (.cells #[.int .u32 p, .int .u64 q] 41) := ⟨_, rfl⟩
      rw [← hW4]
      have L4 : Hid (Below wr.heap.size wr W4) := Lib.hid (by rw [hW4]; exact (by repeat (first | exact Below.refl _ _ | refine bl_drewN ?_ _ | refine bl_drew ?_ | refine bl_alloc ?_ _)))
      have X4 : Hid (GR.Blk W4 wr.heap.size 41 #[.int .u32 p, .int .u64 q]) := Lib.hid (by rw [hW4]; exact GR.Blk.new _ _ _)
      clear hW4 x0 x1
      have W4w := Lib.hid (hw3.out.below L4.out)
      refine (uint_any w0.heap.size g _ p (by omega) _ W4w.out (by omega)).mono ?_
      rintro e w5 ⟨rfl, hw5, hb5, kp5⟩
      have hgw : wr.heap.size ≠ g := fun e => by
        obtain ⟨_, v, bg, _⟩ := hw3.out
        have := bg.lt; omega
      have X5 := Lib.hid (kp5 _ _ _ X4.out (by decide) hgw)
      have y0 : w5.cell? ⟨wr.heap.size, 0, none⟩ = some (.int .u32 p) := X5.out.cell 0
      have y1 : w5.cell? ⟨wr.heap.size, 1, none⟩ = some (.int .u64 q) := X5.out.cell 1
      have W5 := Lib.hid hw5
      have B5 := Lib.hid ((Below.mono L4.out hs3).trans hb5)
      have u1 := uintU_len10 (show p < 18446744073709551616 by omega)
      clear hw5 hb5 kp5
      go_wp2_with fail
      refine (uint_any w0.heap.size g _ q (by omega) _ W5.out (by rw [List.length_append]; omega)).mono ?_
      rintro e w6 ⟨rfl, hw6, hb6, _⟩
      have W6 := Lib.hid hw6
      have B6 := Lib.hid (hb3.out.trans (B5.out.trans hb6))
      clear hw6 hb6
      go_wp2
      go_roundw
      case rel => exact ⟨i + 1, by go_num, by omega, Lib.hid (by rw [HSN.out, HSP.out, HSQ.out]; simpa only [List.append_assoc] using W6.out), B6⟩
      case measure => simp [intOf]; omega
    · obtain rfl : i = l.length := by omega
      have W7 := Lib.hid (show Wr wr w0.heap.size g (bs ++ vecU l) by have := hw3.out; rw [List.take_length, List.append_assoc] at this; exact this)
      go_wp2
      go_ret
      exact ⟨rfl, W7.out, hb3.out⟩
end Go.Proofs.Ytljfigikkajlnaa
namespace Go.Proofs.Ytljfigikkajlnaa
open Go.RowKit Go.Lib
set_option linter.unusedVariables false
set_option linter.unusedSimpArgs false
theorem sizeL (L : List UInt8) : (⟨L.toArray⟩ : ByteArray).size = L.length := by simp [ByteArray.size]
theorem scat (L M : List UInt8) (h : L.length + M.length ≤ 1000000) : ∀ W, (Op.stringOp .add ⟨L.toArray⟩ ⟨M.toArray⟩).run Try.prog W = .ok (.string ⟨(L ++ M).toArray⟩) W := fun W => by
  rw [run_string_add_sum W _ _ (by rw [sizeL, sizeL]; omega)]
  have := strApp ⟨M.toArray⟩ L
  simpa using congrArg (fun z => Result.ok (Value.string z) W) this
set_option maxRecDepth 100000 in
set_option maxHeartbeats 3200000 in
theorem refVEnc_any (A : Option Addr) (c : Nat) (l : List Dot) (w : World) (ha : GR.Rd dotK w A l) (hv : vecB l = true) (ra : ∀ d ∈ l, 0 ≤ d.a ∧ d.a ≤ 4294967295) :
    Calls Try.prog 108 #[.slice A l.length c] w fun e w' => e = .returned (.tuple #[.string ⟨(vecU l).toArray⟩, .int .i64 0]) ∧ Below w.heap.size w w' := by
  have h64 : l.length ≤ 64 := vec_len hv
  have nn : ∀ d ∈ l, 0 ≤ d.n := fun d hd => by have := (vec_ok hv d hd).1; omega
  have hbd : ∀ d ∈ l, d.a ≤ 4294967295 ∧ d.n ≤ 1099511627776 := fun d hd => ⟨(ra d hd).2, (vec_ok hv d hd).2⟩
  have u10 := uintU_len10 (show l.length < 18446744073709551616 by omega)
  have hml : l.length * 16 ≤ 140737488355328 := ha.max
  have e0 : IntKind.u64.wrap (l.length : Int) = (l.length : Int) := IntWalk.u64_in _ (by omega)
  have HA := Lib.hid ha
  have HV := Lib.hid hv
  have RA := Lib.hid ra
  have NN := Lib.hid nn
  have HBD := Lib.hid hbd
  clear ha hv ra nn hbd
  go_enter Try.func108, Try.ntmps108
  go_wp2_with fail
  refine (refVec_bl A c l _ HA.out NN.out).mono ?_
  rintro e w1 ⟨rfl, hb1⟩
  rw [HV.out]
  have B1 := Lib.hid hb1
  clear hb1
  go_wp2_with fail
  refine (refUint_any l.length (by omega) _).mono ?_
  rintro e w2 ⟨rfl, hb2⟩
  have B2 := Lib.hid (bl_then B1.out hb2)
  clear hb2 e0
  go_wp2
  go_loopw [4, 5] (fun s0 ii w' => ∃ (i : Nat) (S : List UInt8), s0 = .string ⟨S.toArray⟩ ∧ ii = .int .i64 i ∧ i ≤ l.length ∧ Hid (S = uintU l.length ++ (l.take i).flatMap dotU) ∧ Hid (Below w.heap.size w w')) (fun _ ii _ => l.length - (intOf ii).toNat)
  case atStart => exact ⟨0, _, rfl, rfl, Nat.zero_le _, Lib.hid (by simp), B2⟩
  case round =>
    obtain ⟨i, S, rfl, rfl, hi, hS, hb3⟩ := hrel
    by_cases hlt : i < l.length
    · have i0 : (0 : Int) ≤ (i : Int) := by omega
      have i1 : (i : Int) < (l.length : Int) := by omega
      obtain ⟨ad, eA, _, x0, x1⟩ := dot_at (HA.out.below hb3.out) i hlt
      have hx := RA.out _ (List.getElem_mem hlt)
      have hy := HBD.out _ (List.getElem_mem hlt)
      have hz := NN.out _ (List.getElem_mem hlt)
      have hlen : S.length ≤ 1300 := by
        have := dots_len (l.take i) (fun d hd => HBD.out d (List.mem_of_mem_take hd))
        rw [hS.out, List.length_append]
        simp at this ⊢; omega
      have HSN := Lib.hid (dots_snoc hlt)
      obtain ⟨p, hp⟩ : ∃ p : Nat, l[i].a = p := ⟨l[i].a.toNat, by omega⟩
      obtain ⟨q, hq⟩ : ∃ q : Nat, l[i].n = q := ⟨l[i].n.toNat, by omega⟩
      have hp2 : p ≤ 4294967295 := by omega
      have hq2 : q ≤ 1099511627776 := by omega
      have e1 : IntKind.u64.wrap (p : Int) = (p : Int) := IntWalk.u64_in _ (by omega)
      have HSP := Lib.hid (show l[i].a.toNat = p by omega)
      have HSQ := Lib.hid (show l[i].n.toNat = q by omega)
      have u1 := uintU_len10 (show p < 18446744073709551616 by omega)
      have u2 := uintU_len10 (show q < 18446744073709551616 by omega)
      have hc1 := scat S (uintU p) (by omega)
      have hc2 := scat (S ++ uintU p) (uintU q) (by rw [List.length_append]; omega)
      rw [hp] at x0
      rw [hq] at x1
      subst eA
      clear hp hq hx hy hz u1 u2
      have ox0 := over_cell x0
      have ox1 := over_cell x1
      clear x0 x1
      go_wp2
      refine over_region (W := wr) (by kernel_rfl) (by kernel_rfl) (by repeat (first | exact Below.refl _ _ | refine bl_drewN ?_ _ | refine bl_drew ?_ | refine bl_alloc ?_ _)) ?_
      repeat (go_big_quiet_step (refine over_of (refUint_any _ (by omega) _)))
      refine wpQuiet_nil ?_
      intro _ hx_
      obtain ⟨x_, hx_⟩ := hx_
      subst hx_
      obtain ⟨w8, hb8⟩ := x_
      dsimp only
      have B8 := Lib.hid (bl_then hb3.out hb8)
      clear hb8 hc1 hc2
      go_wp2
      go_roundw
      case rel => exact ⟨i + 1, _, rfl, by go_num, by omega, Lib.hid (by rw [HSN.out, HSP.out, HSQ.out, hS.out]; simp only [List.append_assoc]), B8⟩
      case measure => simp [intOf]; omega
    · obtain rfl : i = l.length := by omega
      have HK := Lib.hid (show S = vecU l by rw [hS.out, List.take_length]; rfl)
      go_wp2
      try rw [Exit.noGoto_ret]
      exact bodyPost_ret (v := .tuple #[.string ⟨S.toArray⟩, .int .i64 0]) (by simp [results, Try.results108, go_sem]) rfl ⟨by rw [HK.out], hb3.out⟩
end Go.Proofs.Ytljfigikkajlnaa
