/- DERIVED. The order of texts, in plain words. The document's Valid, Count, Covers of dots. A region that draws its order, whose operations read and whose calls make memory of their own alone: one walk in the order of the text (the guide's 'wp_region_quiet' at the class of the worlds above one). The document's Encode of a vector. -/
import Derived.Test.YtljfigikkajlnaaVm3
import Derived.Test.YtljfigikkajlnaaVm11
import Derived.Test.YtljfigikkajlnaaVm5
import Derived.Test.YtljfigikkajlnaaProg
import Derived.Lib.Strings
import Derived.Below
import Derived.Deep.Draws
import Derived.Deep.AppendLies
import Derived.Maps.AppendAt
import Derived.OwnWalk
import Derived.Laws.OwnMore
import Derived.Laws.Rows
import Derived.WalkKit
import Derived.KernelRfl
import Derived.Deep.QuietTactic
import Derived.BigQuiet
import Derived.Deep.RegionHeld3
import Derived.WalkLawsBesides
import Derived.WalkSpells
import Derived.Lib.Hide
import Derived.Outline
import Derived.RegionCalls
import Derived.Lib.Bytealg
import Derived.Laws.Runes
import Derived.WalkMore
import Derived.Deep.Cut
import Derived.Deep.CutRange
namespace Go.Proofs.Ytljfigikkajlnaa
open Go.RowKit
set_option linter.unusedVariables false
set_option linter.unusedSimpArgs false
/-- A key stands ahead of another one. -/
def ltK (a b : ByteArray) : Bool := Op.bytesLess a.data.toList b.data.toList
theorem bytes_ltK (a b : ByteArray) : Op.bytesLess a.toList b.toList = ltK a b := by rw [ByteArray.toList_eq, ByteArray.toList_eq]; rfl
end Go.Proofs.Ytljfigikkajlnaa
namespace Go.Proofs.Ytljfigikkajlnaa
open Go.RowKit
set_option linter.unusedVariables false
set_option linter.unusedSimpArgs false
set_option maxRecDepth 100000 in
set_option maxHeartbeats 1600000 in
theorem refVec_any (A : Option Addr) (c : Nat) (l : List Dot) (w : World) (hr : GR.Rd dotK w A l) (hn : ∀ d ∈ l, 0 ≤ d.n) :
    Calls Try.prog 78 #[.slice A l.length c] w fun e w' => e = .returned (.bool (vecB l)) ∧ Drawn w w' := by
  have hmax : l.length * 16 ≤ 140737488355328 := hr.max
  have HR := Lib.hid hr
  have HN := Lib.hid hn
  clear hr hn
  by_cases h64 : l.length ≤ 64
  · have g0 : decide (64 < (l.length : Int)) = false := by simp; omega
    have g1 : decide (64 < l.length) = false := by simp; omega
    go_enter Try.func78, Try.ntmps78
    go_wp2
    go_loopw [3] (fun i w' => ∃ k : Nat, k ≤ l.length ∧ i = .int .i64 k ∧ Hid (chainB dOk ltA (l.take k) = true) ∧ Hid (Drawn w w')) (fun i _ => l.length - (intOf i).toNat)
    case atStart => exact ⟨0, Nat.zero_le _, rfl, Lib.hid (chain_zero _ _ _), Lib.hid (Drawn.refl _)⟩
    case round =>
      obtain ⟨k, hk, rfl, hok, hw⟩ := hrel
      have HR1 := Lib.hid (HR.out.below (hw.out.below w.heap.size))
      by_cases hlt : k < l.length
      · have i0 : (0 : Int) ≤ (k : Int) := by omega
        have i1 : (k : Int) < (l.length : Int) := by omega
        have n0 := HN.out l[k] (List.getElem_mem hlt)
        by_cases hD : dOk l[k] = true
        · have hD1 : 1 ≤ l[k].n ∧ l[k].n ≤ 1099511627776 := by simpa [dOk] using hD
          have t1 : decide (l[k].n < 1) = false := by simp; omega
          have t2 : decide (1099511627776 < l[k].n) = false := by simp; omega
          rcases k with _ | m
          · have HV := Lib.hid (show chainB dOk ltA (l.take 1) = true by rw [chain_one _ _ _ hlt]; exact hD)
            obtain ⟨ad, rfl, hb0, c0, c1⟩ := dot_head HR1.out hlt
            clear hD hD1
            go_wp2
            go_quiet (fail)
            go_wp2
            go_roundw
            case rel => exact ⟨1, by omega, rfl, HV, Lib.hid (hw.out.drewN _)⟩
            case measure => simp [intOf]; omega
          · replace i0 : (0 : Int) ≤ (m : Int) + 1 := by omega
            replace i1 : (m : Int) + 1 < (l.length : Int) := by omega
            have i2 : (0 : Int) ≤ (m : Int) := by omega
            have i3 : (m : Int) < (l.length : Int) := by omega
            obtain ⟨ad, e0, hb0, c0, c1⟩ := dot_at HR1.out (m + 1) hlt
            subst e0
            obtain ⟨ad', e0, hb1, d0, d1⟩ := dot_at HR1.out m (by omega)
            cases e0
            have hs := chain_succ dOk ltA l (m + 1) (by omega) hlt
            simp only [Nat.add_sub_cancel, hok.out, hD, Bool.true_and] at hs
            by_cases hL : l[m].a < l[m + 1].a
            · have HV := Lib.hid (show chainB dOk ltA (l.take (m + 1 + 1)) = true by rw [hs]; simp [ltA, hL])
              have t3 : decide (l[m + 1].a ≤ l[m].a) = false := by simp; omega
              clear hs hL hD hD1
              go_wp2
              go_quiet (fail)
              go_wp2
              go_roundw
              case rel => exact ⟨m + 2, by omega, by go_num, HV, Lib.hid (hw.out.drewN _)⟩
              case measure => simp [intOf]; omega
            · have HV := Lib.hid (vec_fail (l := l) (k := m + 1 + 1) (by rw [hs]; simp [ltA, hL]))
              have t3 : decide (l[m + 1].a ≤ l[m].a) = true := by simp; omega
              clear hs hL hD hD1
              go_wp2
              go_quiet (fail)
              go_wp2
              go_ret
              exact ⟨ret_bool HV.out.symm, hw.out.drewN _⟩
        · have HV := Lib.hid (vec_fail (l := l) (k := k + 1) (by
            rcases k with _ | m
            · rw [chain_one _ _ _ hlt]; simpa using hD
            · rw [chain_succ _ _ _ _ (by omega) hlt]; simp [hD]))
          have hD1 : l[k].n < 1 ∨ 1099511627776 < l[k].n := by
            simp only [dOk, Bool.and_eq_true, decide_eq_true_eq] at hD; omega
          obtain ⟨ad, rfl, hb0, c0, c1⟩ := dot_at HR1.out k hlt
          clear hD
          rcases hD1 with h | h
          · have t1 : decide (l[k].n < 1) = true := by simpa using h
            clear h
            go_wp2
            go_quiet (fail)
            go_wp2
            go_ret
            exact ⟨ret_bool HV.out.symm, hw.out.drewN _⟩
          · have t1 : decide (l[k].n < 1) = false := by simp; omega
            have t2 : decide (1099511627776 < l[k].n) = true := by simpa using h
            clear h
            go_wp2
            go_quiet (fail)
            go_wp2
            go_ret
            exact ⟨ret_bool HV.out.symm, hw.out.drewN _⟩
      · obtain rfl : k = l.length := by omega
        have HV := Lib.hid (show vecB l = true by rw [vec_full hok.out]; simpa using h64)
        go_wp2
        go_ret
        exact ⟨ret_bool HV.out.symm, hw.out⟩
  · have HV := Lib.hid (vec_long (l := l) (by omega))
    have g0 : decide (64 < (l.length : Int)) = true := by simp; omega
    have g1 : decide (64 < l.length) = true := by simp; omega
    go_enter Try.func78, Try.ntmps78
    go_wp2
    go_ret
    exact ⟨ret_bool HV.out.symm, Drawn.refl _⟩
theorem look_take {l : List Dot} {k : Nat} {a : Int} (h : ∀ d ∈ l.take k, d.a ≠ a) : look l a = look (l.drop k) a := by
  induction l generalizing k with
  | nil => simp
  | cons x l ih =>
    cases k with
    | zero => rfl
    | succ k =>
      rw [look, if_neg (h x (by simp)), List.drop_succ_cons]
      exact ih fun d hd => h d (by simp [hd])
theorem look_head {l : List Dot} {k : Nat} {a : Int} (h : ∀ d ∈ l.take k, d.a ≠ a) (hk : k < l.length) (he : l[k].a = a) : look l a = l[k].n := by
  rw [look_take h, List.drop_eq_getElem_cons hk, look, if_pos he]
set_option maxRecDepth 100000 in
set_option maxHeartbeats 1600000 in
theorem refCount_any (A : Option Addr) (c : Nat) (l : List Dot) (a : Int) (w : World) (hr : GR.Rd dotK w A l) (hn : ∀ d ∈ l, 0 ≤ d.n) :
    Calls Try.prog 79 #[.slice A l.length c, .int .u32 a] w fun e w' => e = .returned (.int .u64 (cnt l a)) ∧ Drawn w w' := by
  have hmax : l.length * 16 ≤ 140737488355328 := hr.max
  have HR := Lib.hid hr
  have HN := Lib.hid hn
  clear hr hn
  by_cases hv : vecB l = true
  · have HC := Lib.hid (cnt_vec hv a)
    go_enter Try.func79, Try.ntmps79
    go_wp2_with (go_at_call 78; refine (refVec_any _ _ _ _ HR.out HN.out).mono ?_; rintro e w1 ⟨rfl, hd⟩; rw [hv]; obtain ⟨nd, rfl⟩ := hd)
    go_loopw [5] (fun i w' => ∃ k : Nat, k ≤ l.length ∧ i = .int .i64 k ∧ Hid (∀ d ∈ l.take k, d.a ≠ a) ∧ w.drewN nd = w') (fun i _ => l.length - (intOf i).toNat)
    case atStart => exact ⟨0, Nat.zero_le _, rfl, Lib.hid (by simp), rfl⟩
    case round =>
      obtain ⟨k, hk, rfl, hno, rfl⟩ := hrel
      by_cases hlt : k < l.length
      · have i0 : (0 : Int) ≤ (k : Int) := by omega
        have i1 : (k : Int) < (l.length : Int) := by omega
        obtain ⟨ad, rfl, hb0, c0, c1⟩ := dot_at HR.out k hlt
        by_cases he : l[k].a = a
        · have HV := Lib.hid (look_head hno.out hlt he)
          have q0 : (l[k].a == a) = true := by simpa using he
          clear he
          go_wp2
          go_ret
          exact ⟨ret_int (by rw [HC.out, HV.out]), ⟨_, rfl⟩⟩
        · have HV := Lib.hid (show ∀ d ∈ l.take (k + 1), d.a ≠ a by
            rw [List.take_succ_eq_append_getElem hlt]
            intro d hd
            rcases List.mem_append.1 hd with hd | hd
            · exact hno.out d hd
            · simp only [List.mem_singleton] at hd; subst hd; exact he)
          have q0 : (l[k].a == a) = false := by simpa using he
          clear he
          go_wp2
          go_roundw
          case rel => exact ⟨k + 1, by omega, by go_num, HV, by trivial⟩
          case measure => simp [intOf]; omega
      · obtain rfl : k = l.length := by omega
        have HV := Lib.hid (show look l a = 0 from look_none (by have := hno.out; rwa [List.take_length] at this))
        go_wp2
        go_ret
        exact ⟨ret_int (by rw [HC.out, HV.out]), ⟨_, rfl⟩⟩
  · have hv' : vecB l = false := by simpa using hv
    have HC := Lib.hid (cnt_no hv' a)
    clear hv
    go_enter Try.func79, Try.ntmps79
    go_wp2_with (go_at_call 78; refine (refVec_any _ _ _ _ HR.out HN.out).mono ?_; rintro e w1 ⟨rfl, hd⟩; rw [hv']; obtain ⟨nd, rfl⟩ := hd)
    go_ret
    exact ⟨ret_int HC.out.symm, ⟨_, rfl⟩⟩
set_option maxRecDepth 100000 in
set_option maxHeartbeats 1600000 in
theorem refCovers_any (A : Option Addr) (c : Nat) (l : List Dot) (d : Dot) (w : World) (hr : GR.Rd dotK w A l) (hn : ∀ d ∈ l, 0 ≤ d.n) :
    Calls Try.prog 80 #[.slice A l.length c, .agg #[.int .u32 d.a, .int .u64 d.n]] w fun e w' => e = .returned (.bool (cov l d)) ∧ Below w.heap.size w w' := by
  have HR := Lib.hid hr
  have HN := Lib.hid hn
  clear hr hn
  have HR1 := Lib.hid (HR.out.alloc (.cells #[.int .u32 d.a, .int .u64 d.n] 41))
  by_cases h : 1 ≤ d.n
  · have t0 : decide (1 ≤ d.n) = true := by simpa using h
    have HC := Lib.hid (show cov l d = decide (d.n ≤ cnt l d.a) by simp [cov, h])
    clear h
    go_enter Try.func80, Try.ntmps80
    go_wp2
    go_quiet ((go_at_call 79; exact quiet_drawn (refCount_any _ _ _ _ _ (HR1.out.drewN _) HN.out)))
    go_wp2
    go_ret
    exact ⟨ret_bool HC.out.symm, (by repeat (first | exact Below.refl _ _ | refine bl_drewN ?_ _ | refine bl_drew ?_ | refine bl_alloc ?_ _))⟩
  · have t0 : decide (1 ≤ d.n) = false := by simpa using h
    have HC := Lib.hid (show cov l d = false by simp [cov, h])
    clear h
    go_enter Try.func80, Try.ntmps80
    go_wp2
    go_quiet (fail)
    go_wp2
    go_ret
    exact ⟨ret_bool HC.out.symm, (by repeat (first | exact Below.refl _ _ | refine bl_drewN ?_ _ | refine bl_drew ?_ | refine bl_alloc ?_ _))⟩
theorem refVec_bl (A : Option Addr) (c : Nat) (l : List Dot) (w : World) (hr : GR.Rd dotK w A l) (hn : ∀ d ∈ l, 0 ≤ d.n) :
    Calls Try.prog 78 #[.slice A l.length c] w fun e w' => e = .returned (.bool (vecB l)) ∧ Below w.heap.size w w' := (refVec_any A c l w hr hn).mono fun _ _ ⟨h, hd⟩ => ⟨h, hd.below _⟩
end Go.Proofs.Ytljfigikkajlnaa
namespace Go.Proofs.Ytljfigikkajlnaa
open Go.RowKit
set_option linter.unusedVariables false
set_option linter.unusedSimpArgs false
/-- A world in which all that stood in W stands as it was. -/
structure Over (W : World) where
  w : World
  h : Below W.heap.size W w
instance (W : World) : Nonempty (Over W) := ⟨⟨W, Below.refl _ _⟩⟩
theorem over_cell {W : World} {p : Addr} {v : Value} (h : W.cell? p = some v) : ∀ x : Over W, x.w.cell? p = some v := fun x => (x.h.cell (World.block_lt_of_cell? W p h)).trans h
theorem over_at {W : World} {p : Addr} {v : Value} (h : ∀ x : Over W, x.w.cell? p = some v) (w : World) (hb : Below W.heap.size W w) : w.cell? p = some v := h ⟨w, hb⟩
theorem over_next {W : World} {p : Addr} {v : Value} (h : ∀ x : Over W, x.w.cell? p = some v) (w : World) (hb : Below W.heap.size W w) : ∀ x : Over w, x.w.cell? p = some v := over_cell (over_at h w hb)
theorem over_region {P : Program} {W : World} {id : Nat} {Q : Exit → Act → World → Prop} {a : Act} {w : World} {l : List Oper} (hm : P.follows .mixedOrders = true) (hB : Region.lexB .any l.toArray = true) (hW : Below W.heap.size W w)
    (h : wpQuiet P l.toArray (fun w' => ∃ x : Over W, w' = x.w) (fun a' => ∀ w', (∃ x : Over W, w' = x.w) → Q .normal a' w') l a) : (Code.region id l.toArray true).wp P Q a w :=
  wp_region_quiet (C := fun w' => ∃ x : Over W, w' = x.w) hm hB ⟨⟨w.drew, ⟨hW.os, hW.tape, hW.output, hW.size, hW.block⟩⟩, rfl⟩ (by simpa using h)
theorem over_of {P : Program} {f : FuncId} {args : Array Value} {W : World} {x : Over W} {v : Value}
    (h : Calls P f args x.w fun e w' => e = .returned v ∧ Below x.w.heap.size x.w w') : Calls P f args x.w fun e w'' => e = .returned v ∧ ∃ y : Over W, w'' = y.w :=
  h.mono fun _ w' ⟨he, hb⟩ => ⟨he, ⟨w', bl_then x.h hb⟩, rfl⟩
end Go.Proofs.Ytljfigikkajlnaa
namespace Go.Proofs.Ytljfigikkajlnaa
open Go.RowKit Go.Lib
set_option linter.unusedVariables false
set_option linter.unusedSimpArgs false
theorem sizeL (L : List UInt8) : (⟨L.toArray⟩ : ByteArray).size = L.length := by simp [ByteArray.size]
theorem scat (L M : List UInt8) (h : L.length + M.length ≤ 1000000) : ∀ W, (Op.stringOp .add ⟨L.toArray⟩ ⟨M.toArray⟩).run Try.prog W = .ok (.string ⟨(L ++ M).toArray⟩) W := fun W => by
  rw [run_string_add_sum W _ _ (by rw [sizeL, sizeL]; omega)]
  have := strApp ⟨M.toArray⟩ L
  simpa using congrArg (fun z => Result.ok (Value.string z) W) this
set_option maxRecDepth 100000 in
set_option maxHeartbeats 3200000 in
theorem refVEnc_any (A : Option Addr) (c : Nat) (l : List Dot) (w : World) (ha : GR.Rd dotK w A l) (hv : vecB l = true) (ra : ∀ d ∈ l, 0 ≤ d.a ∧ d.a ≤ 4294967295) :
    Calls Try.prog 108 #[.slice A l.length c] w fun e w' => e = .returned (.tuple #[.string ⟨(vecU l).toArray⟩, .int .i64 0]) ∧ Below w.heap.size w w' := by
  have h64 : l.length ≤ 64 := vec_len hv
  have nn : ∀ d ∈ l, 0 ≤ d.n := fun d hd => by have := (vec_ok hv d hd).1; omega
  have hbd : ∀ d ∈ l, d.a ≤ 4294967295 ∧ d.n ≤ 1099511627776 := fun d hd => ⟨(ra d hd).2, (vec_ok hv d hd).2⟩
  have u10 := uintU_len10 (show l.length < 18446744073709551616 by omega)
  have hml : l.length * 16 ≤ 140737488355328 := ha.max
  have e0 : IntKind.u64.wrap (l.length : Int) = (l.length : Int) := IntWalk.u64_in _ (by omega)
  have HA := Lib.hid ha
  have HV := Lib.hid hv
  have RA := Lib.hid ra
  have NN := Lib.hid nn
  have HBD := Lib.hid hbd
  clear ha hv ra nn hbd
  go_enter Try.func108, Try.ntmps108
  go_wp2_with fail
  refine (refVec_bl A c l _ HA.out NN.out).mono ?_
  rintro e w1 ⟨rfl, hb1⟩
  rw [HV.out]
  have B1 := Lib.hid hb1
  clear hb1
  go_wp2_with fail
  refine (refUint_any l.length (by omega) _).mono ?_
  rintro e w2 ⟨rfl, hb2⟩
  have B2 := Lib.hid (bl_then B1.out hb2)
  clear hb2 e0
  go_wp2
  go_loopw [4, 5] (fun s0 ii w' => ∃ (i : Nat) (S : List UInt8), s0 = .string ⟨S.toArray⟩ ∧ ii = .int .i64 i ∧ i ≤ l.length ∧ Hid (S = uintU l.length ++ (l.take i).flatMap dotU) ∧ Hid (Below w.heap.size w w')) (fun _ ii _ => l.length - (intOf ii).toNat)
  case atStart => exact ⟨0, _, rfl, rfl, Nat.zero_le _, Lib.hid (by simp), B2⟩
  case round =>
    obtain ⟨i, S, rfl, rfl, hi, hS, hb3⟩ := hrel
    by_cases hlt : i < l.length
    · have i0 : (0 : Int) ≤ (i : Int) := by omega
      have i1 : (i : Int) < (l.length : Int) := by omega
      obtain ⟨ad, eA, _, x0, x1⟩ := dot_at (HA.out.below hb3.out) i hlt
      have hx := RA.out _ (List.getElem_mem hlt)
      have hy := HBD.out _ (List.getElem_mem hlt)
      have hz := NN.out _ (List.getElem_mem hlt)
      have hlen : S.length ≤ 1300 := by
        have := dots_len (l.take i) (fun d hd => HBD.out d (List.mem_of_mem_take hd))
        rw [hS.out, List.length_append]
        simp at this ⊢; omega
      have HSN := Lib.hid (dots_snoc hlt)
      obtain ⟨p, hp⟩ : ∃ p : Nat, l[i].a = p := ⟨l[i].a.toNat, by omega⟩
      obtain ⟨q, hq⟩ : ∃ q : Nat, l[i].n = q := ⟨l[i].n.toNat, by omega⟩
      have hp2 : p ≤ 4294967295 := by omega
      have hq2 : q ≤ 1099511627776 := by omega
      have e1 : IntKind.u64.wrap (p : Int) = (p : Int) := IntWalk.u64_in _ (by omega)
      have HSP := Lib.hid (show l[i].a.toNat = p by omega)
      have HSQ := Lib.hid (show l[i].n.toNat = q by omega)
      have u1 := uintU_len10 (show p < 18446744073709551616 by omega)
      have u2 := uintU_len10 (show q < 18446744073709551616 by omega)
      have hc1 := scat S (uintU p) (by omega)
      have hc2 := scat (S ++ uintU p) (uintU q) (by rw [List.length_append]; omega)
      rw [hp] at x0
      rw [hq] at x1
      subst eA
      clear hp hq hx hy hz u1 u2
      have ox0 := over_cell x0
      have ox1 := over_cell x1
      clear x0 x1
      go_wp2
      refine over_region (W := wr) (by kernel_rfl) (by kernel_rfl) (by repeat (first | exact Below.refl _ _ | refine bl_drewN ?_ _ | refine bl_drew ?_ | refine bl_alloc ?_ _)) ?_
      repeat (go_big_quiet_step (refine over_of (refUint_any _ (by omega) _)))
      refine wpQuiet_nil ?_
      intro _ hx_
      obtain ⟨x_, hx_⟩ := hx_
      subst hx_
      obtain ⟨w8, hb8⟩ := x_
      dsimp only
      have B8 := Lib.hid (bl_then hb3.out hb8)
      clear hb8 hc1 hc2
      go_wp2
      go_roundw
      case rel => exact ⟨i + 1, _, rfl, by go_num, by omega, Lib.hid (by rw [HSN.out, HSP.out, HSQ.out, hS.out]; simp only [List.append_assoc]), B8⟩
      case measure => simp [intOf]; omega
    · obtain rfl : i = l.length := by omega
      have HK := Lib.hid (show S = vecU l by rw [hS.out, List.take_length]; rfl)
      go_wp2
      try rw [Exit.noGoto_ret]
      exact bodyPost_ret (v := .tuple #[.string ⟨S.toArray⟩, .int .i64 0]) (by simp [results, Try.results108, go_sem]) rfl ⟨by rw [HK.out], hb3.out⟩
end Go.Proofs.Ytljfigikkajlnaa
