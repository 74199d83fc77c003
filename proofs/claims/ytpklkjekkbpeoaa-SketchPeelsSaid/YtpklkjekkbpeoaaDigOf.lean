/- DERIVED. The digest of a text: the program's Of. -/
import Derived.Test.YtpklkjekkbpeoaaDigWrite
namespace Go.Proofs.Ytpklkjekkbpeoaa
open Go.RowKit
set_option linter.unusedVariables false
set_option linter.unusedSimpArgs false
attribute [local go_sem high] w_shl w_shr u32_byte u8_word
attribute [local irreducible] arrW arrB hashC wpList Code.wp

theorem z74 : (Try.prog.info? 115).map (fun i => (i.zero, i.size)) = some (some (.agg (hashC (fun _ => 0) (fun _ => 0) 0 0)), 74) := by
  unfold hashC
  kernel_rfl
set_option maxRecDepth 100000 in
theorem new_any (w : World) : Calls Try.prog 51 #[] w fun e w' => ∃ g, e = .returned (.pointer (some ⟨g, 0, none⟩)) ∧ w.heap.size ≤ g ∧ Blk w' g 115 (hashC h0 (fun _ => 0) 0 0) ∧ Below w.heap.size w w' := by
  go_enter Try.func51, Try.ntmps51
  go_wp2_with (first
    | (go_at_call 70; refine (start_any w).mono ?_; rintro e W1 ⟨rfl, L_⟩; have L1 := Lib.hid L_; clear L_)
    | (refine wpList_buildTo rfl 115 _ rfl _ rfl (hashC h0 (fun _ => 0) 0 0) (by kernel_rfl) ?_)
    | (refine box_arr (w := W1) rfl 115 _ rfl (hashC h0 (fun _ => 0) 0 0) rfl ?_; intro W2 B_ L_ S_; have B2 := Lib.hid B_; have L2 := Lib.hid L_; clear B_ L_ S_))
  go_ret
  exact ⟨_, rfl, L1.out.size, B2.out, bl_then L1.out L2.out⟩
theorem range_list (l : List UInt8) : (List.range l.length).map (fun j => l.getD j 0) = l := by
  apply List.ext_getElem?
  intro j
  rw [List.getElem?_map]
  by_cases h : j < l.length
  · rw [List.getElem?_range h, Option.map_some, List.getD_eq_getElem?_getD, List.getElem?_eq_getElem h]; rfl
  · rw [List.getElem?_eq_none (by simpa using h), List.getElem?_eq_none (by omega)]; rfl
set_option maxRecDepth 100000 in
theorem text_any (gH held0 n0 : Nat) (st0 : Nat → W32) (rest0 : Nat → UInt8) (l0 : List UInt8) (s : ByteArray) (w : World) (hH : Blk w gH 115 (hashC st0 rest0 held0 n0)) (hA : Abs st0 rest0 held0 l0) (hs : s.size ≤ 70368744177664) (hn : n0 ≤ 70368744177664) :
    Calls Try.prog 52 #[.pointer (some ⟨gH, 0, none⟩), .string s] w fun e w' => e = .returned (.tuple #[]) ∧ (∃ st rest held, Abs st rest held (l0 ++ s.data.toList) ∧ Blk w' gH 115 (hashC st rest held (n0 + s.size))) ∧ w.grownBy w' (some gH) := by
  have HH := Lib.hid hH
  have HA := Lib.hid hA
  clear hH hA
  have hlen : s.data.toList.length = s.size := by rw [Array.length_toList]; rfl
  have HLN := Lib.hid hlen
  clear hlen
  go_enter Try.func52, Try.ntmps52
  go_wp2_with (refine conv_ownM (w := w) rfl 9 72 _ rfl s rfl Try.underlying9 Try.underlying72 Try.underlying5 (by omega) ?_; intro v2 W2 O_ L_; obtain ⟨g2, c2, e2, hB2, hc2, hm2, hcl⟩ := O_.form; subst e2; rw [HLN.out]; have H2 := Lib.hid hB2; have HC := Lib.hid (show s.size ≤ c2 ∧ c2 < 9223372036854775808 from ⟨by rw [← HLN.out]; exact hc2, by simp only [maxLen] at hm2; omega⟩); have HB := Lib.hid (show Byt W2 ⟨g2, 0, none⟩ s.size (fun j => s.data.toList.getD j 0) from fun j hj => by rw [add_plain]; exact hcl j (by rw [HLN.out]; exact hj)); have L2 := Lib.hid L_; clear O_ L_ hB2 hc2 hm2 hcl)
  refine (write_any gH g2 0 s.size c2 held0 n0 st0 rest0 (fun j => s.data.toList.getD j 0) l0 W2 (HH.out.below L2.out HH.out.lt) HA.out HB.out (fun _ => by have := H2.out; have := HH.out.lt; omega) HC.out.1 (by omega) HC.out.2).mono ?_
  rintro e W3 ⟨rfl, ⟨st, rest, held, hA3, hB3⟩, hG⟩
  have hrl := range_list s.data.toList
  rw [HLN.out] at hrl
  rw [hrl] at hA3
  have HA3 := Lib.hid hA3
  have HB3 := Lib.hid hB3
  have HG := Lib.hid hG
  clear hA3 hB3 hG hrl
  go_wp2
  go_end0
  exact ⟨rfl, ⟨st, rest, held, HA3.out, HB3.out⟩, grown_step (grown_of_bl L2.out (some gH)) HG.out (.inl rfl)⟩
end Go.Proofs.Ytpklkjekkbpeoaa
