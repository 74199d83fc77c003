/- DERIVED. The digest of a text: the program's Of. A number to the base 128 and a text behind its length: the document's Uint and Text. -/
import Derived.Test.YtljfigikkajlnaaVDigWrite
import Derived.Test.YtljfigikkajlnaaVFrmBytes
namespace Go.Proofs.Ytljfigikkajlnaa
open Go.RowKit
set_option linter.unusedVariables false
set_option linter.unusedSimpArgs false
attribute [local go_sem high] w_shl w_shr u32_byte u8_word
attribute [local irreducible] arrW arrB hashC wpList Code.wp
theorem z74 : (Try.prog.info? 156).map (fun i => (i.zero, i.size)) = some (some (.agg (hashC (fun _ => 0) (fun _ => 0) 0 0)), 74) := by
  unfold hashC
  kernel_rfl
set_option maxRecDepth 100000 in
theorem new_any (w : World) : Calls Try.prog 101 #[] w fun e w' => ∃ g, e = .returned (.pointer (some ⟨g, 0, none⟩)) ∧ w.heap.size ≤ g ∧ Blk w' g 156 (hashC h0 (fun _ => 0) 0 0) ∧ Below w.heap.size w w' := by
  go_enter Try.func101, Try.ntmps101
  go_wp2_with (first
    | (go_at_call 126; refine (start_any w).mono ?_; rintro e W1 ⟨rfl, L_⟩; have L1 := Lib.hid L_; clear L_)
    | (refine wpList_buildTo rfl 156 _ rfl _ rfl (hashC h0 (fun _ => 0) 0 0) (by kernel_rfl) ?_)
    | (refine box_arr (w := W1) rfl 156 _ rfl (hashC h0 (fun _ => 0) 0 0) rfl ?_; intro W2 B_ L_ S_; have B2 := Lib.hid B_; have L2 := Lib.hid L_; clear B_ L_ S_))
  go_ret
  exact ⟨_, rfl, L1.out.size, B2.out, bl_then L1.out L2.out⟩
theorem range_list (l : List UInt8) : (List.range l.length).map (fun j => l.getD j 0) = l := by
  apply List.ext_getElem?
  intro j
  rw [List.getElem?_map]
  by_cases h : j < l.length
  · rw [List.getElem?_range h, Option.map_some, List.getD_eq_getElem?_getD, List.getElem?_eq_getElem h]; rfl
  · rw [List.getElem?_eq_none (by simpa using h), List.getElem?_eq_none (by omega)]; rfl
set_option maxRecDepth 100000 in
theorem text_any (gH held0 n0 : Nat) (st0 : Nat → W32) (rest0 : Nat → UInt8) (l0 : List UInt8) (s : ByteArray) (w : World) (hH : Blk w gH 156 (hashC st0 rest0 held0 n0)) (hA : Abs st0 rest0 held0 l0) (hs : s.size ≤ 70368744177664) (hn : n0 ≤ 70368744177664) :
    Calls Try.prog 102 #[.pointer (some ⟨gH, 0, none⟩), .string s] w fun e w' => e = .returned (.tuple #[]) ∧ (∃ st rest held, Abs st rest held (l0 ++ s.data.toList) ∧ Blk w' gH 156 (hashC st rest held (n0 + s.size))) ∧ w.grownBy w' (some gH) := by
  have HH := Lib.hid hH
  have HA := Lib.hid hA
  clear hH hA
  have hlen : s.data.toList.length = s.size := by rw [Array.length_toList]; rfl
  have HLN := Lib.hid hlen
  clear hlen
  go_enter Try.func102, Try.ntmps102
  go_wp2_with (refine conv_ownM (w := w) rfl 9 130 _ rfl s rfl Try.underlying9 Try.underlying130 Try.underlying5 (by omega) ?_; intro v2 W2 O_ L_; obtain ⟨g2, c2, e2, hB2, hc2, hm2, hcl⟩ := O_.form; subst e2; rw [HLN.out]; have H2 := Lib.hid hB2; have HC := Lib.hid (show s.size ≤ c2 ∧ c2 < 9223372036854775808 from ⟨by rw [← HLN.out]; exact hc2, by simp only [maxLen] at hm2; omega⟩); have HB := Lib.hid (show Byt W2 ⟨g2, 0, none⟩ s.size (fun j => s.data.toList.getD j 0) from fun j hj => by rw [add_plain]; exact hcl j (by rw [HLN.out]; exact hj)); have L2 := Lib.hid L_; clear O_ L_ hB2 hc2 hm2 hcl)
  refine (write_any gH g2 0 s.size c2 held0 n0 st0 rest0 (fun j => s.data.toList.getD j 0) l0 W2 (HH.out.below L2.out HH.out.lt) HA.out HB.out (fun _ => by have := H2.out; have := HH.out.lt; omega) HC.out.1 (by omega) HC.out.2).mono ?_
  rintro e W3 ⟨rfl, ⟨st, rest, held, hA3, hB3⟩, hG⟩
  have hrl := range_list s.data.toList
  rw [HLN.out] at hrl
  rw [hrl] at hA3
  have HA3 := Lib.hid hA3
  have HB3 := Lib.hid hB3
  have HG := Lib.hid hG
  clear hA3 hB3 hG hrl
  go_wp2
  go_end0
  exact ⟨rfl, ⟨st, rest, held, HA3.out, HB3.out⟩, grown_step (grown_of_bl L2.out (some gH)) HG.out (.inl rfl)⟩
end Go.Proofs.Ytljfigikkajlnaa
namespace Go.Proofs.Ytljfigikkajlnaa
open Go.RowKit Go.Lib
set_option linter.unusedVariables false
set_option linter.unusedSimpArgs false
def uintU (v : Nat) : List UInt8 := if v < 128 then [UInt8.ofNat v] else UInt8.ofNat (v % 128 + 128) :: uintU (v / 128)
termination_by v
decreasing_by omega
theorem uintU_small {v : Nat} (h : v < 128) : uintU v = [UInt8.ofNat v] := by rw [uintU, if_pos h]
theorem uintU_big {v : Nat} (h : ¬ v < 128) : uintU v = UInt8.ofNat (v % 128 + 128) :: uintU (v / 128) := by rw [uintU, if_neg h]
theorem uintU_len : ∀ (n v : Nat), v < 128 ^ (n + 1) → (uintU v).length ≤ n + 1
  | 0, v, h => by rw [uintU_small (by simpa using h)]; simp
  | n + 1, v, h => by
    by_cases hv : v < 128
    · rw [uintU_small hv]; simp
    · have := uintU_len n (v / 128) (by rw [Nat.pow_succ] at h; omega)
      rw [uintU_big hv, List.length_cons]; omega
theorem uintU_len10 {v : Nat} (h : v < 18446744073709551616) : (uintU v).length ≤ 10 := uintU_len 9 v (Nat.lt_of_lt_of_le h (by decide))
def textU (s : ByteArray) : List UInt8 := uintU s.size ++ s.data.toList
theorem ownN_str {w : World} {B : Nat} {v : Value} {l : List UInt8} (h : OwnN w B v l) : (convert 130 9 v).run Try.prog w = .ok (.string ⟨l.toArray⟩) w := by
  rcases h with ⟨rfl, rfl⟩ | h
  · rw [run_convert_bytes_string w 130 9 5 none 0 0 Try.underlying130 Try.underlying5 Try.underlying9]
    rfl
  · obtain ⟨g, cap, rfl, _, _, _, hc⟩ := h.form
    refine run_convert_bytes_back w 130 9 5 ⟨g, 0, none⟩ cap l Try.underlying130 Try.underlying5 Try.underlying9 (fun j hj => ?_)
    rw [add_plain, hc j hj, List.getD_eq_getElem?_getD, List.getElem?_eq_getElem hj]
    rfl
section
variable {ops : Array Oper} {rest : List Oper} {o : Oper} {a : Act} {Q : Exit → Act → World → Prop}
theorem app1 {W : World} (hgd : o.guard = none) (s x : Operand) (ho : o.op = .call { callee := .builtin .append, args := #[s, x], argTypes := #[130, 130] })
    (B : Nat) (v : Value) (l : List UInt8) (hs : a.eval s = v) (hown : OwnN W B v l) (n : Int) (x8 : UInt8) (hx : a.eval x = .slice (some ⟨W.heap.size, 0, none⟩) 1 1) (hn : n = bv x8) (hb : l.length + 1 ≤ 140737488355328) (hbase : B ≤ W.heap.size)
    (h : ∀ v' w', OwnN w' B v' (l ++ [x8]) → W.grownBy w' v.ownBlock → wpList Try.prog ops Q rest (a.put o.dst v') w') : wpList Try.prog ops Q (o :: rest) a (W.alloc (.cells #[.int .u8 n] 5)) := by
  refine wpList_plain hgd fun K hK => ?_
  have hc : (W.alloc (.cells #[.int .u8 n] 5)).cell? ⟨W.heap.size, 0, none⟩ = some (.int .u8 (bv x8)) := by
    rw [cell_of_row _ W.heap.size 0 #[.int .u8 n] 5 (0, 0) (heap_alloc_new W _), hn]; rfl
  obtain ⟨v', w', hr, h2, h3⟩ := run_app1 o.type (hown.alloc (.cells #[.int .u8 n] 5)) ⟨W.heap.size, 0, none⟩ 1 x8 hc hb (by simp; omega)
  unfold Oper.wp execOp
  simp only [ho, resolve, invoke, builtin, Sem.run_bind, Sem.run_pure, Result.andThen_ok, List.map_toArray, List.map_cons, List.map_nil, hs, hx, hr]
  exact hK _ _ (h v' w' h2 (GR.grown_step (GR.grown_of_bl ((Below.refl _ _).alloc (Nat.le_refl _) _) v.ownBlock) h3 (.inl rfl)))
theorem appS {w : World} (hgd : o.guard = none) (s x : Operand) (ho : o.op = .call { callee := .builtin .append, args := #[s, x], argTypes := #[130, 9] })
    (B : Nat) (v : Value) (l : List UInt8) (hs : a.eval s = v) (hown : OwnN w B v l) (t : ByteArray) (hx : a.eval x = .string t) (hb : l.length + t.size ≤ 140737488355328) (hbase : B ≤ w.heap.size)
    (h : ∀ v' w', OwnN w' B v' (l ++ t.data.toList) → w.grownBy w' v.ownBlock → wpList Try.prog ops Q rest (a.put o.dst v') w') : wpList Try.prog ops Q (o :: rest) a w := by
  refine wpList_plain hgd fun K hK => ?_
  obtain ⟨v', w', hr, h2, h3⟩ := run_appS o.type hown t hb hbase
  unfold Oper.wp execOp
  simp only [ho, resolve, invoke, builtin, Sem.run_bind, Sem.run_pure, Result.andThen_ok, List.map_toArray, List.map_cons, List.map_nil, hs, hx, hr]
  exact hK _ _ (h v' w' h2 h3)
end
end Go.Proofs.Ytljfigikkajlnaa
