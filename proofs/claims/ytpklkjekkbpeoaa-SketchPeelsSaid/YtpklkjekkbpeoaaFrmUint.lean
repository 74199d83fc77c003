/- DERIVED. A number to the base 128 and a text behind its length: the document's Uint and Text. -/
import Derived.Test.YtpklkjekkbpeoaaFrmBytes
namespace Go.Proofs.Ytpklkjekkbpeoaa
open Go.RowKit Go.Lib
set_option linter.unusedVariables false
set_option linter.unusedSimpArgs false

def uintU (v : Nat) : List UInt8 := if v < 128 then [UInt8.ofNat v] else UInt8.ofNat (v % 128 + 128) :: uintU (v / 128)
termination_by v
decreasing_by omega
theorem uintU_small {v : Nat} (h : v < 128) : uintU v = [UInt8.ofNat v] := by rw [uintU, if_pos h]
theorem uintU_big {v : Nat} (h : ¬ v < 128) : uintU v = UInt8.ofNat (v % 128 + 128) :: uintU (v / 128) := by rw [uintU, if_neg h]
theorem uintU_len : ∀ (n v : Nat), v < 128 ^ (n + 1) → (uintU v).length ≤ n + 1
  | 0, v, h => by rw [uintU_small (by simpa using h)]; simp
  | n + 1, v, h => by
    by_cases hv : v < 128
    · rw [uintU_small hv]; simp
    · have := uintU_len n (v / 128) (by rw [Nat.pow_succ] at h; omega)
      rw [uintU_big hv, List.length_cons]; omega
theorem uintU_len10 {v : Nat} (h : v < 18446744073709551616) : (uintU v).length ≤ 10 := uintU_len 9 v (Nat.lt_of_lt_of_le h (by decide))
def textU (s : ByteArray) : List UInt8 := uintU s.size ++ s.data.toList

theorem ownN_str {w : World} {B : Nat} {v : Value} {l : List UInt8} (h : OwnN w B v l) : (convert 72 9 v).run Try.prog w = .ok (.string ⟨l.toArray⟩) w := by
  rcases h with ⟨rfl, rfl⟩ | h
  · rw [run_convert_bytes_string w 72 9 5 none 0 0 Try.underlying72 Try.underlying5 Try.underlying9]
    rfl
  · obtain ⟨g, cap, rfl, _, _, _, hc⟩ := h.form
    refine run_convert_bytes_back w 72 9 5 ⟨g, 0, none⟩ cap l Try.underlying72 Try.underlying5 Try.underlying9 (fun j hj => ?_)
    rw [add_plain, hc j hj, List.getD_eq_getElem?_getD, List.getElem?_eq_getElem hj]
    rfl

section
variable {ops : Array Oper} {rest : List Oper} {o : Oper} {a : Act} {Q : Exit → Act → World → Prop}
theorem app1 {W : World} (hgd : o.guard = none) (s x : Operand) (ho : o.op = .call { callee := .builtin .append, args := #[s, x], argTypes := #[72, 72] })
    (B : Nat) (v : Value) (l : List UInt8) (hs : a.eval s = v) (hown : OwnN W B v l) (n : Int) (x8 : UInt8) (hx : a.eval x = .slice (some ⟨W.heap.size, 0, none⟩) 1 1) (hn : n = bv x8) (hb : l.length + 1 ≤ 140737488355328) (hbase : B ≤ W.heap.size)
    (h : ∀ v' w', OwnN w' B v' (l ++ [x8]) → W.grownBy w' v.ownBlock → wpList Try.prog ops Q rest (a.put o.dst v') w') : wpList Try.prog ops Q (o :: rest) a (W.alloc (.cells #[.int .u8 n] 5)) := by
  refine wpList_plain hgd fun K hK => ?_
  have hc : (W.alloc (.cells #[.int .u8 n] 5)).cell? ⟨W.heap.size, 0, none⟩ = some (.int .u8 (bv x8)) := by
    rw [cell_of_row _ W.heap.size 0 #[.int .u8 n] 5 (0, 0) (heap_alloc_new W _), hn]; rfl
  obtain ⟨v', w', hr, h2, h3⟩ := run_app1 o.type (hown.alloc (.cells #[.int .u8 n] 5)) ⟨W.heap.size, 0, none⟩ 1 x8 hc hb (by simp; omega)
  unfold Oper.wp execOp
  simp only [ho, resolve, invoke, builtin, Sem.run_bind, Sem.run_pure, Result.andThen_ok, List.map_toArray, List.map_cons, List.map_nil, hs, hx, hr]
  exact hK _ _ (h v' w' h2 (GR.grown_step (GR.grown_of_bl ((Below.refl _ _).alloc (Nat.le_refl _) _) v.ownBlock) h3 (.inl rfl)))
theorem appS {w : World} (hgd : o.guard = none) (s x : Operand) (ho : o.op = .call { callee := .builtin .append, args := #[s, x], argTypes := #[72, 9] })
    (B : Nat) (v : Value) (l : List UInt8) (hs : a.eval s = v) (hown : OwnN w B v l) (t : ByteArray) (hx : a.eval x = .string t) (hb : l.length + t.size ≤ 140737488355328) (hbase : B ≤ w.heap.size)
    (h : ∀ v' w', OwnN w' B v' (l ++ t.data.toList) → w.grownBy w' v.ownBlock → wpList Try.prog ops Q rest (a.put o.dst v') w') : wpList Try.prog ops Q (o :: rest) a w := by
  refine wpList_plain hgd fun K hK => ?_
  obtain ⟨v', w', hr, h2, h3⟩ := run_appS o.type hown t hb hbase
  unfold Oper.wp execOp
  simp only [ho, resolve, invoke, builtin, Sem.run_bind, Sem.run_pure, Result.andThen_ok, List.map_toArray, List.map_cons, List.map_nil, hs, hx, hr]
  exact hK _ _ (h v' w' h2 h3)
end

set_option maxRecDepth 100000 in
set_option maxHeartbeats 3200000 in
theorem refUint_any (v : Nat) (hv : v < 18446744073709551616) (w : World) :
    Calls Try.prog 59 #[.int .u64 v] w fun e w' => e = .returned (.string ⟨(uintU v).toArray⟩) ∧ Below w.heap.size w w' := by
  have hl10 := uintU_len10 hv
  go_enter Try.func59, Try.ntmps59
  go_wp2
  go_loopw [0, 3] (fun x0 b0 w' => ∃ (k : Nat) (b : Value) (acc : List UInt8), x0 = .int .u64 k ∧ b = b0 ∧ k < 18446744073709551616 ∧ Hid (acc ++ uintU k = uintU v) ∧ Hid (OwnN w' w.heap.size b acc) ∧ Hid (Below w.heap.size w w')) (fun x0 _ _ => (intOf x0).toNat)
  case atStart => exact ⟨v, _, [], rfl, rfl, hv, Lib.hid (by simp), Lib.hid (OwnN.nil _ _), Lib.hid (Below.refl _ _)⟩
  case round =>
    obtain ⟨k, b, acc, rfl, rfl, hk, hE, ho, hb⟩ := hrel
    have hsz := hb.out.size
    by_cases hlt : k < 128
    · have hal : acc.length + 1 ≤ 10 := by
        have h9 := congrArg List.length hE.out
        rw [uintU_small hlt] at h9
        simp at h9; omega
      have t1 : decide ((128 : Int) ≤ (k : Int)) = false := by simp; omega
      have t2 : decide (128 ≤ k) = false := by simp; omega
      have t3 : decide (k < 128) = true := by simp; omega
      go_wp2_with (at_builtin; refine app1 rfl (.tmp 15) (.tmp 18) rfl w.heap.size b acc rfl ho.out _ (UInt8.ofNat k) rfl (by unfold bv; rw [UInt8.toNat_ofNat']; first | omega | (rw [IntKind.wrap_u8]; omega)) (by omega) hsz ?_; intro v3 w3 ho_ hg_; have HO3 := Lib.hid ho_; have HB3 := Lib.hid (bl_of_grown hb.out hg_ (fun b hb => (ho.out.lt b hb).1)); have hcv := ownN_str ho_; clear ho_ hg_)
      go_ret
      exact ⟨ret_str (by rw [← hE.out, uintU_small hlt]), HB3.out⟩
    · have hal : acc.length + 1 ≤ 10 := by
        have h9 := congrArg List.length hE.out
        rw [uintU_big hlt] at h9
        simp at h9; omega
      have t1 : decide ((128 : Int) ≤ (k : Int)) = true := by simp; omega
      have t2 : decide (128 ≤ k) = true := by simp; omega
      have t3 : decide (k < 128) = false := by simp; omega
      go_wp2_with (at_builtin; refine app1 rfl (.tmp 6) (.tmp 11) rfl w.heap.size b acc rfl ho.out _ (UInt8.ofNat (k % 128 + 128)) rfl (by unfold bv; rw [UInt8.toNat_ofNat']; first | omega | (rw [IntKind.wrap_u8]; omega)) (by omega) hsz ?_; intro v3 w3 ho_ hg_; have HO3 := Lib.hid ho_; have HB3 := Lib.hid (bl_of_grown hb.out hg_ (fun b hb => (ho.out.lt b hb).1)); clear ho_ hg_)
      go_roundw
      case rel => exact ⟨k / 128, _, _, by go_num, rfl, by omega, Lib.hid (by rw [← hE.out, uintU_big hlt, List.append_assoc]; rfl), HO3, HB3⟩
      case measure => simp [intOf]; omega

theorem strApp (s : ByteArray) (l : List UInt8) : (⟨l.toArray⟩ ++ s : ByteArray) = ⟨(l ++ s.data.toList).toArray⟩ := by
  have : ∀ a b : ByteArray, a ++ b = ⟨a.data ++ b.data⟩ := fun a b => by
    show ByteArray.append a b = _
    apply ByteArray.ext
    simp
  rw [this]
  simp
theorem refText_any (s : ByteArray) (hs : s.size ≤ 140737488355328) (w : World) :
    Calls Try.prog 37 #[.string s] w fun e w' => e = .returned (.string ⟨(textU s).toArray⟩) ∧ Below w.heap.size w w' := by
  have hl10 := uintU_len10 (show s.size < 18446744073709551616 by omega)
  have hcat : ∀ W, (Op.stringOp .add ⟨(uintU s.size).toArray⟩ s).run Try.prog W = .ok (.string (⟨(uintU s.size).toArray⟩ ++ s)) W := fun W => run_string_add_sum W _ _ (by show (uintU s.size).toArray.size + s.size ≤ _; simp; omega)
  go_enter Try.func37, Try.ntmps37
  go_wp2_with fail
  refine (refUint_any s.size (by omega) _).mono ?_
  rintro e w1 ⟨rfl, hb⟩
  have HB := Lib.hid hb
  clear hb
  go_wp2
  go_ret
  exact ⟨ret_str (strApp s _), HB.out⟩
end Go.Proofs.Ytpklkjekkbpeoaa
