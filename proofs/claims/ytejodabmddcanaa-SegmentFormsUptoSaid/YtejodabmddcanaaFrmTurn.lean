/- DERIVED. A text with each byte turned: it is some text. -/
import Derived.Test.YtejodabmddcanaaFrmWr
namespace Go.Proofs.Ytejodabmddcanaa
open Go.RowKit Go.Lib

theorem bytesV_set (l : List UInt8) (i : Nat) (x : UInt8) : bytesV (l.set i x) = (bytesV l).set i (.int .u8 (bv x)) := by simp [bytesV]
theorem OwnM.setB {w : World} {B g n cap : Nat} {l : List UInt8} (h : OwnM w B (.slice (some ⟨g, 0, none⟩) n cap) l) (i : Nat) (x : UInt8) :
    OwnM (w.setCell ⟨g, i, none⟩ (.int .u8 (bv x))) B (.slice (some ⟨g, 0, none⟩) n cap) (l.set i x) := by
  obtain ⟨g', cap', cur, fz, e, hB, hg, hfz, h1, h2, h3, h4⟩ := h
  injection e with e1 e2 e3
  cases e1
  subst e2 e3
  refine ⟨g, cap, cur.setIfInBounds i (.int .u8 (bv x)), fz, by rw [List.length_set], hB, ?_, ?_, by rw [List.length_set]; exact h1, h2, by rw [Array.size_setIfInBounds]; exact h3, ?_⟩
  · simp [World.setCell, Array.getElem?_modify, hg]
  · rw [Array.size_setIfInBounds]; exact hfz
  · rw [List.length_set, bytesV_set, ← h4, Array.toList_setIfInBounds, List.take_set]
theorem OwnM.unfrozen {w : World} {B g n cap : Nat} {l : List UInt8} (h : OwnM w B (.slice (some ⟨g, 0, none⟩) n cap) l) (i : Nat) (hi : i < l.length) : w.frozen? ⟨g, i, none⟩ = false := by
  obtain ⟨g', cap', cur, fz, e, hB, hg, hfz, h1, h2, h3, h4⟩ := h
  injection e with e1 e2 e3
  cases e1
  subst e2 e3
  obtain ⟨lo, hi'⟩ := fz
  simp only [World.frozen?, hg]
  simp only at hfz
  rw [Bool.and_eq_false_iff, decide_eq_false_iff_not, decide_eq_false_iff_not]
  rcases hfz with h | h <;> omega
theorem OwnM.read {w : World} {B g n cap : Nat} {l : List UInt8} (h : OwnM w B (.slice (some ⟨g, 0, none⟩) n cap) l) (i : Nat) (hi : i < l.length) : w.cell? ⟨g, i, none⟩ = some (.int .u8 (bv l[i])) := by
  obtain ⟨g', cap', e, _, _, _, hc⟩ := h.form
  injection e with e1 e2 e3
  cases e1
  rw [hc i hi, List.getD_eq_getElem?_getD, List.getElem?_eq_getElem hi]
  rfl
theorem xor1 (b : UInt8) : bits .xor .u8 (bv b) 1 = bv (b ^^^ 1) := by
  have := b.toNat_lt
  unfold bv
  rw [u8_xor _ _ (by omega) (by omega) (by decide) (by decide), UInt8.toNat_xor]
  rfl

set_option maxRecDepth 100000 in
set_option maxHeartbeats 3200000 in
theorem turned_any (s : ByteArray) (hs : s.size ≤ 140737488355328) (w : World) :
    Calls Try.prog 81 #[.string s] w fun e w' => (∃ T, e = .returned (.string T)) ∧ Below w.heap.size w w' := by
  have hlen : s.data.toList.length = s.size := rfl
  have HLN := Lib.hid hlen
  clear hlen
  go_enter Try.func81, Try.ntmps81
  go_wp2_with (refine conv_ownM rfl 9 23 _ rfl s rfl Try.underlying9 Try.underlying23 Try.underlying5 (by omega) ?_; intro v2 W2 O_ L_; obtain ⟨g2, c2, e2, hB2, _, _, _⟩ := O_.form; subst e2; rw [HLN.out]; rw [HLN.out] at O_; have O2 := Lib.hid O_; have L2 := Lib.hid L_; clear O_ L_)
  go_loopw [4] (fun i w' => ∃ (k : Nat) (L : List UInt8), k ≤ s.size ∧ i = .int .i64 k ∧ L.length = s.size ∧ Hid (OwnM w' w.heap.size (.slice (some ⟨g2, 0, none⟩) s.size c2) L) ∧ Hid (Below w.heap.size w w')) (fun i _ => s.size - (intOf i).toNat)
  case atStart => exact ⟨0, s.data.toList, Nat.zero_le _, rfl, HLN.out, O2, L2⟩
  case round =>
    obtain ⟨k, L, hk, rfl, hL, ho, hb⟩ := hrel
    by_cases hlt : k < s.size
    · have i1 : (0 : Int) ≤ (k : Int) := by omega
      have i2 : (k : Int) < (s.size : Int) := by omega
      have c0 := ho.out.read k (by omega)
      have f0 := ho.out.unfrozen k (by omega)
      have hx := xor1 (L[k]'(by omega))
      have hL2 : (L.set k (L[k]'(by omega) ^^^ 1)).length = s.size := by rw [List.length_set]; exact hL
      have HL2 := Lib.hid hL2
      clear hL2
      go_wp2
      go_roundw
      case rel => exact ⟨k + 1, _, by omega, by go_num, HL2.out, Lib.hid (ho.out.setB k _), Lib.hid (hb.out.setCell hB2 _)⟩
      case measure => simp [intOf]; omega
    · obtain rfl : k = s.size := by omega
      have i1 : decide ((s.size : Int) < (s.size : Int)) = false := by simp
      have i2 : decide (s.size < s.size) = false := by simp
      have hcv := ownN_str (.inr ho.out)
      go_wp2
      go_ret
      exact ⟨⟨_, rfl⟩, hb.out⟩
end Go.Proofs.Ytejodabmddcanaa
