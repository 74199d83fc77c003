/- DERIVED. Piece: the program's own. -/
import Derived.Test.YtejodabmddcanaaSegPiece
namespace Go.Proofs.Ytejodabmddcanaa
open Go.RowKit

theorem Rd.cut {w : World} {ad : Addr} {l : List Ent} (h : Rd w (some ad) l) (i m c : Nat) (hc : l.length ≤ c) (him : i + m ≤ l.length) (B : Addr) (hB : i < c → B = ad.add (i * 2)) :
    Rd w (some B) ((l.drop i).take m) := by
  refine ⟨by have := h.1; simp; omega, fun hn => ?_⟩
  have hm : 0 < m := by
    rcases Nat.eq_zero_or_pos m with h0 | h0
    · subst h0; simp at hn
    · exact h0
  have hBe := hB (by omega)
  subst hBe
  obtain ⟨ad', e, hcell⟩ := h.2 (by omega)
  cases e
  refine ⟨_, rfl, fun j x hx => ?_⟩
  have hj : j < m := by have := (List.getElem?_eq_some_iff.1 hx).1; simp at this; omega
  rw [List.getElem?_take_of_lt hj, List.getElem?_drop] at hx
  have := hcell (i + j) x hx
  rw [add_of_add, ← Nat.add_mul]
  exact this

set_option maxRecDepth 100000 in
set_option maxHeartbeats 1600000 in
theorem segPiece_any (ad : Addr) (c : Nat) (l : List Ent) (key : ByteArray) (w : World) (hr : Rd w (some ad) l) (hc : l.length ≤ c) :
    Calls Try.prog 24 #[.slice (some ad) l.length c, .string key] w fun e w' => ∃ v, e = .returned (.tuple #[v, .bool (pieceB l key)]) ∧ Own w' w.heap.size v (pieceL l key) ∧ Below w.heap.size w w' := by
  have hmax := hr.max
  have HR := Lib.hid hr
  clear hr
  by_cases hb : listB l = true
  · have HS := Lib.hid (rises_of_list hb)
    have HV := Lib.hid (show pieceL l key = (l.drop (cut l key)).take 64 ∧ pieceB l key = decide (cut l key + 64 < l.length) by simp [pieceL, pieceB, hb])
    have hle := cut_le l key
    obtain ⟨q, hq⟩ : ∃ q, q = cut l key := ⟨_, rfl⟩
    have HQ := Lib.hid hq
    rw [← hq] at hle
    clear hq
    by_cases h64 : q + 64 < l.length
    · have hmin : min (l.length : Int) ((q : Int) + 64) = (q : Int) + 64 := by omega
      have hd1 : decide ((q : Int) + 64 < (l.length : Int)) = true := by simp; omega
      have HE := Lib.hid (show pieceL l key = (l.drop q).take 64 ∧ pieceB l key = true by rw [HV.out.1, HV.out.2, ← HQ.out]; simp; omega)
      go_enter Try.func24, Try.ntmps24
      go_wp2_with (first
        | (go_at_call 55; refine (segList_any _ _ _ _ HR.out).mono ?_; rintro e w1 ⟨rfl, hd⟩; rw [hb]; have HB := Lib.hid hd; clear hd; have HR1 := Lib.hid (HR.out.below HB.out))
        | (go_at_call 56; refine (at_any _ _ _ _ _ HR1.out HS.out).mono ?_; rintro e w2 ⟨rfl, hd⟩; rw [← HQ.out]; have HB2 := Lib.hid (bl_then HB.out hd); have HR2 := Lib.hid (HR1.out.below hd); clear hd)
        | (go_at_call 57; refine (clone_any _ _ _ ((l.drop q).take 64) _ (HR2.out.cut q 64 c hc (by omega) _ (fun _ => rfl)) (by rw [List.length_take, List.length_drop]; omega) (fun h => by cases h)).mono ?_; rintro e w3 ⟨v3, rfl, ho3, hb3⟩; have HO3 := Lib.hid (ho3.base HB2.out.size); have HB3 := Lib.hid (bl_then HB2.out hb3); clear ho3 hb3))
      go_ret2
      exact ⟨_, ret_vb HE.out.2, by rw [HE.out.1]; exact HO3.out, HB3.out⟩
    · have hmin : min (l.length : Int) ((q : Int) + 64) = (l.length : Int) := by omega
      have hd1 : decide ((l.length : Int) < (l.length : Int)) = false := by simp
      have HE := Lib.hid (show pieceL l key = (l.drop q).take (l.length - q) ∧ pieceB l key = false by
        rw [HV.out.1, HV.out.2, ← HQ.out]
        refine ⟨?_, by simp; omega⟩
        rw [List.take_of_length_le (by simp; omega), List.take_of_length_le (by simp)])
      by_cases hcq : c = q
      · subst hcq
        go_enter Try.func24, Try.ntmps24
        go_wp2_with (first
          | (go_at_call 55; refine (segList_any _ _ _ _ HR.out).mono ?_; rintro e w1 ⟨rfl, hd⟩; rw [hb]; have HB := Lib.hid hd; clear hd; have HR1 := Lib.hid (HR.out.below HB.out))
          | (go_at_call 56; refine (at_any _ _ _ _ _ HR1.out HS.out).mono ?_; rintro e w2 ⟨rfl, hd⟩; rw [← HQ.out]; have HB2 := Lib.hid (bl_then HB.out hd); have HR2 := Lib.hid (HR1.out.below hd); clear hd)
          | (go_at_call 57; refine (clone_any _ _ _ ((l.drop c).take (l.length - c)) _ (HR2.out.cut c (l.length - c) c hc (by omega) _ (fun _ => by omega)) (by rw [List.length_take, List.length_drop]; omega) (fun h => by cases h)).mono ?_; rintro e w3 ⟨v3, rfl, ho3, hb3⟩; have HO3 := Lib.hid (ho3.base HB2.out.size); have HB3 := Lib.hid (bl_then HB2.out hb3); clear ho3 hb3))
        go_ret2
        exact ⟨_, ret_vb HE.out.2, by rw [HE.out.1]; exact HO3.out, HB3.out⟩
      · go_enter Try.func24, Try.ntmps24
        go_wp2_with (first
          | (go_at_call 55; refine (segList_any _ _ _ _ HR.out).mono ?_; rintro e w1 ⟨rfl, hd⟩; rw [hb]; have HB := Lib.hid hd; clear hd; have HR1 := Lib.hid (HR.out.below HB.out))
          | (go_at_call 56; refine (at_any _ _ _ _ _ HR1.out HS.out).mono ?_; rintro e w2 ⟨rfl, hd⟩; rw [← HQ.out]; have HB2 := Lib.hid (bl_then HB.out hd); have HR2 := Lib.hid (HR1.out.below hd); clear hd)
          | (go_at_call 57; refine (clone_any _ _ _ ((l.drop q).take (l.length - q)) _ (HR2.out.cut q (l.length - q) c hc (by omega) _ (fun _ => rfl)) (by rw [List.length_take, List.length_drop]; omega) (fun h => by cases h)).mono ?_; rintro e w3 ⟨v3, rfl, ho3, hb3⟩; have HO3 := Lib.hid (ho3.base HB2.out.size); have HB3 := Lib.hid (bl_then HB2.out hb3); clear ho3 hb3))
        go_ret2
        exact ⟨_, ret_vb HE.out.2, by rw [HE.out.1]; exact HO3.out, HB3.out⟩
  · have hb' : listB l = false := by simpa using hb
    have HV := Lib.hid (show pieceL l key = [] ∧ pieceB l key = false by simp [pieceL, pieceB, hb'])
    clear hb
    go_enter Try.func24, Try.ntmps24
    go_wp2_with (go_at_call 55; refine (segList_any _ _ _ _ HR.out).mono ?_; rintro e w1 ⟨rfl, hd⟩; rw [hb']; have HD := Lib.hid hd; clear hd)
    go_ret2
    exact ⟨_, ret_vb HV.out.2, by rw [HV.out.1]; exact Own.nil _ _, HD.out⟩
end Go.Proofs.Ytejodabmddcanaa
