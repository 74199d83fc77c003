/- DERIVED. Take: the program's own. -/
import Derived.Test.YtejodabmddcanaaSegConcat
import Derived.Test.YtejodabmddcanaaSegTakeR
import Derived.Test.YtejodabmddcanaaSegPiece2
namespace Go.Proofs.Ytejodabmddcanaa
open Go.RowKit

theorem there_lt {l : List Ent} {key : ByteArray} (h : there l key = true) : cut l key < l.length := by
  rcases Nat.lt_or_ge (cut l key) l.length with h1 | h1
  · exact h1
  · rw [there, List.getElem?_eq_none h1] at h; cases h
/-- The first entries of a slice. -/
theorem Rd.first {w : World} {A : Option Addr} {l : List Ent} (h : Rd w A l) (m : Nat) : Rd w A (l.take m) := by
  refine ⟨by have := h.1; simp; omega, fun hn => ?_⟩
  obtain ⟨ad, e, hc⟩ := h.2 (by simp at hn; omega)
  refine ⟨ad, e, fun i x hx => hc i x ?_⟩
  have hi : i < m := by have := (List.getElem?_eq_some_iff.1 hx).1; simp at this; omega
  rw [← hx, List.getElem?_take_of_lt hi]
theorem Rd.rest {w : World} {ad : Addr} {l : List Ent} (h : Rd w (some ad) l) (i c : Nat) (hc : l.length ≤ c) (hi : i ≤ l.length) (B : Addr) (hB : i < c → B = ad.add (i * 2)) : Rd w (some B) (l.drop i) := by
  have := h.cut i (l.length - i) c hc (by omega) B hB
  rwa [List.take_of_length_le (by simp)] at this

set_option maxRecDepth 100000 in
set_option maxHeartbeats 1600000 in
theorem segTake_any (A : Option Addr) (c : Nat) (l : List Ent) (key : ByteArray) (w : World) (hr : Rd w A l) (hc : l.length ≤ c) (hl : l.length ≤ 4398046511000) :
    Calls Try.prog 35 #[.slice A l.length c, .string key] w fun e w' => ∃ v, e = .returned (.tuple #[v, .bool (takB l key)]) ∧ Own w' w.heap.size v (takA l key) ∧ Below w.heap.size w w' := by
  have hmax := hr.max
  have HR := Lib.hid hr
  clear hr
  by_cases hb : listB l = true
  · have HS := Lib.hid (rises_of_list hb)
    by_cases ht : there l key = true
    · have HV := Lib.hid (show takA l key = l.take (cut l key) ++ l.drop (cut l key + 1) ∧ takB l key = true by simp [takA, takB, takeL, hb, ht])
      have hq0 := there_lt ht
      obtain ⟨q, hq⟩ : ∃ q, q = cut l key := ⟨_, rfl⟩
      have HQ := Lib.hid hq
      rw [← hq] at hq0
      clear hq
      have HT := Lib.hid ht
      clear ht
      obtain ⟨ad, rfl, _, _⟩ := HR.out.at_ q hq0
      by_cases hcq : c = q + 1
      · subst hcq
        have f0 : (0 : Int) ≤ (q : Int) := by omega
        have f1 : (q : Int) ≤ (l.length : Int) := by omega
        have f2 : IntKind.i64.wrap ((q : Int) + 1) = (q : Int) + 1 := IntWalk.i64_in _ (by omega)
        have f3 : (0 : Int) ≤ (q : Int) + 1 := by omega
        have f4 : (q : Int) + 1 ≤ (l.length : Int) := by omega
        have f5 : ((q : Int) + 1).toNat = q + 1 := by omega
        have f6 : (q : Int) ≤ ((q + 1 : Nat) : Int) := by omega
        have f7 : (q : Int) ≤ (q : Int) + 1 := by omega
        go_enter Try.func35, Try.ntmps35
        go_wp2_with (first
          | (go_at_call 55; refine (segList_any _ _ _ _ HR.out).mono ?_; rintro e w1 ⟨rfl, hd⟩; rw [hb]; have HB := Lib.hid hd; clear hd; have HR1 := Lib.hid (HR.out.below HB.out))
          | (go_at_call 56; refine (at_any _ _ _ _ _ HR1.out HS.out).mono ?_; rintro e w2 ⟨rfl, hd⟩; rw [← HQ.out, HT.out]; have HB2 := Lib.hid (bl_then HB.out hd); have HR2 := Lib.hid (HR1.out.below hd); clear hd))
        go_region_held3 (fun _ => True) (trivial) ((go_at_call 62; refine (concat2 _ (some ad) (some (ad)) _ _ _ _ _ (l.take q) (l.drop (q + 1)) (by simp) (by simp; omega) (by simp <;> omega) ((HR2.out.first q).drewN _) ((HR2.out.rest (q + 1) (q + 1) hc (by omega) _ (fun h => by omega)).drewN _) (by simp; omega)).mono ?_; rintro e w3 ⟨v3, rfl, ho3, hb3⟩))
        go_wp2
        go_ret2
        exact ⟨_, ret_vb HV.out.2, by rw [HV.out.1, ← HQ.out]; exact ho3.base (by have := HB2.out.size; omega), bl_then (bl_drewN HB2.out _) hb3⟩
      · have hcq2 : ¬ (c : Int) = (q : Int) + 1 := by omega
        have f0 : (0 : Int) ≤ (q : Int) := by omega
        have f1 : (q : Int) ≤ (l.length : Int) := by omega
        have f2 : IntKind.i64.wrap ((q : Int) + 1) = (q : Int) + 1 := IntWalk.i64_in _ (by omega)
        have f3 : (0 : Int) ≤ (q : Int) + 1 := by omega
        have f4 : (q : Int) + 1 ≤ (l.length : Int) := by omega
        have f5 : ((q : Int) + 1).toNat = q + 1 := by omega
        have f6 : (q : Int) ≤ (c : Int) := by omega
        go_enter Try.func35, Try.ntmps35
        go_wp2_with (first
          | (go_at_call 55; refine (segList_any _ _ _ _ HR.out).mono ?_; rintro e w1 ⟨rfl, hd⟩; rw [hb]; have HB := Lib.hid hd; clear hd; have HR1 := Lib.hid (HR.out.below HB.out))
          | (go_at_call 56; refine (at_any _ _ _ _ _ HR1.out HS.out).mono ?_; rintro e w2 ⟨rfl, hd⟩; rw [← HQ.out, HT.out]; have HB2 := Lib.hid (bl_then HB.out hd); have HR2 := Lib.hid (HR1.out.below hd); clear hd))
        go_region_held3 (fun _ => True) (trivial) ((go_at_call 62; refine (concat2 _ (some ad) (some (ad.add ((q + 1) * 2))) _ _ _ _ _ (l.take q) (l.drop (q + 1)) (by simp) (by simp; omega) (by simp <;> omega) ((HR2.out.first q).drewN _) ((HR2.out.rest (q + 1) c hc (by omega) _ (fun _ => rfl)).drewN _) (by simp; omega)).mono ?_; rintro e w3 ⟨v3, rfl, ho3, hb3⟩))
        go_wp2
        go_ret2
        exact ⟨_, ret_vb HV.out.2, by rw [HV.out.1, ← HQ.out]; exact ho3.base (by have := HB2.out.size; omega), bl_then (bl_drewN HB2.out _) hb3⟩
    · have ht' : there l key = false := by simpa using ht
      have HV := Lib.hid (show takA l key = [] ∧ takB l key = false by simp [takA, takB, hb, ht'])
      obtain ⟨q, hq⟩ : ∃ q, q = cut l key := ⟨_, rfl⟩
      have HQ := Lib.hid hq
      clear hq
      have HT := Lib.hid ht'
      clear ht ht'
      go_enter Try.func35, Try.ntmps35
      go_wp2_with (first
        | (go_at_call 55; refine (segList_any _ _ _ _ HR.out).mono ?_; rintro e w1 ⟨rfl, hd⟩; rw [hb]; have HB := Lib.hid hd; clear hd; have HR1 := Lib.hid (HR.out.below HB.out))
        | (go_at_call 56; refine (at_any _ _ _ _ _ HR1.out HS.out).mono ?_; rintro e w2 ⟨rfl, hd⟩; rw [← HQ.out, HT.out]; have HB2 := Lib.hid (bl_then HB.out hd); have HR2 := Lib.hid (HR1.out.below hd); clear hd))
      go_ret2
      exact ⟨_, ret_vb HV.out.2, by rw [HV.out.1]; exact Own.nil _ _, HB2.out⟩
  · have hb' : listB l = false := by simpa using hb
    have HV := Lib.hid (show takA l key = [] ∧ takB l key = false by simp [takA, takB, hb'])
    clear hb
    go_enter Try.func35, Try.ntmps35
    go_wp2_with (go_at_call 55; refine (segList_any _ _ _ _ HR.out).mono ?_; rintro e w1 ⟨rfl, hd⟩; rw [hb']; have HD := Lib.hid hd; clear hd)
    go_ret2
    exact ⟨_, ret_vb HV.out.2, by rw [HV.out.1]; exact Own.nil _ _, HD.out⟩
end Go.Proofs.Ytejodabmddcanaa
