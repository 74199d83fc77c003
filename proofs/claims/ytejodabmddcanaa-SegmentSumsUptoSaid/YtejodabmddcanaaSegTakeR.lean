/- DERIVED. Take: the document's text. -/
import Derived.Test.YtejodabmddcanaaSegPutR
namespace Go.Proofs.Ytejodabmddcanaa
open Go.RowKit

/-- The document's Take, so far come. -/
def tak (l : List Ent) (q s k : Nat) : List Ent := if k ≤ q then l.take k else l.take q ++ (l.take k).drop s
theorem tak_lo {l : List Ent} {q s k : Nat} (h : k ≤ q) : tak l q s k = l.take k := by simp [tak, h]
theorem tak_hi {l : List Ent} {q s k : Nat} (h : q < k) : tak l q s k = l.take q ++ (l.take k).drop s := by simp [tak, show ¬ k ≤ q by omega]
theorem tak_len (l : List Ent) (q s k : Nat) (hqs : q ≤ s) : (tak l q s k).length ≤ l.length := by
  unfold tak
  split
  · simp; omega
  · simp; omega
def takB (l : List Ent) (key : ByteArray) : Bool := listB l && there l key
def takA (l : List Ent) (key : ByteArray) : List Ent := if takB l key then takeL l key else []
theorem takA_len (l : List Ent) (key : ByteArray) : (takA l key).length ≤ l.length := by
  unfold takA takeL
  have := cut_le l key
  split
  · simp; omega
  · simp

set_option maxRecDepth 100000 in
set_option maxHeartbeats 3200000 in
theorem refTake_any (A : Option Addr) (c : Nat) (l : List Ent) (key : ByteArray) (w : World) (hr : Rd w A l) (hl : l.length ≤ 4398046511000) :
    Calls Try.prog 34 #[.slice A l.length c, .string key] w fun e w' => ∃ v, e = .returned (.tuple #[v, .bool (takB l key)]) ∧ Own w' w.heap.size v (takA l key) ∧ Below w.heap.size w w' := by
  obtain ⟨i0, hi0, hz0, hz1, hz2⟩ := info_parts entry_info
  have hmax := hr.max
  have HR := Lib.hid hr
  clear hr
  by_cases hb : listB l = true
  · have HS := Lib.hid (rises_of_list hb)
    obtain ⟨q, hq⟩ : ∃ q, q = cut l key := ⟨_, rfl⟩
    obtain ⟨s, hs⟩ : ∃ s, s = (if there l key then q + 1 else q) := ⟨_, rfl⟩
    have hql : q ≤ l.length := by rw [hq]; exact cut_le _ _
    have HQ := Lib.hid hq
    have HSS := Lib.hid hs
    have HTB := Lib.hid (show takB l key = there l key by simp [takB, hb])
    clear hq hs
    go_enter Try.func34, Try.ntmps34
    go_wp2_with (go_at_call 41; refine (refList_any _ _ _ _ HR.out).mono ?_; rintro e w1 ⟨rfl, hd⟩; rw [hb]; have HD := Lib.hid hd; clear hd)
    have HB := Lib.hid (HD.out.below w.heap.size)
    clear HD
    go_loopw [6, 7, 8] (fun v0 p0 i w' => ∃ (v : Value) (b : Bool) (k : Nat), v = v0 ∧ k ≤ l.length ∧ p0 = .bool b ∧ i = .int .i64 k ∧ Hid (b = (decide (q < k) && there l key)) ∧ Hid (Own w' w.heap.size v (tak l q s k)) ∧ Hid (Below w.heap.size w w')) (fun _ _ i _ => l.length - (intOf i).toNat)
    case atStart => exact ⟨_, _, 0, rfl, Nat.zero_le _, rfl, rfl, Lib.hid (by simp), Lib.hid (by rw [tak_lo (Nat.zero_le _)]; simpa using Own.nil _ _), HB⟩
    case round =>
      obtain ⟨v, b, k, rfl, hk, rfl, rfl, hbk, ho, hbl⟩ := hrel
      have HR1 := Lib.hid (HR.out.below hbl.out)
      have hal := tak_len l q s k (by rw [HSS.out]; split <;> omega)
      by_cases hlt : k < l.length
      · have i0 : (0 : Int) ≤ (k : Int) := by omega
        have i1 : (k : Int) < (l.length : Int) := by omega
        obtain ⟨ad, e0, c0, c1⟩ := HR1.out.at_ k hlt
        cases e0
        have g2 := eq_key HS.out key k hlt
        rw [← HQ.out] at g2
        by_cases hc : k = q ∧ there l key = true
        · have g2' : (l[k].key.toList == key.toList) = true := by rw [g2]; simp [hc]
          have HC := Lib.hid hc
          clear g2 hc
          go_wp2
          go_roundw
          case rel => exact ⟨_, _, k + 1, rfl, by omega, rfl, by go_num, Lib.hid (by rw [HC.out.2]; have := HC.out.1; simp; omega), Lib.hid (by
            have e1 := HC.out.1
            have e2 : s = q + 1 := by rw [HSS.out, if_pos HC.out.2]
            subst e1
            have := ho.out
            rw [tak_lo (Nat.le_refl k)] at this
            rw [tak_hi (by omega), e2, List.drop_eq_nil_of_le (by simp; omega), List.append_nil]
            exact this), hbl⟩
          case measure => simp [intOf]; omega
        · have g2' : (l[k].key.toList == key.toList) = false := by
            rw [g2]
            by_cases h : k = q
            · simp only [h, decide_true, Bool.true_and]
              by_cases h2 : there l key = true
              · exact absurd ⟨h, h2⟩ hc
              · simpa using h2
            · simp [h]
          have HC := Lib.hid hc
          clear g2 hc
          go_wp2_with (at_builtin; refine app_one rfl (.tmp 25) (.tmp 30) _ rfl Try.underlying37 hi0 hz0 hz1 hz2 rfl w.heap.size _ (tak l q s k) l[k] rfl ho.out rfl (by omega) hbl.out.size ?_; intro v3 w3 ho3 hg3 hat3; have HO3 := Lib.hid ho3; have HB3 := Lib.hid (bl_of_grown hbl.out hg3 (fun b hb => (ho.out.lt b hb).1)); clear ho3 hg3 hat3)
          go_roundw
          case rel =>
            refine ⟨_, _, k + 1, rfl, by omega, rfl, by go_num, Lib.hid ?_, Lib.hid ?_, HB3⟩
            · rw [hbk.out]
              rcases Nat.lt_trichotomy k q with h | h | h
              · simp [show ¬ q < k by omega, show ¬ q < k + 1 by omega]
              · have : there l key = false := by
                  by_cases h2 : there l key = true
                  · exact absurd ⟨h, h2⟩ HC.out
                  · simpa using h2
                simp [this]
              · simp [show q < k by omega, show q < k + 1 by omega]
            · have := HO3.out
              rcases Nat.lt_trichotomy k q with h | h | h
              · rw [tak_lo (by omega)] at this
                rw [tak_lo (by omega), List.take_succ_eq_append_getElem hlt]
                exact this
              · have e2 : s = q := by
                  rw [HSS.out, if_neg]
                  intro h2
                  exact HC.out ⟨h, h2⟩
                subst h
                rw [tak_lo (Nat.le_refl _)] at this
                rw [tak_hi (by omega), e2, List.take_succ_eq_append_getElem hlt, List.drop_append_of_le_length (by simp; omega), List.drop_eq_nil_of_le (by simp; omega)]
                simpa using this
              · have e2 : s ≤ k := by rw [HSS.out]; split <;> omega
                rw [tak_hi h] at this
                rw [tak_hi (by omega), List.take_succ_eq_append_getElem hlt, List.drop_append_of_le_length (by simp; omega)]
                simpa using this
          case measure => simp [intOf]; omega
      · have hkl : k = l.length := by omega
        by_cases ht : there l key = true
        · have hqn : q < k := by
            rcases Nat.lt_or_ge q k with h | h
            · exact h
            · have := HQ.out
              rw [there, ← this, List.getElem?_eq_none (by omega)] at ht
              cases ht
          have hb0 : b = true := by rw [hbk.out]; simp [hqn, ht]
          subst hb0
          have HV := Lib.hid (show takA l key = tak l q s k ∧ takB l key = true by
            refine ⟨?_, by rw [HTB.out, ht]⟩
            rw [tak_hi hqn, hkl, List.take_length, takA, HTB.out, if_pos ht, takeL, ← HQ.out, HSS.out, if_pos ht])
          clear hkl ht
          go_wp2
          go_ret2
          exact ⟨_, ret_vb HV.out.2, by rw [HV.out.1]; exact ho.out, hbl.out⟩
        · have ht' : there l key = false := by simpa using ht
          have hb0 : b = false := by rw [hbk.out]; simp [ht']
          subst hb0
          have HV := Lib.hid (show takA l key = [] ∧ takB l key = false by
            refine ⟨?_, by rw [HTB.out, ht']⟩
            rw [takA, HTB.out, if_neg ht])
          clear hkl ht ht'
          go_wp2
          go_ret2
          exact ⟨_, ret_vb HV.out.2, by rw [HV.out.1]; exact Own.nil _ _, hbl.out⟩
  · have hb' : listB l = false := by simpa using hb
    have HV := Lib.hid (show takA l key = [] ∧ takB l key = false by simp [takA, takB, hb'])
    clear hb
    go_enter Try.func34, Try.ntmps34
    go_wp2_with (go_at_call 41; refine (refList_any _ _ _ _ HR.out).mono ?_; rintro e w1 ⟨rfl, hd⟩; rw [hb']; have HD := Lib.hid hd; clear hd)
    go_ret2
    exact ⟨_, ret_vb HV.out.2, by rw [HV.out.1]; exact Own.nil _ _, HD.out.below _⟩
end Go.Proofs.Ytejodabmddcanaa
