/- DERIVED. Piece: both texts. -/
import Derived.Test.YtejodabmddcanaaSegAt
import Derived.Test.YtejodabmddcanaaSegLent2
namespace Go.Proofs.Ytejodabmddcanaa
open Go.RowKit

theorem cut_spec {l : List Ent} (hs : Rises l) (key : ByteArray) (j : Nat) (hj : j < l.length) : ltK l[j].key key = decide (j < cut l key) := by
  induction l generalizing j with
  | nil => exact absurd hj (by simp)
  | cons e l ih =>
    have hs2 : Rises l := fun a b ha hb hab => by have := hs (a + 1) (b + 1) (by simpa using ha) (by simpa using hb) (by omega); simpa using this
    by_cases he : ltK e.key key = true
    · have hc : cut (e :: l) key = cut l key + 1 := by simp [cut, he]
      rw [hc]
      cases j with
      | zero => simp [he]
      | succ j => have hj2 : j < l.length := by simpa using hj
                  simp only [List.getElem_cons_succ]; rw [ih hs2 j hj2]; simp
    · have he' : ltK e.key key = false := by simpa using he
      have hc : cut (e :: l) key = 0 := by simp [cut, he']
      rw [hc]
      cases j with
      | zero => simp [he']
      | succ j =>
        have hj2 : j < l.length := by simpa using hj
        have h1 := hs 0 (j + 1) (by simp) hj (by omega)
        simp only [List.getElem_cons_zero, List.getElem_cons_succ] at h1 ⊢
        simp only [Nat.not_lt_zero, decide_false]
        rcases ltK_tri l[j].key key with ⟨h3, _⟩ | h3 | ⟨_, _, h3⟩
        · rw [ltK_trans h1 h3] at he'; cases he'
        · rw [h3, ltK_irrefl]
        · exact h3

def pieceL (l : List Ent) (key : ByteArray) : List Ent := if listB l then (l.drop (cut l key)).take 64 else []
def pieceB (l : List Ent) (key : ByteArray) : Bool := listB l && decide (cut l key + 64 < l.length)

theorem ret_vb {v : Value} {a b : Bool} (h : b = a) : Ending.returned (.tuple #[v, .bool a]) = .returned (.tuple #[v, .bool b]) := by rw [h]

set_option maxRecDepth 100000 in
set_option maxHeartbeats 1600000 in
theorem refPiece_any (A : Option Addr) (c : Nat) (l : List Ent) (key : ByteArray) (w : World) (hr : Rd w A l) :
    Calls Try.prog 23 #[.slice A l.length c, .string key] w fun e w' => ∃ v, e = .returned (.tuple #[v, .bool (pieceB l key)]) ∧ Own w' w.heap.size v (pieceL l key) ∧ Below w.heap.size w w' := by
  obtain ⟨i0, hi0, hz0, hz1, hz2⟩ := info_parts entry_info
  have hmax := hr.max
  have HR := Lib.hid hr
  clear hr
  by_cases hb : listB l = true
  · have HS := Lib.hid (rises_of_list hb)
    have HV := Lib.hid (show pieceL l key = (l.drop (cut l key)).take 64 ∧ pieceB l key = decide (cut l key + 64 < l.length) by simp [pieceL, pieceB, hb])
    have hle := cut_le l key
    go_enter Try.func23, Try.ntmps23
    go_wp2_with (go_at_call 41; refine (refList_any _ _ _ _ HR.out).mono ?_; rintro e w1 ⟨rfl, hd⟩; rw [hb]; have HD := Lib.hid hd; clear hd)
    have HB := Lib.hid (HD.out.below w.heap.size)
    clear HD
    go_loopw [6, 7] (fun v0 i w' => ∃ (v : Value) (k : Nat), v = v0 ∧ k ≤ l.length ∧ i = .int .i64 k ∧ k ≤ cut l key + 64 ∧ Hid (Own w' w.heap.size v ((l.take k).drop (cut l key))) ∧ Hid (Below w.heap.size w w')) (fun _ i _ => l.length - (intOf i).toNat)
    case atStart => exact ⟨_, 0, rfl, by omega, rfl, by omega, Lib.hid (by simpa using Own.nil _ _), HB⟩
    case round =>
      obtain ⟨v, k, rfl, hk, rfl, hk2, ho, hbl⟩ := hrel
      have HR1 := Lib.hid (HR.out.below hbl.out)
      obtain ⟨Av, cv, ev, hcv, hrv⟩ := ho.out.rd' (by simp; omega)
      have hlen : ((l.take k).drop (cut l key)).length = k - cut l key := by simp; omega
      rw [hlen] at ev hcv
      subst ev
      by_cases hlt : k < l.length
      · have hi1 : (0 : Int) ≤ (k : Int) := by omega
        have hi2 : (k : Int) < (l.length : Int) := by omega
        obtain ⟨ad, rfl, c0, c1⟩ := HR1.out.at_ k hlt
        have hsp := cut_spec HS.out key k hlt
        by_cases hc : k < cut l key
        · have b0 : Op.bytesLess l[k].key.toList key.toList = true := by rw [toList_eq, toList_eq]; simpa [ltK, hc] using hsp
          clear hsp hrv
          go_wp2
          go_roundw
          case rel => exact ⟨_, k + 1, rfl, by omega, by go_num, by omega, Lib.hid (by
            have := ho.out
            rw [List.drop_eq_nil_of_le (by simp; omega)] at this ⊢
            exact this), hbl⟩
          case measure => simp [intOf]; omega
        · have b0 : Op.bytesLess l[k].key.toList key.toList = false := by rw [toList_eq, toList_eq]; simpa [ltK, hc] using hsp
          clear hsp hrv
          by_cases h64 : k = cut l key + 64
          · have b1 : ((k - cut l key : Nat) == 64) = true := by simp; omega
            have b2 : (((k - cut l key : Nat) : Int) == 64) = true := by simp; omega
            have HE := Lib.hid (show pieceL l key = (l.take k).drop (cut l key) ∧ pieceB l key = true by
              refine ⟨?_, ?_⟩
              · rw [HV.out.1, h64, List.drop_take]; congr 1; omega
              · rw [HV.out.2]; simp; omega)
            clear h64
            go_wp2
            go_ret2
            exact ⟨_, ret_vb HE.out.2, by rw [HE.out.1]; exact ho.out, hbl.out⟩
          · have b1 : ((k - cut l key : Nat) == 64) = false := by simp; omega
            have b2 : (((k - cut l key : Nat) : Int) == 64) = false := by simp; omega
            go_wp2_with (at_builtin; refine app_one rfl (.tmp 28) (.tmp 33) _ rfl Try.underlying37 hi0 hz0 hz1 hz2 rfl w.heap.size _ _ l[k] rfl ho.out rfl (by simp; omega) hbl.out.size ?_; intro v3 w3 ho3 hg3 hat3; have HO3 := Lib.hid ho3; have HB3 := Lib.hid (bl_of_grown hbl.out hg3 (fun b hb => (ho.out.lt b hb).1)); clear ho3 hg3 hat3)
            go_roundw
            case rel => exact ⟨_, k + 1, rfl, by omega, by go_num, by omega, Lib.hid (by
              have := HO3.out
              rw [List.take_succ_eq_append_getElem hlt, List.drop_append_of_le_length (by simp; omega)]
              exact this), HB3⟩
            case measure => simp [intOf]; omega
      · obtain rfl : k = l.length := by omega
        have HE := Lib.hid (show pieceL l key = (l.take l.length).drop (cut l key) ∧ pieceB l key = false by
          refine ⟨?_, ?_⟩
          · rw [HV.out.1, List.take_length, List.take_of_length_le (by simp; omega)]
          · rw [HV.out.2]; simp; omega)
        clear hrv
        go_wp2
        go_ret2
        exact ⟨_, ret_vb HE.out.2, by rw [HE.out.1]; exact ho.out, hbl.out⟩
  · have hb' : listB l = false := by simpa using hb
    have HV := Lib.hid (show pieceL l key = [] ∧ pieceB l key = false by simp [pieceL, pieceB, hb'])
    clear hb
    go_enter Try.func23, Try.ntmps23
    go_wp2_with (go_at_call 41; refine (refList_any _ _ _ _ HR.out).mono ?_; rintro e w1 ⟨rfl, hd⟩; rw [hb']; have HD := Lib.hid hd; clear hd)
    go_ret2
    exact ⟨_, ret_vb HV.out.2, by rw [HV.out.1]; exact Own.nil _ _, HD.out.below _⟩
end Go.Proofs.Ytejodabmddcanaa
