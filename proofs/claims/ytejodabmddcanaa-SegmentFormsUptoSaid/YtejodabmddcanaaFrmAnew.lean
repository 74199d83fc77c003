/- DERIVED. The very same list with other sums in it: forms and sums again. -/
import Derived.Test.YtejodabmddcanaaFrmTurn
import Derived.Test.YtejodabmddcanaaFrmSum
import Derived.Test.YtejodabmddcanaaSegOver
namespace Go.Proofs.Ytejodabmddcanaa
open Go.RowKit Go.Lib

theorem set_same {xs : List Value} {i : Nat} {x : Value} (h : xs[i]? = some x) : xs.set i x = xs := by
  apply List.ext_getElem?
  intro j
  rw [List.getElem?_set]
  have hlt := (List.getElem?_eq_some_iff.1 h).1
  by_cases e : i = j
  · subst e; rw [if_pos rfl, if_pos hlt, h]
  · rw [if_neg e]
theorem Own.setS {w : World} {B g n cap : Nat} {l : List Ent} (h : Own w B (.slice (some ⟨g, 0, none⟩) n cap) l) (i : Nat) (hi : i < l.length) (T : ByteArray) :
    Own (w.setCell ⟨g, i * 2 + 1, none⟩ (.string T)) B (.slice (some ⟨g, 0, none⟩) n cap) (l.set i ⟨l[i].key, T⟩) := by
  have hn : n = l.length := by
    rcases h.2 with ⟨hv, _⟩ | ⟨_, _, _, hv, _⟩
    · cases hv
    · injection hv
  subst hn
  have h1 := (World.ownsRow.stored h (i * 2 + 1) (.string T)).1
  unfold Own
  rw [List.length_set, ents_set l i ⟨l[i].key, T⟩ hi, set_same (ents_even l i l[i] (List.getElem?_eq_getElem hi)).1]
  exact h1

set_option maxRecDepth 100000 in
set_option maxHeartbeats 6400000 in
theorem anew_any (B g cap : Nat) (n wd : Int) (l : List Ent) (w : World) (hl : l.length ≤ 1048576) (hs : ∀ e ∈ l, e.sum.size ≤ 140737488355328) (hB : B ≤ g) (ho : Own w B (.slice (some ⟨g, 0, none⟩) l.length cap) l) :
    Calls Try.prog 51 #[.int .i64 n, .slice (some ⟨g, 0, none⟩) l.length cap, .int .i64 wd] w fun e w' => e = .returned (.bool true) ∧ Below B w w' := by
  obtain ⟨i0, hi0, hz0, hz1, hz2⟩ := info_parts entry_info
  have HS := Lib.hid hs
  have HO := Lib.hid ho
  have hgw := (ho.lt g rfl).2
  clear ho hs
  go_enter Try.func51, Try.ntmps51
  go_wp2
  go_loopw [7] (fun i w' => ∃ (k : Nat) (m : List Ent), k ≤ l.length ∧ i = .int .i64 k ∧ m.length = l.length ∧ Hid (∀ j, k ≤ j → m[j]? = l[j]?) ∧ Hid (Own w' B (.slice (some ⟨g, 0, none⟩) l.length cap) m) ∧ Hid (Below B w w')) (fun i _ => l.length - (intOf i).toNat)
  case atStart => exact ⟨0, l, Nat.zero_le _, rfl, rfl, Lib.hid (fun _ _ => rfl), HO, Lib.hid (Below.refl _ _)⟩
  case round =>
    obtain ⟨k, m, hk, rfl, hm, hS, ho, hb⟩ := hrel
    have hgr := (ho.out.lt g rfl).2
    have hBr : B ≤ wr.heap.size := by omega
    by_cases hlt : k < l.length
    · have i1 : (0 : Int) ≤ (k : Int) := by omega
      have i2 : (k : Int) < (l.length : Int) := by omega
      have hkm : k < m.length := by omega
      have hsz : (m[k]'hkm).sum.size ≤ 140737488355328 := by
        have h9 := hS.out k (Nat.le_refl _)
        rw [List.getElem?_eq_getElem hkm, List.getElem?_eq_getElem hlt] at h9
        injection h9 with h9
        rw [h9]
        exact HS.out _ (List.getElem_mem hlt)
      obtain ⟨c0, c1, f0, f1⟩ := ho.out.cells k hkm
      have HKM := Lib.hid hkm
      have HMM := Lib.hid hm
      clear hm
      go_wp2_with fail
      refine (turned_any _ hsz _).mono ?_
      rintro e w1 ⟨⟨T, rfl⟩, hb1⟩
      have HO1 := Lib.hid (ho.out.below hb1)
      have HB1 := Lib.hid (hb.out.trans (hb1.mono hBr))
      clear hb1
      obtain ⟨c2, c3, f2, f3⟩ := HO1.out.cells k HKM.out
      go_wp2
      go_roundw
      case rel => exact ⟨k + 1, _, by omega, by go_num, by rw [List.length_set]; exact HMM.out, Lib.hid (fun j hj => by rw [List.getElem?_set_ne (by omega)]; exact hS.out j (by omega)), Lib.hid (HO1.out.setS k HKM.out T), Lib.hid (HB1.out.setCell hB _)⟩
      case measure => simp [intOf]; omega
    · obtain rfl : k = l.length := by omega
      have i1 : decide ((l.length : Int) < (l.length : Int)) = false := by simp
      have i2 : decide (l.length < l.length) = false := by simp
      have hR := (ho.out.rd (by omega)).2
      have RI := Lib.hid hR
      have HMM := Lib.hid hm
      have hml : m.length ≤ 1048576 := by omega
      have hbw := hb.out
      have HB0 := Lib.hid hbw
      clear hR hm hbw
      go_wp2_with (at_builtin; refine app_twin rfl (.tmp 33) (.tmp 34) _ rfl Try.underlying37 hi0 hz0 hz1 hz2 rfl rfl (some ⟨g, 0, none⟩) l.length cap m rfl HMM.out.symm RI.out (by omega) ?_; intro v2 w2 ho_ hb_; obtain ⟨A2, c2, rfl, _, hr2⟩ := ho_.rd' (by omega); have R2 := Lib.hid hr2; have RI2 := Lib.hid (RI.out.below hb_); have B2 := Lib.hid (HB0.out.trans (hb_.mono hBr)); have hs2 := Nat.le_trans hBr hb_.size; clear ho_ hb_ hr2)
      refine (refFormE_any A2 c2 n m hml _ R2.out).mono ?_
      rintro e w3 ⟨rfl, hb3⟩
      have R3 := Lib.hid (R2.out.below hb3)
      have RI3 := Lib.hid (RI2.out.below hb3)
      have B3 := Lib.hid (B2.out.trans (hb3.mono hs2))
      have hs3 := Nat.le_trans hs2 hb3.size
      clear hb3 R2 RI2 B2
      go_wp2_with fail
      refine (refSum_any A2 c2 n m wd hml _ R3.out).mono ?_
      rintro e w4 ⟨rfl, hb4⟩
      have RI4 := Lib.hid (RI3.out.below hb4)
      have B4 := Lib.hid (B3.out.trans (hb4.mono hs3))
      have hs4 := Nat.le_trans hs3 hb4.size
      clear hb4 RI3 B3
      go_wp2_with fail
      rw [← HMM.out]
      refine (segForm_any (some ⟨g, 0, none⟩) cap n m hml _ RI4.out).mono ?_
      rintro e w5 ⟨rfl, hb5⟩
      have RI5 := Lib.hid (RI4.out.below hb5)
      have B5 := Lib.hid (B4.out.trans (hb5.mono hs4))
      have hs5 := Nat.le_trans hs4 hb5.size
      clear hb5 RI4 B4
      go_wp2_with fail
      refine (segSum_any (some ⟨g, 0, none⟩) cap n m wd hml _ RI5.out).mono ?_
      rintro e w6 ⟨rfl, hb6⟩
      have B6 := Lib.hid (B5.out.trans (hb6.mono hs5))
      clear hb6
      go_wp2
      go_ret
      exact ⟨rfl, B6.out⟩
end Go.Proofs.Ytejodabmddcanaa
