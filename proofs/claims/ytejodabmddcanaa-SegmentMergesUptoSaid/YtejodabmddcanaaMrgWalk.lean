/- DERIVED. SegmentMerges: the walk of the law. -/
import Derived.Test.YtejodabmddcanaaMrgW
import Derived.Test.YtejodabmddcanaaMrgM
import Derived.Laws.BytesArg
import Derived.Laws.BytesString
namespace Go.Proofs.Ytejodabmddcanaa
open Go.RowKit

theorem tld_at {w : World} {A : Option Addr} {l : List Tld} (h : GR.Rd tldK w A l) (i : Nat) (hi : i < l.length) : ∃ ad, A = some ad ∧ w.cell? (ad.add (i * 5)) = some (.string l[i].key) ∧
    w.cell? ⟨(ad.add (i * 5)).block, (ad.add (i * 5)).off + 1, none⟩ = some (.int .i64 l[i].has) ∧ w.cell? ⟨(ad.add (i * 5)).block, (ad.add (i * 5)).off + 2, none⟩ = some (.string l[i].xk) ∧
    w.cell? ⟨(ad.add (i * 5)).block, (ad.add (i * 5)).off + 3, none⟩ = some (.int .i64 l[i].xn) ∧ w.cell? ⟨(ad.add (i * 5)).block, (ad.add (i * 5)).off + 4, none⟩ = some (.int .u8 l[i].y) := by
  obtain ⟨ad, e, _, hc⟩ := h.at_ i hi
  have f1 : ∀ m j : Nat, ad.add (m + (j + 1)) = ⟨(ad.add m).block, (ad.add m).off + (j + 1), none⟩ := fun m j => by
    unfold Addr.add
    by_cases hm : m = 0 <;> simp [hm, Nat.add_assoc]
  refine ⟨ad, e, hc 0 _ rfl, ?_, ?_, ?_, ?_⟩
  · rw [← f1 _ 0]; exact hc 1 _ rfl
  · rw [← f1 _ 1]; exact hc 2 _ rfl
  · rw [← f1 _ 2]; exact hc 3 _ rfl
  · rw [← f1 _ 3]; exact hc 4 _ rfl
theorem byt_str {w : World} {A : Option Addr} {l : List Int} (h : GR.Rd bytK w A l) (c : Nat) : (convert 23 9 (.slice A l.length c)).run Try.prog w = .ok (.string (strOfNums l)) w := by
  cases l with
  | nil =>
    rw [run_convert_bytes_string w 23 9 5 A _ c Try.underlying23 Try.underlying5 Try.underlying9]
    cases A <;> simp [Conv.bytesToString, loadCells, strOfNums] <;> rfl
  | cons x l =>
    obtain ⟨ad, rfl, h0⟩ := byt_at h 0 (by simp)
    obtain ⟨ab, ao, spot⟩ := ad
    have hspot : spot = none := by simpa [Addr.add] using World.cell?_spot h0
    subst hspot
    exact run_convert_bytes_arg w 23 5 Try.underlying23 Try.underlying5 ab ao _ c (x :: l) rfl (fun i hi => by
      obtain ⟨ad2, e2, hc2⟩ := byt_at h i hi
      cases e2
      have hp : (⟨ab, ao, none⟩ : Addr).add i = ⟨ab, ao + i, none⟩ := by unfold Addr.add; split <;> simp_all
      rw [hp] at hc2
      rw [hc2, List.getD_eq_getElem?_getD, List.getElem?_eq_getElem hi]
      rfl) 9 Try.underlying9
attribute [local go_sem high] eqItm eqTld

set_option maxRecDepth 100000 in
set_option maxHeartbeats 12800000 in
theorem merges_walk (A B : Option Addr) (c d : Nat) (a : List Itm) (b : List Int) (w : World) (ha : GR.Rd itmK w A a) (hb : GR.Rd bytK w B b) (hn : ∀ y ∈ b, 0 ≤ y ∧ y ≤ 255) (la : a.length ≤ 1048576) (lb : b.length ≤ 1048576) :
    Calls Try.prog 3 #[.slice A a.length c, .slice B b.length d] w fun e w' => e = .returned (.bool true) ∧ Below w.heap.size w w' := by
  obtain ⟨i0, hi0, hz0, hz1, hz2⟩ := info_parts' itm_info
  obtain ⟨j0, hj0, hy0, hy1, hy2⟩ := info_parts' byt_info
  have HA := Lib.hid ha
  have HB := Lib.hid hb
  have HN := Lib.hid hn
  have ql := mrg_len a b
  clear ha hb hn
  go_enter Try.func3, Try.ntmps3
  go_wp2_with (first | (at_builtin; refine GR.app_twin (K := itmK) rfl (.tmp 13) (.tmp 14) _ rfl Try.underlying22 hi0 hz0 hz1 hz2 rfl rfl A a.length c a rfl rfl HA.out (by show a.length * 24 ≤ _; omega) ?_; intro v1 w1 o1 b1; obtain ⟨X, cx, rfl, _, r1⟩ := o1.rd' (by show a.length * 24 ≤ _; omega); have R1 := Lib.hid r1; have B1 := Lib.hid b1; clear o1 b1 r1) | (at_builtin; refine GR.app_twin (K := bytK) rfl (.tmp 16) (.tmp 17) _ rfl Try.underlying23 hj0 hy0 hy1 hy2 rfl rfl B b.length d b rfl rfl (HB.out.below B1.out) (by show b.length * 1 ≤ _; omega) ?_; intro v2 w2 o2 b2; obtain ⟨Y, cy, rfl, _, r2⟩ := o2.rd' (by show b.length * 1 ≤ _; omega); have R2 := Lib.hid r2; have B2 := Lib.hid b2; clear o2 b2 r2))
  have BL := Lib.hid (bl_then B1.out B2.out)
  refine (merged_any A B c d a b _ (HA.out.below BL.out) (HB.out.below BL.out) HN.out la lb).mono ?_
  rintro e w3 ⟨v3, rfl, o3, b3⟩
  obtain ⟨Z, cz, rfl, _, r3⟩ := o3.rd' (by show (mrg a b).length * 56 ≤ _; omega)
  have R3 := Lib.hid r3
  have BL3 := Lib.hid (bl_then BL.out b3)
  have RX := Lib.hid ((R1.out.below B2.out).below b3)
  have RY := Lib.hid (R2.out.below b3)
  have RA := Lib.hid (HA.out.below BL3.out)
  clear o3 b3 r3 R1 R2 B1 B2 BL
  go_wp2_with fail
  refine (mergeM_any (w3.alloc (.cells #[.slice Z (mrg a b).length cz] 24)) X Y Z cx cy (w3.heap.size + 1) w3.heap.size (w3.heap.size + 2) (mrg a b).length cz a b _ (RX.out.alloc _) (RY.out.alloc _) HN.out (((Below.refl _ _).alloc (Nat.le_refl _) _).alloc (by simp) _) (by simp) (GR.Blk.new _ _ _) rfl (GR.Blk.alloc (by have h9 := GR.Blk.new (w3.alloc (.cells #[.slice Z (mrg a b).length cz] 24)) 24 #[.slice none 0 0]; simp at h9; exact h9) _) (by have h9 := GR.Blk.new ((w3.alloc (.cells #[.slice Z (mrg a b).length cz] 24)).alloc (.cells #[.slice none 0 0] 24)) 4 #[.bool true]; simp at h9; exact h9) la lb).mono ?_
  rintro e w7 ⟨rfl, ⟨v7, g7, o7⟩, r7, b7⟩
  obtain ⟨G, cg, rfl, _, rg⟩ := o7.rd' (by show (mrg a b).length * 56 ≤ _; omega)
  have RG := Lib.hid rg
  have RZ := Lib.hid ((R3.out.alloc (.cells #[.slice Z (mrg a b).length cz] 24)).below b7)
  have RX7 := Lib.hid ((RX.out.alloc (.cells #[.slice Z (mrg a b).length cz] 24)).below b7)
  have RY7 := Lib.hid ((RY.out.alloc (.cells #[.slice Z (mrg a b).length cz] 24)).below b7)
  have BL7 := Lib.hid (bl_then (bl_alloc BL3.out (.cells #[.slice Z (mrg a b).length cz] 24)) b7)
  have RA7 := Lib.hid (HA.out.below BL7.out)
  have RB7 := Lib.hid (HB.out.below BL7.out)
  have GW := (GR.Blk.new w3 24 #[.slice Z (mrg a b).length cz]).below b7 (by simp)
  have cg0 : w7.cell? ⟨w3.heap.size + 1, 0, none⟩ = some (.slice G (mrg a b).length cg) := g7.cell 0
  have cw0 : w7.cell? ⟨w3.heap.size, 0, none⟩ = some (.slice Z (mrg a b).length cz) := GW.cell 0
  have cr0 : w7.cell? ⟨w3.heap.size + 2, 0, none⟩ = some (.bool true) := r7.cell 0
  have lg := g7.lt
  have lw := GW.lt
  have CG := Lib.hid cg0
  have CW := Lib.hid cw0
  clear rg o7 g7 r7 b7 R3 RX RY RA BL3 GW
  go_wp2
  go_loopw [10] (fun i w' => ∃ k : Nat, k ≤ (mrg a b).length ∧ i = .int .i64 k ∧ Hid (Drawn w7 w')) (fun i _ => (mrg a b).length - (intOf i).toNat)
  case atStart => exact ⟨0, Nat.zero_le _, rfl, Lib.hid (Drawn.refl w7)⟩
  case round =>
    obtain ⟨k, hk, rfl, hw⟩ := hrel
    have e0 := ((hw.out.below w7.heap.size).cell lg).trans CG.out
    have e1 := ((hw.out.below w7.heap.size).cell lw).trans CW.out
    by_cases hlt : k < (mrg a b).length
    · have i1 : (0 : Int) ≤ (k : Int) := by omega
      have i2 : (k : Int) < ((mrg a b).length : Int) := by omega
      obtain ⟨ad, rfl, c0, c1, c2, c3, c4⟩ := tld_at (RG.out.below (hw.out.below w7.heap.size)) k hlt
      obtain ⟨bd, rfl, d0, d1, d2, d3, d4⟩ := tld_at (RZ.out.below (hw.out.below w7.heap.size)) k hlt
      go_wp2
      go_quiet (fail)
      go_wp2
      go_roundw
      case rel => exact ⟨k + 1, by omega, by go_num, Lib.hid (hw.out.drewN _)⟩
      case measure => simp [intOf]; omega
    · have i1 : decide ((k : Int) < ((mrg a b).length : Int)) = false := by simp; omega
      have i2 : decide (k < (mrg a b).length) = false := by simp; omega
      go_wp2
      go_loopw [11] (fun i w' => ∃ k : Nat, k ≤ a.length ∧ i = .int .i64 k ∧ Hid (Drawn w7 w')) (fun i _ => a.length - (intOf i).toNat)
      case atStart => exact ⟨0, Nat.zero_le _, rfl, hw⟩
      case round =>
        obtain ⟨m, hm, rfl, hw2⟩ := hrel
        by_cases hlt2 : m < a.length
        · have i3 : (0 : Int) ≤ (m : Int) := by omega
          have i4 : (m : Int) < (a.length : Int) := by omega
          obtain ⟨ad, rfl, c0, c1⟩ := itm_at (RX7.out.below (hw2.out.below w7.heap.size)) m hlt2
          obtain ⟨bd, rfl, d0, d1⟩ := itm_at (RA7.out.below (hw2.out.below w7.heap.size)) m hlt2
          go_wp2
          go_quiet (fail)
          go_wp2
          go_roundw
          case rel => exact ⟨m + 1, by omega, by go_num, Lib.hid (hw2.out.drewN _)⟩
          case measure => simp [intOf]; omega
        · have i3 : decide ((m : Int) < (a.length : Int)) = false := by simp; omega
          have i4 : decide (m < a.length) = false := by simp; omega
          have k1 := byt_str ((RY7.out.below (hw2.out.below w7.heap.size)).alloc (.cells #[.int .i64 0] 3)) cy
          have k2 := byt_str ((RB7.out.below (hw2.out.below w7.heap.size)).alloc (.cells #[.int .i64 0] 3)) d
          go_wp2_with fail
          refine (mergeL_any _ _ _ _ _).mono ?_
          rintro e w8 ⟨rfl, rfl⟩
          go_wp2_with fail
          refine (mergeR_any _ _ _ _ _ _ _).mono ?_
          rintro e w8 ⟨rfl, rfl⟩
          go_wp2_with fail
          refine (mergeE_any _ _ _ _ _ _ _ _ _).mono ?_
          rintro e w8 ⟨rfl, rfl⟩
          go_wp2
          go_ret
          exact ⟨rfl, bl_alloc (bl_drawn BL7.out hw2.out) _⟩
end Go.Proofs.Ytejodabmddcanaa
