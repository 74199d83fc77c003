/- DERIVED. The statements' own helpers: lent, kept. -/
import Derived.Test.YtejodabmddcanaaSegLent
namespace Go.Proofs.Ytejodabmddcanaa
open Go.RowKit
attribute [local go_sem high] eq53

set_option maxRecDepth 100000 in
set_option maxHeartbeats 1600000 in
theorem lent_any (A : Option Addr) (c : Nat) (l : List Ent) (w : World) (hr : Rd w A l) (hl : l.length ≤ 4398046510976) :
    Calls Try.prog 22 #[.slice A l.length c] w fun e w' => ∃ g cap : Nat, e = .returned (.slice (some ⟨g, 0, none⟩) l.length cap) ∧ l.length ≤ cap ∧
      Own w' w.heap.size (.slice (some ⟨g, 0, none⟩) (l.length + 70) cap) (l ++ marks 70) ∧ Below w.heap.size w w' := by
  obtain ⟨i0, hi0, hz0, hz1, hz2⟩ := info_parts entry_info
  have HR := Lib.hid hr
  have HO := Lib.hid (Own.nil w w.heap.size)
  have HB := Lib.hid (Below.refl w.heap.size w)
  clear hr
  go_enter Try.func22, Try.ntmps22
  go_wp2_with (at_builtin; refine app_ents rfl (.tmp 5) (.tmp 6) _ rfl Try.underlying37 hi0 hz0 hz1 hz2 rfl w.heap.size (.slice none 0 0) [] rfl HO.out A l.length c l rfl rfl HR.out (by simp; omega) (Nat.le_refl _) ?_; intro v1 w1 ho hg hat; have HO1 := Lib.hid ho; have HB1 := Lib.hid (bl_of_grown HB.out hg (by simp [Value.ownBlock])); clear ho hg hat)
  go_loopw [3, 4] (fun v0 i w' => ∃ (v : Value) (k : Nat), v = v0 ∧ k ≤ 70 ∧ i = .int .i64 k ∧ Hid (Own w' w.heap.size v (l ++ marks k)) ∧ Hid (Below w.heap.size w w')) (fun _ i _ => 70 - (intOf i).toNat)
  case atStart => exact ⟨_, 0, rfl, by omega, rfl, Lib.hid (by simpa [marks] using HO1.out), HB1⟩
  case round =>
    obtain ⟨v, k, rfl, hk, rfl, ho, hb⟩ := hrel
    by_cases hlt : k < 70
    · go_wp2_with (first
        | (go_at_call 54; refine (mark_any k hlt _).mono ?_; rintro e w2 ⟨rfl, hb2⟩; have HB2 := Lib.hid (bl_then hb.out hb2); have HO2 := Lib.hid (ho.out.below hb2); clear hb2)
        | (at_builtin; refine app_one rfl (.tmp 12) (.tmp 15) _ rfl Try.underlying37 hi0 hz0 hz1 hz2 rfl w.heap.size _ (l ++ marks k) (markE k) rfl HO2.out rfl (by rw [List.length_append, marks_length]; omega) HB2.out.size ?_; intro v3 w3 ho3 hg3 hat3; have HO3 := Lib.hid ho3; have HB3 := Lib.hid (bl_of_grown HB2.out hg3 (fun b hb => (HO2.out.lt b hb).1)); clear ho3 hg3 hat3))
      go_roundw
      case rel => exact ⟨_, k + 1, rfl, by omega, by go_num, Lib.hid (by rw [marks_succ, ← List.append_assoc]; exact HO3.out), HB3⟩
      case measure => simp [intOf]; omega
    · obtain rfl : k = 70 := by omega
      obtain ⟨g, cap, rfl, hcap⟩ : ∃ g cap : Nat, v = .slice (some ⟨g, 0, none⟩) (l.length + 70) cap ∧ l.length + 70 ≤ cap ∧ cap ≤ 9223372036854775807 := by
        rcases ho.out.2 with ⟨_, h0⟩ | ⟨g, cap, cur, hv, _, _, h1, h2, _⟩
        · simp [marks_length] at h0
        · simp only [List.length_append, marks_length] at hv h1
          exact ⟨g, cap, hv, h1, h2⟩
      have h1 : l.length ≤ cap := by omega
      have h2 : (l.length : Int) ≤ (cap : Int) := by omega
      go_wp2
      go_ret
      exact ⟨g, cap, rfl, h1, ho.out, hb.out⟩

set_option maxRecDepth 100000 in
set_option maxHeartbeats 1600000 in
theorem kept_any (g cap : Nat) (B0 : Nat) (A : Option Addr) (c : Nat) (l : List Ent) (w : World) (hr : Rd w A l) (hl : l.length ≤ 4398046510976)
    (ho : Own w B0 (.slice (some ⟨g, 0, none⟩) (l.length + 70) cap) (l ++ marks 70)) :
    Calls Try.prog 25 #[.slice (some ⟨g, 0, none⟩) l.length cap, .slice A l.length c] w fun e w' => e = .returned (.bool true) ∧ Below w.heap.size w w' := by
  have hcap : l.length + 70 ≤ cap ∧ cap ≤ 9223372036854775807 := by
    rcases ho.2 with ⟨hv, _⟩ | ⟨g', cap', cur, hv, _, _, h1, h2, _⟩
    · cases hv
    · injection hv with e1 e2 e3
      subst e3
      simp only [List.length_append, marks_length] at h1
      exact ⟨h1, h2⟩
  have hcap1 : (l.length : Int) + 70 ≤ (cap : Int) := by omega
  have hcap2 : l.length + 70 ≤ cap := hcap.1
  have hcap3 : cap ≤ 9223372036854775807 := hcap.2
  clear hcap
  have HR := Lib.hid hr
  have HO := Lib.hid ho
  clear hr ho
  go_enter Try.func25, Try.ntmps25
  go_wp2
  go_loopw [6] (fun i w' => ∃ k : Nat, k ≤ 70 ∧ i = .int .i64 k ∧ Hid (Below w.heap.size w w')) (fun i _ => 70 - (intOf i).toNat)
  case atStart => exact ⟨0, by omega, rfl, Lib.hid (Below.refl _ _)⟩
  case round =>
    obtain ⟨k, hk, rfl, hb⟩ := hrel
    by_cases hlt : k < 70
    · have hO := HO.out.below hb.out
      have hgt := (hO.lt g rfl).2
      have hat := ((hO.rd (by simp [marks_length]; omega)).2).at_ (l.length + k) (by simp [marks_length]; omega)
      obtain ⟨ad, e0, c0, c1⟩ := hat
      cases e0
      have em : (l ++ marks 70)[l.length + k]'(by simp [marks_length]; omega) = markE k := by simp [marks]
      rw [em] at c0 c1
      have q0 : ((markE k).key.toList == (markE k).key.toList) = true := by simp
      have q1 : ((markE k).sum.toList == (markE k).sum.toList) = true := by simp
      have i0 : (0 : Int) ≤ (l.length : Int) + (k : Int) := by omega
      have i1 : (l.length : Int) + (k : Int) < (l.length : Int) + 70 := by omega
      have e1 : IntKind.i64.wrap ((l.length : Int) + (k : Int)) = (l.length : Int) + (k : Int) := IntWalk.i64_in _ (by omega)
      have tn : ((l.length : Int) + (k : Int)).toNat = l.length + k := by omega
      clear hO em
      rw [add_plain] at c0 c1
      go_wp2
      go_region_held3 (fun w' => w'.cell? ⟨g, (l.length + k) * 2, none⟩ = some (.string (markE k).key) ∧ w'.cell? ⟨g, (l.length + k) * 2 + 1, none⟩ = some (.string (markE k).sum)) (first | go_keep | (exact ⟨(hb2.cell (p := ⟨g, (l.length + k) * 2, none⟩) (by simpa using hgt)).trans (by assumption), (hb2.cell (p := ⟨g, (l.length + k) * 2 + 1, none⟩) (by simpa using hgt)).trans (by assumption)⟩)) ((go_at_call 54; refine (mark_any k hlt _).mono ?_; rintro e w2 ⟨rfl, hb2⟩))
      go_wp2
      go_roundw
      case rel => exact ⟨k + 1, by omega, by go_num, Lib.hid (bl_then (w := w) (by repeat (first | exact hb.out | refine bl_drewN ?_ _ | refine bl_drew ?_ | refine bl_alloc ?_ _)) hb2)⟩
      case measure => simp [intOf]; omega
    · have hO := HO.out.below hb.out
      have hT := ((hO.take).rd (by omega)).2
      have HT := Lib.hid hT
      have HR2 := Lib.hid (HR.out.below hb.out)
      clear hO hT
      go_wp2_with (go_at_call 27; refine (same_any _ _ _ _ l l _ HT.out HR2.out).mono ?_; rintro e w2 ⟨rfl, hd⟩; have HD := Lib.hid hd; clear hd)
      go_ret
      exact ⟨ret_bool (by simp), bl_drawn hb.out HD.out⟩

/-- slices.Clone of entries: nil stays nil, else a row of its own. -/
theorem clone_any (A : Option Addr) (c n : Nat) (l : List Ent) (w : World) (hr : Rd w A l) (hn : n = l.length) (hz : A = none → n = 0 ∧ c = 0) :
    Calls Try.prog 57 #[.slice A n c] w fun e w' => ∃ v, e = .returned v ∧ Own w' w.heap.size v l ∧ Below w.heap.size w w' := by
  obtain ⟨i0, hi0, hz0, hz1, hz2⟩ := info_parts entry_info
  subst hn
  have hm := hr.max
  have HR := Lib.hid hr
  clear hr
  rcases A with _ | ad
  · obtain ⟨h0, rfl⟩ := hz rfl
    obtain rfl := List.eq_nil_of_length_eq_zero h0
    clear hz h0
    show Calls Try.prog 57 #[.slice none 0 0] w _
    have hne : ∀ u : World, (binOp .eql 37 (.slice none 0 0) (.slice none 0 0)).run Try.prog u = .ok (.bool true) u := fun u => Lib.run_eql_slice_nil u 37 53 none 0 0 0 0 Try.underlying37
    go_enter Try.func57, Try.ntmps57
    go_wp2
    go_ret
    exact ⟨_, rfl, Own.nil _ _, Below.refl _ _⟩
  · clear hz
    have hne : ∀ u : World, (binOp .eql 37 (.slice (some ad) l.length c) (.slice none 0 0)).run Try.prog u = .ok (.bool false) u := fun u => Lib.run_eql_slice_nil u 37 53 (some ad) l.length c 0 0 Try.underlying37
    have HB := Lib.hid (bl_alloc (Below.refl w.heap.size w) (.cells #[] 53))
    have HO := Lib.hid (Own.lit0 w w.heap.size (Nat.le_refl _))
    have HR2 := Lib.hid (HR.out.alloc (.cells #[] 53))
    go_enter Try.func57, Try.ntmps57
    go_wp2_with (at_builtin; refine app_ents rfl (.tmp 5) (.tmp 6) _ rfl Try.underlying37 hi0 hz0 hz1 hz2 rfl w.heap.size _ [] rfl HO.out (some ad) l.length c l rfl rfl HR2.out (by simp; omega) (by simp) ?_; intro v1 w1 ho hg hat; have HO1 := Lib.hid ho; have HB1 := Lib.hid (bl_of_grown HB.out hg (fun b hb => (HO.out.lt b hb).1)); clear ho hg hat)
    go_ret
    exact ⟨_, rfl, by simpa using HO1.out, HB1.out⟩
end Go.Proofs.Ytejodabmddcanaa
