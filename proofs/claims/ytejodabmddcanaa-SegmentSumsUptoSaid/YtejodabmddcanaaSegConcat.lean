/- DERIVED. slices.Grow of nil and slices.Concat, of entries. -/
import Derived.Test.YtejodabmddcanaaSegLent2
import Derived.Test.YtejodabmddcanaaWZeros
import Derived.Lib.AppendZeros
namespace Go.Proofs.Ytejodabmddcanaa
open Go.RowKit

theorem zero_one (m : Nat) : ∀ u ∈ (Builtin.zeroCells (Value.agg #[.string ⟨#[]⟩, .string ⟨#[]⟩]).cells m).toList, u.oneCell' = true := by
  intro u hu
  simp only [Builtin.zeroCells, Array.toList_map, List.mem_map] at hu
  obtain ⟨i, _, rfl⟩ := hu
  have : i % (Value.agg #[.string ⟨#[]⟩, .string ⟨#[]⟩]).cells.size = 0 ∨ i % (Value.agg #[.string ⟨#[]⟩, .string ⟨#[]⟩]).cells.size = 1 := by
    have e : (Value.agg #[.string ⟨#[]⟩, .string ⟨#[]⟩]).cells.size = 2 := rfl
    rw [e]; omega
  rcases this with h | h <;> rw [h] <;> rfl
theorem own_cut0 {w : World} {B n : Nat} {v : Value} {xs : List Value} (hn : 0 < n) (h : w.ownsRow B 53 2 v n xs) : ∃ g cap : Nat, v = .slice (some ⟨g, 0, none⟩) n cap ∧ Own w B (.slice (some ⟨g, 0, none⟩) 0 cap) [] := by
  rcases h.2 with ⟨_, h0⟩ | ⟨g, cap, cur, hv, hb, hh, h1, h2, h3, _⟩
  · omega
  · exact ⟨g, cap, hv, by simp [ents], .inr ⟨g, cap, cur, rfl, hb, hh, Nat.zero_le _, h2, h3, by simp [ents]⟩⟩

set_option maxRecDepth 100000 in
set_option maxHeartbeats 1600000 in
theorem grow_any (n : Nat) (hn : n ≤ 4398046511104) (w : World) :
    Calls Try.prog 86 #[.slice none 0 0, .int .i64 n] w fun e w' => ∃ v, e = .returned v ∧ Own w' w.heap.size v [] ∧ Below w.heap.size w w' := by
  obtain ⟨i0, hi0, hz0, hz1, hz2⟩ := info_parts entry_info
  rcases Nat.eq_zero_or_pos n with h0 | h0
  · subst h0
    go_enter Try.func86, Try.ntmps86
    go_wp2
    go_ret
    exact ⟨_, rfl, Own.nil _ _, Below.refl _ _⟩
  · obtain ⟨v1, w1, hrun, ho, hg, hat⟩ := Go.Proofs.YtejodabmddcanaaW.PrintWords.run_append_zeros (P := Try.prog) w w.heap.size 37 3 37 53 i0 _ 2 32 Try.underlying37 Try.underlying3 hi0 hz0 hz1 hz2 rfl (by omega) (by omega)
      (.slice none 0 0) 0 [] ⟨by simp, .inl ⟨rfl, rfl⟩⟩ .i64 n (zero_one n) (by omega) (Nat.le_refl _)
    obtain ⟨g, cap, rfl, ho0⟩ := own_cut0 (by omega) ho
    have HO := Lib.hid ho0
    have HB := Lib.hid (bl_of_grown (Below.refl w.heap.size w) hg (by simp [Value.ownBlock]))
    have hh := Lib.hid hrun
    clear ho0 hg hat ho hrun
    have i1 : (0 : Int) < (n : Int) := by omega
    go_enter Try.func86, Try.ntmps86
    go_wp2_with (at_builtin; refine Lib.wpList_append_run _ rfl (.tmp 20) (.tmp 21) _ _ rfl _ _ rfl rfl _ _ hh.out ?_)
    go_ret
    exact ⟨_, rfl, HO.out, HB.out⟩

/-- The parts that are joined: address, capacity, entries. -/
def lenTo (ps : List (Option Addr × Nat × List Ent)) (k : Nat) : Nat := ((ps.take k).map fun p => p.2.2.length).sum
def allTo (ps : List (Option Addr × Nat × List Ent)) (k : Nat) : List Ent := (ps.take k).flatMap fun p => p.2.2
theorem lenTo_succ {ps : List (Option Addr × Nat × List Ent)} {k : Nat} {p : Option Addr × Nat × List Ent} (h : ps[k]? = some p) : lenTo ps (k + 1) = lenTo ps k + p.2.2.length := by
  have hk := (List.getElem?_eq_some_iff.1 h).1
  unfold lenTo
  rw [List.take_succ_eq_append_getElem hk, List.map_append, List.sum_append]
  simp [(List.getElem?_eq_some_iff.1 h).2]
theorem allTo_succ {ps : List (Option Addr × Nat × List Ent)} {k : Nat} {p : Option Addr × Nat × List Ent} (h : ps[k]? = some p) : allTo ps (k + 1) = allTo ps k ++ p.2.2 := by
  have hk := (List.getElem?_eq_some_iff.1 h).1
  unfold allTo
  rw [List.take_succ_eq_append_getElem hk, List.flatMap_append]
  simp [(List.getElem?_eq_some_iff.1 h).2]
theorem allTo_len (ps : List (Option Addr × Nat × List Ent)) (k : Nat) : (allTo ps k).length = lenTo ps k := by
  unfold allTo lenTo
  rw [List.length_flatMap]
theorem lenTo_mono (ps : List (Option Addr × Nat × List Ent)) (k : Nat) : lenTo ps k ≤ lenTo ps ps.length := by
  unfold lenTo
  rw [List.take_length]
  have := List.take_append_drop k ps
  conv => rhs; rw [← this]
  rw [List.map_append, List.sum_append]
  omega

set_option maxRecDepth 100000 in
set_option maxHeartbeats 3200000 in
theorem concat_any (b : Nat) (ps : List (Option Addr × Nat × List Ent)) (w : World) (hlen : ps.length ≤ 1000) (hsum : lenTo ps ps.length ≤ 4398046511104)
    (hp : ∀ j p, ps[j]? = some p → w.cell? ⟨b, j, none⟩ = some (.slice p.1 p.2.2.length p.2.1) ∧ Rd w p.1 p.2.2) :
    Calls Try.prog 62 #[.slice (some ⟨b, 0, none⟩) ps.length ps.length] w fun e w' => ∃ v, e = .returned v ∧ Own w' w.heap.size v (allTo ps ps.length) ∧ Below w.heap.size w w' := by
  obtain ⟨i0, hi0, hz0, hz1, hz2⟩ := info_parts entry_info
  have HP := Lib.hid hp
  clear hp
  go_enter Try.func62, Try.ntmps62
  go_wp2
  go_loopw [3, 11] (fun s i w' => ∃ k : Nat, k ≤ ps.length ∧ i = .int .i64 k ∧ s = .int .i64 (lenTo ps k) ∧ w = w') (fun _ i _ => ps.length - (intOf i).toNat)
  case atStart => exact ⟨0, Nat.zero_le _, rfl, rfl, rfl⟩
  case round =>
    obtain ⟨k, hk, rfl, rfl, rfl⟩ := hrel
    have hm := lenTo_mono ps k
    by_cases hlt : k < ps.length
    · have i1 : (0 : Int) ≤ (k : Int) := by omega
      have i2 : (k : Int) < (ps.length : Int) := by omega
      have hpk := HP.out k _ (List.getElem?_eq_getElem hlt)
      have hs := lenTo_succ (List.getElem?_eq_getElem hlt)
      have hm2 := lenTo_mono ps (k + 1)
      have HS := Lib.hid hs
      have c0 := hpk.1
      have hmk : lenTo ps k + (ps[k]).2.2.length ≤ 4398046511104 := by omega
      clear hs hpk hm2
      go_wp2
      go_roundw
      case rel => exact ⟨k + 1, by omega, by go_num, by rw [HS.out]; go_num, (by first | rfl | trivial)⟩
      case measure => simp [intOf]; omega
    · obtain rfl : k = ps.length := by omega
      go_wp2_with (go_at_call 86; refine (grow_any _ hsum _).mono ?_; rintro e w1 ⟨v1, rfl, ho1, hb1⟩; have HO1 := Lib.hid ho1; have HB1 := Lib.hid hb1; clear ho1 hb1)
      go_loopw [6, 27] (fun v0 i w' => ∃ (v : Value) (k : Nat), v = v0 ∧ k ≤ ps.length ∧ i = .int .i64 k ∧ Hid (Own w' w.heap.size v (allTo ps k)) ∧ Hid (Below w.heap.size w w')) (fun _ i _ => ps.length - (intOf i).toNat)
      case atStart => exact ⟨_, 0, rfl, Nat.zero_le _, rfl, Lib.hid (by simpa [allTo] using HO1.out), HB1⟩
      case round =>
        obtain ⟨v, k, rfl, hk, rfl, ho, hb⟩ := hrel
        by_cases hlt : k < ps.length
        · have i1 : (0 : Int) ≤ (k : Int) := by omega
          have i2 : (k : Int) < (ps.length : Int) := by omega
          have hpk := HP.out k _ (List.getElem?_eq_getElem hlt)
          have c0 := (hb.out.cell (World.block_lt_of_cell? w _ hpk.1)).trans hpk.1
          have RK := Lib.hid (hpk.2.below hb.out)
          have HS := Lib.hid (allTo_succ (List.getElem?_eq_getElem hlt))
          have hs := lenTo_succ (List.getElem?_eq_getElem hlt)
          have hm2 := lenTo_mono ps (k + 1)
          have hmk : (allTo ps k).length + (ps[k]).2.2.length ≤ 4398046511104 := by rw [allTo_len]; omega
          clear hpk hs hm2
          go_wp2_with (at_builtin; refine app_ents rfl (.tmp 31) (.tmp 32) _ rfl Try.underlying37 hi0 hz0 hz1 hz2 rfl w.heap.size _ (allTo ps k) rfl ho.out _ _ _ (ps[k]).2.2 rfl rfl RK.out hmk hb.out.size ?_; intro v3 w3 ho3 hg3 hat3; have HO3 := Lib.hid ho3; have HB3 := Lib.hid (bl_of_grown hb.out hg3 (fun b hb => (ho.out.lt b hb).1)); clear ho3 hg3 hat3)
          go_roundw
          case rel => exact ⟨_, k + 1, rfl, by omega, by go_num, Lib.hid (by rw [HS.out]; exact HO3.out), HB3⟩
          case measure => simp [intOf]; omega
        · obtain rfl : k = ps.length := by omega
          go_wp2
          go_ret
          exact ⟨_, rfl, ho.out, hb.out⟩

/-- Two slices joined: the list of them lies in a block of its own. -/
theorem concat2 (W : World) (A0 A1 : Option Addr) (n0 n1 c0 c1 H : Nat) (l0 l1 : List Ent) (hH : W.heap.size = H) (e0 : n0 = l0.length) (e1 : n1 = l1.length) (r0 : Rd W A0 l0) (r1 : Rd W A1 l1) (hs : l0.length + l1.length ≤ 4398046511104) :
    Calls Try.prog 62 #[.slice (some ⟨H, 0, none⟩) 2 2] (W.alloc (.cells #[.slice A0 n0 c0, .slice A1 n1 c1] 37)) fun e w' => ∃ v, e = .returned v ∧ Own w' H v (l0 ++ l1) ∧ Below W.heap.size W w' := by
  subst hH e0 e1
  refine (concat_any W.heap.size [(A0, c0, l0), (A1, c1, l1)] _ (by simp) (by simpa [lenTo] using hs) (fun j p hp => ?_)).mono fun e w' ⟨v, he, ho, hb⟩ => ⟨v, he, ?_, ?_⟩
  · have hc : ∀ i, (W.alloc (.cells #[.slice A0 l0.length c0, .slice A1 l1.length c1] 37)).cell? ⟨W.heap.size, i, none⟩ = #[Value.slice A0 l0.length c0, .slice A1 l1.length c1][i]? := fun i => cell_of_row _ _ i _ 37 (0, 0) (heap_alloc_new W _)
    match j, hp with
    | 0, hp => cases hp; exact ⟨by rw [hc]; rfl, r0.alloc _⟩
    | 1, hp => cases hp; exact ⟨by rw [hc]; rfl, r1.alloc _⟩
    | j + 2, hp => simp at hp
  · have : allTo [(A0, c0, l0), (A1, c1, l1)] 2 = l0 ++ l1 := by simp [allTo]
    rw [← this]
    exact ho.base (by simp)
  · exact bl_then ((Below.refl _ _).alloc (Nat.le_refl _) _) hb
/-- Three. -/
theorem concat3 (W : World) (A0 A1 A2 : Option Addr) (n0 n1 n2 c0 c1 c2 H : Nat) (l0 l1 l2 : List Ent) (hH : W.heap.size = H) (e0 : n0 = l0.length) (e1 : n1 = l1.length) (e2 : n2 = l2.length) (r0 : Rd W A0 l0) (r1 : Rd W A1 l1) (r2 : Rd W A2 l2) (hs : l0.length + (l1.length + l2.length) ≤ 4398046511104) :
    Calls Try.prog 62 #[.slice (some ⟨H, 0, none⟩) 3 3] (W.alloc (.cells #[.slice A0 n0 c0, .slice A1 n1 c1, .slice A2 n2 c2] 37)) fun e w' => ∃ v, e = .returned v ∧ Own w' H v (l0 ++ (l1 ++ l2)) ∧ Below W.heap.size W w' := by
  subst hH e0 e1 e2
  refine (concat_any W.heap.size [(A0, c0, l0), (A1, c1, l1), (A2, c2, l2)] _ (by simp) (by simpa [lenTo] using hs) (fun j p hp => ?_)).mono fun e w' ⟨v, he, ho, hb⟩ => ⟨v, he, ?_, ?_⟩
  · have hc : ∀ i, (W.alloc (.cells #[.slice A0 l0.length c0, .slice A1 l1.length c1, .slice A2 l2.length c2] 37)).cell? ⟨W.heap.size, i, none⟩ = #[Value.slice A0 l0.length c0, .slice A1 l1.length c1, .slice A2 l2.length c2][i]? := fun i => cell_of_row _ _ i _ 37 (0, 0) (heap_alloc_new W _)
    match j, hp with
    | 0, hp => cases hp; exact ⟨by rw [hc]; rfl, r0.alloc _⟩
    | 1, hp => cases hp; exact ⟨by rw [hc]; rfl, r1.alloc _⟩
    | 2, hp => cases hp; exact ⟨by rw [hc]; rfl, r2.alloc _⟩
    | j + 3, hp => simp at hp
  · have : allTo [(A0, c0, l0), (A1, c1, l1), (A2, c2, l2)] 3 = l0 ++ (l1 ++ l2) := by simp [allTo]
    rw [← this]
    exact ho.base (by simp)
  · exact bl_then ((Below.refl _ _).alloc (Nat.le_refl _) _) hb
end Go.Proofs.Ytejodabmddcanaa
